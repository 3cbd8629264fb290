/- Part 1 of the proof: smallest agrees with the reference. -/
import Derived.RangeFuncKeeps
import Derived.RangeFuncCalls
import Derived.RangeFuncLeaves
import Derived.OrdersIn
import Derived.WalkKit
import Derived.Lib.SliceRun
import Derived.LoopNIn
import Derived.KernelRfl
import Derived.Laws.Closers25b
import Derived.Laws.Shifts
import Derived.ProofKit
import Derived.OpenShut
import Derived.ChangeOld
import Derived.Below
import Derived.SizedLaws
namespace Go.Fx
open Go Go.RowKit

/-! ### Frames as functions -/
structure EX where
  f:Nat→Value
  /-- the blocks of the calls that ranges over functions have put off: none of them holds one -/
  ds:List Nat
instance:CoeFun EX (fun _=>Nat→Value):=⟨EX.f⟩
theorem EX.ext' {ρ ρ':EX} (h:∀t,ρ t=ρ' t) (hd:ρ.ds=ρ'.ds):ρ=ρ':=by
  obtain⟨f,ds⟩:=ρ
  obtain⟨f',ds'⟩:=ρ'
  have:f=f':=funext h
  simp only at hd
  subst this hd;rfl
def Ls (ρ:EX) (d:Nat) (v:Value):EX:=⟨fun t=>if t=d then v else ρ t,ρ.ds⟩
def T2 (D:Nat):Deferred:={target:=.collected D,args:=#[]}
def KL (ρ:EX) (d:Option Nat) (v:Value):EX:=match d with |some d=>Ls ρ d v |none=>ρ
def ev (ρ:EX):Operand→Value
  |.tmp t=>ρ t
  |.const v=>v
  |.global g=>.pointer (some ⟨g,0,none⟩)
  |.func f=>.func (.func f) #[] #[]

theorem Lt (ρ:EX) (d:Nat) (v:Value):Ls ρ d v d=v:=by simp [Ls]
theorem HX (ρ:EX) (d:Nat) (v:Value) {t:Nat} (h:t≠d):Ls ρ d v t=ρ t:=by simp [Ls,h]

def FW (r:Option Nat):Fence:={fn:=fun _=>True,depth:=none,alive:=false,round:=r}
theorem T3:FW none=Fence.wide:=rfl
structure GR (n:Nat) (ρ:EX) (a:Act):Prop where
  size:a.tmps.size=n
  defers:a.defers=ρ.ds.map T2
  get:∀t,a.tmps.getD t undef=ρ t

theorem GR.eval {n:Nat} {ρ:EX} {a:Act} (h:GR n ρ a):a.eval=ev ρ:=by
  funext x
  cases x<;> simp [Act.eval,ev,h.get]

theorem GR.put {n:Nat} {ρ:EX} {a:Act} (h:GR n ρ a) {d:Option Nat} (hd:d.all (·<n)=true) (v:Value):GR n (KL ρ d v) (a.put d v):=by
  cases d with
  |none=>simpa [Act.put,KL] using h
  |some d=>
    have hd':d<a.tmps.size:=by have:=h.size;simp at hd;omega
    refine⟨by simp [Act.put,h.size],by simp [Act.put,h.defers,KL,Ls],fun t=>?_⟩
    simp only [Act.put,KL,Ls]
    by_cases ht:t=d
    · subst ht;simp [hd']
    · rw [if_neg ht, ← h.get t]
      simp [Array.getD_eq_getD_getElem?,Ne.symm ht]

theorem GR.yielded {n:Nat} {ρ:EX} {a:Act} (h:GR n ρ a) (ops:Array Oper) (j:Nat):
    yielded ops a.tmps j=match (ops[j]?).bind (·.dst) with |some d=>(match (ρ d:Value) with |.bool b=>some b |_=>none) |none=>none:=by
  unfold Go.yielded
  cases hd:(ops[j]?).bind (·.dst) with
  |none=>simp
  |some d=>
    simp only [Option.bind_some]
    have hg:=h.get d
    rw [Array.getD_eq_getD_getElem?] at hg
    cases he:a.tmps[d]? with
    |none=>rw [he] at hg;simp only [Option.getD_none] at hg;rw [← hg];rfl
    |some x=>rw [he] at hg;simp only [Option.getD_some] at hg;rw [hg];cases ρ d<;> rfl

/-! ### wp over such frames -/
variable {P : Program} {r : Option Nat} {n : Nat}

abbrev Iz:=Exit→EX→World→Prop
def N4 (n:Nat) (Q:Iz):Exit→Act→World→Prop:=fun e a w=>(∀c,e≠.panic c)∧∃ρ,GR n ρ a∧Q e ρ w

def Wp (P:Program) (r:Option Nat) (n:Nat) (c:Code) (Q:Iz) (ρ:EX) (w:World):Prop:=
  ∀a,GR n ρ a→c.wpIn (FW r) 0 P (N4 n Q) a w

def BQ (P:Program) (r:Option Nat) (ρ:EX) (w:World) (o:Oper) (V:Value→World→Prop):Prop:=
  match (Oper.semAt r (ev ρ) o).run P w with
  |.ok (.value v) w'=>V v w'
  |.ok .skip w'=>V undef w'
  |.ok (.enter f args) w'=>CallsIn (FW r) 0 P f args w' fun e w''=>∃v,e=.returned v∧V v w''
  |.ok (.round l f tmps assign body) w'=>RoundIn (FW r) 0 P l f tmps assign body w' fun e w''=>∃v,e=.returned v∧V v w''
  |_=>False

theorem BQ.mono {ρ:EX} {w:World} {o:Oper} {V V':Value→World→Prop} (h:BQ P r ρ w o V) (hV:∀v w',V v w'→V' v w'):BQ P r ρ w o V':=by
  unfold BQ at*
  split<;> rename_i hr<;> simp only [hr] at h
  · exact hV _ _ h
  · exact hV _ _ h
  · exact h.mono fun e w' ⟨v,he,hv⟩=>⟨v,he,hV _ _ hv⟩
  · exact h.mono fun e w' ⟨v,he,hv⟩=>⟨v,he,hV _ _ hv⟩

theorem BQ.wpIn {ρ:EX} {w:World} {o:Oper} {V:Value→World→Prop} {a:Act} {K:Act→World→Prop} {Q:Exit→Act→World→Prop} (ha:GR n ρ a)
    (h:BQ P r ρ w o V) (hK:∀v w',V v w'→K (a.put o.dst v) w'):o.wpIn (FW r) 0 P a w K Q:=by
  unfold BQ at h
  unfold Oper.wpIn
  rw [ha.eval]
  refine⟨fun f _=>trivial,?_⟩
  show o.uponIn (FW r) 0 P a K Q ((Oper.semAt r (ev ρ) o).run P w)
  revert h
  generalize (Oper.semAt r (ev ρ) o).run P w=res
  intro h
  cases res with
  |halt x w'=>simp at h
  |ok nx w'=>
    cases nx<;> simp only at h<;> simp only [Oper.uponIn]<;> try exact h.elim
    case value v=>exact hK _ _ h
    case skip=>exact hK _ _ h
    case enter f args=>
      refine⟨fun hd=>by simp [FW] at hd,h.mono fun e w'' ⟨v,he,hv⟩=>?_⟩
      subst he;exact hK _ _ hv
    case round l f tmps assign body=>
      refine⟨fun hd=>by simp [FW] at hd,h.mono fun e w'' ⟨v,he,hv⟩=>?_⟩
      subst he;exact hK _ _ hv

/-! ### Rules -/
variable {Q : Iz} {ρ : EX} {w : World}

def Pl (next:EX→World→Prop) (Q:Iz):Iz:=fun e ρ w=>match e with
  |.normal=>next ρ w
  |e=>Q e ρ w
def inB (id:Nat) (Q:Iz):Iz:=fun e ρ w=>match e with
  |.exit id'=>if id'=id then Q .normal ρ w else Q (.exit id') ρ w
  |e=>Q e ρ w

theorem Wp.mono {c:Code} {Q':Iz} (h:Wp P r n c Q ρ w) (hq:∀e ρ w,Q e ρ w→Q' e ρ w):Wp P r n c Q' ρ w:=
  fun a ha=>wpIn_mono (h a ha) fun _ _ _ ⟨hp,ρ',h1,h2⟩=>⟨hp,ρ',h1,hq _ _ _ h2⟩

theorem AH (h:Q .normal ρ w):Wp P r n .skip Q ρ w:=fun _ ha=>wpIn_skip ⟨(fun _ h=>by cases h),ρ,ha,h⟩
theorem Br {id:Nat} (h:Q (.exit id) ρ w):Wp P r n (.exit id) Q ρ w:=fun _ ha=>wpIn_exit ⟨(fun _ h=>by cases h),ρ,ha,h⟩
theorem AY (h:Q .ret ρ w):Wp P r n .ret Q ρ w:=fun _ ha=>wpIn_ret ⟨(fun _ h=>by cases h),ρ,ha,h⟩
theorem Ax {x y:Code} (h:Wp P r n x (Pl (Wp P r n y Q) Q) ρ w):Wp P r n (.seq x y) Q ρ w:=fun a ha=>
  wpIn_seq (wpIn_mono (h a ha) fun e a' w' ⟨hp,ρ',h1,h2⟩=>by
    cases e<;> first |exact h2 a' h1 |exact⟨hp,ρ',h1,h2⟩)
theorem AE {id:Nat} {c:Code} (h:Wp P r n c (inB id Q) ρ w):Wp P r n (.block id c) Q ρ w:=fun a ha=>
  wpIn_block (wpIn_mono (h a ha) fun e a' w' ⟨hp,ρ',h1,h2⟩=>by
    cases e with
    |exit id'=>
      simp only [Exit.inBlock]
      simp only [inB] at h2
      split<;> rename_i hid
      · rw [if_pos hid] at h2;exact⟨(fun _ h=>by cases h),ρ',h1,h2⟩
      · rw [if_neg hid] at h2;exact⟨(fun _ h=>by cases h),ρ',h1,h2⟩
    |_=>exact⟨hp,ρ',h1,h2⟩)
theorem OA {c:Operand} {x y:Code} {t:Bool} (hc:ev ρ c=.bool t) (ht:t=true→Wp P r n x Q ρ w) (hf:t=false→Wp P r n y Q ρ w):Wp P r n (.cond c x y) Q ρ w:=fun a ha=>
  wpIn_cond_split (t:=t) (by rw [ha.eval];exact hc) (fun h=>ht h a ha) (fun h=>hf h a ha)
theorem HY {c:Operand} {x y:Code} (hc:ev ρ c=.bool true) (h:Wp P r n x Q ρ w):Wp P r n (.cond c x y) Q ρ w:=OA hc (fun _=>h) (fun h=>by cases h)
theorem HB {c:Operand} {x y:Code} (hc:ev ρ c=.bool false) (h:Wp P r n y Q ρ w):Wp P r n (.cond c x y) Q ρ w:=OA hc (fun h=>by cases h) (fun _=>h)
section scope
variable {b : Frame} {a : Act} {k : List Item} {cs : List Frame}
end scope
/-! ### Regions in the order of the text -/
def Rg (P:Program) (r:Option Nat) (n:Nat) (ops:List Oper) (l:List Oper) (Q:Iz) (ρ:EX) (w:World):Prop:=
  ∀a,GR n ρ a→wpListIn (FW r) 0 P ops.toArray (N4 n Q) l a w

theorem Aw {id:Nat} {l:List Oper} (h:Rg P r n l l Q ρ w):Wp P r n (.region id l.toArray false) Q ρ w:=fun a ha=>wpIn_region_lit (h a ha)
variable {ops rest : List Oper} {o : Oper}
theorem Ay (h:Q .normal ρ w):Rg P r n ops [] Q ρ w:=fun _ ha=>⟨(fun _ h=>by cases h),ρ,ha,h⟩

def T4:Value→Option Bool
  |.bool b=>some b
  |_=>none
def Hr (ops:List Oper) (ρ:EX) (j:Nat):Option Bool:=match (ops[j]?).bind (·.dst) with
  |some d=>T4 (ρ d)
  |none=>none
theorem GR.yieldedE {a:Act} (h:GR n ρ a):Go.yielded ops.toArray a.tmps=Hr ops ρ:=by
  funext j
  rw [h.yielded]
  simp only [Fx.Hr,List.getElem?_toArray]
  cases (ops[j]?).bind (·.dst) with
  |none=>rfl
  |some d=>simp only [T4]

theorem OB (hw:Region.wanted o (Hr ops ρ)=true) (hd:o.dst.all (·<n)=true)
    (h:BQ P r ρ w o fun v w'=>Rg P r n ops rest Q (KL ρ o.dst v) w'):Rg P r n ops (o::rest) Q ρ w:=fun a ha=>by
  simp only [wpListIn,ha.yieldedE,hw,if_true]
  exact h.wpIn ha fun v w' hv=>hv _ (ha.put hd v)
theorem T5 (hw:Region.wanted o (Hr ops ρ)=false) (hd:o.dst.all (·<n)=true) (h:Rg P r n ops rest Q (KL ρ o.dst undef) w):Rg P r n ops (o::rest) Q ρ w:=fun a ha=>by
  simp only [wpListIn,ha.yieldedE,hw,Bool.false_eq_true,if_false]
  exact⟨fun _ _=>trivial,h _ (ha.put hd undef)⟩

section
variable {d : Nat} {op : Op} {ty : TypeId} {pos : String} {aft : Array Edge}
theorem Pm (hd:decide (d<n)=true) (h:BQ P r ρ w ⟨some d,op,ty,pos,aft,none⟩ fun v w'=>Rg P r n ops rest Q (Ls ρ d v) w'):
    Rg P r n ops (⟨some d,op,ty,pos,aft,none⟩::rest) Q ρ w:=OB rfl (by simpa using hd) h
theorem Bk (h:BQ P r ρ w ⟨none,op,ty,pos,aft,none⟩ fun _ w'=>Rg P r n ops rest Q ρ w'):
    Rg P r n ops (⟨none,op,ty,pos,aft,none⟩::rest) Q ρ w:=OB rfl rfl h
theorem UM {j dj:Nat} {b:Bool} (hj:(ops[j]?).bind (·.dst)=some dj) (hb:ρ dj=.bool b) (hd:decide (d<n)=true)
    (h:BQ P r ρ w ⟨some d,op,ty,pos,aft,some (j,b)⟩ fun v w'=>Rg P r n ops rest Q (Ls ρ d v) w'):
    Rg P r n ops (⟨some d,op,ty,pos,aft,some (j,b)⟩::rest) Q ρ w:=
  OB (by simp [Region.wanted,Hr,hj,hb,T4]) (by simpa using hd) h
theorem AI {j dj:Nat} {b:Bool} (hj:(ops[j]?).bind (·.dst)=some dj) (hb:T4 (ρ dj)≠some b) (hd:decide (d<n)=true)
    (h:Rg P r n ops rest Q (Ls ρ d undef) w):Rg P r n ops (⟨some d,op,ty,pos,aft,some (j,b)⟩::rest) Q ρ w:=
  T5 (by simp only [Region.wanted,Hr,hj];simpa using hb) (by simpa using hd) h
end

/-! ### Functions -/
def VT (args:List Value):EX:=⟨fun t=>args.getD t undef,[]⟩
def T6 (P:Program) (ρ:EX) (w:World):ResultVar→Value→Prop
  |.tmp t,v=>ρ t=v
  |.cell a t,v=>∃ad,ρ a=.pointer (some ad)∧(loadVar t ad).run P w=.ok v w
def Q1 (P:Program) (ρ:EX) (w:World):List ResultVar→List Value→Prop
  |[],[] =>True
  |x::xs,v::vs=>T6 P ρ w x v∧Q1 P ρ w xs vs
  |_,_=>False
def Sj:List Value→Value
  |[v] =>v
  |vs=>.tuple vs.toArray

def Sk (tmps:Array Value):ResultVar→Sem Value
  |.tmp t=>pure (tmps.getD t undef)
  |.cell a t=>do loadVar t (← asAddr (tmps.getD a undef))

theorem Ml {tmps:Array Value} (hg:∀t,tmps.getD t undef=ρ t):∀(xs:List ResultVar) (vs:List Value),Q1 P ρ w xs vs→
    (xs.mapM (Sk tmps)).run P w=.ok vs w
  |[],[],_=>by simp
  |[],_::_,h=>h.elim
  |_::_,[],h=>h.elim
  |x::xs,v::vs,⟨h1,h2⟩=>by
    have ih:=Ml hg xs vs h2
    have h3:(Sk tmps x).run P w=.ok v w:=by
      cases x with
      |tmp t=>
        simp only [T6] at h1
        simp only [Sk,Sem.run_pure,hg,h1]
      |cell a t=>
        obtain⟨ad,e1,e2⟩:=h1
        simp only [Sk,hg,e1,asAddr,Sem.run_bind,Sem.run_pure,Result.andThen_ok,e2]
    simp only [List.mapM_cons,Sem.run_bind,h3,Result.andThen_ok,ih,Sem.run_pure]

theorem Qb {fn:Func} {xs:List ResultVar} {vs:List Value} (hr:fn.results=xs.toArray) {tmps:Array Value} (hg:∀t,tmps.getD t undef=ρ t) (h:Q1 P ρ w xs vs):
    (results fn tmps).run P w=.ok (Sj vs) w:=by
  have h1:=Ml hg xs vs h
  show(do let vs ← fn.results.mapM (Sk tmps);pure (if h:vs.size=1 then vs[0] else .tuple vs):Sem Value).run P w=_
  rw [hr,List.mapM_toArray]
  simp only [Sem.run_bind,map_eq_pure_bind,Sem.run_pure,h1,Result.andThen_ok]
  match vs with
  |[] =>rfl
  |[v] =>rfl
  |_::_::_=>rfl

def ME:List Nat→World→World→Prop
  |[],w,w'=>w'=w
  |D::ds,w,w'=>w.heap[D]?=some (.deferred (some []))∧ME ds (w.putObj D (.deferred none)) w'
def Um (P:Program) (xs:List ResultVar) (R:Value→World→Prop):Iz:=fun e ρ w=>match e with
  |.normal |.ret=>∃w',ME ρ.ds w w'∧∃vs,Q1 P ρ w' xs vs∧R (Sj vs) w'
  |_=>False

def Fn (P:Program) (f:FuncId) (args:List Value) (w:World) (R:Value→World→Prop):Prop:=
  CallsIn (FW none) 0 P f args.toArray w fun e w'=>∃v,e=.returned v∧R v w'

theorem Fn.mono {f:FuncId} {args:List Value} {R R':Value→World→Prop} (h:Fn P f args w R) (hr:∀v w',R v w'→R' v w'):Fn P f args w R':=
  CallsIn.mono h fun _ _ ⟨v,he,hv⟩=>⟨v,he,hr _ _ hv⟩
theorem Fn.calls {f:FuncId} {args:List Value} {R:Value→World→Prop} (h:Fn P f args w R):Calls P f args.toArray w fun e w'=>∃v,e=.returned v∧R v w':=
  callsIn_wide.1 h
theorem Fn.inRound {f:FuncId} {args:List Value} {R:Value→World→Prop} (h:Fn P f args w R) (r:Option Nat):CallsIn (FW r) 0 P f args.toArray w fun e w'=>∃v,e=.returned v∧R v w':=
  match r with
  |none=>h
  |some l=>CallsIn.inRound l h

theorem NJ {fn:Func} {tmps:Array Value} {R:Ending→World→Prop} {v:Value} :∀{ds:List Nat} {w w':World},ME ds w w'→(results fn tmps).run P w'=.ok v w'→R (.returned v) w'→
    LeavesInM (FW none) 0 P fn tmps R (ds.map T2) .returning w
  |[],w,w',hc,hr,h=>by
    have e:w'=w:=hc
    subst e
    exact⟨v,hr,h⟩
  |D::ds,w,w',hc,hr,h=>⟨by simp,.inl ⟨D,_,rfl,run_takeDeferred hc.1,NJ hc.2 hr h⟩⟩

theorem Bt {f:FuncId} {fn:Func} {c:Code} {args:List Value} {xs:List ResultVar} {R:Value→World→Prop} (hf:P.funcs[f]?=some fn) (hb:fn.body=some c) (hn:fn.ntmps=n)
    (hr:fn.results=xs.toArray) (hl:decide (args.length≤n)=true) (h:Wp P none n c (Um P xs R) (VT args) w):Fn P f args w R:=by
  have hl':args.length≤n:=by simpa using hl
  refine callsIn_of_wp_marks hf hb trivial (wpIn_mono (h {tmps:=args.toArray++Array.replicate (fn.ntmps - args.toArray.size) undef,defers:=[]} ⟨?_,rfl,?_⟩) ?_)
  · simp [hn];omega
  · intro t
    simp only [VT,Array.getD_eq_getD_getElem?,List.getD_eq_getElem?_getD,Array.getElem?_append,List.size_toArray,List.getElem?_toArray]
    split
    · rfl
    · rename_i ht
      have:args[t]?=none:=by simp;omega
      rw [this]
      simp only [Array.getElem?_replicate]
      split<;> rfl
  · rintro e a w' ⟨_, ρ', h1, h2⟩
    cases e<;> simp only [Um] at h2<;> try exact h2.elim
    all_goals
      obtain⟨w2,hc,vs,h3,h4⟩:=h2
      simp only [bodyPostM,h1.defers]
      exact NJ hc (Qb hr h1.get h3) ⟨_,rfl,h4⟩

attribute [irreducible] Wp Rg BQ Fn
end Go.Fx
set_option linter.unusedSimpArgs false
set_option linter.unusedVariables false
namespace Go.Fx
open Go Go.RowKit

structure GH (w w':World):Prop where
  os:w'.os=w.os
  tape:w'.tape=w.tape
  output:w'.output=w.output
  size:w.heap.size≤w'.heap.size
  block:∀k,k<w.heap.size→w'.heap[k]?=w.heap[k]?
  drawn:w.drawn≤w'.drawn
theorem GH.below {w w':World} (h:GH w w'):Below w.heap.size w w':=⟨h.os,h.tape,h.output,h.size,h.block⟩
theorem GH.of_below {w w':World} (h:Below w.heap.size w w') (hd:w.drawn≤w'.drawn):GH w w':=⟨h.os,h.tape,h.output,h.size,h.block,hd⟩
theorem GH.refl (w:World):GH w w:=.of_below (Below.refl _ _) (Nat.le_refl _)
theorem GH.trans {a b c:World} (h:GH a b) (k:GH b c):GH a c:=.of_below (Below.trans h.below (Below.mono k.below h.size)) (Nat.le_trans h.drawn k.drawn)
theorem GH.alloc (w:World) (o:Obj):GH w (w.alloc o):=.of_below ((Below.refl _ _).alloc (Nat.le_refl _) o) (Nat.le_refl _)
theorem GH.drew (w:World):GH w w.drew:=.of_below ((Below.refl _ _).drew) (Nat.le_succ _)

structure Sh (w:World) (O:List Nat) (k:Nat):Prop where
  lt:k<w.heap.size
  no:k ∉ O

structure AB (O:List Nat) (w:World) (O':List Nat) (w':World):Prop where
  size:w.heap.size≤w'.heap.size
  keep:∀k,k<w.heap.size→k ∉ O→k ∉ O'∧w'.heap[k]?=w.heap[k]?

theorem AB.refl (O:List Nat) (w:World):AB O w O w:=⟨Nat.le_refl _,fun _ _ h=>⟨h,rfl⟩⟩
theorem AB.trans {O O' O'':List Nat} {w w' w'':World} (h:AB O w O' w') (k:AB O' w' O'' w''):AB O w O'' w'':=
  ⟨Nat.le_trans h.size k.size,fun b hb hn=>let ⟨h1,h2⟩:=h.keep b hb hn;let ⟨h3,h4⟩:=k.keep b (Nat.lt_of_lt_of_le hb h.size) h1;⟨h3,h4.trans h2⟩⟩
theorem AB.ext {O:List Nat} {w w':World} (h:GH w w'):AB O w O w':=⟨h.size,fun k hk hn=>⟨hn,h.block k hk⟩⟩
theorem Sh.step {O O':List Nat} {w w':World} {k:Nat} (h:Sh w O k) (s:AB O w O' w'):Sh w' O' k:=⟨Nat.lt_of_lt_of_le h.lt s.size,(s.keep k h.lt h.no).1⟩

structure Rp (α:Type) where
  n:Nat
  rd:World→List Nat→List Value→α→Prop
  len:∀{w O vs x},rd w O vs x→vs.length=n
  one:∀{w O vs x},rd w O vs x→∀v∈vs,v.oneCell'=true
  step:∀{w O w' O' vs x},AB O w O' w'→rd w O vs x→rd w' O' vs x

def AM (k:IntKind):Rp Int where
  n:=1
  rd _ _ vs x:=vs=[.int k x]∧k.min≤x∧x≤k.max
  len h:=by rw [h.1];rfl
  one h:=by rw [h.1];intro v hv;simp at hv;subst hv;rfl
  step _ h:=h
def NK:Rp Bool where
  n:=1
  rd _ _ vs x:=vs=[.bool x]
  len h:=by rw [h];rfl
  one h:=by rw [h];intro v hv;simp at hv;subst hv;rfl
  step _ h:=h
def Gc {α β:Type} (r:Rp α) (s:Rp β):Rp (α × β) where
  n:=r.n+s.n
  rd w O vs x:=∃v1 v2,vs=v1++v2∧r.rd w O v1 x.1∧s.rd w O v2 x.2
  len:=by rintro _ _ _ _ ⟨v1,v2,rfl,h1,h2⟩;simp [r.len h1,s.len h2]
  one:=by
    rintro _ _ _ _ ⟨v1,v2,rfl,h1,h2⟩ v hv
    rcases List.mem_append.1 hv with hv |hv
    · exact r.one h1 v hv
    · exact s.one h2 v hv
  step:=by rintro _ _ _ _ _ _ hs ⟨v1,v2,rfl,h1,h2⟩;exact⟨v1,v2,rfl,r.step hs h1,s.step hs h2⟩
def M4 {α β:Type} (f:β→α) (r:Rp α):Rp β where
  n:=r.n
  rd w O vs x:=r.rd w O vs (f x)
  len h:=r.len h
  one h:=r.one h
  step hs h:=r.step hs h
structure Iy {α:Type} (r:Rp α) (w:World) (O:List Nat) (p:Addr) (x:α):Prop where
  spot:p.spot=none
  sh:Sh w O p.block
  cells:∃cs T fz,w.heap[p.block]?=some (.cells cs T fz)∧p.off+r.n≤cs.size∧r.rd w O ((cs.toList.drop p.off).take r.n) x

theorem Iy.step {α:Type} {r:Rp α} {w w':World} {O O':List Nat} {p:Addr} {x:α} (h:Iy r w O p x) (s:AB O w O' w'):Iy r w' O' p x:=
  ⟨h.spot,h.sh.step s,let ⟨cs,T,fz,h1,h2,h3⟩:=h.cells;⟨cs,T,fz,((s.keep _ h.sh.lt h.sh.no).2).trans h1,h2,r.step s h3⟩⟩

structure CA {α:Type} (r:Rp α) (w:World) (O:List Nat) (a:Option Addr) (c:Nat) (xs:List α):Prop where
  le:xs.length≤c
  cap:c≤maxLen
  nil:a=none→xs=[]∧c=0
  el:∀ad,a=some ad→∀i (h:i<xs.length),Iy r w O (ad.add (i*r.n)) xs[i]

theorem CA.step {α:Type} {r:Rp α} {w w':World} {O O':List Nat} {a:Option Addr} {c:Nat} {xs:List α} (h:CA r w O a c xs) (s:AB O w O' w'):CA r w' O' a c xs:=
  ⟨h.le,h.cap,h.nil,fun ad ha i hi=>(h.el ad ha i hi).step s⟩
theorem CA.nil_ {α:Type} {r:Rp α} {w:World} {O:List Nat} :CA r w O none 0 ([]:List α):=⟨Nat.le_refl _,Nat.zero_le _,fun _=>⟨rfl,rfl⟩,fun _ h=>by cases h⟩
theorem CA.len {α:Type} {r:Rp α} {w:World} {O:List Nat} {a:Option Addr} {c:Nat} {xs:List α} (h:CA r w O a c xs):xs.length≤9223372036854775807:=by
  have:=h.le;have:=h.cap;unfold maxLen at*;omega
theorem CA.at {α:Type} {r:Rp α} {w:World} {O:List Nat} {a:Option Addr} {c:Nat} {xs:List α} (h:CA r w O a c xs) {i:Nat} (hi:i<xs.length):
    ∃ad,a=some ad∧Iy r w O (ad.add (i*r.n)) xs[i]:=by
  cases a with
  |none=>have:=(h.nil rfl).1;subst this;simp at hi
  |some ad=>exact⟨ad,rfl,h.el ad rfl i hi⟩

def BE {α:Type} (r:Rp α):Rp (List α) where
  n:=1
  rd w O vs xs:=∃a c,vs=[.slice a xs.length c]∧CA r w O a c xs
  len:=by rintro _ _ _ _ ⟨a,c,rfl,_⟩;rfl
  one:=by rintro _ _ _ _ ⟨a,c,rfl,_⟩ v hv;simp at hv;subst hv;rfl
  step:=by rintro _ _ _ _ _ _ s ⟨a,c,rfl,h⟩;exact⟨a,c,rfl,h.step s⟩

def Ej {α:Type} (q:Rp α) (w:World) (O:List Nat):List Value→List α→Prop
  |cs,[] =>cs=[]
  |cs,x::xs=>∃v1 v2,cs=v1++v2∧q.rd w O v1 x∧Ej q w O v2 xs
section
variable {α : Type} {q : Rp α} {w w' : World} {O O' : List Nat}
theorem Ej.step (s:AB O w O' w'):∀{cs:List Value} {xs:List α},Ej q w O cs xs→Ej q w' O' cs xs
  |_,[],h=>h
  |_,_::_,⟨v1,v2,h1,h2,h3⟩=>⟨v1,v2,h1,q.step s h2,Ej.step s h3⟩
theorem Ej.len:∀{cs:List Value} {xs:List α},Ej q w O cs xs→cs.length=xs.length*q.n
  |_,[],h=>by simp [show _=_ from h]
  |_,_::xs,⟨v1,v2,h1,h2,h3⟩=>by
    have:=Ej.len h3
    rw [h1,List.length_append,this,q.len h2,List.length_cons,Nat.add_mul];omega
theorem Ej.one:∀{cs:List Value} {xs:List α},Ej q w O cs xs→∀v∈cs,v.oneCell'=true
  |_,[],h=>by simp [show _=_ from h]
  |_,_::xs,⟨v1,v2,h1,h2,h3⟩=>by
    intro v hv
    rw [h1] at hv
    rcases List.mem_append.1 hv with hv |hv
    · exact q.one h2 v hv
    · exact Ej.one h3 v hv
theorem Ej.nil:Ej q w O [] ([]:List α):=rfl
theorem Ej.append:∀{c1 c2:List Value} {xs ys:List α},Ej q w O c1 xs→Ej q w O c2 ys→Ej q w O (c1++c2) (xs++ys)
  |_,_,[],_,h,k=>by rw [show _=_ from h];simpa using k
  |_,c2,_::xs,_,⟨v1,v2,h1,h2,h3⟩,k=>⟨v1,v2++c2,by rw [h1,List.append_assoc],h2,Ej.append h3 k⟩
theorem Ej.get:∀{cs:List Value} {xs:List α},Ej q w O cs xs→∀i (h:i<xs.length),q.rd w O ((cs.drop (i*q.n)).take q.n) xs[i]
  |_,[],_,i,h=>by simp at h
  |cs,x::xs,⟨v1,v2,h1,h2,h3⟩,i,h=>by
    have hl:=q.len h2
    cases i with
    |zero=>
      rw [h1]
      simp only [Nat.zero_mul,List.drop_zero,List.getElem_cons_zero]
      rw [← hl,List.take_left];exact h2
    |succ i=>
      have:=Ej.get h3 i (by simpa using h)
      rw [h1]
      have e:(v1++v2).drop ((i+1)*q.n)=v2.drop (i*q.n):=by
        rw [Nat.add_mul,Nat.one_mul,Nat.add_comm,← List.drop_drop,← hl,List.drop_left]
      rw [e];simpa using this
theorem Ej.take:∀{cs:List Value} {xs:List α},Ej q w O cs xs→∀k,Ej q w O (cs.take (k*q.n)) (xs.take k)
  |_,[],h,k=>by rw [show _=_ from h];simp [Ej]
  |_,_::_,_,0=>by simp [Ej]
  |_,x::xs,⟨v1,v2,h1,h2,h3⟩,k+1=>by
    refine⟨v1,v2.take (k*q.n),?_,h2,Ej.take h3 k⟩
    rw [h1,Nat.add_mul,Nat.one_mul,Nat.add_comm,← q.len h2,List.take_append]
    simp
    exact List.take_of_length_le (Nat.le_add_right _ _)
end

theorem CA.cells {α:Type} {q:Rp α} {w:World} {O:List Nat} :∀{xs:List α} {ad:Addr} {c:Nat},CA q w O (some ad) c xs→
    ∃cs,Ej q w O cs xs∧∀j u,cs[j]?=some u→w.cell? (ad.add j)=some u:=by
  intro xs
  induction xs with
  |nil=>intro ad c h;exact⟨[],rfl,by simp⟩
  |cons x xs ih=>
    intro ad c h
    have h0:=h.el ad rfl 0 (by simp)
    obtain⟨cs,hcs,hc⟩:=ih (ad:=ad.add q.n) (c:=c) ⟨by have:=h.le;simp at this;omega,h.cap,(fun e=>by cases e),fun ad' e i hi=>by
      cases e
      have:=h.el ad rfl (i+1) (by simpa using hi)
      rw [Addr.add_add]
      have e:q.n+i*q.n=(i+1)*q.n:=by rw [Nat.add_mul];omega
      rw [e];simpa using this⟩
    obtain⟨h1,h2,cb,e,fz,h3,h4,h5⟩:=h0
    simp only [Nat.zero_mul,Addr.add_zero'] at h1 h2 h3 h4 h5
    refine⟨(cb.toList.drop ad.off).take q.n++cs,⟨_,cs,rfl,by simpa using h5,hcs⟩,?_⟩
    intro j u hj
    have hl:=q.len h5
    rw [List.getElem?_append] at hj
    have hs:ad=⟨ad.block,ad.off,none⟩:=by cases ad;simp only at h1;subst h1;rfl
    split at hj
    · rw [List.getElem?_take, List.getElem?_drop] at hj
      split at hj
      · rw [hs, Addr.add_lit]
        simp only [World.cell?,h3,Option.isSome_none,Bool.false_eq_true,if_false]
        simpa using hj
      · cases hj
    · rename_i hge
      have:=hc _ _ hj
      rw [Addr.add_add,hl] at this
      rw [hl] at hge
      have e:q.n+(j - q.n)=j:=by omega
      rwa [e] at this

/-! what a cell's reading says of the cell -/
section
variable {w : World} {O : List Nat} {v : Value}
theorem C3 {k:IntKind} {x:Int} (h:(AM k).rd w O [v] x):v=.int k x∧k.min≤x∧x≤k.max:=⟨by simpa using h.1,h.2⟩
theorem BH {α:Type} {r:Rp α} {xs:List α} (h:(BE r).rd w O [v] xs):∃a c,v=.slice a xs.length c∧CA r w O a c xs:=by
  obtain⟨a,c,h1,h2⟩:=h;exact⟨a,c,by simpa using h1,h2⟩
theorem B5 {α:Type} {r:Rp α} {xs:List α} {a:Option Addr} {c:Nat} (h:CA r w O a c xs):(BE r).rd w O [.slice a xs.length c] xs:=⟨a,c,rfl,h⟩
theorem AU {α β:Type} {r:Rp α} {s:Rp β} {v1 v2:List Value} {x:α} {y:β} (h1:r.rd w O v1 x) (h2:s.rd w O v2 y):(Gc r s).rd w O (v1++v2) (x,y):=⟨v1,v2,rfl,h1,h2⟩
end

/-! parts of what a pointer leads to -/
theorem KP {l v1 v2:List Value} {m n:Nat} (h:l.take (m+n)=v1++v2) (h1:v1.length=m) (h2:v2.length=n):l.take m=v1∧(l.drop m).take n=v2:=by
  subst h1;subst h2
  have hl:v1.length+v2.length≤l.length:=by
    have:=congrArg List.length h
    simp only [List.length_take,List.length_append] at this
    omega
  have e:l=v1++v2++l.drop (v1.length+v2.length):=by rw [← h];exact(List.take_append_drop _ _).symm
  constructor
  · rw [e,List.append_assoc,List.take_left]
  · rw [e,List.append_assoc,List.drop_left,List.take_left]

theorem Addr.add_spot {p:Addr} (h:p.spot=none) (n:Nat):p.add n=⟨p.block,p.off+n,none⟩:=by
  cases p;simp only at h;subst h;exact Addr.add_lit _ _ _

theorem Iy.fst {α β:Type} {r:Rp α} {s:Rp β} {w:World} {O:List Nat} {p:Addr} {x:α × β} (h:Iy (Gc r s) w O p x):Iy r w O p x.1:=by
  obtain⟨h1,h2,cs,T,fz,h3,h4,v1,v2,h5,h6,h7⟩:=h
  have hn:(Gc r s).n=r.n+s.n:=rfl
  exact⟨h1,h2,cs,T,fz,h3,by omega,by rw [(KP h5 (r.len h6) (s.len h7)).1];exact h6⟩
theorem Iy.snd {α β:Type} {r:Rp α} {s:Rp β} {w:World} {O:List Nat} {p:Addr} {x:α × β} (h:Iy (Gc r s) w O p x):Iy s w O (p.add r.n) x.2:=by
  obtain⟨h1,h2,cs,T,fz,h3,h4,v1,v2,h5,h6,h7⟩:=h
  have hn:(Gc r s).n=r.n+s.n:=rfl
  rw [Addr.add_spot h1]
  exact⟨rfl,h2,cs,T,fz,h3,by simp only;omega,by rw [← List.drop_drop,(KP h5 (r.len h6) (s.len h7)).2];exact h7⟩
theorem Iy.via {α β:Type} {f:β→α} {r:Rp α} {w:World} {O:List Nat} {p:Addr} {x:β} (h:Iy (M4 f r) w O p x):Iy r w O p (f x):=⟨h.spot,h.sh,h.cells⟩
structure HW (K:List Nat) (w w':World):Prop where
  os:w'.os=w.os
  tape:w'.tape=w.tape
  output:w'.output=w.output
  size:w.heap.size≤w'.heap.size
  block:∀k,k<w.heap.size→k ∉ K→w'.heap[k]?=w.heap[k]?
  drawn:w.drawn≤w'.drawn
theorem HW.refl (K:List Nat) (w:World):HW K w w:=⟨rfl,rfl,rfl,Nat.le_refl _,fun _ _ _=>rfl,Nat.le_refl _⟩
theorem HW.of_ext {K:List Nat} {w w':World} (h:GH w w'):HW K w w':=⟨h.os,h.tape,h.output,h.size,fun k hk _=>h.block k hk,h.drawn⟩
theorem HW.ext {w w':World} (h:HW [] w w'):GH w w':=⟨h.os,h.tape,h.output,h.size,fun k hk=>h.block k hk (by simp),h.drawn⟩
theorem HW.trans {K:List Nat} {a b c:World} (h:HW K a b) (k:HW K b c):HW K a c:=
  ⟨k.os.trans h.os,k.tape.trans h.tape,k.output.trans h.output,Nat.le_trans h.size k.size,fun i hi hn=>(k.block i (Nat.lt_of_lt_of_le hi h.size) hn).trans (h.block i hi hn),Nat.le_trans h.drawn k.drawn⟩
theorem HW.then {K:List Nat} {a b c:World} (h:HW K a b) (k:GH b c):HW K a c:=h.trans (.of_ext k)
theorem HW.trans' {K K':List Nat} {a b c:World} (h:HW K a b) (k:HW K' b c) (hk:∀i∈K',i∈K∨a.heap.size≤i):HW K a c:=
  ⟨k.os.trans h.os,k.tape.trans h.tape,k.output.trans h.output,Nat.le_trans h.size k.size,fun i hi hn=>
    (k.block i (Nat.lt_of_lt_of_le hi h.size) (fun hm=>(hk i hm).elim hn (fun h=>by omega))).trans (h.block i hi hn),Nat.le_trans h.drawn k.drawn⟩
theorem HW.sub {K K':List Nat} {a b:World} (h:HW K a b) (hk:∀i∈K,i∈K'∨a.heap.size≤i):HW K' a b:=
  ⟨h.os,h.tape,h.output,h.size,fun i hi hn=>h.block i hi (fun hm=>(hk i hm).elim hn (fun h=>by omega)),h.drawn⟩
structure Zx where
  w:World
  K:List Nat
  ds:List Nat
abbrev Bi:=List (Option Nat × Obj)
structure St (z:Zx) (O0:List Nat) (w:World) (bs:Bi):Prop where
  below:HW z.K z.w w
  own:∀p∈bs,∀b,p.1=some b→(b∈z.K∨z.w.heap.size≤b)∧w.heap[b]?=some p.2
  nd:(bs.filterMap Prod.fst).Nodup
  dj:∀k∈O0,k<w.heap.size∧k ∉ bs.filterMap Prod.fst
  dsn:z.ds.Nodup
  dfs:∀D∈z.ds,D∈O0∧(D∈z.K∨z.w.heap.size≤D)∧w.heap[D]?=some (.deferred (some []))

def ks (bs:Bi) (O0:List Nat):List Nat:=bs.filterMap Prod.fst++O0

section
variable {w0 : Zx} {w w' : World} {O0 : List Nat} {bs : Bi}
theorem St.start {w0:World} (h:∀k∈O0,k<w0.heap.size):St ⟨w0,[],[]⟩ O0 w0 []:=⟨HW.refl _ _,(fun _ h=>by cases h),List.nodup_nil,fun k hk=>⟨h k hk,by simp⟩,List.nodup_nil,fun _ h=>by cases h⟩
theorem St.ext {w0:World} {ds:List Nat} (h:St ⟨w0,[],ds⟩ O0 w bs):GH w0 w:=h.below.ext
theorem St.lt0 (h:St w0 O0 w bs):∀k∈O0,k<w.heap.size:=fun k hk=>(h.dj k hk).1
theorem St.lt (h:St w0 O0 w bs) {p:Option Nat × Obj} (hp:p∈bs) {b:Nat} (hb:p.1=some b):b<w.heap.size:=(Array.getElem?_eq_some_iff.1 (h.own p hp b hb).2).1
theorem B6 {b:Nat} :b∈bs.filterMap Prod.fst ↔ ∃p∈bs,p.1=some b:=by simp [List.mem_filterMap]
theorem St.ltw (h:St w0 O0 w bs):∀k∈ks bs O0,k<w.heap.size:=by
  intro k hk
  rcases List.mem_append.1 hk with hk |hk
  · obtain ⟨p, hp, hb⟩ := B6.1 hk
    exact h.lt hp hb
  · exact h.lt0 k hk
theorem St.call (h:St w0 O0 w bs) (he:GH w w'):St w0 O0 w' bs:=
  ⟨h.below.then he,fun p hp b hb=>⟨(h.own p hp b hb).1,by rw [he.block _ (h.lt hp hb)];exact(h.own p hp b hb).2⟩,h.nd,fun k hk=>⟨Nat.lt_of_lt_of_le (h.dj k hk).1 he.size,(h.dj k hk).2⟩,h.dsn,
   fun D hD=>⟨(h.dfs D hD).1,(h.dfs D hD).2.1,by rw [he.block _ (h.lt0 D (h.dfs D hD).1)];exact(h.dfs D hD).2.2⟩⟩
theorem St.ghost (h:St w0 O0 w bs) (o:Obj):St w0 O0 w ((none,o)::bs):=
  ⟨h.below,fun p hp b hb=>by
    rcases List.mem_cons.1 hp with rfl |hp
    · cases hb
    · exact h.own p hp b hb,by simpa using h.nd,fun k hk=>⟨(h.dj k hk).1,by simpa using (h.dj k hk).2⟩,h.dsn,h.dfs⟩
theorem St.drop (h:St w0 O0 w bs) (i:Nat):St w0 O0 w (bs.eraseIdx i):=
  ⟨h.below,fun p hp=>h.own p (List.mem_of_mem_eraseIdx hp),(List.Sublist.filterMap _ (List.eraseIdx_sublist _ _)).nodup h.nd,
   fun k hk=>⟨(h.dj k hk).1,fun hm=>(h.dj k hk).2 ((List.Sublist.filterMap _ (List.eraseIdx_sublist _ _)).subset hm)⟩,h.dsn,h.dfs⟩
theorem AB.drop (w:World) (O0:List Nat) (bs:Bi) (i:Nat):AB (ks bs O0) w (ks (bs.eraseIdx i) O0) w:=
  ⟨Nat.le_refl _,fun k _ hn=>⟨fun hm=>hn (by
    rcases List.mem_append.1 hm with hm |hm
    · exact List.mem_append_left _ ((List.Sublist.filterMap _ (List.eraseIdx_sublist _ _)).subset hm)
    · exact List.mem_append_right _ hm),rfl⟩⟩
theorem St.dropS (h:St w0 O0 w bs) (i:Nat):AB (ks bs O0) w (ks (bs.eraseIdx i) O0) w:=AB.drop w O0 bs i
theorem AB.all (w:World) (O0:List Nat) (bs:Bi):AB (ks bs O0) w O0 w:=
  ⟨Nat.le_refl _,fun k _ hn=>⟨fun hm=>hn (List.mem_append_right _ hm),rfl⟩⟩
theorem St.alloc (h:St w0 O0 w bs) (o:Obj):St w0 O0 (w.alloc o) ((some w.heap.size,o)::bs):=by
  refine⟨h.below.then (GH.alloc w o),?_,?_,fun k hk=>⟨by have:=(h.dj k hk).1;simp;omega,fun hm=>?_⟩,h.dsn,fun D hD=>⟨(h.dfs D hD).1,(h.dfs D hD).2.1,by rw [heap_alloc_old w o _ (h.lt0 D (h.dfs D hD).1)];exact(h.dfs D hD).2.2⟩⟩
  · intro p hp b hb
    rcases List.mem_cons.1 hp with rfl |hp
    · cases hb;exact⟨.inr h.below.size,heap_alloc_new w _⟩
    · refine ⟨(h.own p hp b hb).1, ?_⟩
      rw [heap_alloc_old w o _ (h.lt hp hb)];exact(h.own p hp b hb).2
  · simp only [List.filterMap_cons, List.nodup_cons]
    refine⟨fun hm=>?_,h.nd⟩
    obtain⟨p,hp,e⟩:=B6.1 hm
    have:=h.lt hp e
    omega
  · simp only [List.filterMap_cons, List.mem_cons] at hm
    rcases hm with e |hm
    · have:=(h.dj k hk).1;omega
    · exact(h.dj k hk).2 hm
theorem AB.alloc (w:World) (O0:List Nat) (bs:Bi) (o:Obj):AB (ks bs O0) w (ks ((some w.heap.size,o)::bs) O0) (w.alloc o):=
  ⟨by simp,fun k hk hn=>⟨fun hm=>by
    simp only [ks,List.filterMap_cons,List.cons_append,List.mem_cons] at hm
    rcases hm with e |hm
    · omega
    · exact hn hm,heap_alloc_old w o k hk⟩⟩
theorem St.get (h:St w0 O0 w bs) {i:Nat} {b:Nat} {o:Obj} (hi:bs[i]?=some (some b,o)):w.heap[b]?=some o:=(h.own _ (List.mem_of_getElem? hi) b rfl).2
theorem St.put (h:St w0 O0 w bs) {i:Nat} {k k':Option Nat} {o o':Obj} (hi:bs[i]?=some (k,o))
    (hx:HW w0.K w0.w w') (hs:w.heap.size≤w'.heap.size) (hk:∀b,k'=some b→(k=some b∨w.heap.size≤b)∧w'.heap[b]?=some o')
    (ho:∀j,j<w.heap.size→k≠some j→w'.heap[j]?=w.heap[j]?):St w0 O0 w' (bs.set i (k',o')):=by
  have hlt:i<bs.length:=(List.getElem?_eq_some_iff.1 hi).1
  have hg:bs[i] =(k,o):=(List.getElem?_eq_some_iff.1 hi).2
  have hmem:(k,o)∈bs:=List.mem_of_getElem? hi
  -- two places never bear one key
  have hone:∀(j l:Nat),∀(p q:Option Nat × Obj) b,bs[j]?=some p→bs[l]?=some q→p.1=some b→q.1=some b→j=l:=by
    intro j l p q b hj hl hp hq
    have hnd:=h.nd
    have key:∀(bs:Bi) (j l:Nat) (p q:Option Nat × Obj),(bs.filterMap Prod.fst).Nodup→bs[j]?=some p→bs[l]?=some q→p.1=some b→q.1=some b→j=l:=by
      intro bs
      induction bs with
      |nil=>intro j l p q _ hj;simp at hj
      |cons x bs ih=>
        intro j l p q hnd hj hl hp hq
        have hnd':(bs.filterMap Prod.fst).Nodup:=(List.Sublist.filterMap _ (List.sublist_cons_self x bs)).nodup hnd
        have hnot:x.1=some b→∀q,q∈bs→q.1≠some b:=by
          intro hxb q hq' hqb
          rw [List.filterMap_cons_some hxb,List.nodup_cons] at hnd
          exact hnd.1 (B6.2 ⟨q,hq',hqb⟩)
        cases j with
        |zero=>
          simp only [List.getElem?_cons_zero,Option.some.injEq] at hj
          subst hj
          cases l with
          |zero=>rfl
          |succ l=>exact absurd hq (hnot hp q (List.mem_of_getElem? (by simpa using hl)))
        |succ j=>
          cases l with
          |zero=>
            simp only [List.getElem?_cons_zero,Option.some.injEq] at hl
            subst hl
            exact absurd hp (hnot hq p (List.mem_of_getElem? (by simpa using hj)))
          |succ l=>rw [ih j l p q hnd' (by simpa using hj) (by simpa using hl) hp hq]
    exact key bs j l p q hnd hj hl hp hq
  refine⟨hx,?_,?_,fun j hj=>⟨Nat.lt_of_lt_of_le (h.dj j hj).1 hs,fun hm=>?_⟩,h.dsn,fun D hD=>⟨(h.dfs D hD).1,(h.dfs D hD).2.1,?_⟩⟩
  rotate_left 2
  · obtain ⟨p, hp, e⟩ := B6.1 hm
    obtain⟨l,hl⟩:=List.mem_iff_getElem?.1 hp
    rw [List.getElem?_set] at hl
    split at hl
    · rename_i he; subst he
      simp only [hlt,Option.some.injEq,if_true] at hl;subst hl
      rcases (hk j e).1 with h1 |h1
      · exact(h.dj j hj).2 (B6.2 ⟨_,hmem,h1⟩)
      · have:=(h.dj j hj).1;omega
    · exact(h.dj j hj).2 (B6.2 ⟨p,List.mem_of_getElem? hl,e⟩)
  · rw [ho D (h.lt0 D (h.dfs D hD).1) fun e => (h.dj D (h.dfs D hD).1).2 (B6.2 ⟨_, hmem, e⟩)]
    exact(h.dfs D hD).2.2
  · intro p hp b hb
    obtain⟨j,hj⟩:=List.mem_iff_getElem?.1 hp
    rw [List.getElem?_set] at hj
    split at hj
    · rename_i e; subst e
      simp only [hlt,Option.some.injEq,if_true] at hj;subst hj
      refine⟨?_,(hk b hb).2⟩
      rcases (hk b hb).1 with e |e
      · exact(h.own _ hmem b e).1
      · exact .inr (Nat.le_trans h.below.size e)
    · rename_i hne
      have hp':=List.mem_of_getElem? hj
      refine⟨(h.own p hp' b hb).1,?_⟩
      rw [ho b (h.lt hp' hb) fun e=>hne (hone i j _ _ b hi hj e hb)]
      exact(h.own p hp' b hb).2
  · -- the keys
    have hperm:∀(bs:Bi) (i:Nat),i<bs.length→(bs.filterMap Prod.fst).Nodup→(∀b,k'=some b→∀(j:Nat) p,bs[j]?=some p→p.1=some b→j=i)→
        ((bs.set i (k',o')).filterMap Prod.fst).Nodup:=by
      intro bs
      induction bs with
      |nil=>intro i hi;simp at hi
      |cons x bs ih=>
        intro i hi hnd hu
        have hnd':(bs.filterMap Prod.fst).Nodup:=(List.Sublist.filterMap _ (List.sublist_cons_self x bs)).nodup hnd
        cases i with
        |zero=>
          simp only [List.set_cons_zero]
          cases hk':k' with
          |none=>simpa using hnd'
          |some b=>
            rw [List.filterMap_cons_some (show Prod.fst ((some b,o'):Option Nat × Obj)=some b from rfl),List.nodup_cons]
            refine⟨fun hm=>?_,hnd'⟩
            obtain⟨p,hp,hpb⟩:=B6.1 hm
            obtain⟨j,hj⟩:=List.mem_iff_getElem?.1 hp
            have:=hu b hk' (j+1) p (by simpa using hj) hpb
            omega
        |succ i=>
          simp only [List.set_cons_succ]
          have hrec:=ih i (by simpa using hi) hnd' fun b hb j p hj hp=>by have:=hu b hb (j+1) p (by simpa using hj) hp;omega
          cases hx1:x.1 with
          |none=>rw [List.filterMap_cons_none hx1];exact hrec
          |some c=>
            rw [List.filterMap_cons_some hx1,List.nodup_cons]
            refine⟨fun hm=>?_,hrec⟩
            obtain⟨p,hp,hpb⟩:=B6.1 hm
            obtain⟨j,hj⟩:=List.mem_iff_getElem?.1 hp
            rw [List.getElem?_set] at hj
            split at hj
            · rename_i e; subst e
              split at hj
              · simp only [Option.some.injEq] at hj; subst hj
                have:=hu c hpb 0 x (by simp) hx1
                omega
              · cases hj
            · rw [List.filterMap_cons_some hx1, List.nodup_cons] at hnd
              exact hnd.1 (B6.2 ⟨p,List.mem_of_getElem? hj,hpb⟩)
    refine hperm bs i hlt h.nd fun b hb j p hj hp=>?_
    rcases (hk b hb).1 with e |e
    · exact(hone i j _ _ b hi hj e hp).symm
    · have := h.lt (List.mem_of_getElem? hj) hp
      omega
theorem AB.put {i:Nat} {k k':Option Nat} {o o':Obj} (hi:bs[i]?=some (k,o)) (hs:w.heap.size≤w'.heap.size)
    (hk:∀b,k'=some b→k=some b∨w.heap.size≤b)
    (ho:∀j,j<w.heap.size→k≠some j→w'.heap[j]?=w.heap[j]?):AB (ks bs O0) w (ks (bs.set i (k',o')) O0) w':=by
  have hmem:(k,o)∈bs:=List.mem_of_getElem? hi
  refine⟨hs,fun b hb hn=>⟨fun hm=>hn ?_,ho b hb fun e=>hn (List.mem_append_left _ (B6.2 ⟨_,hmem,e⟩))⟩⟩
  rcases List.mem_append.1 hm with hm |hm
  · obtain ⟨p, hp, hpb⟩ := B6.1 hm
    obtain⟨j,hj⟩:=List.mem_iff_getElem?.1 hp
    rw [List.getElem?_set] at hj
    split at hj
    · split at hj
      · simp only [Option.some.injEq] at hj; subst hj
        rcases hk b hpb with e |e
        · exact List.mem_append_left _ (B6.2 ⟨_,hmem,e⟩)
        · omega
      · cases hj
    · exact List.mem_append_left _ (B6.2 ⟨p,List.mem_of_getElem? hj,hpb⟩)
  · exact List.mem_append_right _ hm
end
end Go.Fx
set_option linter.unusedSimpArgs false
set_option linter.unusedVariables false
namespace Go.Fx
open Go Go.RowKit
def bs (l:List UInt8):ByteArray:=⟨l.toArray⟩

section
variable {P : Program} {r : Option Nat} {ρ : EX} {w : World} {d : Option Nat} {ty : TypeId} {pos : String} {aft : Array Edge} {g : Option (Nat × Bool)} {V : Value → World → Prop}

theorem Bl {op:Op} {v:Value} {w':World} (hd:∀c,op≠.defer c) (h:(execOp (ev ρ) ⟨d,op,ty,pos,aft,g⟩).run P w=.ok (.value v) w') (hV:V v w'):
    BQ P r ρ w ⟨d,op,ty,pos,aft,g⟩ V:=by
  unfold BQ;rw [Oper.semAt_eq _ _ _ hd,h];exact hV
theorem LO {op:Op} {w':World} (hd:∀c,op≠.defer c) (h:(execOp (ev ρ) ⟨d,op,ty,pos,aft,g⟩).run P w=.ok .skip w') (hV:V undef w'):
    BQ P r ρ w ⟨d,op,ty,pos,aft,g⟩ V:=by
  unfold BQ;rw [Oper.semAt_eq _ _ _ hd,h];exact hV
theorem MF {op:Op} {f:FuncId} {args:List Value} {w':World} {R:Value→World→Prop} (hd:∀c,op≠.defer c)
    (h:(execOp (ev ρ) ⟨d,op,ty,pos,aft,g⟩).run P w=.ok (.enter f args.toArray) w') (hc:Fn P f args w' R) (hV:∀v w'',R v w''→V v w''):BQ P r ρ w ⟨d,op,ty,pos,aft,g⟩ V:=by
  unfold BQ;rw [Oper.semAt_eq _ _ _ hd,h]
  exact(hc.inRound r).mono fun e w'' ⟨v,he,hv⟩=>⟨v,he,hV _ _ hv⟩

theorem AD {x:Operand} {v:Value} (hx:ev ρ x=v) (h:V v w):BQ P r ρ w ⟨d,.move x,ty,pos,aft,g⟩ V:=
  Bl (by simp) (by simp [execOp,hx]) h
theorem RB {x:Operand} {v:Value} (hx:ev ρ x=v) (h:V v w):BQ P r ρ w ⟨d,.assign x,ty,pos,aft,g⟩ V:=
  Bl (by simp) (by simp [execOp,hx]) h
theorem C6 {c x y:Operand} {v:Value} (hc:ev ρ c=.bool true) (hx:ev ρ x=v) (h:V v w):BQ P r ρ w ⟨d,.pick c x y,ty,pos,aft,g⟩ V:=
  Bl (by simp) (by simp [execOp,hc,hx,asBool]) h
theorem Ek {c x y:Operand} {v:Value} (hc:ev ρ c=.bool false) (hy:ev ρ y=v) (h:V v w):BQ P r ρ w ⟨d,.pick c x y,ty,pos,aft,g⟩ V:=
  Bl (by simp) (by simp [execOp,hc,hy,asBool]) h
theorem Es {t:TypeId} {x:Operand} {b:Bool} (hx:ev ρ x=.bool b) (h:V (.bool (!b)) w):BQ P r ρ w ⟨d,.unOp .not t x,ty,pos,aft,g⟩ V:=
  Bl (by simp) (by simp [execOp,hx,Op.unary]) h
theorem Bg {t:Operand} {i:Nat} {vs:List Value} {v:Value} (ht:ev ρ t=.tuple vs.toArray) (hi:vs[i]?=some v) (h:V v w):BQ P r ρ w ⟨d,.extract t i,ty,pos,aft,g⟩ V:=
  Bl (by simp) (by simp [execOp,ht,Instr.extract,hi]) h

section ints
variable {x y : Operand} {t u : TypeId} {m k : Int} {q : IntKind}
theorem Et {m:Int} (h1: -9223372036854775808≤m) (h2:m≤9223372036854775807):IntKind.i64.wrap m=m:=IntWalk.i64_in m ⟨h1,h2⟩
theorem Bm (hx:ev ρ x=.int q m) (hy:ev ρ y=.int q k) (h:V (.int q (q.wrap (m+k))) w):BQ P r ρ w ⟨d,.binOp .add t x y u,ty,pos,aft,g⟩ V:=
  Bl (by simp) (by simp [execOp,hx,hy,eqGuard,binOp,Op.intArith]) h
theorem FC (hx:ev ρ x=.int q m) (hy:ev ρ y=.int q k) (h:V (.int q (q.wrap (m - k))) w):BQ P r ρ w ⟨d,.binOp .sub t x y u,ty,pos,aft,g⟩ V:=
  Bl (by simp) (by simp [execOp,hx,hy,eqGuard,binOp,Op.intArith]) h
theorem Jb (hx:ev ρ x=.int q m) (hy:ev ρ y=.int q k) (h:V (.int q (q.wrap (m*k))) w):BQ P r ρ w ⟨d,.binOp .mul t x y u,ty,pos,aft,g⟩ V:=
  Bl (by simp) (by simp [execOp,hx,hy,eqGuard,binOp,Op.intArith]) h
theorem Bu (hx:ev ρ x=.int q m) (hy:ev ρ y=.int q k) (h:V (.bool (decide (m<k))) w):BQ P r ρ w ⟨d,.binOp .lss t x y u,ty,pos,aft,g⟩ V:=
  Bl (by simp) (by simp [execOp,hx,hy,eqGuard,binOp,Op.intCmp]) h
theorem HZ (hx:ev ρ x=.int q m) (hy:ev ρ y=.int q k) (h:V (.bool (decide (m≤k))) w):BQ P r ρ w ⟨d,.binOp .leq t x y u,ty,pos,aft,g⟩ V:=
  Bl (by simp) (by simp [execOp,hx,hy,eqGuard,binOp,Op.intCmp]) h
theorem EY (hx:ev ρ x=.int q m) (hy:ev ρ y=.int q k) (h:V (.bool (decide (k<m))) w):BQ P r ρ w ⟨d,.binOp .gtr t x y u,ty,pos,aft,g⟩ V:=
  Bl (by simp) (by simp [execOp,hx,hy,eqGuard,binOp,Op.intCmp]) h
theorem Hk (hx:ev ρ x=.int q m) (hy:ev ρ y=.int q k) (h:V (.bool (decide (k≤m))) w):BQ P r ρ w ⟨d,.binOp .geq t x y u,ty,pos,aft,g⟩ V:=
  Bl (by simp) (by simp [execOp,hx,hy,eqGuard,binOp,Op.intCmp]) h
theorem GV (hx:ev ρ x=.int q m) (hy:ev ρ y=.int q k) (h:V (.bool (decide (m=k))) w):BQ P r ρ w ⟨d,.binOp .eql t x y u,ty,pos,aft,g⟩ V:=
  Bl (v:=.bool (decide (m=k))) (by simp) (by simp [execOp,hx,hy,eqGuard,binOp,Op.intCmp];by_cases h:m=k<;> simp [h]) h
theorem FB (hx:ev ρ x=.int q m) (hy:ev ρ y=.int q k) (h:V (.bool (decide (m≠k))) w):BQ P r ρ w ⟨d,.binOp .neq t x y u,ty,pos,aft,g⟩ V:=
  Bl (v:=.bool (decide (m≠k))) (by simp) (by simp [execOp,hx,hy,eqGuard,binOp,Op.intCmp];by_cases h:m=k<;> simp [h]) h
theorem UN {a b:Bool} (hu:P.underlying t=some .bool) (hx:ev ρ x=.bool a) (hy:ev ρ y=.bool b) (h:V (.bool (a == b)) w):BQ P r ρ w ⟨d,.binOp .eql t x y u,ty,pos,aft,g⟩ V:=
  Bl (by simp) (by simp [execOp,hx,hy,eqGuard,run_eql_bool w t a b hu]) h
theorem Q2 {a b:Bool} (hu:P.underlying t=some .bool) (hx:ev ρ x=.bool a) (hy:ev ρ y=.bool b) (h:V (.bool (!(a == b))) w):BQ P r ρ w ⟨d,.binOp .neq t x y u,ty,pos,aft,g⟩ V:=
  Bl (by simp) (by simp [execOp,hx,hy,eqGuard,binOp,run_equal_bool w t a b hu]) h
theorem Sn {e:TypeId} {a:Option Addr} {m c m' c':Nat} (hu:P.underlying t=some (.slice e)) (hx:ev ρ x=.slice a m c) (hy:ev ρ y=.slice none m' c') (h:V (.bool a.isNone) w):BQ P r ρ w ⟨d,.binOp .eql t x y u,ty,pos,aft,g⟩ V:=
  Bl (v:=.bool a.isNone) (by simp) (by simp [execOp,hx,hy,eqGuard,Lib.run_eql_slice_nil w t e a m c m' c' hu]) h
theorem OC {s:TypeId} {q q':IntKind} {dsc:TypeDesc} (hs:P.underlying s=some dsc) (ht:P.underlying t=some (.int q')) (hx:ev ρ x=.int q m) (h:V (.int q' (q'.wrap m)) w):
    BQ P r ρ w ⟨d,.convert s t x,ty,pos,aft,g⟩ V:=
  Bl (v:=.int q' (q'.wrap m)) (by simp) (by simp [execOp,hx,convert,run_underlying hs,run_underlying ht,Conv.intToInt]) h
end ints
end
end Go.Fx
set_option linter.unusedSimpArgs false
set_option linter.unusedVariables false
namespace Go.Fx
open Go Go.RowKit

structure Ty (P:Program) (t:TypeId) (d:TypeDesc) (n b:Nat) (z:List Value) (ag:Bool):Prop where
  und:P.underlying t=some d
  info:∃i,P.info? t=some i∧i.size=n∧i.bytes=b∧∃zv,i.zero=some zv∧zv.cells=z.toArray
  agg:∀w,(isAgg t).run P w=.ok ag w
  zl:z.length=n

section
variable {P : Program} {t : TypeId} {td : TypeDesc} {n b : Nat} {z : List Value} {ag : Bool}
theorem Ty.runU (T:Ty P t td n b z ag) (w:World):(underlying t).run P w=.ok td w:=run_underlying T.und w
theorem Ty.runSize (T:Ty P t td n b z ag) (w:World):(Go.sizeOf t).run P w=.ok n w:=by
  obtain⟨i,h1,h2,_⟩:=T.info
  simp [Go.sizeOf,typeInfo,h1,h2]
theorem Ty.runZero (T:Ty P t td n b z ag) (w:World):∃zv,(zeroValue t).run P w=.ok zv w∧zv.cells=z.toArray:=by
  obtain⟨i,h1,h2,_,zv,h3,h4⟩:=T.info
  exact⟨zv,by simp [zeroValue,typeInfo,h1,h3],h4⟩
theorem Ty.infoSize (T:Ty P t td n b z ag):(P.info? t).map (·.size)=some n:=by
  obtain⟨i,h1,h2,_⟩:=T.info
  simp [h1,h2]
end

theorem JG {P:Program} (e:TypeId) (cs:Array Value) (w:World):(newRow e cs).run P w=.ok ⟨w.heap.size,0,none⟩ (w.alloc (.cells cs e)):=by
  simp [newRow,newObj,Sem.run]

section
variable {P : Program} {r : Option Nat} {ρ : EX} {w : World} {d : Option Nat} {ty : TypeId} {pos : String} {aft : Array Edge} {g : Option (Nat × Bool)} {V : Value → World → Prop}
variable {w0 : Zx} {O0 : List Nat} {bs : Bi}
variable {x y : Operand} {t : TypeId} {td : TypeDesc} {n b : Nat} {z : List Value} {ag : Bool}

theorem Bx (T:Ty P t td n b z ag) (hs:St w0 O0 w bs)
    (k:∀bl w',GH w w'→AB (ks bs O0) w (ks ((some bl,.cells z.toArray t)::bs) O0) w'→St w0 O0 w' ((some bl,.cells z.toArray t)::bs)→V (.pointer (some ⟨bl,0,none⟩)) w'):
    BQ P r ρ w ⟨d,.alloc t,ty,pos,aft,g⟩ V:=by
  obtain⟨zv,h1,h2⟩:=T.runZero w
  refine Bl (v:=.pointer (some ⟨w.heap.size,0,none⟩)) (w':=w.alloc (.cells z.toArray t)) (by simp) ?_ (k _ _ (GH.alloc w _) (AB.alloc w O0 bs _) (hs.alloc _))
  simp only [execOp,Instr.alloc,Sem.run_bind,h1,Result.andThen_ok,newVar,JG,h2,Sem.run_pure]

theorem BV {v:Value} {cs:List Value} (hs:St w0 O0 w bs) (hx:ev ρ x=v) (hv:v.cells=cs.toArray)
    (k:∀bl w',GH w w'→AB (ks bs O0) w (ks ((some bl,.cells cs.toArray t)::bs) O0) w'→St w0 O0 w' ((some bl,.cells cs.toArray t)::bs)→V (.pointer (some ⟨bl,0,none⟩)) w'):
    BQ P r ρ w ⟨d,.box t x,ty,pos,aft,g⟩ V:=by
  refine Bl (v:=.pointer (some ⟨w.heap.size,0,none⟩)) (w':=w.alloc (.cells cs.toArray t)) (by simp) ?_ (k _ _ (GH.alloc w _) (AB.alloc w O0 bs _) (hs.alloc _))
  simp only [execOp,Instr.box,Sem.run_bind,Result.andThen_ok,newVar,JG,hx,hv,Sem.run_pure]

/-! reading -/
theorem N5 {p:Addr} {v:Value} (h:w.cell? p=some v):(load p).run P w=.ok v w:=by simp [load,Sem.run,h]
theorem JH {bl off:Nat} {cs:Array Value} {e:TypeId} {fz:Nat × Nat} (h:w.heap[bl]?=some (.cells cs e fz)):w.cell? ⟨bl,off,none⟩=cs[off]?:=by
  simp [World.cell?,h]
theorem Km (T:Ty P t td n b z true) {p:Addr} {vs:List Value} (hp:p.spot=none) {cs:Array Value} {e:TypeId} {fz:Nat × Nat} (h:w.heap[p.block]?=some (.cells cs e fz))
    (hv:(cs.toList.drop p.off).take n=vs) (hn:vs.length=n):(loadVar t p).run P w=.ok (.agg vs.toArray) w:=by
  have hl:(loadCells p n).run P w=.ok vs.toArray w:=by
    have:=run_loadCells_list (P:=P) (w:=w) p vs fun j v hj=>by
      rw [Addr.add_spot hp,JH h]
      rw [← hv,List.getElem?_take,List.getElem?_drop] at hj
      split at hj
      · simpa using hj
      · cases hj
    rw [hn] at this
    exact this
  simp only [loadVar,Sem.run_bind,T.agg,Result.andThen_ok,if_true,T.runSize,hl,Sem.run_pure]
theorem Kn (T:Ty P t td n b z false) {p:Addr} {v:Value} (hp:w.cell? p=some v):(loadVar t p).run P w=.ok v w:=by
  simp only [loadVar,Sem.run_bind,T.agg,Result.andThen_ok,Bool.false_eq_true,if_false,N5 hp]

theorem Q3 (T:Ty P t td n b z false) {bl off i:Nat} {cs:List Value} {e:TypeId} {fz:Nat × Nat} {v:Value} (hs:St w0 O0 w bs) (hx:ev ρ x=.pointer (some ⟨bl,off,none⟩))
    (hi:bs[i]?=some (some bl,.cells cs.toArray e fz)) (hv:cs[off]?=some v) (k:V v w):BQ P r ρ w ⟨d,.load t x,ty,pos,aft,g⟩ V:=
  Bl (by simp) (by
    simp only [execOp,hx,Instr.loadAt,Instr.sureAddr,Sem.run_bind,Sem.run_pure,Result.andThen_ok,Kn T ((JH (hs.get hi)).trans (by simpa using hv))]) k
theorem GI (T:Ty P t td n b z true) {bl off i:Nat} {cs vs:List Value} {e:TypeId} {fz:Nat × Nat} (hs:St w0 O0 w bs) (hx:ev ρ x=.pointer (some ⟨bl,off,none⟩))
    (hi:bs[i]?=some (some bl,.cells cs.toArray e fz)) (hv:(cs.drop off).take n=vs) (hn:vs.length=n) (k:V (.agg vs.toArray) w):BQ P r ρ w ⟨d,.load t x,ty,pos,aft,g⟩ V:=
  Bl (by simp) (by
    simp only [execOp,hx,Instr.loadAt,Instr.sureAddr,Sem.run_bind,Sem.run_pure,Result.andThen_ok,Km (p:=⟨bl,off,none⟩) T rfl (hs.get hi) (by simpa using hv) hn]) k
theorem AX {α:Type} {O:List Nat} {q:Rp α} {a:α} (T:Ty P t td 1 b z false) {p:Addr} (hx:ev ρ x=.pointer (some p)) (h:Iy q w O p a) (hq:q.n=1)
    (k:∀v,q.rd w O [v] a→V v w):BQ P r ρ w ⟨d,.load t x,ty,pos,aft,g⟩ V:=by
  obtain⟨h1,h2,cs,e,fz,h3,h4,h5⟩:=h
  rw [hq] at h5
  have hl:p.off<cs.size:=by omega
  have hc:w.cell? p=some cs[p.off]:=by
    cases p
    simp only at h1
    subst h1
    exact(JH h3).trans (by simp [hl])
  have h6:(cs.toList.drop p.off).take 1=[cs[p.off]]:=by
    rw [List.drop_eq_getElem_cons (by simpa using hl)]
    simp
  rw [h6] at h5
  exact Bl (by simp) (by simp only [execOp,hx,Instr.loadAt,Instr.sureAddr,Sem.run_bind,Sem.run_pure,Result.andThen_ok,Kn T hc]) (k _ h5)
theorem BF {α:Type} {O:List Nat} {q:Rp α} {a:α} (T:Ty P t td n b z true) {p:Addr} (hx:ev ρ x=.pointer (some p)) (h:Iy q w O p a) (hq:q.n=n)
    (k:∀vs,q.rd w O vs a→V (.agg vs.toArray) w):BQ P r ρ w ⟨d,.load t x,ty,pos,aft,g⟩ V:=by
  obtain⟨h1,h2,cs,e,fz,h3,h4,h5⟩:=h
  exact Bl (by simp) (by simp only [execOp,hx,Instr.loadAt,Instr.sureAddr,Sem.run_bind,Sem.run_pure,Result.andThen_ok,Km T h1 h3 rfl (by rw [← hq];exact q.len h5),← hq]) (k _ h5)

/-! addresses -/
theorem C2 {fs:Array Field} {f fn fb:Nat} {fl:Field} {fd:TypeDesc} {fz:List Value} {fa:Bool} {p p':Addr} (T:Ty P t (.struct fs) n b z ag) (hf:fs[f]?=some fl) (F:Ty P fl.type fd fn fb fz fa) (hn:fn≠0)
    (hx:ev ρ x=.pointer (some p)) (hp:p.add fl.offset=p') (k:V (.pointer (some p')) w):BQ P r ρ w ⟨d,.fieldAddr t x f,ty,pos,aft,g⟩ V:=
  Bl (by simp) (by simp [execOp,hx,Instr.fieldAt,T.runU,hf,Instr.sureAddr,fieldPlace,F.runSize,hn,hp]) k
theorem AC {α:Type} {O:List Nat} [Inhabited α] {q:Rp α} {xs:List α} {e:TypeId} {dt:TypeDesc} {a:Option Addr} {c:Nat} {m:Int} {kd:IntKind} {bt:Nat} {tz:List Value} {ta:Bool} (T:Ty P t (.slice e) 1 bt tz ta) (E:Ty P e dt n b z ag)
    (hx:ev ρ x=.slice a xs.length c) (hy:ev ρ y=.int kd m) (h:CA q w O a c xs) (hq:q.n=n) (h0:0≤m) (hm:m<xs.length)
    (k:∀p,Iy q w O p (xs.getD m.toNat default)→V (.pointer (some p)) w):BQ P r ρ w ⟨d,.indexAddr t x y,ty,pos,aft,g⟩ V:=by
  obtain⟨ad,rfl,hp⟩:=h.at (i:=m.toNat) (by omega)
  refine Bl (v:=.pointer (some (ad.add (m.toNat*n)))) (by simp) ?_ (k _ ?_)
  · simp only [execOp, hx, hy, Instr.indexAt, asIntOf, Sem.run_bind, Sem.run_pure, Result.andThen_ok, T.runU, Bool.and_false, Bool.false_eq_true]
    simp [h0,hm,E.runSize]
  · rw [← hq]
    have:xs.getD m.toNat default=xs[m.toNat]'(by omega):=by simp [List.getD_eq_getElem?_getD,List.getElem?_eq_getElem (show m.toNat<xs.length by omega)]
    rw [this];exact hp
theorem KQ {e:TypeId} {dt:TypeDesc} {bl o l c:Nat} {m:Int} {kd:IntKind} {bt:Nat} {tz:List Value} {ta:Bool} (T:Ty P t (.slice e) 1 bt tz ta) (E:Ty P e dt n b z ag)
    (hx:ev ρ x=.slice (some ⟨bl,o,none⟩) l c) (hy:ev ρ y=.int kd m) (h0:0≤m) (hm:m<l)
    (k:V (.pointer (some ⟨bl,o+m.toNat*n,none⟩)) w):BQ P r ρ w ⟨d,.indexAddr t x y,ty,pos,aft,g⟩ V:=by
  refine Bl (v:=.pointer (some ⟨bl,o+m.toNat*n,none⟩)) (by simp) ?_ k
  simp only [execOp,hx,hy,Instr.indexAt,asIntOf,Sem.run_bind,Sem.run_pure,Result.andThen_ok,T.runU,Bool.and_false,Bool.false_eq_true]
  simp [h0,hm,E.runSize,Addr.add_lit]
/-! lengths -/
theorem Bd {e:TypeId} {a:Option Addr} {l c:Nat} {u:TypeId} (hu:P.underlying u=some (.slice e)) (hx:ev ρ x=.slice a l c) (k:V (.int .i64 l) w):
    BQ P r ρ w ⟨d,.call ⟨.builtin .len,#[x],#[u]⟩,ty,pos,aft,g⟩ V:=
  Bl (by simp) (by simp [execOp,resolve,invoke,builtin,Builtin.len_,hx,run_underlying hu,goInt]) k

theorem FT {f:FuncId} {args:Array Operand} {us:Array TypeId} {vs:List Value} {R:Value→World→Prop} (hc:∀(args:Array Value) (w:World),(callFunc f args).run P w=.ok (.enter f args) w)
    (h:Fn P f vs w R) (ha:args.toList.map (ev ρ)=vs) (k:∀v w',R v w'→V v w'):BQ P r ρ w ⟨d,.call ⟨.value (.func f),args,us⟩,ty,pos,aft,g⟩ V:=by
  refine MF (f:=f) (args:=vs) (w':=w) (by simp) ?_ h k
  have:args.map (ev ρ)=vs.toArray:=by rw [← ha,← Array.toList_map]
  simp [execOp,resolve,Deferred.ofValue,ev,invoke,hc,this]
end
end Go.Fx
set_option linter.unusedSimpArgs false
set_option linter.unusedVariables false
namespace Go.Fx
open Go Go.RowKit

def Ia (cs:List Value) (o:Nat) (vs:List Value):List Value:=cs.take o++vs++cs.drop (o+vs.length)
theorem Jc {cs:List Value} {o:Nat} {vs:List Value} (h:o+vs.length≤cs.length):(Ia cs o vs).length=cs.length:=by
  simp [Ia];omega
section
variable {P : Program} {r : Option Nat} {ρ : EX} {w : World} {d : Option Nat} {ty : TypeId} {pos : String} {aft : Array Edge} {g : Option (Nat × Bool)} {V : Value → World → Prop}
variable {w0 : Zx} {O0 : List Nat} {bs bs' : Bi}
variable {x y : Operand} {t : TypeId} {td : TypeDesc} {n b : Nat} {z : List Value} {ag : Bool}

theorem LP {bl:Nat} {cs:Array Value} {e:TypeId} {fz:Nat × Nat} (h:w.heap[bl]?=some (.cells cs e fz)) (cs':Array Value):(w.setRow bl cs').heap[bl]?=some (.cells cs' e fz):=setRow_heap w bl cs cs' e fz h
theorem Ko {bl:Nat} {cs':Array Value} :(w.setRow bl cs').heap.size=w.heap.size:=by simp [World.setRow]

theorem St.setRow (hs:St w0 O0 w bs) {i bl:Nat} {cs:Array Value} {e:TypeId} {fz:Nat × Nat} (hi:bs[i]?=some (some bl,.cells cs e fz)) (cs':Array Value):
    St w0 O0 (w.setRow bl cs') (bs.set i (some bl,.cells cs' e fz))∧AB (ks bs O0) w (ks (bs.set i (some bl,.cells cs' e fz)) O0) (w.setRow bl cs'):=by
  have hg:=hs.get hi
  have ho:∀j,j<w.heap.size→some bl≠some j→(w.setRow bl cs').heap[j]?=w.heap[j]?:=fun j _ hj=>setRow_other w bl j cs' (fun e=>hj (by rw [e]))
  have hb:=(hs.own _ (List.mem_of_getElem? hi) bl rfl).1
  refine⟨hs.put hi ⟨hs.below.os,hs.below.tape,hs.below.output,by rw [Ko];exact hs.below.size,fun k hk hn=>?_,hs.below.drawn⟩ (by rw [Ko];exact Nat.le_refl _) (fun j hj=>?_) ho,AB.put hi (by rw [Ko];exact Nat.le_refl _) (fun j hj=>.inl hj) ho⟩
  · rw [setRow_other w bl k cs' (by rintro rfl;rcases hb with h |h<;> first |exact hn h |omega)];exact hs.below.block k hk hn
  · cases hj;exact⟨.inl rfl,LP hg cs'⟩

theorem M5 {bl o:Nat} {cs vs:List Value} {e:TypeId} (hg:w.heap[bl]?=some (.cells cs.toArray e (0,0))) (hl:o+vs.length≤cs.length) (h1:vs.all (·.oneCell')=true):
    (storeCells ⟨bl,o,none⟩ vs).run P w=.ok () (w.setRow bl (Ia cs o vs).toArray):=by
  have:=run_storeCells_at P bl o e vs 0 cs.toArray w hg (by simpa using hl) (by simpa using h1)
  simpa [Ia] using this

theorem Il (T:Ty P t td n b z ag) {bl off i:Nat} {cs vs:List Value} {e:TypeId} {v:Value} (hs:St w0 O0 w bs) (hx:ev ρ x=.pointer (some ⟨bl,off,none⟩)) (hy:ev ρ y=v)
    (hi:bs[i]?=some (some bl,.cells cs.toArray e (0,0))) (hv:v.cells=vs.toArray) (hn:vs.length=n) (hl:off+n≤cs.length) (h1:vs.all (·.oneCell')=true) {cs':List Value} (hc:Ia cs off vs=cs')
    (hb:bs.set i (some bl,.cells cs'.toArray e (0,0))=bs')
    (k:∀w',AB (ks bs O0) w (ks bs' O0) w'→St w0 O0 w' bs'→V undef w'):BQ P r ρ w ⟨d,.store t x y,ty,pos,aft,g⟩ V:=by
  obtain⟨h2,h3⟩:=hs.setRow hi cs'.toArray
  subst hc hb
  have h4:off+vs.length≤cs.length:=by omega
  refine LO (by simp) ?_ (k _ h3 h2)
  simp only [execOp,hx,hy,Instr.storeAt,Instr.sureAddr,storeVar,Sem.run_bind,Sem.run_pure,Result.andThen_ok,T.runSize,hv,List.size_toArray,hn,ne_eq,not_true_eq_false,if_false,M5 (hs.get hi) h4 h1]

/-! slices of slices -/
def Qc (ρ:EX) (o:Option Operand) (dflt m:Nat):Prop:=match o with
  |none=>m=dflt
  |some x=>∃q,ev ρ x=.int q (m:Int)

theorem CA.sub {α:Type} {q:Rp α} {O:List Nat} {a:Option Addr} {c:Nat} {xs:List α} (h:CA q w O a c xs) {l hi mx:Nat} (h1:l≤hi) (h2:hi≤xs.length) (h3:hi≤mx) (h4:mx≤c):
    CA q w O (if mx=l then a else a.map (·.add (l*q.n))) (mx - l) ((xs.drop l).take (hi - l)):=by
  have hle:=h.le
  have hcap:=h.cap
  refine⟨by simp;omega,by omega,fun hn=>?_,fun ad ha i hi'=>?_⟩
  · have:a=Option.none:=by
      split at hn
      · exact hn
      · simpa using hn
    have:=h.nil this
    simp [this.1];omega
  · simp only [List.length_take, List.length_drop] at hi'
    split at ha
    · omega
    · cases a with
      |none=>simp at ha
      |some ad0=>
        simp only [Option.map_some,Option.some.injEq] at ha
        subst ha
        have:=h.el ad0 rfl (l+i) (by omega)
        rw [Addr.add_add,← Nat.add_mul]
        simpa using this


theorem EZ {q:IntKind} {m y:Nat} {code:BoundsCode} (h:m≤y):(Instr.sliceBound (.int q (m:Int)) y code).run P w=.ok m w:=by
  have h1:(0:Int)≤m∧(m:Int)≤y:=by omega
  simp [Instr.sliceBound,asIntOf,h1]
theorem Kd {is:Bool} {len cap l h m:Nat} {lo hi mx:Option Operand} (hl:Qc ρ lo 0 l) (hh:Qc ρ hi len h) (hm:Qc ρ mx cap m) (h1:l≤h) (h3:h≤m) (h4:m≤cap) (hmh:mx.isSome=true→hi.isSome=true):
    (Instr.sliceBounds is len cap (lo.map (ev ρ)) (hi.map (ev ρ)) (mx.map (ev ρ))).run P w=.ok (l,h,m) w:=by
  cases mx with
  |none=>
    simp only [Qc] at hm;subst hm
    cases hi with
    |none=>
      simp only [Qc] at hh;subst hh
      cases lo with
      |none=>simp only [Qc] at hl;subst hl;simp [Instr.sliceBounds]
      |some lo=>obtain⟨q,e⟩:=hl;simp [Instr.sliceBounds,e,EZ h1]
    |some hi=>
      obtain⟨q',e'⟩:=hh
      cases lo with
      |none=>simp only [Qc] at hl;subst hl;simp [Instr.sliceBounds,e',EZ h3]
      |some lo=>obtain⟨q,e⟩:=hl;simp [Instr.sliceBounds,e,e',EZ h1,EZ h3]
  |some mx=>
    obtain⟨q3,e3⟩:=hm
    cases hi with
    |none=>simp at hmh
    |some hi=>
      obtain⟨q',e'⟩:=hh
      cases lo with
      |none=>simp only [Qc] at hl;subst hl;simp [Instr.sliceBounds,e',e3,EZ h3,EZ h4]
      |some lo=>obtain⟨q,e⟩:=hl;simp [Instr.sliceBounds,e,e',e3,EZ h1,EZ h3,EZ h4]

theorem MG {α:Type} {O:List Nat} {q:Rp α} {xs:List α} {a:Option Addr} {c l h m bt:Nat} {tz:List Value} {ta:Bool} {e:TypeId} {lo hi mx:Option Operand} (T:Ty P t (.slice e) 1 bt tz ta) (E:Ty P e td n b z ag)
    (hx:ev ρ x=.slice a xs.length c) (hsl:CA q w O a c xs) (hq:q.n=n) (hl:Qc ρ lo 0 l) (hh:Qc ρ hi xs.length h) (hm:Qc ρ mx c m) (hmh:mx.isSome=true→hi.isSome=true)
    (h1:l≤h) (h2:h≤xs.length) (h3:h≤m) (h4:m≤c)
    (k:∀a',CA q w O a' (m - l) ((xs.drop l).take (h - l))→V (.slice a' ((xs.drop l).take (h - l)).length (m - l)) w):BQ P r ρ w ⟨d,.slice t x lo hi mx,ty,pos,aft,g⟩ V:=by
  have hlen:((xs.drop l).take (h - l)).length=h - l:=by simp;omega
  have hk:=k _ (hsl.sub h1 h2 h3 h4)
  rw [hlen] at hk
  refine Bl (by simp) ?_ hk
  simp only [execOp,hx,Instr.sliceAt,Sem.run_bind,T.runU,Result.andThen_ok,Instr.slice,Kd hl hh hm h1 h3 h4 hmh,E.runSize,Sem.run_pure,hq]
theorem NL {bl o len c l h m bt:Nat} {tz:List Value} {ta:Bool} {e:TypeId} {lo hi mx:Option Operand} (T:Ty P t (.slice e) 1 bt tz ta) (E:Ty P e td n b z ag)
    (hx:ev ρ x=.slice (some ⟨bl,o,none⟩) len c) (hl:Qc ρ lo 0 l) (hh:Qc ρ hi len h) (hm:Qc ρ mx c m) (hmh:mx.isSome=true→hi.isSome=true)
    (h1:l≤h) (h3:h≤m) (h4:m≤c)
    (k:V (.slice (some ⟨bl,if m=l then o else o+l*n,none⟩) (h - l) (m - l)) w):BQ P r ρ w ⟨d,.slice t x lo hi mx,ty,pos,aft,g⟩ V:=by
  refine Bl (by simp) ?_ k
  simp only [execOp,hx,Instr.sliceAt,Sem.run_bind,T.runU,Result.andThen_ok,Instr.slice,Kd hl hh hm h1 h3 h4 hmh,E.runSize,Sem.run_pure]
  split<;> simp [Addr.add_lit]
/-! building -/
def I0:Value→List Value
  |.agg cs=>cs.toList
  |v=>[v]
theorem NM (v:Value):v.cells=(I0 v).toArray:=by cases v<;> simp [I0,Value.cells]
def NN (place:Nat→Option (Nat × Nat)):List Value→List (Nat × Value)→Option (List Value)
  |cells,[] =>some cells
  |cells,(i,v)::rest=>match place i with
    |none=>none
    |some (off,size)=>bif (I0 v).length == size&&Nat.ble (off+(I0 v).length) cells.length then NN place (Ia cells off (I0 v)) rest else none
theorem HC {cs:List Value} {o:Nat} {vs:List Value} (h:o+vs.length≤cs.length) (j:Nat):(Ia cs o vs)[j]?=if o≤j∧j<o+vs.length then vs[j - o]? else cs[j]?:=by
  unfold Ia
  rw [List.append_assoc,List.getElem?_append,List.length_take,Nat.min_eq_left (by omega)]
  split
  · rename_i hj;rw [if_neg (by omega),List.getElem?_take,if_pos hj]
  · rename_i hj
    rw [List.getElem?_append]
    split
    · rename_i h2;rw [if_pos (by omega)]
    · rename_i h2
      rw [if_neg (by omega),List.getElem?_drop]
      congr 1;omega
theorem Q4:∀(vs:List Value) (cs:Array Value) (off k:Nat),off+k+vs.length≤cs.size→
    ((vs.zipIdx k).foldl (fun(cs:Array Value) p=>cs.setIfInBounds (off+p.2) p.1) cs).size=cs.size∧
    ∀j:Nat,((vs.zipIdx k).foldl (fun(cs:Array Value) p=>cs.setIfInBounds (off+p.2) p.1) cs)[j]?=if off+k≤j∧j<off+k+vs.length then vs[j - (off+k)]? else cs[j]?
  |[],cs,off,k,_=>⟨rfl,fun j=>by rw [if_neg (by simp only [List.length_nil];omega)];rfl⟩
  |v::vs,cs,off,k,h=>by
    simp only [List.length_cons] at h
    obtain⟨h1,h2⟩:=Q4 vs (cs.setIfInBounds (off+k) v) off (k+1) (by simp;omega)
    rw [List.zipIdx_cons,List.foldl_cons]
    refine⟨by rw [h1];simp,fun j=>?_⟩
    rw [h2 j]
    simp only [List.length_cons,Array.getElem?_setIfInBounds]
    by_cases c1:off+(k+1)≤j∧j<off+(k+1)+vs.length
    · rw [if_pos c1, if_pos (by omega)]
      obtain⟨m,hm⟩:∃m,j - (off+k)=m+1:=⟨j - (off+k) - 1,by omega⟩
      rw [hm,List.getElem?_cons_succ]
      congr 1;omega
    · rw [if_neg c1]
      by_cases c2:off+k=j
      · subst c2
        rw [if_pos rfl,if_pos (by omega),if_pos (by omega)]
        simp
      · rw [if_neg c2,if_neg (by omega)]
theorem OD (place:Nat→Option (Nat × Nat)):∀(parts:List (Nat × Value)) (cells out:List Value),NN place cells parts=some out→Instr.fill place cells.toArray parts=some out.toArray
  |[],cells,out,h=>by simp only [NN,Option.some.injEq] at h;subst h;rfl
  |(i,v)::rest,cells,out,h=>by
    simp only [NN] at h
    simp only [Instr.fill]
    cases hp:place i with
    |none=>rw [hp] at h;cases h
    |some q=>
      obtain⟨off,size⟩:=q
      rw [hp] at h
      simp only at h
      cases hc:((I0 v).length == size&&Nat.ble (off+(I0 v).length) cells.length) with
      |false=>rw [hc] at h;cases h
      |true=>
        rw [hc] at h
        simp only [cond_true] at h
        simp only [Bool.and_eq_true,beq_iff_eq] at hc
        obtain⟨c1,c2⟩:=hc
        have c2':=Nat.le_of_ble_eq_true c2
        have hsz:v.cells.size=(I0 v).length:=by rw [NM];simp
        simp only [hsz,List.size_toArray]
        rw [if_neg (by simp only [Bool.or_eq_true,decide_eq_true_eq,ne_eq];omega)]
        have e:(v.cells.zipIdx.foldl (fun cs (x:Value × Nat)=>cs.setIfInBounds (off+x.2) x.1) cells.toArray)=(Ia cells off (I0 v)).toArray:=by
          obtain⟨s1,s2⟩:=Q4 (I0 v) cells.toArray off 0 (by simpa using c2')
          rw [NM]
          have e0:((I0 v).toArray.zipIdx.foldl (fun cs (x:Value × Nat)=>cs.setIfInBounds (off+x.2) x.1) cells.toArray)=(((I0 v).zipIdx 0).foldl (fun(cs:Array Value) p=>cs.setIfInBounds (off+p.2) p.1) cells.toArray):=by
            simp
          rw [e0]
          apply Array.ext_getElem?
          intro j
          rw [s2 j]
          simp only [List.getElem?_toArray,Nat.add_zero]
          rw [HC c2']
        have:=OD place rest _ out h
        rw [← e] at this
        exact this
def Un (z:List Value):Nat→List Value
  |0=>[]
  |k+1=>z++Un z k
theorem MH (z:List Value):∀k,(Un z k).length=k*z.length
  |0=>by simp [Un]
  |k+1=>by simp [Un,MH z k,Nat.add_mul];omega
theorem Q5 (z:List Value):∀k i,i<k*z.length→(Un z k)[i]?=z[i % z.length]?
  |0,i,h=>by omega
  |k+1,i,h=>by
    have hz:0<z.length:=by
      rcases Nat.eq_zero_or_pos z.length with e |e
      · rw [e] at h;omega
      · exact e
    simp only [Un,List.getElem?_append]
    split
    · rename_i hi;rw [Nat.mod_eq_of_lt hi]
    · rename_i hi
      rw [Nat.add_mul,Nat.one_mul] at h
      rw [Q5 z k _ (by omega)]
      congr 1
      exact(Nat.mod_eq_sub_mod (by omega)).symm
theorem UO (z:List Value) (k n:Nat) (hn:z.length=n):(Array.range (k*n)).map (z.toArray[· % z.toArray.size]!)=(Un z k).toArray:=by
  subst hn
  apply Array.ext_getElem?
  intro i
  simp only [Array.getElem?_map,List.getElem?_toArray]
  rcases Nat.lt_or_ge i (k*z.length) with h |h
  · rw [Q5 z k i h, Array.getElem?_range, if_pos h]
    have hz:0<z.length:=by
      rcases Nat.eq_zero_or_pos z.length with e |e
      · rw [e] at h;omega
      · exact e
    have:=Nat.mod_lt i hz
    simp [List.getElem?_eq_getElem this]
  · rw [List.getElem?_eq_none (by rw [MH]; exact h)]
    simp;omega
def JI (P:Program) (fs:Array Field) (pl:List (Nat × Nat)):Prop:=∀w,(fs.mapM fun(f:Field)=>(do pure (f.offset,← Go.sizeOf f.type):Sem (Nat × Nat))).run P w=.ok pl.toArray w
theorem Dv {fs:Array Field} {parts:List (Nat × Operand)} {vs:List Value} {pl:List (Nat × Nat)} (T:Ty P t (.struct fs) n b z ag)
    (hpl:JI P fs pl)
    (hf':NN (pl[·]?) z (parts.map fun p=>(p.1,ev ρ p.2))=some vs) (k:V (.agg vs.toArray) w):
    BQ P r ρ w ⟨d,.build t parts.toArray,ty,pos,aft,g⟩ V:=by
  obtain⟨zv,h1,h2⟩:=T.runZero w
  have hf:Instr.fill (pl.toArray[·]?) z.toArray (parts.toArray.map fun(i,x)=>(i,ev ρ x)).toList=some vs.toArray:=by
    have:=OD _ _ _ _ hf'
    simpa using this
  refine Bl (by simp) ?_ k
  simp only [execOp,Instr.build,Sem.run_bind,h1,Result.andThen_ok,h2,T.runU]
  have h3:=hpl w
  rw [h3]
  simp only [Result.andThen_ok]
  rw [hf]
  simp only [Sem.run_pure,Result.andThen_ok]
theorem Bf {e:TypeId} {len bt:Nat} {tz:List Value} {ta:Bool} {parts:List (Nat × Operand)} {cs:List Value} (T:Ty P t (.slice e) 1 bt tz ta) (E:Ty P e td n b z ag) (hs:St w0 O0 w bs)
    (hl:decide (len*n≤16777216)=true)
    (hf':NN (fun i=>some (i*n,n)) (Un z len) (parts.map fun p=>(p.1,ev ρ p.2))=some cs)
    (k:∀bl w',GH w w'→AB (ks bs O0) w (ks ((some bl,.cells cs.toArray e)::bs) O0) w'→St w0 O0 w' ((some bl,.cells cs.toArray e)::bs)→V (.slice (some ⟨bl,0,none⟩) len len) w'):
    BQ P r ρ w ⟨d,.buildSlice t len parts.toArray,ty,pos,aft,g⟩ V:=by
  have hf:Instr.fill (fun i=>some (i*n,n)) ((Array.range (len*n)).map (z.toArray[· % z.toArray.size]!)) (parts.toArray.map fun(i,x)=>(i,ev ρ x)).toList=some cs.toArray:=by
    rw [UO z len n E.zl]
    have:=OD _ _ _ _ hf'
    simpa using this
  have hl': ¬len*n > 2 ^ 24:=by simp at hl;omega
  obtain⟨zv,h1,h2⟩:=E.runZero w
  refine Bl (v:=.slice (some ⟨w.heap.size,0,none⟩) len len) (w':=w.alloc (.cells cs.toArray e)) (by simp) ?_ (k _ _ (GH.alloc w _) (AB.alloc w O0 bs _) (hs.alloc _))
  simp only [execOp,Instr.buildSlice,Sem.run_bind,T.runU,Result.andThen_ok,E.runSize,hl',if_false]
  by_cases h0:len*n=0
  · rw [if_pos h0]
    have e1:((Array.range (len*n)).map ((#[]:Array Value)[· % (#[]:Array Value).size]!))=((Array.range (len*n)).map (z.toArray[· % z.toArray.size]!)):=by rw [h0];simp
    simp only [Sem.run_bind,Sem.run_pure,Result.andThen_ok]
    rw [e1,hf]
    simp only [Sem.run_bind,JG,Result.andThen_ok,Sem.run_pure]
  · rw [if_neg h0]
    simp only [Sem.run_bind,h1,Result.andThen_ok,Sem.run_pure,h2]
    rw [hf]
    simp only [Result.andThen_ok,Sem.run_bind,JG,Sem.run_pure]

theorem N6 (v:Value) (k:Nat):madeCells #[v] k=(List.replicate k v).toArray:=by
  apply Array.ext
  · simp [madeCells]
  · intro i h1 h2
    simp [madeCells,Nat.mod_one]
theorem OE {e:TypeId} {bt l c:Nat} {tz:List Value} {ta:Bool} {v:Value} {kl kc:IntKind} (T:Ty P t (.slice e) 1 bt tz ta) (E:Ty P e td 1 b [v] ag) (hs:St w0 O0 w bs)
    (hx:ev ρ x=.int kl (l:Int)) (hy:ev ρ y=.int kc (c:Int)) (hlc:l≤c) (hb:b*c≤281474976710656) (hc:c≤maxLen)
    (k:∀bl w',GH w w'→AB (ks bs O0) w (ks ((some bl,.cells (List.replicate c v).toArray e)::bs) O0) w'→St w0 O0 w' ((some bl,.cells (List.replicate c v).toArray e)::bs)→V (.slice (some ⟨bl,0,none⟩) l c) w'):
    BQ P r ρ w ⟨d,.makeSlice t x y,ty,pos,aft,g⟩ V:=by
  obtain⟨i,h1,h2,h3,zv,h4,h5⟩:=E.info
  refine Bl (v:=.slice (some ⟨w.heap.size,0,none⟩) l c) (w':=w.alloc (.cells (List.replicate c v).toArray e)) (by simp) ?_ (k _ _ (GH.alloc w _) (AB.alloc w O0 bs _) (hs.alloc _))
  have:=run_make (P:=P) w t e i zv T.und h1 h4 kl kc l c (Int.natCast_nonneg l) (Int.ofNat_le.2 hlc) (by rw [h3,← Int.natCast_mul];exact Int.ofNat_le.2 hb) (by unfold maxLen at hc;omega)
  simp only [Int.toNat_natCast,h2,h5,Nat.mul_one] at this
  simp only [execOp,hx,hy,Sem.run_bind,this,Result.andThen_ok,Sem.run_pure,← N6]

/-! append and copy -/
def Mm (w:World) (a:Option Addr) (news:List Value):Prop:=news=[]∨∃ad,a=some ad∧∀j u,news[j]?=some u→w.cell? (ad.add j)=some u
theorem Mm.owned {w:World} {bl o len:Nat} {cs:List Value} {e:TypeId} {fz:Nat × Nat} (h:w.heap[bl]?=some (.cells cs.toArray e fz)):Mm w (some ⟨bl,o,none⟩) ((cs.drop o).take len):=
  .inr ⟨_,rfl,fun j u hj=>by
    rw [Addr.add_lit,JH h]
    rw [List.getElem?_take,List.getElem?_drop] at hj
    split at hj
    · simpa using hj
    · cases hj⟩
theorem CA.src {α:Type} {q:Rp α} {O:List Nat} {a:Option Addr} {c:Nat} {xs:List α} (h:CA q w O a c xs):∃news,Ej q w O news xs∧Mm w a news:=by
  cases a with
  |none=>
    have:=(h.nil rfl).1
    subst this
    exact⟨[],rfl,.inl rfl⟩
  |some ad=>
    obtain⟨cs,h1,h2⟩:=h.cells
    exact⟨cs,h1,.inr ⟨ad,rfl,h2⟩⟩

def Gs {α:Type} (q:Rp α) (e:TypeId) (w:World) (O:List Nat) (a:Option Addr) (c:Nat) (xs:List α) (kk:Option Nat) (o:Obj):Prop:=
  (a=none∧c=0∧xs=[]∧kk=none)∨
  ∃bl cur,a=some ⟨bl,0,none⟩∧kk=some bl∧o=.cells cur e (0,0)∧cur.size=c*q.n∧xs.length≤c∧c≤maxLen∧Ej q w O (cur.toList.take (xs.length*q.n)) xs
theorem Gs.step {α:Type} {q:Rp α} {e:TypeId} {w':World} {O O':List Nat} {a:Option Addr} {c:Nat} {xs:List α} {kk:Option Nat} {o:Obj} (s:AB O w O' w') (h:Gs q e w O a c xs kk o):Gs q e w' O' a c xs kk o:=by
  rcases h with h |⟨bl,cur,h1,h2,h3,h4,h5,h6,h7⟩
  · exact .inl h
  · exact .inr ⟨bl,cur,h1,h2,h3,h4,h5,h6,h7.step s⟩
theorem Gs.nil_ {α:Type} {q:Rp α} {e:TypeId} {O:List Nat} {o:Obj} :Gs q e w O none 0 ([]:List α) none o:=.inl ⟨rfl,rfl,rfl,rfl⟩
theorem Gs.made {α:Type} {q:Rp α} {e:TypeId} {O:List Nat} {bl c:Nat} {cur:Array Value} {xs:List α} (h1:cur.size=c*q.n) (h2:xs.length≤c) (h3:c≤maxLen) (h4:Ej q w O (cur.toList.take (xs.length*q.n)) xs):
    Gs q e w O (some ⟨bl,0,none⟩) c xs (some bl) (.cells cur e):=.inr ⟨bl,cur,rfl,rfl,rfl,h1,h2,h3,h4⟩
theorem Gs.le {α:Type} {q:Rp α} {e:TypeId} {O:List Nat} {a:Option Addr} {c:Nat} {xs:List α} {kk:Option Nat} {o:Obj} (h:Gs q e w O a c xs kk o):xs.length≤c∧c≤maxLen:=by
  rcases h with ⟨_,rfl,rfl,_⟩ |⟨_,_,_,_,_,_,h5,h6,_⟩
  · exact⟨Nat.le_refl _,Nat.zero_le _⟩
  · exact⟨h5,h6⟩

theorem JJ (hs:St w0 O0 w bs) {i bl:Nat} {o:Obj} (hi:bs[i]?=some (some bl,o)):bl ∉ ks (bs.eraseIdx i) O0:=by
  intro hm
  have hb:=(hs.own _ (List.mem_of_getElem? hi) bl rfl).1
  rcases List.mem_append.1 hm with hm |hm
  · have key:∀(bs:Bi) (i:Nat),(bs.filterMap Prod.fst).Nodup→bs[i]?=some (some bl,o)→bl ∉ (bs.eraseIdx i).filterMap Prod.fst:=by
      intro bs
      induction bs with
      |nil=>intro i _ hi;simp at hi
      |cons x bs ih=>
        intro i hnd hi
        have hnd':(bs.filterMap Prod.fst).Nodup:=(List.Sublist.filterMap _ (List.sublist_cons_self x bs)).nodup hnd
        cases i with
        |zero=>
          simp only [List.getElem?_cons_zero,Option.some.injEq] at hi
          subst hi
          rw [List.filterMap_cons_some (show Prod.fst ((some bl,o):Option Nat × Obj)=some bl from rfl),List.nodup_cons] at hnd
          exact hnd.1
        |succ i=>
          have hi':bs[i]?=some (some bl,o):=by simpa using hi
          have:=ih i hnd' hi'
          simp only [List.eraseIdx_cons_succ]
          cases hx:x.1 with
          |none=>rw [List.filterMap_cons_none hx];exact this
          |some c=>
            rw [List.filterMap_cons_some hx,List.mem_cons]
            rw [List.filterMap_cons_some hx,List.nodup_cons] at hnd
            rintro(e |e)
            · subst e;exact hnd.1 (B6.2 ⟨_,List.mem_of_getElem? hi',rfl⟩)
            · exact this e
    exact key bs i hs.nd hi hm
  · exact(hs.dj _ hm).2 (B6.2 ⟨_,List.mem_of_getElem? hi,rfl⟩)

theorem St.publish {α:Type} {q:Rp α} (hs:St w0 O0 w bs) {i bl o c:Nat} {cs:List Value} {e:TypeId} {fz:Nat × Nat} {xs:List α} (hi:bs[i]?=some (some bl,.cells cs.toArray e fz))
    (hE:Ej q w (ks bs O0) ((cs.drop o).take (xs.length*q.n)) xs) (h0:o+xs.length*q.n≤cs.length) (h1:xs.length≤c) (h2:c≤maxLen):
    St w0 O0 w (bs.eraseIdx i)∧AB (ks bs O0) w (ks (bs.eraseIdx i) O0) w∧CA q w (ks (bs.eraseIdx i) O0) (some ⟨bl,o,none⟩) c xs:=by
  have hst:=AB.drop w O0 bs i
  refine⟨hs.drop i,hst,h1,h2,(fun h=>by cases h),fun ad ha j hj=>?_⟩
  cases ha
  rw [Addr.add_lit]
  have hle:(j+1)*q.n≤xs.length*q.n:=Nat.mul_le_mul_right _ hj
  have hj':(j+1)*q.n=j*q.n+q.n:=by rw [Nat.add_mul];omega
  refine⟨rfl,⟨hs.lt (List.mem_of_getElem? hi) rfl,JJ hs hi⟩,cs.toArray,e,fz,hs.get hi,by simp only [List.size_toArray];omega,?_⟩
  have:=q.step hst (hE.get j hj)
  rw [List.drop_take,List.take_take,List.drop_drop,Nat.min_eq_left (by omega)] at this
  simpa using this
theorem Gs.publish {α:Type} {q:Rp α} {e:TypeId} {a:Option Addr} {c i:Nat} {xs:List α} {kk:Option Nat} {o:Obj} (hs:St w0 O0 w bs) (hi:bs[i]?=some (kk,o)) (h:Gs q e w (ks bs O0) a c xs kk o):
    St w0 O0 w (bs.eraseIdx i)∧AB (ks bs O0) w (ks (bs.eraseIdx i) O0) w∧CA q w (ks (bs.eraseIdx i) O0) a c xs:=by
  rcases h with ⟨rfl,rfl,rfl,rfl⟩ |⟨bl,cur,rfl,rfl,rfl,h4,h5,h6,h7⟩
  · exact⟨hs.drop i,AB.drop w O0 bs i,CA.nil_⟩
  · have hle : xs.length * q.n ≤ c * q.n := Nat.mul_le_mul_right _ h5
    exact hs.publish (cs:=cur.toList) (o:=0) (by simpa using hi) (by simpa using h7) (by simp;omega) h5 h6
end
end Go.Fx
set_option linter.unusedSimpArgs false
set_option linter.unusedVariables false
namespace Go.Fx
open Go Go.RowKit
section
variable {P : Program} {r : Option Nat} {ρ : EX} {w : World} {d : Option Nat} {ty : TypeId} {pos : String} {aft : Array Edge} {g : Option (Nat × Bool)} {V : Value → World → Prop}
variable {w0 : Zx} {O0 : List Nat} {bs bs' : Bi}
variable {x y : Operand} {t : TypeId} {td : TypeDesc} {n b : Nat} {z : List Value} {ag : Bool}

theorem M6 (T:Ty P t (.slice n) 1 b z ag) {td':TypeDesc} {m b':Nat} {z':List Value} {ag':Bool} (E:Ty P n td' m b' z' ag') (ty:TypeId) (a a2:Option Addr) (l c c2:Nat) (h:l≤c):
    (Builtin.append_ #[t,t] ty #[.slice a l c,.slice a2 0 c2]).run P w=.ok (.slice a l c) w:=by
  cases a<;> cases a2<;> simp [Builtin.append_,T.runU,E.runSize,Builtin.lenOf,Builtin.firstCells,loadCells,loadCellsFrom,h,storeCells]

theorem St.extend (hs:St w0 O0 w bs) {i:Nat} {kk:Option Nat} {o:Obj} (hi:bs[i]?=some (kk,o)) (o':Obj):
    St w0 O0 (w.drew.alloc o') (bs.set i (some w.heap.size,o'))∧AB (ks bs O0) w (ks (bs.set i (some w.heap.size,o')) O0) (w.drew.alloc o'):=by
  have ho:∀j,j<w.heap.size→kk≠some j→(w.drew.alloc o').heap[j]?=w.heap[j]?:=fun j hj _=>heap_alloc_old w.drew o' j hj
  refine⟨hs.put hi (hs.below.then ((GH.drew w).trans (GH.alloc w.drew o'))) (by simp) (fun j hj=>?_) ho,AB.put hi (by simp) (fun j hj=>.inr ?_) ho⟩
  · cases hj
    exact⟨.inr (Nat.le_refl _),heap_alloc_new w.drew o'⟩
  · cases hj;exact Nat.le_refl _

theorem DR {α:Type} {q:Rp α} {xs ys:List α} {e:TypeId} {a a2:Option Addr} {c c2 i bt:Nat} {tz:List Value} {ta:Bool} {kk:Option Nat} {o:Obj} {news:List Value}
    (T:Ty P t (.slice e) 1 bt tz ta) (E:Ty P e td n b z ag) (hqn:q.n=n) (h0:0<n) (hs:St w0 O0 w bs) (hi:bs[i]?=some (kk,o))
    (hx:ev ρ x=.slice a xs.length c) (hG:Gs q e w (ks bs O0) a c xs kk o) (hy:ev ρ y=.slice a2 ys.length c2) (hS:Mm w a2 news) (hE:Ej q w (ks bs O0) news ys)
    (hb:(xs.length+ys.length)*b≤140737488355328) (h63:xs.length+ys.length≤maxLen)
    (k:∀a' c' k' o' w',AB (ks bs O0) w (ks (bs.set i (k',o')) O0) w'→St w0 O0 w' (bs.set i (k',o'))→Gs q e w' (ks (bs.set i (k',o')) O0) a' c' (xs++ys) k' o'→V (.slice a' (xs++ys).length c') w'):
    BQ P r ρ w ⟨d,.call ⟨.builtin .append,#[x,y],#[t,t]⟩,ty,pos,aft,g⟩ V:=by
  obtain⟨ti,hi1,hi2,hi3,zv,hi4,hi5⟩:=E.info
  have hlen:=hE.len
  have hone:=hE.one
  have hle:=hG.le
  rw [hqn,← hi2] at hlen
  have h63':xs.length+ys.length≤9223372036854775807:=by simpa [maxLen] using h63
  have hzl:zv.cells.size=n:=by rw [hi5];simpa using E.zl
  -- the run, and what it leaves
  have main:∃a' c' k' o' w',(Builtin.append_ #[t,t] ty #[.slice a xs.length c,.slice a2 ys.length c2]).run P w=.ok (.slice a' (xs++ys).length c') w'∧
      AB (ks bs O0) w (ks (bs.set i (k',o')) O0) w'∧St w0 O0 w' (bs.set i (k',o'))∧Gs q e w' (ks (bs.set i (k',o')) O0) a' c' (xs++ys) k' o':=by
    by_cases hys:ys=[]
    · subst hys
      have hself:bs.set i (kk,o)=bs:=by
        apply List.ext_getElem?
        intro j
        rw [List.getElem?_set]
        split
        · rename_i e; subst e
          split
          · exact hi.symm
          · rename_i hl;rw [List.getElem?_eq_none (by omega)]
        · rfl
      refine⟨a,c,kk,o,w,?_,?_,?_,?_⟩
      · simp only [List.append_nil, List.length_nil]
        exact M6 T E ty a a2 _ c c2 hle.1
      · rw [hself];exact AB.refl _ _
      · rw [hself];exact hs
      · rw [hself,List.append_nil];exact hG
    · have hpos : 0 < ys.length := List.length_pos_iff.2 hys
      have hnn:news≠[]:=fun hn=>by
        rw [hn,List.length_nil] at hlen
        have:0<ys.length*ti.size:=Nat.mul_pos hpos (by omega)
        omega
      obtain⟨ad,ha2,hnews⟩:=hS.resolve_left hnn
      subst ha2
      -- a new block
      have fresh:∀(old:Nat) (olds:List Value),Ej q w (ks bs O0) olds xs→
          let o':=Obj.cells (olds.toArray++news.toArray++Builtin.zeroCells zv.cells (grownCap w (xs.length+ys.length) old e - (xs.length+ys.length))) e
          AB (ks bs O0) w (ks (bs.set i (some w.heap.size,o')) O0) (w.drew.alloc o')∧St w0 O0 (w.drew.alloc o') (bs.set i (some w.heap.size,o'))∧
          Gs q e (w.drew.alloc o') (ks (bs.set i (some w.heap.size,o')) O0) (some ⟨w.heap.size,0,none⟩) (grownCap w (xs.length+ys.length) old e) (xs++ys) (some w.heap.size) o':=by
        intro old olds hol o'
        obtain⟨h1,h2⟩:=hs.extend hi o'
        have hge:=grownCap_ge w (xs.length+ys.length) old e
        have hcm:=grownCap_le_maxLen w (xs.length+ys.length) old e h63
        have hlo:=hol.len
        have hE':Ej q w (ks bs O0) (olds++news) (xs++ys):=hol.append hE
        refine⟨h2,h1,Gs.made ?_ (by simpa using hge) hcm ?_⟩
        · simp only [Array.size_append, List.size_toArray, size_zeroCells, hzl, hlo, hlen, hqn, hi2, ← Nat.add_mul]
          congr 1;omega
        · have e1:(olds.toArray++news.toArray++Builtin.zeroCells zv.cells (grownCap w (xs.length+ys.length) old e - (xs.length+ys.length))).toList.take ((xs++ys).length*q.n)=olds++news:=by
            have:(xs++ys).length*q.n=(olds++news).length:=by rw [hE'.len]
            rw [this]
            simp only [Array.toList_append,List.append_assoc]
            rw [← List.append_assoc,List.take_left]
          rw [e1];exact hE'.step h2
      rcases hG with ⟨rfl,rfl,rfl,rfl⟩ |⟨bl,cur,rfl,rfl,rfl,g4,g5,g6,g7⟩
      · have hr := run_append_nil (P := P) (w := w) t ty e ti zv T.und hi1 hi4 ad ys.length c2 news hlen hnews hpos (by simp at h63'; omega) (by rw [hi3]; simp at hb; omega)
        have hf:=fresh 0 [] rfl
        simp only [List.length_nil,Nat.zero_add,List.nil_append,Array.empty_append] at hf ⊢
        exact⟨_,_,_,_,_,hr,hf⟩
      · by_cases hroom : xs.length + ys.length ≤ c
        · have hnl : news.length = ys.length * q.n := by rw [hlen, hi2, hqn]
          have hfit:xs.length*ti.size+news.length≤cur.size:=by
            rw [hlen,g4,hqn,← hi2,← Nat.add_mul];exact Nat.mul_le_mul_right _ hroom
          have hr:=run_append_room (P:=P) w t ty e ti T.und hi1 bl xs.length c cur (hs.get hi) ad ys.length c2 news hlen hnews hone hroom hfit
          obtain⟨h1,h2⟩:=hs.setRow hi (cur.toList.take (xs.length*ti.size)++news++cur.toList.drop (xs.length*ti.size+news.length)).toArray
          refine⟨_,_,_,_,_,by rw [List.length_append];exact hr,h2,h1,Gs.made ?_ (by simpa using hroom) g6 ?_⟩
          · simp only [List.size_toArray, List.length_append, List.length_take, List.length_drop, Array.length_toList]
            omega
          · have g7' := (g7.append hE).step h2
            have e1:(cur.toList.take (xs.length*ti.size)++news++cur.toList.drop (xs.length*ti.size+news.length)).take ((xs++ys).length*q.n)=cur.toList.take (xs.length*q.n)++news:=by
              have:(xs++ys).length*q.n=(cur.toList.take (xs.length*q.n)++news).length:=by rw [(g7.append hE).len]
              rw [this,hi2,hqn,List.take_left]
            simp only [List.toList_toArray]
            rw [e1];exact g7'
        · have holds:∀j u,(cur.toList.take (xs.length*q.n))[j]?=some u→w.cell? ((⟨bl,0,none⟩:Addr).add j)=some u:=by
            intro j u hj
            rw [Addr.add_lit,JH (hs.get hi)]
            rw [List.getElem?_take] at hj
            split at hj
            · simpa using hj
            · cases hj
          have hlo:(cur.toList.take (xs.length*q.n)).length=xs.length*ti.size:=by rw [g7.len,hqn,hi2]
          have hr:=run_append_grow (P:=P) (w:=w) t ty e ti zv T.und hi1 hi4 ⟨bl,0,none⟩ xs.length c _ hlo holds ad ys.length c2 news hlen hnews (by omega) (by omega)
            (growslice_fits (by omega) (by rw [hi3];exact hb))
          have hf:=fresh c _ g7
          exact⟨_,_,_,_,_,by rw [List.length_append];exact hr,hf⟩
  obtain⟨a',c',k',o',w',hr,h1,h2,h3⟩:=main
  refine Bl (by simp) ?_ (k a' c' k' o' w' h1 h2 h3)
  simp [execOp,resolve,invoke,builtin,hx,hy,hr]

theorem Q6 {e e':TypeId} {bl o dl dc i sl sc bt:Nat} {a2:Option Addr} {tz:List Value} {ta:Bool} {cs news cs':List Value}
    (T:Ty P t (.slice e) 1 bt tz ta) (E:Ty P e td 1 b z ag) (hs:St w0 O0 w bs) (hi:bs[i]?=some (some bl,.cells cs.toArray e' (0,0)))
    (hx:ev ρ x=.slice (some ⟨bl,o,none⟩) dl dc) (hy:ev ρ y=.slice a2 sl sc) (hS:Mm w a2 news) (hl:news.length=sl) (hone:∀v∈news,v.oneCell'=true)
    (hfit:o+min sl dl≤cs.length) (hc:Ia cs o (news.take (min sl dl))=cs') (hb:bs.set i (some bl,.cells cs'.toArray e' (0,0))=bs')
    (k:∀w',AB (ks bs O0) w (ks bs' O0) w'→St w0 O0 w' bs'→V (.int .i64 (min sl dl:Nat)) w'):
    BQ P r ρ w ⟨d,.call ⟨.builtin .copy,#[x,y],#[t,t]⟩,ty,pos,aft,g⟩ V:=by
  have hml:(news.take (min sl dl)).length=min sl dl:=by simp;omega
  obtain⟨h1,h2⟩:=hs.setRow hi cs'.toArray
  rw [hb] at h1 h2
  have hr:(Builtin.copy_ #[t,t] ty #[.slice (some ⟨bl,o,none⟩) dl dc,.slice a2 sl sc]).run P w=.ok (.int .i64 (min sl dl:Nat)) (w.setRow bl cs'.toArray):=by
    rcases hS with hn |⟨ad,rfl,hn⟩
    · have h0 : sl = 0 := by rw [← hl, hn]; rfl
      subst h0
      have e1:cs'=cs:=by rw [← hc];simp [Ia]
      have e2:w.setRow bl cs'.toArray=w:=by rw [e1];exact setRow_self w bl cs.toArray e' (0,0) (hs.get hi)
      rw [e2]
      cases a2<;> simp [Builtin.copy_,T.runU,E.runSize,Builtin.lenOf,Builtin.firstCells,loadCells,loadCellsFrom,storeCells,goInt]
    · have:=run_copy_row (P:=P) w t t ty e bl o dl dc ad sl sc cs.toArray e' (news.take (min sl dl)) T.und E.infoSize (hs.get hi) hml
        (fun j v hj=>hn j v (by rw [List.getElem?_take] at hj;split at hj<;> simp_all)) (by rw [hml];simpa using hfit) (fun v hv=>hone v (List.mem_of_mem_take hv))
      rw [this,hml]
      simp only [goInt,← hc,Ia,hml]
  refine Bl (by simp) ?_ (k _ h2 h1)
  simp [execOp,resolve,invoke,builtin,hx,hy,hr]

end
end Go.Fx
set_option linter.unusedSimpArgs false
set_option linter.unusedVariables false
namespace Go.Fx
open Go Go.RowKit

abbrev VR (Γ:Type):=Value→World→Γ→Prop
structure Pk (Γ:Type) where
  inv:World→Γ→Prop
  le:World→Γ→World→Γ→Prop
  refl:∀w g,le w g w g
  trans:∀{w g w' g' w'' g''},le w g w' g'→le w' g' w'' g''→le w g w'' g''
  drew:∀w g,inv w g→inv w.drew g∧le w g w.drew g
  /-- which operations have been done, as far as it is kept -/
  dn:Γ→List Nat:=fun _=>[]
variable {Γ : Type}
def Im (T:Pk Γ) (V:VR Γ):Prop:=∀v w g w' g',T.le w g w' g'→V v w g→V v w' g'
theorem Im.eq (T:Pk Γ) (c:Value):Im T fun v _ _=>v=c:=fun _ _ _ _ _ _ h=>h

def look:List (Nat × VR Γ)→Nat→Option (VR Γ)
  |[],_=>none
  |(d,V)::G,t=>if t=d then some V else look G t
def Gn (G:List (Nat × VR Γ)) (ρ0 ρ:EX) (w:World) (g:Γ) (t:Nat):Prop:=match look G t with
  |some V=>V (ρ t) w g
  |none=>ρ t=ρ0 t
def FZ (P:Program) (r:Option Nat) (ops:List Oper) (ρ:EX) (w:World) (o:Oper) (K:Value→World→Prop):Prop:=
  if Region.wanted o (Hr ops ρ) then BQ P r ρ w o K else K undef w
def PY (w:World) (g:Γ) (K:EX→World→Γ→Prop):List (Nat × VR Γ)→EX→Prop
  |[],ρ=>K ρ w g
  |(d,V)::G,ρ=>∀v,V v w g→PY w g K G (Ls ρ d v)
def Bs (T:Pk Γ) (w:World) (g:Γ) (V:VR Γ) (k:Nat):Value→World→Prop:=fun v w'=>∃g',T.inv w' g'∧T.le w g w' g'∧V v w' g'∧∀i∈T.dn g',i∈T.dn g∨i=k
abbrev Lu (T:Pk Γ) (ρ0:EX) (w0:World) (g0:Γ) (K:EX→World→Γ→Prop):List (Nat × VR Γ)→Prop:=fun G=>∀w g,T.le w0 g0 w g→T.inv w g→PY w g K G ρ0
def Dw (P:Program) (r:Option Nat) (T:Pk Γ) (ops:List Oper) (ρ0:EX) (w0:World) (g0:Γ) (leaf:List (Nat × VR Γ)→Prop):List Oper→List (Nat × VR Γ)→Prop
  |[],G=>leaf G
  |o::l,G=>∃V,Im T V∧(∀ρ w g,T.le w0 g0 w g→T.inv w g→G.length ∉ T.dn g→(∀t,(o.looksAt ops.toArray).contains t=true→Gn G ρ0 ρ w g t)→FZ P r ops ρ w o (Bs T w g V G.length))∧
      Dw P r T ops ρ0 w0 g0 leaf l (G++[((o.dst).getD 0,V)])

section checks
def DK (ops:List Oper) (j:Nat):Option Nat:=(ops[j]?).bind (·.dst)
def CJ (ops:List Oper) (j:Nat):List Nat:=match ops[j]? with
  |some o=>(o.after.toList.filter (Region.binds .any)).map (·.on)
  |none=>[]
def H4 (ops:List Oper) (j:Nat):List Nat:=match ops[j]? with
  |some o=>o.looksAt ops.toArray
  |none=>[]
def Q7 (ops:List Oper):Nat→List Nat→List Nat
  |0,s=>s
  |j+1,s=>Q7 ops j (bif s.contains j then s++(CJ ops j).filter (fun i=>!s.contains i) else s)
def UP (ops:List Oper) (k:Nat):List Nat:=Q7 ops k (CJ ops k)
def LQ (ops:List Oper) (i j:Nat):Bool:=match ops[i]?,ops[j]? with
  |some a,some b=>a.apart ops.toArray b
  |_,_=>false
def LR (ops:List Oper) (i:Nat):Bool:=match ops[i]? with
  |some ⟨some _,.extract _ _,_,_,_,none⟩=>true
  |some ⟨some _,.move _,_,_,_,none⟩=>true
  |_=>false
structure MI (n:Nat) (ops:List Oper) (m:Nat) (fl:List Nat):Prop where
  dst:∀j<m,(DK ops j).any (·<n)=true∧∀i<j,DK ops i≠DK ops j
  up:∀j<ops.length,∀i∈CJ ops j,i<j
  look:∀j<m,∀t∈H4 ops j,∀i<m,DK ops i=some t→i∈CJ ops j
  tail:∀k<ops.length,m≤k→(∀i<m,i ∉ fl→i∈UP ops k)∧(m<k→k - 1∈CJ ops k)
  fl:∀f∈fl,f<m∧LR ops f=true∧(∀i∈CJ ops f,i ∉ fl∧i<m)∧∀j<ops.length,j≠f→j∈CJ ops f∨f∈CJ ops j∨LQ ops f j=true
  sel:Region.noSelect ops.toArray=true
  le:m≤ops.length
def G4 (n:Nat) (p:Nat→Bool):Bool:=(List.range n).all p
theorem C4 {n:Nat} {p:Nat→Bool} (h:G4 n p=true):∀i<n,p i=true:=fun i hi=>List.all_eq_true.1 h i (List.mem_range.2 hi)
def Q8 (n:Nat) (ops:List Oper) (m:Nat) (fl:List Nat):Bool:=
  G4 m (fun j=>(DK ops j).any (·<n)&&G4 j fun i=>DK ops i !=DK ops j)&&
  (G4 ops.length (fun j=>(CJ ops j).all (·<j))&&
  (G4 m (fun j=>(H4 ops j).all fun t=>G4 m fun i=>DK ops i !=some t||(CJ ops j).contains i)&&
  (G4 ops.length (fun k=>k<m||(G4 m (fun i=>fl.contains i||(UP ops k).contains i)&&(k≤m||(CJ ops k).contains (k - 1))))&&
  (fl.all (fun f=>f<m&&(LR ops f&&((CJ ops f).all (fun i=>!fl.contains i&&i<m)&&G4 ops.length fun j=>j == f||(CJ ops f).contains j||(CJ ops j).contains f||LQ ops f j)))&&
  (Region.noSelect ops.toArray&&m≤ops.length)))))
theorem MI.of {n:Nat} {ops:List Oper} {m:Nat} {fl:List Nat} (h:Q8 n ops m fl=true):MI n ops m fl:=by
  simp only [Q8,Bool.and_eq_true] at h
  obtain⟨h1,h2,h3,h4,h5,h6,h7⟩:=h
  refine⟨fun j hj=>?_,fun j hj i hi=>?_,fun j hj t ht i hi hd=>?_,fun k hk hm=>?_,fun f hf=>?_,h6,by simpa using h7⟩
  · have := C4 h1 j hj
    simp only [Bool.and_eq_true] at this
    exact⟨this.1,fun i hi=>by simpa using C4 this.2 i hi⟩
  · have := List.all_eq_true.1 (C4 h2 j hj) i hi
    simpa using this
  · have := C4 (List.all_eq_true.1 (C4 h3 j hj) t ht) i hi
    simp only [Bool.or_eq_true,bne_iff_ne,ne_eq,List.contains_eq_mem,decide_eq_true_eq] at this
    exact this.resolve_left (fun h=>h hd)
  · have := C4 h4 k hk
    simp only [Bool.or_eq_true,decide_eq_true_eq,Bool.and_eq_true,List.contains_eq_mem] at this
    rcases this with h |⟨h,h'⟩
    · omega
    · refine ⟨fun i hi hf => ?_, fun hmk => h'.resolve_left (by omega)⟩
      have:=C4 h i hi
      simp only [Bool.or_eq_true,decide_eq_true_eq] at this
      exact this.resolve_left hf
  · have := List.all_eq_true.1 h5 f hf
    simp only [Bool.and_eq_true,decide_eq_true_eq] at this
    obtain⟨p1,p2,p3,p4⟩:=this
    refine⟨p1,p2,fun i hi=>?_,fun j hj hne=>?_⟩
    · have := List.all_eq_true.1 p3 i hi
      simpa using this
    · have := C4 p4 j hj
      simp only [Bool.or_eq_true,beq_iff_eq,List.contains_eq_mem,decide_eq_true_eq] at this
      rcases this with ((h |h) |h) |h
      · exact absurd h hne
      · exact .inl h
      · exact .inr (.inl h)
      · exact .inr (.inr h)
end checks

theorem FH {ops:List Oper} {j:Nat} {o:Oper} (h:ops[j]?=some o) {i:Nat} :i∈CJ ops j ↔ ∃e∈o.after,Region.binds .any e=true∧e.on=i:=by
  simp only [CJ,h,List.mem_map,List.mem_filter,Array.mem_toList_iff]
  constructor
  · rintro⟨e,⟨h1,h2⟩,h3⟩;exact⟨e,h1,h2,h3⟩
  · rintro⟨e,h1,h2,h3⟩;exact⟨e,⟨h1,h2⟩,h3⟩

theorem Lv {ops:List Oper} {L:Nat→Prop} (hdc:∀j,L j→∀i∈CJ ops j,L i):∀(j:Nat) (s:List Nat),(∀i∈s,L i)→∀i∈Q7 ops j s,L i
  |0,_,hs=>hs
  |j+1,s,hs=>by
    unfold Q7
    refine Lv hdc j _ fun i hi=>?_
    cases h:s.contains j
    · rw [h] at hi;exact hs i hi
    · rw [h, cond_true] at hi
      rcases List.mem_append.1 hi with hi |hi
      · exact hs i hi
      · exact hdc j (hs j (by simpa using h)) i (List.mem_filter.1 hi).1
theorem MJ {ops:List Oper} {L:Nat→Prop} (hdc:∀j,L j→∀i∈CJ ops j,L i) (k:Nat) (hk:∀i∈CJ ops k,L i):∀i∈UP ops k,L i:=Lv hdc k _ hk

theorem Dw.facts {P:Program} {r:Option Nat} {T:Pk Γ} {ops:List Oper} {ρ0:EX} {w0:World} {g0:Γ} {leaf:List (Nat × VR Γ)→Prop} :∀(l:List Oper) (G:List (Nat × VR Γ)),Dw P r T ops ρ0 w0 g0 leaf l G→
    ∃Vs:List (VR Γ),Vs.length=l.length∧
      (∀i o V,l[i]?=some o→Vs[i]?=some V→Im T V∧∀ρ w g,T.le w0 g0 w g→T.inv w g→G.length+i ∉ T.dn g→
        (∀t,(o.looksAt ops.toArray).contains t=true→Gn (G++(((l.map fun o=>(o.dst).getD 0).zip Vs).take i)) ρ0 ρ w g t)→FZ P r ops ρ w o (Bs T w g V (G.length+i)))∧
      leaf (G++(l.map fun o=>(o.dst).getD 0).zip Vs)
  |[],G,h=>⟨[],rfl,(fun i o V hi=>by simp at hi),by simpa [Dw] using h⟩
  |o::l,G,⟨V,h1,h2,h3⟩=>by
    obtain⟨Vs,hl,ha,hf⟩:=Dw.facts l _ h3
    refine⟨V::Vs,by simp [hl],fun i o' V' hi hV=>?_,by simpa using hf⟩
    cases i with
    |zero=>
      simp only [List.getElem?_cons_zero,Option.some.injEq] at hi hV
      subst hi hV
      exact⟨h1,fun ρ w g hw hi hk ht=>h2 ρ w g hw hi hk (by simpa using ht)⟩
    |succ i=>
      have:=ha i o' V' (by simpa using hi) (by simpa using hV)
      have e:(G++[((o.dst).getD 0,V)]).length+i=G.length+(i+1):=by simp only [List.length_append,List.length_cons,List.length_nil];omega
      rw [e] at this
      refine⟨this.1,fun ρ w g hw hi hk ht=>this.2 ρ w g hw hi hk fun t htt=>?_⟩
      have:=ht t htt
      simpa using this

theorem PY.apply {w:World} {g:Γ} {K:EX→World→Γ→Prop} :∀(G:List (Nat × VR Γ)) (ρ0 ρ:EX),PY w g K G ρ0→(G.map Prod.fst).Nodup→(∀p∈G,p.2 (ρ p.1) w g)→(∀t,t ∉ G.map Prod.fst→ρ t=ρ0 t)→ρ.ds=ρ0.ds→K ρ w g
  |[],ρ0,ρ,h,_,_,he,hd=>by
    have:ρ=ρ0:=EX.ext' (fun t=>he t (by simp)) hd
    subst this;exact h
  |(d,V)::G,ρ0,ρ,h,hn,hv,he,hd=>by
    simp only [List.map_cons,List.nodup_cons] at hn
    refine PY.apply G (Ls ρ0 d (ρ d)) ρ (h (ρ d) (hv (d,V) (by simp))) hn.2 (fun p hp=>hv p (List.mem_cons_of_mem _ hp)) (fun t ht=>?_) hd
    by_cases htd:t=d
    · subst htd;rw [Lt]
    · rw [HX _ _ _ htd];exact he t (by simp [htd,ht])

section
variable {P : Program} {r : Option Nat} {n m : Nat} {l : List Oper} {fl : List Nat} {Q : Iz}

def Q9 (L:Array Bool):Nat→Nat
  |0=>0
  |k+1=>Q9 L k+if L.getD k true then 0 else 1
theorem MK {L:Array Bool} {i:Nat} (h:i<L.size) (b:Bool):L.getD i b=L.getD i true:=by simp [Array.getD_eq_getD_getElem?,Array.getElem?_eq_getElem h]
theorem FN {L:Array Bool} {i j:Nat} (h:i<L.size):(L.setIfInBounds i true).getD j true=if j=i then true else L.getD j true:=by
  by_cases hji:j=i
  · subst hji;simp [Array.getD_eq_getD_getElem?,h]
  · simp only [Array.getD_eq_getD_getElem?,Array.getElem?_setIfInBounds,Ne.symm hji,hji,if_false]
theorem K9 {L:Array Bool} {i:Nat} (h:i<L.size) (hu:L.getD i true=false):∀k,Q9 (L.setIfInBounds i true) k+(if i<k then 1 else 0)=Q9 L k
  |0=>by simp [Q9]
  |k+1=>by
    have ih:=K9 h hu k
    simp only [Q9,FN h]
    by_cases hk:k=i
    · subst hk
      simp only [if_true,hu,Bool.false_eq_true,if_false]
      simp at ih ⊢;omega
    · simp only [hk, if_false]
      by_cases h1:i<k
      · simp only [h1, if_true] at ih
        rw [if_pos (show i<k+1 by omega)];omega
      · simp only [h1, if_false] at ih
        rw [if_neg (show ¬i<k+1 by omega)];omega
theorem J2 {L:Array Bool} :∀{k:Nat},Q9 L k=0→∀i<k,L.getD i true=true
  |0,_,i,h=>by omega
  |k+1,h,i,hi=>by
    simp only [Q9] at h
    by_cases hk:i=k
    · subst hk
      cases hL:L.getD i true with
      |true=>rfl
      |false=>rw [hL] at h;simp at h
    · exact J2 (Nat.add_eq_zero_iff.1 h).1 i (by omega)
theorem Qd (L:Array Bool):∀k,Q9 L k≤k
  |0=>Nat.le_refl _
  |k+1=>by have:=Qd L k;simp only [Q9];split<;> omega

theorem Pn (D:MI n l m fl) {Q':Exit→Act→World→Prop} :∀(fuel k:Nat) (listed:Array Bool) (a:Act) (w:World),m≤k→k≤l.length→Q9 listed l.length≤fuel→listed.size=l.length→
    (∀i,i<l.length→listed.getD i true=decide (i<k))→wpListIn (FW r) 0 P l.toArray Q' (l.drop k) a w→wpAnyIn (FW r) 0 P .any l.toArray Q' fuel listed a w:=by
  intro fuel
  induction fuel with
  |zero=>
    intro k listed a w hmk hkl hc hsz hL h
    have hz:=J2 (Nat.le_zero.1 hc)
    have hrd:Region.ready .any l.toArray listed=[]:=by
      rw [List.eq_nil_iff_forall_not_mem]
      intro i hi
      obtain⟨h1,o,ho,_⟩:=mem_ready.1 hi
      have hil:i<l.length:=by simpa using (Array.getElem?_eq_some_iff.1 ho).1
      rw [hz i hil] at h1
      cases h1
    have hk:l.length≤k:=by
      rcases Nat.lt_or_ge k l.length with hlt |hge
      · have:=hz k hlt;rw [hL k hlt] at this;simp at this
      · exact hge
    rw [List.drop_of_length_le hk] at h
    exact⟨hrd,h⟩
  |succ fuel ih=>
    intro k listed a w hmk hkle hc hsz hL h
    rcases Nat.eq_or_lt_of_le hkle with hkl |hkl
    · have hrd:Region.ready .any l.toArray listed=[]:=by
        rw [List.eq_nil_iff_forall_not_mem]
        intro i hi
        obtain⟨h1,o,ho,_⟩:=mem_ready.1 hi
        have hil:i<l.length:=by simpa using (Array.getElem?_eq_some_iff.1 ho).1
        rw [hL i hil] at h1
        simp at h1;omega
      rw [List.drop_of_length_le (by omega)] at h
      exact wpAnyIn_done hrd h _
    have hgD:∀i,i<l.length→listed.getD i false=listed.getD i true:=fun i hi=>by simp [Array.getD_eq_getD_getElem?,Array.getElem?_eq_getElem (show i<listed.size by omega)]
    -- what may come up is k alone
    have hrd:∀i∈Region.ready .any l.toArray listed,i=k:=by
      intro i hi
      obtain⟨h1,o,ho,hdep⟩:=mem_ready.1 hi
      have hil:i<l.length:=by simpa using (Array.getElem?_eq_some_iff.1 ho).1
      rw [hL i hil] at h1
      have hik:k≤i:=by simpa using h1
      rcases Nat.eq_or_lt_of_le hik with e |hlt
      · exact e.symm
      · exfalso
        have hm':=(D.tail i hil (by omega)).2 (by omega)
        rw [FH (by simpa using ho)] at hm'
        obtain⟨e,he,hb,hon⟩:=hm'
        have:=hdep e he hb
        rw [hon,hgD _ (by omega),hL _ (by omega)] at this
        simp at this;omega
    have hk1:k∈Region.ready .any l.toArray listed:=by
      refine mem_ready.2 ⟨by rw [hL k hkl];simp,l[k],by simp [hkl],fun e he hb=>?_⟩
      have:=D.up k hkl e.on ((FH (List.getElem?_eq_getElem hkl)).2 ⟨e,he,hb,rfl⟩)
      rw [hgD _ (by omega),hL _ (by omega)];simpa using this
    refine⟨fun h0=>absurd hk1 (by rw [h0];simp),fun i hi=>?_⟩
    have:=hrd i hi
    subst this
    rw [List.drop_eq_getElem_cons hkl] at h
    have h':=h
    unfold wpOpIn
    simp only [List.getElem?_toArray,List.getElem?_eq_getElem hkl]
    simp only [wpListIn] at h'
    have hL':∀j,j<l.length→(listed.setIfInBounds i true).getD j true=decide (j<i+1):=by
      intro j hj
      by_cases hji:j=i
      · subst hji;simp [Array.getD_eq_getD_getElem?,hsz,hkl]
      · have := hL j hj
        simp only [Array.getD_eq_getD_getElem?,Array.getElem?_setIfInBounds,Ne.symm hji,if_false] at this ⊢
        rw [this];simp;omega
    have step:∀a' w',wpListIn (FW r) 0 P l.toArray Q' (l.drop (i+1)) a' w'→wpAnyIn (FW r) 0 P .any l.toArray Q' fuel (listed.setIfInBounds i true) a' w':=
      fun a' w' hh=>ih (i+1) _ a' w' (by omega) (by omega) (by
        have:=K9 (L:=listed) (i:=i) (by omega) (by rw [hL i hkl];simp) l.length
        rw [if_pos hkl] at this;omega) (by simpa using hsz) hL' hh
    split
    · rename_i hw
      rw [if_pos hw] at h'
      exact Oper.wpIn_mono step h'
    · rename_i hw
      rw [if_neg hw] at h'
      exact⟨h'.1,step _ _ h'.2⟩

theorem NO {G:List (Nat × VR Γ)} {t:Nat} {V:VR Γ} (h:look G t=some V):(t,V)∈G:=by
  induction G with
  |nil=>simp [look] at h
  |cons p G ih=>
    obtain⟨d,U⟩:=p
    simp only [look] at h
    split at h
    · rename_i e;subst e;cases h;simp
    · exact List.mem_cons_of_mem _ (ih h)
theorem NP {G:List (Nat × VR Γ)} {t:Nat} (h:look G t=none):t ∉ G.map Prod.fst:=by
  induction G with
  |nil=>simp
  |cons p G ih=>
    obtain⟨d,U⟩:=p
    simp only [look] at h
    split at h
    · cases h
    · rename_i e;simp only [List.map_cons,List.mem_cons,not_or];exact⟨e,ih h⟩

theorem NQ {o:Oper} {ρ:EX} {w:World} {V:Value→World→Prop} (hf:(match o with |⟨some _,.extract _ _,_,_,_,none⟩=>true |⟨some _,.move _,_,_,_,none⟩=>true |_=>false)=true)
    (h:BQ P none ρ w o V):∃v,(∀w,(execOp (ev ρ) o).run P w=.ok (.value v) w)∧V v w:=by
  unfold BQ at h
  obtain⟨dst,op,ty,pos,aft,g⟩:=o
  cases dst<;> cases op<;> cases g<;> simp at hf
  case some.move x=>exact⟨ev ρ x,fun w=>by simp [execOp],by simpa [Oper.semAt,execOp] using h⟩
  case some.extract x i=>
    simp only [Oper.semAt,execOp] at h ⊢
    revert h
    cases ev ρ x<;> intro h<;> simp only [Instr.extract] at h ⊢<;> try (simp [stuck,Sem.run] at h)
    rename_i vs
    cases hv:vs[i]? with
    |none=>simp [hv,stuck,Sem.run] at h
    |some v=>simp only [hv,Sem.run_bind,Sem.run_pure,Result.andThen_ok] at h ⊢;exact⟨v,fun _=>rfl,h⟩

theorem T7 {T:Pk Γ} {g0:Γ} {id:Nat} {ρ:EX} {w:World} (hinv:T.inv w g0) (hg0:T.dn g0=[]) (hro:r=none∨fl=[]) (hm:P.follows .mixedOrders=true) (hB:Q8 n l m fl=true)
    (h:Dw P r T l ρ w g0 (fun G=>Lu T ρ w g0 (fun ρ' w' _=>Rg P r n l (l.drop m) Q ρ' w') G.reverse) (l.take m) []):Wp P r n (.region id l.toArray true) Q ρ w:=by
  have D:=MI.of hB
  obtain⟨Vs,hVl,hV,hfin⟩:=Dw.facts _ _ h
  simp only [List.nil_append,List.length_nil,Nat.zero_add,List.length_take,Nat.min_eq_left D.le] at hVl hV hfin
  unfold Wp
  intro a ha
  apply wpIn_region_any hm
  -- the slots and what is known of them
  have hget:∀i,i<m→(l.take m)[i]?=l[i]?:=fun i hi=>by rw [List.getElem?_take,if_pos hi]
  have hdst:∀i,i<m→∃o d,l[i]?=some o∧o.dst=some d∧d<n:=fun i hi=>by
    have h1:=(D.dst i hi).1
    unfold DK at h1
    cases ho:l[i]? with
    |none=>simp [ho] at h1
    |some o=>
      cases hd:o.dst with
      |none=>simp [ho,hd] at h1
      |some d=>exact⟨o,d,rfl,hd,by simpa [ho,hd] using h1⟩
  have hVget:∀i,i<m→∃V,Vs[i]?=some V:=fun i hi=>⟨_,List.getElem?_eq_getElem (by omega)⟩
  let G:List (Nat × VR Γ):=((l.take m).map fun o=>(o.dst).getD 0).zip Vs
  have hGget:∀i o d V,i<m→l[i]?=some o→o.dst=some d→Vs[i]?=some V→G[i]?=some (d,V):=fun i o d V hi ho hd hV=>by
    simp only [G,List.getElem?_zip_eq_some,List.getElem?_map,hget i hi,ho,Option.map_some,hd,Option.getD_some,hV,and_self]
  have hGlen:G.length=m:=by simp [G,hVl,Nat.min_eq_left D.le]
  have hGinv:∀i p,G[i]?=some p→i<m∧∃o,l[i]?=some o∧o.dst=some p.1∧Vs[i]?=some p.2:=fun i p hp=>by
    have him:i<m:=by rw [← hGlen];exact(List.getElem?_eq_some_iff.1 hp).1
    obtain⟨o,d,ho,hd,_⟩:=hdst i him
    obtain⟨V,hV'⟩:=hVget i him
    rw [hGget i o d V him ho hd hV'] at hp
    cases hp
    exact⟨him,o,ho,hd,hV'⟩
  have hnodup:(G.map Prod.fst).Nodup:=by
    rw [List.nodup_iff_pairwise_ne,List.pairwise_iff_getElem]
    intro i j hi hj hij e
    simp only [List.length_map] at hi hj
    obtain⟨h1,o1,a1,a2,_⟩:=hGinv i G[i] (List.getElem?_eq_getElem hi)
    obtain⟨h2,o2,b1,b2,_⟩:=hGinv j G[j] (List.getElem?_eq_getElem hj)
    simp only [List.getElem_map] at e
    exact(D.dst j h2).2 i hij (by simp [DK,a1,a2,b1,b2,e])
  have hnodup':(G.reverse.map Prod.fst).Nodup:=by rw [List.map_reverse];exact(List.reverse_perm _).nodup_iff.2 hnodup
  -- the walk
  have key:∀(fuel:Nat) (listed:Array Bool) (a:Act) (ρ':EX) (w':World) (g:Γ),listed.size=l.length→Q9 listed l.length≤fuel→
      GR n ρ' a→ρ'.ds=ρ.ds→T.le w g0 w' g→T.inv w' g→
      (∀i,m≤i→i<l.length→listed.getD i true=false)→
      (∀i,i<m→listed.getD i true=true→∀o d V,l[i]?=some o→o.dst=some d→Vs[i]?=some V→V (ρ' d) w' g)→
      (∀t,(∀i,i<m→listed.getD i true=true→DK l i≠some t)→ρ' t=ρ t)→
      (∀i,i<l.length→listed.getD i true=true→∀j∈CJ l i,listed.getD j true=true)→(∀i,i<l.length→i∈T.dn g→listed.getD i true=true)→
      wpAnyIn (FW r) 0 P .any l.toArray (N4 n Q) fuel listed a w':=by
    intro fuel
    induction fuel with
    |zero=>
      intro listed a ρ' w' g hsz hc ha hds hx hgi htail hfact hframe hdc hdone
      have hz:=J2 (Nat.le_zero.1 hc)
      have hml:m=l.length:=by
        rcases Nat.eq_or_lt_of_le D.le with h |h
        · exact h
        · have h1:=htail m (Nat.le_refl _) h;rw [hz m h] at h1;cases h1
      have hK:=hfin w' g hx hgi
      have hR:=PY.apply G.reverse ρ ρ' hK hnodup' (fun p hp=>by
          obtain⟨i,hi⟩:=List.mem_iff_getElem?.1 (List.mem_reverse.1 hp)
          obtain⟨him,o,ho,hd,hV'⟩:=hGinv i p hi
          exact hfact i him (hz i (by omega)) o _ _ ho hd hV') (fun t ht=>hframe t fun i him _ e=>by
          obtain⟨o,d,ho,hd,_⟩:=hdst i him
          obtain⟨V,hV'⟩:=hVget i him
          have:d=t:=by simpa [DK,ho,hd] using e
          subst this
          exact ht (List.mem_map.2 ⟨(d,V),List.mem_reverse.2 (List.mem_of_getElem? (hGget i o d V him ho hd hV')),rfl⟩)) hds
      unfold Rg at hR
      exact Pn D 0 m listed a w' (Nat.le_refl _) D.le hc hsz (fun i hi=>by rw [hz i hi];simp;omega) (hR a ha)
    |succ fuel ih=>
      intro listed a ρ' w' g hsz hc ha hds hx hgi htail hfact hframe hdc hdone
      by_cases hall:∀i,i<m→listed.getD i true=true
      · have hK := hfin w' g hx hgi
        have hR:=PY.apply G.reverse ρ ρ' hK hnodup' (fun p hp=>by
            obtain⟨i,hi⟩:=List.mem_iff_getElem?.1 (List.mem_reverse.1 hp)
            obtain⟨him,o,ho,hd,hV'⟩:=hGinv i p hi
            exact hfact i him (hall i him) o _ _ ho hd hV') (fun t ht=>hframe t fun i him _ e=>by
            obtain⟨o,d,ho,hd,_⟩:=hdst i him
            obtain⟨V,hV'⟩:=hVget i him
            have:d=t:=by simpa [DK,ho,hd] using e
            subst this
            exact ht (List.mem_map.2 ⟨(d,V),List.mem_reverse.2 (List.mem_of_getElem? (hGget i o d V him ho hd hV')),rfl⟩)) hds
        unfold Rg at hR
        refine Pn D _ m listed a w' (Nat.le_refl _) D.le hc hsz (fun i hi=>?_) (hR a ha)
        by_cases him:i<m
        · rw [hall i him];simp [him]
        · rw [htail i (by omega) hi];simp [him]
      · -- one of the first has not come up
        have hgD:∀i,i<l.length→∀b,listed.getD i b=listed.getD i true:=fun i hi b=>MK (by omega) b
        have hready:∀i,i<l.length→listed.getD i true=false→(∀j∈CJ l i,listed.getD j true=true)→i∈Region.ready .any l.toArray listed:=fun i hi hu hd=>by
          refine mem_ready.2 ⟨hu,l[i],by simp [hi],fun e he hb=>?_⟩
          have hj:=(FH (List.getElem?_eq_getElem hi)).2 ⟨e,he,hb,rfl⟩
          rw [hgD _ (by have:=D.up i hi e.on hj;omega)]
          exact hd _ hj
        have hready':∀i∈Region.ready .any l.toArray listed,i<l.length∧listed.getD i true=false∧∀j∈CJ l i,listed.getD j true=true:=fun i hi=>by
          obtain⟨h1,o,ho,hdep⟩:=mem_ready.1 hi
          have hil:i<l.length:=by simpa using (Array.getElem?_eq_some_iff.1 ho).1
          refine⟨hil,h1,fun j hj=>?_⟩
          have hj':=hj
          rw [FH (by simpa using ho)] at hj
          obtain⟨e,he,hb,rfl⟩:=hj
          rw [← hgD _ (by have:=D.up i hil e.on hj';omega) false]
          exact hdep e he hb
        -- what stands behind one of the first
        have next:∀i o d V v w'' g'',i<m→i∈Region.ready .any l.toArray listed→l[i]?=some o→o.dst=some d→Vs[i]?=some V→T.inv w'' g''→T.le w' g w'' g''→V v w'' g''→(∀k∈T.dn g'',k∈T.dn g∨k=i)→
            wpAnyIn (FW r) 0 P .any l.toArray (N4 n Q) fuel (listed.setIfInBounds i true) (a.put o.dst v) w'':=by
          intro i o d V v w'' g'' him hi ho hd hVi hi'' hx' hv hdo
          obtain⟨hil,hu,hdep⟩:=hready' i hi
          have his:i<listed.size:=by omega
          obtain⟨o',d',ho',hd',hdn⟩:=hdst i him
          rw [ho] at ho';cases ho'
          rw [hd] at hd';cases hd'
          have hput:=ha.put (d:=o.dst) (by rw [hd];simpa using hdn) v
          rw [hd] at hput
          simp only [KL] at hput
          rw [hd]
          refine ih _ _ _ _ g'' (by simpa using hsz) ?_ hput hds (T.trans hx hx') hi'' (fun j hj hjl=>?_) (fun j hjm hjL o2 d2 V2 ho2 hd2 hV2=>?_) (fun t ht=>?_) (fun j hjl hjL k hk=>?_) (fun k hkl hk=>?_)
          · have := K9 his hu l.length
            rw [if_pos hil] at this;omega
          · rw [FN his,if_neg (by omega)];exact htail j hj hjl
          · rw [FN his] at hjL
            by_cases hji:j=i
            · subst hji
              rw [ho] at ho2;cases ho2
              rw [hd] at hd2;cases hd2
              rw [hVi] at hV2;cases hV2
              rw [Lt];exact hv
            · rw [if_neg hji] at hjL
              have hne:d2≠d:=by
                intro e
                subst e
                rcases Nat.lt_or_ge j i with hlt |hge
                · exact(D.dst i him).2 j hlt (by simp [DK,ho,hd,ho2,hd2])
                · exact(D.dst j hjm).2 i (by omega) (by simp [DK,ho,hd,ho2,hd2])
              rw [HX _ _ _ hne]
              exact(hV j o2 V2 (by rw [hget j hjm];exact ho2) hV2).1 _ _ _ _ _ hx' (hfact j hjm hjL o2 d2 V2 ho2 hd2 hV2)
          · have htd : t ≠ d := fun e => ht i him (by rw [FN his, if_pos rfl]) (by simp [DK, ho, hd, e])
            rw [HX _ _ _ htd]
            exact hframe t fun j hjm hjL=>ht j hjm (by
              rw [FN his]
              split
              · rfl
              · exact hjL)
          · have hkl:listed.getD k true=true:=by
              rw [FN his] at hjL
              split at hjL
              · rename_i e;subst e;exact hdep k hk
              · exact hdc j hjl hjL k hk
            rw [FN his];split
            · rfl
            · exact hkl
          · rw [FN his]
            rcases hdo k hk with h |h
            · split
              · rfl
              · exact hdone k hkl h
            · rw [if_pos h]
        -- what operation i finds
        have holds:∀i o,i<m→i∈Region.ready .any l.toArray listed→l[i]?=some o→∀t,(o.looksAt l.toArray).contains t=true→Gn (G.take i) ρ ρ' w' g t:=by
          intro i o him hi ho t ht
          obtain⟨hil,hu,hdep⟩:=hready' i hi
          have htl:t∈H4 l i:=by simp only [H4,ho];simpa using ht
          unfold Gn
          cases hlk:look (G.take i) t with
          |some V=>
            obtain⟨j,hj⟩:=List.mem_iff_getElem?.1 (NO hlk)
            rw [List.getElem?_take] at hj
            split at hj
            · rename_i hji
              obtain⟨hjm,o2,ho2,hd2,hV2⟩:=hGinv j _ hj
              have:=D.look i him t htl j hjm (by simp [DK,ho2,hd2])
              exact hfact j hjm (hdep j this) o2 t V ho2 hd2 hV2
            · cases hj
          |none=>
            refine hframe t fun j hjm hjL e=>?_
            have hji:=D.up i hil j (D.look i him t htl j hjm e)
            obtain⟨o2,d2,ho2,hd2,_⟩:=hdst j hjm
            obtain⟨V2,hV2⟩:=hVget j hjm
            have:d2=t:=by simpa [DK,ho2,hd2] using e
            subst this
            exact NP hlk (List.mem_map.2 ⟨(d2,V2),List.mem_of_getElem? (i:=j) (by rw [List.getElem?_take,if_pos hji];exact hGget j o2 d2 V2 hjm ho2 hd2 hV2),rfl⟩)
        by_cases hfl:∃f∈fl,f∈Region.ready .any l.toArray listed
        · -- one that may be taken first
          obtain⟨f,hf,hfr⟩:=hfl
          have hr:r=none:=hro.resolve_right (fun e=>by rw [e] at hf;cases hf)
          subst hr
          obtain⟨hfm,hfB,hfd,hfa⟩:=D.fl f hf
          obtain⟨o,d,ho,hd,hdn⟩:=hdst f hfm
          obtain⟨V,hVf⟩:=hVget f hfm
          have hop:=(hV f o V (by rw [hget f hfm];exact ho) hVf).2 ρ' w' g hx hgi (fun hk=>by have h1:=hready' f hfr;have h2:=hdone f h1.1 hk;rw [h1.2.1] at h2;cases h2) (holds f o hfm hfr ho)
          unfold LR at hfB
          rw [ho] at hfB
          have hg:o.guard=none:=by
            obtain⟨dst,op,ty,pos,aft,g⟩:=o
            cases dst<;> cases op<;> cases g<;> simp at hfB<;> rfl
          unfold FZ at hop
          rw [if_pos (by simp [Region.wanted,hg])] at hop
          obtain⟨v,hv1,g'',hv2,hv4,hv3,hv5⟩:=NQ (by
            obtain⟨dst,op,ty,pos,aft,g⟩:=o
            cases dst<;> cases op<;> cases g<;> simp at hfB<;> rfl) hop
          refine wpAnyIn_first (i:=f) (oi:=o) (v:=v) rfl (by simpa using ho) (Region.noSelect_spec D.sel) (fun c _ _ hh=>absurd rfl (hh.1 c)) fuel listed a w' (fun j oj hoj hjf hju hno=>?_) hfr ?_ (next f o d V v w' g'' hfm hfr ho hd hVf hv2 hv4 hv3 hv5)
          · have hjl : j < l.length := by simpa using (Array.getElem?_eq_some_iff.1 hoj).1
            have hoj':l[j]?=some oj:=by simpa using hoj
            rcases hfa j hjl hjf with h1 |h1 |h1
            · have := (hready' f hfr).2.2 j h1
              rw [this] at hju;cases hju
            · exfalso
              rw [FH hoj'] at h1
              obtain⟨e,he,hb,hon⟩:=h1
              exact hno e he hb hon
            · simpa [LQ,ho,hoj'] using h1
          · refine ⟨.inl ⟨by simp [Region.wanted, hg], fun w => by rw [ha.eval]; exact hv1 w⟩, fun w => ?_⟩
            obtain⟨dst,op,ty,pos,aft,g⟩:=o
            cases dst<;> cases op<;> cases g<;> simp at hfB<;> rfl
        · have hmain:∀i∈Region.ready .any l.toArray listed,i<m:=by
            intro i hi
            obtain⟨hil,hu,hdep⟩:=hready' i hi
            rcases Nat.lt_or_ge i m with h |hmi
            · exact h
            · exfalso
              have hclo:=MJ (L:=fun j=>listed.getD j true=true) (fun j hj k hk=>by
                rcases Nat.lt_or_ge j l.length with hjl |hjl
                · exact hdc j hjl hj k hk
                · simp [CJ,List.getElem?_eq_none hjl] at hk) i hdep
              refine hall fun j hj=>?_
              by_cases hjf:j∈fl
              · cases hjL : listed.getD j true with
                |true=>rfl
                |false=>
                  exact absurd ⟨j,hjf,hready j (by have:=D.le;omega) hjL fun k hk=>by
                    have:=(D.fl j hjf).2.2.1 k hk
                    exact hclo k ((D.tail i hil hmi).1 k this.2 this.1)⟩ hfl
              · exact hclo j ((D.tail i hil hmi).1 j hj hjf)
          refine⟨fun h0=>?_,fun i hi=>?_⟩
          · -- the first that has not come up may come up
            exfalso
            apply hall
            intro i
            induction i using Nat.strongRecOn with
            |_ i ihi=>
              intro him
              cases hL:listed.getD i true with
              |true=>rfl
              |false=>
                have hil:i<l.length:=by have:=D.le;omega
                have:=hready i hil hL fun j hj=>ihi j (D.up i hil j hj) (by have:=D.up i hil j hj;omega)
                rw [h0] at this;cases this
          · have him := hmain i hi
            obtain⟨o,d,ho,hd,hdn⟩:=hdst i him
            obtain⟨V,hVi⟩:=hVget i him
            have hop:=(hV i o V (by rw [hget i him];exact ho) hVi).2 ρ' w' g hx hgi (fun hk=>by have h1:=hready' i hi;have h2:=hdone i h1.1 hk;rw [h1.2.1] at h2;cases h2) (holds i o him hi ho)
            unfold wpOpIn
            simp only [List.getElem?_toArray,ho]
            rw [ha.yieldedE]
            unfold FZ at hop
            split
            · rename_i hw
              rw [if_pos hw] at hop
              exact hop.wpIn ha fun v w'' ⟨g'',h1,h2,h3,h4⟩=>next i o d V v w'' g'' him hi ho hd hVi h1 h2 h3 h4
            · rename_i hw
              rw [if_neg hw] at hop
              obtain⟨g'',h1,h2,h3,h4⟩:=hop
              exact⟨fun _ _=>trivial,next i o d V undef w' g'' him hi ho hd hVi h1 h2 h3 h4⟩
  have hrep:∀i,i<l.length→(Array.replicate l.length false).getD i true=false:=fun i hi=>by simp [Array.getD_eq_getD_getElem?,hi]
  have hsz:l.toArray.size=l.length:=by simp
  rw [hsz]
  refine key l.length (Array.replicate l.length false) a ρ {w with drawn:=w.drawn+1} g0 (by simp) (Qd _ _) ha rfl (T.drew w g0 hinv).2 (T.drew w g0 hinv).1 (fun i _ hi=>hrep i hi) (fun i hi hL=>?_) (fun t _=>rfl) (fun i hi hL=>?_) (fun i _ hi=>by rw [hg0] at hi;cases hi)
  · rw [hrep i (by have:=D.le;omega)] at hL;cases hL
  · rw [hrep i hi] at hL;cases hL
def J3 (P:Program) (r:Option Nat) (n:Nat) (ops:List Oper) (f:Nat) (Q:Iz):Nat→Nat→EX→World→Prop
  |d,k,ρ,w=>(match d with
      |0=>True
      |d+1=>f∈CJ ops k∨∃o,ops[k]?=some o∧o.dst.all (·<n)=true∧FZ P r ops ρ w o fun v w'=>J3 P r n ops f Q d (k+1) (KL ρ o.dst v) w')∧
    ∃o,ops[f]?=some o∧o.dst.all (·<n)=true∧FZ P r ops ρ w o fun v w'=>Rg P r n ops (ops.drop k) Q (KL ρ o.dst v) w'
structure KA (n:Nat) (ops:List Oper) (m:Nat) (fs:List Nat) (f:Nat):Prop where
  dst:∀j<m,(DK ops j).any (·<n)=true∧∀i<j,DK ops i≠DK ops j
  up:∀j<ops.length,∀i∈CJ ops j,i<j
  look:∀j<m,∀t∈H4 ops j,∀i<m,DK ops i=some t→i∈CJ ops j
  tail:∀k<ops.length,m≤k→(∀i<m,i ∉ fs→i≠f→i∈UP ops k)∧(m<k→k - 1∈CJ ops k)
  fl:∀f∈fs,f<m∧LR ops f=true∧(∀i∈CJ ops f,i ∉ fs∧i<m)∧∀j<ops.length,j≠f→j∈CJ ops f∨f∈CJ ops j∨LQ ops f j=true
  sel:Region.noSelect ops.toArray=true
  le:m≤ops.length
  late:f<m∧f ∉ fs∧∀j<m,f ∉ CJ ops j
def OF (n:Nat) (ops:List Oper) (m:Nat) (fl:List Nat) (f:Nat):Bool:=
  G4 m (fun j=>(DK ops j).any (·<n)&&G4 j fun i=>DK ops i !=DK ops j)&&
  (G4 ops.length (fun j=>(CJ ops j).all (·<j))&&
  (G4 m (fun j=>(H4 ops j).all fun t=>G4 m fun i=>DK ops i !=some t||(CJ ops j).contains i)&&
  (G4 ops.length (fun k=>k<m||(G4 m (fun i=>fl.contains i||(i == f||(UP ops k).contains i))&&(k≤m||(CJ ops k).contains (k - 1))))&&
  (fl.all (fun f=>f<m&&(LR ops f&&((CJ ops f).all (fun i=>!fl.contains i&&i<m)&&G4 ops.length fun j=>j == f||(CJ ops f).contains j||(CJ ops j).contains f||LQ ops f j)))&&
  (Region.noSelect ops.toArray&&(m≤ops.length&&(f<m&&(!fl.contains f&&G4 m fun j=>!(CJ ops j).contains f))))))))
theorem KA.of {n:Nat} {ops:List Oper} {m:Nat} {fl:List Nat} {f:Nat} (h:OF n ops m fl f=true):KA n ops m fl f:=by
  simp only [OF,Bool.and_eq_true] at h
  obtain⟨h1,h2,h3,h4,h5,h6,h7,h8,h9,h10⟩:=h
  refine⟨fun j hj=>?_,fun j hj i hi=>?_,fun j hj t ht i hi hd=>?_,fun k hk hm=>?_,fun f hf=>?_,h6,by simpa using h7,by simpa using h8,by simpa using h9,fun j hj=>by simpa using C4 h10 j hj⟩
  · have := C4 h1 j hj
    simp only [Bool.and_eq_true] at this
    exact⟨this.1,fun i hi=>by simpa using C4 this.2 i hi⟩
  · have := List.all_eq_true.1 (C4 h2 j hj) i hi
    simpa using this
  · have := C4 (List.all_eq_true.1 (C4 h3 j hj) t ht) i hi
    simp only [Bool.or_eq_true,bne_iff_ne,ne_eq,List.contains_eq_mem,decide_eq_true_eq] at this
    exact this.resolve_left (fun h=>h hd)
  · have := C4 h4 k hk
    simp only [Bool.or_eq_true,decide_eq_true_eq,Bool.and_eq_true,List.contains_eq_mem] at this
    rcases this with h |⟨h,h'⟩
    · omega
    · refine ⟨fun i hi hf hne => ?_, fun hmk => h'.resolve_left (by omega)⟩
      have:=C4 h i hi
      simp only [Bool.or_eq_true,decide_eq_true_eq,beq_iff_eq] at this
      exact(this.resolve_left hf).resolve_left hne
  · have := List.all_eq_true.1 h5 f hf
    simp only [Bool.and_eq_true,decide_eq_true_eq] at this
    obtain⟨p1,p2,p3,p4⟩:=this
    refine⟨p1,p2,fun i hi=>?_,fun j hj hne=>?_⟩
    · have := List.all_eq_true.1 p3 i hi
      simpa using this
    · have := C4 p4 j hj
      simp only [Bool.or_eq_true,beq_iff_eq,List.contains_eq_mem,decide_eq_true_eq] at this
      rcases this with ((h |h) |h) |h
      · exact absurd h hne
      · exact .inl h
      · exact .inr (.inl h)
      · exact .inr (.inr h)
theorem LS {f:Nat} (D:KA n l m fl f) {Q':Exit→Act→World→Prop} :∀(fuel k:Nat) (listed:Array Bool) (a:Act) (w:World),m≤k→k≤l.length→Q9 listed l.length≤fuel→listed.size=l.length→
    (∀i,i<l.length→listed.getD i true=decide (i<k))→wpListIn (FW r) 0 P l.toArray Q' (l.drop k) a w→wpAnyIn (FW r) 0 P .any l.toArray Q' fuel listed a w:=by
  intro fuel
  induction fuel with
  |zero=>
    intro k listed a w hmk hkl hc hsz hL h
    have hz:=J2 (Nat.le_zero.1 hc)
    have hrd:Region.ready .any l.toArray listed=[]:=by
      rw [List.eq_nil_iff_forall_not_mem]
      intro i hi
      obtain⟨h1,o,ho,_⟩:=mem_ready.1 hi
      have hil:i<l.length:=by simpa using (Array.getElem?_eq_some_iff.1 ho).1
      rw [hz i hil] at h1
      cases h1
    have hk:l.length≤k:=by
      rcases Nat.lt_or_ge k l.length with hlt |hge
      · have:=hz k hlt;rw [hL k hlt] at this;simp at this
      · exact hge
    rw [List.drop_of_length_le hk] at h
    exact⟨hrd,h⟩
  |succ fuel ih=>
    intro k listed a w hmk hkle hc hsz hL h
    rcases Nat.eq_or_lt_of_le hkle with hkl |hkl
    · have hrd:Region.ready .any l.toArray listed=[]:=by
        rw [List.eq_nil_iff_forall_not_mem]
        intro i hi
        obtain⟨h1,o,ho,_⟩:=mem_ready.1 hi
        have hil:i<l.length:=by simpa using (Array.getElem?_eq_some_iff.1 ho).1
        rw [hL i hil] at h1
        simp at h1;omega
      rw [List.drop_of_length_le (by omega)] at h
      exact wpAnyIn_done hrd h _
    have hgD:∀i,i<l.length→listed.getD i false=listed.getD i true:=fun i hi=>by simp [Array.getD_eq_getD_getElem?,Array.getElem?_eq_getElem (show i<listed.size by omega)]
    -- what may come up is k alone
    have hrd:∀i∈Region.ready .any l.toArray listed,i=k:=by
      intro i hi
      obtain⟨h1,o,ho,hdep⟩:=mem_ready.1 hi
      have hil:i<l.length:=by simpa using (Array.getElem?_eq_some_iff.1 ho).1
      rw [hL i hil] at h1
      have hik:k≤i:=by simpa using h1
      rcases Nat.eq_or_lt_of_le hik with e |hlt
      · exact e.symm
      · exfalso
        have hm':=(D.tail i hil (by omega)).2 (by omega)
        rw [FH (by simpa using ho)] at hm'
        obtain⟨e,he,hb,hon⟩:=hm'
        have:=hdep e he hb
        rw [hon,hgD _ (by omega),hL _ (by omega)] at this
        simp at this;omega
    have hk1:k∈Region.ready .any l.toArray listed:=by
      refine mem_ready.2 ⟨by rw [hL k hkl];simp,l[k],by simp [hkl],fun e he hb=>?_⟩
      have:=D.up k hkl e.on ((FH (List.getElem?_eq_getElem hkl)).2 ⟨e,he,hb,rfl⟩)
      rw [hgD _ (by omega),hL _ (by omega)];simpa using this
    refine⟨fun h0=>absurd hk1 (by rw [h0];simp),fun i hi=>?_⟩
    have:=hrd i hi
    subst this
    rw [List.drop_eq_getElem_cons hkl] at h
    have h':=h
    unfold wpOpIn
    simp only [List.getElem?_toArray,List.getElem?_eq_getElem hkl]
    simp only [wpListIn] at h'
    have hL':∀j,j<l.length→(listed.setIfInBounds i true).getD j true=decide (j<i+1):=by
      intro j hj
      by_cases hji:j=i
      · subst hji;simp [Array.getD_eq_getD_getElem?,hsz,hkl]
      · have := hL j hj
        simp only [Array.getD_eq_getD_getElem?,Array.getElem?_setIfInBounds,Ne.symm hji,if_false] at this ⊢
        rw [this];simp;omega
    have step:∀a' w',wpListIn (FW r) 0 P l.toArray Q' (l.drop (i+1)) a' w'→wpAnyIn (FW r) 0 P .any l.toArray Q' fuel (listed.setIfInBounds i true) a' w':=
      fun a' w' hh=>ih (i+1) _ a' w' (by omega) (by omega) (by
        have:=K9 (L:=listed) (i:=i) (by omega) (by rw [hL i hkl];simp) l.length
        rw [if_pos hkl] at this;omega) (by simpa using hsz) hL' hh
    split
    · rename_i hw
      rw [if_pos hw] at h'
      exact Oper.wpIn_mono step h'
    · rename_i hw
      rw [if_neg hw] at h'
      exact⟨h'.1,step _ _ h'.2⟩
theorem RC {f:Nat} (D:KA n l m fl f):∀(fuel k:Nat) (listed:Array Bool) (a:Act) (ρ:EX) (w:World),m≤k→k≤l.length→Q9 listed l.length≤fuel→listed.size=l.length→GR n ρ a→
    (∀i,i<l.length→listed.getD i true=decide (i<k∧i≠f))→J3 P r n l f Q (l.length - k) k ρ w→wpAnyIn (FW r) 0 P .any l.toArray (N4 n Q) fuel listed a w:=by
  intro fuel
  induction fuel with
  |zero=>
    intro k listed a ρ w hmk hkl hc hsz ha hL h
    have hz:=J2 (Nat.le_zero.1 hc)
    have hfm:=D.late.1
    have h1:=hz f (by omega)
    rw [hL f (by omega)] at h1
    simp at h1
  |succ fuel ih=>
    intro k listed a ρ w hmk hkl hc hsz ha hL h
    have hfm:=D.late.1
    have hgD:∀i,i<l.length→listed.getD i false=listed.getD i true:=fun i hi=>MK (by omega) false
    have hfl:f<l.length:=by omega
    have hf1:f∈Region.ready .any l.toArray listed:=by
      refine mem_ready.2 ⟨by rw [hL f hfl];simp,l[f],by simp [hfl],fun e he hb=>?_⟩
      have hj:=(FH (List.getElem?_eq_getElem hfl)).2 ⟨e,he,hb,rfl⟩
      have:=D.up f hfl e.on hj
      rw [hgD _ (by omega),hL _ (by omega)];simp;omega
    refine⟨fun h0=>absurd hf1 (by rw [h0];simp),fun i hi=>?_⟩
    obtain⟨h1,o,ho,hdep⟩:=mem_ready.1 hi
    have hil:i<l.length:=by simpa using (Array.getElem?_eq_some_iff.1 ho).1
    have ho':l[i]?=some o:=by simpa using ho
    rw [hL i hil] at h1
    have hcase:i=f∨(i=k∧k<l.length):=by
      by_cases hif:i=f
      · exact .inl hif
      · have hki : k ≤ i := by simp at h1; rcases Nat.lt_or_ge i k with h | h; exact absurd (h1 h) hif; exact h
        rcases Nat.eq_or_lt_of_le hki with e |hlt
        · exact .inr ⟨e.symm,by omega⟩
        · exfalso
          have hm':=(D.tail i hil (by omega)).2 (by omega)
          rw [FH ho'] at hm'
          obtain⟨e,he,hb,hon⟩:=hm'
          have:=hdep e he hb
          rw [hon,hgD _ (by omega),hL _ (by omega)] at this
          simp at this;omega
    have hcs:=fun(hu:listed.getD i true=false)=>K9 (L:=listed) (i:=i) (by omega) hu l.length
    rw [hL i hil] at hcs
    have hcs:=hcs h1
    rw [if_pos hil] at hcs
    unfold wpOpIn
    simp only [ho]
    rw [ha.yieldedE]
    rcases hcase with rfl |⟨rfl,hkl'⟩
    · -- f itself
      unfold J3 at h
      obtain⟨o2,g1,g2,g3⟩:=h.2
      rw [ho'] at g1;cases g1
      have goOn:∀v w',Rg P r n l (l.drop k) Q (KL ρ o.dst v) w'→wpAnyIn (FW r) 0 P .any l.toArray (N4 n Q) fuel (listed.setIfInBounds i true) (a.put o.dst v) w':=fun v w' hr=>by
        unfold Rg at hr
        refine LS D fuel k _ _ w' hmk hkl (by omega) (by simpa using hsz) (fun j hj=>?_) (hr _ (ha.put g2 v))
        rw [FN (by omega)]
        by_cases hji:j=i
        · subst hji;simp;omega
        · rw [if_neg hji,hL j hj];simp [hji]
      unfold FZ at g3
      split
      · rename_i hw
        rw [if_pos hw] at g3
        exact g3.wpIn ha fun v w'' hh=>goOn v w'' hh
      · rename_i hw
        rw [if_neg hw] at g3
        exact⟨fun _ _=>trivial,goOn undef w g3⟩
    · -- the next of the last
      have hd:l.length - i=(l.length - (i+1))+1:=by omega
      rw [hd] at h
      unfold J3 at h
      have hnf:f ∉ CJ l i:=fun hm=>by
        rw [FH ho'] at hm
        obtain⟨e,he,hb,hon⟩:=hm
        have:=hdep e he hb
        rw [hon,hgD _ (by omega),hL _ (by omega)] at this
        simp at this
      obtain⟨o2,g1,g2,g3⟩:=h.1.resolve_left hnf
      rw [ho'] at g1;cases g1
      have goOn:∀v w',J3 P r n l f Q (l.length - (i+1)) (i+1) (KL ρ o.dst v) w'→wpAnyIn (FW r) 0 P .any l.toArray (N4 n Q) fuel (listed.setIfInBounds i true) (a.put o.dst v) w':=fun v w' hr=>by
        refine ih (i+1) _ _ _ w' (by omega) (by omega) (by omega) (by simpa using hsz) (ha.put g2 v) (fun j hj=>?_) hr
        rw [FN (by omega)]
        by_cases hji:j=i
        · subst hji;simp;omega
        · rw [if_neg hji,hL j hj];by_cases hjf:j=f<;> simp [hjf]<;> omega
      unfold FZ at g3
      split
      · rename_i hw
        rw [if_pos hw] at g3
        exact g3.wpIn ha fun v w'' hh=>goOn v w'' hh
      · rename_i hw
        rw [if_neg hw] at g3
        exact⟨fun _ _=>trivial,goOn undef w g3⟩
theorem So {f df:Nat} {T:Pk Γ} {g0:Γ} {id:Nat} {ρ:EX} {w:World} (hinv:T.inv w g0) (hg0:T.dn g0=[]) (hro:r=none∨fl=[]) (hm:P.follows .mixedOrders=true) (hB:OF n l m fl f=true) (hdf:DK l f=some df)
    (h:Dw P r T l ρ w g0 (fun G=>Lu T ρ w g0 (fun ρ' w' _=>Rg P r n l (l.drop m) Q ρ' w') G.reverse∧Lu T ρ w g0 (fun ρ' w' _=>J3 P r n l f Q (l.length - m) m ρ' w') (G.reverse.filter fun p=>p.1 !=df)) (l.take m) []):Wp P r n (.region id l.toArray true) Q ρ w:=by
  have D:=KA.of hB
  obtain⟨Vs,hVl,hV,hfin⟩:=Dw.facts _ _ h
  simp only [List.nil_append,List.length_nil,Nat.zero_add,List.length_take,Nat.min_eq_left D.le] at hVl hV hfin
  unfold Wp
  intro a ha
  apply wpIn_region_any hm
  -- the slots and what is known of them
  have hget:∀i,i<m→(l.take m)[i]?=l[i]?:=fun i hi=>by rw [List.getElem?_take,if_pos hi]
  have hdst:∀i,i<m→∃o d,l[i]?=some o∧o.dst=some d∧d<n:=fun i hi=>by
    have h1:=(D.dst i hi).1
    unfold DK at h1
    cases ho:l[i]? with
    |none=>simp [ho] at h1
    |some o=>
      cases hd:o.dst with
      |none=>simp [ho,hd] at h1
      |some d=>exact⟨o,d,rfl,hd,by simpa [ho,hd] using h1⟩
  have hVget:∀i,i<m→∃V,Vs[i]?=some V:=fun i hi=>⟨_,List.getElem?_eq_getElem (by omega)⟩
  let G:List (Nat × VR Γ):=((l.take m).map fun o=>(o.dst).getD 0).zip Vs
  have hGget:∀i o d V,i<m→l[i]?=some o→o.dst=some d→Vs[i]?=some V→G[i]?=some (d,V):=fun i o d V hi ho hd hV=>by
    simp only [G,List.getElem?_zip_eq_some,List.getElem?_map,hget i hi,ho,Option.map_some,hd,Option.getD_some,hV,and_self]
  have hGlen:G.length=m:=by simp [G,hVl,Nat.min_eq_left D.le]
  have hGinv:∀i p,G[i]?=some p→i<m∧∃o,l[i]?=some o∧o.dst=some p.1∧Vs[i]?=some p.2:=fun i p hp=>by
    have him:i<m:=by rw [← hGlen];exact(List.getElem?_eq_some_iff.1 hp).1
    obtain⟨o,d,ho,hd,_⟩:=hdst i him
    obtain⟨V,hV'⟩:=hVget i him
    rw [hGget i o d V him ho hd hV'] at hp
    cases hp
    exact⟨him,o,ho,hd,hV'⟩
  have hnodup:(G.map Prod.fst).Nodup:=by
    rw [List.nodup_iff_pairwise_ne,List.pairwise_iff_getElem]
    intro i j hi hj hij e
    simp only [List.length_map] at hi hj
    obtain⟨h1,o1,a1,a2,_⟩:=hGinv i G[i] (List.getElem?_eq_getElem hi)
    obtain⟨h2,o2,b1,b2,_⟩:=hGinv j G[j] (List.getElem?_eq_getElem hj)
    simp only [List.getElem_map] at e
    exact(D.dst j h2).2 i hij (by simp [DK,a1,a2,b1,b2,e])
  have hnodup':(G.reverse.map Prod.fst).Nodup:=by rw [List.map_reverse];exact(List.reverse_perm _).nodup_iff.2 hnodup
  -- the walk
  have key:∀(fuel:Nat) (listed:Array Bool) (a:Act) (ρ':EX) (w':World) (g:Γ),listed.size=l.length→Q9 listed l.length≤fuel→
      GR n ρ' a→ρ'.ds=ρ.ds→T.le w g0 w' g→T.inv w' g→
      (∀i,m≤i→i<l.length→listed.getD i true=false)→
      (∀i,i<m→listed.getD i true=true→∀o d V,l[i]?=some o→o.dst=some d→Vs[i]?=some V→V (ρ' d) w' g)→
      (∀t,(∀i,i<m→listed.getD i true=true→DK l i≠some t)→ρ' t=ρ t)→
      (∀i,i<l.length→listed.getD i true=true→∀j∈CJ l i,listed.getD j true=true)→(∀i,i<l.length→i∈T.dn g→listed.getD i true=true)→
      wpAnyIn (FW r) 0 P .any l.toArray (N4 n Q) fuel listed a w':=by
    intro fuel
    induction fuel with
    |zero=>
      intro listed a ρ' w' g hsz hc ha hds hx hgi htail hfact hframe hdc hdone
      have hz:=J2 (Nat.le_zero.1 hc)
      have hml:m=l.length:=by
        rcases Nat.eq_or_lt_of_le D.le with h |h
        · exact h
        · have h1:=htail m (Nat.le_refl _) h;rw [hz m h] at h1;cases h1
      have hK:=hfin.1 w' g hx hgi
      have hR:=PY.apply G.reverse ρ ρ' hK hnodup' (fun p hp=>by
          obtain⟨i,hi⟩:=List.mem_iff_getElem?.1 (List.mem_reverse.1 hp)
          obtain⟨him,o,ho,hd,hV'⟩:=hGinv i p hi
          exact hfact i him (hz i (by omega)) o _ _ ho hd hV') (fun t ht=>hframe t fun i him _ e=>by
          obtain⟨o,d,ho,hd,_⟩:=hdst i him
          obtain⟨V,hV'⟩:=hVget i him
          have:d=t:=by simpa [DK,ho,hd] using e
          subst this
          exact ht (List.mem_map.2 ⟨(d,V),List.mem_reverse.2 (List.mem_of_getElem? (hGget i o d V him ho hd hV')),rfl⟩)) hds
      unfold Rg at hR
      exact LS D 0 m listed a w' (Nat.le_refl _) D.le hc hsz (fun i hi=>by rw [hz i hi];simp;omega) (hR a ha)
    |succ fuel ih=>
      intro listed a ρ' w' g hsz hc ha hds hx hgi htail hfact hframe hdc hdone
      by_cases hall:∀i,i<m→listed.getD i true=true
      · have hK := hfin.1 w' g hx hgi
        have hR:=PY.apply G.reverse ρ ρ' hK hnodup' (fun p hp=>by
            obtain⟨i,hi⟩:=List.mem_iff_getElem?.1 (List.mem_reverse.1 hp)
            obtain⟨him,o,ho,hd,hV'⟩:=hGinv i p hi
            exact hfact i him (hall i him) o _ _ ho hd hV') (fun t ht=>hframe t fun i him _ e=>by
            obtain⟨o,d,ho,hd,_⟩:=hdst i him
            obtain⟨V,hV'⟩:=hVget i him
            have:d=t:=by simpa [DK,ho,hd] using e
            subst this
            exact ht (List.mem_map.2 ⟨(d,V),List.mem_reverse.2 (List.mem_of_getElem? (hGget i o d V him ho hd hV')),rfl⟩)) hds
        unfold Rg at hR
        refine LS D _ m listed a w' (Nat.le_refl _) D.le hc hsz (fun i hi=>?_) (hR a ha)
        by_cases him:i<m
        · rw [hall i him];simp [him]
        · rw [htail i (by omega) hi];simp [him]
      by_cases hpend:∀i,i<m→i≠f→listed.getD i true=true
      · -- f alone is still to come
        have hfu:listed.getD f true=false:=by
          cases hfl:listed.getD f true with
          |false=>rfl
          |true=>exact absurd (fun i hi=>if e:i=f then e ▸ hfl else hpend i hi e) hall
        have hK:=hfin.2 w' g hx hgi
        have hR:=PY.apply _ ρ ρ' hK ((List.filter_sublist.map Prod.fst).nodup hnodup') (fun p hp=>by
            obtain⟨hp1,hp2⟩:=List.mem_filter.1 hp
            obtain⟨i,hi⟩:=List.mem_iff_getElem?.1 (List.mem_reverse.1 hp1)
            obtain⟨him,o,ho,hd,hV'⟩:=hGinv i p hi
            have hif:i≠f:=fun e=>by
              subst e
              have:p.1=df:=by simpa [DK,ho,hd] using hdf
              simp [this] at hp2
            exact hfact i him (hpend i him hif) o _ _ ho hd hV') (fun t ht=>hframe t fun i him hli e=>by
            obtain⟨o,d,ho,hd,_⟩:=hdst i him
            obtain⟨V,hV'⟩:=hVget i him
            have:d=t:=by simpa [DK,ho,hd] using e
            subst this
            have hif:i≠f:=fun e=>by subst e;rw [hfu] at hli;cases hli
            have hdd:d≠df:=fun e2=>by
              subst e2
              rcases Nat.lt_or_ge i f with hlt |hge
              · exact(D.dst f D.late.1).2 i hlt (by rw [e,hdf])
              · exact(D.dst i him).2 f (by omega) (by rw [e,hdf])
            exact ht (List.mem_map.2 ⟨(d,V),List.mem_filter.2 ⟨List.mem_reverse.2 (List.mem_of_getElem? (hGget i o d V him ho hd hV')),by simpa using hdd⟩,rfl⟩)) hds
        refine RC D _ m listed a ρ' w' (Nat.le_refl _) D.le hc hsz ha (fun i hi=>?_) hR
        by_cases him:i<m
        · by_cases hif : i = f
          · subst hif;rw [hfu];simp
          · rw [hpend i him hif];simp [him,hif]
        · rw [htail i (by omega) hi];simp [him]
      · -- one of the first has not come up
        have hgD:∀i,i<l.length→∀b,listed.getD i b=listed.getD i true:=fun i hi b=>MK (by omega) b
        have hready:∀i,i<l.length→listed.getD i true=false→(∀j∈CJ l i,listed.getD j true=true)→i∈Region.ready .any l.toArray listed:=fun i hi hu hd=>by
          refine mem_ready.2 ⟨hu,l[i],by simp [hi],fun e he hb=>?_⟩
          have hj:=(FH (List.getElem?_eq_getElem hi)).2 ⟨e,he,hb,rfl⟩
          rw [hgD _ (by have:=D.up i hi e.on hj;omega)]
          exact hd _ hj
        have hready':∀i∈Region.ready .any l.toArray listed,i<l.length∧listed.getD i true=false∧∀j∈CJ l i,listed.getD j true=true:=fun i hi=>by
          obtain⟨h1,o,ho,hdep⟩:=mem_ready.1 hi
          have hil:i<l.length:=by simpa using (Array.getElem?_eq_some_iff.1 ho).1
          refine⟨hil,h1,fun j hj=>?_⟩
          have hj':=hj
          rw [FH (by simpa using ho)] at hj
          obtain⟨e,he,hb,rfl⟩:=hj
          rw [← hgD _ (by have:=D.up i hil e.on hj';omega) false]
          exact hdep e he hb
        -- what stands behind one of the first
        have next:∀i o d V v w'' g'',i<m→i∈Region.ready .any l.toArray listed→l[i]?=some o→o.dst=some d→Vs[i]?=some V→T.inv w'' g''→T.le w' g w'' g''→V v w'' g''→(∀k∈T.dn g'',k∈T.dn g∨k=i)→
            wpAnyIn (FW r) 0 P .any l.toArray (N4 n Q) fuel (listed.setIfInBounds i true) (a.put o.dst v) w'':=by
          intro i o d V v w'' g'' him hi ho hd hVi hi'' hx' hv hdo
          obtain⟨hil,hu,hdep⟩:=hready' i hi
          have his:i<listed.size:=by omega
          obtain⟨o',d',ho',hd',hdn⟩:=hdst i him
          rw [ho] at ho';cases ho'
          rw [hd] at hd';cases hd'
          have hput:=ha.put (d:=o.dst) (by rw [hd];simpa using hdn) v
          rw [hd] at hput
          simp only [KL] at hput
          rw [hd]
          refine ih _ _ _ _ g'' (by simpa using hsz) ?_ hput hds (T.trans hx hx') hi'' (fun j hj hjl=>?_) (fun j hjm hjL o2 d2 V2 ho2 hd2 hV2=>?_) (fun t ht=>?_) (fun j hjl hjL k hk=>?_) (fun k hkl hk=>?_)
          · have := K9 his hu l.length
            rw [if_pos hil] at this;omega
          · rw [FN his,if_neg (by omega)];exact htail j hj hjl
          · rw [FN his] at hjL
            by_cases hji:j=i
            · subst hji
              rw [ho] at ho2;cases ho2
              rw [hd] at hd2;cases hd2
              rw [hVi] at hV2;cases hV2
              rw [Lt];exact hv
            · rw [if_neg hji] at hjL
              have hne:d2≠d:=by
                intro e
                subst e
                rcases Nat.lt_or_ge j i with hlt |hge
                · exact(D.dst i him).2 j hlt (by simp [DK,ho,hd,ho2,hd2])
                · exact(D.dst j hjm).2 i (by omega) (by simp [DK,ho,hd,ho2,hd2])
              rw [HX _ _ _ hne]
              exact(hV j o2 V2 (by rw [hget j hjm];exact ho2) hV2).1 _ _ _ _ _ hx' (hfact j hjm hjL o2 d2 V2 ho2 hd2 hV2)
          · have htd : t ≠ d := fun e => ht i him (by rw [FN his, if_pos rfl]) (by simp [DK, ho, hd, e])
            rw [HX _ _ _ htd]
            exact hframe t fun j hjm hjL=>ht j hjm (by
              rw [FN his]
              split
              · rfl
              · exact hjL)
          · have hkl:listed.getD k true=true:=by
              rw [FN his] at hjL
              split at hjL
              · rename_i e;subst e;exact hdep k hk
              · exact hdc j hjl hjL k hk
            rw [FN his];split
            · rfl
            · exact hkl
          · rw [FN his]
            rcases hdo k hk with h |h
            · split
              · rfl
              · exact hdone k hkl h
            · rw [if_pos h]
        -- what operation i finds
        have holds:∀i o,i<m→i∈Region.ready .any l.toArray listed→l[i]?=some o→∀t,(o.looksAt l.toArray).contains t=true→Gn (G.take i) ρ ρ' w' g t:=by
          intro i o him hi ho t ht
          obtain⟨hil,hu,hdep⟩:=hready' i hi
          have htl:t∈H4 l i:=by simp only [H4,ho];simpa using ht
          unfold Gn
          cases hlk:look (G.take i) t with
          |some V=>
            obtain⟨j,hj⟩:=List.mem_iff_getElem?.1 (NO hlk)
            rw [List.getElem?_take] at hj
            split at hj
            · rename_i hji
              obtain⟨hjm,o2,ho2,hd2,hV2⟩:=hGinv j _ hj
              have:=D.look i him t htl j hjm (by simp [DK,ho2,hd2])
              exact hfact j hjm (hdep j this) o2 t V ho2 hd2 hV2
            · cases hj
          |none=>
            refine hframe t fun j hjm hjL e=>?_
            have hji:=D.up i hil j (D.look i him t htl j hjm e)
            obtain⟨o2,d2,ho2,hd2,_⟩:=hdst j hjm
            obtain⟨V2,hV2⟩:=hVget j hjm
            have:d2=t:=by simpa [DK,ho2,hd2] using e
            subst this
            exact NP hlk (List.mem_map.2 ⟨(d2,V2),List.mem_of_getElem? (i:=j) (by rw [List.getElem?_take,if_pos hji];exact hGget j o2 d2 V2 hjm ho2 hd2 hV2),rfl⟩)
        by_cases hfl:∃f∈fl,f∈Region.ready .any l.toArray listed
        · -- one that may be taken first
          obtain⟨f,hf,hfr⟩:=hfl
          have hr:r=none:=hro.resolve_right (fun e=>by rw [e] at hf;cases hf)
          subst hr
          obtain⟨hfm,hfB,hfd,hfa⟩:=D.fl f hf
          obtain⟨o,d,ho,hd,hdn⟩:=hdst f hfm
          obtain⟨V,hVf⟩:=hVget f hfm
          have hop:=(hV f o V (by rw [hget f hfm];exact ho) hVf).2 ρ' w' g hx hgi (fun hk=>by have h1:=hready' f hfr;have h2:=hdone f h1.1 hk;rw [h1.2.1] at h2;cases h2) (holds f o hfm hfr ho)
          unfold LR at hfB
          rw [ho] at hfB
          have hg:o.guard=none:=by
            obtain⟨dst,op,ty,pos,aft,g⟩:=o
            cases dst<;> cases op<;> cases g<;> simp at hfB<;> rfl
          unfold FZ at hop
          rw [if_pos (by simp [Region.wanted,hg])] at hop
          obtain⟨v,hv1,g'',hv2,hv4,hv3,hv5⟩:=NQ (by
            obtain⟨dst,op,ty,pos,aft,g⟩:=o
            cases dst<;> cases op<;> cases g<;> simp at hfB<;> rfl) hop
          refine wpAnyIn_first (i:=f) (oi:=o) (v:=v) rfl (by simpa using ho) (Region.noSelect_spec D.sel) (fun c _ _ hh=>absurd rfl (hh.1 c)) fuel listed a w' (fun j oj hoj hjf hju hno=>?_) hfr ?_ (next f o d V v w' g'' hfm hfr ho hd hVf hv2 hv4 hv3 hv5)
          · have hjl : j < l.length := by simpa using (Array.getElem?_eq_some_iff.1 hoj).1
            have hoj':l[j]?=some oj:=by simpa using hoj
            rcases hfa j hjl hjf with h1 |h1 |h1
            · have := (hready' f hfr).2.2 j h1
              rw [this] at hju;cases hju
            · exfalso
              rw [FH hoj'] at h1
              obtain⟨e,he,hb,hon⟩:=h1
              exact hno e he hb hon
            · simpa [LQ,ho,hoj'] using h1
          · refine ⟨.inl ⟨by simp [Region.wanted, hg], fun w => by rw [ha.eval]; exact hv1 w⟩, fun w => ?_⟩
            obtain⟨dst,op,ty,pos,aft,g⟩:=o
            cases dst<;> cases op<;> cases g<;> simp at hfB<;> rfl
        · have hmain:∀i∈Region.ready .any l.toArray listed,i<m:=by
            intro i hi
            obtain⟨hil,hu,hdep⟩:=hready' i hi
            rcases Nat.lt_or_ge i m with h |hmi
            · exact h
            · exfalso
              have hclo:=MJ (L:=fun j=>listed.getD j true=true) (fun j hj k hk=>by
                rcases Nat.lt_or_ge j l.length with hjl |hjl
                · exact hdc j hjl hj k hk
                · simp [CJ,List.getElem?_eq_none hjl] at hk) i hdep
              refine hpend fun j hj hjne=>?_
              by_cases hjf:j∈fl
              · cases hjL : listed.getD j true with
                |true=>rfl
                |false=>
                  exact absurd ⟨j,hjf,hready j (by have:=D.le;omega) hjL fun k hk=>by
                    have:=(D.fl j hjf).2.2.1 k hk
                    exact hclo k ((D.tail i hil hmi).1 k this.2 this.1 fun e=>D.late.2.2 j hj (e ▸ hk))⟩ hfl
              · exact hclo j ((D.tail i hil hmi).1 j hj hjf hjne)
          refine⟨fun h0=>?_,fun i hi=>?_⟩
          · -- the first that has not come up may come up
            exfalso
            apply hall
            intro i
            induction i using Nat.strongRecOn with
            |_ i ihi=>
              intro him
              cases hL:listed.getD i true with
              |true=>rfl
              |false=>
                have hil:i<l.length:=by have:=D.le;omega
                have:=hready i hil hL fun j hj=>ihi j (D.up i hil j hj) (by have:=D.up i hil j hj;omega)
                rw [h0] at this;cases this
          · have him := hmain i hi
            obtain⟨o,d,ho,hd,hdn⟩:=hdst i him
            obtain⟨V,hVi⟩:=hVget i him
            have hop:=(hV i o V (by rw [hget i him];exact ho) hVi).2 ρ' w' g hx hgi (fun hk=>by have h1:=hready' i hi;have h2:=hdone i h1.1 hk;rw [h1.2.1] at h2;cases h2) (holds i o him hi ho)
            unfold wpOpIn
            simp only [List.getElem?_toArray,ho]
            rw [ha.yieldedE]
            unfold FZ at hop
            split
            · rename_i hw
              rw [if_pos hw] at hop
              exact hop.wpIn ha fun v w'' ⟨g'',h1,h2,h3,h4⟩=>next i o d V v w'' g'' him hi ho hd hVi h1 h2 h3 h4
            · rename_i hw
              rw [if_neg hw] at hop
              obtain⟨g'',h1,h2,h3,h4⟩:=hop
              exact⟨fun _ _=>trivial,next i o d V undef w' g'' him hi ho hd hVi h1 h2 h3 h4⟩
  have hrep:∀i,i<l.length→(Array.replicate l.length false).getD i true=false:=fun i hi=>by simp [Array.getD_eq_getD_getElem?,hi]
  have hsz:l.toArray.size=l.length:=by simp
  rw [hsz]
  refine key l.length (Array.replicate l.length false) a ρ {w with drawn:=w.drawn+1} g0 (by simp) (Qd _ _) ha rfl (T.drew w g0 hinv).2 (T.drew w g0 hinv).1 (fun i _ hi=>hrep i hi) (fun i hi hL=>?_) (fun t _=>rfl) (fun i hi hL=>?_) (fun i _ hi=>by rw [hg0] at hi;cases hi)
  · rw [hrep i (by have:=D.le;omega)] at hL;cases hL
  · rw [hrep i hi] at hL;cases hL
end

/-! the same, what is known kept last first -/
def LT (P:Program) (r:Option Nat) (T:Pk Γ) (ops:List Oper) (ρ0:EX) (w0:World) (g0:Γ) (leaf:List (Nat × VR Γ)→Prop):List Oper→List (Nat × VR Γ)→Prop
  |[],G=>leaf G
  |o::l,G=>∃V,Im T V∧(∀ρ w g,T.le w0 g0 w g→T.inv w g→G.length ∉ T.dn g→(∀t,(o.looksAt ops.toArray).contains t=true→Gn G ρ0 ρ w g t)→FZ P r ops ρ w o (Bs T w g V G.length))∧
      LT P r T ops ρ0 w0 g0 leaf l (((o.dst).getD 0,V)::G)
theorem PY.of {w:World} {g:Γ} {K:EX→World→Γ→Prop} :∀(G:List (Nat × VR Γ)) (ρ0:EX),(G.map Prod.fst).Nodup→(∀ρ,(∀p∈G,p.2 (ρ p.1) w g)→(∀t,t ∉ G.map Prod.fst→ρ t=ρ0 t)→ρ.ds=ρ0.ds→K ρ w g)→PY w g K G ρ0
  |[],ρ0,_,h=>h ρ0 (by simp) (by simp) rfl
  |(d,V)::G,ρ0,hn,h=>by
    simp only [List.map_cons,List.nodup_cons] at hn
    intro v hv
    refine PY.of G (Ls ρ0 d v) hn.2 fun ρ h1 h2 hds=>h ρ (fun p hp=>?_) (fun t ht=>?_) hds
    · rcases List.mem_cons.1 hp with rfl | hp
      · have := h2 d hn.1
        rw [Lt] at this
        simp only [this];exact hv
      · exact h1 p hp
    · simp only [List.map_cons, List.mem_cons, not_or] at ht
      rw [h2 t ht.2,HX _ _ _ ht.1]
theorem Kp {t:Nat} {V:VR Γ} :∀{G:List (Nat × VR Γ)},(G.map Prod.fst).Nodup→(t,V)∈G→look G t=some V
  |(d,V')::G,hn,h=>by
    simp only [List.map_cons,List.nodup_cons] at hn
    simp only [look]
    rcases List.mem_cons.1 h with h |h
    · cases h;rw [if_pos rfl]
    · rw [if_neg (fun e=>hn.1 (by rw [← e];exact List.mem_map_of_mem (f:=Prod.fst) h)),Kp hn.2 h]
theorem Kq {t:Nat} {V:VR Γ} :∀{G:List (Nat × VR Γ)},look G t=some V→(t,V)∈G
  |[],h=>by cases h
  |(d,V')::G,h=>by
    simp only [look] at h
    split at h
    · rename_i e;cases h;subst e;exact List.mem_cons_self
    · exact List.mem_cons_of_mem _ (Kq h)
theorem OG {t:Nat} {G:List (Nat × VR Γ)} (hn:(G.map Prod.fst).Nodup):look G.reverse t=look G t:=by
  have hr:(G.reverse.map Prod.fst).Nodup:=by rw [List.map_reverse];exact(List.reverse_perm _).nodup_iff.2 hn
  cases h:look G t with
  |some V=>exact Kp hr (List.mem_reverse.2 (Kq h))
  |none=>
    cases h':look G.reverse t with
    |none=>rfl
    |some V=>rw [Kp hn (List.mem_reverse.1 (Kq h'))] at h;cases h
theorem LT.dw {P:Program} {r:Option Nat} {T:Pk Γ} {ops:List Oper} {ρ0:EX} {w0:World} {g0:Γ} {leaf:List (Nat × VR Γ)→Prop} :∀(l:List Oper) (G:List (Nat × VR Γ)),
    (l.map fun o=>(o.dst).getD 0).Nodup→(G.map Prod.fst).Nodup→(∀d∈l.map fun o=>(o.dst).getD 0,d ∉ G.map Prod.fst)→LT P r T ops ρ0 w0 g0 leaf l G→Dw P r T ops ρ0 w0 g0 (fun G'=>leaf G'.reverse) l G.reverse
  |[],G,_,hn,_,h=>by
    show leaf G.reverse.reverse
    rw [List.reverse_reverse];exact h
  |o::l,G,hl,hn,hd,⟨V,h1,h2,h3⟩=>by
    simp only [List.map_cons,List.nodup_cons] at hl
    refine⟨V,h1,fun ρ w g a b k c=>?_,?_⟩
    · rw [List.length_reverse] at k ⊢
      refine h2 ρ w g a b k fun t ht=>?_
      have:=c t ht
      unfold Gn at this ⊢
      rwa [OG hn] at this
    · have:=LT.dw l (((o.dst).getD 0,V)::G) hl.2 (by
        simp only [List.map_cons,List.nodup_cons]
        exact⟨hd _ (by simp),hn⟩) (fun d hdl=>by
        simp only [List.map_cons,List.mem_cons,not_or]
        exact⟨fun e=>hl.1 (e ▸ hdl),hd d (by simp only [List.map_cons,List.mem_cons];exact .inr hdl)⟩) h3
      simpa using this
theorem B9 {P:Program} {r:Option Nat} {n m:Nat} {l:List Oper} {fl:List Nat} {Q:Iz} {T:Pk Γ} {g0:Γ} {id:Nat} {ρ:EX} {w:World} (hinv:T.inv w g0) (hg0:T.dn g0=[]) (hro:r=none∨fl=[]) (hm:P.follows .mixedOrders=true) (hB:Q8 n l m fl=true)
    (h:LT P r T l ρ w g0 (Lu T ρ w g0 fun ρ' w' _=>Rg P r n l (l.drop m) Q ρ' w') (l.take m) []):Wp P r n (.region id l.toArray true) Q ρ w:=by
  have D:=MI.of hB
  refine T7 hinv hg0 hro hm hB (LT.dw _ [] ?_ (by simp) (by simp) h)
  refine List.pairwise_iff_getElem.2 fun i j hi hj hij=>?_
  simp only [List.length_map,List.length_take] at hi hj
  have hjm:j<m:=by omega
  have him:i<m:=by omega
  have e:=(D.dst j hjm).2 i hij
  have ei:=(D.dst i him).1
  have ej:=(D.dst j hjm).1
  simp only [List.getElem_map,List.getElem_take]
  have h1:l[i]?=some (l[i]'(by omega)):=List.getElem?_eq_getElem _
  have h2:l[j]?=some (l[j]'(by omega)):=List.getElem?_eq_getElem _
  unfold DK at e ei ej
  rw [h1] at ei e;rw [h2] at ej e
  simp only [Option.bind_some] at ei ej e
  cases h3:(l[i]'(by omega)).dst with
  |none=>rw [h3] at ei;simp at ei
  |some x=>
    cases h4:(l[j]'(by omega)).dst with
    |none=>rw [h4] at ej;simp at ej
    |some y=>
      rw [h3,h4] at e
      simp only [Option.getD_some]
      exact fun he=>e (by rw [he])
theorem RD {P:Program} {r:Option Nat} {n m:Nat} {l:List Oper} {fl:List Nat} {f df:Nat} {Q:Iz} {T:Pk Γ} {g0:Γ} {id:Nat} {ρ:EX} {w:World} (hinv:T.inv w g0) (hg0:T.dn g0=[]) (hro:r=none∨fl=[]) (hm:P.follows .mixedOrders=true) (hB:OF n l m fl f=true)
    (hdf:DK l f=some df)
    (h:LT P r T l ρ w g0 (fun G=>Lu T ρ w g0 (fun ρ' w' _=>Rg P r n l (l.drop m) Q ρ' w') G∧Lu T ρ w g0 (fun ρ' w' _=>J3 P r n l f Q (l.length - m) m ρ' w') (G.filter fun p=>p.1 !=df)) (l.take m) []):Wp P r n (.region id l.toArray true) Q ρ w:=by
  have D:=KA.of hB
  refine So hinv hg0 hro hm hB hdf (LT.dw _ [] ?_ (by simp) (by simp) h)
  refine List.pairwise_iff_getElem.2 fun i j hi hj hij=>?_
  simp only [List.length_map,List.length_take] at hi hj
  have hjm:j<m:=by omega
  have him:i<m:=by omega
  have e:=(D.dst j hjm).2 i hij
  have ei:=(D.dst i him).1
  have ej:=(D.dst j hjm).1
  simp only [List.getElem_map,List.getElem_take]
  have h1:l[i]?=some (l[i]'(by omega)):=List.getElem?_eq_getElem _
  have h2:l[j]?=some (l[j]'(by omega)):=List.getElem?_eq_getElem _
  unfold DK at e ei ej
  rw [h1] at ei e;rw [h2] at ej e
  simp only [Option.bind_some] at ei ej e
  cases h3:(l[i]'(by omega)).dst with
  |none=>rw [h3] at ei;simp at ei
  |some x=>
    cases h4:(l[j]'(by omega)).dst with
    |none=>rw [h4] at ej;simp at ej
    |some y=>
      rw [h3,h4] at e
      simp only [Option.getD_some]
      exact fun he=>e (by rw [he])
attribute [irreducible] J3
end Go.Fx
set_option linter.unusedSimpArgs false
set_option linter.unusedVariables false
namespace Go.Fx
open Go Go.RowKit

structure Vr (α:Type) where
  vd:World→List Nat→Value→α→Prop
  step:∀{w O w' O' v x},AB O w O' w'→vd w O v x→vd w' O' v x
def BR (k:IntKind) (x:Int):Prop:=k.min≤x∧x≤k.max
instance (k:IntKind) (x:Int):Decidable (BR k x):=inferInstanceAs (Decidable (k.min≤x∧x≤k.max))
def vI (k:IntKind):Vr Int:=⟨fun _ _ v x=>v=.int k x∧BR k x,fun _ h=>h⟩
def vB:Vr Bool:=⟨fun _ _ v x=>v=.bool x,fun _ h=>h⟩
def vC {α:Type} (r:Rp α):Vr α:=⟨fun w O v x=>r.rd w O [v] x,fun s h=>r.step s h⟩
def vA {α:Type} (r:Rp α):Vr α:=⟨fun w O v x=>∃cs:List Value,v=.agg cs.toArray∧r.rd w O cs x,fun s h=>by obtain⟨cs,h1,h2⟩:=h;exact⟨cs,h1,r.step s h2⟩⟩
def Kr {α β:Type} (a:Vr α) (b:Vr β):Vr (α × β):=
  ⟨fun w O v x=>∃v1 v2,v=.tuple [v1,v2].toArray∧a.vd w O v1 x.1∧b.vd w O v2 x.2,fun s ⟨v1,v2,h1,h2,h3⟩=>⟨v1,v2,h1,a.step s h2,b.step s h3⟩⟩
def Sp {α β γ:Type} (a:Vr α) (b:Vr β) (c:Vr γ):Vr (α × β × γ):=
  ⟨fun w O v x=>∃v1 v2 v3,v=.tuple [v1,v2,v3].toArray∧a.vd w O v1 x.1∧b.vd w O v2 x.2.1∧c.vd w O v3 x.2.2,
   fun s ⟨v1,v2,v3,h1,h2,h3,h4⟩=>⟨v1,v2,v3,h1,a.step s h2,b.step s h3,c.step s h4⟩⟩
def vU:Vr Unit:=⟨fun _ _ v _=>v=.tuple [].toArray,fun _ h=>h⟩
theorem Vr.eq {α:Type} {a:Vr α} {w:World} {O:List Nat} {v:Value} {x y:α} (h:a.vd w O v x) (e:x=y):a.vd w O v y:=e ▸ h

def Ok {α:Type} (P:Program) (f:FuncId) (args:List Value) (w:World) (O:List Nat) (R:Vr α) (x:α):Prop:=Fn P f args w fun v w'=>GH w w'∧R.vd w' O v x

section
variable {P : Program} {r : Option Nat} {n : Nat} {Q : Iz} {ρ : EX} {w : World} {w0 : Zx} {O0 : List Nat} {bs : Bi}

theorem AJ {d:Nat} {v:Value} {b:Bool} (h:ρ d=v) (h2:(T4 v == some b)=false):T4 (ρ d)≠some b:=by rw [h];intro e;rw [e] at h2;simp at h2
theorem T8 {d:Nat} {b:Bool} {ops rest:List Oper} (ht:b=true→Rg P r n ops rest Q (Ls ρ d (.bool true)) w) (hf:b=false→Rg P r n ops rest Q (Ls ρ d (.bool false)) w):Rg P r n ops rest Q (Ls ρ d (.bool b)) w:=by
  cases b
  · exact hf rfl
  · exact ht rfl

section dw
variable {Γ : Type} {T : Pk Γ} {g0 : Γ} {ops l : List Oper} {K : List (Nat × VR Γ) → Prop} {G : List (Nat × VR Γ)} {d : Nat} {op : Op} {ty : TypeId} {pos : String} {aft : Array Edge} {gd : Option (Nat × Bool)}
theorem Bc (V:VR Γ) (hst:Im T V) (hop:∀ρ' w' g',T.le w g0 w' g'→T.inv w' g'→(∀t,((⟨some d,op,ty,pos,aft,gd⟩:Oper).looksAt ops.toArray).contains t=true→Gn G ρ ρ' w' g' t)→
      FZ P r ops ρ' w' ⟨some d,op,ty,pos,aft,gd⟩ (Bs T w' g' V G.length))
    (h:LT P r T ops ρ w g0 K l ((d,V)::G)):LT P r T ops ρ w g0 K (⟨some d,op,ty,pos,aft,gd⟩::l) G:=⟨V,hst,fun ρ w g a b _=>hop ρ w g a b,h⟩
theorem Do (c:Value) (hop:∀ρ' w' g',T.le w g0 w' g'→T.inv w' g'→(∀t,((⟨some d,op,ty,pos,aft,gd⟩:Oper).looksAt ops.toArray).contains t=true→Gn G ρ ρ' w' g' t)→
      FZ P r ops ρ' w' ⟨some d,op,ty,pos,aft,gd⟩ (Bs T w' g' (fun v _ _=>v=c) G.length))
    (h:LT P r T ops ρ w g0 K l ((d,fun v _ _=>v=c)::G)):LT P r T ops ρ w g0 K (⟨some d,op,ty,pos,aft,gd⟩::l) G:=⟨_,Im.eq T c,fun ρ w g a b _=>hop ρ w g a b,h⟩
theorem Gf (b:Bool) (hop:∀ρ' w' g',T.le w g0 w' g'→T.inv w' g'→(∀t,((⟨some d,op,ty,pos,aft,gd⟩:Oper).looksAt ops.toArray).contains t=true→Gn G ρ ρ' w' g' t)→
      FZ P r ops ρ' w' ⟨some d,op,ty,pos,aft,gd⟩ (Bs T w' g' (fun v _ _=>v=.bool b) G.length))
    (ht:b=true→LT P r T ops ρ w g0 K l ((d,fun v _ _=>v=.bool true)::G)) (hf:b=false→LT P r T ops ρ w g0 K l ((d,fun v _ _=>v=.bool false)::G)):
    LT P r T ops ρ w g0 K (⟨some d,op,ty,pos,aft,gd⟩::l) G:=by
  cases b
  · exact⟨_,Im.eq _ _,fun ρ w g a b _=>hop ρ w g a b,hf rfl⟩
  · exact⟨_,Im.eq _ _,fun ρ w g a b _=>hop ρ w g a b,ht rfl⟩
theorem T9 (hop:∀ρ' w' g',(∀t,((⟨some d,op,ty,pos,aft,gd⟩:Oper).looksAt ops.toArray).contains t=true→Gn G ρ ρ' w' g' t)→Region.wanted ⟨some d,op,ty,pos,aft,gd⟩ (Hr ops ρ')=false)
    (h:LT P r T ops ρ w g0 K l ((d,fun v _ _=>v=undef)::G)):LT P r T ops ρ w g0 K (⟨some d,op,ty,pos,aft,gd⟩::l) G:=
  ⟨_,Im.eq T _,fun ρ' w' g' hx hi _ ht=>by unfold FZ;rw [if_neg (by rw [hop ρ' w' g' ht];simp)];exact⟨g',hi,T.refl _ _,rfl,fun _ h=>.inl h⟩,h⟩
theorem BA {K:EX→World→Γ→Prop} (h:∀w' g',T.le w g0 w' g'→T.inv w' g'→PY w' g' K G ρ):LT P r T ops ρ w g0 (Lu T ρ w g0 K) [] G:=h
theorem TA {K K1:EX→World→Γ→Prop} {df:Nat} (h:∀w' g',T.le w g0 w' g'→T.inv w' g'→PY w' g' K G ρ) (h1:∀w' g',T.le w g0 w' g'→T.inv w' g'→PY w' g' K1 (G.filter fun p=>p.1 !=df) ρ):
    LT P r T ops ρ w g0 (fun G=>Lu T ρ w g0 K G∧Lu T ρ w g0 K1 (G.filter fun p=>p.1 !=df)) [] G:=⟨h,h1⟩
theorem KR {V:Value→World→Prop} (h:BQ P r ρ w ⟨none,op,ty,pos,aft,none⟩ V):FZ P r ops ρ w ⟨none,op,ty,pos,aft,none⟩ V:=by
  unfold FZ;rw [if_pos (by simp [Region.wanted])];exact h
theorem RE {f k d:Nat} {o:Oper} (ho:ops[f]?=some o) (hd:o.dst.all (·<n)=true) (hk:d=0∨f∈CJ ops k)
    (h:FZ P r ops ρ w o fun v w'=>Rg P r n ops (ops.drop k) Q (KL ρ o.dst v) w'):J3 P r n ops f Q d k ρ w:=by
  unfold J3
  refine⟨?_,o,ho,hd,h⟩
  cases d with
  |zero=>trivial
  |succ d=>exact .inl (hk.resolve_left (by omega))
theorem Po {f k d d':Nat} {o o2:Oper} (hd':d=d'+1) (ho2:ops[k]?=some o2) (hd2:o2.dst.all (·<n)=true) (ho:ops[f]?=some o) (hd:o.dst.all (·<n)=true)
    (h2:FZ P r ops ρ w o2 fun v w'=>J3 P r n ops f Q d' (k+1) (KL ρ o2.dst v) w')
    (h:FZ P r ops ρ w o fun v w'=>Rg P r n ops (ops.drop k) Q (KL ρ o.dst v) w'):J3 P r n ops f Q d k ρ w:=by
  subst hd'
  unfold J3
  exact⟨.inr ⟨o2,ho2,hd2,h2⟩,o,ho,hd,h⟩
theorem Az {V:Value→World→Prop} (h:BQ P r ρ w ⟨some d,op,ty,pos,aft,none⟩ V):FZ P r ops ρ w ⟨some d,op,ty,pos,aft,none⟩ V:=by
  unfold FZ;rw [if_pos (by simp [Region.wanted])];exact h
theorem BI {V:Value→World→Prop} {j dj:Nat} {b:Bool} (hj:(ops[j]?).bind (·.dst)=some dj) (hb:ρ dj=.bool b) (h:BQ P r ρ w ⟨some d,op,ty,pos,aft,some (j,b)⟩ V):FZ P r ops ρ w ⟨some d,op,ty,pos,aft,some (j,b)⟩ V:=by
  unfold FZ;rw [if_pos (by simp [Region.wanted,Hr,hj,hb,T4])];exact h
theorem Sq {j dj:Nat} {b:Bool} {v:Value} (hj:(ops[j]?).bind (·.dst)=some dj) (hb:ρ dj=v) (hv:(T4 v == some b)=false):Region.wanted ⟨some d,op,ty,pos,aft,some (j,b)⟩ (Hr ops ρ)=false:=by
  simp only [Region.wanted,Hr,hj,hb];exact hv
theorem Bs.same {V:VR Γ} {g':Γ} {w':World} {v:Value} {k:Nat} (hi:T.inv w' g') (hv:V v w' g'):Bs T w' g' V k v w':=⟨g',hi,T.refl _ _,hv,fun _ h=>.inl h⟩
theorem ML (V:VR Γ) (hst:Im T V) (hop:∀ρ' w' g',T.le w g0 w' g'→T.inv w' g'→G.length ∉ T.dn g'→(∀t,((⟨some d,op,ty,pos,aft,gd⟩:Oper).looksAt ops.toArray).contains t=true→Gn G ρ ρ' w' g' t)→
      FZ P r ops ρ' w' ⟨some d,op,ty,pos,aft,gd⟩ (Bs T w' g' V G.length))
    (h:LT P r T ops ρ w g0 K l ((d,V)::G)):LT P r T ops ρ w g0 K (⟨some d,op,ty,pos,aft,gd⟩::l) G:=⟨V,hst,hop,h⟩
end dw

/-! the usual ghost: what a region's operations have made -/
abbrev Nx:=List (Nat × Nat × Obj)
def Em (nx:Nx):Bi:=nx.map fun p=>(some p.2.1,p.2.2)
def TS (w0:Zx) (O0:List Nat) (bs:Bi):Pk Nx where
  inv w nx:=St w0 O0 w (Em nx++bs)
  le w nx w' nx':=(∃l,nx'=l++nx)∧AB (ks (Em nx++bs) O0) w (ks (Em nx'++bs) O0) w'∧GH w w'
  refl w nx:=⟨⟨[],rfl⟩,AB.refl _ _,GH.refl _⟩
  trans:=fun⟨⟨l,h1⟩,h2,h3⟩ ⟨⟨l',h1'⟩,h2',h3'⟩=>⟨⟨l'++l,by rw [h1',h1,List.append_assoc]⟩,h2.trans h2',h3.trans h3'⟩
  drew w nx h:=⟨h.call (GH.drew w),⟨[],rfl⟩,AB.ext (GH.drew w),GH.drew w⟩
theorem Dc (h:St w0 O0 w bs):(TS w0 O0 bs).inv w []:=h
abbrev VD {α:Type} (O0:List Nat) (bs:Bi) (R:Vr α) (x:α):VR Nx:=fun v w nx=>R.vd w (ks (Em nx++bs) O0) v x
theorem VD.stab {α:Type} (R:Vr α) (x:α):Im (TS w0 O0 bs) (VD O0 bs R x):=fun _ _ _ _ _ h hv=>R.step h.2.1 hv
abbrev VP {α:Type} (O0:List Nat) (bs:Bi) (q:Rp α) (x:α):VR Nx:=fun v w nx=>∃p,v=.pointer (some p)∧Iy q w (ks (Em nx++bs) O0) p x
theorem VP.stab {α:Type} (q:Rp α) (x:α):Im (TS w0 O0 bs) (VP O0 bs q x):=fun _ _ _ _ _ h ⟨p,h1,h2⟩=>⟨p,h1,h2.step h.2.1⟩
abbrev VN (tag:Nat) (o:Obj):VR Nx:=fun v w nx=>∃b,v=.pointer (some ⟨b,0,none⟩)∧(tag,b,o)∈nx
theorem VN.stab (tag:Nat) (o:Obj):Im (TS w0 O0 bs) (VN tag o):=fun _ _ _ _ _ ⟨⟨l,h1⟩,_⟩ ⟨b,h2,h3⟩=>⟨b,h2,h1 ▸ List.mem_append_right _ h3⟩
theorem Bs.call {V:VR Nx} {nx:Nx} {w' w'':World} {v:Value} {k:Nat} (hi:St w0 O0 w' (Em nx++bs)) (hx:GH w' w'') (hv:V v w'' nx):Bs (TS w0 O0 bs) w' nx V k v w'':=
  ⟨nx,hi.call hx,⟨⟨[],rfl⟩,AB.ext hx,hx⟩,hv,fun _ h=>by cases h⟩
theorem Bs.new {nx:Nx} {w' w'':World} {b tag k:Nat} {o:Obj} (hi:St w0 O0 w' (Em nx++bs)) (h1:AB (ks (Em nx++bs) O0) w' (ks ((some b,o)::(Em nx++bs)) O0) w'') (h2:St w0 O0 w'' ((some b,o)::(Em nx++bs))) (hx:GH w' w''):
    Bs (TS w0 O0 bs) w' nx (VN tag o) k (.pointer (some ⟨b,0,none⟩)) w'':=
  ⟨(tag,b,o)::nx,h2,⟨⟨[_],rfl⟩,h1,hx⟩,⟨b,rfl,List.mem_cons_self⟩,fun _ h=>by cases h⟩
theorem Bs.pub {V:VR Nx} {nx:Nx} {w' w'':World} {v:Value} {k:Nat} (hi:St w0 O0 w' (Em nx++bs)) (hs:St w0 O0 w'' (Em nx++bs)) (p:AB (ks (Em nx++bs) O0) w' (ks (Em nx++bs) O0) w'') (hx:GH w' w'') (hv:V v w'' nx):
    Bs (TS w0 O0 bs) w' nx V k v w'':=⟨nx,hs,⟨⟨[],rfl⟩,p,hx⟩,hv,fun _ h=>by cases h⟩
theorem VD.fin {α:Type} {R:Vr α} {x:α} {v:Value} {nx:Nx} (h:VD O0 bs R x v w nx):R.vd w (ks (Em nx++bs) O0) v x:=h
theorem AB.nx {nx:Nx} {w':World} (hi:St w0 O0 w' (Em nx++bs)):St w0 O0 w' bs∧AB (ks (Em nx++bs) O0) w' (ks bs O0) w':=by
  induction nx with
  |nil=>exact⟨hi,AB.refl _ _⟩
  |cons p nx ih=>
    have h1:St w0 O0 w' (Em nx++bs):=hi.drop 0
    have h2:AB (ks (Em (p::nx)++bs) O0) w' (ks (Em nx++bs) O0) w':=AB.drop w' O0 (Em (p::nx)++bs) 0
    exact⟨(ih h1).1,h2.trans (ih h1).2⟩
theorem AB.nx1 {nx:Nx} {w':World} {tag b:Nat} {o:Obj} (hi:St w0 O0 w' (Em nx++bs)) (hm:(tag,b,o)∈nx):
    St w0 O0 w' ((some b,o)::bs)∧AB (ks (Em nx++bs) O0) w' (ks ((some b,o)::bs) O0) w':=by
  induction nx with
  |nil=>cases hm
  |cons p nx ih=>
    by_cases he:(tag,b,o)=p
    · subst he
      clear hm ih
      induction nx with
      |nil=>exact⟨hi,AB.refl _ _⟩
      |cons q nx ih=>
        have h1:St w0 O0 w' (Em ((tag,b,o)::nx)++bs):=hi.drop 1
        have h2:AB (ks (Em ((tag,b,o)::q::nx)++bs) O0) w' (ks (Em ((tag,b,o)::nx)++bs) O0) w':=AB.drop w' O0 (Em ((tag,b,o)::q::nx)++bs) 1
        exact⟨(ih h1).1,h2.trans (ih h1).2⟩
    · have hm' : (tag, b, o) ∈ nx := (List.mem_cons.1 hm).resolve_left he
      have h1:St w0 O0 w' (Em nx++bs):=hi.drop 0
      have h2:AB (ks (Em (p::nx)++bs) O0) w' (ks (Em nx++bs) O0) w':=AB.drop w' O0 (Em (p::nx)++bs) 0
      exact⟨(ih h1 hm').1,h2.trans (ih h1 hm').2⟩

theorem St.perm {bs':Bi} {w':World} (hs:St w0 O0 w' bs) (hp:bs'.Perm bs):St w0 O0 w' bs'∧AB (ks bs O0) w' (ks bs' O0) w':=by
  have hk:∀b,b∈ks bs' O0 ↔ b∈ks bs O0:=fun b=>by
    simp only [ks,List.mem_append]
    rw [(hp.filterMap Prod.fst).mem_iff]
  exact⟨⟨hs.below,fun q hq=>hs.own q (hp.mem_iff.1 hq),(hp.filterMap Prod.fst).nodup_iff.2 hs.nd,fun j hj=>⟨(hs.dj j hj).1,fun hm=>(hs.dj j hj).2 ((hp.filterMap Prod.fst).mem_iff.1 hm)⟩,hs.dsn,hs.dfs⟩,
    Nat.le_refl _,fun j hj hn=>⟨fun h=>hn ((hk j).1 h),rfl⟩⟩
theorem AB.nx2 {nx:Nx} {w':World} {t1 t2 b1 b2:Nat} {o1 o2:Obj} (hi:St w0 O0 w' (Em nx++bs)) (h1:(t1,b1,o1)∈nx) (h2:(t2,b2,o2)∈nx) (ht:t1≠t2):
    St w0 O0 w' ((some b1,o1)::(some b2,o2)::bs)∧AB (ks (Em nx++bs) O0) w' (ks ((some b1,o1)::(some b2,o2)::bs) O0) w':=by
  obtain⟨l,l',rfl⟩:=List.append_of_mem h1
  have h3:(t2,b2,o2)∈l++l':=by
    simp only [List.mem_append,List.mem_cons,Prod.mk.injEq] at h2 ⊢
    rcases h2 with h |⟨h,_⟩ |h
    · exact .inl h
    · exact absurd h.symm ht
    · exact .inr h
  obtain⟨m,m',hm⟩:=List.append_of_mem h3
  have hp:((t1,b1,o1)::(t2,b2,o2)::(m++m')).Perm (l++(t1,b1,o1)::l'):=by
    refine List.Perm.trans ?_ List.perm_middle.symm
    rw [hm]
    exact List.perm_middle.symm.cons _
  have hp2:(Em ((t1,b1,o1)::(t2,b2,o2)::(m++m'))++bs).Perm (Em (l++(t1,b1,o1)::l')++bs):=(hp.map _).append_right _
  obtain⟨a1,a2⟩:=hi.perm hp2
  have key:∀(nx:Nx) (e:Bi),St w0 O0 w' (e++(Em nx++bs))→St w0 O0 w' (e++bs)∧AB (ks (e++(Em nx++bs)) O0) w' (ks (e++bs) O0) w':=by
    intro nx e h
    induction nx with
    |nil=>exact⟨h,AB.refl _ _⟩
    |cons p nx ih=>
      have e1:(e++(Em (p::nx)++bs)).eraseIdx e.length=e++(Em nx++bs):=by
        rw [List.eraseIdx_append_of_length_le (Nat.le_refl _)];simp [Em]
      have g1:=h.drop e.length
      have g2:=AB.drop w' O0 (e++(Em (p::nx)++bs)) e.length
      rw [e1] at g1 g2
      exact⟨(ih g1).1,g2.trans (ih g1).2⟩
  obtain⟨c1,c2⟩:=key (m++m') [(some b1,o1),(some b2,o2)] a1
  exact⟨c1,a2.trans c2⟩

/-! loops -/
def IT (ds E:List Nat) (ξ ρ:EX):EX:=⟨fun t=>if ds.contains t then ξ t else ρ t,E⟩
def CK (ρ:EX):List (Nat × Value)→EX
  |[] =>ρ
  |(d,v)::l=>Ls (CK ρ l) d v
theorem MA:∀(l:List (Nat × Value)),(∀p∈l,ρ p.1=p.2)→CK ρ l=ρ
  |[],_=>rfl
  |(d,v)::l,h=>by
    rw [CK,MA l fun p hp=>h p (List.mem_cons_of_mem _ hp)]
    refine EX.ext' (fun t=>?_) rfl
    simp only [Ls]
    split
    · rename_i e;subst e;exact(h (t,v) (by simp)).symm
    · rfl
def MM (ρ:EX):List (Nat × Value)→Prop
  |[] =>True
  |(d,v)::l=>ρ d=v∧MM ρ l
theorem MM.mem {ρ:EX} :∀{l:List (Nat × Value)},MM ρ l→∀p∈l,ρ p.1=p.2
  |[],_,_,h=>by cases h
  |(d,v)::l,h,p,hp=>by
    rcases List.mem_cons.1 hp with rfl |hp
    · exact h.1
    · exact MM.mem h.2 p hp
theorem BG {a b:Nat} (h:Nat.ble a b=true):a≤b:=Nat.le_of_ble_eq_true h
def Lb (ds:List Nat) (ρ ρ':EX):Prop:=∀t,ds.contains t=false→ρ' t=ρ t
theorem Lb.refl (ds:List Nat) (ρ:EX):Lb ds ρ ρ:=fun _ _=>rfl
theorem Lb.mix (ds E:List Nat) (ξ ρ:EX):Lb ds ρ (IT ds E ξ ρ):=fun t h=>by simp only [Fx.IT];rw [if_neg (by rw [h];simp)]
theorem Lb.upd {ds:List Nat} {ρ ρ':EX} {d:Nat} {v:Value} (h:Lb ds ρ ρ') (hd:ds.contains d=true):Lb ds ρ (Ls ρ' d v):=fun t ht=>by
  rw [HX _ _ _ (fun e=>by rw [e,hd] at ht;cases ht)];exact h t ht
theorem Lb.updL {ds:List Nat} {ρ ρ':EX} (h:Lb ds ρ ρ'):∀{l:List (Nat × Value)},(l.all fun p=>ds.contains p.1)=true→Lb ds ρ (CK ρ' l)
  |[],_=>h
  |(d,v)::l,hl=>by
    simp only [List.all_cons,Bool.and_eq_true] at hl
    exact Lb.upd (Lb.updL h hl.2) hl.1
theorem QB {ds E:List Nat} {ρ ρ':EX} (h:Lb ds ρ ρ') (hE:ρ'.ds=E):IT ds E ρ' ρ=ρ':=by
  refine EX.ext' (fun t=>?_) hE.symm
  simp only [IT]
  cases hd:ds.contains t with
  |true=>simp
  |false=>simp [h t hd]
theorem Sr {ds E:List Nat} {ρ ρ':EX} {l:List (Nat × Value)} (h:Lb ds ρ ρ') (hE:ρ'.ds=E) (hl:MM ρ' l):ρ'=CK (IT ds E ρ' ρ) l:=by
  rw [QB h hE,MA l hl.mem]

theorem Ss {γ:Type} {c:Code} (I:γ→EX→World→Prop) (μ:γ→Nat) (g0:γ) (h0:I g0 ρ w)
    (round:∀g ρ w,I g ρ w→Wp P r n c (Pl (fun ρ' w'=>∃g',I g' ρ' w'∧μ g'<μ g) Q) ρ w):Wp P r n (.loop c) Q ρ w:=by
  have key:∀k g ρ w a,I g ρ w→GR n ρ a→μ g<k→Code.roundsIn (FW r) 0 P c (N4 n Q) k a w:=by
    intro k
    induction k with
    |zero=>intro g ρ w a _ _ h;omega
    |succ k ih=>
      intro g ρ w a hI ha hk
      have:=round g ρ w hI
      unfold Wp at this
      refine wpIn_mono (this a ha) fun e a' w' ⟨hp,ρ',h1,h2⟩=>?_
      cases e with
      |normal=>
        obtain⟨g',h3,h4⟩:=h2
        exact ih g' ρ' w' a' h3 h1 (by omega)
      |_=>exact⟨hp,ρ',h1,h2⟩
  unfold Wp
  exact fun a ha=>wpIn_loop_rounds (μ g0+1) (key _ g0 ρ w a h0 ha (Nat.lt_succ_self _))

def BB (ds:List Nat) (ρ ρ':EX) (E:List Nat) (L:List (Nat × Value)):Prop:=Lb ds ρ ρ'∧ρ'.ds=E∧MM ρ' L
theorem BB.eq {ds E:List Nat} {ρ ρ':EX} {L:List (Nat × Value)} (h:BB ds ρ ρ' E L):ρ'=CK (IT ds E ρ' ρ) L:=Sr h.1 h.2.1 h.2.2
theorem Lb.mix' {ds ds' E:List Nat} {ρ ρ' ξ:EX} (h:Lb ds ρ ρ') (hd:(ds'.all fun d=>ds.contains d)=true):Lb ds ρ (Fx.IT ds' E ξ ρ'):=fun t ht=>by
  simp only [Fx.IT]
  rw [if_neg (fun hc=>?_)]
  · exact h t ht
  · have := List.all_eq_true.1 hd t (List.elem_iff.1 hc)
    rw [this] at ht;cases ht
theorem Bh {c:Code} (ds:List Nat) (F:Nat→(List Nat→List (Nat × Value)→Prop)→World→Prop) (N:Nat) (h0:F N (BB ds ρ ρ) w) (hz:∀ρ' w',¬F 0 (BB ds ρ ρ') w')
    (round:∀m (K:EX→World→Prop),(∀ρ'' w'',F m (BB ds ρ ρ'') w''→K ρ'' w'')→∀ρ' w',F (m+1) (BB ds ρ ρ') w'→Wp P r n c (Pl K Q) ρ' w'):Wp P r n (.loop c) Q ρ w:=by
  refine Ss (fun m ρ' w'=>F m (BB ds ρ ρ') w') (fun m=>m) N h0 fun m ρ' w' h=>?_
  cases m with
  |zero=>exact absurd h (hz _ _)
  |succ m=>
    refine Wp.mono (round m (fun ρ'' w''=>F m (BB ds ρ ρ'') w'') (fun _ _ h=>h) ρ' w' h) fun e ρ'' w'' h=>?_
    cases e with
    |normal=>exact⟨m,h,Nat.lt_succ_self m⟩
    |_=>exact h
theorem D8 {c1 c2:Code} (ds:List Nat) (F:(List Nat→List (Nat × Value)→Prop)→World→Prop)
    (h1:∀ρ' w',F (BB ds ρ ρ') w'→Wp P r n c2 Q ρ' w')
    (h2:∀K:EX→World→Prop,(∀ρ' w',F (BB ds ρ ρ') w'→K ρ' w')→Wp P r n c1 (Pl K Q) ρ w):Wp P r n (.seq c1 c2) Q ρ w:=
  Ax (Wp.mono (h2 (fun ρ' w'=>F (BB ds ρ ρ') w') fun _ _ h=>h) fun e ρ' w' h=>by
    cases e with
    |normal=>exact h1 _ _ h
    |_=>exact h)

theorem Su {c:Code} (E:List Nat) (L:List (Nat × Value)) (hE:ρ.ds=E) (hL:MM ρ L) (k:∀ξ:Nat→Value,Wp P r n c Q (CK ⟨ξ,E⟩ L) w):Wp P r n c Q ρ w:=by
  have h:=k ρ.f
  rwa [show(⟨ρ.f,E⟩:EX)=ρ from EX.ext' (fun _=>rfl) hE.symm,MA L hL.mem] at h
theorem RF {c:Code} (ds E:List Nat) (ρj:EX) (L:List (Nat × Value)) (hO:Lb ds ρj ρ) (hE:ρ.ds=E) (hL:MM ρ L) (k:∀ξ:EX,Wp P r n c Q (CK (IT ds E ξ ρj) L) w):Wp P r n c Q ρ w:=by
  have h:=k ρ
  rwa [QB hO hE,MA L hL.mem] at h
/-! results -/
theorem Lw {t a i bl off:Nat} {td:TypeDesc} {nn b:Nat} {z:List Value} {cs vs:List Value} {e:TypeId} {fz:Nat × Nat} (T:Ty P t td nn b z true) (hs:St w0 O0 w bs) (hx:ρ a=.pointer (some ⟨bl,off,none⟩))
    (hi:bs[i]?=some (some bl,.cells cs.toArray e fz)) (hv:(cs.drop off).take nn=vs) (hn:vs.length=nn):T6 P ρ w (.cell a t) (.agg vs.toArray):=
  ⟨_,hx,Km (p:=⟨bl,off,none⟩) T rfl (hs.get hi) (by simpa using hv) hn⟩
theorem MN {t a i bl off:Nat} {td:TypeDesc} {nn b:Nat} {z:List Value} {cs:List Value} {v:Value} {e:TypeId} {fz:Nat × Nat} (T:Ty P t td nn b z false) (hs:St w0 O0 w bs) (hx:ρ a=.pointer (some ⟨bl,off,none⟩))
    (hi:bs[i]?=some (some bl,.cells cs.toArray e fz)) (hv:cs[off]?=some v):T6 P ρ w (.cell a t) v:=
  ⟨_,hx,Kn T ((JH (hs.get hi)).trans (by simpa using hv))⟩
end
end Go.Fx
set_option linter.unusedSimpArgs false
set_option linter.unusedVariables false
namespace Go.Fx
open Go Go.RowKit

theorem Er {P:Program} {t:TypeId} {i:TypeInfo} (h:P.types[t]?=some i):P.info? t=some i:=by
  have hlt:t<P.types.size:=(Array.getElem?_eq_some_iff.1 h).1
  show P.toTables.info? t=some i
  unfold Tables.info?
  rw [if_pos hlt];exact h

section
variable {P : Program} {r : Option Nat} {ρ : EX} {w : World} {d : Option Nat} {ty : TypeId} {pos : String} {aft : Array Edge} {g : Option (Nat × Bool)} {V : Value → World → Prop}
variable {w0 : Zx} {w' : World} {O0 : List Nat} {bs new : Bi}
variable {x y : Operand} {t s : TypeId} {td : TypeDesc} {n b : Nat} {z : List Value} {ag : Bool}

section
variable {α β γ δ : Type} {O : List Nat}
theorem Jn {q:Rp α} {cs:List Value} {x:α} (h:q.rd w O cs x):(vA q).vd w O (.agg cs.toArray) x:=⟨cs,rfl,h⟩
theorem Ke {q:Rp α} {v:Value} {x:α} (h:q.rd w O [v] x):(vC q).vd w O v x:=h
theorem Cz {f:β→α} {q:Rp α} {cs:List Value} {x:β} (h:q.rd w O cs (f x)):(M4 f q).rd w O cs x:=h
theorem Kh {a:Vr α} {b:Vr β} {v1 v2:Value} {x:α} {y:β} (h1:a.vd w O v1 x) (h2:b.vd w O v2 y):(Kr a b).vd w O (.tuple [v1,v2].toArray) (x,y):=⟨v1,v2,rfl,h1,h2⟩
theorem Pp {a:Vr α} {b:Vr β} {c:Vr γ} {v1 v2 v3:Value} {x:α} {y:β} {z:γ} (h1:a.vd w O v1 x) (h2:b.vd w O v2 y) (h3:c.vd w O v3 z):(Sp a b c).vd w O (.tuple [v1,v2,v3].toArray) (x,y,z):=⟨v1,v2,v3,rfl,h1,h2,h3⟩
theorem GQ {x:Bool} :NK.rd w O [.bool x] x:=rfl
end
theorem Gp (hs:St w0 O0 w bs):AB (ks bs O0) w O0 w:=AB.all w O0 bs
theorem Pq {f:Go.Fn} {a c:Array Operand} (h:V (.func f (a.map (ev ρ)) (c.map (ev ρ))) w):BQ P r ρ w ⟨d,.makeFunc f a c,ty,pos,aft,g⟩ V:=
  Bl (by simp) (by simp [execOp,Instr.makeFunc]) h

end
end Go.Fx
set_option linter.unusedSimpArgs false
set_option linter.unusedVariables false
namespace Go.Fx
open Go Go.RowKit

/-! models -/
section model
universe u v
variable {R : Type} {α : Type u} {x : R} {m a b : Option R} {c : Bool}
def ck (c:Prop) [Decidable c] (m:Option R):Option R:=if c then m else none
def jn (k:α) (f:α→Option R):Option R:=f k
theorem AG {c:Prop} [Decidable c] (h:ck c m=some x):c∧m=some x:=by
  unfold ck at h;split at h
  · exact⟨‹_›,h⟩
  · cases h
theorem Dp {k:α} {f:α→Option R} (h:jn k f=some x):∃j,j=k∧f j=some x:=⟨k,rfl,h⟩
theorem GA (h:(bif c then a else b)=some x) (hc:c=true):a=some x:=by rw [hc] at h;exact h
theorem GB (h:(bif c then a else b)=some x) (hc:c=false):b=some x:=by rw [hc] at h;exact h
theorem bd {β:Type} {o:Option β} {f:β→Option R} (h:o.bind f=some x):∃v,o=some v∧f v=some x:=by
  cases o with
  |none=>cases h
  |some v=>exact⟨v,rfl,h⟩
theorem VU {j f:Option R} (e:j=f) (h:j=some x):f=some x:=e ▸ h
theorem Ed {A0:Type} {j f:A0→Option R} {a0:A0} (e:j=f) (h:j a0=some x):f a0=some x:=e ▸ h
@[irreducible] def B1 {A0:Type} (b:(A0→Option R)→A0→Option R) (n:Nat):A0→Option R:=Nat.rec (fun _=>none) (fun _ s=>b s) n
theorem Qe {A0:Type} {b:(A0→Option R)→A0→Option R} {a0:A0} :B1 b 0 a0=none:=by unfold B1;rfl
theorem FI {A0:Type} {b:(A0→Option R)→A0→Option R} {n:Nat} {a0:A0} :B1 b (n+1) a0=b (B1 b n) a0:=by unfold B1;rfl
theorem Dg {A0:Type} {b:(A0→Option R)→A0→Option R} {a0:A0} (h:B1 b 0 a0=some x):False:=by rw [Qe] at h;cases h
theorem Dh {A0:Type} {b:(A0→Option R)→A0→Option R} {n:Nat} {a0:A0} (h:B1 b (n+1) a0=some x):∃sf,sf=B1 b n∧b sf a0=some x:=⟨_,rfl,FI.symm.trans h⟩
theorem GD {A0 A1:Type} {j f:A0→A1→Option R} {a0:A0} {a1:A1} (e:j=f) (h:j a0 a1=some x):f a0 a1=some x:=e ▸ h
@[irreducible] def B8 {A0 A1:Type} (b:(A0→A1→Option R)→A0→A1→Option R) (n:Nat):A0→A1→Option R:=Nat.rec (fun _ _=>none) (fun _ s=>b s) n
theorem Qf {A0 A1:Type} {b:(A0→A1→Option R)→A0→A1→Option R} {a0:A0} {a1:A1} :B8 b 0 a0 a1=none:=by unfold B8;rfl
theorem DU {A0 A1:Type} {b:(A0→A1→Option R)→A0→A1→Option R} {n:Nat} {a0:A0} {a1:A1} :B8 b (n+1) a0 a1=b (B8 b n) a0 a1:=by unfold B8;rfl
theorem D9 {A0 A1:Type} {b:(A0→A1→Option R)→A0→A1→Option R} {a0:A0} {a1:A1} (h:B8 b 0 a0 a1=some x):False:=by rw [Qf] at h;cases h
theorem DA {A0 A1:Type} {b:(A0→A1→Option R)→A0→A1→Option R} {n:Nat} {a0:A0} {a1:A1} (h:B8 b (n+1) a0 a1=some x):∃sf,sf=B8 b n∧b sf a0 a1=some x:=⟨_,rfl,DU.symm.trans h⟩
theorem VV {A0 A1 A2:Type} {j f:A0→A1→A2→Option R} {a0:A0} {a1:A1} {a2:A2} (e:j=f) (h:j a0 a1 a2=some x):f a0 a1 a2=some x:=e ▸ h
@[irreducible] def In {A0 A1 A2:Type} (b:(A0→A1→A2→Option R)→A0→A1→A2→Option R) (n:Nat):A0→A1→A2→Option R:=Nat.rec (fun _ _ _=>none) (fun _ s=>b s) n
theorem Qg {A0 A1 A2:Type} {b:(A0→A1→A2→Option R)→A0→A1→A2→Option R} {a0:A0} {a1:A1} {a2:A2} :In b 0 a0 a1 a2=none:=by unfold In;rfl
theorem Ib {A0 A1 A2:Type} {b:(A0→A1→A2→Option R)→A0→A1→A2→Option R} {n:Nat} {a0:A0} {a1:A1} {a2:A2} :In b (n+1) a0 a1 a2=b (In b n) a0 a1 a2:=by unfold In;rfl
theorem QC {A0 A1 A2:Type} {b:(A0→A1→A2→Option R)→A0→A1→A2→Option R} {a0:A0} {a1:A1} {a2:A2} (h:In b 0 a0 a1 a2=some x):False:=by rw [Qg] at h;cases h
theorem QE {A0 A1 A2:Type} {b:(A0→A1→A2→Option R)→A0→A1→A2→Option R} {n:Nat} {a0:A0} {a1:A1} {a2:A2} (h:In b (n+1) a0 a1 a2=some x):∃sf,sf=In b n∧b sf a0 a1 a2=some x:=⟨_,rfl,Ib.symm.trans h⟩
theorem jnE4 {A0 A1 A2 A3:Type} {j f:A0→A1→A2→A3→Option R} {a0:A0} {a1:A1} {a2:A2} {a3:A3} (e:j=f) (h:j a0 a1 a2 a3=some x):f a0 a1 a2 a3=some x:=e ▸ h
@[irreducible] def Ks {A0 A1 A2 A3:Type} (b:(A0→A1→A2→A3→Option R)→A0→A1→A2→A3→Option R) (n:Nat):A0→A1→A2→A3→Option R:=Nat.rec (fun _ _ _ _=>none) (fun _ s=>b s) n
theorem Qh {A0 A1 A2 A3:Type} {b:(A0→A1→A2→A3→Option R)→A0→A1→A2→A3→Option R} {a0:A0} {a1:A1} {a2:A2} {a3:A3} :Ks b 0 a0 a1 a2 a3=none:=by unfold Ks;rfl
theorem Lc {A0 A1 A2 A3:Type} {b:(A0→A1→A2→A3→Option R)→A0→A1→A2→A3→Option R} {n:Nat} {a0:A0} {a1:A1} {a2:A2} {a3:A3} :Ks b (n+1) a0 a1 a2 a3=b (Ks b n) a0 a1 a2 a3:=by unfold Ks;rfl
theorem TB {A0 A1 A2 A3:Type} {b:(A0→A1→A2→A3→Option R)→A0→A1→A2→A3→Option R} {a0:A0} {a1:A1} {a2:A2} {a3:A3} (h:Ks b 0 a0 a1 a2 a3=some x):False:=by rw [Qh] at h;cases h
theorem TC {A0 A1 A2 A3:Type} {b:(A0→A1→A2→A3→Option R)→A0→A1→A2→A3→Option R} {n:Nat} {a0:A0} {a1:A1} {a2:A2} {a3:A3} (h:Ks b (n+1) a0 a1 a2 a3=some x):∃sf,sf=Ks b n∧b sf a0 a1 a2 a3=some x:=⟨_,rfl,Lc.symm.trans h⟩
theorem Sv {A0 A1 A2 A3 A4:Type} {j f:A0→A1→A2→A3→A4→Option R} {a0:A0} {a1:A1} {a2:A2} {a3:A3} {a4:A4} (e:j=f) (h:j a0 a1 a2 a3 a4=some x):f a0 a1 a2 a3 a4=some x:=e ▸ h
@[irreducible] def I8 {A0 A1 A2 A3 A4:Type} (b:(A0→A1→A2→A3→A4→Option R)→A0→A1→A2→A3→A4→Option R) (n:Nat):A0→A1→A2→A3→A4→Option R:=Nat.rec (fun _ _ _ _ _=>none) (fun _ s=>b s) n
theorem Qi {A0 A1 A2 A3 A4:Type} {b:(A0→A1→A2→A3→A4→Option R)→A0→A1→A2→A3→A4→Option R} {a0:A0} {a1:A1} {a2:A2} {a3:A3} {a4:A4} :I8 b 0 a0 a1 a2 a3 a4=none:=by unfold I8;rfl
theorem JK {A0 A1 A2 A3 A4:Type} {b:(A0→A1→A2→A3→A4→Option R)→A0→A1→A2→A3→A4→Option R} {n:Nat} {a0:A0} {a1:A1} {a2:A2} {a3:A3} {a4:A4} :I8 b (n+1) a0 a1 a2 a3 a4=b (I8 b n) a0 a1 a2 a3 a4:=by unfold I8;rfl
theorem QF {A0 A1 A2 A3 A4:Type} {b:(A0→A1→A2→A3→A4→Option R)→A0→A1→A2→A3→A4→Option R} {a0:A0} {a1:A1} {a2:A2} {a3:A3} {a4:A4} (h:I8 b 0 a0 a1 a2 a3 a4=some x):False:=by rw [Qi] at h;cases h
theorem QG {A0 A1 A2 A3 A4:Type} {b:(A0→A1→A2→A3→A4→Option R)→A0→A1→A2→A3→A4→Option R} {n:Nat} {a0:A0} {a1:A1} {a2:A2} {a3:A3} {a4:A4} (h:I8 b (n+1) a0 a1 a2 a3 a4=some x):∃sf,sf=I8 b n∧b sf a0 a1 a2 a3 a4=some x:=⟨_,rfl,JK.symm.trans h⟩
end model

section ink
theorem AZ (k:IntKind) (n:Int):BR k (k.wrap n):=wrap_within k n
theorem Bb {α:Type} {r:Rp α} {w:World} {O:List Nat} {a:Option Addr} {c:Nat} {xs:List α} (h:CA r w O a c xs):BR .i64 (xs.length:Int):=by
  have:=h.len
  constructor<;> simp [IntKind.min,IntKind.max,IntKind.bits,IntKind.signed]<;> omega
theorem Hs {α:Type} {q:Rp α} {e:TypeId} {w:World} {O:List Nat} {a:Option Addr} {c:Nat} {xs:List α} {kk:Option Nat} {o:Obj} (h:Gs q e w O a c xs kk o):BR .i64 (xs.length:Int):=by
  have:=h.le
  have:maxLen=9223372036854775807:=rfl
  constructor<;> simp [IntKind.min,IntKind.max,IntKind.bits,IntKind.signed]<;> omega
theorem OH {k:Nat} (h:k≤9223372036854775807):BR .i64 (k:Int):=by
  constructor<;> simp [IntKind.min,IntKind.max,IntKind.bits,IntKind.signed]<;> omega
theorem Qj {α:Type} {r:Rp α} {w:World} {O:List Nat} {a:Option Addr} {c k:Nat} {xs:List α} (h:CA r w O a c xs):BR .i64 ((min xs.length k:Nat):Int):=by
  have:=h.len
  constructor<;> simp [IntKind.min,IntKind.max,IntKind.bits,IntKind.signed]<;> omega
theorem TD {k:IntKind} {m n:Int} (h1:BR k m) (h2:BR k n):BR k (max m n):=⟨Int.le_trans h1.1 (Int.le_max_left ..),Int.max_le.2 ⟨h1.2,h2.2⟩⟩
theorem TE {k:IntKind} {m n:Int} (h1:BR k m) (h2:BR k n):BR k (min m n):=⟨Int.le_min.2 ⟨h1.1,h2.1⟩,Int.le_trans (Int.min_le_left ..) h1.2⟩
theorem AW {k:IntKind} {x:Int} {w:World} {O:List Nat} (h:BR k x):(AM k).rd w O [.int k x] x:=⟨rfl,h⟩
end ink

section
variable {P : Program} {r : Option Nat} {ρ : EX} {w : World} {d : Option Nat} {ty : TypeId} {pos : String} {aft : Array Edge} {g : Option (Nat × Bool)} {V : Value → World → Prop}
variable {w0 : Zx} {w' : World} {O0 : List Nat} {bs bs' new : Bi}
variable {x y : Operand} {t s u : TypeId} {td : TypeDesc} {n b : Nat} {z : List Value} {ag : Bool} {k q q' : IntKind} {m j : Int}

theorem Qk (hx:ev ρ x=.int q m) (hy:ev ρ y=.int q j) (h:V (.int q (Go.bits .and q m j)) w):BQ P r ρ w ⟨d,.binOp .and t x y u,ty,pos,aft,g⟩ V:=
  Bl (by simp) (by simp [execOp,hx,hy,eqGuard,binOp,Op.intBits,Go.bits]) h
theorem MO (hx:ev ρ x=.int q m) (hy:ev ρ y=.int q' j) (h0:0≤j) (h:V (.int q (m / 2 ^ min j.toNat q.bits)) w):BQ P r ρ w ⟨d,.binOp .shr t x y u,ty,pos,aft,g⟩ V:=
  Bl (by simp) (by simp [execOp,hx,hy,eqGuard,binOp,shift_shr_any _ _ _ _ h0]) h
theorem Ql {us:Array TypeId} (hx:ev ρ x=.int q m) (hy:ev ρ y=.int q j) (h:V (.int q (max m j)) w):BQ P r ρ w ⟨d,.call ⟨.builtin .max,#[x,y],us⟩,ty,pos,aft,g⟩ V:=by
  have e:(if m<j then j else m)=max m j:=by split<;> omega
  exact Bl (v:=.int q (max m j)) (by simp) (by simp [execOp,resolve,invoke,builtin,Builtin.max_,Builtin.max2,hx,hy,e]) h
theorem UQ {us:Array TypeId} (hx:ev ρ x=.int q m) (hy:ev ρ y=.int q j) (h:V (.int q (min m j)) w):BQ P r ρ w ⟨d,.call ⟨.builtin .min,#[x,y],us⟩,ty,pos,aft,g⟩ V:=by
  have e:(if j<m then j else m)=min m j:=by split<;> omega
  exact Bl (v:=.int q (min m j)) (by simp) (by simp [execOp,resolve,invoke,builtin,Builtin.min_,Builtin.min2,hx,hy,e]) h
theorem IH {a:Option Addr} {l l' c:Nat} (h:ev ρ x=.slice a l c) (e:l=l'):ev ρ x=.slice a l' c:=e ▸ h
theorem MP {a:Option Addr} {l l' c:Nat} (e:l=l'):Value.slice a l c=.slice a l' c:=e ▸ rfl
theorem Sw {o:Operand} {dflt l:Nat} {m:Int} (h:ev ρ o=.int q m) (hk:m=(l:Int)):Qc ρ (some o) dflt l:=⟨q,by rw [h,hk]⟩
theorem Mm.owned' {bl len:Nat} {cs news:List Value} {e:TypeId} {fz:Nat × Nat} (h:w.heap[bl]?=some (.cells cs.toArray e fz)) (hn:(cs.drop 0).take len=news):Mm w (some ⟨bl,0,none⟩) news:=hn ▸ Mm.owned h
theorem Gs.of_make {α:Type} {p:Rp α} {O:List Nat} {e:TypeId} {bl l c:Nat} {v:Value} {x0:α} (hp:p.n=1) (hr:∀w O,p.rd w O [v] x0) (hlc:l≤c) (hc:c≤maxLen):
    Gs p e w O (some ⟨bl,0,none⟩) c (List.replicate l x0) (some bl) (.cells (List.replicate c v).toArray e):=by
  refine Gs.made (by simp [hp]) (by simpa using hlc) hc ?_
  simp only [hp,Nat.mul_one,List.length_replicate,List.take_replicate,Nat.min_eq_left hlc]
  clear hlc
  induction l with
  |zero=>exact Ej.nil
  |succ l ih=>exact⟨[v],List.replicate l v,by simp [List.replicate_succ],hr w O,ih⟩
theorem Ht {α:Type} {q:Rp α} {e:TypeId} {bt:Nat} {tz:List Value} {ta:Bool} {v:Value} {x0:α} {kl kc:IntKind} {l c:Int} (T:Ty P t (.slice e) 1 bt tz ta) (E:Ty P e td 1 b [v] ag) (hs:St w0 O0 w bs)
    (hx:ev ρ x=.int kl l) (hy:ev ρ y=.int kc c) (hc:0≤l∧l≤c∧b*c≤281474976710656∧c≤281474976710656) (hq:q.n=1) (hr:∀w O,q.rd w O [v] x0)
    (k:∀bl w',GH w w'→AB (ks bs O0) w (ks ((some bl,.cells (List.replicate c.toNat v).toArray e)::bs) O0) w'→St w0 O0 w' ((some bl,.cells (List.replicate c.toNat v).toArray e)::bs)→
      Gs q e w' (ks ((some bl,.cells (List.replicate c.toNat v).toArray e)::bs) O0) (some ⟨bl,0,none⟩) c.toNat (List.replicate l.toNat x0) (some bl) (.cells (List.replicate c.toNat v).toArray e)→
      V (.slice (some ⟨bl,0,none⟩) (List.replicate l.toNat x0).length c.toNat) w'):
    BQ P r ρ w ⟨d,.makeSlice t x y,ty,pos,aft,g⟩ V:=by
  have hm:maxLen=9223372036854775807:=rfl
  refine OE (l:=l.toNat) (c:=c.toNat) T E hs (hx.trans (by rw [Int.toNat_of_nonneg hc.1])) (hy.trans (by rw [Int.toNat_of_nonneg (by omega)])) (by omega) ?_ (by omega) fun bl w' hx h1 h2=>?_
  · have e1 : ((c.toNat : Nat) : Int) = c := Int.toNat_of_nonneg (by omega)
    have e2:((b*c.toNat:Nat):Int)=b*c:=by rw [Int.natCast_mul,e1]
    have:=hc.2.2.1
    rw [← e2] at this
    exact Int.ofNat_le.1 this
  · have := k bl w' hx h1 h2 (Gs.of_make hq hr (by omega) (by omega))
    rwa [List.length_replicate] at this
theorem MQ {β:Type} :∀(l:List β) (i:Nat) (p:β),l[i]?=some p→(p::l.eraseIdx i).Perm l
  |[],_,_,h=>by simp at h
  |a::l,0,p,h=>by simp at h;subst h;exact List.Perm.refl _
  |a::l,i+1,p,h=>(List.Perm.swap a p _).trans ((MQ l i p (by simpa using h)).cons a)
theorem St.front {i:Nat} {p:Option Nat × Obj} (hs:St w0 O0 w bs) (hi:bs[i]?=some p):St w0 O0 w (p::bs.eraseIdx i)∧AB (ks bs O0) w (ks (p::bs.eraseIdx i) O0) w:=by
  have hp:(p::bs.eraseIdx i).Perm bs:=MQ bs i p hi
  have hk:∀b,b∈ks (p::bs.eraseIdx i) O0 ↔ b∈ks bs O0:=fun b=>by
    simp only [ks,List.mem_append]
    rw [(hp.filterMap Prod.fst).mem_iff]
  refine⟨⟨hs.below,fun q hq=>hs.own q (hp.mem_iff.1 hq),?_,fun j hj=>⟨(hs.dj j hj).1,fun hm=>(hs.dj j hj).2 ((hp.filterMap Prod.fst).mem_iff.1 hm)⟩,hs.dsn,hs.dfs⟩,Nat.le_refl _,fun j hj hn=>⟨fun h=>hn ((hk j).1 h),rfl⟩⟩
  exact(hp.filterMap Prod.fst).nodup_iff.2 hs.nd

/-! slices of one's own, read and written -/
section own
variable {α : Type} {p : Rp α} {O O' : List Nat}
theorem Ej.set:∀{cs:List Value} {xs:List α},Ej p w O cs xs→∀i,i<xs.length→∀{vs:List Value} {y:α},p.rd w O vs y→Ej p w O (cs.take (i*p.n)++vs++cs.drop (i*p.n+p.n)) (xs.set i y)
  |_,[],h,i,hi,_,_,_=>by simp at hi
  |_,x::xs,⟨v1,v2,h1,h2,h3⟩,0,_,vs,y,hy=>by
    refine⟨vs,v2,?_,hy,h3⟩
    rw [h1,← p.len h2];simp
  |_,x::xs,⟨v1,v2,h1,h2,h3⟩,i+1,hi,vs,y,hy=>by
    refine⟨v1,v2.take (i*p.n)++vs++v2.drop (i*p.n+p.n),?_,h2,Ej.set h3 i (by simpa using hi) hy⟩
    have hl:=p.len h2
    have e1:(i+1)*p.n=v1.length+i*p.n:=by rw [hl,Nat.add_mul,Nat.one_mul,Nat.add_comm]
    rw [h1,e1,List.take_length_add_append,Nat.add_assoc,List.drop_append]
    simp [Nat.add_assoc]

theorem Gs.at_ {e:TypeId} {a:Option Addr} {c:Nat} {xs:List α} {kk:Option Nat} {o:Obj} (h:Gs p e w O a c xs kk o) (hx:0<xs.length):∃bl,a=some ⟨bl,0,none⟩∧kk=some bl:=by
  rcases h with ⟨_,_,rfl,_⟩ |⟨bl,cur,h1,h2,_⟩
  · simp at hx
  · exact⟨bl,h1,h2⟩
theorem B7 {xs:List α} {e:TypeId} {dt:TypeDesc} {a:Option Addr} {c:Nat} {kd:IntKind} {bt:Nat} {tz:List Value} {ta:Bool} {kk:Option Nat} {o:Obj} (T:Ty P t (.slice e) 1 bt tz ta) (E:Ty P e dt n b z ag)
    (hx:ev ρ x=.slice a xs.length c) (hy:ev ρ y=.int kd m) (h:Gs p e w O a c xs kk o) (h0:0≤m∧m<xs.length)
    (k:∀bl,a=some ⟨bl,0,none⟩→kk=some bl→V (.pointer (some ⟨bl,m.toNat*n,none⟩)) w):BQ P r ρ w ⟨d,.indexAddr t x y,ty,pos,aft,g⟩ V:=by
  obtain⟨bl,ha,hk⟩:=h.at_ (by omega)
  refine KQ T E (hx.trans (by rw [ha])) hy h0.1 h0.2 ?_
  simpa using k bl ha hk
theorem Gs.cellsAt {e:TypeId} {a:Option Addr} {c bl:Nat} {xs:List α} {o:Obj} (h:Gs p e w O a c xs (some bl) o) {i:Nat} (hi:i<xs.length):
    ∃cur,o=.cells cur e (0,0)∧(i+1)*p.n≤cur.size∧p.rd w O ((cur.toList.drop (i*p.n)).take p.n) xs[i]:=by
  rcases h with ⟨_,_,rfl,_⟩ |⟨b2,cur,h1,h2,h3,h4,h5,h6,h7⟩
  · simp at hi
  · have e1 : (i + 1) * p.n ≤ xs.length * p.n := Nat.mul_le_mul_right _ hi
    have e2:xs.length*p.n≤c*p.n:=Nat.mul_le_mul_right _ h5
    refine⟨cur,h3,by omega,?_⟩
    have:=h7.get i hi
    rwa [List.drop_take,List.take_take,Nat.min_eq_left (by rw [Nat.add_mul] at e1;omega)] at this
theorem Gr [Inhabited α] {xs:List α} {e:TypeId} {a:Option Addr} {c bl i:Nat} {o:Obj} (T:Ty P t td 1 b z false) (hp:p.n=1) (hs:St w0 O0 w bs) (hi:bs[i]?=some (some bl,o))
    (hx:ev ρ x=.pointer (some ⟨bl,m.toNat*1,none⟩)) (h:Gs p e w O a c xs (some bl) o) (h0:0≤m∧m<xs.length)
    (k:∀v,p.rd w O [v] (xs.getD m.toNat default)→V v w):BQ P r ρ w ⟨d,.load t x,ty,pos,aft,g⟩ V:=by
  have hm:m.toNat<xs.length:=by omega
  obtain⟨cur,h1,h2,h3⟩:=h.cellsAt hm
  subst h1
  rw [hp] at h2 h3
  simp only [Nat.mul_one] at h2 h3 hx
  have hl:m.toNat<cur.size:=by omega
  have e1:(cur.toList.drop m.toNat).take 1=[cur[m.toNat]]:=by
    rw [List.drop_eq_getElem_cons (by simpa using hl)];simp
  rw [e1] at h3
  refine Q3 (cs:=cur.toList) (v:=cur[m.toNat]) T hs hx (by rw [hi]) ?_ (k _ ?_)
  · rw [List.getElem?_eq_getElem (by simpa using hl)];simp
  · have : xs.getD m.toNat default = xs[m.toNat] := by simp [List.getD_eq_getElem?_getD, List.getElem?_eq_getElem hm]
    rw [this];exact h3
theorem KB [Inhabited α] {xs:List α} {e:TypeId} {a:Option Addr} {c bl i:Nat} {o:Obj} (T:Ty P t td n b z true) (hp:p.n=n) (hs:St w0 O0 w bs) (hi:bs[i]?=some (some bl,o))
    (hx:ev ρ x=.pointer (some ⟨bl,m.toNat*n,none⟩)) (h:Gs p e w O a c xs (some bl) o) (h0:0≤m∧m<xs.length)
    (k:∀vs,p.rd w O vs (xs.getD m.toNat default)→V (.agg vs.toArray) w):BQ P r ρ w ⟨d,.load t x,ty,pos,aft,g⟩ V:=by
  have hm:m.toNat<xs.length:=by omega
  obtain⟨cur,h1,h2,h3⟩:=h.cellsAt hm
  subst h1 hp
  refine GI (cs:=cur.toList) T hs hx (by rw [hi]) rfl (p.len h3) (k _ ?_)
  have:xs.getD m.toNat default=xs[m.toNat]:=by simp [List.getD_eq_getElem?_getD,List.getElem?_eq_getElem hm]
  rw [this];exact h3
theorem Hf {xs:List α} {e:TypeId} {a:Option Addr} {c bl i:Nat} {o:Obj} {v:Value} {vs:List Value} {yv:α} (T:Ty P t td n b z ag) (hp:p.n=n) (hs:St w0 O0 w bs) (hi:bs[i]?=some (some bl,o))
    (hx:ev ρ x=.pointer (some ⟨bl,m.toNat*n,none⟩)) (hy:ev ρ y=v) (hv:v.cells=vs.toArray) (h:Gs p e w (ks bs O0) a c xs (some bl) o) (h0:0≤m∧m<xs.length) (hr:p.rd w (ks bs O0) vs yv)
    (k:∀w' o',AB (ks bs O0) w (ks (bs.set i (some bl,o')) O0) w'→St w0 O0 w' (bs.set i (some bl,o'))→Gs p e w' (ks (bs.set i (some bl,o')) O0) a c (xs.set m.toNat yv) (some bl) o'→V undef w'):
    BQ P r ρ w ⟨d,.store t x y,ty,pos,aft,g⟩ V:=by
  have hm:m.toNat<xs.length:=by omega
  rcases h with ⟨_,_,rfl,_⟩ |⟨b2,cur,h1,h2,h3,h4,h5,h6,h7⟩
  · simp at hm
  · cases h2
    subst h3 hp
    have e1:(m.toNat+1)*p.n≤xs.length*p.n:=Nat.mul_le_mul_right _ hm
    have e2:xs.length*p.n≤c*p.n:=Nat.mul_le_mul_right _ h5
    rw [Nat.add_mul,Nat.one_mul] at e1
    have hn:=p.len hr
    refine Il (cs:=cur.toList) (vs:=vs) T hs hx hy (by rw [hi]) hv hn (by simp;omega) (List.all_eq_true.2 fun v hv=>by simpa using p.one hr v hv) rfl rfl fun w' h8 h9=>?_
    refine k w' _ h8 h9 ?_
    refine .inr ⟨bl,_,h1,rfl,rfl,?_,by simpa using h5,h6,?_⟩
    · rw [List.size_toArray,Jc (by simp;omega)];simpa using h4
    · have e3 := (h7.set m.toNat hm hr).step h8
      simp only [List.length_set]
      have e4:(Ia cur.toList (m.toNat*p.n) vs).take (xs.length*p.n)=((cur.toList.take (xs.length*p.n)).take (m.toNat*p.n))++vs++(cur.toList.take (xs.length*p.n)).drop (m.toNat*p.n+p.n):=by
        apply List.ext_getElem?
        intro j
        rw [List.getElem?_take,HC (by simp;omega)]
        simp only [List.getElem?_append,List.length_append,List.length_take,Array.length_toList,List.getElem?_take,List.getElem?_drop,hn]
        rw [Nat.min_eq_left (show xs.length*p.n≤cur.size by omega),Nat.min_eq_left (show m.toNat*p.n≤xs.length*p.n by omega)]
        by_cases c1:j<m.toNat*p.n
        · simp [c1,show j<m.toNat*p.n+p.n by omega,show j<xs.length*p.n by omega,show ¬m.toNat*p.n≤j by omega]
        · by_cases c2 : j < m.toNat * p.n + p.n
          · simp [c1,c2,show j<xs.length*p.n by omega,show m.toNat*p.n≤j by omega]
          · simp only [c1, c2, if_false, and_false]
            have:m.toNat*p.n+p.n+(j - (m.toNat*p.n+p.n))=j:=by omega
            rw [this]
      rw [e4];exact e3
theorem Gs.of_cells {e:TypeId} {bl c:Nat} {cs:List Value} {xs:List α} (h:Ej p w O cs xs) (hc:xs.length=c) (hm:c≤maxLen):Gs p e w O (some ⟨bl,0,none⟩) c xs (some bl) (.cells cs.toArray e):=by
  refine Gs.made (by simp [h.len,hc]) (by omega) hm ?_
  simp only
  rw [List.take_of_length_le (by rw [h.len];exact Nat.le_refl _)];exact h
end own

/-! function values -/
def N7 (P:Program) (fv:Value) (args:List Value) (w:World) (K:Value→World→Prop):Prop:=
  ∃f first cap,fv=.func (.func f) first cap∧(∀(zs:Array Value) (w:World),(callFunc f zs).run P w=.ok (.enter f zs) w)∧Fn P f (first.toList++args++cap.toList) w K
theorem Io {fv:Value} {args:Array Operand} {us:Array TypeId} {vs:List Value} {K:Value→World→Prop} (hx:ev ρ x=fv) (h:N7 P fv vs w K) (ha:args.toList.map (ev ρ)=vs) (hk:∀v w',K v w'→V v w'):
    BQ P r ρ w ⟨d,.call ⟨.value x,args,us⟩,ty,pos,aft,g⟩ V:=by
  obtain⟨f,first,cap,rfl,hc,hf⟩:=h
  refine MF (f:=f) (args:=first.toList++vs++cap.toList) (w':=w) (by simp) ?_ hf hk
  have:args.map (ev ρ)=vs.toArray:=by rw [← ha,← Array.toList_map]
  simp [execOp,resolve,Deferred.ofValue,hx,invoke,hc,this]
theorem GE {f:Go.Fn} {a c:Array Operand} {a' c':List Value} (ha:a.toList.map (ev ρ)=a') (hc:c.toList.map (ev ρ)=c') (h:V (.func f a'.toArray c'.toArray) w):BQ P r ρ w ⟨d,.makeFunc f a c,ty,pos,aft,g⟩ V:=by
  refine Pq ?_
  have e1:a.map (ev ρ)=a'.toArray:=by rw [← ha,← Array.toList_map]
  have e2:c.map (ev ρ)=c'.toArray:=by rw [← hc,← Array.toList_map]
  rw [e1,e2];exact h
def Gt {α β:Type} (P:Program) (w:World) (O:List Nat) (fv:Value) (A:Vr α) (R:Vr β) (f:α→Option β):Prop:=
  ∀w' O',AB O w O' w'→(∀k∈O',k<w'.heap.size)→∀v x y,A.vd w' O' v x→f x=some y→N7 P fv [v] w' fun u w''=>GH w' w''∧R.vd w'' O' u y
def EB {α α' β:Type} (P:Program) (w:World) (O:List Nat) (fv:Value) (A:Vr α) (A':Vr α') (R:Vr β) (f:α→α'→Option β):Prop:=
  ∀w' O',AB O w O' w'→(∀k∈O',k<w'.heap.size)→∀v v' x x' y,A.vd w' O' v x→A'.vd w' O' v' x'→f x x'=some y→N7 P fv [v,v'] w' fun u w''=>GH w' w''∧R.vd w'' O' u y
theorem Gt.step {α β:Type} {w':World} {O O':List Nat} {fv:Value} {A:Vr α} {R:Vr β} {f:α→Option β} (h:Gt P w O fv A R f) (s:AB O w O' w'):Gt P w' O' fv A R f:=
  fun _ _ s'=>h _ _ (s.trans s')
theorem EB.step {α α' β:Type} {w':World} {O O':List Nat} {fv:Value} {A:Vr α} {A':Vr α'} {R:Vr β} {f:α→α'→Option β} (h:EB P w O fv A A' R f) (s:AB O w O' w'):EB P w' O' fv A A' R f:=
  fun _ _ s'=>h _ _ (s.trans s')
theorem Gt.call {α β:Type} {O:List Nat} {fv:Value} {A:Vr α} {R:Vr β} {f:α→Option β} (h:Gt P w O fv A R f) (hO:∀k∈O,k<w.heap.size) {v:Value} {x:α} {y:β} (hv:A.vd w O v x) (hy:f x=some y):
    N7 P fv [v] w fun u w''=>GH w w''∧R.vd w'' O u y:=h _ _ (AB.refl _ _) hO _ _ _ hv hy
theorem EB.call {α α' β:Type} {O:List Nat} {fv:Value} {A:Vr α} {A':Vr α'} {R:Vr β} {f:α→α'→Option β} (h:EB P w O fv A A' R f) (hO:∀k∈O,k<w.heap.size) {v v':Value} {x:α} {x':α'} {y:β} (hv:A.vd w O v x) (hv':A'.vd w O v' x') (hy:f x x'=some y):
    N7 P fv [v,v'] w fun u w''=>GH w w''∧R.vd w'' O u y:=h _ _ (AB.refl _ _) hO _ _ _ _ _ hv hv' hy
theorem St.publishP {α:Type} {p:Rp α} (hs:St w0 O0 w bs) {i bl:Nat} {cs:List Value} {e:TypeId} {fz:Nat × Nat} {x:α} (hi:bs[i]?=some (some bl,.cells cs.toArray e fz)) (h:p.rd w (ks bs O0) cs x):
    St w0 O0 w (bs.eraseIdx i)∧AB (ks bs O0) w (ks (bs.eraseIdx i) O0) w∧Iy p w (ks (bs.eraseIdx i) O0) ⟨bl,0,none⟩ x:=by
  have hst:=AB.drop w O0 bs i
  refine⟨hs.drop i,hst,rfl,⟨hs.lt (List.mem_of_getElem? hi) rfl,JJ hs hi⟩,_,e,fz,hs.get hi,?_,?_⟩
  · have:=p.len h;simp;omega
  · have h1 := p.len h
    simp only [List.drop_zero]
    rw [← h1,List.take_length];exact p.step hst h

/-! a slice handed back as the caller's own -/
def OI {α:Type} (P:Program) (f:FuncId) (args:List Value) (w:World) (O:List Nat) (p:Rp α) (e:TypeId) (x:List α):Prop:=
  Fn P f args w fun v w'=>GH w w'∧∃a c kk o,v=.slice a x.length c∧(∀b,kk=some b→w.heap.size≤b∧w'.heap[b]?=some o)∧Gs p e w' (kk.toList++O) a c x kk o
theorem Jd (kk:Option Nat) (o:Obj):ks ((kk,o)::bs) O0=kk.toList++ks bs O0:=by cases kk<;> rfl
theorem St.callG {kk:Option Nat} {o:Obj} (hs:St w0 O0 w bs) (hx:GH w w') (hk:∀b,kk=some b→w.heap.size≤b∧w'.heap[b]?=some o):
    St w0 O0 w' ((kk,o)::bs)∧AB (ks bs O0) w (ks ((kk,o)::bs) O0) w':=by
  have h1:=hs.call hx
  cases kk with
  |none=>exact⟨h1.ghost o,AB.ext hx⟩
  |some b=>
    obtain⟨hb,hg⟩:=hk b rfl
    refine⟨⟨h1.below,fun q hq j hj=>?_,?_,fun j hj=>⟨(h1.dj j hj).1,fun hm=>?_⟩,h1.dsn,h1.dfs⟩,hx.size,fun j hj hn=>⟨fun hm=>?_,(AB.ext (O:=ks bs O0) hx).keep j hj hn |>.2⟩⟩
    · rcases List.mem_cons.1 hq with rfl | hq
      · cases hj;exact⟨.inr (Nat.le_trans hs.below.size hb),hg⟩
      · exact h1.own q hq j hj
    · show (b :: bs.filterMap Prod.fst).Nodup
      rw [List.nodup_cons]
      refine⟨fun hm=>?_,h1.nd⟩
      have:=hs.ltw b (List.mem_append_left _ hm)
      omega
    · rcases List.mem_cons.1 (show j ∈ b :: bs.filterMap Prod.fst from hm) with e | hm
      · have:=hs.lt0 j hj;omega
      · exact(hs.dj j hj).2 hm
    · rw [Jd] at hm
      rcases List.mem_append.1 hm with hm |hm
      · simp at hm;omega
      · exact hn hm
theorem OI.ok {α:Type} {f:FuncId} {args:List Value} {O:List Nat} {p:Rp α} {e:TypeId} {xs:List α} (hO:∀k∈O,k<w.heap.size) (h:OI P f args w O p e xs):Ok P f args w O (vC (BE p)) xs:=by
  refine Fn.mono h fun v w' ⟨hx,a,c,kk,o,hv,hk,hG⟩=>⟨hx,?_⟩
  obtain⟨h1,h2⟩:=(St.start hO).callG hx hk
  obtain⟨_,_,h3⟩:=Gs.publish (i:=0) h1 rfl (by rw [Jd];exact hG)
  rw [hv]
  exact Ke (B5 h3)
theorem OI.mk {w0:World} {α:Type} {O:List Nat} {p:Rp α} {e:TypeId} {xs ys:List α} {a:Option Addr} {c i:Nat} {kk:Option Nat} {o:Obj} (hs:St ⟨w0,[],[]⟩ O w' bs) (hi:bs[i]?=some (kk,o)) (h:Gs p e w' (ks bs O) a c xs kk o) (he:xs=ys):
    ∃a' c' kk o,Value.slice a xs.length c=.slice a' ys.length c'∧(∀b,kk=some b→w0.heap.size≤b∧w'.heap[b]?=some o)∧Gs p e w' (kk.toList++O) a' c' ys kk o:=by
  subst he
  refine⟨a,c,kk,o,rfl,fun b hb=>⟨((hs.own _ (List.mem_of_getElem? hi) b hb).1).resolve_left (by simp),(hs.own _ (List.mem_of_getElem? hi) b hb).2⟩,h.step ⟨Nat.le_refl _,fun j hj hn=>⟨fun hm=>hn ?_,rfl⟩⟩⟩
  rcases List.mem_append.1 hm with hm |hm
  · refine List.mem_append_left _ (B6.2 ⟨_, List.mem_of_getElem? hi, ?_⟩)
    simpa using hm
  · exact List.mem_append_right _ hm
theorem OI.mkNil {w0:World} {α:Type} {O:List Nat} {p:Rp α} {e:TypeId} {ys:List α} (he:([]:List α)=ys):
    ∃a' c' kk o,Value.slice none 0 0=.slice a' ys.length c'∧(∀b,kk=some b→w0.heap.size≤b∧w'.heap[b]?=some o)∧Gs p e w' (kk.toList++O) a' c' ys kk o:=by
  subst he
  exact⟨none,0,none,.cells #[] e,rfl,(fun _ h=>by cases h),Gs.nil_⟩

theorem Ej.drop {α:Type} {p:Rp α} {O:List Nat} :∀{cs:List Value} {xs:List α},Ej p w O cs xs→∀k,Ej p w O (cs.drop (k*p.n)) (xs.drop k)
  |_,[],h,k=>by rw [show _=_ from h];simp [Ej]
  |_,_::_,h,0=>by simpa using h
  |_,x::xs,⟨v1,v2,h1,h2,h3⟩,k+1=>by
    have:=Ej.drop h3 k
    rw [h1,Nat.add_mul,Nat.one_mul,Nat.add_comm,← p.len h2,List.drop_append,List.drop_of_length_le (by omega)]
    simp only [List.nil_append,List.drop_succ_cons,p.len h2,Nat.add_sub_cancel_left];exact this
theorem Sy {α:Type} {p:Rp α} {xs ys:List α} {e:TypeId} {a a2:Option Addr} {c c2 i bt:Nat} {tz:List Value} {ta:Bool} {kk:Option Nat} {o:Obj} (T:Ty P t (.slice e) 1 bt tz ta) (E:Ty P e td 1 b z ag) (hp:p.n=1)
    (hs:St w0 O0 w bs) (hi:bs[i]?=some (kk,o)) (hx:ev ρ x=.slice a xs.length c) (hG:Gs p e w (ks bs O0) a c xs kk o) (hy:ev ρ y=.slice a2 ys.length c2) (h:CA p w (ks bs O0) a2 c2 ys) (hpos:0<xs.length∨a≠none)
    (k:∀o' w',AB (ks bs O0) w (ks (bs.set i (kk,o')) O0) w'→St w0 O0 w' (bs.set i (kk,o'))→Gs p e w' (ks (bs.set i (kk,o')) O0) a c (ys.take xs.length++xs.drop ys.length) kk o'→V (.int .i64 ((min ys.length xs.length:Nat):Int)) w'):
    BQ P r ρ w ⟨d,.call ⟨.builtin .copy,#[x,y],#[t,t]⟩,ty,pos,aft,g⟩ V:=by
  rcases hG with ⟨ha,_,rfl,_⟩ |⟨bl,cur,rfl,rfl,rfl,h4,h5,h6,h7⟩
  · simp [ha] at hpos
  · obtain ⟨news, hE, hS⟩ := h.src
    have hnl:news.length=ys.length:=by rw [hE.len,hp,Nat.mul_one]
    rw [hp,Nat.mul_one] at h4 h7
    refine Q6 (cs:=cur.toList) T E hs (by rw [hi]) hx hy hS hnl hE.one (by simp;omega) rfl rfl fun w' h8 h9=>k _ w' h8 h9 ?_
    have hlen:(news.take (min ys.length xs.length)).length=min ys.length xs.length:=by simp;omega
    refine .inr ⟨bl,_,rfl,rfl,rfl,?_,by simp;omega,h6,?_⟩
    · rw [List.size_toArray,Jc (by simp;omega)];simpa [hp] using h4
    · have e1 : (ys.take xs.length ++ xs.drop ys.length).length = xs.length := by simp; omega
      rw [hp,Nat.mul_one,e1]
      have e2:(Ia cur.toList 0 (news.take (min ys.length xs.length))).take xs.length=news.take (min ys.length xs.length)++(cur.toList.take xs.length).drop (min ys.length xs.length):=by
        unfold Ia
        simp only [List.take_zero,List.nil_append,Nat.zero_add,hlen]
        rw [List.take_append,hlen,List.take_of_length_le (by rw [hlen];omega),List.drop_take]
      rw [show(Ia cur.toList 0 (news.take (min ys.length xs.length))).toArray.toList=Ia cur.toList 0 (news.take (min ys.length xs.length)) from rfl,e2]
      have e3:ys.take xs.length=ys.take (min ys.length xs.length):=by rw [← List.take_take,List.take_of_length_le (l:=ys.take xs.length) (by simp;omega)]<;> omega
      have e4:xs.drop ys.length=xs.drop (min ys.length xs.length):=by
        rcases Nat.le_total ys.length xs.length with hl |hl
        · rw [Nat.min_eq_left hl]
        · rw [Nat.min_eq_right hl,List.drop_of_length_le hl,List.drop_of_length_le (Nat.le_refl _)]
      rw [e3,e4]
      have f1:=(hE.take (min ys.length xs.length)).step h8
      have f2:=(h7.drop (min ys.length xs.length)).step h8
      rw [hp,Nat.mul_one] at f1 f2
      exact f1.append f2

theorem Sz {α:Type} {p:Rp α} {xs ys:List α} {news:List Value} {e e':TypeId} {a2:Option Addr} {c c2 i bt bl l h:Nat} {tz:List Value} {ta:Bool} {a:Option Addr} {o:Obj} (T:Ty P t (.slice e) 1 bt tz ta) (E:Ty P e td 1 b z ag) (hp:p.n=1)
    (hs:St w0 O0 w bs) (hi:bs[i]?=some (some bl,o)) (hx:ev ρ x=.slice (some ⟨bl,if c=l then 0 else 0+l*1,none⟩) (h - l) (c - l)) (hG:Gs p e' w (ks bs O0) a c xs (some bl) o) (hy:ev ρ y=.slice a2 ys.length c2) (hE:Ej p w (ks bs O0) news ys) (hS:Mm w a2 news)
    (hlh:l<h) (hh:h≤xs.length)
    (k:∀o' w',AB (ks bs O0) w (ks (bs.set i (some bl,o')) O0) w'→St w0 O0 w' (bs.set i (some bl,o'))→
      Gs p e' w' (ks (bs.set i (some bl,o')) O0) a c (xs.take l++(ys.take (h - l)++(xs.drop l).drop (min ys.length (h - l)))) (some bl) o'→V (.int .i64 ((min ys.length (h - l):Nat):Int)) w'):
    BQ P r ρ w ⟨d,.call ⟨.builtin .copy,#[x,y],#[t,t]⟩,ty,pos,aft,g⟩ V:=by
  rcases hG with ⟨_,_,rfl,_⟩ |⟨b2,cur,rfl,hb2,rfl,h4,h5,h6,h7⟩
  · simp at hh;omega
  · cases hb2
    have hnl:news.length=ys.length:=by rw [hE.len,hp,Nat.mul_one]
    rw [hp,Nat.mul_one] at h4 h7
    have hcl:c≠l:=by omega
    rw [if_neg hcl,Nat.zero_add,Nat.mul_one] at hx
    have hlen:(news.take (min ys.length (h - l))).length=min ys.length (h - l):=by simp;omega
    have hcs:cur.toList.length=c:=by simpa using h4
    refine Q6 (cs:=cur.toList) T E hs (by rw [hi]) hx hy hS hnl hE.one (by rw [hcs];omega) rfl rfl fun w' h8 h9=>k _ w' h8 h9 ?_
    have hL:(xs.take l++(ys.take (h - l)++(xs.drop l).drop (min ys.length (h - l)))).length=xs.length:=by simp;omega
    refine .inr ⟨bl,_,rfl,rfl,rfl,?_,by rw [hL];exact h5,h6,?_⟩
    · rw [List.size_toArray,Jc (by rw [hlen,hcs];omega),hcs,hp,Nat.mul_one]
    · rw [hp, Nat.mul_one, hL]
      have e2:(Ia cur.toList l (news.take (min ys.length (h - l)))).take xs.length=
          (cur.toList.take xs.length).take l++(news.take (min ys.length (h - l))++((cur.toList.take xs.length).drop l).drop (min ys.length (h - l))):=by
        apply List.ext_getElem?
        intro j
        rw [List.getElem?_take,HC (by rw [hlen,hcs];omega),hlen]
        simp only [List.getElem?_append,List.length_take,List.getElem?_take,List.getElem?_drop,hnl,hcs,List.length_drop]
        have e5:min l (min xs.length c)=l:=by omega
        rw [e5]
        by_cases c1:j<l
        · simp [c1,show j<xs.length by omega,show ¬l≤j by omega]
        · simp only [c1, if_false]
          by_cases c2:j<l+min ys.length (h - l)
          · have c3 : j - l < min (min ys.length (h - l)) ys.length := by omega
            have c4:j - l<min ys.length (h - l):=by omega
            simp only [show j<xs.length by omega,show l≤j by omega,c2,c3,c4,and_self,if_true]
          · have c3 : ¬ j - l < min (min ys.length (h - l)) ys.length := by omega
            simp only [c2,c3,and_false,if_false]
            have e6:l+(min ys.length (h - l)+(j - l - min (min ys.length (h - l)) ys.length))=j:=by omega
            rw [e6]
      rw [show(Ia cur.toList l (news.take (min ys.length (h - l)))).toArray.toList=Ia cur.toList l (news.take (min ys.length (h - l))) from rfl,e2]
      have e3:ys.take (h - l)=ys.take (min ys.length (h - l)):=by
        rcases Nat.le_total ys.length (h - l) with hl |hl
        · rw [Nat.min_eq_left hl,List.take_of_length_le hl,List.take_length]
        · rw [Nat.min_eq_right hl]
      rw [e3]
      have f0:=(h7.take l).step h8
      have f1:=(hE.take (min ys.length (h - l))).step h8
      have f2:=((h7.drop l).drop (min ys.length (h - l))).step h8
      rw [hp,Nat.mul_one] at f0 f1 f2
      rw [Nat.mul_one] at f2
      exact f0.append (f1.append f2)

theorem Gs.win {α:Type} {p:Rp α} {xs:List α} {e:TypeId} {O:List Nat} {a:Option Addr} {c bl l h i:Nat} {o:Obj} (hp:p.n=1) (hs:St w0 O0 w bs) (hi:bs[i]?=some (some bl,o)) (hG:Gs p e w O a c xs (some bl) o) (hlh:l<h) (hh:h≤xs.length):
    ∃news,Ej p w O news ((xs.drop l).take (h - l))∧Mm w (some ⟨bl,if c=l then 0 else 0+l*1,none⟩) news:=by
  rcases hG with ⟨_,_,rfl,_⟩ |⟨b2,cur,rfl,hb2,rfl,h4,h5,h6,h7⟩
  · simp at hh;omega
  · cases hb2
    rw [hp,Nat.mul_one] at h4 h7
    have f:=(h7.drop l).take (h - l)
    rw [hp,Nat.mul_one,Nat.mul_one] at f
    refine⟨_,f,?_⟩
    rw [if_neg (by omega),Nat.zero_add,Nat.mul_one]
    have e1:((cur.toList.take xs.length).drop l).take (h - l)=(cur.toList.drop l).take (h - l):=by
      rw [List.drop_take,List.take_take,Nat.min_eq_left (by omega)]
    rw [e1]
    exact Mm.owned (cs:=cur.toList) (e:=e) (fz:=(0,0)) (hs.get (by rw [hi]))
/-! arrays in blocks of one's own -/
theorem S0 {α:Type} {p:Rp α} {O:List Nat} {xs:List α} {a:Option Addr} {c l:Nat} (e:l=xs.length) (h:CA p w O a c xs):(BE p).rd w O [.slice a l c] xs:=by subst e;exact B5 h
end
end Go.Fx
set_option linter.unusedSimpArgs false
set_option linter.unusedVariables false
namespace Go.Fx
open Go Go.RowKit

structure Pr (O O':List Nat) (w w':World):Prop where
  new:∀k∈O',k∈O∨w.heap.size≤k
  lt:∀k∈O',k<w'.heap.size
theorem Pr.refl {O:List Nat} {w w':World} (h:∀k∈O,k<w'.heap.size):Pr O O w w':=⟨fun _ h=>.inl h,h⟩

abbrev JP (α:Type):=List α→World→List Nat→List Nat→Prop
structure Gw {α:Type} (J:JP α):Prop where
  loc:∀{pre:List α} {w w':World} {O K K':List Nat},J pre w O K→(∀k∈K,k ∉ O)→HW K w w'→Pr K K' w w'→J pre w' O K'
def GW {α:Type} (P:Program) (enc:α→World→List Nat→List Value→Prop) (L:List α) (l:Nat) (J Jx:JP α):Prop:=
  ∀(pre:List α) (x:α) (w:World) (O K:List Nat) (vs:List Value),pre++[x]<+:L→J pre w O K→(∀k∈K,k<w.heap.size∧k ∉ O)→(∀k∈O,k<w.heap.size)→enc x w (K++O) vs→
    YieldAt (FW none) 0 P l vs.toArray w fun e w'=>∃O',HW O w w'∧Pr O O' w w'∧((e=.returned (.bool true)∧J (pre++[x]) w' O' K)∨(e=.returned (.bool false)∧Jx (pre++[x]) w' O' K))
def NR {α:Type} (P:Program) (w:World) (O:List Nat) (f:FuncId) (caps:List Value) (enc:α→World→List Nat→List Value→Prop) (L:List α):Prop:=
  ∀(w1:World) (O1:List Nat),AB O w O1 w1→(∀k∈O1,k<w1.heap.size)→∀(l:Nat) (J Jx:JP α),Gw J→Gw Jx→GW P enc L l J Jx→J [] w1 O1 []→
    Fn P f (.func (.yield l) #[] #[]::caps) w1 fun _ w2=>∃O2,J L w2 O2 []∨∃pre,Jx pre w2 O2 []
theorem NR.step {α:Type} {P:Program} {w w':World} {O O':List Nat} {f:FuncId} {caps:List Value} {enc:α→World→List Nat→List Value→Prop} {L:List α} (h:NR P w O f caps enc L) (s:AB O w O' w'):NR P w' O' f caps enc L:=
  fun w1 O1 s1=>h w1 O1 (s.trans s1)
def J4 {α:Type} (a:Vr α):α→World→List Nat→List Value→Prop:=fun x w O vs=>∃v,vs=[v]∧a.vd w O v x
def MR {α β:Type} (a:Vr α) (b:Vr β):α × β→World→List Nat→List Value→Prop:=fun x w O vs=>∃v1 v2,vs=[v1,v2]∧a.vd w O v1 x.1∧b.vd w O v2 x.2
theorem Ps {α:Type} {a:Vr α} {x:α} {w:World} {O:List Nat} {vs:List Value} (h:J4 a x w O vs):vs.length=1:=by obtain⟨v,rfl,_⟩:=h;rfl
theorem NS {α:Type} {a:Vr α} {x:α} {w w':World} {O O':List Nat} {vs:List Value} (s:AB O w O' w') (h:J4 a x w O vs):J4 a x w' O' vs:=by obtain⟨v,e,h⟩:=h;exact⟨v,e,a.step s h⟩
theorem NT {α β:Type} {a:Vr α} {b:Vr β} {x:α × β} {w w':World} {O O':List Nat} {vs:List Value} (s:AB O w O' w') (h:MR a b x w O vs):MR a b x w' O' vs:=by
  obtain⟨v1,v2,e,h1,h2⟩:=h;exact⟨v1,v2,e,a.step s h1,b.step s h2⟩

/-! ### what is owned, said anew -/
theorem AB.sub {O O':List Nat} {w:World} (h:∀k∈O',k∈O):AB O w O' w:=⟨Nat.le_refl _,fun k _ hn=>⟨fun hm=>hn (h k hm),rfl⟩⟩
theorem AB.of_loc {O O' K:List Nat} {w w':World} (h:HW K w w') (hK:∀k∈K,k∈O) (hO:∀k∈O',k∈O∨w.heap.size≤k):AB O w O' w':=
  ⟨h.size,fun k hk hn=>⟨fun hm=>(hO k hm).elim hn (fun h=>by omega),h.block k hk fun hm=>hn (hK k hm)⟩⟩
section
variable {z : Zx} {O0 O1 : List Nat} {w w' : World} {bs : Bi}
theorem By {k:Nat} :k∈ks bs O0 ↔ k∈bs.filterMap Prod.fst∨k∈O0:=List.mem_append
theorem St.loc (h:St z O0 w bs) {K:List Nat} (hl:HW K w w') (hK:∀k∈K,k ∉ bs.filterMap Prod.fst∧(k∈z.K∨z.w.heap.size≤k)∧k ∉ z.ds):St z O0 w' bs:=
  ⟨h.below.trans' hl fun k hk=>(hK k hk).2.1,fun p hp b hb=>⟨(h.own p hp b hb).1,by rw [hl.block b (h.lt hp hb) fun hm=>(hK b hm).1 (B6.2 ⟨p,hp,hb⟩)];exact(h.own p hp b hb).2⟩,h.nd,
   fun k hk=>⟨Nat.lt_of_lt_of_le (h.dj k hk).1 hl.size,(h.dj k hk).2⟩,h.dsn,
   fun D hD=>⟨(h.dfs D hD).1,(h.dfs D hD).2.1,by rw [hl.block D (h.lt0 D (h.dfs D hD).1) fun hm=>(hK D hm).2.2 hD];exact(h.dfs D hD).2.2⟩⟩
theorem St.others (h:St z O0 w bs) (hO:∀k∈O1,k<w.heap.size∧k ∉ bs.filterMap Prod.fst) (hd:∀D∈z.ds,D∈O1):St z O1 w bs:=
  ⟨h.below,h.own,h.nd,hO,h.dsn,fun D hD=>⟨hd D hD,(h.dfs D hD).2⟩⟩
theorem St.re (h:St z O0 w bs):St ⟨w,bs.filterMap Prod.fst,[]⟩ O0 w bs:=
  ⟨HW.refl _ _,fun p hp b hb=>⟨.inl (B6.2 ⟨p,hp,hb⟩),(h.own p hp b hb).2⟩,h.nd,h.dj,List.nodup_nil,fun _ h=>by cases h⟩
theorem St.back {w1:World} {K1:List Nat} (h:St ⟨w1,K1,[]⟩ O0 w bs) (hl:HW z.K z.w w1) (hK:∀k∈K1,k∈z.K∨z.w.heap.size≤k) (hdn:z.ds.Nodup)
    (hd:∀D∈z.ds,D∈O0∧(D∈z.K∨z.w.heap.size≤D)∧w.heap[D]?=some (.deferred (some []))):St z O0 w bs:=
  ⟨hl.trans' h.below hK,fun p hp b hb=>⟨(h.own p hp b hb).1.elim (hK b) fun h1=>.inr (Nat.le_trans hl.size h1),(h.own p hp b hb).2⟩,h.nd,h.dj,hdn,hd⟩
theorem St.sub {bs':Bi} (h:St z O0 w bs) (hb:bs'.Sublist bs):St z O0 w bs'∧AB (ks bs O0) w (ks bs' O0) w:=
  ⟨⟨h.below,fun p hp=>h.own p (hb.subset hp),(hb.filterMap _).nodup h.nd,fun k hk=>⟨(h.dj k hk).1,fun hm=>(h.dj k hk).2 ((hb.filterMap _).subset hm)⟩,h.dsn,h.dfs⟩,
   AB.sub fun k hk=>(By.1 hk).elim (fun hm=>By.2 (.inl ((hb.filterMap _).subset hm))) fun hm=>By.2 (.inr hm)⟩
theorem St.close {w0:World} {K0:List Nat} :∀{ds:List Nat} {w:World},St ⟨w0,K0,ds⟩ O0 w bs→∃w',ME ds w w'∧St ⟨w0,K0,[]⟩ O0 w' bs∧AB (ks bs O0) w (ks bs O0) w'
  |[],w,h=>⟨w,rfl,h,AB.refl _ _⟩
  |D::ds,w,h=>by
    obtain⟨h1,h2,h3⟩:=h.dfs D (by simp)
    have hlt:=h.lt0 D h1
    have hn:=List.nodup_cons.1 h.dsn
    have hl:HW [D] w (w.putObj D (.deferred none)):=⟨rfl,rfl,rfl,by simp,fun k hk hn=>World.putObj_heap_other (by simpa using hn),Nat.le_refl _⟩
    have h4:St ⟨w0,K0,ds⟩ O0 w bs:=⟨h.below,h.own,h.nd,h.dj,hn.2,fun E hE=>h.dfs E (List.mem_cons_of_mem _ hE)⟩
    have h5:St ⟨w0,K0,ds⟩ O0 (w.putObj D (.deferred none)) bs:=h4.loc hl (by rintro k hk;simp at hk;subst hk;exact⟨(h.dj _ h1).2,h2,hn.1⟩)
    obtain⟨w',hc,hs,hp⟩:=h5.close
    exact⟨w',⟨h3,hc⟩,hs,(AB.of_loc hl (by rintro k hk;simp at hk;subst hk;exact By.2 (.inr h1)) (fun k hk=>.inl hk)).trans hp⟩
end

def UR (ρ:EX):List Nat→List Value→EX
  |p::ps,v::vs=>UR (Ls ρ p v) ps vs
  |_,_=>ρ
theorem Mn {n:Nat} :∀(ps:List Nat) (vs:List Value) {ρ:EX} {t:Array Value},GR n ρ {tmps:=t,defers:=[]}→ps.all (·<n)=true→
    GR n (UR ρ ps vs) {tmps:=(ps.zip vs).foldl (fun t (p,v)=>t.setIfInBounds p v) t,defers:=[]}
  |[],vs,ρ,t,h,_=>by cases vs<;> exact h
  |p::ps,[],ρ,t,h,_=>h
  |p::ps,v::vs,ρ,t,h,hp=>by
    simp only [List.all_cons,Bool.and_eq_true,decide_eq_true_eq] at hp
    have:=h.put (d:=some p) (by simpa using hp.1) v
    exact Mn ps vs (ρ:=Ls ρ p v) (t:=t.setIfInBounds p v) (by simpa [Act.put,KL] using this) hp.2

theorem TF {n:Nat} {ρ:EX} {a:Act} (h:GR n ρ a):GR n ⟨ρ.f,[]⟩ {tmps:=a.tmps,defers:=[]}:=⟨h.size,rfl,h.get⟩

def Qm:Option Nat→Exit
  |none=>.ret
  |some id=>.exit id
def S1:Option Nat→Code
  |none=>.ret
  |some id=>.exit id

section rule
variable {P : Program} {n : Nat} {Q : Iz} {ρ : EX} {w : World} {z : Zx} {O0 : List Nat} {bs : Bi}
variable {α σ : Type} {g : Operand} {ps : List Nat} {assign body : Code} {f : FuncId} {caps : List Value} {enc : α → World → List Nat → List Value → Prop} {L : List α}
structure S2 (bs:Bi) (O0:List Nat) (w:World) (z:Zx) (bsF:σ→Bi) (fct:σ→World→List Nat→Prop) (E:List Nat) (s:σ) (w':World):Prop where
  st:St z (E++O0) w' (bsF s)
  ch:AB (ks bs O0) w (ks (bsF s) (E++O0)) w'
  fc:fct s w' (ks (bsF s) (E++O0))

theorem S2.loc {bsF:σ→Bi} {fct:σ→World→List Nat→Prop} (hfs:∀s w O w' O',AB O w O' w'→fct s w O→fct s w' O') {K K' F:List Nat} {s:σ} {w' w'':World} (h:S2 bs O0 w z bsF fct (K++F) s w')
    (hK:∀k∈K,k ∉ ks (bsF s) (F++O0)) (hz:∀k∈K,k∈z.K∨z.w.heap.size≤k) (hds:∀D∈z.ds,D∈F++O0) (hl:HW K w' w'') (hg:Pr K K' w' w''):S2 bs O0 w z bsF fct (K'++F) s w'':=by
  have h1:St z (K++F++O0) w'' (bsF s):=h.st.loc hl fun k hk=>⟨fun hm=>hK k hk (By.2 (.inl hm)),hz k hk,fun hm=>hK k hk (By.2 (.inr (hds k hm)))⟩
  have h2:St z (K'++F++O0) w'' (bsF s):=by
    refine h1.others (fun k hk=>?_) (fun D hD=>?_)
    · rw [List.append_assoc] at hk
      rcases List.mem_append.1 hk with hk |hk
      · refine ⟨hg.lt k hk, fun hm => ?_⟩
        rcases hg.new k hk with h5 |h5
        · exact hK k h5 (By.2 (.inl hm))
        · obtain ⟨p, hp, e⟩ := B6.1 hm
          have:=h.st.lt hp e
          omega
      · exact h1.dj k (by rw [List.append_assoc];exact List.mem_append_right _ hk)
    · rw [List.append_assoc];exact List.mem_append_right _ (hds D hD)
  have hst:AB (ks (bsF s) (K++F++O0)) w' (ks (bsF s) (K'++F++O0)) w'':=AB.of_loc hl (fun k hk=>By.2 (.inr (by simp [hk]))) fun k hk=>by
    rcases By.1 hk with hk |hk
    · exact .inl (By.2 (.inl hk))
    · rw [List.append_assoc] at hk
      rcases List.mem_append.1 hk with hk |hk
      · rcases hg.new k hk with h | h
        · exact .inl (By.2 (.inr (by simp [h])))
        · exact .inr h
      · exact .inl (By.2 (.inr (by rw [List.append_assoc];exact List.mem_append_right _ hk)))
  exact⟨h2,h.ch.trans hst,hfs _ _ _ _ _ hst h.fc⟩

theorem Ly (hs:St z O0 w bs) (hv:ev ρ g=.func (.func f) #[] caps.toArray) (hcall:∀(args:Array Value) (w:World),(callFunc f args).run P w=.ok (.enter f args) w) (it:NR P w (ks bs O0) f caps enc L)
    (hps:ps.all (·<n)=true) (hlen:∀{x w O vs},enc x w O vs→vs.length=ps.length) (henc:∀{x w O w' O' vs},AB O w O' w'→enc x w O vs→enc x w' O' vs)
    (bsF:σ→Bi) (fct:σ→World→List Nat→Prop) (hfs:∀s w O w' O',AB O w O' w'→fct s w O→fct s w' O') (tl:σ→List α→Prop) (xs:List (Option Nat)) (tx:Option Nat→σ→Prop)
    (s0:σ) (hb0:bsF s0=bs) (hf0:fct s0 w (ks bs O0)) (ht0:tl s0 L)
    (round:∀l E s x rest w' vs za,za.ds=[]→St za (E++O0) w' (bsF s)→AB (ks bs O0) w (ks (bsF s) (E++O0)) w'→fct s w' (ks (bsF s) (E++O0))→tl s (x::rest)→enc x w' (ks (bsF s) (E++O0)) vs→
      Wp P (some l) n assign (Pl (fun ρ' w2=>∃bs2,St za (E++O0) w2 bs2∧∀w3 zb (RQ:Iz),zb.ds=[]→St zb (E++O0) w3 bs2→AB (ks bs2 (E++O0)) w2 (ks bs2 (E++O0)) w3→
          (∀s' ρ' w4,St zb (E++O0) w4 (bsF s')→AB (ks bs O0) w (ks (bsF s') (E++O0)) w4→fct s' w4 (ks (bsF s') (E++O0))→tl s' rest→RQ .normal ρ' w4)→
          (∀e s' ρ' w4,e∈xs→St zb (E++O0) w4 (bsF s')→AB (ks bs O0) w (ks (bsF s') (E++O0)) w4→fct s' w4 (ks (bsF s') (E++O0))→tx e s'→RQ (Qm e) ρ' w4)→
          Wp P (some l) n body RQ ρ' w3) (fun _ _ _=>False)) (UR ⟨ρ.f,[]⟩ ps vs) w')
    (done:∀D s w',St ⟨z.w,z.K,D::z.ds⟩ (D::O0) w' (bsF s)→AB (ks bs O0) w (ks (bsF s) (D::O0)) w'→fct s w' (ks (bsF s) (D::O0))→tl s []→Q .normal ⟨ρ.f,D::ρ.ds⟩ w')
    (stop:∀e D s w',e∈xs→St ⟨z.w,z.K,D::z.ds⟩ (D::O0) w' (bsF s)→AB (ks bs O0) w (ks (bsF s) (D::O0)) w'→fct s w' (ks (bsF s) (D::O0))→tx e s→Q (Qm e) ⟨ρ.f,D::ρ.ds⟩ w'):
    Wp P none n (.rangeFunc g ps.toArray assign body) Q ρ w:=by
  subst hb0
  unfold Wp
  intro a ha
  refine wpIn_rangeFunc ?_
  intro fn hfn
  obtain⟨rec,hrec⟩:∃rec:LoopState→Option Code→Loop,rec=fun st pe=>{state:=st,pending:=pe,fn,tmps:=a.tmps,params:=ps.toArray,assign,body,defers:=w.heap.size}:=⟨_,rfl⟩
  obtain⟨w1,hw1⟩:∃w1,(w.alloc (.deferred (some []))).alloc (.loop (rec .ready none))=w1:=⟨_,rfl⟩
  have hx1:GH w w1:=by rw [← hw1];exact(GH.alloc w _).trans (GH.alloc _ _)
  have hsz:w1.heap.size=w.heap.size+2:=by rw [← hw1];simp
  have hl1:w1.heap[w.heap.size+1]?=some (.loop (rec .ready none)):=by
    rw [← hw1];have:=heap_alloc_new (w.alloc (.deferred (some []))) (.loop (rec .ready none));simpa using this
  have hd1:w1.heap[w.heap.size]?=some (.deferred (some [])):=by
    rw [← hw1,heap_alloc_old _ _ _ (by simp)];exact heap_alloc_new w _
  obtain⟨zD,hzD⟩:∃zD:Zx,zD=⟨z.w,z.K,w.heap.size::z.ds⟩:=⟨_,rfl⟩
  obtain⟨F,hF⟩:∃F:List Nat,F=[w.heap.size+1,w.heap.size]:=⟨_,rfl⟩
  have hmF:∀k,k∈F ↔ k=w.heap.size+1∨k=w.heap.size:=fun k=>by rw [hF];simp
  have hzds:∀D∈zD.ds,D∈F++O0:=fun D hD=>by
    rw [hzD] at hD
    rcases List.mem_cons.1 hD with e |hD
    · exact List.mem_append_left _ ((hmF D).2 (.inr e))
    · exact List.mem_append_right _ (hs.dfs D hD).1
  have hzw:z.w.heap.size≤w.heap.size:=hs.below.size
  -- the loop's invariant
  obtain⟨J0,hJ0⟩:∃J0:(LoopState × Option Code)→List Nat→List Nat→World→σ→Prop,J0=fun st O K w' s=>O=ks (bsF s) (F++O0)∧(∀k∈K,w.heap.size+2≤k)∧S2 (bsF s0) O0 w zD bsF fct (K++F) s w'∧
      w'.heap[w.heap.size+1]?=some (.loop (rec st.1 st.2)):=⟨_,rfl⟩
  have hJ0ab:∀{st:LoopState × Option Code} {O K K':List Nat} {w' w'':World} {s:σ},J0 st O K w' s→(∀k∈K,k ∉ O)→HW K w' w''→Pr K K' w' w''→J0 st O K' w'' s:=by
    intro st O K K' w' w'' s h hKO hl hg
    rw [hJ0] at h ⊢
    obtain⟨h1,h2,h3,h4⟩:=h
    have hsz':w.heap.size+2≤w'.heap.size:=by
      have:=h3.st.lt0 (w.heap.size+1) (by simp [hF]);omega
    refine⟨h1,fun k hk=>(hg.new k hk).elim (h2 k) fun h=>by omega,h3.loc hfs (fun k hk=>h1 ▸ hKO k hk) (fun k hk=>.inr ?_) hzds hl hg,?_⟩
    · have:=h2 k hk;rw [hzD];simp only;omega
    · rw [hl.block _ (h3.st.lt0 _ (by simp [hF])) fun hm=>by have:=h2 _ hm;omega];exact h4
  have hst0:St z O0 w1 (bsF s0):=hs.call hx1
  have hcore1:S2 (bsF s0) O0 w zD bsF fct ([]++F) s0 w1:=by
    have h1:St zD ([]++F++O0) w1 (bsF s0):=by
      refine⟨by rw [hzD];exact hst0.below,by rw [hzD];exact hst0.own,hst0.nd,fun k hk=>?_,?_,fun D hD=>?_⟩
      · rw [List.nil_append] at hk
        rcases List.mem_append.1 hk with hk |hk
        · have hk' := (hmF k).1 hk
          refine⟨by omega,fun hm=>?_⟩
          obtain⟨p,hp,e⟩:=B6.1 hm
          have:=hs.lt hp e;omega
        · exact hst0.dj k hk
      · rw [hzD]
        exact List.nodup_cons.2 ⟨fun hm=>by have:=hs.lt0 _ (hs.dfs _ hm).1;omega,hs.dsn⟩
      · refine ⟨by rw [List.nil_append]; exact hzds D hD, ?_⟩
        rw [hzD] at hD ⊢
        rcases List.mem_cons.1 hD with e |hD
        · subst e;exact⟨.inr hzw,hd1⟩
        · exact(hst0.dfs D hD).2
    have h2:AB (ks (bsF s0) O0) w (ks (bsF s0) ([]++F++O0)) w1:=AB.of_loc (K:=[]) (.of_ext hx1) (by simp) fun k hk=>by
      rw [List.nil_append] at hk
      rcases By.1 hk with hk |hk
      · exact .inl (By.2 (.inl hk))
      · rcases List.mem_append.1 hk with hk | hk
        · have:=(hmF k).1 hk;exact .inr (by omega)
        · exact .inl (By.2 (.inr hk))
    exact⟨h1,h2,hfs _ _ _ _ _ h2 hf0⟩
  refine⟨w.heap.size+1,[T2 w.heap.size],w1,{target:=.fn (.func f) caps.toArray,args:=#[.func (.yield (w.heap.size+1)) #[] #[]]},w1,f,
    #[.func (.yield (w.heap.size+1)) #[] #[]]++caps.toArray,w1,?_,?_,fun _ _=>trivial,?_,fun h=>by simp [FW] at h,?_⟩
  · rw [← hw1,hrec];exact run_enterLoop_outer _ _ _ _ _
  · simp only [resolve, ha.eval, hv]
    simp [go_sem,ev]
  · simp [invoke,go_sem,hcall]
  · have hfn':=it w1 (ks (bsF s0) (F++O0)) (by have:=hcore1.ch;simpa using this) (fun k hk=>by have:=hcore1.st.ltw k (by simpa using hk);exact this) (w.heap.size+1)
      (fun pre w' O K=>∃s rest,L=pre++rest∧J0 (.ready,none) O K w' s∧tl s rest)
      (fun _ w' O K=>∃s e,e∈xs∧J0 (.done,some (S1 e)) O K w' s∧tx e s)
      ⟨fun⟨s,rest,h1,h2,h3⟩ hk hl hg=>⟨s,rest,h1,hJ0ab h2 hk hl hg,h3⟩⟩ ⟨fun⟨s,e,h1,h2,h3⟩ hk hl hg=>⟨s,e,h1,hJ0ab h2 hk hl hg,h3⟩⟩
      ?_ ⟨s0,L,rfl,by rw [hJ0];exact⟨rfl,by simp,hcore1,hl1⟩,ht0⟩
    · -- behind the iterator
      unfold Fn at hfn'
      have hcl:(#[Value.func (.yield (w.heap.size+1)) #[] #[]]++caps.toArray)=(Value.func (.yield (w.heap.size+1)) #[] #[]::caps).toArray:=by simp
      rw [hcl]
      refine CallsIn.mono hfn' ?_
      rintro e w2 ⟨v,rfl,O2,h⟩
      have fin:∀{st:LoopState × Option Code} {s:σ},st.1≠.busy→J0 st O2 [] w2 s→∃w3,(Instr.endLoop (w.heap.size+1)).run P w2=.ok st.2 w3∧
          St ⟨z.w,z.K,w.heap.size::z.ds⟩ (w.heap.size::O0) w3 (bsF s)∧AB (ks (bsF s0) O0) w (ks (bsF s) (w.heap.size::O0)) w3∧fct s w3 (ks (bsF s) (w.heap.size::O0)):=by
        intro st s hb h
        rw [hJ0] at h
        obtain⟨h1,h2,h3,h4⟩:=h
        have hrun:=run_endLoop (P:=P) h4 (by rw [hrec];exact hb)
        have hlo:HW [w.heap.size+1] w2 (w2.putObj (w.heap.size+1) (.loop {rec st.1 st.2 with state:=.exhausted})):=⟨rfl,rfl,rfl,by simp,fun k hk hn=>World.putObj_heap_other (by simpa using hn),Nat.le_refl _⟩
        have h5:=h3.st.loc hlo (by
          rintro k hk
          simp at hk;subst hk
          exact⟨(h3.st.dj _ (by simp [hF])).2,.inr (by rw [hzD];simp only;omega),fun hm=>by
            rw [hzD] at hm
            rcases List.mem_cons.1 hm with e |hm
            · omega
            · have:=hs.lt0 _ (hs.dfs _ hm).1;omega⟩)
        have h6:St ⟨z.w,z.K,w.heap.size::z.ds⟩ (w.heap.size::O0) (w2.putObj (w.heap.size+1) (.loop {rec st.1 st.2 with state:=.exhausted})) (bsF s):=by
          rw [← hzD]
          refine h5.others (fun k hk=>h5.dj k ?_) fun D hD=>?_
          · rcases List.mem_cons.1 hk with e | hk
            · subst e;simp [hF]
            · simp [hk]
          · have := hzds D hD
            rw [hF] at this
            simp only [List.cons_append,List.nil_append,List.mem_cons] at this
            rcases this with e |e |e
            · exfalso
              rw [hzD] at hD
              rcases List.mem_cons.1 hD with e' |hD
              · omega
              · have:=hs.lt0 _ (hs.dfs _ hD).1;omega
            · subst e;simp
            · simp [e]
        have h7:AB (ks (bsF s) ([]++F++O0)) w2 (ks (bsF s) (w.heap.size::O0)) (w2.putObj (w.heap.size+1) (.loop {rec st.1 st.2 with state:=.exhausted})):=AB.of_loc hlo (by
          rintro k hk
          simp at hk;subst hk
          exact By.2 (.inr (by simp [hF]))) fun k hk=>.inl (by
          rcases By.1 hk with hk |hk
          · exact By.2 (.inl hk)
          · refine By.2 (.inr ?_)
            rcases List.mem_cons.1 hk with e |hk
            · subst e;simp [hF]
            · simp [hk])
        refine⟨_,?_,h6,h3.ch.trans h7,hfs _ _ _ _ _ h7 h3.fc⟩
        rw [hrun,hrec]
      have hav:∀D,GR n (⟨ρ.f,D::ρ.ds⟩:EX) {a with defers:=[T2 D]++a.defers}:=fun D=>⟨ha.size,by simp [ha.defers],ha.get⟩
      rcases h with ⟨s,rest,h1,h2,h3⟩ |⟨pre,s,e,h1,h2,h3⟩
      · have hr : rest = [] := by simpa using h1
        subst hr
        obtain⟨w3,h4,h5,h6,h7⟩:=fin (by simp) h2
        exact⟨none,w3,h4,(fun _ h=>by cases h),_,hav _,done _ s w3 h5 h6 h7 h3⟩
      · obtain ⟨w3, h4, h5, h6, h7⟩ := fin (by simp) h2
        refine⟨some (S1 e),w3,h4,?_⟩
        have h8:=stop e _ s w3 h1 h5 h6 h7 h3
        cases e with
        |none=>exact wpIn_ret ⟨(fun _ h=>by cases h),_,hav _,h8⟩
        |some id=>exact wpIn_exit ⟨(fun _ h=>by cases h),_,hav _,h8⟩
    · -- one round
      rintro pre x w' O K vs ⟨tail,hpre⟩ ⟨s,rest,h1,h2,h3⟩ hK hO hen
      rw [hJ0] at h2
      obtain⟨g1,g2,g3,g4⟩:=h2
      have hrest:rest=x::tail:=by
        rw [← hpre] at h1
        simpa using h1.symm
      subst hrest
      subst g1
      have hy:=run_yield (P:=P) (args:=vs.toArray) g4 (by rw [hrec];simpa using hlen hen)
      rw [hrec] at hy
      refine⟨fn,_,assign,body,hy,roundIn_of_wpIn hfn ?_⟩
      have hen':enc x w' (ks (bsF s) (K++F++O0)) vs:=henc (AB.sub fun k hk=>by
        rcases By.1 hk with hk |hk
        · exact List.mem_append_right _ (By.2 (.inl hk))
        · rw [List.append_assoc] at hk
          rcases List.mem_append.1 hk with hk |hk
          · exact List.mem_append_left _ hk
          · exact List.mem_append_right _ (By.2 (.inr hk))) hen
      have hza:=g3.st.re
      have hrd:=round (w.heap.size+1) (K++F) s x tail w' vs _ rfl hza g3.ch g3.fc h3 hen'
      have hact:=Mn ps vs (TF ha) hps
      unfold Wp at hrd
      have hzip:(ps.toArray.zip vs.toArray).foldl (fun t (p:Nat × Value)=>t.setIfInBounds p.1 p.2) a.tmps=(ps.zip vs).foldl (fun t (p,v)=>t.setIfInBounds p v) a.tmps:=by
        rw [← Array.foldl_toList,Array.toList_zip]
      rw [hzip]
      have hlF:w.heap.size+1∈K++F++O0:=by simp [hF]
      refine wpIn_mono (hrd _ hact) ?_
      rintro e a2 w2 ⟨hp,ρ2,ha2,hq⟩
      cases e<;> try exact hq.elim
      obtain⟨bs2,hs2,hq⟩:=hq
      -- the record is as it was
      have hl2:w2.heap[w.heap.size+1]?=some (.loop (rec .ready none)):=by
        rw [hs2.below.block _ (by have:=g3.st.lt0 _ hlF;exact this) (g3.st.dj _ hlF).2];exact g4
      have hbr:=run_beginRound (P:=P) hl2 (by rw [hrec])
      refine⟨_,hbr,?_⟩
      have hlo2:HW [w.heap.size+1] w2 (w2.putObj (w.heap.size+1) (.loop {rec .ready none with state:=.busy})):=⟨rfl,rfl,rfl,by simp,fun k hk hn=>World.putObj_heap_other (by simpa using hn),Nat.le_refl _⟩
      have hs2':=hs2.re
      have hs3:St ⟨w2.putObj (w.heap.size+1) (.loop {rec .ready none with state:=.busy}),bs2.filterMap Prod.fst,[]⟩ (K++F++O0) (w2.putObj (w.heap.size+1) (.loop {rec .ready none with state:=.busy})) bs2:=by
        refine⟨HW.refl _ _,fun p hp b hb=>⟨.inl (B6.2 ⟨p,hp,hb⟩),?_⟩,hs2.nd,fun k hk=>⟨by simpa using (hs2.dj k hk).1,(hs2.dj k hk).2⟩,List.nodup_nil,fun _ h=>by cases h⟩
        rw [hlo2.block b (hs2.lt hp hb) (by simp;rintro rfl;exact(hs2.dj _ hlF).2 (B6.2 ⟨p,hp,hb⟩))]
        exact(hs2.own p hp b hb).2
      have hst3:AB (ks bs2 (K++F++O0)) w2 (ks bs2 (K++F++O0)) (w2.putObj (w.heap.size+1) (.loop {rec .ready none with state:=.busy})):=
        AB.of_loc hlo2 (by rintro k hk;simp at hk;subst hk;exact By.2 (.inr hlF)) fun k hk=>.inl hk
      obtain⟨w3,hw3⟩:∃w3,w3=w2.putObj (w.heap.size+1) (.loop {rec .ready none with state:=.busy}):=⟨_,rfl⟩
      rw [← hw3] at hs3 hst3 hlo2 ⊢
      have hl3:w3.heap[w.heap.size+1]?=some (.loop {rec .ready none with state:=.busy}):=by
        rw [hw3];exact World.putObj_heap_same (hs2.lt0 _ hlF)
      -- what the round's end makes of it
      have ends:∀(jump:Option Code) (s':σ) (w4:World),St ⟨w3,bs2.filterMap Prod.fst,[]⟩ (K++F++O0) w4 (bsF s')→AB (ks (bsF s0) O0) w (ks (bsF s') (K++F++O0)) w4→fct s' w4 (ks (bsF s') (K++F++O0))→
          ∃w5,(Instr.endRound (w.heap.size+1) jump).run P w4=.ok (.bool jump.isNone) w5∧HW (ks (bsF s) (F++O0)) w' w5∧Pr (ks (bsF s) (F++O0)) (ks (bsF s') (F++O0)) w' w5∧
            J0 (if jump.isNone then .ready else .done,jump) (ks (bsF s') (F++O0)) K w5 s':=by
        intro jump s' w4 e1 e2 e3
        have hl4:w4.heap[w.heap.size+1]?=some (.loop {rec .ready none with state:=.busy}):=by
          rw [e1.below.block _ (by have:=hs3.lt0 _ hlF;exact this) (hs3.dj _ hlF).2];exact hl3
        have hrun:=run_endRound (P:=P) jump hl4
        obtain⟨w5,hw5⟩:∃w5,w5=w4.putObj (w.heap.size+1) (.loop (rec (if jump.isNone then .ready else .done) jump)):=⟨_,rfl⟩
        have hlo5:HW [w.heap.size+1] w4 w5:=by rw [hw5];exact⟨rfl,rfl,rfl,by simp,fun k hk hn=>World.putObj_heap_other (by simpa using hn),Nat.le_refl _⟩
        -- from w' to w5
        have hk2:∀k∈bs2.filterMap Prod.fst,k∈(bsF s).filterMap Prod.fst∨w'.heap.size≤k:=fun k hk=>by
          obtain⟨p,hp,e⟩:=B6.1 hk
          exact(hs2.own p hp k e).1
        have L1:HW (ks (bsF s) (F++O0)) w' w2:=hs2.below.sub fun k hk=>.inl (By.2 (.inl hk))
        have L2:HW (ks (bsF s) (F++O0)) w' w3:=L1.trans' hlo2 fun k hk=>.inl (by simp at hk;subst hk;exact By.2 (.inr (by simp [hF])))
        have L3:HW (ks (bsF s) (F++O0)) w' w4:=L2.trans' e1.below fun k hk=>(hk2 k hk).imp (fun h=>By.2 (.inl h)) id
        have L4:HW (ks (bsF s) (F++O0)) w' w5:=L3.trans' hlo5 fun k hk=>.inl (by simp at hk;subst hk;exact By.2 (.inr (by simp [hF])))
        have hsz2:w'.heap.size≤w2.heap.size:=hs2.below.size
        have hsz3:w3.heap.size=w2.heap.size:=by rw [hw3];simp
        have keys':∀k∈(bsF s').filterMap Prod.fst,k∈(bsF s).filterMap Prod.fst∨w'.heap.size≤k:=fun k hk=>by
          obtain⟨p,hp,e⟩:=B6.1 hk
          rcases (e1.own p hp k e).1 with h |h
          · exact hk2 k h
          · exact .inr (by simp only at h;omega)
        have hG:Pr (ks (bsF s) (F++O0)) (ks (bsF s') (F++O0)) w' w5:=⟨fun k hk=>by
            rcases By.1 hk with hk |hk
            · exact(keys' k hk).imp (fun h=>By.2 (.inl h)) id
            · exact .inl (By.2 (.inr hk)),fun k hk=>by
            have:k<w4.heap.size:=e1.ltw k (by
              rcases By.1 hk with hk |hk
              · exact By.2 (.inl hk)
              · exact By.2 (.inr (by rw [List.append_assoc];exact List.mem_append_right _ hk)))
            have:=hlo5.size;omega⟩
        have hzk:∀k∈(bsF s).filterMap Prod.fst,k∈zD.K∨zD.w.heap.size≤k:=fun k hk=>by
          obtain⟨p,hp,e⟩:=B6.1 hk
          exact(g3.st.own p hp k e).1
        have hzs:zD.w.heap.size≤w.heap.size:=by rw [hzD];exact hzw
        have hzw':zD.w.heap.size≤w'.heap.size:=g3.st.below.size
        have hlds:w.heap.size+1 ∉ zD.ds:=fun hm=>by
          rw [hzD] at hm
          rcases List.mem_cons.1 hm with e |hm
          · omega
          · have:=hs.lt0 _ (hs.dfs _ hm).1;omega
        have B3:HW zD.K zD.w w3:=(g3.st.below.trans' hs2.below hzk).trans' hlo2 fun k hk=>by simp at hk;subst hk;exact .inr (by omega)
        have S4:St zD (K++F++O0) w4 (bsF s'):=e1.back B3 (fun k hk=>by
          rcases hk2 k hk with h |h
          · exact hzk k h
          · exact .inr (by omega)) g3.st.dsn fun D hD=>by
          obtain⟨d1,d2,d3⟩:=g3.st.dfs D hD
          refine⟨d1,d2,?_⟩
          have hlt:=g3.st.lt0 D d1
          rw [e1.below.block D (by rw [hsz3];omega) (hs2.dj D d1).2,hlo2.block D (by omega) (by simp;rintro rfl;exact hlds hD),hs2.below.block D hlt (g3.st.dj D d1).2]
          exact d3
        have S5:St zD (K++F++O0) w5 (bsF s'):=S4.loc hlo5 (by
          rintro k hk;simp at hk;subst hk
          exact⟨(e1.dj _ hlF).2,.inr (by omega),hlds⟩)
        have P5:AB (ks (bsF s') (K++F++O0)) w4 (ks (bsF s') (K++F++O0)) w5:=AB.of_loc hlo5 (by rintro k hk;simp at hk;subst hk;exact By.2 (.inr hlF)) fun k hk=>.inl hk
        refine⟨w5,?_,L4,hG,?_⟩
        · rw [hrun,hw5,hrec]
        · rw [hJ0]
          refine⟨rfl,g2,⟨S5,e2.trans P5,hfs _ _ _ _ _ P5 e3⟩,?_⟩
          rw [hw5];exact World.putObj_heap_same (by have:=e1.lt0 _ hlF;exact this)
      have hbody:=hq w3 _ (fun e _ w4=>match e with
          |.normal=>∃s',St ⟨w3,bs2.filterMap Prod.fst,[]⟩ (K++F++O0) w4 (bsF s')∧AB (ks (bsF s0) O0) w (ks (bsF s') (K++F++O0)) w4∧fct s' w4 (ks (bsF s') (K++F++O0))∧tl s' tail
          |e=>∃e',e=Qm e'∧e'∈xs∧∃s',St ⟨w3,bs2.filterMap Prod.fst,[]⟩ (K++F++O0) w4 (bsF s')∧AB (ks (bsF s0) O0) w (ks (bsF s') (K++F++O0)) w4∧fct s' w4 (ks (bsF s') (K++F++O0))∧tx e' s') rfl hs3 hst3
          (fun s' _ w4 e1 e2 e3 e4=>⟨s',e1,e2,e3,e4⟩) (fun e s' _ w4 he e1 e2 e3 e4=>by
            cases e with
            |none=>exact⟨none,rfl,he,s',e1,e2,e3,e4⟩
            |some id=>exact⟨some id,rfl,he,s',e1,e2,e3,e4⟩)
      unfold Wp at hbody
      refine wpIn_mono (hbody a2 ha2) ?_
      rintro e a4 w4 ⟨hp4,ρ4,ha4,hq4⟩
      cases e with
      |normal=>
        obtain⟨s',e1,e2,e3,e4⟩:=hq4
        obtain⟨w5,r1,r2,r3,r4⟩:=ends none s' w4 e1 e2 e3
        exact⟨_,w5,r1,_,r2,r3,.inl ⟨rfl,s',tail,by rw [List.append_assoc];exact h1,r4,e4⟩⟩
      |ret=>
        obtain⟨e',hee,he,s',e1,e2,e3,e4⟩:=hq4
        cases e' with
        |some id=>cases hee
        |none=>
          obtain⟨w5,r1,r2,r3,r4⟩:=ends (some .ret) s' w4 e1 e2 e3
          exact⟨_,w5,r1,_,r2,r3,.inr ⟨rfl,s',none,he,r4,e4⟩⟩
      |exit id=>
        obtain⟨e',hee,he,s',e1,e2,e3,e4⟩:=hq4
        cases e' with
        |none=>cases hee
        |some id'=>
          cases hee
          obtain⟨w5,r1,r2,r3,r4⟩:=ends (some (.exit id)) s' w4 e1 e2 e3
          exact⟨_,w5,r1,_,r2,r3,.inr ⟨rfl,s',some id,he,r4,e4⟩⟩
      |goto t=>obtain⟨e',hee,_⟩:=hq4;cases e'<;> cases hee
      |panic c=>exact absurd rfl (hp4 c)
      |outgrown=>obtain⟨e',hee,_⟩:=hq4;cases e'<;> cases hee
end rule
/-! models: a list gone through -/
section model
universe u
variable {R : Type} {A : Type u} {x : R} {a : A} {L : List A}
def VW (b:(Option R)→A→Option R) (k:(Option R)):List A→Option R
  |[] =>k
  |x::L=>b (VW b k L) x
def LU {A0:Type} (b:(A0→Option R)→A→A0→Option R) (k:(A0→Option R)):List A→A0→Option R
  |[] =>k
  |x::L=>b (LU b k L) x
theorem Pu {A0:Type} {b:(A0→Option R)→A→A0→Option R} {k:(A0→Option R)} {a0:A0} :LU b k [] a0=k a0:=rfl
theorem NU {A0:Type} {b:(A0→Option R)→A→A0→Option R} {k:(A0→Option R)} {a0:A0} :LU b k (a::L) a0=b (LU b k L) a a0:=rfl
theorem US {A0:Type} {b:(A0→Option R)→A→A0→Option R} {k:(A0→Option R)} {a0:A0} (h:LU b k [] a0=some x):k a0=some x:=Pu.symm.trans h
theorem UT {A0:Type} {b:(A0→Option R)→A→A0→Option R} {k:(A0→Option R)} {a0:A0} (h:LU b k (a::L) a0=some x):∃sf,sf=LU b k L∧b sf a a0=some x:=⟨_,rfl,NU.symm.trans h⟩
def VX {A0 A1:Type} (b:(A0→A1→Option R)→A→A0→A1→Option R) (k:(A0→A1→Option R)):List A→A0→A1→Option R
  |[] =>k
  |x::L=>b (VX b k L) x
def VY {A0 A1 A2:Type} (b:(A0→A1→A2→Option R)→A→A0→A1→A2→Option R) (k:(A0→A1→A2→Option R)):List A→A0→A1→A2→Option R
  |[] =>k
  |x::L=>b (VY b k L) x
def VZ {A0 A1 A2 A3:Type} (b:(A0→A1→A2→A3→Option R)→A→A0→A1→A2→A3→Option R) (k:(A0→A1→A2→A3→Option R)):List A→A0→A1→A2→A3→Option R
  |[] =>k
  |x::L=>b (VZ b k L) x
def LV {A0 A1 A2 A3 A4:Type} (b:(A0→A1→A2→A3→A4→Option R)→A→A0→A1→A2→A3→A4→Option R) (k:(A0→A1→A2→A3→A4→Option R)):List A→A0→A1→A2→A3→A4→Option R
  |[] =>k
  |x::L=>b (LV b k L) x
theorem Pv {A0 A1 A2 A3 A4:Type} {b:(A0→A1→A2→A3→A4→Option R)→A→A0→A1→A2→A3→A4→Option R} {k:(A0→A1→A2→A3→A4→Option R)} {a0:A0} {a1:A1} {a2:A2} {a3:A3} {a4:A4} :LV b k [] a0 a1 a2 a3 a4=k a0 a1 a2 a3 a4:=rfl
theorem NV {A0 A1 A2 A3 A4:Type} {b:(A0→A1→A2→A3→A4→Option R)→A→A0→A1→A2→A3→A4→Option R} {k:(A0→A1→A2→A3→A4→Option R)} {a0:A0} {a1:A1} {a2:A2} {a3:A3} {a4:A4} :LV b k (a::L) a0 a1 a2 a3 a4=b (LV b k L) a a0 a1 a2 a3 a4:=rfl
theorem UU {A0 A1 A2 A3 A4:Type} {b:(A0→A1→A2→A3→A4→Option R)→A→A0→A1→A2→A3→A4→Option R} {k:(A0→A1→A2→A3→A4→Option R)} {a0:A0} {a1:A1} {a2:A2} {a3:A3} {a4:A4} (h:LV b k [] a0 a1 a2 a3 a4=some x):k a0 a1 a2 a3 a4=some x:=Pv.symm.trans h
theorem UV {A0 A1 A2 A3 A4:Type} {b:(A0→A1→A2→A3→A4→Option R)→A→A0→A1→A2→A3→A4→Option R} {k:(A0→A1→A2→A3→A4→Option R)} {a0:A0} {a1:A1} {a2:A2} {a3:A3} {a4:A4} (h:LV b k (a::L) a0 a1 a2 a3 a4=some x):∃sf,sf=LV b k L∧b sf a a0 a1 a2 a3 a4=some x:=⟨_,rfl,NV.symm.trans h⟩
def Wa {A0 A1 A2 A3 A4 A5:Type} (b:(A0→A1→A2→A3→A4→A5→Option R)→A→A0→A1→A2→A3→A4→A5→Option R) (k:(A0→A1→A2→A3→A4→A5→Option R)):List A→A0→A1→A2→A3→A4→A5→Option R
  |[] =>k
  |x::L=>b (Wa b k L) x
def Wb {A0 A1 A2 A3 A4 A5 A6:Type} (b:(A0→A1→A2→A3→A4→A5→A6→Option R)→A→A0→A1→A2→A3→A4→A5→A6→Option R) (k:(A0→A1→A2→A3→A4→A5→A6→Option R)):List A→A0→A1→A2→A3→A4→A5→A6→Option R
  |[] =>k
  |x::L=>b (Wb b k L) x
def Wc {A0 A1 A2 A3 A4 A5 A6 A7:Type} (b:(A0→A1→A2→A3→A4→A5→A6→A7→Option R)→A→A0→A1→A2→A3→A4→A5→A6→A7→Option R) (k:(A0→A1→A2→A3→A4→A5→A6→A7→Option R)):List A→A0→A1→A2→A3→A4→A5→A6→A7→Option R
  |[] =>k
  |x::L=>b (Wc b k L) x
attribute [irreducible] VW LU VX VY VZ LV Wa Wb Wc
end model

/-! the iterator's own walk -/
def Xq {α:Type} (P:Program) (enc:α→World→List Nat→List Value→Prop):Vr (List α):=
  ⟨fun w O v L=>∃f caps,v=.func (.func f) #[] (List.toArray caps)∧(∀(args:Array Value) (w:World),(callFunc f args).run P w=.ok (.enter f args) w)∧NR P w O f caps enc L,
   fun s ⟨f,caps,h1,h2,h3⟩=>⟨f,caps,h1,h2,h3.step s⟩⟩
def VL {α:Type} (P:Program) (enc:α→World→List Nat→List Value→Prop) (w:World) (O:List Nat) (v:Value) (L:List α):Prop:=(Xq P enc).vd w O v L
theorem VL.step {α:Type} {P:Program} {enc:α→World→List Nat→List Value→Prop} {w w':World} {O O':List Nat} {v:Value} {L:List α} (h:VL P enc w O v L) (s:AB O w O' w'):VL P enc w' O' v L:=(Xq P enc).step s h
section iter
variable {P : Program} {ρ : EX} {w : World} {z : Zx} {O : List Nat} {bs : Bi} {α : Type} {J Jx : JP α} {L pre : List α} {a : α} {l : Nat} {enc : α → World → List Nat → List Value → Prop}
structure NW (J:JP α) (pre:List α) (z:Zx) (O:List Nat):Prop where
  j:J pre z.w O z.K
  dj:∀k∈z.K,k ∉ O
theorem NW.now (h:NW J pre z O) (hJ:Gw J) (hs:St z O w bs):J pre w O (bs.filterMap Prod.fst):=
  hJ.loc h.j h.dj hs.below ⟨fun k hk=>by obtain⟨p,hp,e⟩:=B6.1 hk;exact(hs.own p hp k e).1,fun k hk=>by obtain⟨p,hp,e⟩:=B6.1 hk;exact hs.lt hp e⟩
theorem NW.fin (h:NW J pre z O) (hJ:Gw J) (hs:St z O w bs):J pre w O []:=
  hJ.loc (h.now hJ hs) (fun k hk hm=>(hs.dj k hm).2 hk) (HW.refl _ _) ⟨(fun _ h=>by cases h),fun _ h=>by cases h⟩
theorem NW.start {w:World} (h:J [] w O []):NW J [] ⟨w,[],[]⟩ O:=⟨h,fun _ h=>by cases h⟩
end iter
theorem OI.mkS {w0 w':World} {bs:Bi} {α:Type} {O O1:List Nat} {p:Rp α} {e:TypeId} {xs ys:List α} {a:Option Addr} {c i:Nat} {kk:Option Nat} {o:Obj} (hO:∀k∈O,k∈O1) (hs:St ⟨w0,[],[]⟩ O1 w' bs) (hi:bs[i]?=some (kk,o)) (h:Gs p e w' (ks bs O1) a c xs kk o) (he:xs=ys):
    ∃a' c' kk o,Value.slice a xs.length c=.slice a' ys.length c'∧(∀b,kk=some b→w0.heap.size≤b∧w'.heap[b]?=some o)∧Gs p e w' (kk.toList++O) a' c' ys kk o:=by
  subst he
  refine⟨a,c,kk,o,rfl,fun b hb=>⟨((hs.own _ (List.mem_of_getElem? hi) b hb).1).resolve_left (by simp),(hs.own _ (List.mem_of_getElem? hi) b hb).2⟩,h.step ⟨Nat.le_refl _,fun j hj hn=>⟨fun hm=>hn ?_,rfl⟩⟩⟩
  rcases List.mem_append.1 hm with hm |hm
  · refine List.mem_append_left _ (B6.2 ⟨_, List.mem_of_getElem? hi, ?_⟩)
    simpa using hm
  · exact List.mem_append_right _ (hO _ hm)
end Go.Fx
set_option linter.unusedSimpArgs false
set_option linter.unusedVariables false
namespace Go.Fx
open Go Go.RowKit Go.ChangeShapes

section
variable {H : Type} {enc : TypeId × Value → H} {P : Program} {w : World} {base : Nat} {spare : Nat → Bool} {held : Bool}
def OJ {α:Type} (Sm:α→Prop) (xs:List α):Prop:=xs.length≤140737488351232∧∀x∈xs,Sm x
def SmT {α:Type} (_:α):Prop:=True
def Rd {α:Type} (enc:TypeId × Value→H) (P:Program) (w:World) (base:Nat) (spare:Nat→Bool) (held:Bool) (t:TypeId) (q:Rp α) (Sm:α→Prop):Prop:=
  P.cellsOf t=q.n∧∀(fuel:Nat) (cs:List Value) (y:DataW H × List MemPlace),DataW.trod enc P w base spare held fuel t cs=some y→∃x,q.rd w [] cs x∧((∀n∈y.1.weights P t,n≤reachBytes)→Sm x)

theorem S3 {k:IntKind} {n:Int} (h:(Lit.int k n).wf=true):k.min≤n∧n≤k.max:=by
  simpa [Lit.wf,IntKind.has] using h
theorem UW {t:TypeId} {k:IntKind} (ht:P.underlying t=some (.int k)) (hc:P.cellsOf t=1):Rd enc P w base spare held t (AM k) (BR k):=by
  refine⟨hc,fun fuel cs y h=>?_⟩
  obtain⟨n,rfl,_,hw⟩:=DataW.trod_int ht h
  exact⟨n,⟨rfl,S3 hw⟩,fun _=>S3 hw⟩
theorem TG {t:TypeId} (ht:P.underlying t=some .bool) (hc:P.cellsOf t=1):Rd enc P w base spare held t NK SmT:=by
  refine⟨hc,fun fuel cs y h=>?_⟩
  obtain⟨b,rfl,_⟩:=DataW.trod_bool ht h
  exact⟨b,rfl,fun _=>trivial⟩
theorem OL {α:Type} {q:Rp α} {a:Addr} {cs:List Value} {x:α} (hn:0<q.n) (hc:w.cells? base a q.n=some cs) (hr:q.rd w [] cs x):Iy q w [] a x:=by
  obtain⟨_,hl,hg⟩:=World.cells?_some hc
  have h0:=hg 0 hn
  have hs0:(cs[0]?).isSome:=by simp;omega
  obtain⟨v0,hv0⟩:=Option.isSome_iff_exists.1 hs0
  rw [hv0] at h0
  have hsp:a.spot=none:=by have:=World.cell?_spot h0;rwa [Addr.add_zero'] at this
  obtain⟨b,off,sp⟩:=a
  simp only at hsp;subst hsp
  have hblk:∃c T fz,w.heap[b]?=some (.cells c T fz):=by
    simp only [Addr.add_lit,World.cell?,Option.isSome_none,Bool.false_eq_true,if_false] at h0
    cases hb:w.heap[b]? with
    |none=>rw [hb] at h0;simp at h0
    |some o=>cases o<;> simp [hb] at h0;exact⟨_,_,_,rfl⟩
  obtain⟨c,T,fz,hb⟩:=hblk
  have hget:∀i,i<q.n→c[off+i]?=cs[i]?:=fun i hi=>by
    have:=hg i hi
    rw [Addr.add_lit,JH hb] at this
    exact this
  have hsz:off+q.n≤c.size:=by
    have:=hget (q.n - 1) (by omega)
    rw [List.getElem?_eq_getElem (by omega)] at this
    have:=(Array.getElem?_eq_some_iff.1 this).1
    omega
  refine⟨rfl,⟨(Array.getElem?_eq_some_iff.1 hb).1,by simp⟩,c,T,fz,hb,hsz,?_⟩
  have e:(c.toList.drop off).take q.n=cs:=by
    apply List.ext_getElem?
    intro i
    rw [List.getElem?_take,List.getElem?_drop]
    split
    · rename_i hi;rw [← hget i hi];simp
    · rw [List.getElem?_eq_none (by omega)]
  simp only [e];exact hr
theorem Kt {e:TypeId} :∀{l:List (DataW H)} {d:DataW H},d∈l→∀n∈d.weights P e,n∈DataW.weightsAll P e l
  |[],_,h,_,_=>by cases h
  |x::l,d,h,n,hn=>by
    rw [DataW.weightsAll]
    rcases List.mem_cons.1 h with e |h
    · subst e;exact List.mem_append_left _ hn
    · exact List.mem_append_right _ (Kt h n hn)
theorem J5 {α:Type} {q:Rp α} {Sm:α→Prop} {t e:TypeId} (ht:P.underlying t=some (.slice e)) (hc:P.cellsOf t=1) (hn:0<q.n) (hby:1≤P.bytesOf e) (R:Rd enc P w base spare held e q Sm):Rd enc P w base spare held t (BE q) (OJ Sm):=by
  refine⟨hc,fun fuel cs y h=>?_⟩
  rcases DataW.trod_slice ht h with ⟨rfl,_⟩ |⟨a,len,cap,elems,rest,n,_,rfl,hy,hb,hl,hm,hlen,hel,_,_⟩
  · exact⟨[],⟨none,0,rfl,CA.nil_⟩,fun _=>⟨by simp,by simp⟩⟩
  · have hex:∀i (hi:i<elems.length),∃x,Iy q w [] (a.add (i*q.n)) x∧((∀n∈elems[i].1.weights P e,n≤reachBytes)→Sm x):=fun i hi=>by
      have h1:=hel i (by omega)
      rw [List.getElem?_eq_getElem hi,Option.bind_eq_some_iff] at h1
      obtain⟨cs,h2,h3⟩:=h1
      obtain⟨x,hx,hs⟩:=R.2 _ _ _ h3
      rw [R.1] at h2
      exact⟨x,OL hn h2 hx,hs⟩
    have key:∀k,k≤elems.length→∃xs:List α,xs.length=k∧∀i (h:i<xs.length) (hi:i<elems.length),Iy q w [] (a.add (i*q.n)) xs[i]∧((∀n∈elems[i].1.weights P e,n≤reachBytes)→Sm xs[i]):=by
      intro k
      induction k with
      |zero=>exact fun _=>⟨[],rfl,by simp⟩
      |succ k ih=>
        intro hk
        obtain⟨xs,h1,h2⟩:=ih (by omega)
        obtain⟨x,hx⟩:=hex k (by omega)
        refine⟨xs++[x],by simp [h1],fun i hi hi2=>?_⟩
        by_cases hik:i<xs.length
        · rw [List.getElem_append_left hik];exact h2 i hik hi2
        · have : i = k := by simp at hi; omega
          subst this
          rw [List.getElem_append_right (by omega)];simpa [h1] using hx
    obtain⟨xs,h1,h2⟩:=key elems.length (Nat.le_refl _)
    refine⟨xs,⟨some a,cap,by rw [h1,hlen],⟨by omega,hm,(fun h=>by cases h),fun ad he i hi=>by cases he;exact(h2 i hi (by omega)).1⟩⟩,fun hw=>?_⟩
    rw [hy] at hw
    simp only [DataW.weights,ht,List.mem_cons,List.mem_append] at hw
    refine⟨?_,fun x hx=>?_⟩
    · have h3 := hw _ (.inl rfl)
      simp only [List.length_map,reachBytes] at h3
      have h4:elems.length*1≤(elems.length+rest.length)*P.bytesOf e:=Nat.mul_le_mul (by omega) hby
      rw [h1];omega
    · obtain ⟨i, hi, rfl⟩ := List.mem_iff_getElem.1 hx
      refine(h2 i hi (by omega)).2 fun n hn'=>hw n (.inr (.inl (Kt (d:=elems[i].1) (List.mem_map.2 ⟨elems[i],List.getElem_mem _,rfl⟩) n hn')))
theorem PZ {α:Type} {q:Rp α} {Sm:α→Prop} {fs:Array Field} {cs:List Value} {xs:List (DataW H × List MemPlace)} {n i:Nat} {f:Field} {t:TypeId} {y:DataW H × List MemPlace} (ht:P.underlying t=some (.struct fs))
    (h:∀(i:Nat) (f:Field),fs[i]?=some f→DataW.trod enc P w base spare held n f.type ((cs.drop f.offset).take (P.cellsOf f.type))=xs[i]?) (hl:xs.length=fs.size) (hy:y=(.agg (xs.map (·.1)),xs.flatMap (·.2))) (hf:fs[i]?=some f)
    (R:Rd enc P w base spare held f.type q Sm):∃x,q.rd w [] ((cs.drop f.offset).take q.n) x∧((∀n∈y.1.weights P t,n≤reachBytes)→Sm x):=by
  have h1:=h i f hf
  have hi:i<xs.length:=by rw [hl];exact(Array.getElem?_eq_some_iff.1 hf).1
  rw [List.getElem?_eq_getElem hi] at h1
  obtain⟨x,hx,hs⟩:=R.2 _ _ _ h1
  rw [R.1] at hx
  refine⟨x,hx,fun hw=>hs fun n hn=>hw n ?_⟩
  rw [hy]
  simp only [DataW.weights,ht]
  exact DataW.weights_mem_each (j:=i) (t:=f.type) (d:=xs[i].1) (by simp [hf]) (by simp [hi]) n hn
theorem HF {α β:Type} {r:Rp α} {s:Rp β} {O:List Nat} {cs:List Value} {o:Nat} {x:α} {y:β} (h1:r.rd w O ((cs.drop o).take r.n) x) (h2:s.rd w O ((cs.drop (o+r.n)).take s.n) y):
    (Gc r s).rd w O ((cs.drop o).take (Gc r s).n) (x,y):=by
  refine⟨_,_,?_,h1,h2⟩
  show(cs.drop o).take (r.n+s.n)=_
  rw [List.take_add,List.drop_drop]
theorem MS {α:Type} {q:Rp α} {O:List Nat} {cs:List Value} {x:α} (h:q.rd w O ((cs.drop 0).take q.n) x) (hl:cs.length=q.n):q.rd w O cs x:=by
  rwa [List.drop_zero,List.take_of_length_le (by omega)] at h
end
end Go.Fx
set_option linter.unusedSimpArgs false
set_option linter.unusedVariables false
namespace Go.Fx
open Go Go.RowKit
abbrev Iv (x:Int):Value:=Value.int .i64 x
abbrev Bo (x:Bool):Value:=Value.bool x
abbrev Sl {α:Type} (a:Option Addr) (xs:List α) (c:Nat):Value:=Value.slice a xs.length c
abbrev Pt (b o:Nat):Value:=Value.pointer (some ⟨b,o,none⟩)
abbrev Oc (cs:List Value) (t:TypeId):Obj:=Obj.cells cs.toArray t
abbrev MB:=Option Nat × Obj
inductive HG:Bi→MB→MB→Bi→Prop
  |z {l:Bi} {e e':MB} :HG (e::l) e e' (e'::l)
  |s {a:MB} {l l':Bi} {e e':MB} :HG l e e' l'→HG (a::l) e e' (a::l')
theorem HG.at {l l':Bi} {e e':MB} (h:HG l e e' l'):∃i:Nat,l[i]?=some e∧l.set i e'=l':=by
  induction h with
  |z=>exact⟨0,rfl,rfl⟩
  |s _ ih=>obtain⟨i,h1,h2⟩:=ih;exact⟨i+1,by simpa using h1,by simp [h2]⟩
theorem HG.p1 {a:MB} {l:Bi} {e e':MB} :HG (a::e::l) e e' (a::e'::l):=.s .z
theorem HG.p2 {a b:MB} {l:Bi} {e e':MB} :HG (a::b::e::l) e e' (a::b::e'::l):=.s .p1
theorem HG.p3 {a b c:MB} {l:Bi} {e e':MB} :HG (a::b::c::e::l) e e' (a::b::c::e'::l):=.s .p2
theorem HG.p4 {a b c d:MB} {l:Bi} {e e':MB} :HG (a::b::c::d::e::l) e e' (a::b::c::d::e'::l):=.s .p3
theorem HG.p5 {a b c d f:MB} {l:Bi} {e e':MB} :HG (a::b::c::d::f::e::l) e e' (a::b::c::d::f::e'::l):=.s .p4
theorem HG.p6 {a b c d f g:MB} {l:Bi} {e e':MB} :HG (a::b::c::d::f::g::e::l) e e' (a::b::c::d::f::g::e'::l):=.s .p5
theorem HG.p7 {a b c d f g h:MB} {l:Bi} {e e':MB} :HG (a::b::c::d::f::g::h::e::l) e e' (a::b::c::d::f::g::h::e'::l):=.s .p6
theorem HG.p8 {a b c d f g h i:MB} {l:Bi} {e e':MB} :HG (a::b::c::d::f::g::h::i::e::l) e e' (a::b::c::d::f::g::h::i::e'::l):=.s .p7
theorem HG.p9 {a b c d f g h i j:MB} {l:Bi} {e e':MB} :HG (a::b::c::d::f::g::h::i::j::e::l) e e' (a::b::c::d::f::g::h::i::j::e'::l):=.s .p8
section
variable {P : Program} {r : Option Nat} {n : Nat} {Q : Iz} {ρ : EX} {w w' : World} {z : Zx} {O : List Nat} {bs : Bi}
theorem BB.of {ds E:List Nat} {ρ ρ':EX} {L:List (Nat × Value)} (hL:MM ρ' L) (hE:ρ'.ds=E:=by rfl) (hO:Lb ds ρ ρ':=by repeat (first |with_reducible exact Lb.refl _ _ |refine Lb.upd ?_ rfl |refine Lb.updL ?_ rfl |refine Lb.mix' ?_ rfl |exact Lb.refl _ _)):BB ds ρ ρ' E L:=⟨hO,hE,hL⟩
theorem Wr {c:Code} (E:List Nat) (L:List (Nat × Value)) (k:∀ξ:Nat→Value,Wp P r n c Q (CK ⟨ξ,E⟩ L) w) (hE:ρ.ds=E:=by rfl) (hL:MM ρ L:=by repeat (first |exact trivial |refine⟨rfl,?_⟩)):Wp P r n c Q ρ w:=Su E L hE hL k
theorem Ip {c:Code} (ds E:List Nat) (ρj:EX) (L:List (Nat × Value)) (k:∀ξ:EX,Wp P r n c Q (CK (IT ds E ξ ρj) L) w) (hE:ρ.ds=E:=by rfl) (hL:MM ρ L:=by repeat (first |exact trivial |refine⟨rfl,?_⟩)) (hO:Lb ds ρj ρ:=by repeat (first |with_reducible exact Lb.refl _ _ |refine Lb.upd ?_ rfl |refine Lb.updL ?_ rfl |refine Lb.mix' ?_ rfl |exact Lb.refl _ _)):Wp P r n c Q ρ w:=RF ds E ρj L hO hE hL k
theorem St.stepE (_:St z O w bs) (hx:GH w w'):AB (ks bs O) w (ks bs O) w':=AB.ext hx
theorem St.stepR (_:St z O w bs):AB (ks bs O) w (ks bs O) w:=AB.refl _ _
theorem St.to {z':Zx} {bs':Bi} {O':List Nat} (_:St z O w bs) (_:St z' O' w' bs') (p:AB (ks bs O) w (ks bs' O') w'):AB (ks bs O) w (ks bs' O') w':=p
theorem AF {α:Type} {a b:Option α} {v:α} {c:Operand} {x y:Code} {t:Bool} (hm:(bif t then a else b)=some v) (hc:ev ρ c=.bool t) (ht:t=true→a=some v→Wp P r n x Q ρ w) (hf:t=false→b=some v→Wp P r n y Q ρ w):Wp P r n (.cond c x y) Q ρ w:=
  OA hc (fun h=>ht h (GA hm h)) (fun h=>hf h (GB hm h))
theorem B4 {α:Type} {a e:Option α} {v:α} {d:Nat} {b:Bool} {ops rest:List Oper} (hm:(bif b then a else e)=some v) (ht:b=true→a=some v→Rg P r n ops rest Q (Ls ρ d (.bool true)) w) (hf:b=false→e=some v→Rg P r n ops rest Q (Ls ρ d (.bool false)) w):Rg P r n ops rest Q (Ls ρ d (.bool b)) w:=
  T8 (fun h=>ht h (GA hm h)) (fun h=>hf h (GB hm h))
abbrev St.S (_:St z O w bs) (O':List Nat) (w':World):Prop:=AB (ks bs O) w O' w'
end
section
variable {P : Program} {r : Option Nat} {ρ : EX} {w : World} {w0 : Zx} {O0 : List Nat} {bs bs' : Bi} {d : Option Nat} {ty : TypeId} {pos : String} {aft : Array Edge} {g : Option (Nat × Bool)} {V : Value → World → Prop} {t : TypeId} {n b : Nat} {td : TypeDesc} {z : List Value} {ag : Bool} {x y : Operand}
theorem TH {cs vs:List Value} (h:cs.length=vs.length):Ia cs 0 vs=vs:=by simp [Ia,← h]
theorem AQ {bl off:Nat} (i:Nat) {cs:List Value} {e:TypeId} {fz:Nat × Nat} {v:Value} (T:Ty P t td n b z false) (hs:St w0 O0 w bs) (hx:ev ρ x=.pointer (some ⟨bl,off,none⟩))
    (hi:bs[i]?=some (some bl,.cells cs.toArray e fz)) (hv:cs[off]?=some v) (k:V v w):BQ P r ρ w ⟨d,.load t x,ty,pos,aft,g⟩ V:=Q3 T hs hx hi hv k
theorem Bz {bl:Nat} (i:Nat) {cs:List Value} {e:TypeId} {fz:Nat × Nat} (T:Ty P t td n b z true) (hs:St w0 O0 w bs) (hx:ev ρ x=.pointer (some ⟨bl,0,none⟩))
    (hi:bs[i]?=some (some bl,.cells cs.toArray e fz)) (hn:cs.length=n) (k:V (.agg cs.toArray) w):BQ P r ρ w ⟨d,.load t x,ty,pos,aft,g⟩ V:=GI T hs hx hi (by simp [← hn]) hn k
theorem UX {bl off:Nat} {cs vs cs':List Value} {e:TypeId} (hb:HG bs (some bl,Oc cs e) (some bl,Oc cs' e) bs') (T:Ty P t td n b z ag) (hs:St w0 O0 w bs) (hx:ev ρ x=.pointer (some ⟨bl,off,none⟩)) (hy:ev ρ y=.agg vs.toArray)
    (hn:vs.length=n) (h1:vs.all (·.oneCell')=true) (hl:off+n≤cs.length) (hc:Ia cs off vs=cs') (hz:true=true)
    (k:∀w',AB (ks bs O0) w (ks bs' O0) w'→St w0 O0 w' bs'→V undef w'):BQ P r ρ w ⟨d,.store t x y,ty,pos,aft,g⟩ V:=by
  obtain⟨i,hi,hb⟩:=hb.at
  exact Il T hs hx hy hi rfl hn hl h1 hc hb k
theorem Cx {bl:Nat} {cs vs:List Value} {e:TypeId} (hb:HG bs (some bl,Oc cs e) (some bl,Oc vs e) bs') (T:Ty P t td n b z ag) (hs:St w0 O0 w bs) (hx:ev ρ x=.pointer (some ⟨bl,0,none⟩)) (hy:ev ρ y=.agg vs.toArray)
    (hn:vs.length=n) (hl:cs.length=n) (h1:vs.all (·.oneCell')=true)
    (k:∀w',AB (ks bs O0) w (ks bs' O0) w'→St w0 O0 w' bs'→V undef w'):BQ P r ρ w ⟨d,.store t x y,ty,pos,aft,g⟩ V:=by
  obtain⟨i,hi,hb⟩:=hb.at
  exact Il T hs hx hy hi rfl hn (by omega) h1 (TH (by omega)) hb k
theorem II {bl off:Nat} (v:Value) {cs cs':List Value} {e:TypeId} (hb:HG bs (some bl,Oc cs e) (some bl,Oc cs' e) bs') (T:Ty P t td 1 b z ag) (hs:St w0 O0 w bs) (hx:ev ρ x=.pointer (some ⟨bl,off,none⟩)) (hy:ev ρ y=v)
    (hv:v.cells=[v].toArray) (hl:off+1≤cs.length) (hc:Ia cs off [v] =cs') (h1:v.oneCell'=true)
    (k:∀w',AB (ks bs O0) w (ks bs' O0) w'→St w0 O0 w' bs'→V undef w'):BQ P r ρ w ⟨d,.store t x y,ty,pos,aft,g⟩ V:=by
  obtain⟨i,hi,hb⟩:=hb.at
  exact Il T hs hx hy hi hv rfl hl (by simp [h1]) hc hb k
theorem FJ {bl:Nat} (v:Value) {c:Value} {e:TypeId} (hb:HG bs (some bl,Oc [c] e) (some bl,Oc [v] e) bs') (T:Ty P t td 1 b z ag) (hs:St w0 O0 w bs) (hx:ev ρ x=.pointer (some ⟨bl,0,none⟩)) (hy:ev ρ y=v)
    (hv:v.cells=[v].toArray) (h1:v.oneCell'=true)
    (k:∀w',AB (ks bs O0) w (ks bs' O0) w'→St w0 O0 w' bs'→V undef w'):BQ P r ρ w ⟨d,.store t x y,ty,pos,aft,g⟩ V:=
  II v hb T hs hx hy hv (Nat.le_refl 1) rfl h1 k
end
section
variable {P : Program} {r : Option Nat} {n : Nat} {Q : Iz} {ρ : EX} {w : World} {z : Zx} {O : List Nat} {bs : Bi} {d : Nat} {ty : TypeId} {pos : String} {aft : Array Edge} {ops rest : List Oper}
theorem Be {x:Operand} (v:Value) (hx:ev ρ x=v) (h:Rg P r n ops rest Q (Ls ρ d v) w) (hd:decide (d<n)=true:=by rfl):Rg P r n ops (⟨some d,.move x,ty,pos,aft,none⟩::rest) Q ρ w:=Pm hd (AD hx h)
theorem Bn {x:Operand} (v:Value) (hx:ev ρ x=v) (h:Rg P r n ops rest Q (Ls ρ d v) w) (hd:decide (d<n)=true:=by rfl):Rg P r n ops (⟨some d,.assign x,ty,pos,aft,none⟩::rest) Q ρ w:=Pm hd (RB hx h)
theorem FF {c x y:Operand} (v:Value) (hc:ev ρ c=.bool false) (hx:ev ρ y=v) (h:Rg P r n ops rest Q (Ls ρ d v) w) (hd:decide (d<n)=true:=by rfl):Rg P r n ops (⟨some d,.pick c x y,ty,pos,aft,none⟩::rest) Q ρ w:=Pm hd (Ek hc hx h)
theorem FR {c x y:Operand} (v:Value) (hc:ev ρ c=.bool true) (hx:ev ρ x=v) (h:Rg P r n ops rest Q (Ls ρ d v) w) (hd:decide (d<n)=true:=by rfl):Rg P r n ops (⟨some d,.pick c x y,ty,pos,aft,none⟩::rest) Q ρ w:=Pm hd (C6 hc hx h)
theorem AA {o:Op} (h:BQ P r ρ w ⟨some d,o,ty,pos,aft,none⟩ fun v w'=>Rg P r n ops rest Q (Ls ρ d v) w') (hd:decide (d<n)=true:=by rfl):Rg P r n ops (⟨some d,o,ty,pos,aft,none⟩::rest) Q ρ w:=Pm hd h
theorem BN {o:Op} {j dj:Nat} {b:Bool} (hj:(ops[j]?).bind (·.dst)=some dj) (hb:ρ dj=.bool b) (h:BQ P r ρ w ⟨some d,o,ty,pos,aft,some (j,b)⟩ fun v w'=>Rg P r n ops rest Q (Ls ρ d v) w') (hd:decide (d<n)=true:=by rfl):Rg P r n ops (⟨some d,o,ty,pos,aft,some (j,b)⟩::rest) Q ρ w:=UM hj hb hd h
theorem AP {V:Value→World→Prop} {t:TypeId} {x:Operand} {d:Option Nat} {g:Option (Nat × Bool)} {fs:Array Field} {f fn fb n b:Nat} {z:List Value} {ag:Bool} {fl:Field} {fd:TypeDesc} {fz:List Value} {fa:Bool} {bl off:Nat} (o:Nat) (T:Ty P t (.struct fs) n b z ag) (hf:fs[f]?=some fl) (F:Ty P fl.type fd fn fb fz fa)
    (hx:ev ρ x=.pointer (some ⟨bl,off,none⟩)) (hp:(⟨bl,off,none⟩:Addr).add fl.offset=⟨bl,o,none⟩) (k:V (.pointer (some ⟨bl,o,none⟩)) w) (hn:decide (fn≠0)=true:=by rfl):BQ P r ρ w ⟨d,.fieldAddr t x f,ty,pos,aft,g⟩ V:=
  C2 T hf F (by simpa using hn) hx hp k
theorem En {w:World} :ME [] w w:=rfl
theorem oi {α:Type} {a b:α} (h:some a=some b):a=b:=Option.some.inj h
theorem Bj {d:Option Nat} {g:Option (Nat × Bool)} {V:Value→World→Prop} {f:FuncId} {args:Array Operand} {us:Array TypeId} {vs:List Value} {R:Value→World→Prop} (hs:St z O w bs) (hc:∀(args:Array Value) (w:World),(callFunc f args).run P w=.ok (.enter f args) w)
    (h:Fn P f vs w fun v w'=>GH w w'∧R v w') (ha:args.toList.map (ev ρ)=vs) (k:∀v w',AB (ks bs O) w (ks bs O) w'→St z O w' bs→R v w'→V v w'):BQ P r ρ w ⟨d,.call ⟨.value (.func f),args,us⟩,ty,pos,aft,g⟩ V:=
  FT hc h ha fun v w' ⟨hx,h⟩=>k v w' (AB.ext hx) (hs.call hx) h
end
section
variable {Γ : Type} {T : Pk Γ} {g0 : Γ} {ops l : List Oper} {K : List (Nat × VR Γ) → Prop} {G : List (Nat × VR Γ)} {d : Nat} {op : Op} {ty : TypeId} {pos : String} {aft : Array Edge} {P : Program} {r : Option Nat} {ρ : EX} {w : World}
theorem Ba (c:Value) (hop:∀ρ' w' g',T.inv w' g'→(∀t,((⟨some d,op,ty,pos,aft,none⟩:Oper).looksAt ops.toArray).contains t=true→Gn G ρ ρ' w' g' t)→
      BQ P r ρ' w' ⟨some d,op,ty,pos,aft,none⟩ (Bs T w' g' (fun v _ _=>v=c) G.length))
    (h:LT P r T ops ρ w g0 K l ((d,fun v _ _=>v=c)::G)):LT P r T ops ρ w g0 K (⟨some d,op,ty,pos,aft,none⟩::l) G:=Do c (fun ρ' w' g' _ hi ht=>Az (hop ρ' w' g' hi ht)) h
theorem CV {j dj:Nat} {b:Bool} (c:Value) (hj:(ops[j]?).bind (·.dst)=some dj) (hl:((⟨some d,op,ty,pos,aft,some (j,b)⟩:Oper).looksAt ops.toArray).contains dj=true) (hb:∀ρ' w' g',Gn G ρ ρ' w' g' dj→ρ' dj=.bool b)
    (hop:∀ρ' w' g',T.inv w' g'→(∀t,((⟨some d,op,ty,pos,aft,some (j,b)⟩:Oper).looksAt ops.toArray).contains t=true→Gn G ρ ρ' w' g' t)→
      BQ P r ρ' w' ⟨some d,op,ty,pos,aft,some (j,b)⟩ (Bs T w' g' (fun v _ _=>v=c) G.length))
    (h:LT P r T ops ρ w g0 K l ((d,fun v _ _=>v=c)::G)):LT P r T ops ρ w g0 K (⟨some d,op,ty,pos,aft,some (j,b)⟩::l) G:=Do c (fun ρ' w' g' _ hi ht=>BI hj (hb _ _ _ (ht dj hl)) (hop ρ' w' g' hi ht)) h
theorem E7 {j t:Nat} {b:Bool} {v:Value} (hj:(ops[j]?).bind (·.dst)=some t) (hl:((⟨some d,op,ty,pos,aft,some (j,b)⟩:Oper).looksAt ops.toArray).contains t=true) (hc:∀ρ' w' g',Gn G ρ ρ' w' g' t→ρ' t=v) (hv:(T4 v == some b)=false)
    (h:LT P r T ops ρ w g0 K l ((d,fun v _ _=>v=undef)::G)):LT P r T ops ρ w g0 K (⟨some d,op,ty,pos,aft,some (j,b)⟩::l) G:=T9 (fun ρ' w' g' ht=>Sq hj (hc _ _ _ (ht t hl)) hv) h
theorem Gz {w':World} {g':Γ} {c:Value} {k:Nat} (hi:T.inv w' g'):Bs T w' g' (fun v _ _=>v=c) k c w':=Bs.same hi rfl
end
end Go.Fx
