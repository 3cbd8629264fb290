/- Part 1 of the proof: for every problem there is a smallest reason exactly if every solution has an overload. -/
import Derived.RangeFuncKeeps
import Derived.RangeFuncCalls
import Derived.RangeFuncLeaves
import Derived.OrdersIn
import Derived.WalkKit
import Derived.Lib.SliceRun
import Derived.LoopNIn
import Derived.KernelRfl
import Derived.Laws.Closers25b
import Derived.Laws.Shifts
import Derived.ProofKit
import Derived.OpenShut
import Derived.ChangeOld
import Derived.Below
import Derived.SizedLaws
namespace Go.Fx
open Go Go.RowKit

/-! ### Frames as functions -/
structure EH where
  f:Nat→Value
  /-- the blocks of the calls that ranges over functions have put off: none of them holds one -/
  ds:List Nat
instance:CoeFun EH (fun _=>Nat→Value):=⟨EH.f⟩
theorem EH.ext' {ρ ρ':EH} (h:∀t,ρ t=ρ' t) (hd:ρ.ds=ρ'.ds):ρ=ρ':=by
  obtain⟨f,ds⟩:=ρ
  obtain⟨f',ds'⟩:=ρ'
  have:f=f':=funext h
  simp only at hd
  subst this hd;rfl
def Lu (ρ:EH) (d:Nat) (v:Value):EH:=⟨fun t=>if t=d then v else ρ t,ρ.ds⟩
def U1 (D:Nat):Deferred:={target:=.collected D,args:=#[]}
def JC (ρ:EH) (d:Option Nat) (v:Value):EH:=match d with |some d=>Lu ρ d v |none=>ρ
def ev (ρ:EH):Operand→Value
  |.tmp t=>ρ t
  |.const v=>v
  |.global g=>.pointer (some ⟨g,0,none⟩)
  |.func f=>.func (.func f) #[] #[]

theorem Ky (ρ:EH) (d:Nat) (v:Value):Lu ρ d v d=v:=by simp [Lu]
theorem Ht (ρ:EH) (d:Nat) (v:Value) {t:Nat} (h:t≠d):Lu ρ d v t=ρ t:=by simp [Lu,h]

def FW (r:Option Nat):Fence:={fn:=fun _=>True,depth:=none,alive:=false,round:=r}
theorem U2:FW none=Fence.wide:=rfl
structure GS (n:Nat) (ρ:EH) (a:Act):Prop where
  size:a.tmps.size=n
  defers:a.defers=ρ.ds.map U1
  get:∀t,a.tmps.getD t undef=ρ t

theorem GS.eval {n:Nat} {ρ:EH} {a:Act} (h:GS n ρ a):a.eval=ev ρ:=by
  funext x
  cases x<;> simp [Act.eval,ev,h.get]

theorem GS.put {n:Nat} {ρ:EH} {a:Act} (h:GS n ρ a) {d:Option Nat} (hd:d.all (·<n)=true) (v:Value):GS n (JC ρ d v) (a.put d v):=by
  cases d with
  |none=>simpa [Act.put,JC] using h
  |some d=>
    have hd':d<a.tmps.size:=by have:=h.size;simp at hd;omega
    refine⟨by simp [Act.put,h.size],by simp [Act.put,h.defers,JC,Lu],fun t=>?_⟩
    simp only [Act.put,JC,Lu]
    by_cases ht:t=d
    · subst ht;simp [hd']
    · rw [if_neg ht, ← h.get t]
      simp [Array.getD_eq_getD_getElem?,Ne.symm ht]

theorem GS.yielded {n:Nat} {ρ:EH} {a:Act} (h:GS n ρ a) (ops:Array Oper) (j:Nat):
    yielded ops a.tmps j=match (ops[j]?).bind (·.dst) with |some d=>(match (ρ d:Value) with |.bool b=>some b |_=>none) |none=>none:=by
  unfold Go.yielded
  cases hd:(ops[j]?).bind (·.dst) with
  |none=>simp
  |some d=>
    simp only [Option.bind_some]
    have hg:=h.get d
    rw [Array.getD_eq_getD_getElem?] at hg
    cases he:a.tmps[d]? with
    |none=>rw [he] at hg;simp only [Option.getD_none] at hg;rw [← hg];rfl
    |some x=>rw [he] at hg;simp only [Option.getD_some] at hg;rw [hg];cases ρ d<;> rfl

/-! ### wp over such frames -/
variable {P : Program} {r : Option Nat} {n : Nat}

abbrev I5:=Exit→EH→World→Prop
def LN (n:Nat) (Q:I5):Exit→Act→World→Prop:=fun e a w=>(∀c,e≠.panic c)∧∃ρ,GS n ρ a∧Q e ρ w

def Wp (P:Program) (r:Option Nat) (n:Nat) (c:Code) (Q:I5) (ρ:EH) (w:World):Prop:=
  ∀a,GS n ρ a→c.wpIn (FW r) 0 P (LN n Q) a w

def BJ (P:Program) (r:Option Nat) (ρ:EH) (w:World) (o:Oper) (V:Value→World→Prop):Prop:=
  match (Oper.semAt r (ev ρ) o).run P w with
  |.ok (.value v) w'=>V v w'
  |.ok .skip w'=>V undef w'
  |.ok (.enter f args) w'=>CallsIn (FW r) 0 P f args w' fun e w''=>∃v,e=.returned v∧V v w''
  |.ok (.round l f tmps assign body) w'=>RoundIn (FW r) 0 P l f tmps assign body w' fun e w''=>∃v,e=.returned v∧V v w''
  |_=>False

theorem BJ.mono {ρ:EH} {w:World} {o:Oper} {V V':Value→World→Prop} (h:BJ P r ρ w o V) (hV:∀v w',V v w'→V' v w'):BJ P r ρ w o V':=by
  unfold BJ at*
  split<;> rename_i hr<;> simp only [hr] at h
  · exact hV _ _ h
  · exact hV _ _ h
  · exact h.mono fun e w' ⟨v,he,hv⟩=>⟨v,he,hV _ _ hv⟩
  · exact h.mono fun e w' ⟨v,he,hv⟩=>⟨v,he,hV _ _ hv⟩

theorem BJ.wpIn {ρ:EH} {w:World} {o:Oper} {V:Value→World→Prop} {a:Act} {K:Act→World→Prop} {Q:Exit→Act→World→Prop} (ha:GS n ρ a)
    (h:BJ P r ρ w o V) (hK:∀v w',V v w'→K (a.put o.dst v) w'):o.wpIn (FW r) 0 P a w K Q:=by
  unfold BJ at h
  unfold Oper.wpIn
  rw [ha.eval]
  refine⟨fun f _=>trivial,?_⟩
  show o.uponIn (FW r) 0 P a K Q ((Oper.semAt r (ev ρ) o).run P w)
  revert h
  generalize (Oper.semAt r (ev ρ) o).run P w=res
  intro h
  cases res with
  |halt x w'=>simp at h
  |ok nx w'=>
    cases nx<;> simp only at h<;> simp only [Oper.uponIn]<;> try exact h.elim
    case value v=>exact hK _ _ h
    case skip=>exact hK _ _ h
    case enter f args=>
      refine⟨fun hd=>by simp [FW] at hd,h.mono fun e w'' ⟨v,he,hv⟩=>?_⟩
      subst he;exact hK _ _ hv
    case round l f tmps assign body=>
      refine⟨fun hd=>by simp [FW] at hd,h.mono fun e w'' ⟨v,he,hv⟩=>?_⟩
      subst he;exact hK _ _ hv

/-! ### Rules -/
variable {Q : I5} {ρ : EH} {w : World}

def PY (next:EH→World→Prop) (Q:I5):I5:=fun e ρ w=>match e with
  |.normal=>next ρ w
  |e=>Q e ρ w
def inB (id:Nat) (Q:I5):I5:=fun e ρ w=>match e with
  |.exit id'=>if id'=id then Q .normal ρ w else Q (.exit id') ρ w
  |e=>Q e ρ w

theorem Wp.mono {c:Code} {Q':I5} (h:Wp P r n c Q ρ w) (hq:∀e ρ w,Q e ρ w→Q' e ρ w):Wp P r n c Q' ρ w:=
  fun a ha=>wpIn_mono (h a ha) fun _ _ _ ⟨hp,ρ',h1,h2⟩=>⟨hp,ρ',h1,hq _ _ _ h2⟩

theorem AG (h:Q .normal ρ w):Wp P r n .skip Q ρ w:=fun _ ha=>wpIn_skip ⟨(fun _ h=>by cases h),ρ,ha,h⟩
theorem Bq {id:Nat} (h:Q (.exit id) ρ w):Wp P r n (.exit id) Q ρ w:=fun _ ha=>wpIn_exit ⟨(fun _ h=>by cases h),ρ,ha,h⟩
theorem AV (h:Q .ret ρ w):Wp P r n .ret Q ρ w:=fun _ ha=>wpIn_ret ⟨(fun _ h=>by cases h),ρ,ha,h⟩
theorem Aw {x y:Code} (h:Wp P r n x (PY (Wp P r n y Q) Q) ρ w):Wp P r n (.seq x y) Q ρ w:=fun a ha=>
  wpIn_seq (wpIn_mono (h a ha) fun e a' w' ⟨hp,ρ',h1,h2⟩=>by
    cases e<;> first |exact h2 a' h1 |exact⟨hp,ρ',h1,h2⟩)
theorem AC {id:Nat} {c:Code} (h:Wp P r n c (inB id Q) ρ w):Wp P r n (.block id c) Q ρ w:=fun a ha=>
  wpIn_block (wpIn_mono (h a ha) fun e a' w' ⟨hp,ρ',h1,h2⟩=>by
    cases e with
    |exit id'=>
      simp only [Exit.inBlock]
      simp only [inB] at h2
      split<;> rename_i hid
      · rw [if_pos hid] at h2;exact⟨(fun _ h=>by cases h),ρ',h1,h2⟩
      · rw [if_neg hid] at h2;exact⟨(fun _ h=>by cases h),ρ',h1,h2⟩
    |_=>exact⟨hp,ρ',h1,h2⟩)
theorem Pl {c:Operand} {x y:Code} {t:Bool} (hc:ev ρ c=.bool t) (ht:t=true→Wp P r n x Q ρ w) (hf:t=false→Wp P r n y Q ρ w):Wp P r n (.cond c x y) Q ρ w:=fun a ha=>
  wpIn_cond_split (t:=t) (by rw [ha.eval];exact hc) (fun h=>ht h a ha) (fun h=>hf h a ha)
theorem Hu {c:Operand} {x y:Code} (hc:ev ρ c=.bool true) (h:Wp P r n x Q ρ w):Wp P r n (.cond c x y) Q ρ w:=Pl hc (fun _=>h) (fun h=>by cases h)
theorem GG {c:Operand} {x y:Code} (hc:ev ρ c=.bool false) (h:Wp P r n y Q ρ w):Wp P r n (.cond c x y) Q ρ w:=Pl hc (fun h=>by cases h) (fun _=>h)
section scope
variable {b : Frame} {a : Act} {k : List Item} {cs : List Frame}
end scope
/-! ### Regions in the order of the text -/
def Rg (P:Program) (r:Option Nat) (n:Nat) (ops:List Oper) (l:List Oper) (Q:I5) (ρ:EH) (w:World):Prop:=
  ∀a,GS n ρ a→wpListIn (FW r) 0 P ops.toArray (LN n Q) l a w

theorem Av {id:Nat} {l:List Oper} (h:Rg P r n l l Q ρ w):Wp P r n (.region id l.toArray false) Q ρ w:=fun a ha=>wpIn_region_lit (h a ha)
variable {ops rest : List Oper} {o : Oper}
theorem Ax (h:Q .normal ρ w):Rg P r n ops [] Q ρ w:=fun _ ha=>⟨(fun _ h=>by cases h),ρ,ha,h⟩

def U3:Value→Option Bool
  |.bool b=>some b
  |_=>none
def GT (ops:List Oper) (ρ:EH) (j:Nat):Option Bool:=match (ops[j]?).bind (·.dst) with
  |some d=>U3 (ρ d)
  |none=>none
theorem GS.yieldedE {a:Act} (h:GS n ρ a):Go.yielded ops.toArray a.tmps=GT ops ρ:=by
  funext j
  rw [h.yielded]
  simp only [Fx.GT,List.getElem?_toArray]
  cases (ops[j]?).bind (·.dst) with
  |none=>rfl
  |some d=>simp only [U3]

theorem Pm (hw:Region.wanted o (GT ops ρ)=true) (hd:o.dst.all (·<n)=true)
    (h:BJ P r ρ w o fun v w'=>Rg P r n ops rest Q (JC ρ o.dst v) w'):Rg P r n ops (o::rest) Q ρ w:=fun a ha=>by
  simp only [wpListIn,ha.yieldedE,hw,if_true]
  exact h.wpIn ha fun v w' hv=>hv _ (ha.put hd v)
theorem U4 (hw:Region.wanted o (GT ops ρ)=false) (hd:o.dst.all (·<n)=true) (h:Rg P r n ops rest Q (JC ρ o.dst undef) w):Rg P r n ops (o::rest) Q ρ w:=fun a ha=>by
  simp only [wpListIn,ha.yieldedE,hw,Bool.false_eq_true,if_false]
  exact⟨fun _ _=>trivial,h _ (ha.put hd undef)⟩

section
variable {d : Nat} {op : Op} {ty : TypeId} {pos : String} {aft : Array Edge}
theorem PZ (hd:decide (d<n)=true) (h:BJ P r ρ w ⟨some d,op,ty,pos,aft,none⟩ fun v w'=>Rg P r n ops rest Q (Lu ρ d v) w'):
    Rg P r n ops (⟨some d,op,ty,pos,aft,none⟩::rest) Q ρ w:=Pm rfl (by simpa using hd) h
theorem Bh (h:BJ P r ρ w ⟨none,op,ty,pos,aft,none⟩ fun _ w'=>Rg P r n ops rest Q ρ w'):
    Rg P r n ops (⟨none,op,ty,pos,aft,none⟩::rest) Q ρ w:=Pm rfl rfl h
theorem VO {j dj:Nat} {b:Bool} (hj:(ops[j]?).bind (·.dst)=some dj) (hb:ρ dj=.bool b) (hd:decide (d<n)=true)
    (h:BJ P r ρ w ⟨some d,op,ty,pos,aft,some (j,b)⟩ fun v w'=>Rg P r n ops rest Q (Lu ρ d v) w'):
    Rg P r n ops (⟨some d,op,ty,pos,aft,some (j,b)⟩::rest) Q ρ w:=
  Pm (by simp [Region.wanted,GT,hj,hb,U3]) (by simpa using hd) h
theorem AI {j dj:Nat} {b:Bool} (hj:(ops[j]?).bind (·.dst)=some dj) (hb:U3 (ρ dj)≠some b) (hd:decide (d<n)=true)
    (h:Rg P r n ops rest Q (Lu ρ d undef) w):Rg P r n ops (⟨some d,op,ty,pos,aft,some (j,b)⟩::rest) Q ρ w:=
  U4 (by simp only [Region.wanted,GT,hj];simpa using hb) (by simpa using hd) h
end

/-! ### Functions -/
def WP (args:List Value):EH:=⟨fun t=>args.getD t undef,[]⟩
def U5 (P:Program) (ρ:EH) (w:World):ResultVar→Value→Prop
  |.tmp t,v=>ρ t=v
  |.cell a t,v=>∃ad,ρ a=.pointer (some ad)∧(loadVar t ad).run P w=.ok v w
def RR (P:Program) (ρ:EH) (w:World):List ResultVar→List Value→Prop
  |[],[] =>True
  |x::xs,v::vs=>U5 P ρ w x v∧RR P ρ w xs vs
  |_,_=>False
def Tk:List Value→Value
  |[v] =>v
  |vs=>.tuple vs.toArray

def Tl (tmps:Array Value):ResultVar→Sem Value
  |.tmp t=>pure (tmps.getD t undef)
  |.cell a t=>do loadVar t (← asAddr (tmps.getD a undef))

theorem MW {tmps:Array Value} (hg:∀t,tmps.getD t undef=ρ t):∀(xs:List ResultVar) (vs:List Value),RR P ρ w xs vs→
    (xs.mapM (Tl tmps)).run P w=.ok vs w
  |[],[],_=>by simp
  |[],_::_,h=>h.elim
  |_::_,[],h=>h.elim
  |x::xs,v::vs,⟨h1,h2⟩=>by
    have ih:=MW hg xs vs h2
    have h3:(Tl tmps x).run P w=.ok v w:=by
      cases x with
      |tmp t=>
        simp only [U5] at h1
        simp only [Tl,Sem.run_pure,hg,h1]
      |cell a t=>
        obtain⟨ad,e1,e2⟩:=h1
        simp only [Tl,hg,e1,asAddr,Sem.run_bind,Sem.run_pure,Result.andThen_ok,e2]
    simp only [List.mapM_cons,Sem.run_bind,h3,Result.andThen_ok,ih,Sem.run_pure]

theorem QT {fn:Func} {xs:List ResultVar} {vs:List Value} (hr:fn.results=xs.toArray) {tmps:Array Value} (hg:∀t,tmps.getD t undef=ρ t) (h:RR P ρ w xs vs):
    (results fn tmps).run P w=.ok (Tk vs) w:=by
  have h1:=MW hg xs vs h
  show(do let vs ← fn.results.mapM (Tl tmps);pure (if h:vs.size=1 then vs[0] else .tuple vs):Sem Value).run P w=_
  rw [hr,List.mapM_toArray]
  simp only [Sem.run_bind,map_eq_pure_bind,Sem.run_pure,h1,Result.andThen_ok]
  match vs with
  |[] =>rfl
  |[v] =>rfl
  |_::_::_=>rfl

def N3:List Nat→World→World→Prop
  |[],w,w'=>w'=w
  |D::ds,w,w'=>w.heap[D]?=some (.deferred (some []))∧N3 ds (w.putObj D (.deferred none)) w'
def Vh (P:Program) (xs:List ResultVar) (R:Value→World→Prop):I5:=fun e ρ w=>match e with
  |.normal |.ret=>∃w',N3 ρ.ds w w'∧∃vs,RR P ρ w' xs vs∧R (Tk vs) w'
  |_=>False

def Fn (P:Program) (f:FuncId) (args:List Value) (w:World) (R:Value→World→Prop):Prop:=
  CallsIn (FW none) 0 P f args.toArray w fun e w'=>∃v,e=.returned v∧R v w'

theorem Fn.mono {f:FuncId} {args:List Value} {R R':Value→World→Prop} (h:Fn P f args w R) (hr:∀v w',R v w'→R' v w'):Fn P f args w R':=
  CallsIn.mono h fun _ _ ⟨v,he,hv⟩=>⟨v,he,hr _ _ hv⟩
theorem Fn.calls {f:FuncId} {args:List Value} {R:Value→World→Prop} (h:Fn P f args w R):Calls P f args.toArray w fun e w'=>∃v,e=.returned v∧R v w':=
  callsIn_wide.1 h
theorem Fn.inRound {f:FuncId} {args:List Value} {R:Value→World→Prop} (h:Fn P f args w R) (r:Option Nat):CallsIn (FW r) 0 P f args.toArray w fun e w'=>∃v,e=.returned v∧R v w':=
  match r with
  |none=>h
  |some l=>CallsIn.inRound l h

theorem O8 {fn:Func} {tmps:Array Value} {R:Ending→World→Prop} {v:Value} :∀{ds:List Nat} {w w':World},N3 ds w w'→(results fn tmps).run P w'=.ok v w'→R (.returned v) w'→
    LeavesInM (FW none) 0 P fn tmps R (ds.map U1) .returning w
  |[],w,w',hc,hr,h=>by
    have e:w'=w:=hc
    subst e
    exact⟨v,hr,h⟩
  |D::ds,w,w',hc,hr,h=>⟨by simp,.inl ⟨D,_,rfl,run_takeDeferred hc.1,O8 hc.2 hr h⟩⟩

theorem Br {f:FuncId} {fn:Func} {c:Code} {args:List Value} {xs:List ResultVar} {R:Value→World→Prop} (hf:P.funcs[f]?=some fn) (hb:fn.body=some c) (hn:fn.ntmps=n)
    (hr:fn.results=xs.toArray) (hl:decide (args.length≤n)=true) (h:Wp P none n c (Vh P xs R) (WP args) w):Fn P f args w R:=by
  have hl':args.length≤n:=by simpa using hl
  refine callsIn_of_wp_marks hf hb trivial (wpIn_mono (h {tmps:=args.toArray++Array.replicate (fn.ntmps - args.toArray.size) undef,defers:=[]} ⟨?_,rfl,?_⟩) ?_)
  · simp [hn];omega
  · intro t
    simp only [WP,Array.getD_eq_getD_getElem?,List.getD_eq_getElem?_getD,Array.getElem?_append,List.size_toArray,List.getElem?_toArray]
    split
    · rfl
    · rename_i ht
      have:args[t]?=none:=by simp;omega
      rw [this]
      simp only [Array.getElem?_replicate]
      split<;> rfl
  · rintro e a w' ⟨_, ρ', h1, h2⟩
    cases e<;> simp only [Vh] at h2<;> try exact h2.elim
    all_goals
      obtain⟨w2,hc,vs,h3,h4⟩:=h2
      simp only [bodyPostM,h1.defers]
      exact O8 hc (QT hr h1.get h3) ⟨_,rfl,h4⟩

attribute [irreducible] Wp Rg BJ Fn
end Go.Fx
set_option linter.unusedSimpArgs false
set_option linter.unusedVariables false
namespace Go.Fx
open Go Go.RowKit

structure GU (w w':World):Prop where
  os:w'.os=w.os
  tape:w'.tape=w.tape
  output:w'.output=w.output
  size:w.heap.size≤w'.heap.size
  block:∀k,k<w.heap.size→w'.heap[k]?=w.heap[k]?
  drawn:w.drawn≤w'.drawn
theorem GU.below {w w':World} (h:GU w w'):Below w.heap.size w w':=⟨h.os,h.tape,h.output,h.size,h.block⟩
theorem GU.of_below {w w':World} (h:Below w.heap.size w w') (hd:w.drawn≤w'.drawn):GU w w':=⟨h.os,h.tape,h.output,h.size,h.block,hd⟩
theorem GU.refl (w:World):GU w w:=.of_below (Below.refl _ _) (Nat.le_refl _)
theorem GU.trans {a b c:World} (h:GU a b) (k:GU b c):GU a c:=.of_below (Below.trans h.below (Below.mono k.below h.size)) (Nat.le_trans h.drawn k.drawn)
theorem GU.alloc (w:World) (o:Obj):GU w (w.alloc o):=.of_below ((Below.refl _ _).alloc (Nat.le_refl _) o) (Nat.le_refl _)
theorem GU.drew (w:World):GU w w.drew:=.of_below ((Below.refl _ _).drew) (Nat.le_succ _)

structure Sh (w:World) (O:List Nat) (k:Nat):Prop where
  lt:k<w.heap.size
  no:k ∉ O

structure AA (O:List Nat) (w:World) (O':List Nat) (w':World):Prop where
  size:w.heap.size≤w'.heap.size
  keep:∀k,k<w.heap.size→k ∉ O→k ∉ O'∧w'.heap[k]?=w.heap[k]?

theorem AA.refl (O:List Nat) (w:World):AA O w O w:=⟨Nat.le_refl _,fun _ _ h=>⟨h,rfl⟩⟩
theorem AA.trans {O O' O'':List Nat} {w w' w'':World} (h:AA O w O' w') (k:AA O' w' O'' w''):AA O w O'' w'':=
  ⟨Nat.le_trans h.size k.size,fun b hb hn=>let ⟨h1,h2⟩:=h.keep b hb hn;let ⟨h3,h4⟩:=k.keep b (Nat.lt_of_lt_of_le hb h.size) h1;⟨h3,h4.trans h2⟩⟩
theorem AA.ext {O:List Nat} {w w':World} (h:GU w w'):AA O w O w':=⟨h.size,fun k hk hn=>⟨hn,h.block k hk⟩⟩
theorem Sh.step {O O':List Nat} {w w':World} {k:Nat} (h:Sh w O k) (s:AA O w O' w'):Sh w' O' k:=⟨Nat.lt_of_lt_of_le h.lt s.size,(s.keep k h.lt h.no).1⟩

structure Rp (α:Type) where
  n:Nat
  rd:World→List Nat→List Value→α→Prop
  len:∀{w O vs x},rd w O vs x→vs.length=n
  one:∀{w O vs x},rd w O vs x→∀v∈vs,v.oneCell'=true
  step:∀{w O w' O' vs x},AA O w O' w'→rd w O vs x→rd w' O' vs x

def AL (k:IntKind):Rp Int where
  n:=1
  rd _ _ vs x:=vs=[.int k x]∧k.min≤x∧x≤k.max
  len h:=by rw [h.1];rfl
  one h:=by rw [h.1];intro v hv;simp at hv;subst hv;rfl
  step _ h:=h
def O9:Rp Bool where
  n:=1
  rd _ _ vs x:=vs=[.bool x]
  len h:=by rw [h];rfl
  one h:=by rw [h];intro v hv;simp at hv;subst hv;rfl
  step _ h:=h
def Gg {α β:Type} (r:Rp α) (s:Rp β):Rp (α × β) where
  n:=r.n+s.n
  rd w O vs x:=∃v1 v2,vs=v1++v2∧r.rd w O v1 x.1∧s.rd w O v2 x.2
  len:=by rintro _ _ _ _ ⟨v1,v2,rfl,h1,h2⟩;simp [r.len h1,s.len h2]
  one:=by
    rintro _ _ _ _ ⟨v1,v2,rfl,h1,h2⟩ v hv
    rcases List.mem_append.1 hv with hv |hv
    · exact r.one h1 v hv
    · exact s.one h2 v hv
  step:=by rintro _ _ _ _ _ _ hs ⟨v1,v2,rfl,h1,h2⟩;exact⟨v1,v2,rfl,r.step hs h1,s.step hs h2⟩
def Np {α β:Type} (f:β→α) (r:Rp α):Rp β where
  n:=r.n
  rd w O vs x:=r.rd w O vs (f x)
  len h:=r.len h
  one h:=r.one h
  step hs h:=r.step hs h
structure Ia {α:Type} (r:Rp α) (w:World) (O:List Nat) (p:Addr) (x:α):Prop where
  spot:p.spot=none
  sh:Sh w O p.block
  cells:∃cs T fz,w.heap[p.block]?=some (.cells cs T fz)∧p.off+r.n≤cs.size∧r.rd w O ((cs.toList.drop p.off).take r.n) x

theorem Ia.step {α:Type} {r:Rp α} {w w':World} {O O':List Nat} {p:Addr} {x:α} (h:Ia r w O p x) (s:AA O w O' w'):Ia r w' O' p x:=
  ⟨h.spot,h.sh.step s,let ⟨cs,T,fz,h1,h2,h3⟩:=h.cells;⟨cs,T,fz,((s.keep _ h.sh.lt h.sh.no).2).trans h1,h2,r.step s h3⟩⟩

structure CA {α:Type} (r:Rp α) (w:World) (O:List Nat) (a:Option Addr) (c:Nat) (xs:List α):Prop where
  le:xs.length≤c
  cap:c≤maxLen
  nil:a=none→xs=[]∧c=0
  el:∀ad,a=some ad→∀i (h:i<xs.length),Ia r w O (ad.add (i*r.n)) xs[i]

theorem CA.step {α:Type} {r:Rp α} {w w':World} {O O':List Nat} {a:Option Addr} {c:Nat} {xs:List α} (h:CA r w O a c xs) (s:AA O w O' w'):CA r w' O' a c xs:=
  ⟨h.le,h.cap,h.nil,fun ad ha i hi=>(h.el ad ha i hi).step s⟩
theorem CA.nil_ {α:Type} {r:Rp α} {w:World} {O:List Nat} :CA r w O none 0 ([]:List α):=⟨Nat.le_refl _,Nat.zero_le _,fun _=>⟨rfl,rfl⟩,fun _ h=>by cases h⟩
theorem CA.len {α:Type} {r:Rp α} {w:World} {O:List Nat} {a:Option Addr} {c:Nat} {xs:List α} (h:CA r w O a c xs):xs.length≤9223372036854775807:=by
  have:=h.le;have:=h.cap;unfold maxLen at*;omega
theorem CA.at {α:Type} {r:Rp α} {w:World} {O:List Nat} {a:Option Addr} {c:Nat} {xs:List α} (h:CA r w O a c xs) {i:Nat} (hi:i<xs.length):
    ∃ad,a=some ad∧Ia r w O (ad.add (i*r.n)) xs[i]:=by
  cases a with
  |none=>have:=(h.nil rfl).1;subst this;simp at hi
  |some ad=>exact⟨ad,rfl,h.el ad rfl i hi⟩

def BG {α:Type} (r:Rp α):Rp (List α) where
  n:=1
  rd w O vs xs:=∃a c,vs=[.slice a xs.length c]∧CA r w O a c xs
  len:=by rintro _ _ _ _ ⟨a,c,rfl,_⟩;rfl
  one:=by rintro _ _ _ _ ⟨a,c,rfl,_⟩ v hv;simp at hv;subst hv;rfl
  step:=by rintro _ _ _ _ _ _ s ⟨a,c,rfl,h⟩;exact⟨a,c,rfl,h.step s⟩

def E0 {α:Type} (q:Rp α) (w:World) (O:List Nat):List Value→List α→Prop
  |cs,[] =>cs=[]
  |cs,x::xs=>∃v1 v2,cs=v1++v2∧q.rd w O v1 x∧E0 q w O v2 xs
section
variable {α : Type} {q : Rp α} {w w' : World} {O O' : List Nat}
theorem E0.step (s:AA O w O' w'):∀{cs:List Value} {xs:List α},E0 q w O cs xs→E0 q w' O' cs xs
  |_,[],h=>h
  |_,_::_,⟨v1,v2,h1,h2,h3⟩=>⟨v1,v2,h1,q.step s h2,E0.step s h3⟩
theorem E0.len:∀{cs:List Value} {xs:List α},E0 q w O cs xs→cs.length=xs.length*q.n
  |_,[],h=>by simp [show _=_ from h]
  |_,_::xs,⟨v1,v2,h1,h2,h3⟩=>by
    have:=E0.len h3
    rw [h1,List.length_append,this,q.len h2,List.length_cons,Nat.add_mul];omega
theorem E0.one:∀{cs:List Value} {xs:List α},E0 q w O cs xs→∀v∈cs,v.oneCell'=true
  |_,[],h=>by simp [show _=_ from h]
  |_,_::xs,⟨v1,v2,h1,h2,h3⟩=>by
    intro v hv
    rw [h1] at hv
    rcases List.mem_append.1 hv with hv |hv
    · exact q.one h2 v hv
    · exact E0.one h3 v hv
theorem E0.nil:E0 q w O [] ([]:List α):=rfl
theorem E0.append:∀{c1 c2:List Value} {xs ys:List α},E0 q w O c1 xs→E0 q w O c2 ys→E0 q w O (c1++c2) (xs++ys)
  |_,_,[],_,h,k=>by rw [show _=_ from h];simpa using k
  |_,c2,_::xs,_,⟨v1,v2,h1,h2,h3⟩,k=>⟨v1,v2++c2,by rw [h1,List.append_assoc],h2,E0.append h3 k⟩
theorem E0.get:∀{cs:List Value} {xs:List α},E0 q w O cs xs→∀i (h:i<xs.length),q.rd w O ((cs.drop (i*q.n)).take q.n) xs[i]
  |_,[],_,i,h=>by simp at h
  |cs,x::xs,⟨v1,v2,h1,h2,h3⟩,i,h=>by
    have hl:=q.len h2
    cases i with
    |zero=>
      rw [h1]
      simp only [Nat.zero_mul,List.drop_zero,List.getElem_cons_zero]
      rw [← hl,List.take_left];exact h2
    |succ i=>
      have:=E0.get h3 i (by simpa using h)
      rw [h1]
      have e:(v1++v2).drop ((i+1)*q.n)=v2.drop (i*q.n):=by
        rw [Nat.add_mul,Nat.one_mul,Nat.add_comm,← List.drop_drop,← hl,List.drop_left]
      rw [e];simpa using this
theorem E0.take:∀{cs:List Value} {xs:List α},E0 q w O cs xs→∀k,E0 q w O (cs.take (k*q.n)) (xs.take k)
  |_,[],h,k=>by rw [show _=_ from h];simp [E0]
  |_,_::_,_,0=>by simp [E0]
  |_,x::xs,⟨v1,v2,h1,h2,h3⟩,k+1=>by
    refine⟨v1,v2.take (k*q.n),?_,h2,E0.take h3 k⟩
    rw [h1,Nat.add_mul,Nat.one_mul,Nat.add_comm,← q.len h2,List.take_append]
    simp
    exact List.take_of_length_le (Nat.le_add_right _ _)
end

theorem CA.cells {α:Type} {q:Rp α} {w:World} {O:List Nat} :∀{xs:List α} {ad:Addr} {c:Nat},CA q w O (some ad) c xs→
    ∃cs,E0 q w O cs xs∧∀j u,cs[j]?=some u→w.cell? (ad.add j)=some u:=by
  intro xs
  induction xs with
  |nil=>intro ad c h;exact⟨[],rfl,by simp⟩
  |cons x xs ih=>
    intro ad c h
    have h0:=h.el ad rfl 0 (by simp)
    obtain⟨cs,hcs,hc⟩:=ih (ad:=ad.add q.n) (c:=c) ⟨by have:=h.le;simp at this;omega,h.cap,(fun e=>by cases e),fun ad' e i hi=>by
      cases e
      have:=h.el ad rfl (i+1) (by simpa using hi)
      rw [Addr.add_add]
      have e:q.n+i*q.n=(i+1)*q.n:=by rw [Nat.add_mul];omega
      rw [e];simpa using this⟩
    obtain⟨h1,h2,cb,e,fz,h3,h4,h5⟩:=h0
    simp only [Nat.zero_mul,Addr.add_zero'] at h1 h2 h3 h4 h5
    refine⟨(cb.toList.drop ad.off).take q.n++cs,⟨_,cs,rfl,by simpa using h5,hcs⟩,?_⟩
    intro j u hj
    have hl:=q.len h5
    rw [List.getElem?_append] at hj
    have hs:ad=⟨ad.block,ad.off,none⟩:=by cases ad;simp only at h1;subst h1;rfl
    split at hj
    · rw [List.getElem?_take, List.getElem?_drop] at hj
      split at hj
      · rw [hs, Addr.add_lit]
        simp only [World.cell?,h3,Option.isSome_none,Bool.false_eq_true,if_false]
        simpa using hj
      · cases hj
    · rename_i hge
      have:=hc _ _ hj
      rw [Addr.add_add,hl] at this
      rw [hl] at hge
      have e:q.n+(j - q.n)=j:=by omega
      rwa [e] at this

/-! what a cell's reading says of the cell -/
section
variable {w : World} {O : List Nat} {v : Value}
theorem BK {k:IntKind} {x:Int} (h:(AL k).rd w O [v] x):v=.int k x∧k.min≤x∧x≤k.max:=⟨by simpa using h.1,h.2⟩
theorem B9 {α:Type} {r:Rp α} {xs:List α} (h:(BG r).rd w O [v] xs):∃a c,v=.slice a xs.length c∧CA r w O a c xs:=by
  obtain⟨a,c,h1,h2⟩:=h;exact⟨a,c,by simpa using h1,h2⟩
theorem B8 {α:Type} {r:Rp α} {xs:List α} {a:Option Addr} {c:Nat} (h:CA r w O a c xs):(BG r).rd w O [.slice a xs.length c] xs:=⟨a,c,rfl,h⟩
theorem AW {α β:Type} {r:Rp α} {s:Rp β} {v1 v2:List Value} {x:α} {y:β} (h1:r.rd w O v1 x) (h2:s.rd w O v2 y):(Gg r s).rd w O (v1++v2) (x,y):=⟨v1,v2,rfl,h1,h2⟩
end

/-! parts of what a pointer leads to -/
theorem Li {l v1 v2:List Value} {m n:Nat} (h:l.take (m+n)=v1++v2) (h1:v1.length=m) (h2:v2.length=n):l.take m=v1∧(l.drop m).take n=v2:=by
  subst h1;subst h2
  have hl:v1.length+v2.length≤l.length:=by
    have:=congrArg List.length h
    simp only [List.length_take,List.length_append] at this
    omega
  have e:l=v1++v2++l.drop (v1.length+v2.length):=by rw [← h];exact(List.take_append_drop _ _).symm
  constructor
  · rw [e,List.append_assoc,List.take_left]
  · rw [e,List.append_assoc,List.drop_left,List.take_left]

theorem Addr.add_spot {p:Addr} (h:p.spot=none) (n:Nat):p.add n=⟨p.block,p.off+n,none⟩:=by
  cases p;simp only at h;subst h;exact Addr.add_lit _ _ _

theorem Ia.fst {α β:Type} {r:Rp α} {s:Rp β} {w:World} {O:List Nat} {p:Addr} {x:α × β} (h:Ia (Gg r s) w O p x):Ia r w O p x.1:=by
  obtain⟨h1,h2,cs,T,fz,h3,h4,v1,v2,h5,h6,h7⟩:=h
  have hn:(Gg r s).n=r.n+s.n:=rfl
  exact⟨h1,h2,cs,T,fz,h3,by omega,by rw [(Li h5 (r.len h6) (s.len h7)).1];exact h6⟩
theorem Ia.snd {α β:Type} {r:Rp α} {s:Rp β} {w:World} {O:List Nat} {p:Addr} {x:α × β} (h:Ia (Gg r s) w O p x):Ia s w O (p.add r.n) x.2:=by
  obtain⟨h1,h2,cs,T,fz,h3,h4,v1,v2,h5,h6,h7⟩:=h
  have hn:(Gg r s).n=r.n+s.n:=rfl
  rw [Addr.add_spot h1]
  exact⟨rfl,h2,cs,T,fz,h3,by simp only;omega,by rw [← List.drop_drop,(Li h5 (r.len h6) (s.len h7)).2];exact h7⟩
theorem Ia.via {α β:Type} {f:β→α} {r:Rp α} {w:World} {O:List Nat} {p:Addr} {x:β} (h:Ia (Np f r) w O p x):Ia r w O p (f x):=⟨h.spot,h.sh,h.cells⟩
structure HX (K:List Nat) (w w':World):Prop where
  os:w'.os=w.os
  tape:w'.tape=w.tape
  output:w'.output=w.output
  size:w.heap.size≤w'.heap.size
  block:∀k,k<w.heap.size→k ∉ K→w'.heap[k]?=w.heap[k]?
  drawn:w.drawn≤w'.drawn
theorem HX.refl (K:List Nat) (w:World):HX K w w:=⟨rfl,rfl,rfl,Nat.le_refl _,fun _ _ _=>rfl,Nat.le_refl _⟩
theorem HX.of_ext {K:List Nat} {w w':World} (h:GU w w'):HX K w w':=⟨h.os,h.tape,h.output,h.size,fun k hk _=>h.block k hk,h.drawn⟩
theorem HX.ext {w w':World} (h:HX [] w w'):GU w w':=⟨h.os,h.tape,h.output,h.size,fun k hk=>h.block k hk (by simp),h.drawn⟩
theorem HX.trans {K:List Nat} {a b c:World} (h:HX K a b) (k:HX K b c):HX K a c:=
  ⟨k.os.trans h.os,k.tape.trans h.tape,k.output.trans h.output,Nat.le_trans h.size k.size,fun i hi hn=>(k.block i (Nat.lt_of_lt_of_le hi h.size) hn).trans (h.block i hi hn),Nat.le_trans h.drawn k.drawn⟩
theorem HX.then {K:List Nat} {a b c:World} (h:HX K a b) (k:GU b c):HX K a c:=h.trans (.of_ext k)
theorem HX.trans' {K K':List Nat} {a b c:World} (h:HX K a b) (k:HX K' b c) (hk:∀i∈K',i∈K∨a.heap.size≤i):HX K a c:=
  ⟨k.os.trans h.os,k.tape.trans h.tape,k.output.trans h.output,Nat.le_trans h.size k.size,fun i hi hn=>
    (k.block i (Nat.lt_of_lt_of_le hi h.size) (fun hm=>(hk i hm).elim hn (fun h=>by omega))).trans (h.block i hi hn),Nat.le_trans h.drawn k.drawn⟩
theorem HX.sub {K K':List Nat} {a b:World} (h:HX K a b) (hk:∀i∈K,i∈K'∨a.heap.size≤i):HX K' a b:=
  ⟨h.os,h.tape,h.output,h.size,fun i hi hn=>h.block i hi (fun hm=>(hk i hm).elim hn (fun h=>by omega)),h.drawn⟩
structure Zx where
  w:World
  K:List Nat
  ds:List Nat
abbrev Be:=List (Option Nat × Obj)
structure St (z:Zx) (O0:List Nat) (w:World) (bs:Be):Prop where
  below:HX z.K z.w w
  own:∀p∈bs,∀b,p.1=some b→(b∈z.K∨z.w.heap.size≤b)∧w.heap[b]?=some p.2
  nd:(bs.filterMap Prod.fst).Nodup
  dj:∀k∈O0,k<w.heap.size∧k ∉ bs.filterMap Prod.fst
  dsn:z.ds.Nodup
  dfs:∀D∈z.ds,D∈O0∧(D∈z.K∨z.w.heap.size≤D)∧w.heap[D]?=some (.deferred (some []))

def ks (bs:Be) (O0:List Nat):List Nat:=bs.filterMap Prod.fst++O0

section
variable {w0 : Zx} {w w' : World} {O0 : List Nat} {bs : Be}
theorem St.start {w0:World} (h:∀k∈O0,k<w0.heap.size):St ⟨w0,[],[]⟩ O0 w0 []:=⟨HX.refl _ _,(fun _ h=>by cases h),List.nodup_nil,fun k hk=>⟨h k hk,by simp⟩,List.nodup_nil,fun _ h=>by cases h⟩
theorem St.ext {w0:World} {ds:List Nat} (h:St ⟨w0,[],ds⟩ O0 w bs):GU w0 w:=h.below.ext
theorem St.lt0 (h:St w0 O0 w bs):∀k∈O0,k<w.heap.size:=fun k hk=>(h.dj k hk).1
theorem St.lt (h:St w0 O0 w bs) {p:Option Nat × Obj} (hp:p∈bs) {b:Nat} (hb:p.1=some b):b<w.heap.size:=(Array.getElem?_eq_some_iff.1 (h.own p hp b hb).2).1
theorem B2 {b:Nat} :b∈bs.filterMap Prod.fst ↔ ∃p∈bs,p.1=some b:=by simp [List.mem_filterMap]
theorem St.ltw (h:St w0 O0 w bs):∀k∈ks bs O0,k<w.heap.size:=by
  intro k hk
  rcases List.mem_append.1 hk with hk |hk
  · obtain ⟨p, hp, hb⟩ := B2.1 hk
    exact h.lt hp hb
  · exact h.lt0 k hk
theorem St.call (h:St w0 O0 w bs) (he:GU w w'):St w0 O0 w' bs:=
  ⟨h.below.then he,fun p hp b hb=>⟨(h.own p hp b hb).1,by rw [he.block _ (h.lt hp hb)];exact(h.own p hp b hb).2⟩,h.nd,fun k hk=>⟨Nat.lt_of_lt_of_le (h.dj k hk).1 he.size,(h.dj k hk).2⟩,h.dsn,
   fun D hD=>⟨(h.dfs D hD).1,(h.dfs D hD).2.1,by rw [he.block _ (h.lt0 D (h.dfs D hD).1)];exact(h.dfs D hD).2.2⟩⟩
theorem St.ghost (h:St w0 O0 w bs) (o:Obj):St w0 O0 w ((none,o)::bs):=
  ⟨h.below,fun p hp b hb=>by
    rcases List.mem_cons.1 hp with rfl |hp
    · cases hb
    · exact h.own p hp b hb,by simpa using h.nd,fun k hk=>⟨(h.dj k hk).1,by simpa using (h.dj k hk).2⟩,h.dsn,h.dfs⟩
theorem St.drop (h:St w0 O0 w bs) (i:Nat):St w0 O0 w (bs.eraseIdx i):=
  ⟨h.below,fun p hp=>h.own p (List.mem_of_mem_eraseIdx hp),(List.Sublist.filterMap _ (List.eraseIdx_sublist _ _)).nodup h.nd,
   fun k hk=>⟨(h.dj k hk).1,fun hm=>(h.dj k hk).2 ((List.Sublist.filterMap _ (List.eraseIdx_sublist _ _)).subset hm)⟩,h.dsn,h.dfs⟩
theorem AA.drop (w:World) (O0:List Nat) (bs:Be) (i:Nat):AA (ks bs O0) w (ks (bs.eraseIdx i) O0) w:=
  ⟨Nat.le_refl _,fun k _ hn=>⟨fun hm=>hn (by
    rcases List.mem_append.1 hm with hm |hm
    · exact List.mem_append_left _ ((List.Sublist.filterMap _ (List.eraseIdx_sublist _ _)).subset hm)
    · exact List.mem_append_right _ hm),rfl⟩⟩
theorem St.dropS (h:St w0 O0 w bs) (i:Nat):AA (ks bs O0) w (ks (bs.eraseIdx i) O0) w:=AA.drop w O0 bs i
theorem AA.all (w:World) (O0:List Nat) (bs:Be):AA (ks bs O0) w O0 w:=
  ⟨Nat.le_refl _,fun k _ hn=>⟨fun hm=>hn (List.mem_append_right _ hm),rfl⟩⟩
theorem St.alloc (h:St w0 O0 w bs) (o:Obj):St w0 O0 (w.alloc o) ((some w.heap.size,o)::bs):=by
  refine⟨h.below.then (GU.alloc w o),?_,?_,fun k hk=>⟨by have:=(h.dj k hk).1;simp;omega,fun hm=>?_⟩,h.dsn,fun D hD=>⟨(h.dfs D hD).1,(h.dfs D hD).2.1,by rw [heap_alloc_old w o _ (h.lt0 D (h.dfs D hD).1)];exact(h.dfs D hD).2.2⟩⟩
  · intro p hp b hb
    rcases List.mem_cons.1 hp with rfl |hp
    · cases hb;exact⟨.inr h.below.size,heap_alloc_new w _⟩
    · refine ⟨(h.own p hp b hb).1, ?_⟩
      rw [heap_alloc_old w o _ (h.lt hp hb)];exact(h.own p hp b hb).2
  · simp only [List.filterMap_cons, List.nodup_cons]
    refine⟨fun hm=>?_,h.nd⟩
    obtain⟨p,hp,e⟩:=B2.1 hm
    have:=h.lt hp e
    omega
  · simp only [List.filterMap_cons, List.mem_cons] at hm
    rcases hm with e |hm
    · have:=(h.dj k hk).1;omega
    · exact(h.dj k hk).2 hm
theorem AA.alloc (w:World) (O0:List Nat) (bs:Be) (o:Obj):AA (ks bs O0) w (ks ((some w.heap.size,o)::bs) O0) (w.alloc o):=
  ⟨by simp,fun k hk hn=>⟨fun hm=>by
    simp only [ks,List.filterMap_cons,List.cons_append,List.mem_cons] at hm
    rcases hm with e |hm
    · omega
    · exact hn hm,heap_alloc_old w o k hk⟩⟩
theorem St.get (h:St w0 O0 w bs) {i:Nat} {b:Nat} {o:Obj} (hi:bs[i]?=some (some b,o)):w.heap[b]?=some o:=(h.own _ (List.mem_of_getElem? hi) b rfl).2
theorem St.put (h:St w0 O0 w bs) {i:Nat} {k k':Option Nat} {o o':Obj} (hi:bs[i]?=some (k,o))
    (hx:HX w0.K w0.w w') (hs:w.heap.size≤w'.heap.size) (hk:∀b,k'=some b→(k=some b∨w.heap.size≤b)∧w'.heap[b]?=some o')
    (ho:∀j,j<w.heap.size→k≠some j→w'.heap[j]?=w.heap[j]?):St w0 O0 w' (bs.set i (k',o')):=by
  have hlt:i<bs.length:=(List.getElem?_eq_some_iff.1 hi).1
  have hg:bs[i] =(k,o):=(List.getElem?_eq_some_iff.1 hi).2
  have hmem:(k,o)∈bs:=List.mem_of_getElem? hi
  -- two places never bear one key
  have hone:∀(j l:Nat),∀(p q:Option Nat × Obj) b,bs[j]?=some p→bs[l]?=some q→p.1=some b→q.1=some b→j=l:=by
    intro j l p q b hj hl hp hq
    have hnd:=h.nd
    have key:∀(bs:Be) (j l:Nat) (p q:Option Nat × Obj),(bs.filterMap Prod.fst).Nodup→bs[j]?=some p→bs[l]?=some q→p.1=some b→q.1=some b→j=l:=by
      intro bs
      induction bs with
      |nil=>intro j l p q _ hj;simp at hj
      |cons x bs ih=>
        intro j l p q hnd hj hl hp hq
        have hnd':(bs.filterMap Prod.fst).Nodup:=(List.Sublist.filterMap _ (List.sublist_cons_self x bs)).nodup hnd
        have hnot:x.1=some b→∀q,q∈bs→q.1≠some b:=by
          intro hxb q hq' hqb
          rw [List.filterMap_cons_some hxb,List.nodup_cons] at hnd
          exact hnd.1 (B2.2 ⟨q,hq',hqb⟩)
        cases j with
        |zero=>
          simp only [List.getElem?_cons_zero,Option.some.injEq] at hj
          subst hj
          cases l with
          |zero=>rfl
          |succ l=>exact absurd hq (hnot hp q (List.mem_of_getElem? (by simpa using hl)))
        |succ j=>
          cases l with
          |zero=>
            simp only [List.getElem?_cons_zero,Option.some.injEq] at hl
            subst hl
            exact absurd hp (hnot hq p (List.mem_of_getElem? (by simpa using hj)))
          |succ l=>rw [ih j l p q hnd' (by simpa using hj) (by simpa using hl) hp hq]
    exact key bs j l p q hnd hj hl hp hq
  refine⟨hx,?_,?_,fun j hj=>⟨Nat.lt_of_lt_of_le (h.dj j hj).1 hs,fun hm=>?_⟩,h.dsn,fun D hD=>⟨(h.dfs D hD).1,(h.dfs D hD).2.1,?_⟩⟩
  rotate_left 2
  · obtain ⟨p, hp, e⟩ := B2.1 hm
    obtain⟨l,hl⟩:=List.mem_iff_getElem?.1 hp
    rw [List.getElem?_set] at hl
    split at hl
    · rename_i he; subst he
      simp only [hlt,Option.some.injEq,if_true] at hl;subst hl
      rcases (hk j e).1 with h1 |h1
      · exact(h.dj j hj).2 (B2.2 ⟨_,hmem,h1⟩)
      · have:=(h.dj j hj).1;omega
    · exact(h.dj j hj).2 (B2.2 ⟨p,List.mem_of_getElem? hl,e⟩)
  · rw [ho D (h.lt0 D (h.dfs D hD).1) fun e => (h.dj D (h.dfs D hD).1).2 (B2.2 ⟨_, hmem, e⟩)]
    exact(h.dfs D hD).2.2
  · intro p hp b hb
    obtain⟨j,hj⟩:=List.mem_iff_getElem?.1 hp
    rw [List.getElem?_set] at hj
    split at hj
    · rename_i e; subst e
      simp only [hlt,Option.some.injEq,if_true] at hj;subst hj
      refine⟨?_,(hk b hb).2⟩
      rcases (hk b hb).1 with e |e
      · exact(h.own _ hmem b e).1
      · exact .inr (Nat.le_trans h.below.size e)
    · rename_i hne
      have hp':=List.mem_of_getElem? hj
      refine⟨(h.own p hp' b hb).1,?_⟩
      rw [ho b (h.lt hp' hb) fun e=>hne (hone i j _ _ b hi hj e hb)]
      exact(h.own p hp' b hb).2
  · -- the keys
    have hperm:∀(bs:Be) (i:Nat),i<bs.length→(bs.filterMap Prod.fst).Nodup→(∀b,k'=some b→∀(j:Nat) p,bs[j]?=some p→p.1=some b→j=i)→
        ((bs.set i (k',o')).filterMap Prod.fst).Nodup:=by
      intro bs
      induction bs with
      |nil=>intro i hi;simp at hi
      |cons x bs ih=>
        intro i hi hnd hu
        have hnd':(bs.filterMap Prod.fst).Nodup:=(List.Sublist.filterMap _ (List.sublist_cons_self x bs)).nodup hnd
        cases i with
        |zero=>
          simp only [List.set_cons_zero]
          cases hk':k' with
          |none=>simpa using hnd'
          |some b=>
            rw [List.filterMap_cons_some (show Prod.fst ((some b,o'):Option Nat × Obj)=some b from rfl),List.nodup_cons]
            refine⟨fun hm=>?_,hnd'⟩
            obtain⟨p,hp,hpb⟩:=B2.1 hm
            obtain⟨j,hj⟩:=List.mem_iff_getElem?.1 hp
            have:=hu b hk' (j+1) p (by simpa using hj) hpb
            omega
        |succ i=>
          simp only [List.set_cons_succ]
          have hrec:=ih i (by simpa using hi) hnd' fun b hb j p hj hp=>by have:=hu b hb (j+1) p (by simpa using hj) hp;omega
          cases hx1:x.1 with
          |none=>rw [List.filterMap_cons_none hx1];exact hrec
          |some c=>
            rw [List.filterMap_cons_some hx1,List.nodup_cons]
            refine⟨fun hm=>?_,hrec⟩
            obtain⟨p,hp,hpb⟩:=B2.1 hm
            obtain⟨j,hj⟩:=List.mem_iff_getElem?.1 hp
            rw [List.getElem?_set] at hj
            split at hj
            · rename_i e; subst e
              split at hj
              · simp only [Option.some.injEq] at hj; subst hj
                have:=hu c hpb 0 x (by simp) hx1
                omega
              · cases hj
            · rw [List.filterMap_cons_some hx1, List.nodup_cons] at hnd
              exact hnd.1 (B2.2 ⟨p,List.mem_of_getElem? hj,hpb⟩)
    refine hperm bs i hlt h.nd fun b hb j p hj hp=>?_
    rcases (hk b hb).1 with e |e
    · exact(hone i j _ _ b hi hj e hp).symm
    · have := h.lt (List.mem_of_getElem? hj) hp
      omega
theorem AA.put {i:Nat} {k k':Option Nat} {o o':Obj} (hi:bs[i]?=some (k,o)) (hs:w.heap.size≤w'.heap.size)
    (hk:∀b,k'=some b→k=some b∨w.heap.size≤b)
    (ho:∀j,j<w.heap.size→k≠some j→w'.heap[j]?=w.heap[j]?):AA (ks bs O0) w (ks (bs.set i (k',o')) O0) w':=by
  have hmem:(k,o)∈bs:=List.mem_of_getElem? hi
  refine⟨hs,fun b hb hn=>⟨fun hm=>hn ?_,ho b hb fun e=>hn (List.mem_append_left _ (B2.2 ⟨_,hmem,e⟩))⟩⟩
  rcases List.mem_append.1 hm with hm |hm
  · obtain ⟨p, hp, hpb⟩ := B2.1 hm
    obtain⟨j,hj⟩:=List.mem_iff_getElem?.1 hp
    rw [List.getElem?_set] at hj
    split at hj
    · split at hj
      · simp only [Option.some.injEq] at hj; subst hj
        rcases hk b hpb with e |e
        · exact List.mem_append_left _ (B2.2 ⟨_,hmem,e⟩)
        · omega
      · cases hj
    · exact List.mem_append_left _ (B2.2 ⟨p,List.mem_of_getElem? hj,hpb⟩)
  · exact List.mem_append_right _ hm
end
end Go.Fx
set_option linter.unusedSimpArgs false
set_option linter.unusedVariables false
namespace Go.Fx
open Go Go.RowKit
def bs (l:List UInt8):ByteArray:=⟨l.toArray⟩

section
variable {P : Program} {r : Option Nat} {ρ : EH} {w : World} {d : Option Nat} {ty : TypeId} {pos : String} {aft : Array Edge} {g : Option (Nat × Bool)} {V : Value → World → Prop}

theorem Bj {op:Op} {v:Value} {w':World} (hd:∀c,op≠.defer c) (h:(execOp (ev ρ) ⟨d,op,ty,pos,aft,g⟩).run P w=.ok (.value v) w') (hV:V v w'):
    BJ P r ρ w ⟨d,op,ty,pos,aft,g⟩ V:=by
  unfold BJ;rw [Oper.semAt_eq _ _ _ hd,h];exact hV
theorem Mw {op:Op} {w':World} (hd:∀c,op≠.defer c) (h:(execOp (ev ρ) ⟨d,op,ty,pos,aft,g⟩).run P w=.ok .skip w') (hV:V undef w'):
    BJ P r ρ w ⟨d,op,ty,pos,aft,g⟩ V:=by
  unfold BJ;rw [Oper.semAt_eq _ _ _ hd,h];exact hV
theorem N4 {op:Op} {f:FuncId} {args:List Value} {w':World} {R:Value→World→Prop} (hd:∀c,op≠.defer c)
    (h:(execOp (ev ρ) ⟨d,op,ty,pos,aft,g⟩).run P w=.ok (.enter f args.toArray) w') (hc:Fn P f args w' R) (hV:∀v w'',R v w''→V v w''):BJ P r ρ w ⟨d,op,ty,pos,aft,g⟩ V:=by
  unfold BJ;rw [Oper.semAt_eq _ _ _ hd,h]
  exact(hc.inRound r).mono fun e w'' ⟨v,he,hv⟩=>⟨v,he,hV _ _ hv⟩

theorem AD {x:Operand} {v:Value} (hx:ev ρ x=v) (h:V v w):BJ P r ρ w ⟨d,.move x,ty,pos,aft,g⟩ V:=
  Bj (by simp) (by simp [execOp,hx]) h
theorem Mx {x:Operand} {v:Value} (hx:ev ρ x=v) (h:V v w):BJ P r ρ w ⟨d,.assign x,ty,pos,aft,g⟩ V:=
  Bj (by simp) (by simp [execOp,hx]) h
theorem DR {c x y:Operand} {v:Value} (hc:ev ρ c=.bool true) (hx:ev ρ x=v) (h:V v w):BJ P r ρ w ⟨d,.pick c x y,ty,pos,aft,g⟩ V:=
  Bj (by simp) (by simp [execOp,hc,hx,asBool]) h
theorem FE {c x y:Operand} {v:Value} (hc:ev ρ c=.bool false) (hy:ev ρ y=v) (h:V v w):BJ P r ρ w ⟨d,.pick c x y,ty,pos,aft,g⟩ V:=
  Bj (by simp) (by simp [execOp,hc,hy,asBool]) h
theorem Do {t:TypeId} {x:Operand} {b:Bool} (hx:ev ρ x=.bool b) (h:V (.bool (!b)) w):BJ P r ρ w ⟨d,.unOp .not t x,ty,pos,aft,g⟩ V:=
  Bj (by simp) (by simp [execOp,hx,Op.unary]) h
theorem Bk {t:Operand} {i:Nat} {vs:List Value} {v:Value} (ht:ev ρ t=.tuple vs.toArray) (hi:vs[i]?=some v) (h:V v w):BJ P r ρ w ⟨d,.extract t i,ty,pos,aft,g⟩ V:=
  Bj (by simp) (by simp [execOp,ht,Instr.extract,hi]) h

section ints
variable {x y : Operand} {t u : TypeId} {m k : Int} {q : IntKind}
theorem Eb {m:Int} (h1: -9223372036854775808≤m) (h2:m≤9223372036854775807):IntKind.i64.wrap m=m:=IntWalk.i64_in m ⟨h1,h2⟩
theorem Bg (hx:ev ρ x=.int q m) (hy:ev ρ y=.int q k) (h:V (.int q (q.wrap (m+k))) w):BJ P r ρ w ⟨d,.binOp .add t x y u,ty,pos,aft,g⟩ V:=
  Bj (by simp) (by simp [execOp,hx,hy,eqGuard,binOp,Op.intArith]) h
theorem FN (hx:ev ρ x=.int q m) (hy:ev ρ y=.int q k) (h:V (.int q (q.wrap (m - k))) w):BJ P r ρ w ⟨d,.binOp .sub t x y u,ty,pos,aft,g⟩ V:=
  Bj (by simp) (by simp [execOp,hx,hy,eqGuard,binOp,Op.intArith]) h
theorem Io (hx:ev ρ x=.int q m) (hy:ev ρ y=.int q k) (h:V (.int q (q.wrap (m*k))) w):BJ P r ρ w ⟨d,.binOp .mul t x y u,ty,pos,aft,g⟩ V:=
  Bj (by simp) (by simp [execOp,hx,hy,eqGuard,binOp,Op.intArith]) h
theorem By (hx:ev ρ x=.int q m) (hy:ev ρ y=.int q k) (h:V (.bool (decide (m<k))) w):BJ P r ρ w ⟨d,.binOp .lss t x y u,ty,pos,aft,g⟩ V:=
  Bj (by simp) (by simp [execOp,hx,hy,eqGuard,binOp,Op.intCmp]) h
theorem JS (hx:ev ρ x=.int q m) (hy:ev ρ y=.int q k) (h:V (.bool (decide (m≤k))) w):BJ P r ρ w ⟨d,.binOp .leq t x y u,ty,pos,aft,g⟩ V:=
  Bj (by simp) (by simp [execOp,hx,hy,eqGuard,binOp,Op.intCmp]) h
theorem EB (hx:ev ρ x=.int q m) (hy:ev ρ y=.int q k) (h:V (.bool (decide (k<m))) w):BJ P r ρ w ⟨d,.binOp .gtr t x y u,ty,pos,aft,g⟩ V:=
  Bj (by simp) (by simp [execOp,hx,hy,eqGuard,binOp,Op.intCmp]) h
theorem HH (hx:ev ρ x=.int q m) (hy:ev ρ y=.int q k) (h:V (.bool (decide (k≤m))) w):BJ P r ρ w ⟨d,.binOp .geq t x y u,ty,pos,aft,g⟩ V:=
  Bj (by simp) (by simp [execOp,hx,hy,eqGuard,binOp,Op.intCmp]) h
theorem HI (hx:ev ρ x=.int q m) (hy:ev ρ y=.int q k) (h:V (.bool (decide (m=k))) w):BJ P r ρ w ⟨d,.binOp .eql t x y u,ty,pos,aft,g⟩ V:=
  Bj (v:=.bool (decide (m=k))) (by simp) (by simp [execOp,hx,hy,eqGuard,binOp,Op.intCmp];by_cases h:m=k<;> simp [h]) h
theorem Eh (hx:ev ρ x=.int q m) (hy:ev ρ y=.int q k) (h:V (.bool (decide (m≠k))) w):BJ P r ρ w ⟨d,.binOp .neq t x y u,ty,pos,aft,g⟩ V:=
  Bj (v:=.bool (decide (m≠k))) (by simp) (by simp [execOp,hx,hy,eqGuard,binOp,Op.intCmp];by_cases h:m=k<;> simp [h]) h
theorem LO {a b:Bool} (hu:P.underlying t=some .bool) (hx:ev ρ x=.bool a) (hy:ev ρ y=.bool b) (h:V (.bool (!(a == b))) w):BJ P r ρ w ⟨d,.binOp .neq t x y u,ty,pos,aft,g⟩ V:=
  Bj (by simp) (by simp [execOp,hx,hy,eqGuard,binOp,run_equal_bool w t a b hu]) h
theorem Tm {e:TypeId} {a:Option Addr} {m c m' c':Nat} (hu:P.underlying t=some (.slice e)) (hx:ev ρ x=.slice a m c) (hy:ev ρ y=.slice none m' c') (h:V (.bool a.isNone) w):BJ P r ρ w ⟨d,.binOp .eql t x y u,ty,pos,aft,g⟩ V:=
  Bj (v:=.bool a.isNone) (by simp) (by simp [execOp,hx,hy,eqGuard,Lib.run_eql_slice_nil w t e a m c m' c' hu]) h
theorem Pn {s:TypeId} {q q':IntKind} {dsc:TypeDesc} (hs:P.underlying s=some dsc) (ht:P.underlying t=some (.int q')) (hx:ev ρ x=.int q m) (h:V (.int q' (q'.wrap m)) w):
    BJ P r ρ w ⟨d,.convert s t x,ty,pos,aft,g⟩ V:=
  Bj (v:=.int q' (q'.wrap m)) (by simp) (by simp [execOp,hx,convert,run_underlying hs,run_underlying ht,Conv.intToInt]) h
end ints
end
end Go.Fx
set_option linter.unusedSimpArgs false
set_option linter.unusedVariables false
namespace Go.Fx
open Go Go.RowKit

structure Ty (P:Program) (t:TypeId) (d:TypeDesc) (n b:Nat) (z:List Value) (ag:Bool):Prop where
  und:P.underlying t=some d
  info:∃i,P.info? t=some i∧i.size=n∧i.bytes=b∧∃zv,i.zero=some zv∧zv.cells=z.toArray
  agg:∀w,(isAgg t).run P w=.ok ag w
  zl:z.length=n

section
variable {P : Program} {t : TypeId} {td : TypeDesc} {n b : Nat} {z : List Value} {ag : Bool}
theorem Ty.runU (T:Ty P t td n b z ag) (w:World):(underlying t).run P w=.ok td w:=run_underlying T.und w
theorem Ty.runSize (T:Ty P t td n b z ag) (w:World):(Go.sizeOf t).run P w=.ok n w:=by
  obtain⟨i,h1,h2,_⟩:=T.info
  simp [Go.sizeOf,typeInfo,h1,h2]
theorem Ty.runZero (T:Ty P t td n b z ag) (w:World):∃zv,(zeroValue t).run P w=.ok zv w∧zv.cells=z.toArray:=by
  obtain⟨i,h1,h2,_,zv,h3,h4⟩:=T.info
  exact⟨zv,by simp [zeroValue,typeInfo,h1,h3],h4⟩
theorem Ty.infoSize (T:Ty P t td n b z ag):(P.info? t).map (·.size)=some n:=by
  obtain⟨i,h1,h2,_⟩:=T.info
  simp [h1,h2]
end

theorem JT {P:Program} (e:TypeId) (cs:Array Value) (w:World):(newRow e cs).run P w=.ok ⟨w.heap.size,0,none⟩ (w.alloc (.cells cs e)):=by
  simp [newRow,newObj,Sem.run]

section
variable {P : Program} {r : Option Nat} {ρ : EH} {w : World} {d : Option Nat} {ty : TypeId} {pos : String} {aft : Array Edge} {g : Option (Nat × Bool)} {V : Value → World → Prop}
variable {w0 : Zx} {O0 : List Nat} {bs : Be}
variable {x y : Operand} {t : TypeId} {td : TypeDesc} {n b : Nat} {z : List Value} {ag : Bool}

theorem Bv (T:Ty P t td n b z ag) (hs:St w0 O0 w bs)
    (k:∀bl w',GU w w'→AA (ks bs O0) w (ks ((some bl,.cells z.toArray t)::bs) O0) w'→St w0 O0 w' ((some bl,.cells z.toArray t)::bs)→V (.pointer (some ⟨bl,0,none⟩)) w'):
    BJ P r ρ w ⟨d,.alloc t,ty,pos,aft,g⟩ V:=by
  obtain⟨zv,h1,h2⟩:=T.runZero w
  refine Bj (v:=.pointer (some ⟨w.heap.size,0,none⟩)) (w':=w.alloc (.cells z.toArray t)) (by simp) ?_ (k _ _ (GU.alloc w _) (AA.alloc w O0 bs _) (hs.alloc _))
  simp only [execOp,Instr.alloc,Sem.run_bind,h1,Result.andThen_ok,newVar,JT,h2,Sem.run_pure]

theorem BT {v:Value} {cs:List Value} (hs:St w0 O0 w bs) (hx:ev ρ x=v) (hv:v.cells=cs.toArray)
    (k:∀bl w',GU w w'→AA (ks bs O0) w (ks ((some bl,.cells cs.toArray t)::bs) O0) w'→St w0 O0 w' ((some bl,.cells cs.toArray t)::bs)→V (.pointer (some ⟨bl,0,none⟩)) w'):
    BJ P r ρ w ⟨d,.box t x,ty,pos,aft,g⟩ V:=by
  refine Bj (v:=.pointer (some ⟨w.heap.size,0,none⟩)) (w':=w.alloc (.cells cs.toArray t)) (by simp) ?_ (k _ _ (GU.alloc w _) (AA.alloc w O0 bs _) (hs.alloc _))
  simp only [execOp,Instr.box,Sem.run_bind,Result.andThen_ok,newVar,JT,hx,hv,Sem.run_pure]

/-! reading -/
theorem Om {p:Addr} {v:Value} (h:w.cell? p=some v):(load p).run P w=.ok v w:=by simp [load,Sem.run,h]
theorem JU {bl off:Nat} {cs:Array Value} {e:TypeId} {fz:Nat × Nat} (h:w.heap[bl]?=some (.cells cs e fz)):w.cell? ⟨bl,off,none⟩=cs[off]?:=by
  simp [World.cell?,h]
theorem Kz (T:Ty P t td n b z true) {p:Addr} {vs:List Value} (hp:p.spot=none) {cs:Array Value} {e:TypeId} {fz:Nat × Nat} (h:w.heap[p.block]?=some (.cells cs e fz))
    (hv:(cs.toList.drop p.off).take n=vs) (hn:vs.length=n):(loadVar t p).run P w=.ok (.agg vs.toArray) w:=by
  have hl:(loadCells p n).run P w=.ok vs.toArray w:=by
    have:=run_loadCells_list (P:=P) (w:=w) p vs fun j v hj=>by
      rw [Addr.add_spot hp,JU h]
      rw [← hv,List.getElem?_take,List.getElem?_drop] at hj
      split at hj
      · simpa using hj
      · cases hj
    rw [hn] at this
    exact this
  simp only [loadVar,Sem.run_bind,T.agg,Result.andThen_ok,if_true,T.runSize,hl,Sem.run_pure]
theorem K3 (T:Ty P t td n b z false) {p:Addr} {v:Value} (hp:w.cell? p=some v):(loadVar t p).run P w=.ok v w:=by
  simp only [loadVar,Sem.run_bind,T.agg,Result.andThen_ok,Bool.false_eq_true,if_false,Om hp]

theorem RS (T:Ty P t td n b z false) {bl off i:Nat} {cs:List Value} {e:TypeId} {fz:Nat × Nat} {v:Value} (hs:St w0 O0 w bs) (hx:ev ρ x=.pointer (some ⟨bl,off,none⟩))
    (hi:bs[i]?=some (some bl,.cells cs.toArray e fz)) (hv:cs[off]?=some v) (k:V v w):BJ P r ρ w ⟨d,.load t x,ty,pos,aft,g⟩ V:=
  Bj (by simp) (by
    simp only [execOp,hx,Instr.loadAt,Instr.sureAddr,Sem.run_bind,Sem.run_pure,Result.andThen_ok,K3 T ((JU (hs.get hi)).trans (by simpa using hv))]) k
theorem G4 (T:Ty P t td n b z true) {bl off i:Nat} {cs vs:List Value} {e:TypeId} {fz:Nat × Nat} (hs:St w0 O0 w bs) (hx:ev ρ x=.pointer (some ⟨bl,off,none⟩))
    (hi:bs[i]?=some (some bl,.cells cs.toArray e fz)) (hv:(cs.drop off).take n=vs) (hn:vs.length=n) (k:V (.agg vs.toArray) w):BJ P r ρ w ⟨d,.load t x,ty,pos,aft,g⟩ V:=
  Bj (by simp) (by
    simp only [execOp,hx,Instr.loadAt,Instr.sureAddr,Sem.run_bind,Sem.run_pure,Result.andThen_ok,Kz (p:=⟨bl,off,none⟩) T rfl (hs.get hi) (by simpa using hv) hn]) k
theorem AR {α:Type} {O:List Nat} {q:Rp α} {a:α} (T:Ty P t td 1 b z false) {p:Addr} (hx:ev ρ x=.pointer (some p)) (h:Ia q w O p a) (hq:q.n=1)
    (k:∀v,q.rd w O [v] a→V v w):BJ P r ρ w ⟨d,.load t x,ty,pos,aft,g⟩ V:=by
  obtain⟨h1,h2,cs,e,fz,h3,h4,h5⟩:=h
  rw [hq] at h5
  have hl:p.off<cs.size:=by omega
  have hc:w.cell? p=some cs[p.off]:=by
    cases p
    simp only at h1
    subst h1
    exact(JU h3).trans (by simp [hl])
  have h6:(cs.toList.drop p.off).take 1=[cs[p.off]]:=by
    rw [List.drop_eq_getElem_cons (by simpa using hl)]
    simp
  rw [h6] at h5
  exact Bj (by simp) (by simp only [execOp,hx,Instr.loadAt,Instr.sureAddr,Sem.run_bind,Sem.run_pure,Result.andThen_ok,K3 T hc]) (k _ h5)
theorem BE {α:Type} {O:List Nat} {q:Rp α} {a:α} (T:Ty P t td n b z true) {p:Addr} (hx:ev ρ x=.pointer (some p)) (h:Ia q w O p a) (hq:q.n=n)
    (k:∀vs,q.rd w O vs a→V (.agg vs.toArray) w):BJ P r ρ w ⟨d,.load t x,ty,pos,aft,g⟩ V:=by
  obtain⟨h1,h2,cs,e,fz,h3,h4,h5⟩:=h
  exact Bj (by simp) (by simp only [execOp,hx,Instr.loadAt,Instr.sureAddr,Sem.run_bind,Sem.run_pure,Result.andThen_ok,Kz T h1 h3 rfl (by rw [← hq];exact q.len h5),← hq]) (k _ h5)

/-! addresses -/
theorem B5 {fs:Array Field} {f fn fb:Nat} {fl:Field} {fd:TypeDesc} {fz:List Value} {fa:Bool} {p p':Addr} (T:Ty P t (.struct fs) n b z ag) (hf:fs[f]?=some fl) (F:Ty P fl.type fd fn fb fz fa) (hn:fn≠0)
    (hx:ev ρ x=.pointer (some p)) (hp:p.add fl.offset=p') (k:V (.pointer (some p')) w):BJ P r ρ w ⟨d,.fieldAddr t x f,ty,pos,aft,g⟩ V:=
  Bj (by simp) (by simp [execOp,hx,Instr.fieldAt,T.runU,hf,Instr.sureAddr,fieldPlace,F.runSize,hn,hp]) k
theorem AB {α:Type} {O:List Nat} [Inhabited α] {q:Rp α} {xs:List α} {e:TypeId} {dt:TypeDesc} {a:Option Addr} {c:Nat} {m:Int} {kd:IntKind} {bt:Nat} {tz:List Value} {ta:Bool} (T:Ty P t (.slice e) 1 bt tz ta) (E:Ty P e dt n b z ag)
    (hx:ev ρ x=.slice a xs.length c) (hy:ev ρ y=.int kd m) (h:CA q w O a c xs) (hq:q.n=n) (h0:0≤m) (hm:m<xs.length)
    (k:∀p,Ia q w O p (xs.getD m.toNat default)→V (.pointer (some p)) w):BJ P r ρ w ⟨d,.indexAddr t x y,ty,pos,aft,g⟩ V:=by
  obtain⟨ad,rfl,hp⟩:=h.at (i:=m.toNat) (by omega)
  refine Bj (v:=.pointer (some (ad.add (m.toNat*n)))) (by simp) ?_ (k _ ?_)
  · simp only [execOp, hx, hy, Instr.indexAt, asIntOf, Sem.run_bind, Sem.run_pure, Result.andThen_ok, T.runU, Bool.and_false, Bool.false_eq_true]
    simp [h0,hm,E.runSize]
  · rw [← hq]
    have:xs.getD m.toNat default=xs[m.toNat]'(by omega):=by simp [List.getD_eq_getElem?_getD,List.getElem?_eq_getElem (show m.toNat<xs.length by omega)]
    rw [this];exact hp
theorem Hc {e:TypeId} {dt:TypeDesc} {bl o l c:Nat} {m:Int} {kd:IntKind} {bt:Nat} {tz:List Value} {ta:Bool} (T:Ty P t (.slice e) 1 bt tz ta) (E:Ty P e dt n b z ag)
    (hx:ev ρ x=.slice (some ⟨bl,o,none⟩) l c) (hy:ev ρ y=.int kd m) (h0:0≤m) (hm:m<l)
    (k:V (.pointer (some ⟨bl,o+m.toNat*n,none⟩)) w):BJ P r ρ w ⟨d,.indexAddr t x y,ty,pos,aft,g⟩ V:=by
  refine Bj (v:=.pointer (some ⟨bl,o+m.toNat*n,none⟩)) (by simp) ?_ k
  simp only [execOp,hx,hy,Instr.indexAt,asIntOf,Sem.run_bind,Sem.run_pure,Result.andThen_ok,T.runU,Bool.and_false,Bool.false_eq_true]
  simp [h0,hm,E.runSize,Addr.add_lit]
theorem On {e len:Nat} {dt:TypeDesc} {p:Addr} {m:Int} {kd:IntKind} {bt tn:Nat} {tz:List Value} {ta:Bool} (T:Ty P t (.array len e) tn bt tz ta) (E:Ty P e dt n b z ag)
    (hx:ev ρ x=.pointer (some p)) (hy:ev ρ y=.int kd m) (h0:0≤m) (hm:m<len)
    (k:V (.pointer (some (p.add (m.toNat*n)))) w):BJ P r ρ w ⟨d,.indexAddr t x y,ty,pos,aft,g⟩ V:=by
  refine Bj (v:=.pointer (some (p.add (m.toNat*n)))) (by simp) ?_ k
  simp [execOp,hx,hy,Instr.indexAt,asIntOf,T.runU,Instr.sureAddr,h0,hm,E.runSize]

/-! lengths -/
theorem AZ {e:TypeId} {a:Option Addr} {l c:Nat} {u:TypeId} (hu:P.underlying u=some (.slice e)) (hx:ev ρ x=.slice a l c) (k:V (.int .i64 l) w):
    BJ P r ρ w ⟨d,.call ⟨.builtin .len,#[x],#[u]⟩,ty,pos,aft,g⟩ V:=
  Bj (by simp) (by simp [execOp,resolve,invoke,builtin,Builtin.len_,hx,run_underlying hu,goInt]) k

theorem Gi {f:FuncId} {args:Array Operand} {us:Array TypeId} {vs:List Value} {R:Value→World→Prop} (hc:∀(args:Array Value) (w:World),(callFunc f args).run P w=.ok (.enter f args) w)
    (h:Fn P f vs w R) (ha:args.toList.map (ev ρ)=vs) (k:∀v w',R v w'→V v w'):BJ P r ρ w ⟨d,.call ⟨.value (.func f),args,us⟩,ty,pos,aft,g⟩ V:=by
  refine N4 (f:=f) (args:=vs) (w':=w) (by simp) ?_ h k
  have:args.map (ev ρ)=vs.toArray:=by rw [← ha,← Array.toList_map]
  simp [execOp,resolve,Deferred.ofValue,ev,invoke,hc,this]
end
end Go.Fx
set_option linter.unusedSimpArgs false
set_option linter.unusedVariables false
namespace Go.Fx
open Go Go.RowKit

def HY (cs:List Value) (o:Nat) (vs:List Value):List Value:=cs.take o++vs++cs.drop (o+vs.length)
theorem Jm {cs:List Value} {o:Nat} {vs:List Value} (h:o+vs.length≤cs.length):(HY cs o vs).length=cs.length:=by
  simp [HY];omega
section
variable {P : Program} {r : Option Nat} {ρ : EH} {w : World} {d : Option Nat} {ty : TypeId} {pos : String} {aft : Array Edge} {g : Option (Nat × Bool)} {V : Value → World → Prop}
variable {w0 : Zx} {O0 : List Nat} {bs bs' : Be}
variable {x y : Operand} {t : TypeId} {td : TypeDesc} {n b : Nat} {z : List Value} {ag : Bool}

theorem My {bl:Nat} {cs:Array Value} {e:TypeId} {fz:Nat × Nat} (h:w.heap[bl]?=some (.cells cs e fz)) (cs':Array Value):(w.setRow bl cs').heap[bl]?=some (.cells cs' e fz):=setRow_heap w bl cs cs' e fz h
theorem K4 {bl:Nat} {cs':Array Value} :(w.setRow bl cs').heap.size=w.heap.size:=by simp [World.setRow]

theorem St.setRow (hs:St w0 O0 w bs) {i bl:Nat} {cs:Array Value} {e:TypeId} {fz:Nat × Nat} (hi:bs[i]?=some (some bl,.cells cs e fz)) (cs':Array Value):
    St w0 O0 (w.setRow bl cs') (bs.set i (some bl,.cells cs' e fz))∧AA (ks bs O0) w (ks (bs.set i (some bl,.cells cs' e fz)) O0) (w.setRow bl cs'):=by
  have hg:=hs.get hi
  have ho:∀j,j<w.heap.size→some bl≠some j→(w.setRow bl cs').heap[j]?=w.heap[j]?:=fun j _ hj=>setRow_other w bl j cs' (fun e=>hj (by rw [e]))
  have hb:=(hs.own _ (List.mem_of_getElem? hi) bl rfl).1
  refine⟨hs.put hi ⟨hs.below.os,hs.below.tape,hs.below.output,by rw [K4];exact hs.below.size,fun k hk hn=>?_,hs.below.drawn⟩ (by rw [K4];exact Nat.le_refl _) (fun j hj=>?_) ho,AA.put hi (by rw [K4];exact Nat.le_refl _) (fun j hj=>.inl hj) ho⟩
  · rw [setRow_other w bl k cs' (by rintro rfl;rcases hb with h |h<;> first |exact hn h |omega)];exact hs.below.block k hk hn
  · cases hj;exact⟨.inl rfl,My hg cs'⟩

theorem Nq {bl o:Nat} {cs vs:List Value} {e:TypeId} (hg:w.heap[bl]?=some (.cells cs.toArray e (0,0))) (hl:o+vs.length≤cs.length) (h1:vs.all (·.oneCell')=true):
    (storeCells ⟨bl,o,none⟩ vs).run P w=.ok () (w.setRow bl (HY cs o vs).toArray):=by
  have:=run_storeCells_at P bl o e vs 0 cs.toArray w hg (by simpa using hl) (by simpa using h1)
  simpa [HY] using this

theorem HJ (T:Ty P t td n b z ag) {bl off i:Nat} {cs vs:List Value} {e:TypeId} {v:Value} (hs:St w0 O0 w bs) (hx:ev ρ x=.pointer (some ⟨bl,off,none⟩)) (hy:ev ρ y=v)
    (hi:bs[i]?=some (some bl,.cells cs.toArray e (0,0))) (hv:v.cells=vs.toArray) (hn:vs.length=n) (hl:off+n≤cs.length) (h1:vs.all (·.oneCell')=true) {cs':List Value} (hc:HY cs off vs=cs')
    (hb:bs.set i (some bl,.cells cs'.toArray e (0,0))=bs')
    (k:∀w',AA (ks bs O0) w (ks bs' O0) w'→St w0 O0 w' bs'→V undef w'):BJ P r ρ w ⟨d,.store t x y,ty,pos,aft,g⟩ V:=by
  obtain⟨h2,h3⟩:=hs.setRow hi cs'.toArray
  subst hc hb
  have h4:off+vs.length≤cs.length:=by omega
  refine Mw (by simp) ?_ (k _ h3 h2)
  simp only [execOp,hx,hy,Instr.storeAt,Instr.sureAddr,storeVar,Sem.run_bind,Sem.run_pure,Result.andThen_ok,T.runSize,hv,List.size_toArray,hn,ne_eq,not_true_eq_false,if_false,Nq (hs.get hi) h4 h1]

/-! slices of slices -/
def PW (ρ:EH) (o:Option Operand) (dflt m:Nat):Prop:=match o with
  |none=>m=dflt
  |some x=>∃q,ev ρ x=.int q (m:Int)

theorem CA.sub {α:Type} {q:Rp α} {O:List Nat} {a:Option Addr} {c:Nat} {xs:List α} (h:CA q w O a c xs) {l hi mx:Nat} (h1:l≤hi) (h2:hi≤xs.length) (h3:hi≤mx) (h4:mx≤c):
    CA q w O (if mx=l then a else a.map (·.add (l*q.n))) (mx - l) ((xs.drop l).take (hi - l)):=by
  have hle:=h.le
  have hcap:=h.cap
  refine⟨by simp;omega,by omega,fun hn=>?_,fun ad ha i hi'=>?_⟩
  · have:a=Option.none:=by
      split at hn
      · exact hn
      · simpa using hn
    have:=h.nil this
    simp [this.1];omega
  · simp only [List.length_take, List.length_drop] at hi'
    split at ha
    · omega
    · cases a with
      |none=>simp at ha
      |some ad0=>
        simp only [Option.map_some,Option.some.injEq] at ha
        subst ha
        have:=h.el ad0 rfl (l+i) (by omega)
        rw [Addr.add_add,← Nat.add_mul]
        simpa using this


theorem EZ {q:IntKind} {m y:Nat} {code:BoundsCode} (h:m≤y):(Instr.sliceBound (.int q (m:Int)) y code).run P w=.ok m w:=by
  have h1:(0:Int)≤m∧(m:Int)≤y:=by omega
  simp [Instr.sliceBound,asIntOf,h1]
theorem I6 {is:Bool} {len cap l h m:Nat} {lo hi mx:Option Operand} (hl:PW ρ lo 0 l) (hh:PW ρ hi len h) (hm:PW ρ mx cap m) (h1:l≤h) (h3:h≤m) (h4:m≤cap) (hmh:mx.isSome=true→hi.isSome=true):
    (Instr.sliceBounds is len cap (lo.map (ev ρ)) (hi.map (ev ρ)) (mx.map (ev ρ))).run P w=.ok (l,h,m) w:=by
  cases mx with
  |none=>
    simp only [PW] at hm;subst hm
    cases hi with
    |none=>
      simp only [PW] at hh;subst hh
      cases lo with
      |none=>simp only [PW] at hl;subst hl;simp [Instr.sliceBounds]
      |some lo=>obtain⟨q,e⟩:=hl;simp [Instr.sliceBounds,e,EZ h1]
    |some hi=>
      obtain⟨q',e'⟩:=hh
      cases lo with
      |none=>simp only [PW] at hl;subst hl;simp [Instr.sliceBounds,e',EZ h3]
      |some lo=>obtain⟨q,e⟩:=hl;simp [Instr.sliceBounds,e,e',EZ h1,EZ h3]
  |some mx=>
    obtain⟨q3,e3⟩:=hm
    cases hi with
    |none=>simp at hmh
    |some hi=>
      obtain⟨q',e'⟩:=hh
      cases lo with
      |none=>simp only [PW] at hl;subst hl;simp [Instr.sliceBounds,e',e3,EZ h3,EZ h4]
      |some lo=>obtain⟨q,e⟩:=hl;simp [Instr.sliceBounds,e,e',e3,EZ h1,EZ h3,EZ h4]

theorem IT {α:Type} {O:List Nat} {q:Rp α} {xs:List α} {a:Option Addr} {c l h m bt:Nat} {tz:List Value} {ta:Bool} {e:TypeId} {lo hi mx:Option Operand} (T:Ty P t (.slice e) 1 bt tz ta) (E:Ty P e td n b z ag)
    (hx:ev ρ x=.slice a xs.length c) (hsl:CA q w O a c xs) (hq:q.n=n) (hl:PW ρ lo 0 l) (hh:PW ρ hi xs.length h) (hm:PW ρ mx c m) (hmh:mx.isSome=true→hi.isSome=true)
    (h1:l≤h) (h2:h≤xs.length) (h3:h≤m) (h4:m≤c)
    (k:∀a',CA q w O a' (m - l) ((xs.drop l).take (h - l))→V (.slice a' ((xs.drop l).take (h - l)).length (m - l)) w):BJ P r ρ w ⟨d,.slice t x lo hi mx,ty,pos,aft,g⟩ V:=by
  have hlen:((xs.drop l).take (h - l)).length=h - l:=by simp;omega
  have hk:=k _ (hsl.sub h1 h2 h3 h4)
  rw [hlen] at hk
  refine Bj (by simp) ?_ hk
  simp only [execOp,hx,Instr.sliceAt,Sem.run_bind,T.runU,Result.andThen_ok,Instr.slice,I6 hl hh hm h1 h3 h4 hmh,E.runSize,Sem.run_pure,hq]
theorem OA {bl o len c l h m bt:Nat} {tz:List Value} {ta:Bool} {e:TypeId} {lo hi mx:Option Operand} (T:Ty P t (.slice e) 1 bt tz ta) (E:Ty P e td n b z ag)
    (hx:ev ρ x=.slice (some ⟨bl,o,none⟩) len c) (hl:PW ρ lo 0 l) (hh:PW ρ hi len h) (hm:PW ρ mx c m) (hmh:mx.isSome=true→hi.isSome=true)
    (h1:l≤h) (h3:h≤m) (h4:m≤c)
    (k:V (.slice (some ⟨bl,if m=l then o else o+l*n,none⟩) (h - l) (m - l)) w):BJ P r ρ w ⟨d,.slice t x lo hi mx,ty,pos,aft,g⟩ V:=by
  refine Bj (by simp) ?_ k
  simp only [execOp,hx,Instr.sliceAt,Sem.run_bind,T.runU,Result.andThen_ok,Instr.slice,I6 hl hh hm h1 h3 h4 hmh,E.runSize,Sem.run_pure]
  split<;> simp [Addr.add_lit]
theorem SD {bl o len l h m bt tn:Nat} {tz:List Value} {ta:Bool} {e:TypeId} {lo hi mx:Option Operand} (T:Ty P t (.array len e) tn bt tz ta) (E:Ty P e td n b z ag)
    (hx:ev ρ x=.pointer (some ⟨bl,o,none⟩)) (hl:PW ρ lo 0 l) (hh:PW ρ hi len h) (hm:PW ρ mx len m) (hmh:mx.isSome=true→hi.isSome=true)
    (h1:l≤h) (h3:h≤m) (h4:m≤len)
    (k:V (.slice (some ⟨bl,if m=l then o else o+l*n,none⟩) (h - l) (m - l)) w):BJ P r ρ w ⟨d,.slice t x lo hi mx,ty,pos,aft,g⟩ V:=by
  refine Bj (by simp) ?_ k
  simp only [execOp,hx,Instr.sliceAt,Sem.run_bind,T.runU,Result.andThen_ok,Instr.sureAddr,I6 hl hh hm h1 h3 h4 hmh,E.runSize,Sem.run_pure]
  split<;> simp [Addr.add_lit]

/-! building -/
def I7:Value→List Value
  |.agg cs=>cs.toList
  |v=>[v]
theorem OB (v:Value):v.cells=(I7 v).toArray:=by cases v<;> simp [I7,Value.cells]
def OC (place:Nat→Option (Nat × Nat)):List Value→List (Nat × Value)→Option (List Value)
  |cells,[] =>some cells
  |cells,(i,v)::rest=>match place i with
    |none=>none
    |some (off,size)=>bif (I7 v).length == size&&Nat.ble (off+(I7 v).length) cells.length then OC place (HY cells off (I7 v)) rest else none
theorem Hl {cs:List Value} {o:Nat} {vs:List Value} (h:o+vs.length≤cs.length) (j:Nat):(HY cs o vs)[j]?=if o≤j∧j<o+vs.length then vs[j - o]? else cs[j]?:=by
  unfold HY
  rw [List.append_assoc,List.getElem?_append,List.length_take,Nat.min_eq_left (by omega)]
  split
  · rename_i hj;rw [if_neg (by omega),List.getElem?_take,if_pos hj]
  · rename_i hj
    rw [List.getElem?_append]
    split
    · rename_i h2;rw [if_pos (by omega)]
    · rename_i h2
      rw [if_neg (by omega),List.getElem?_drop]
      congr 1;omega
theorem RT:∀(vs:List Value) (cs:Array Value) (off k:Nat),off+k+vs.length≤cs.size→
    ((vs.zipIdx k).foldl (fun(cs:Array Value) p=>cs.setIfInBounds (off+p.2) p.1) cs).size=cs.size∧
    ∀j:Nat,((vs.zipIdx k).foldl (fun(cs:Array Value) p=>cs.setIfInBounds (off+p.2) p.1) cs)[j]?=if off+k≤j∧j<off+k+vs.length then vs[j - (off+k)]? else cs[j]?
  |[],cs,off,k,_=>⟨rfl,fun j=>by rw [if_neg (by simp only [List.length_nil];omega)];rfl⟩
  |v::vs,cs,off,k,h=>by
    simp only [List.length_cons] at h
    obtain⟨h1,h2⟩:=RT vs (cs.setIfInBounds (off+k) v) off (k+1) (by simp;omega)
    rw [List.zipIdx_cons,List.foldl_cons]
    refine⟨by rw [h1];simp,fun j=>?_⟩
    rw [h2 j]
    simp only [List.length_cons,Array.getElem?_setIfInBounds]
    by_cases c1:off+(k+1)≤j∧j<off+(k+1)+vs.length
    · rw [if_pos c1, if_pos (by omega)]
      obtain⟨m,hm⟩:∃m,j - (off+k)=m+1:=⟨j - (off+k) - 1,by omega⟩
      rw [hm,List.getElem?_cons_succ]
      congr 1;omega
    · rw [if_neg c1]
      by_cases c2:off+k=j
      · subst c2
        rw [if_pos rfl,if_pos (by omega),if_pos (by omega)]
        simp
      · rw [if_neg c2,if_neg (by omega)]
theorem Po (place:Nat→Option (Nat × Nat)):∀(parts:List (Nat × Value)) (cells out:List Value),OC place cells parts=some out→Instr.fill place cells.toArray parts=some out.toArray
  |[],cells,out,h=>by simp only [OC,Option.some.injEq] at h;subst h;rfl
  |(i,v)::rest,cells,out,h=>by
    simp only [OC] at h
    simp only [Instr.fill]
    cases hp:place i with
    |none=>rw [hp] at h;cases h
    |some q=>
      obtain⟨off,size⟩:=q
      rw [hp] at h
      simp only at h
      cases hc:((I7 v).length == size&&Nat.ble (off+(I7 v).length) cells.length) with
      |false=>rw [hc] at h;cases h
      |true=>
        rw [hc] at h
        simp only [cond_true] at h
        simp only [Bool.and_eq_true,beq_iff_eq] at hc
        obtain⟨c1,c2⟩:=hc
        have c2':=Nat.le_of_ble_eq_true c2
        have hsz:v.cells.size=(I7 v).length:=by rw [OB];simp
        simp only [hsz,List.size_toArray]
        rw [if_neg (by simp only [Bool.or_eq_true,decide_eq_true_eq,ne_eq];omega)]
        have e:(v.cells.zipIdx.foldl (fun cs (x:Value × Nat)=>cs.setIfInBounds (off+x.2) x.1) cells.toArray)=(HY cells off (I7 v)).toArray:=by
          obtain⟨s1,s2⟩:=RT (I7 v) cells.toArray off 0 (by simpa using c2')
          rw [OB]
          have e0:((I7 v).toArray.zipIdx.foldl (fun cs (x:Value × Nat)=>cs.setIfInBounds (off+x.2) x.1) cells.toArray)=(((I7 v).zipIdx 0).foldl (fun(cs:Array Value) p=>cs.setIfInBounds (off+p.2) p.1) cells.toArray):=by
            simp
          rw [e0]
          apply Array.ext_getElem?
          intro j
          rw [s2 j]
          simp only [List.getElem?_toArray,Nat.add_zero]
          rw [Hl c2']
        have:=Po place rest _ out h
        rw [← e] at this
        exact this
def Vi (z:List Value):Nat→List Value
  |0=>[]
  |k+1=>z++Vi z k
theorem N5 (z:List Value):∀k,(Vi z k).length=k*z.length
  |0=>by simp [Vi]
  |k+1=>by simp [Vi,N5 z k,Nat.add_mul];omega
theorem RU (z:List Value):∀k i,i<k*z.length→(Vi z k)[i]?=z[i % z.length]?
  |0,i,h=>by omega
  |k+1,i,h=>by
    have hz:0<z.length:=by
      rcases Nat.eq_zero_or_pos z.length with e |e
      · rw [e] at h;omega
      · exact e
    simp only [Vi,List.getElem?_append]
    split
    · rename_i hi;rw [Nat.mod_eq_of_lt hi]
    · rename_i hi
      rw [Nat.add_mul,Nat.one_mul] at h
      rw [RU z k _ (by omega)]
      congr 1
      exact(Nat.mod_eq_sub_mod (by omega)).symm
theorem VQ (z:List Value) (k n:Nat) (hn:z.length=n):(Array.range (k*n)).map (z.toArray[· % z.toArray.size]!)=(Vi z k).toArray:=by
  subst hn
  apply Array.ext_getElem?
  intro i
  simp only [Array.getElem?_map,List.getElem?_toArray]
  rcases Nat.lt_or_ge i (k*z.length) with h |h
  · rw [RU z k i h, Array.getElem?_range, if_pos h]
    have hz:0<z.length:=by
      rcases Nat.eq_zero_or_pos z.length with e |e
      · rw [e] at h;omega
      · exact e
    have:=Nat.mod_lt i hz
    simp [List.getElem?_eq_getElem this]
  · rw [List.getElem?_eq_none (by rw [N5]; exact h)]
    simp;omega
def JV (P:Program) (fs:Array Field) (pl:List (Nat × Nat)):Prop:=∀w,(fs.mapM fun(f:Field)=>(do pure (f.offset,← Go.sizeOf f.type):Sem (Nat × Nat))).run P w=.ok pl.toArray w
theorem DM {fs:Array Field} {parts:List (Nat × Operand)} {vs:List Value} {pl:List (Nat × Nat)} (T:Ty P t (.struct fs) n b z ag)
    (hpl:JV P fs pl)
    (hf':OC (pl[·]?) z (parts.map fun p=>(p.1,ev ρ p.2))=some vs) (k:V (.agg vs.toArray) w):
    BJ P r ρ w ⟨d,.build t parts.toArray,ty,pos,aft,g⟩ V:=by
  obtain⟨zv,h1,h2⟩:=T.runZero w
  have hf:Instr.fill (pl.toArray[·]?) z.toArray (parts.toArray.map fun(i,x)=>(i,ev ρ x)).toList=some vs.toArray:=by
    have:=Po _ _ _ _ hf'
    simpa using this
  refine Bj (by simp) ?_ k
  simp only [execOp,Instr.build,Sem.run_bind,h1,Result.andThen_ok,h2,T.runU]
  have h3:=hpl w
  rw [h3]
  simp only [Result.andThen_ok]
  rw [hf]
  simp only [Sem.run_pure,Result.andThen_ok]
theorem Bm {e:TypeId} {len bt:Nat} {tz:List Value} {ta:Bool} {parts:List (Nat × Operand)} {cs:List Value} (T:Ty P t (.slice e) 1 bt tz ta) (E:Ty P e td n b z ag) (hs:St w0 O0 w bs)
    (hl:decide (len*n≤16777216)=true)
    (hf':OC (fun i=>some (i*n,n)) (Vi z len) (parts.map fun p=>(p.1,ev ρ p.2))=some cs)
    (k:∀bl w',GU w w'→AA (ks bs O0) w (ks ((some bl,.cells cs.toArray e)::bs) O0) w'→St w0 O0 w' ((some bl,.cells cs.toArray e)::bs)→V (.slice (some ⟨bl,0,none⟩) len len) w'):
    BJ P r ρ w ⟨d,.buildSlice t len parts.toArray,ty,pos,aft,g⟩ V:=by
  have hf:Instr.fill (fun i=>some (i*n,n)) ((Array.range (len*n)).map (z.toArray[· % z.toArray.size]!)) (parts.toArray.map fun(i,x)=>(i,ev ρ x)).toList=some cs.toArray:=by
    rw [VQ z len n E.zl]
    have:=Po _ _ _ _ hf'
    simpa using this
  have hl': ¬len*n > 2 ^ 24:=by simp at hl;omega
  obtain⟨zv,h1,h2⟩:=E.runZero w
  refine Bj (v:=.slice (some ⟨w.heap.size,0,none⟩) len len) (w':=w.alloc (.cells cs.toArray e)) (by simp) ?_ (k _ _ (GU.alloc w _) (AA.alloc w O0 bs _) (hs.alloc _))
  simp only [execOp,Instr.buildSlice,Sem.run_bind,T.runU,Result.andThen_ok,E.runSize,hl',if_false]
  by_cases h0:len*n=0
  · rw [if_pos h0]
    have e1:((Array.range (len*n)).map ((#[]:Array Value)[· % (#[]:Array Value).size]!))=((Array.range (len*n)).map (z.toArray[· % z.toArray.size]!)):=by rw [h0];simp
    simp only [Sem.run_bind,Sem.run_pure,Result.andThen_ok]
    rw [e1,hf]
    simp only [Sem.run_bind,JT,Result.andThen_ok,Sem.run_pure]
  · rw [if_neg h0]
    simp only [Sem.run_bind,h1,Result.andThen_ok,Sem.run_pure,h2]
    rw [hf]
    simp only [Result.andThen_ok,Sem.run_bind,JT,Sem.run_pure]

theorem Oo (v:Value) (k:Nat):madeCells #[v] k=(List.replicate k v).toArray:=by
  apply Array.ext
  · simp [madeCells]
  · intro i h1 h2
    simp [madeCells,Nat.mod_one]
theorem Pp {e:TypeId} {bt l c:Nat} {tz:List Value} {ta:Bool} {v:Value} {kl kc:IntKind} (T:Ty P t (.slice e) 1 bt tz ta) (E:Ty P e td 1 b [v] ag) (hs:St w0 O0 w bs)
    (hx:ev ρ x=.int kl (l:Int)) (hy:ev ρ y=.int kc (c:Int)) (hlc:l≤c) (hb:b*c≤281474976710656) (hc:c≤maxLen)
    (k:∀bl w',GU w w'→AA (ks bs O0) w (ks ((some bl,.cells (List.replicate c v).toArray e)::bs) O0) w'→St w0 O0 w' ((some bl,.cells (List.replicate c v).toArray e)::bs)→V (.slice (some ⟨bl,0,none⟩) l c) w'):
    BJ P r ρ w ⟨d,.makeSlice t x y,ty,pos,aft,g⟩ V:=by
  obtain⟨i,h1,h2,h3,zv,h4,h5⟩:=E.info
  refine Bj (v:=.slice (some ⟨w.heap.size,0,none⟩) l c) (w':=w.alloc (.cells (List.replicate c v).toArray e)) (by simp) ?_ (k _ _ (GU.alloc w _) (AA.alloc w O0 bs _) (hs.alloc _))
  have:=run_make (P:=P) w t e i zv T.und h1 h4 kl kc l c (Int.natCast_nonneg l) (Int.ofNat_le.2 hlc) (by rw [h3,← Int.natCast_mul];exact Int.ofNat_le.2 hb) (by unfold maxLen at hc;omega)
  simp only [Int.toNat_natCast,h2,h5,Nat.mul_one] at this
  simp only [execOp,hx,hy,Sem.run_bind,this,Result.andThen_ok,Sem.run_pure,← Oo]

/-! append and copy -/
def Oj (w:World) (a:Option Addr) (news:List Value):Prop:=news=[]∨∃ad,a=some ad∧∀j u,news[j]?=some u→w.cell? (ad.add j)=some u
theorem Oj.owned {w:World} {bl o len:Nat} {cs:List Value} {e:TypeId} {fz:Nat × Nat} (h:w.heap[bl]?=some (.cells cs.toArray e fz)):Oj w (some ⟨bl,o,none⟩) ((cs.drop o).take len):=
  .inr ⟨_,rfl,fun j u hj=>by
    rw [Addr.add_lit,JU h]
    rw [List.getElem?_take,List.getElem?_drop] at hj
    split at hj
    · simpa using hj
    · cases hj⟩
theorem CA.src {α:Type} {q:Rp α} {O:List Nat} {a:Option Addr} {c:Nat} {xs:List α} (h:CA q w O a c xs):∃news,E0 q w O news xs∧Oj w a news:=by
  cases a with
  |none=>
    have:=(h.nil rfl).1
    subst this
    exact⟨[],rfl,.inl rfl⟩
  |some ad=>
    obtain⟨cs,h1,h2⟩:=h.cells
    exact⟨cs,h1,.inr ⟨ad,rfl,h2⟩⟩

def Gs {α:Type} (q:Rp α) (e:TypeId) (w:World) (O:List Nat) (a:Option Addr) (c:Nat) (xs:List α) (kk:Option Nat) (o:Obj):Prop:=
  (a=none∧c=0∧xs=[]∧kk=none)∨
  ∃bl cur,a=some ⟨bl,0,none⟩∧kk=some bl∧o=.cells cur e (0,0)∧cur.size=c*q.n∧xs.length≤c∧c≤maxLen∧E0 q w O (cur.toList.take (xs.length*q.n)) xs
theorem Gs.step {α:Type} {q:Rp α} {e:TypeId} {w':World} {O O':List Nat} {a:Option Addr} {c:Nat} {xs:List α} {kk:Option Nat} {o:Obj} (s:AA O w O' w') (h:Gs q e w O a c xs kk o):Gs q e w' O' a c xs kk o:=by
  rcases h with h |⟨bl,cur,h1,h2,h3,h4,h5,h6,h7⟩
  · exact .inl h
  · exact .inr ⟨bl,cur,h1,h2,h3,h4,h5,h6,h7.step s⟩
theorem Gs.nil_ {α:Type} {q:Rp α} {e:TypeId} {O:List Nat} {o:Obj} :Gs q e w O none 0 ([]:List α) none o:=.inl ⟨rfl,rfl,rfl,rfl⟩
theorem Gs.made {α:Type} {q:Rp α} {e:TypeId} {O:List Nat} {bl c:Nat} {cur:Array Value} {xs:List α} (h1:cur.size=c*q.n) (h2:xs.length≤c) (h3:c≤maxLen) (h4:E0 q w O (cur.toList.take (xs.length*q.n)) xs):
    Gs q e w O (some ⟨bl,0,none⟩) c xs (some bl) (.cells cur e):=.inr ⟨bl,cur,rfl,rfl,rfl,h1,h2,h3,h4⟩
theorem Gs.le {α:Type} {q:Rp α} {e:TypeId} {O:List Nat} {a:Option Addr} {c:Nat} {xs:List α} {kk:Option Nat} {o:Obj} (h:Gs q e w O a c xs kk o):xs.length≤c∧c≤maxLen:=by
  rcases h with ⟨_,rfl,rfl,_⟩ |⟨_,_,_,_,_,_,h5,h6,_⟩
  · exact⟨Nat.le_refl _,Nat.zero_le _⟩
  · exact⟨h5,h6⟩

theorem JW (hs:St w0 O0 w bs) {i bl:Nat} {o:Obj} (hi:bs[i]?=some (some bl,o)):bl ∉ ks (bs.eraseIdx i) O0:=by
  intro hm
  have hb:=(hs.own _ (List.mem_of_getElem? hi) bl rfl).1
  rcases List.mem_append.1 hm with hm |hm
  · have key:∀(bs:Be) (i:Nat),(bs.filterMap Prod.fst).Nodup→bs[i]?=some (some bl,o)→bl ∉ (bs.eraseIdx i).filterMap Prod.fst:=by
      intro bs
      induction bs with
      |nil=>intro i _ hi;simp at hi
      |cons x bs ih=>
        intro i hnd hi
        have hnd':(bs.filterMap Prod.fst).Nodup:=(List.Sublist.filterMap _ (List.sublist_cons_self x bs)).nodup hnd
        cases i with
        |zero=>
          simp only [List.getElem?_cons_zero,Option.some.injEq] at hi
          subst hi
          rw [List.filterMap_cons_some (show Prod.fst ((some bl,o):Option Nat × Obj)=some bl from rfl),List.nodup_cons] at hnd
          exact hnd.1
        |succ i=>
          have hi':bs[i]?=some (some bl,o):=by simpa using hi
          have:=ih i hnd' hi'
          simp only [List.eraseIdx_cons_succ]
          cases hx:x.1 with
          |none=>rw [List.filterMap_cons_none hx];exact this
          |some c=>
            rw [List.filterMap_cons_some hx,List.mem_cons]
            rw [List.filterMap_cons_some hx,List.nodup_cons] at hnd
            rintro(e |e)
            · subst e;exact hnd.1 (B2.2 ⟨_,List.mem_of_getElem? hi',rfl⟩)
            · exact this e
    exact key bs i hs.nd hi hm
  · exact(hs.dj _ hm).2 (B2.2 ⟨_,List.mem_of_getElem? hi,rfl⟩)

theorem St.publish {α:Type} {q:Rp α} (hs:St w0 O0 w bs) {i bl o c:Nat} {cs:List Value} {e:TypeId} {fz:Nat × Nat} {xs:List α} (hi:bs[i]?=some (some bl,.cells cs.toArray e fz))
    (hE:E0 q w (ks bs O0) ((cs.drop o).take (xs.length*q.n)) xs) (h0:o+xs.length*q.n≤cs.length) (h1:xs.length≤c) (h2:c≤maxLen):
    St w0 O0 w (bs.eraseIdx i)∧AA (ks bs O0) w (ks (bs.eraseIdx i) O0) w∧CA q w (ks (bs.eraseIdx i) O0) (some ⟨bl,o,none⟩) c xs:=by
  have hst:=AA.drop w O0 bs i
  refine⟨hs.drop i,hst,h1,h2,(fun h=>by cases h),fun ad ha j hj=>?_⟩
  cases ha
  rw [Addr.add_lit]
  have hle:(j+1)*q.n≤xs.length*q.n:=Nat.mul_le_mul_right _ hj
  have hj':(j+1)*q.n=j*q.n+q.n:=by rw [Nat.add_mul];omega
  refine⟨rfl,⟨hs.lt (List.mem_of_getElem? hi) rfl,JW hs hi⟩,cs.toArray,e,fz,hs.get hi,by simp only [List.size_toArray];omega,?_⟩
  have:=q.step hst (hE.get j hj)
  rw [List.drop_take,List.take_take,List.drop_drop,Nat.min_eq_left (by omega)] at this
  simpa using this
theorem Gs.publish {α:Type} {q:Rp α} {e:TypeId} {a:Option Addr} {c i:Nat} {xs:List α} {kk:Option Nat} {o:Obj} (hs:St w0 O0 w bs) (hi:bs[i]?=some (kk,o)) (h:Gs q e w (ks bs O0) a c xs kk o):
    St w0 O0 w (bs.eraseIdx i)∧AA (ks bs O0) w (ks (bs.eraseIdx i) O0) w∧CA q w (ks (bs.eraseIdx i) O0) a c xs:=by
  rcases h with ⟨rfl,rfl,rfl,rfl⟩ |⟨bl,cur,rfl,rfl,rfl,h4,h5,h6,h7⟩
  · exact⟨hs.drop i,AA.drop w O0 bs i,CA.nil_⟩
  · have hle : xs.length * q.n ≤ c * q.n := Nat.mul_le_mul_right _ h5
    exact hs.publish (cs:=cur.toList) (o:=0) (by simpa using hi) (by simpa using h7) (by simp;omega) h5 h6
end
end Go.Fx
set_option linter.unusedSimpArgs false
set_option linter.unusedVariables false
namespace Go.Fx
open Go Go.RowKit
section
variable {P : Program} {r : Option Nat} {ρ : EH} {w : World} {d : Option Nat} {ty : TypeId} {pos : String} {aft : Array Edge} {g : Option (Nat × Bool)} {V : Value → World → Prop}
variable {w0 : Zx} {O0 : List Nat} {bs bs' : Be}
variable {x y : Operand} {t : TypeId} {td : TypeDesc} {n b : Nat} {z : List Value} {ag : Bool}

theorem Nr (T:Ty P t (.slice n) 1 b z ag) {td':TypeDesc} {m b':Nat} {z':List Value} {ag':Bool} (E:Ty P n td' m b' z' ag') (ty:TypeId) (a a2:Option Addr) (l c c2:Nat) (h:l≤c):
    (Builtin.append_ #[t,t] ty #[.slice a l c,.slice a2 0 c2]).run P w=.ok (.slice a l c) w:=by
  cases a<;> cases a2<;> simp [Builtin.append_,T.runU,E.runSize,Builtin.lenOf,Builtin.firstCells,loadCells,loadCellsFrom,h,storeCells]

theorem St.extend (hs:St w0 O0 w bs) {i:Nat} {kk:Option Nat} {o:Obj} (hi:bs[i]?=some (kk,o)) (o':Obj):
    St w0 O0 (w.drew.alloc o') (bs.set i (some w.heap.size,o'))∧AA (ks bs O0) w (ks (bs.set i (some w.heap.size,o')) O0) (w.drew.alloc o'):=by
  have ho:∀j,j<w.heap.size→kk≠some j→(w.drew.alloc o').heap[j]?=w.heap[j]?:=fun j hj _=>heap_alloc_old w.drew o' j hj
  refine⟨hs.put hi (hs.below.then ((GU.drew w).trans (GU.alloc w.drew o'))) (by simp) (fun j hj=>?_) ho,AA.put hi (by simp) (fun j hj=>.inr ?_) ho⟩
  · cases hj
    exact⟨.inr (Nat.le_refl _),heap_alloc_new w.drew o'⟩
  · cases hj;exact Nat.le_refl _

theorem FF {α:Type} {q:Rp α} {xs ys:List α} {e:TypeId} {a a2:Option Addr} {c c2 i bt:Nat} {tz:List Value} {ta:Bool} {kk:Option Nat} {o:Obj} {news:List Value}
    (T:Ty P t (.slice e) 1 bt tz ta) (E:Ty P e td n b z ag) (hqn:q.n=n) (h0:0<n) (hs:St w0 O0 w bs) (hi:bs[i]?=some (kk,o))
    (hx:ev ρ x=.slice a xs.length c) (hG:Gs q e w (ks bs O0) a c xs kk o) (hy:ev ρ y=.slice a2 ys.length c2) (hS:Oj w a2 news) (hE:E0 q w (ks bs O0) news ys)
    (hb:(xs.length+ys.length)*b≤140737488355328) (h63:xs.length+ys.length≤maxLen)
    (k:∀a' c' k' o' w',AA (ks bs O0) w (ks (bs.set i (k',o')) O0) w'→St w0 O0 w' (bs.set i (k',o'))→Gs q e w' (ks (bs.set i (k',o')) O0) a' c' (xs++ys) k' o'→V (.slice a' (xs++ys).length c') w'):
    BJ P r ρ w ⟨d,.call ⟨.builtin .append,#[x,y],#[t,t]⟩,ty,pos,aft,g⟩ V:=by
  obtain⟨ti,hi1,hi2,hi3,zv,hi4,hi5⟩:=E.info
  have hlen:=hE.len
  have hone:=hE.one
  have hle:=hG.le
  rw [hqn,← hi2] at hlen
  have h63':xs.length+ys.length≤9223372036854775807:=by simpa [maxLen] using h63
  have hzl:zv.cells.size=n:=by rw [hi5];simpa using E.zl
  -- the run, and what it leaves
  have main:∃a' c' k' o' w',(Builtin.append_ #[t,t] ty #[.slice a xs.length c,.slice a2 ys.length c2]).run P w=.ok (.slice a' (xs++ys).length c') w'∧
      AA (ks bs O0) w (ks (bs.set i (k',o')) O0) w'∧St w0 O0 w' (bs.set i (k',o'))∧Gs q e w' (ks (bs.set i (k',o')) O0) a' c' (xs++ys) k' o':=by
    by_cases hys:ys=[]
    · subst hys
      have hself:bs.set i (kk,o)=bs:=by
        apply List.ext_getElem?
        intro j
        rw [List.getElem?_set]
        split
        · rename_i e; subst e
          split
          · exact hi.symm
          · rename_i hl;rw [List.getElem?_eq_none (by omega)]
        · rfl
      refine⟨a,c,kk,o,w,?_,?_,?_,?_⟩
      · simp only [List.append_nil, List.length_nil]
        exact Nr T E ty a a2 _ c c2 hle.1
      · rw [hself];exact AA.refl _ _
      · rw [hself];exact hs
      · rw [hself,List.append_nil];exact hG
    · have hpos : 0 < ys.length := List.length_pos_iff.2 hys
      have hnn:news≠[]:=fun hn=>by
        rw [hn,List.length_nil] at hlen
        have:0<ys.length*ti.size:=Nat.mul_pos hpos (by omega)
        omega
      obtain⟨ad,ha2,hnews⟩:=hS.resolve_left hnn
      subst ha2
      -- a new block
      have fresh:∀(old:Nat) (olds:List Value),E0 q w (ks bs O0) olds xs→
          let o':=Obj.cells (olds.toArray++news.toArray++Builtin.zeroCells zv.cells (grownCap w (xs.length+ys.length) old e - (xs.length+ys.length))) e
          AA (ks bs O0) w (ks (bs.set i (some w.heap.size,o')) O0) (w.drew.alloc o')∧St w0 O0 (w.drew.alloc o') (bs.set i (some w.heap.size,o'))∧
          Gs q e (w.drew.alloc o') (ks (bs.set i (some w.heap.size,o')) O0) (some ⟨w.heap.size,0,none⟩) (grownCap w (xs.length+ys.length) old e) (xs++ys) (some w.heap.size) o':=by
        intro old olds hol o'
        obtain⟨h1,h2⟩:=hs.extend hi o'
        have hge:=grownCap_ge w (xs.length+ys.length) old e
        have hcm:=grownCap_le_maxLen w (xs.length+ys.length) old e h63
        have hlo:=hol.len
        have hE':E0 q w (ks bs O0) (olds++news) (xs++ys):=hol.append hE
        refine⟨h2,h1,Gs.made ?_ (by simpa using hge) hcm ?_⟩
        · simp only [Array.size_append, List.size_toArray, size_zeroCells, hzl, hlo, hlen, hqn, hi2, ← Nat.add_mul]
          congr 1;omega
        · have e1:(olds.toArray++news.toArray++Builtin.zeroCells zv.cells (grownCap w (xs.length+ys.length) old e - (xs.length+ys.length))).toList.take ((xs++ys).length*q.n)=olds++news:=by
            have:(xs++ys).length*q.n=(olds++news).length:=by rw [hE'.len]
            rw [this]
            simp only [Array.toList_append,List.append_assoc]
            rw [← List.append_assoc,List.take_left]
          rw [e1];exact hE'.step h2
      rcases hG with ⟨rfl,rfl,rfl,rfl⟩ |⟨bl,cur,rfl,rfl,rfl,g4,g5,g6,g7⟩
      · have hr := run_append_nil (P := P) (w := w) t ty e ti zv T.und hi1 hi4 ad ys.length c2 news hlen hnews hpos (by simp at h63'; omega) (by rw [hi3]; simp at hb; omega)
        have hf:=fresh 0 [] rfl
        simp only [List.length_nil,Nat.zero_add,List.nil_append,Array.empty_append] at hf ⊢
        exact⟨_,_,_,_,_,hr,hf⟩
      · by_cases hroom : xs.length + ys.length ≤ c
        · have hnl : news.length = ys.length * q.n := by rw [hlen, hi2, hqn]
          have hfit:xs.length*ti.size+news.length≤cur.size:=by
            rw [hlen,g4,hqn,← hi2,← Nat.add_mul];exact Nat.mul_le_mul_right _ hroom
          have hr:=run_append_room (P:=P) w t ty e ti T.und hi1 bl xs.length c cur (hs.get hi) ad ys.length c2 news hlen hnews hone hroom hfit
          obtain⟨h1,h2⟩:=hs.setRow hi (cur.toList.take (xs.length*ti.size)++news++cur.toList.drop (xs.length*ti.size+news.length)).toArray
          refine⟨_,_,_,_,_,by rw [List.length_append];exact hr,h2,h1,Gs.made ?_ (by simpa using hroom) g6 ?_⟩
          · simp only [List.size_toArray, List.length_append, List.length_take, List.length_drop, Array.length_toList]
            omega
          · have g7' := (g7.append hE).step h2
            have e1:(cur.toList.take (xs.length*ti.size)++news++cur.toList.drop (xs.length*ti.size+news.length)).take ((xs++ys).length*q.n)=cur.toList.take (xs.length*q.n)++news:=by
              have:(xs++ys).length*q.n=(cur.toList.take (xs.length*q.n)++news).length:=by rw [(g7.append hE).len]
              rw [this,hi2,hqn,List.take_left]
            simp only [List.toList_toArray]
            rw [e1];exact g7'
        · have holds:∀j u,(cur.toList.take (xs.length*q.n))[j]?=some u→w.cell? ((⟨bl,0,none⟩:Addr).add j)=some u:=by
            intro j u hj
            rw [Addr.add_lit,JU (hs.get hi)]
            rw [List.getElem?_take] at hj
            split at hj
            · simpa using hj
            · cases hj
          have hlo:(cur.toList.take (xs.length*q.n)).length=xs.length*ti.size:=by rw [g7.len,hqn,hi2]
          have hr:=run_append_grow (P:=P) (w:=w) t ty e ti zv T.und hi1 hi4 ⟨bl,0,none⟩ xs.length c _ hlo holds ad ys.length c2 news hlen hnews (by omega) (by omega)
            (growslice_fits (by omega) (by rw [hi3];exact hb))
          have hf:=fresh c _ g7
          exact⟨_,_,_,_,_,by rw [List.length_append];exact hr,hf⟩
  obtain⟨a',c',k',o',w',hr,h1,h2,h3⟩:=main
  refine Bj (by simp) ?_ (k a' c' k' o' w' h1 h2 h3)
  simp [execOp,resolve,invoke,builtin,hx,hy,hr]

theorem RV {e e':TypeId} {bl o dl dc i sl sc bt:Nat} {a2:Option Addr} {tz:List Value} {ta:Bool} {cs news cs':List Value}
    (T:Ty P t (.slice e) 1 bt tz ta) (E:Ty P e td 1 b z ag) (hs:St w0 O0 w bs) (hi:bs[i]?=some (some bl,.cells cs.toArray e' (0,0)))
    (hx:ev ρ x=.slice (some ⟨bl,o,none⟩) dl dc) (hy:ev ρ y=.slice a2 sl sc) (hS:Oj w a2 news) (hl:news.length=sl) (hone:∀v∈news,v.oneCell'=true)
    (hfit:o+min sl dl≤cs.length) (hc:HY cs o (news.take (min sl dl))=cs') (hb:bs.set i (some bl,.cells cs'.toArray e' (0,0))=bs')
    (k:∀w',AA (ks bs O0) w (ks bs' O0) w'→St w0 O0 w' bs'→V (.int .i64 (min sl dl:Nat)) w'):
    BJ P r ρ w ⟨d,.call ⟨.builtin .copy,#[x,y],#[t,t]⟩,ty,pos,aft,g⟩ V:=by
  have hml:(news.take (min sl dl)).length=min sl dl:=by simp;omega
  obtain⟨h1,h2⟩:=hs.setRow hi cs'.toArray
  rw [hb] at h1 h2
  have hr:(Builtin.copy_ #[t,t] ty #[.slice (some ⟨bl,o,none⟩) dl dc,.slice a2 sl sc]).run P w=.ok (.int .i64 (min sl dl:Nat)) (w.setRow bl cs'.toArray):=by
    rcases hS with hn |⟨ad,rfl,hn⟩
    · have h0 : sl = 0 := by rw [← hl, hn]; rfl
      subst h0
      have e1:cs'=cs:=by rw [← hc];simp [HY]
      have e2:w.setRow bl cs'.toArray=w:=by rw [e1];exact setRow_self w bl cs.toArray e' (0,0) (hs.get hi)
      rw [e2]
      cases a2<;> simp [Builtin.copy_,T.runU,E.runSize,Builtin.lenOf,Builtin.firstCells,loadCells,loadCellsFrom,storeCells,goInt]
    · have:=run_copy_row (P:=P) w t t ty e bl o dl dc ad sl sc cs.toArray e' (news.take (min sl dl)) T.und E.infoSize (hs.get hi) hml
        (fun j v hj=>hn j v (by rw [List.getElem?_take] at hj;split at hj<;> simp_all)) (by rw [hml];simpa using hfit) (fun v hv=>hone v (List.mem_of_mem_take hv))
      rw [this,hml]
      simp only [goInt,← hc,HY,hml]
  refine Bj (by simp) ?_ (k _ h2 h1)
  simp [execOp,resolve,invoke,builtin,hx,hy,hr]

end
end Go.Fx
set_option linter.unusedSimpArgs false
set_option linter.unusedVariables false
namespace Go.Fx
open Go Go.RowKit

abbrev VR (Γ:Type):=Value→World→Γ→Prop
structure OD (Γ:Type) where
  inv:World→Γ→Prop
  le:World→Γ→World→Γ→Prop
  refl:∀w g,le w g w g
  trans:∀{w g w' g' w'' g''},le w g w' g'→le w' g' w'' g''→le w g w'' g''
  drew:∀w g,inv w g→inv w.drew g∧le w g w.drew g
  /-- which operations have been done, as far as it is kept -/
  dn:Γ→List Nat:=fun _=>[]
variable {Γ : Type}
def Iq (T:OD Γ) (V:VR Γ):Prop:=∀v w g w' g',T.le w g w' g'→V v w g→V v w' g'
theorem Iq.eq (T:OD Γ) (c:Value):Iq T fun v _ _=>v=c:=fun _ _ _ _ _ _ h=>h

def look:List (Nat × VR Γ)→Nat→Option (VR Γ)
  |[],_=>none
  |(d,V)::G,t=>if t=d then some V else look G t
def Gj (G:List (Nat × VR Γ)) (ρ0 ρ:EH) (w:World) (g:Γ) (t:Nat):Prop:=match look G t with
  |some V=>V (ρ t) w g
  |none=>ρ t=ρ0 t
def FQ (P:Program) (r:Option Nat) (ops:List Oper) (ρ:EH) (w:World) (o:Oper) (K:Value→World→Prop):Prop:=
  if Region.wanted o (GT ops ρ) then BJ P r ρ w o K else K undef w
def PX (w:World) (g:Γ) (K:EH→World→Γ→Prop):List (Nat × VR Γ)→EH→Prop
  |[],ρ=>K ρ w g
  |(d,V)::G,ρ=>∀v,V v w g→PX w g K G (Lu ρ d v)
def Bs (T:OD Γ) (w:World) (g:Γ) (V:VR Γ) (k:Nat):Value→World→Prop:=fun v w'=>∃g',T.inv w' g'∧T.le w g w' g'∧V v w' g'∧∀i∈T.dn g',i∈T.dn g∨i=k
abbrev K7 (T:OD Γ) (ρ0:EH) (w0:World) (g0:Γ) (K:EH→World→Γ→Prop):List (Nat × VR Γ)→Prop:=fun G=>∀w g,T.le w0 g0 w g→T.inv w g→PX w g K G ρ0
def Dw (P:Program) (r:Option Nat) (T:OD Γ) (ops:List Oper) (ρ0:EH) (w0:World) (g0:Γ) (leaf:List (Nat × VR Γ)→Prop):List Oper→List (Nat × VR Γ)→Prop
  |[],G=>leaf G
  |o::l,G=>∃V,Iq T V∧(∀ρ w g,T.le w0 g0 w g→T.inv w g→G.length ∉ T.dn g→(∀t,(o.looksAt ops.toArray).contains t=true→Gj G ρ0 ρ w g t)→FQ P r ops ρ w o (Bs T w g V G.length))∧
      Dw P r T ops ρ0 w0 g0 leaf l (G++[((o.dst).getD 0,V)])

section checks
def CR (ops:List Oper) (j:Nat):Option Nat:=(ops[j]?).bind (·.dst)
def C0 (ops:List Oper) (j:Nat):List Nat:=match ops[j]? with
  |some o=>(o.after.toList.filter (Region.binds .any)).map (·.on)
  |none=>[]
def Hg (ops:List Oper) (j:Nat):List Nat:=match ops[j]? with
  |some o=>o.looksAt ops.toArray
  |none=>[]
def RW (ops:List Oper):Nat→List Nat→List Nat
  |0,s=>s
  |j+1,s=>RW ops j (bif s.contains j then s++(C0 ops j).filter (fun i=>!s.contains i) else s)
def VS (ops:List Oper) (k:Nat):List Nat:=RW ops k (C0 ops k)
def Mz (ops:List Oper) (i j:Nat):Bool:=match ops[i]?,ops[j]? with
  |some a,some b=>a.apart ops.toArray b
  |_,_=>false
def M0 (ops:List Oper) (i:Nat):Bool:=match ops[i]? with
  |some ⟨some _,.extract _ _,_,_,_,none⟩=>true
  |some ⟨some _,.move _,_,_,_,none⟩=>true
  |_=>false
structure N6 (n:Nat) (ops:List Oper) (m:Nat) (fl:List Nat):Prop where
  dst:∀j<m,(CR ops j).any (·<n)=true∧∀i<j,CR ops i≠CR ops j
  up:∀j<ops.length,∀i∈C0 ops j,i<j
  look:∀j<m,∀t∈Hg ops j,∀i<m,CR ops i=some t→i∈C0 ops j
  tail:∀k<ops.length,m≤k→(∀i<m,i ∉ fl→i∈VS ops k)∧(m<k→k - 1∈C0 ops k)
  fl:∀f∈fl,f<m∧M0 ops f=true∧(∀i∈C0 ops f,i ∉ fl∧i<m)∧∀j<ops.length,j≠f→j∈C0 ops f∨f∈C0 ops j∨Mz ops f j=true
  sel:Region.noSelect ops.toArray=true
  le:m≤ops.length
def GH (n:Nat) (p:Nat→Bool):Bool:=(List.range n).all p
theorem C1 {n:Nat} {p:Nat→Bool} (h:GH n p=true):∀i<n,p i=true:=fun i hi=>List.all_eq_true.1 h i (List.mem_range.2 hi)
def RX (n:Nat) (ops:List Oper) (m:Nat) (fl:List Nat):Bool:=
  GH m (fun j=>(CR ops j).any (·<n)&&GH j fun i=>CR ops i !=CR ops j)&&
  (GH ops.length (fun j=>(C0 ops j).all (·<j))&&
  (GH m (fun j=>(Hg ops j).all fun t=>GH m fun i=>CR ops i !=some t||(C0 ops j).contains i)&&
  (GH ops.length (fun k=>k<m||(GH m (fun i=>fl.contains i||(VS ops k).contains i)&&(k≤m||(C0 ops k).contains (k - 1))))&&
  (fl.all (fun f=>f<m&&(M0 ops f&&((C0 ops f).all (fun i=>!fl.contains i&&i<m)&&GH ops.length fun j=>j == f||(C0 ops f).contains j||(C0 ops j).contains f||Mz ops f j)))&&
  (Region.noSelect ops.toArray&&m≤ops.length)))))
theorem N6.of {n:Nat} {ops:List Oper} {m:Nat} {fl:List Nat} (h:RX n ops m fl=true):N6 n ops m fl:=by
  simp only [RX,Bool.and_eq_true] at h
  obtain⟨h1,h2,h3,h4,h5,h6,h7⟩:=h
  refine⟨fun j hj=>?_,fun j hj i hi=>?_,fun j hj t ht i hi hd=>?_,fun k hk hm=>?_,fun f hf=>?_,h6,by simpa using h7⟩
  · have := C1 h1 j hj
    simp only [Bool.and_eq_true] at this
    exact⟨this.1,fun i hi=>by simpa using C1 this.2 i hi⟩
  · have := List.all_eq_true.1 (C1 h2 j hj) i hi
    simpa using this
  · have := C1 (List.all_eq_true.1 (C1 h3 j hj) t ht) i hi
    simp only [Bool.or_eq_true,bne_iff_ne,ne_eq,List.contains_eq_mem,decide_eq_true_eq] at this
    exact this.resolve_left (fun h=>h hd)
  · have := C1 h4 k hk
    simp only [Bool.or_eq_true,decide_eq_true_eq,Bool.and_eq_true,List.contains_eq_mem] at this
    rcases this with h |⟨h,h'⟩
    · omega
    · refine ⟨fun i hi hf => ?_, fun hmk => h'.resolve_left (by omega)⟩
      have:=C1 h i hi
      simp only [Bool.or_eq_true,decide_eq_true_eq] at this
      exact this.resolve_left hf
  · have := List.all_eq_true.1 h5 f hf
    simp only [Bool.and_eq_true,decide_eq_true_eq] at this
    obtain⟨p1,p2,p3,p4⟩:=this
    refine⟨p1,p2,fun i hi=>?_,fun j hj hne=>?_⟩
    · have := List.all_eq_true.1 p3 i hi
      simpa using this
    · have := C1 p4 j hj
      simp only [Bool.or_eq_true,beq_iff_eq,List.contains_eq_mem,decide_eq_true_eq] at this
      rcases this with ((h |h) |h) |h
      · exact absurd h hne
      · exact .inl h
      · exact .inr (.inl h)
      · exact .inr (.inr h)
end checks

theorem Ei {ops:List Oper} {j:Nat} {o:Oper} (h:ops[j]?=some o) {i:Nat} :i∈C0 ops j ↔ ∃e∈o.after,Region.binds .any e=true∧e.on=i:=by
  simp only [C0,h,List.mem_map,List.mem_filter,Array.mem_toList_iff]
  constructor
  · rintro⟨e,⟨h1,h2⟩,h3⟩;exact⟨e,h1,h2,h3⟩
  · rintro⟨e,h1,h2,h3⟩;exact⟨e,⟨h1,h2⟩,h3⟩

theorem LP {ops:List Oper} {L:Nat→Prop} (hdc:∀j,L j→∀i∈C0 ops j,L i):∀(j:Nat) (s:List Nat),(∀i∈s,L i)→∀i∈RW ops j s,L i
  |0,_,hs=>hs
  |j+1,s,hs=>by
    unfold RW
    refine LP hdc j _ fun i hi=>?_
    cases h:s.contains j
    · rw [h] at hi;exact hs i hi
    · rw [h, cond_true] at hi
      rcases List.mem_append.1 hi with hi |hi
      · exact hs i hi
      · exact hdc j (hs j (by simpa using h)) i (List.mem_filter.1 hi).1
theorem Lv {ops:List Oper} {L:Nat→Prop} (hdc:∀j,L j→∀i∈C0 ops j,L i) (k:Nat) (hk:∀i∈C0 ops k,L i):∀i∈VS ops k,L i:=LP hdc k _ hk

theorem Dw.facts {P:Program} {r:Option Nat} {T:OD Γ} {ops:List Oper} {ρ0:EH} {w0:World} {g0:Γ} {leaf:List (Nat × VR Γ)→Prop} :∀(l:List Oper) (G:List (Nat × VR Γ)),Dw P r T ops ρ0 w0 g0 leaf l G→
    ∃Vs:List (VR Γ),Vs.length=l.length∧
      (∀i o V,l[i]?=some o→Vs[i]?=some V→Iq T V∧∀ρ w g,T.le w0 g0 w g→T.inv w g→G.length+i ∉ T.dn g→
        (∀t,(o.looksAt ops.toArray).contains t=true→Gj (G++(((l.map fun o=>(o.dst).getD 0).zip Vs).take i)) ρ0 ρ w g t)→FQ P r ops ρ w o (Bs T w g V (G.length+i)))∧
      leaf (G++(l.map fun o=>(o.dst).getD 0).zip Vs)
  |[],G,h=>⟨[],rfl,(fun i o V hi=>by simp at hi),by simpa [Dw] using h⟩
  |o::l,G,⟨V,h1,h2,h3⟩=>by
    obtain⟨Vs,hl,ha,hf⟩:=Dw.facts l _ h3
    refine⟨V::Vs,by simp [hl],fun i o' V' hi hV=>?_,by simpa using hf⟩
    cases i with
    |zero=>
      simp only [List.getElem?_cons_zero,Option.some.injEq] at hi hV
      subst hi hV
      exact⟨h1,fun ρ w g hw hi hk ht=>h2 ρ w g hw hi hk (by simpa using ht)⟩
    |succ i=>
      have:=ha i o' V' (by simpa using hi) (by simpa using hV)
      have e:(G++[((o.dst).getD 0,V)]).length+i=G.length+(i+1):=by simp only [List.length_append,List.length_cons,List.length_nil];omega
      rw [e] at this
      refine⟨this.1,fun ρ w g hw hi hk ht=>this.2 ρ w g hw hi hk fun t htt=>?_⟩
      have:=ht t htt
      simpa using this

theorem PX.apply {w:World} {g:Γ} {K:EH→World→Γ→Prop} :∀(G:List (Nat × VR Γ)) (ρ0 ρ:EH),PX w g K G ρ0→(G.map Prod.fst).Nodup→(∀p∈G,p.2 (ρ p.1) w g)→(∀t,t ∉ G.map Prod.fst→ρ t=ρ0 t)→ρ.ds=ρ0.ds→K ρ w g
  |[],ρ0,ρ,h,_,_,he,hd=>by
    have:ρ=ρ0:=EH.ext' (fun t=>he t (by simp)) hd
    subst this;exact h
  |(d,V)::G,ρ0,ρ,h,hn,hv,he,hd=>by
    simp only [List.map_cons,List.nodup_cons] at hn
    refine PX.apply G (Lu ρ0 d (ρ d)) ρ (h (ρ d) (hv (d,V) (by simp))) hn.2 (fun p hp=>hv p (List.mem_cons_of_mem _ hp)) (fun t ht=>?_) hd
    by_cases htd:t=d
    · subst htd;rw [Ky]
    · rw [Ht _ _ _ htd];exact he t (by simp [htd,ht])

section
variable {P : Program} {r : Option Nat} {n m : Nat} {l : List Oper} {fl : List Nat} {Q : I5}

def QN (L:Array Bool):Nat→Nat
  |0=>0
  |k+1=>QN L k+if L.getD k true then 0 else 1
theorem LQ {L:Array Bool} {i:Nat} (h:i<L.size) (b:Bool):L.getD i b=L.getD i true:=by simp [Array.getD_eq_getD_getElem?,Array.getElem?_eq_getElem h]
theorem Ec {L:Array Bool} {i j:Nat} (h:i<L.size):(L.setIfInBounds i true).getD j true=if j=i then true else L.getD j true:=by
  by_cases hji:j=i
  · subst hji;simp [Array.getD_eq_getD_getElem?,h]
  · simp only [Array.getD_eq_getD_getElem?,Array.getElem?_setIfInBounds,Ne.symm hji,hji,if_false]
theorem Jn {L:Array Bool} {i:Nat} (h:i<L.size) (hu:L.getD i true=false):∀k,QN (L.setIfInBounds i true) k+(if i<k then 1 else 0)=QN L k
  |0=>by simp [QN]
  |k+1=>by
    have ih:=Jn h hu k
    simp only [QN,Ec h]
    by_cases hk:k=i
    · subst hk
      simp only [if_true,hu,Bool.false_eq_true,if_false]
      simp at ih ⊢;omega
    · simp only [hk, if_false]
      by_cases h1:i<k
      · simp only [h1, if_true] at ih
        rw [if_pos (show i<k+1 by omega)];omega
      · simp only [h1, if_false] at ih
        rw [if_neg (show ¬i<k+1 by omega)];omega
theorem Ir {L:Array Bool} :∀{k:Nat},QN L k=0→∀i<k,L.getD i true=true
  |0,_,i,h=>by omega
  |k+1,h,i,hi=>by
    simp only [QN] at h
    by_cases hk:i=k
    · subst hk
      cases hL:L.getD i true with
      |true=>rfl
      |false=>rw [hL] at h;simp at h
    · exact Ir (Nat.add_eq_zero_iff.1 h).1 i (by omega)
theorem Pq (L:Array Bool):∀k,QN L k≤k
  |0=>Nat.le_refl _
  |k+1=>by have:=Pq L k;simp only [QN];split<;> omega

theorem Qa (D:N6 n l m fl) {Q':Exit→Act→World→Prop} :∀(fuel k:Nat) (listed:Array Bool) (a:Act) (w:World),m≤k→k≤l.length→QN listed l.length≤fuel→listed.size=l.length→
    (∀i,i<l.length→listed.getD i true=decide (i<k))→wpListIn (FW r) 0 P l.toArray Q' (l.drop k) a w→wpAnyIn (FW r) 0 P .any l.toArray Q' fuel listed a w:=by
  intro fuel
  induction fuel with
  |zero=>
    intro k listed a w hmk hkl hc hsz hL h
    have hz:=Ir (Nat.le_zero.1 hc)
    have hrd:Region.ready .any l.toArray listed=[]:=by
      rw [List.eq_nil_iff_forall_not_mem]
      intro i hi
      obtain⟨h1,o,ho,_⟩:=mem_ready.1 hi
      have hil:i<l.length:=by simpa using (Array.getElem?_eq_some_iff.1 ho).1
      rw [hz i hil] at h1
      cases h1
    have hk:l.length≤k:=by
      rcases Nat.lt_or_ge k l.length with hlt |hge
      · have:=hz k hlt;rw [hL k hlt] at this;simp at this
      · exact hge
    rw [List.drop_of_length_le hk] at h
    exact⟨hrd,h⟩
  |succ fuel ih=>
    intro k listed a w hmk hkle hc hsz hL h
    rcases Nat.eq_or_lt_of_le hkle with hkl |hkl
    · have hrd:Region.ready .any l.toArray listed=[]:=by
        rw [List.eq_nil_iff_forall_not_mem]
        intro i hi
        obtain⟨h1,o,ho,_⟩:=mem_ready.1 hi
        have hil:i<l.length:=by simpa using (Array.getElem?_eq_some_iff.1 ho).1
        rw [hL i hil] at h1
        simp at h1;omega
      rw [List.drop_of_length_le (by omega)] at h
      exact wpAnyIn_done hrd h _
    have hgD:∀i,i<l.length→listed.getD i false=listed.getD i true:=fun i hi=>by simp [Array.getD_eq_getD_getElem?,Array.getElem?_eq_getElem (show i<listed.size by omega)]
    -- what may come up is k alone
    have hrd:∀i∈Region.ready .any l.toArray listed,i=k:=by
      intro i hi
      obtain⟨h1,o,ho,hdep⟩:=mem_ready.1 hi
      have hil:i<l.length:=by simpa using (Array.getElem?_eq_some_iff.1 ho).1
      rw [hL i hil] at h1
      have hik:k≤i:=by simpa using h1
      rcases Nat.eq_or_lt_of_le hik with e |hlt
      · exact e.symm
      · exfalso
        have hm':=(D.tail i hil (by omega)).2 (by omega)
        rw [Ei (by simpa using ho)] at hm'
        obtain⟨e,he,hb,hon⟩:=hm'
        have:=hdep e he hb
        rw [hon,hgD _ (by omega),hL _ (by omega)] at this
        simp at this;omega
    have hk1:k∈Region.ready .any l.toArray listed:=by
      refine mem_ready.2 ⟨by rw [hL k hkl];simp,l[k],by simp [hkl],fun e he hb=>?_⟩
      have:=D.up k hkl e.on ((Ei (List.getElem?_eq_getElem hkl)).2 ⟨e,he,hb,rfl⟩)
      rw [hgD _ (by omega),hL _ (by omega)];simpa using this
    refine⟨fun h0=>absurd hk1 (by rw [h0];simp),fun i hi=>?_⟩
    have:=hrd i hi
    subst this
    rw [List.drop_eq_getElem_cons hkl] at h
    have h':=h
    unfold wpOpIn
    simp only [List.getElem?_toArray,List.getElem?_eq_getElem hkl]
    simp only [wpListIn] at h'
    have hL':∀j,j<l.length→(listed.setIfInBounds i true).getD j true=decide (j<i+1):=by
      intro j hj
      by_cases hji:j=i
      · subst hji;simp [Array.getD_eq_getD_getElem?,hsz,hkl]
      · have := hL j hj
        simp only [Array.getD_eq_getD_getElem?,Array.getElem?_setIfInBounds,Ne.symm hji,if_false] at this ⊢
        rw [this];simp;omega
    have step:∀a' w',wpListIn (FW r) 0 P l.toArray Q' (l.drop (i+1)) a' w'→wpAnyIn (FW r) 0 P .any l.toArray Q' fuel (listed.setIfInBounds i true) a' w':=
      fun a' w' hh=>ih (i+1) _ a' w' (by omega) (by omega) (by
        have:=Jn (L:=listed) (i:=i) (by omega) (by rw [hL i hkl];simp) l.length
        rw [if_pos hkl] at this;omega) (by simpa using hsz) hL' hh
    split
    · rename_i hw
      rw [if_pos hw] at h'
      exact Oper.wpIn_mono step h'
    · rename_i hw
      rw [if_neg hw] at h'
      exact⟨h'.1,step _ _ h'.2⟩

theorem M1 {G:List (Nat × VR Γ)} {t:Nat} {V:VR Γ} (h:look G t=some V):(t,V)∈G:=by
  induction G with
  |nil=>simp [look] at h
  |cons p G ih=>
    obtain⟨d,U⟩:=p
    simp only [look] at h
    split at h
    · rename_i e;subst e;cases h;simp
    · exact List.mem_cons_of_mem _ (ih h)
theorem M2 {G:List (Nat × VR Γ)} {t:Nat} (h:look G t=none):t ∉ G.map Prod.fst:=by
  induction G with
  |nil=>simp
  |cons p G ih=>
    obtain⟨d,U⟩:=p
    simp only [look] at h
    split at h
    · cases h
    · rename_i e;simp only [List.map_cons,List.mem_cons,not_or];exact⟨e,ih h⟩

theorem OE {o:Oper} {ρ:EH} {w:World} {V:Value→World→Prop} (hf:(match o with |⟨some _,.extract _ _,_,_,_,none⟩=>true |⟨some _,.move _,_,_,_,none⟩=>true |_=>false)=true)
    (h:BJ P none ρ w o V):∃v,(∀w,(execOp (ev ρ) o).run P w=.ok (.value v) w)∧V v w:=by
  unfold BJ at h
  obtain⟨dst,op,ty,pos,aft,g⟩:=o
  cases dst<;> cases op<;> cases g<;> simp at hf
  case some.move x=>exact⟨ev ρ x,fun w=>by simp [execOp],by simpa [Oper.semAt,execOp] using h⟩
  case some.extract x i=>
    simp only [Oper.semAt,execOp] at h ⊢
    revert h
    cases ev ρ x<;> intro h<;> simp only [Instr.extract] at h ⊢<;> try (simp [stuck,Sem.run] at h)
    rename_i vs
    cases hv:vs[i]? with
    |none=>simp [hv,stuck,Sem.run] at h
    |some v=>simp only [hv,Sem.run_bind,Sem.run_pure,Result.andThen_ok] at h ⊢;exact⟨v,fun _=>rfl,h⟩

theorem U6 {T:OD Γ} {g0:Γ} {id:Nat} {ρ:EH} {w:World} (hinv:T.inv w g0) (hg0:T.dn g0=[]) (hro:r=none∨fl=[]) (hm:P.follows .mixedOrders=true) (hB:RX n l m fl=true)
    (h:Dw P r T l ρ w g0 (fun G=>K7 T ρ w g0 (fun ρ' w' _=>Rg P r n l (l.drop m) Q ρ' w') G.reverse) (l.take m) []):Wp P r n (.region id l.toArray true) Q ρ w:=by
  have D:=N6.of hB
  obtain⟨Vs,hVl,hV,hfin⟩:=Dw.facts _ _ h
  simp only [List.nil_append,List.length_nil,Nat.zero_add,List.length_take,Nat.min_eq_left D.le] at hVl hV hfin
  unfold Wp
  intro a ha
  apply wpIn_region_any hm
  -- the slots and what is known of them
  have hget:∀i,i<m→(l.take m)[i]?=l[i]?:=fun i hi=>by rw [List.getElem?_take,if_pos hi]
  have hdst:∀i,i<m→∃o d,l[i]?=some o∧o.dst=some d∧d<n:=fun i hi=>by
    have h1:=(D.dst i hi).1
    unfold CR at h1
    cases ho:l[i]? with
    |none=>simp [ho] at h1
    |some o=>
      cases hd:o.dst with
      |none=>simp [ho,hd] at h1
      |some d=>exact⟨o,d,rfl,hd,by simpa [ho,hd] using h1⟩
  have hVget:∀i,i<m→∃V,Vs[i]?=some V:=fun i hi=>⟨_,List.getElem?_eq_getElem (by omega)⟩
  let G:List (Nat × VR Γ):=((l.take m).map fun o=>(o.dst).getD 0).zip Vs
  have hGget:∀i o d V,i<m→l[i]?=some o→o.dst=some d→Vs[i]?=some V→G[i]?=some (d,V):=fun i o d V hi ho hd hV=>by
    simp only [G,List.getElem?_zip_eq_some,List.getElem?_map,hget i hi,ho,Option.map_some,hd,Option.getD_some,hV,and_self]
  have hGlen:G.length=m:=by simp [G,hVl,Nat.min_eq_left D.le]
  have hGinv:∀i p,G[i]?=some p→i<m∧∃o,l[i]?=some o∧o.dst=some p.1∧Vs[i]?=some p.2:=fun i p hp=>by
    have him:i<m:=by rw [← hGlen];exact(List.getElem?_eq_some_iff.1 hp).1
    obtain⟨o,d,ho,hd,_⟩:=hdst i him
    obtain⟨V,hV'⟩:=hVget i him
    rw [hGget i o d V him ho hd hV'] at hp
    cases hp
    exact⟨him,o,ho,hd,hV'⟩
  have hnodup:(G.map Prod.fst).Nodup:=by
    rw [List.nodup_iff_pairwise_ne,List.pairwise_iff_getElem]
    intro i j hi hj hij e
    simp only [List.length_map] at hi hj
    obtain⟨h1,o1,a1,a2,_⟩:=hGinv i G[i] (List.getElem?_eq_getElem hi)
    obtain⟨h2,o2,b1,b2,_⟩:=hGinv j G[j] (List.getElem?_eq_getElem hj)
    simp only [List.getElem_map] at e
    exact(D.dst j h2).2 i hij (by simp [CR,a1,a2,b1,b2,e])
  have hnodup':(G.reverse.map Prod.fst).Nodup:=by rw [List.map_reverse];exact(List.reverse_perm _).nodup_iff.2 hnodup
  -- the walk
  have key:∀(fuel:Nat) (listed:Array Bool) (a:Act) (ρ':EH) (w':World) (g:Γ),listed.size=l.length→QN listed l.length≤fuel→
      GS n ρ' a→ρ'.ds=ρ.ds→T.le w g0 w' g→T.inv w' g→
      (∀i,m≤i→i<l.length→listed.getD i true=false)→
      (∀i,i<m→listed.getD i true=true→∀o d V,l[i]?=some o→o.dst=some d→Vs[i]?=some V→V (ρ' d) w' g)→
      (∀t,(∀i,i<m→listed.getD i true=true→CR l i≠some t)→ρ' t=ρ t)→
      (∀i,i<l.length→listed.getD i true=true→∀j∈C0 l i,listed.getD j true=true)→(∀i,i<l.length→i∈T.dn g→listed.getD i true=true)→
      wpAnyIn (FW r) 0 P .any l.toArray (LN n Q) fuel listed a w':=by
    intro fuel
    induction fuel with
    |zero=>
      intro listed a ρ' w' g hsz hc ha hds hx hgi htail hfact hframe hdc hdone
      have hz:=Ir (Nat.le_zero.1 hc)
      have hml:m=l.length:=by
        rcases Nat.eq_or_lt_of_le D.le with h |h
        · exact h
        · have h1:=htail m (Nat.le_refl _) h;rw [hz m h] at h1;cases h1
      have hK:=hfin w' g hx hgi
      have hR:=PX.apply G.reverse ρ ρ' hK hnodup' (fun p hp=>by
          obtain⟨i,hi⟩:=List.mem_iff_getElem?.1 (List.mem_reverse.1 hp)
          obtain⟨him,o,ho,hd,hV'⟩:=hGinv i p hi
          exact hfact i him (hz i (by omega)) o _ _ ho hd hV') (fun t ht=>hframe t fun i him _ e=>by
          obtain⟨o,d,ho,hd,_⟩:=hdst i him
          obtain⟨V,hV'⟩:=hVget i him
          have:d=t:=by simpa [CR,ho,hd] using e
          subst this
          exact ht (List.mem_map.2 ⟨(d,V),List.mem_reverse.2 (List.mem_of_getElem? (hGget i o d V him ho hd hV')),rfl⟩)) hds
      unfold Rg at hR
      exact Qa D 0 m listed a w' (Nat.le_refl _) D.le hc hsz (fun i hi=>by rw [hz i hi];simp;omega) (hR a ha)
    |succ fuel ih=>
      intro listed a ρ' w' g hsz hc ha hds hx hgi htail hfact hframe hdc hdone
      by_cases hall:∀i,i<m→listed.getD i true=true
      · have hK := hfin w' g hx hgi
        have hR:=PX.apply G.reverse ρ ρ' hK hnodup' (fun p hp=>by
            obtain⟨i,hi⟩:=List.mem_iff_getElem?.1 (List.mem_reverse.1 hp)
            obtain⟨him,o,ho,hd,hV'⟩:=hGinv i p hi
            exact hfact i him (hall i him) o _ _ ho hd hV') (fun t ht=>hframe t fun i him _ e=>by
            obtain⟨o,d,ho,hd,_⟩:=hdst i him
            obtain⟨V,hV'⟩:=hVget i him
            have:d=t:=by simpa [CR,ho,hd] using e
            subst this
            exact ht (List.mem_map.2 ⟨(d,V),List.mem_reverse.2 (List.mem_of_getElem? (hGget i o d V him ho hd hV')),rfl⟩)) hds
        unfold Rg at hR
        refine Qa D _ m listed a w' (Nat.le_refl _) D.le hc hsz (fun i hi=>?_) (hR a ha)
        by_cases him:i<m
        · rw [hall i him];simp [him]
        · rw [htail i (by omega) hi];simp [him]
      · -- one of the first has not come up
        have hgD:∀i,i<l.length→∀b,listed.getD i b=listed.getD i true:=fun i hi b=>LQ (by omega) b
        have hready:∀i,i<l.length→listed.getD i true=false→(∀j∈C0 l i,listed.getD j true=true)→i∈Region.ready .any l.toArray listed:=fun i hi hu hd=>by
          refine mem_ready.2 ⟨hu,l[i],by simp [hi],fun e he hb=>?_⟩
          have hj:=(Ei (List.getElem?_eq_getElem hi)).2 ⟨e,he,hb,rfl⟩
          rw [hgD _ (by have:=D.up i hi e.on hj;omega)]
          exact hd _ hj
        have hready':∀i∈Region.ready .any l.toArray listed,i<l.length∧listed.getD i true=false∧∀j∈C0 l i,listed.getD j true=true:=fun i hi=>by
          obtain⟨h1,o,ho,hdep⟩:=mem_ready.1 hi
          have hil:i<l.length:=by simpa using (Array.getElem?_eq_some_iff.1 ho).1
          refine⟨hil,h1,fun j hj=>?_⟩
          have hj':=hj
          rw [Ei (by simpa using ho)] at hj
          obtain⟨e,he,hb,rfl⟩:=hj
          rw [← hgD _ (by have:=D.up i hil e.on hj';omega) false]
          exact hdep e he hb
        -- what stands behind one of the first
        have next:∀i o d V v w'' g'',i<m→i∈Region.ready .any l.toArray listed→l[i]?=some o→o.dst=some d→Vs[i]?=some V→T.inv w'' g''→T.le w' g w'' g''→V v w'' g''→(∀k∈T.dn g'',k∈T.dn g∨k=i)→
            wpAnyIn (FW r) 0 P .any l.toArray (LN n Q) fuel (listed.setIfInBounds i true) (a.put o.dst v) w'':=by
          intro i o d V v w'' g'' him hi ho hd hVi hi'' hx' hv hdo
          obtain⟨hil,hu,hdep⟩:=hready' i hi
          have his:i<listed.size:=by omega
          obtain⟨o',d',ho',hd',hdn⟩:=hdst i him
          rw [ho] at ho';cases ho'
          rw [hd] at hd';cases hd'
          have hput:=ha.put (d:=o.dst) (by rw [hd];simpa using hdn) v
          rw [hd] at hput
          simp only [JC] at hput
          rw [hd]
          refine ih _ _ _ _ g'' (by simpa using hsz) ?_ hput hds (T.trans hx hx') hi'' (fun j hj hjl=>?_) (fun j hjm hjL o2 d2 V2 ho2 hd2 hV2=>?_) (fun t ht=>?_) (fun j hjl hjL k hk=>?_) (fun k hkl hk=>?_)
          · have := Jn his hu l.length
            rw [if_pos hil] at this;omega
          · rw [Ec his,if_neg (by omega)];exact htail j hj hjl
          · rw [Ec his] at hjL
            by_cases hji:j=i
            · subst hji
              rw [ho] at ho2;cases ho2
              rw [hd] at hd2;cases hd2
              rw [hVi] at hV2;cases hV2
              rw [Ky];exact hv
            · rw [if_neg hji] at hjL
              have hne:d2≠d:=by
                intro e
                subst e
                rcases Nat.lt_or_ge j i with hlt |hge
                · exact(D.dst i him).2 j hlt (by simp [CR,ho,hd,ho2,hd2])
                · exact(D.dst j hjm).2 i (by omega) (by simp [CR,ho,hd,ho2,hd2])
              rw [Ht _ _ _ hne]
              exact(hV j o2 V2 (by rw [hget j hjm];exact ho2) hV2).1 _ _ _ _ _ hx' (hfact j hjm hjL o2 d2 V2 ho2 hd2 hV2)
          · have htd : t ≠ d := fun e => ht i him (by rw [Ec his, if_pos rfl]) (by simp [CR, ho, hd, e])
            rw [Ht _ _ _ htd]
            exact hframe t fun j hjm hjL=>ht j hjm (by
              rw [Ec his]
              split
              · rfl
              · exact hjL)
          · have hkl:listed.getD k true=true:=by
              rw [Ec his] at hjL
              split at hjL
              · rename_i e;subst e;exact hdep k hk
              · exact hdc j hjl hjL k hk
            rw [Ec his];split
            · rfl
            · exact hkl
          · rw [Ec his]
            rcases hdo k hk with h |h
            · split
              · rfl
              · exact hdone k hkl h
            · rw [if_pos h]
        -- what operation i finds
        have holds:∀i o,i<m→i∈Region.ready .any l.toArray listed→l[i]?=some o→∀t,(o.looksAt l.toArray).contains t=true→Gj (G.take i) ρ ρ' w' g t:=by
          intro i o him hi ho t ht
          obtain⟨hil,hu,hdep⟩:=hready' i hi
          have htl:t∈Hg l i:=by simp only [Hg,ho];simpa using ht
          unfold Gj
          cases hlk:look (G.take i) t with
          |some V=>
            obtain⟨j,hj⟩:=List.mem_iff_getElem?.1 (M1 hlk)
            rw [List.getElem?_take] at hj
            split at hj
            · rename_i hji
              obtain⟨hjm,o2,ho2,hd2,hV2⟩:=hGinv j _ hj
              have:=D.look i him t htl j hjm (by simp [CR,ho2,hd2])
              exact hfact j hjm (hdep j this) o2 t V ho2 hd2 hV2
            · cases hj
          |none=>
            refine hframe t fun j hjm hjL e=>?_
            have hji:=D.up i hil j (D.look i him t htl j hjm e)
            obtain⟨o2,d2,ho2,hd2,_⟩:=hdst j hjm
            obtain⟨V2,hV2⟩:=hVget j hjm
            have:d2=t:=by simpa [CR,ho2,hd2] using e
            subst this
            exact M2 hlk (List.mem_map.2 ⟨(d2,V2),List.mem_of_getElem? (i:=j) (by rw [List.getElem?_take,if_pos hji];exact hGget j o2 d2 V2 hjm ho2 hd2 hV2),rfl⟩)
        by_cases hfl:∃f∈fl,f∈Region.ready .any l.toArray listed
        · -- one that may be taken first
          obtain⟨f,hf,hfr⟩:=hfl
          have hr:r=none:=hro.resolve_right (fun e=>by rw [e] at hf;cases hf)
          subst hr
          obtain⟨hfm,hfB,hfd,hfa⟩:=D.fl f hf
          obtain⟨o,d,ho,hd,hdn⟩:=hdst f hfm
          obtain⟨V,hVf⟩:=hVget f hfm
          have hop:=(hV f o V (by rw [hget f hfm];exact ho) hVf).2 ρ' w' g hx hgi (fun hk=>by have h1:=hready' f hfr;have h2:=hdone f h1.1 hk;rw [h1.2.1] at h2;cases h2) (holds f o hfm hfr ho)
          unfold M0 at hfB
          rw [ho] at hfB
          have hg:o.guard=none:=by
            obtain⟨dst,op,ty,pos,aft,g⟩:=o
            cases dst<;> cases op<;> cases g<;> simp at hfB<;> rfl
          unfold FQ at hop
          rw [if_pos (by simp [Region.wanted,hg])] at hop
          obtain⟨v,hv1,g'',hv2,hv4,hv3,hv5⟩:=OE (by
            obtain⟨dst,op,ty,pos,aft,g⟩:=o
            cases dst<;> cases op<;> cases g<;> simp at hfB<;> rfl) hop
          refine wpAnyIn_first (i:=f) (oi:=o) (v:=v) rfl (by simpa using ho) (Region.noSelect_spec D.sel) (fun c _ _ hh=>absurd rfl (hh.1 c)) fuel listed a w' (fun j oj hoj hjf hju hno=>?_) hfr ?_ (next f o d V v w' g'' hfm hfr ho hd hVf hv2 hv4 hv3 hv5)
          · have hjl : j < l.length := by simpa using (Array.getElem?_eq_some_iff.1 hoj).1
            have hoj':l[j]?=some oj:=by simpa using hoj
            rcases hfa j hjl hjf with h1 |h1 |h1
            · have := (hready' f hfr).2.2 j h1
              rw [this] at hju;cases hju
            · exfalso
              rw [Ei hoj'] at h1
              obtain⟨e,he,hb,hon⟩:=h1
              exact hno e he hb hon
            · simpa [Mz,ho,hoj'] using h1
          · refine ⟨.inl ⟨by simp [Region.wanted, hg], fun w => by rw [ha.eval]; exact hv1 w⟩, fun w => ?_⟩
            obtain⟨dst,op,ty,pos,aft,g⟩:=o
            cases dst<;> cases op<;> cases g<;> simp at hfB<;> rfl
        · have hmain:∀i∈Region.ready .any l.toArray listed,i<m:=by
            intro i hi
            obtain⟨hil,hu,hdep⟩:=hready' i hi
            rcases Nat.lt_or_ge i m with h |hmi
            · exact h
            · exfalso
              have hclo:=Lv (L:=fun j=>listed.getD j true=true) (fun j hj k hk=>by
                rcases Nat.lt_or_ge j l.length with hjl |hjl
                · exact hdc j hjl hj k hk
                · simp [C0,List.getElem?_eq_none hjl] at hk) i hdep
              refine hall fun j hj=>?_
              by_cases hjf:j∈fl
              · cases hjL : listed.getD j true with
                |true=>rfl
                |false=>
                  exact absurd ⟨j,hjf,hready j (by have:=D.le;omega) hjL fun k hk=>by
                    have:=(D.fl j hjf).2.2.1 k hk
                    exact hclo k ((D.tail i hil hmi).1 k this.2 this.1)⟩ hfl
              · exact hclo j ((D.tail i hil hmi).1 j hj hjf)
          refine⟨fun h0=>?_,fun i hi=>?_⟩
          · -- the first that has not come up may come up
            exfalso
            apply hall
            intro i
            induction i using Nat.strongRecOn with
            |_ i ihi=>
              intro him
              cases hL:listed.getD i true with
              |true=>rfl
              |false=>
                have hil:i<l.length:=by have:=D.le;omega
                have:=hready i hil hL fun j hj=>ihi j (D.up i hil j hj) (by have:=D.up i hil j hj;omega)
                rw [h0] at this;cases this
          · have him := hmain i hi
            obtain⟨o,d,ho,hd,hdn⟩:=hdst i him
            obtain⟨V,hVi⟩:=hVget i him
            have hop:=(hV i o V (by rw [hget i him];exact ho) hVi).2 ρ' w' g hx hgi (fun hk=>by have h1:=hready' i hi;have h2:=hdone i h1.1 hk;rw [h1.2.1] at h2;cases h2) (holds i o him hi ho)
            unfold wpOpIn
            simp only [List.getElem?_toArray,ho]
            rw [ha.yieldedE]
            unfold FQ at hop
            split
            · rename_i hw
              rw [if_pos hw] at hop
              exact hop.wpIn ha fun v w'' ⟨g'',h1,h2,h3,h4⟩=>next i o d V v w'' g'' him hi ho hd hVi h1 h2 h3 h4
            · rename_i hw
              rw [if_neg hw] at hop
              obtain⟨g'',h1,h2,h3,h4⟩:=hop
              exact⟨fun _ _=>trivial,next i o d V undef w' g'' him hi ho hd hVi h1 h2 h3 h4⟩
  have hrep:∀i,i<l.length→(Array.replicate l.length false).getD i true=false:=fun i hi=>by simp [Array.getD_eq_getD_getElem?,hi]
  have hsz:l.toArray.size=l.length:=by simp
  rw [hsz]
  refine key l.length (Array.replicate l.length false) a ρ {w with drawn:=w.drawn+1} g0 (by simp) (Pq _ _) ha rfl (T.drew w g0 hinv).2 (T.drew w g0 hinv).1 (fun i _ hi=>hrep i hi) (fun i hi hL=>?_) (fun t _=>rfl) (fun i hi hL=>?_) (fun i _ hi=>by rw [hg0] at hi;cases hi)
  · rw [hrep i (by have:=D.le;omega)] at hL;cases hL
  · rw [hrep i hi] at hL;cases hL
def JD (P:Program) (r:Option Nat) (n:Nat) (ops:List Oper) (f:Nat) (Q:I5):Nat→Nat→EH→World→Prop
  |d,k,ρ,w=>(match d with
      |0=>True
      |d+1=>f∈C0 ops k∨∃o,ops[k]?=some o∧o.dst.all (·<n)=true∧FQ P r ops ρ w o fun v w'=>JD P r n ops f Q d (k+1) (JC ρ o.dst v) w')∧
    ∃o,ops[f]?=some o∧o.dst.all (·<n)=true∧FQ P r ops ρ w o fun v w'=>Rg P r n ops (ops.drop k) Q (JC ρ o.dst v) w'
structure KR (n:Nat) (ops:List Oper) (m:Nat) (fs:List Nat) (f:Nat):Prop where
  dst:∀j<m,(CR ops j).any (·<n)=true∧∀i<j,CR ops i≠CR ops j
  up:∀j<ops.length,∀i∈C0 ops j,i<j
  look:∀j<m,∀t∈Hg ops j,∀i<m,CR ops i=some t→i∈C0 ops j
  tail:∀k<ops.length,m≤k→(∀i<m,i ∉ fs→i≠f→i∈VS ops k)∧(m<k→k - 1∈C0 ops k)
  fl:∀f∈fs,f<m∧M0 ops f=true∧(∀i∈C0 ops f,i ∉ fs∧i<m)∧∀j<ops.length,j≠f→j∈C0 ops f∨f∈C0 ops j∨Mz ops f j=true
  sel:Region.noSelect ops.toArray=true
  le:m≤ops.length
  late:f<m∧f ∉ fs∧∀j<m,f ∉ C0 ops j
def Pr (n:Nat) (ops:List Oper) (m:Nat) (fl:List Nat) (f:Nat):Bool:=
  GH m (fun j=>(CR ops j).any (·<n)&&GH j fun i=>CR ops i !=CR ops j)&&
  (GH ops.length (fun j=>(C0 ops j).all (·<j))&&
  (GH m (fun j=>(Hg ops j).all fun t=>GH m fun i=>CR ops i !=some t||(C0 ops j).contains i)&&
  (GH ops.length (fun k=>k<m||(GH m (fun i=>fl.contains i||(i == f||(VS ops k).contains i))&&(k≤m||(C0 ops k).contains (k - 1))))&&
  (fl.all (fun f=>f<m&&(M0 ops f&&((C0 ops f).all (fun i=>!fl.contains i&&i<m)&&GH ops.length fun j=>j == f||(C0 ops f).contains j||(C0 ops j).contains f||Mz ops f j)))&&
  (Region.noSelect ops.toArray&&(m≤ops.length&&(f<m&&(!fl.contains f&&GH m fun j=>!(C0 ops j).contains f))))))))
theorem KR.of {n:Nat} {ops:List Oper} {m:Nat} {fl:List Nat} {f:Nat} (h:Pr n ops m fl f=true):KR n ops m fl f:=by
  simp only [Pr,Bool.and_eq_true] at h
  obtain⟨h1,h2,h3,h4,h5,h6,h7,h8,h9,h10⟩:=h
  refine⟨fun j hj=>?_,fun j hj i hi=>?_,fun j hj t ht i hi hd=>?_,fun k hk hm=>?_,fun f hf=>?_,h6,by simpa using h7,by simpa using h8,by simpa using h9,fun j hj=>by simpa using C1 h10 j hj⟩
  · have := C1 h1 j hj
    simp only [Bool.and_eq_true] at this
    exact⟨this.1,fun i hi=>by simpa using C1 this.2 i hi⟩
  · have := List.all_eq_true.1 (C1 h2 j hj) i hi
    simpa using this
  · have := C1 (List.all_eq_true.1 (C1 h3 j hj) t ht) i hi
    simp only [Bool.or_eq_true,bne_iff_ne,ne_eq,List.contains_eq_mem,decide_eq_true_eq] at this
    exact this.resolve_left (fun h=>h hd)
  · have := C1 h4 k hk
    simp only [Bool.or_eq_true,decide_eq_true_eq,Bool.and_eq_true,List.contains_eq_mem] at this
    rcases this with h |⟨h,h'⟩
    · omega
    · refine ⟨fun i hi hf hne => ?_, fun hmk => h'.resolve_left (by omega)⟩
      have:=C1 h i hi
      simp only [Bool.or_eq_true,decide_eq_true_eq,beq_iff_eq] at this
      exact(this.resolve_left hf).resolve_left hne
  · have := List.all_eq_true.1 h5 f hf
    simp only [Bool.and_eq_true,decide_eq_true_eq] at this
    obtain⟨p1,p2,p3,p4⟩:=this
    refine⟨p1,p2,fun i hi=>?_,fun j hj hne=>?_⟩
    · have := List.all_eq_true.1 p3 i hi
      simpa using this
    · have := C1 p4 j hj
      simp only [Bool.or_eq_true,beq_iff_eq,List.contains_eq_mem,decide_eq_true_eq] at this
      rcases this with ((h |h) |h) |h
      · exact absurd h hne
      · exact .inl h
      · exact .inr (.inl h)
      · exact .inr (.inr h)
theorem M3 {f:Nat} (D:KR n l m fl f) {Q':Exit→Act→World→Prop} :∀(fuel k:Nat) (listed:Array Bool) (a:Act) (w:World),m≤k→k≤l.length→QN listed l.length≤fuel→listed.size=l.length→
    (∀i,i<l.length→listed.getD i true=decide (i<k))→wpListIn (FW r) 0 P l.toArray Q' (l.drop k) a w→wpAnyIn (FW r) 0 P .any l.toArray Q' fuel listed a w:=by
  intro fuel
  induction fuel with
  |zero=>
    intro k listed a w hmk hkl hc hsz hL h
    have hz:=Ir (Nat.le_zero.1 hc)
    have hrd:Region.ready .any l.toArray listed=[]:=by
      rw [List.eq_nil_iff_forall_not_mem]
      intro i hi
      obtain⟨h1,o,ho,_⟩:=mem_ready.1 hi
      have hil:i<l.length:=by simpa using (Array.getElem?_eq_some_iff.1 ho).1
      rw [hz i hil] at h1
      cases h1
    have hk:l.length≤k:=by
      rcases Nat.lt_or_ge k l.length with hlt |hge
      · have:=hz k hlt;rw [hL k hlt] at this;simp at this
      · exact hge
    rw [List.drop_of_length_le hk] at h
    exact⟨hrd,h⟩
  |succ fuel ih=>
    intro k listed a w hmk hkle hc hsz hL h
    rcases Nat.eq_or_lt_of_le hkle with hkl |hkl
    · have hrd:Region.ready .any l.toArray listed=[]:=by
        rw [List.eq_nil_iff_forall_not_mem]
        intro i hi
        obtain⟨h1,o,ho,_⟩:=mem_ready.1 hi
        have hil:i<l.length:=by simpa using (Array.getElem?_eq_some_iff.1 ho).1
        rw [hL i hil] at h1
        simp at h1;omega
      rw [List.drop_of_length_le (by omega)] at h
      exact wpAnyIn_done hrd h _
    have hgD:∀i,i<l.length→listed.getD i false=listed.getD i true:=fun i hi=>by simp [Array.getD_eq_getD_getElem?,Array.getElem?_eq_getElem (show i<listed.size by omega)]
    -- what may come up is k alone
    have hrd:∀i∈Region.ready .any l.toArray listed,i=k:=by
      intro i hi
      obtain⟨h1,o,ho,hdep⟩:=mem_ready.1 hi
      have hil:i<l.length:=by simpa using (Array.getElem?_eq_some_iff.1 ho).1
      rw [hL i hil] at h1
      have hik:k≤i:=by simpa using h1
      rcases Nat.eq_or_lt_of_le hik with e |hlt
      · exact e.symm
      · exfalso
        have hm':=(D.tail i hil (by omega)).2 (by omega)
        rw [Ei (by simpa using ho)] at hm'
        obtain⟨e,he,hb,hon⟩:=hm'
        have:=hdep e he hb
        rw [hon,hgD _ (by omega),hL _ (by omega)] at this
        simp at this;omega
    have hk1:k∈Region.ready .any l.toArray listed:=by
      refine mem_ready.2 ⟨by rw [hL k hkl];simp,l[k],by simp [hkl],fun e he hb=>?_⟩
      have:=D.up k hkl e.on ((Ei (List.getElem?_eq_getElem hkl)).2 ⟨e,he,hb,rfl⟩)
      rw [hgD _ (by omega),hL _ (by omega)];simpa using this
    refine⟨fun h0=>absurd hk1 (by rw [h0];simp),fun i hi=>?_⟩
    have:=hrd i hi
    subst this
    rw [List.drop_eq_getElem_cons hkl] at h
    have h':=h
    unfold wpOpIn
    simp only [List.getElem?_toArray,List.getElem?_eq_getElem hkl]
    simp only [wpListIn] at h'
    have hL':∀j,j<l.length→(listed.setIfInBounds i true).getD j true=decide (j<i+1):=by
      intro j hj
      by_cases hji:j=i
      · subst hji;simp [Array.getD_eq_getD_getElem?,hsz,hkl]
      · have := hL j hj
        simp only [Array.getD_eq_getD_getElem?,Array.getElem?_setIfInBounds,Ne.symm hji,if_false] at this ⊢
        rw [this];simp;omega
    have step:∀a' w',wpListIn (FW r) 0 P l.toArray Q' (l.drop (i+1)) a' w'→wpAnyIn (FW r) 0 P .any l.toArray Q' fuel (listed.setIfInBounds i true) a' w':=
      fun a' w' hh=>ih (i+1) _ a' w' (by omega) (by omega) (by
        have:=Jn (L:=listed) (i:=i) (by omega) (by rw [hL i hkl];simp) l.length
        rw [if_pos hkl] at this;omega) (by simpa using hsz) hL' hh
    split
    · rename_i hw
      rw [if_pos hw] at h'
      exact Oper.wpIn_mono step h'
    · rename_i hw
      rw [if_neg hw] at h'
      exact⟨h'.1,step _ _ h'.2⟩
theorem SE {f:Nat} (D:KR n l m fl f):∀(fuel k:Nat) (listed:Array Bool) (a:Act) (ρ:EH) (w:World),m≤k→k≤l.length→QN listed l.length≤fuel→listed.size=l.length→GS n ρ a→
    (∀i,i<l.length→listed.getD i true=decide (i<k∧i≠f))→JD P r n l f Q (l.length - k) k ρ w→wpAnyIn (FW r) 0 P .any l.toArray (LN n Q) fuel listed a w:=by
  intro fuel
  induction fuel with
  |zero=>
    intro k listed a ρ w hmk hkl hc hsz ha hL h
    have hz:=Ir (Nat.le_zero.1 hc)
    have hfm:=D.late.1
    have h1:=hz f (by omega)
    rw [hL f (by omega)] at h1
    simp at h1
  |succ fuel ih=>
    intro k listed a ρ w hmk hkl hc hsz ha hL h
    have hfm:=D.late.1
    have hgD:∀i,i<l.length→listed.getD i false=listed.getD i true:=fun i hi=>LQ (by omega) false
    have hfl:f<l.length:=by omega
    have hf1:f∈Region.ready .any l.toArray listed:=by
      refine mem_ready.2 ⟨by rw [hL f hfl];simp,l[f],by simp [hfl],fun e he hb=>?_⟩
      have hj:=(Ei (List.getElem?_eq_getElem hfl)).2 ⟨e,he,hb,rfl⟩
      have:=D.up f hfl e.on hj
      rw [hgD _ (by omega),hL _ (by omega)];simp;omega
    refine⟨fun h0=>absurd hf1 (by rw [h0];simp),fun i hi=>?_⟩
    obtain⟨h1,o,ho,hdep⟩:=mem_ready.1 hi
    have hil:i<l.length:=by simpa using (Array.getElem?_eq_some_iff.1 ho).1
    have ho':l[i]?=some o:=by simpa using ho
    rw [hL i hil] at h1
    have hcase:i=f∨(i=k∧k<l.length):=by
      by_cases hif:i=f
      · exact .inl hif
      · have hki : k ≤ i := by simp at h1; rcases Nat.lt_or_ge i k with h | h; exact absurd (h1 h) hif; exact h
        rcases Nat.eq_or_lt_of_le hki with e |hlt
        · exact .inr ⟨e.symm,by omega⟩
        · exfalso
          have hm':=(D.tail i hil (by omega)).2 (by omega)
          rw [Ei ho'] at hm'
          obtain⟨e,he,hb,hon⟩:=hm'
          have:=hdep e he hb
          rw [hon,hgD _ (by omega),hL _ (by omega)] at this
          simp at this;omega
    have hcs:=fun(hu:listed.getD i true=false)=>Jn (L:=listed) (i:=i) (by omega) hu l.length
    rw [hL i hil] at hcs
    have hcs:=hcs h1
    rw [if_pos hil] at hcs
    unfold wpOpIn
    simp only [ho]
    rw [ha.yieldedE]
    rcases hcase with rfl |⟨rfl,hkl'⟩
    · -- f itself
      unfold JD at h
      obtain⟨o2,g1,g2,g3⟩:=h.2
      rw [ho'] at g1;cases g1
      have goOn:∀v w',Rg P r n l (l.drop k) Q (JC ρ o.dst v) w'→wpAnyIn (FW r) 0 P .any l.toArray (LN n Q) fuel (listed.setIfInBounds i true) (a.put o.dst v) w':=fun v w' hr=>by
        unfold Rg at hr
        refine M3 D fuel k _ _ w' hmk hkl (by omega) (by simpa using hsz) (fun j hj=>?_) (hr _ (ha.put g2 v))
        rw [Ec (by omega)]
        by_cases hji:j=i
        · subst hji;simp;omega
        · rw [if_neg hji,hL j hj];simp [hji]
      unfold FQ at g3
      split
      · rename_i hw
        rw [if_pos hw] at g3
        exact g3.wpIn ha fun v w'' hh=>goOn v w'' hh
      · rename_i hw
        rw [if_neg hw] at g3
        exact⟨fun _ _=>trivial,goOn undef w g3⟩
    · -- the next of the last
      have hd:l.length - i=(l.length - (i+1))+1:=by omega
      rw [hd] at h
      unfold JD at h
      have hnf:f ∉ C0 l i:=fun hm=>by
        rw [Ei ho'] at hm
        obtain⟨e,he,hb,hon⟩:=hm
        have:=hdep e he hb
        rw [hon,hgD _ (by omega),hL _ (by omega)] at this
        simp at this
      obtain⟨o2,g1,g2,g3⟩:=h.1.resolve_left hnf
      rw [ho'] at g1;cases g1
      have goOn:∀v w',JD P r n l f Q (l.length - (i+1)) (i+1) (JC ρ o.dst v) w'→wpAnyIn (FW r) 0 P .any l.toArray (LN n Q) fuel (listed.setIfInBounds i true) (a.put o.dst v) w':=fun v w' hr=>by
        refine ih (i+1) _ _ _ w' (by omega) (by omega) (by omega) (by simpa using hsz) (ha.put g2 v) (fun j hj=>?_) hr
        rw [Ec (by omega)]
        by_cases hji:j=i
        · subst hji;simp;omega
        · rw [if_neg hji,hL j hj];by_cases hjf:j=f<;> simp [hjf]<;> omega
      unfold FQ at g3
      split
      · rename_i hw
        rw [if_pos hw] at g3
        exact g3.wpIn ha fun v w'' hh=>goOn v w'' hh
      · rename_i hw
        rw [if_neg hw] at g3
        exact⟨fun _ _=>trivial,goOn undef w g3⟩
theorem Tn {f df:Nat} {T:OD Γ} {g0:Γ} {id:Nat} {ρ:EH} {w:World} (hinv:T.inv w g0) (hg0:T.dn g0=[]) (hro:r=none∨fl=[]) (hm:P.follows .mixedOrders=true) (hB:Pr n l m fl f=true) (hdf:CR l f=some df)
    (h:Dw P r T l ρ w g0 (fun G=>K7 T ρ w g0 (fun ρ' w' _=>Rg P r n l (l.drop m) Q ρ' w') G.reverse∧K7 T ρ w g0 (fun ρ' w' _=>JD P r n l f Q (l.length - m) m ρ' w') (G.reverse.filter fun p=>p.1 !=df)) (l.take m) []):Wp P r n (.region id l.toArray true) Q ρ w:=by
  have D:=KR.of hB
  obtain⟨Vs,hVl,hV,hfin⟩:=Dw.facts _ _ h
  simp only [List.nil_append,List.length_nil,Nat.zero_add,List.length_take,Nat.min_eq_left D.le] at hVl hV hfin
  unfold Wp
  intro a ha
  apply wpIn_region_any hm
  -- the slots and what is known of them
  have hget:∀i,i<m→(l.take m)[i]?=l[i]?:=fun i hi=>by rw [List.getElem?_take,if_pos hi]
  have hdst:∀i,i<m→∃o d,l[i]?=some o∧o.dst=some d∧d<n:=fun i hi=>by
    have h1:=(D.dst i hi).1
    unfold CR at h1
    cases ho:l[i]? with
    |none=>simp [ho] at h1
    |some o=>
      cases hd:o.dst with
      |none=>simp [ho,hd] at h1
      |some d=>exact⟨o,d,rfl,hd,by simpa [ho,hd] using h1⟩
  have hVget:∀i,i<m→∃V,Vs[i]?=some V:=fun i hi=>⟨_,List.getElem?_eq_getElem (by omega)⟩
  let G:List (Nat × VR Γ):=((l.take m).map fun o=>(o.dst).getD 0).zip Vs
  have hGget:∀i o d V,i<m→l[i]?=some o→o.dst=some d→Vs[i]?=some V→G[i]?=some (d,V):=fun i o d V hi ho hd hV=>by
    simp only [G,List.getElem?_zip_eq_some,List.getElem?_map,hget i hi,ho,Option.map_some,hd,Option.getD_some,hV,and_self]
  have hGlen:G.length=m:=by simp [G,hVl,Nat.min_eq_left D.le]
  have hGinv:∀i p,G[i]?=some p→i<m∧∃o,l[i]?=some o∧o.dst=some p.1∧Vs[i]?=some p.2:=fun i p hp=>by
    have him:i<m:=by rw [← hGlen];exact(List.getElem?_eq_some_iff.1 hp).1
    obtain⟨o,d,ho,hd,_⟩:=hdst i him
    obtain⟨V,hV'⟩:=hVget i him
    rw [hGget i o d V him ho hd hV'] at hp
    cases hp
    exact⟨him,o,ho,hd,hV'⟩
  have hnodup:(G.map Prod.fst).Nodup:=by
    rw [List.nodup_iff_pairwise_ne,List.pairwise_iff_getElem]
    intro i j hi hj hij e
    simp only [List.length_map] at hi hj
    obtain⟨h1,o1,a1,a2,_⟩:=hGinv i G[i] (List.getElem?_eq_getElem hi)
    obtain⟨h2,o2,b1,b2,_⟩:=hGinv j G[j] (List.getElem?_eq_getElem hj)
    simp only [List.getElem_map] at e
    exact(D.dst j h2).2 i hij (by simp [CR,a1,a2,b1,b2,e])
  have hnodup':(G.reverse.map Prod.fst).Nodup:=by rw [List.map_reverse];exact(List.reverse_perm _).nodup_iff.2 hnodup
  -- the walk
  have key:∀(fuel:Nat) (listed:Array Bool) (a:Act) (ρ':EH) (w':World) (g:Γ),listed.size=l.length→QN listed l.length≤fuel→
      GS n ρ' a→ρ'.ds=ρ.ds→T.le w g0 w' g→T.inv w' g→
      (∀i,m≤i→i<l.length→listed.getD i true=false)→
      (∀i,i<m→listed.getD i true=true→∀o d V,l[i]?=some o→o.dst=some d→Vs[i]?=some V→V (ρ' d) w' g)→
      (∀t,(∀i,i<m→listed.getD i true=true→CR l i≠some t)→ρ' t=ρ t)→
      (∀i,i<l.length→listed.getD i true=true→∀j∈C0 l i,listed.getD j true=true)→(∀i,i<l.length→i∈T.dn g→listed.getD i true=true)→
      wpAnyIn (FW r) 0 P .any l.toArray (LN n Q) fuel listed a w':=by
    intro fuel
    induction fuel with
    |zero=>
      intro listed a ρ' w' g hsz hc ha hds hx hgi htail hfact hframe hdc hdone
      have hz:=Ir (Nat.le_zero.1 hc)
      have hml:m=l.length:=by
        rcases Nat.eq_or_lt_of_le D.le with h |h
        · exact h
        · have h1:=htail m (Nat.le_refl _) h;rw [hz m h] at h1;cases h1
      have hK:=hfin.1 w' g hx hgi
      have hR:=PX.apply G.reverse ρ ρ' hK hnodup' (fun p hp=>by
          obtain⟨i,hi⟩:=List.mem_iff_getElem?.1 (List.mem_reverse.1 hp)
          obtain⟨him,o,ho,hd,hV'⟩:=hGinv i p hi
          exact hfact i him (hz i (by omega)) o _ _ ho hd hV') (fun t ht=>hframe t fun i him _ e=>by
          obtain⟨o,d,ho,hd,_⟩:=hdst i him
          obtain⟨V,hV'⟩:=hVget i him
          have:d=t:=by simpa [CR,ho,hd] using e
          subst this
          exact ht (List.mem_map.2 ⟨(d,V),List.mem_reverse.2 (List.mem_of_getElem? (hGget i o d V him ho hd hV')),rfl⟩)) hds
      unfold Rg at hR
      exact M3 D 0 m listed a w' (Nat.le_refl _) D.le hc hsz (fun i hi=>by rw [hz i hi];simp;omega) (hR a ha)
    |succ fuel ih=>
      intro listed a ρ' w' g hsz hc ha hds hx hgi htail hfact hframe hdc hdone
      by_cases hall:∀i,i<m→listed.getD i true=true
      · have hK := hfin.1 w' g hx hgi
        have hR:=PX.apply G.reverse ρ ρ' hK hnodup' (fun p hp=>by
            obtain⟨i,hi⟩:=List.mem_iff_getElem?.1 (List.mem_reverse.1 hp)
            obtain⟨him,o,ho,hd,hV'⟩:=hGinv i p hi
            exact hfact i him (hall i him) o _ _ ho hd hV') (fun t ht=>hframe t fun i him _ e=>by
            obtain⟨o,d,ho,hd,_⟩:=hdst i him
            obtain⟨V,hV'⟩:=hVget i him
            have:d=t:=by simpa [CR,ho,hd] using e
            subst this
            exact ht (List.mem_map.2 ⟨(d,V),List.mem_reverse.2 (List.mem_of_getElem? (hGget i o d V him ho hd hV')),rfl⟩)) hds
        unfold Rg at hR
        refine M3 D _ m listed a w' (Nat.le_refl _) D.le hc hsz (fun i hi=>?_) (hR a ha)
        by_cases him:i<m
        · rw [hall i him];simp [him]
        · rw [htail i (by omega) hi];simp [him]
      by_cases hpend:∀i,i<m→i≠f→listed.getD i true=true
      · -- f alone is still to come
        have hfu:listed.getD f true=false:=by
          cases hfl:listed.getD f true with
          |false=>rfl
          |true=>exact absurd (fun i hi=>if e:i=f then e ▸ hfl else hpend i hi e) hall
        have hK:=hfin.2 w' g hx hgi
        have hR:=PX.apply _ ρ ρ' hK ((List.filter_sublist.map Prod.fst).nodup hnodup') (fun p hp=>by
            obtain⟨hp1,hp2⟩:=List.mem_filter.1 hp
            obtain⟨i,hi⟩:=List.mem_iff_getElem?.1 (List.mem_reverse.1 hp1)
            obtain⟨him,o,ho,hd,hV'⟩:=hGinv i p hi
            have hif:i≠f:=fun e=>by
              subst e
              have:p.1=df:=by simpa [CR,ho,hd] using hdf
              simp [this] at hp2
            exact hfact i him (hpend i him hif) o _ _ ho hd hV') (fun t ht=>hframe t fun i him hli e=>by
            obtain⟨o,d,ho,hd,_⟩:=hdst i him
            obtain⟨V,hV'⟩:=hVget i him
            have:d=t:=by simpa [CR,ho,hd] using e
            subst this
            have hif:i≠f:=fun e=>by subst e;rw [hfu] at hli;cases hli
            have hdd:d≠df:=fun e2=>by
              subst e2
              rcases Nat.lt_or_ge i f with hlt |hge
              · exact(D.dst f D.late.1).2 i hlt (by rw [e,hdf])
              · exact(D.dst i him).2 f (by omega) (by rw [e,hdf])
            exact ht (List.mem_map.2 ⟨(d,V),List.mem_filter.2 ⟨List.mem_reverse.2 (List.mem_of_getElem? (hGget i o d V him ho hd hV')),by simpa using hdd⟩,rfl⟩)) hds
        refine SE D _ m listed a ρ' w' (Nat.le_refl _) D.le hc hsz ha (fun i hi=>?_) hR
        by_cases him:i<m
        · by_cases hif : i = f
          · subst hif;rw [hfu];simp
          · rw [hpend i him hif];simp [him,hif]
        · rw [htail i (by omega) hi];simp [him]
      · -- one of the first has not come up
        have hgD:∀i,i<l.length→∀b,listed.getD i b=listed.getD i true:=fun i hi b=>LQ (by omega) b
        have hready:∀i,i<l.length→listed.getD i true=false→(∀j∈C0 l i,listed.getD j true=true)→i∈Region.ready .any l.toArray listed:=fun i hi hu hd=>by
          refine mem_ready.2 ⟨hu,l[i],by simp [hi],fun e he hb=>?_⟩
          have hj:=(Ei (List.getElem?_eq_getElem hi)).2 ⟨e,he,hb,rfl⟩
          rw [hgD _ (by have:=D.up i hi e.on hj;omega)]
          exact hd _ hj
        have hready':∀i∈Region.ready .any l.toArray listed,i<l.length∧listed.getD i true=false∧∀j∈C0 l i,listed.getD j true=true:=fun i hi=>by
          obtain⟨h1,o,ho,hdep⟩:=mem_ready.1 hi
          have hil:i<l.length:=by simpa using (Array.getElem?_eq_some_iff.1 ho).1
          refine⟨hil,h1,fun j hj=>?_⟩
          have hj':=hj
          rw [Ei (by simpa using ho)] at hj
          obtain⟨e,he,hb,rfl⟩:=hj
          rw [← hgD _ (by have:=D.up i hil e.on hj';omega) false]
          exact hdep e he hb
        -- what stands behind one of the first
        have next:∀i o d V v w'' g'',i<m→i∈Region.ready .any l.toArray listed→l[i]?=some o→o.dst=some d→Vs[i]?=some V→T.inv w'' g''→T.le w' g w'' g''→V v w'' g''→(∀k∈T.dn g'',k∈T.dn g∨k=i)→
            wpAnyIn (FW r) 0 P .any l.toArray (LN n Q) fuel (listed.setIfInBounds i true) (a.put o.dst v) w'':=by
          intro i o d V v w'' g'' him hi ho hd hVi hi'' hx' hv hdo
          obtain⟨hil,hu,hdep⟩:=hready' i hi
          have his:i<listed.size:=by omega
          obtain⟨o',d',ho',hd',hdn⟩:=hdst i him
          rw [ho] at ho';cases ho'
          rw [hd] at hd';cases hd'
          have hput:=ha.put (d:=o.dst) (by rw [hd];simpa using hdn) v
          rw [hd] at hput
          simp only [JC] at hput
          rw [hd]
          refine ih _ _ _ _ g'' (by simpa using hsz) ?_ hput hds (T.trans hx hx') hi'' (fun j hj hjl=>?_) (fun j hjm hjL o2 d2 V2 ho2 hd2 hV2=>?_) (fun t ht=>?_) (fun j hjl hjL k hk=>?_) (fun k hkl hk=>?_)
          · have := Jn his hu l.length
            rw [if_pos hil] at this;omega
          · rw [Ec his,if_neg (by omega)];exact htail j hj hjl
          · rw [Ec his] at hjL
            by_cases hji:j=i
            · subst hji
              rw [ho] at ho2;cases ho2
              rw [hd] at hd2;cases hd2
              rw [hVi] at hV2;cases hV2
              rw [Ky];exact hv
            · rw [if_neg hji] at hjL
              have hne:d2≠d:=by
                intro e
                subst e
                rcases Nat.lt_or_ge j i with hlt |hge
                · exact(D.dst i him).2 j hlt (by simp [CR,ho,hd,ho2,hd2])
                · exact(D.dst j hjm).2 i (by omega) (by simp [CR,ho,hd,ho2,hd2])
              rw [Ht _ _ _ hne]
              exact(hV j o2 V2 (by rw [hget j hjm];exact ho2) hV2).1 _ _ _ _ _ hx' (hfact j hjm hjL o2 d2 V2 ho2 hd2 hV2)
          · have htd : t ≠ d := fun e => ht i him (by rw [Ec his, if_pos rfl]) (by simp [CR, ho, hd, e])
            rw [Ht _ _ _ htd]
            exact hframe t fun j hjm hjL=>ht j hjm (by
              rw [Ec his]
              split
              · rfl
              · exact hjL)
          · have hkl:listed.getD k true=true:=by
              rw [Ec his] at hjL
              split at hjL
              · rename_i e;subst e;exact hdep k hk
              · exact hdc j hjl hjL k hk
            rw [Ec his];split
            · rfl
            · exact hkl
          · rw [Ec his]
            rcases hdo k hk with h |h
            · split
              · rfl
              · exact hdone k hkl h
            · rw [if_pos h]
        -- what operation i finds
        have holds:∀i o,i<m→i∈Region.ready .any l.toArray listed→l[i]?=some o→∀t,(o.looksAt l.toArray).contains t=true→Gj (G.take i) ρ ρ' w' g t:=by
          intro i o him hi ho t ht
          obtain⟨hil,hu,hdep⟩:=hready' i hi
          have htl:t∈Hg l i:=by simp only [Hg,ho];simpa using ht
          unfold Gj
          cases hlk:look (G.take i) t with
          |some V=>
            obtain⟨j,hj⟩:=List.mem_iff_getElem?.1 (M1 hlk)
            rw [List.getElem?_take] at hj
            split at hj
            · rename_i hji
              obtain⟨hjm,o2,ho2,hd2,hV2⟩:=hGinv j _ hj
              have:=D.look i him t htl j hjm (by simp [CR,ho2,hd2])
              exact hfact j hjm (hdep j this) o2 t V ho2 hd2 hV2
            · cases hj
          |none=>
            refine hframe t fun j hjm hjL e=>?_
            have hji:=D.up i hil j (D.look i him t htl j hjm e)
            obtain⟨o2,d2,ho2,hd2,_⟩:=hdst j hjm
            obtain⟨V2,hV2⟩:=hVget j hjm
            have:d2=t:=by simpa [CR,ho2,hd2] using e
            subst this
            exact M2 hlk (List.mem_map.2 ⟨(d2,V2),List.mem_of_getElem? (i:=j) (by rw [List.getElem?_take,if_pos hji];exact hGget j o2 d2 V2 hjm ho2 hd2 hV2),rfl⟩)
        by_cases hfl:∃f∈fl,f∈Region.ready .any l.toArray listed
        · -- one that may be taken first
          obtain⟨f,hf,hfr⟩:=hfl
          have hr:r=none:=hro.resolve_right (fun e=>by rw [e] at hf;cases hf)
          subst hr
          obtain⟨hfm,hfB,hfd,hfa⟩:=D.fl f hf
          obtain⟨o,d,ho,hd,hdn⟩:=hdst f hfm
          obtain⟨V,hVf⟩:=hVget f hfm
          have hop:=(hV f o V (by rw [hget f hfm];exact ho) hVf).2 ρ' w' g hx hgi (fun hk=>by have h1:=hready' f hfr;have h2:=hdone f h1.1 hk;rw [h1.2.1] at h2;cases h2) (holds f o hfm hfr ho)
          unfold M0 at hfB
          rw [ho] at hfB
          have hg:o.guard=none:=by
            obtain⟨dst,op,ty,pos,aft,g⟩:=o
            cases dst<;> cases op<;> cases g<;> simp at hfB<;> rfl
          unfold FQ at hop
          rw [if_pos (by simp [Region.wanted,hg])] at hop
          obtain⟨v,hv1,g'',hv2,hv4,hv3,hv5⟩:=OE (by
            obtain⟨dst,op,ty,pos,aft,g⟩:=o
            cases dst<;> cases op<;> cases g<;> simp at hfB<;> rfl) hop
          refine wpAnyIn_first (i:=f) (oi:=o) (v:=v) rfl (by simpa using ho) (Region.noSelect_spec D.sel) (fun c _ _ hh=>absurd rfl (hh.1 c)) fuel listed a w' (fun j oj hoj hjf hju hno=>?_) hfr ?_ (next f o d V v w' g'' hfm hfr ho hd hVf hv2 hv4 hv3 hv5)
          · have hjl : j < l.length := by simpa using (Array.getElem?_eq_some_iff.1 hoj).1
            have hoj':l[j]?=some oj:=by simpa using hoj
            rcases hfa j hjl hjf with h1 |h1 |h1
            · have := (hready' f hfr).2.2 j h1
              rw [this] at hju;cases hju
            · exfalso
              rw [Ei hoj'] at h1
              obtain⟨e,he,hb,hon⟩:=h1
              exact hno e he hb hon
            · simpa [Mz,ho,hoj'] using h1
          · refine ⟨.inl ⟨by simp [Region.wanted, hg], fun w => by rw [ha.eval]; exact hv1 w⟩, fun w => ?_⟩
            obtain⟨dst,op,ty,pos,aft,g⟩:=o
            cases dst<;> cases op<;> cases g<;> simp at hfB<;> rfl
        · have hmain:∀i∈Region.ready .any l.toArray listed,i<m:=by
            intro i hi
            obtain⟨hil,hu,hdep⟩:=hready' i hi
            rcases Nat.lt_or_ge i m with h |hmi
            · exact h
            · exfalso
              have hclo:=Lv (L:=fun j=>listed.getD j true=true) (fun j hj k hk=>by
                rcases Nat.lt_or_ge j l.length with hjl |hjl
                · exact hdc j hjl hj k hk
                · simp [C0,List.getElem?_eq_none hjl] at hk) i hdep
              refine hpend fun j hj hjne=>?_
              by_cases hjf:j∈fl
              · cases hjL : listed.getD j true with
                |true=>rfl
                |false=>
                  exact absurd ⟨j,hjf,hready j (by have:=D.le;omega) hjL fun k hk=>by
                    have:=(D.fl j hjf).2.2.1 k hk
                    exact hclo k ((D.tail i hil hmi).1 k this.2 this.1 fun e=>D.late.2.2 j hj (e ▸ hk))⟩ hfl
              · exact hclo j ((D.tail i hil hmi).1 j hj hjf hjne)
          refine⟨fun h0=>?_,fun i hi=>?_⟩
          · -- the first that has not come up may come up
            exfalso
            apply hall
            intro i
            induction i using Nat.strongRecOn with
            |_ i ihi=>
              intro him
              cases hL:listed.getD i true with
              |true=>rfl
              |false=>
                have hil:i<l.length:=by have:=D.le;omega
                have:=hready i hil hL fun j hj=>ihi j (D.up i hil j hj) (by have:=D.up i hil j hj;omega)
                rw [h0] at this;cases this
          · have him := hmain i hi
            obtain⟨o,d,ho,hd,hdn⟩:=hdst i him
            obtain⟨V,hVi⟩:=hVget i him
            have hop:=(hV i o V (by rw [hget i him];exact ho) hVi).2 ρ' w' g hx hgi (fun hk=>by have h1:=hready' i hi;have h2:=hdone i h1.1 hk;rw [h1.2.1] at h2;cases h2) (holds i o him hi ho)
            unfold wpOpIn
            simp only [List.getElem?_toArray,ho]
            rw [ha.yieldedE]
            unfold FQ at hop
            split
            · rename_i hw
              rw [if_pos hw] at hop
              exact hop.wpIn ha fun v w'' ⟨g'',h1,h2,h3,h4⟩=>next i o d V v w'' g'' him hi ho hd hVi h1 h2 h3 h4
            · rename_i hw
              rw [if_neg hw] at hop
              obtain⟨g'',h1,h2,h3,h4⟩:=hop
              exact⟨fun _ _=>trivial,next i o d V undef w' g'' him hi ho hd hVi h1 h2 h3 h4⟩
  have hrep:∀i,i<l.length→(Array.replicate l.length false).getD i true=false:=fun i hi=>by simp [Array.getD_eq_getD_getElem?,hi]
  have hsz:l.toArray.size=l.length:=by simp
  rw [hsz]
  refine key l.length (Array.replicate l.length false) a ρ {w with drawn:=w.drawn+1} g0 (by simp) (Pq _ _) ha rfl (T.drew w g0 hinv).2 (T.drew w g0 hinv).1 (fun i _ hi=>hrep i hi) (fun i hi hL=>?_) (fun t _=>rfl) (fun i hi hL=>?_) (fun i _ hi=>by rw [hg0] at hi;cases hi)
  · rw [hrep i (by have:=D.le;omega)] at hL;cases hL
  · rw [hrep i hi] at hL;cases hL
end

/-! the same, what is known kept last first -/
def LR (P:Program) (r:Option Nat) (T:OD Γ) (ops:List Oper) (ρ0:EH) (w0:World) (g0:Γ) (leaf:List (Nat × VR Γ)→Prop):List Oper→List (Nat × VR Γ)→Prop
  |[],G=>leaf G
  |o::l,G=>∃V,Iq T V∧(∀ρ w g,T.le w0 g0 w g→T.inv w g→G.length ∉ T.dn g→(∀t,(o.looksAt ops.toArray).contains t=true→Gj G ρ0 ρ w g t)→FQ P r ops ρ w o (Bs T w g V G.length))∧
      LR P r T ops ρ0 w0 g0 leaf l (((o.dst).getD 0,V)::G)
theorem PX.of {w:World} {g:Γ} {K:EH→World→Γ→Prop} :∀(G:List (Nat × VR Γ)) (ρ0:EH),(G.map Prod.fst).Nodup→(∀ρ,(∀p∈G,p.2 (ρ p.1) w g)→(∀t,t ∉ G.map Prod.fst→ρ t=ρ0 t)→ρ.ds=ρ0.ds→K ρ w g)→PX w g K G ρ0
  |[],ρ0,_,h=>h ρ0 (by simp) (by simp) rfl
  |(d,V)::G,ρ0,hn,h=>by
    simp only [List.map_cons,List.nodup_cons] at hn
    intro v hv
    refine PX.of G (Lu ρ0 d v) hn.2 fun ρ h1 h2 hds=>h ρ (fun p hp=>?_) (fun t ht=>?_) hds
    · rcases List.mem_cons.1 hp with rfl | hp
      · have := h2 d hn.1
        rw [Ky] at this
        simp only [this];exact hv
      · exact h1 p hp
    · simp only [List.map_cons, List.mem_cons, not_or] at ht
      rw [h2 t ht.2,Ht _ _ _ ht.1]
theorem K8 {t:Nat} {V:VR Γ} :∀{G:List (Nat × VR Γ)},(G.map Prod.fst).Nodup→(t,V)∈G→look G t=some V
  |(d,V')::G,hn,h=>by
    simp only [List.map_cons,List.nodup_cons] at hn
    simp only [look]
    rcases List.mem_cons.1 h with h |h
    · cases h;rw [if_pos rfl]
    · rw [if_neg (fun e=>hn.1 (by rw [← e];exact List.mem_map_of_mem (f:=Prod.fst) h)),K8 hn.2 h]
theorem K9 {t:Nat} {V:VR Γ} :∀{G:List (Nat × VR Γ)},look G t=some V→(t,V)∈G
  |[],h=>by cases h
  |(d,V')::G,h=>by
    simp only [look] at h
    split at h
    · rename_i e;cases h;subst e;exact List.mem_cons_self
    · exact List.mem_cons_of_mem _ (K9 h)
theorem Ps {t:Nat} {G:List (Nat × VR Γ)} (hn:(G.map Prod.fst).Nodup):look G.reverse t=look G t:=by
  have hr:(G.reverse.map Prod.fst).Nodup:=by rw [List.map_reverse];exact(List.reverse_perm _).nodup_iff.2 hn
  cases h:look G t with
  |some V=>exact K8 hr (List.mem_reverse.2 (K9 h))
  |none=>
    cases h':look G.reverse t with
    |none=>rfl
    |some V=>rw [K8 hn (List.mem_reverse.1 (K9 h'))] at h;cases h
theorem LR.dw {P:Program} {r:Option Nat} {T:OD Γ} {ops:List Oper} {ρ0:EH} {w0:World} {g0:Γ} {leaf:List (Nat × VR Γ)→Prop} :∀(l:List Oper) (G:List (Nat × VR Γ)),
    (l.map fun o=>(o.dst).getD 0).Nodup→(G.map Prod.fst).Nodup→(∀d∈l.map fun o=>(o.dst).getD 0,d ∉ G.map Prod.fst)→LR P r T ops ρ0 w0 g0 leaf l G→Dw P r T ops ρ0 w0 g0 (fun G'=>leaf G'.reverse) l G.reverse
  |[],G,_,hn,_,h=>by
    show leaf G.reverse.reverse
    rw [List.reverse_reverse];exact h
  |o::l,G,hl,hn,hd,⟨V,h1,h2,h3⟩=>by
    simp only [List.map_cons,List.nodup_cons] at hl
    refine⟨V,h1,fun ρ w g a b k c=>?_,?_⟩
    · rw [List.length_reverse] at k ⊢
      refine h2 ρ w g a b k fun t ht=>?_
      have:=c t ht
      unfold Gj at this ⊢
      rwa [Ps hn] at this
    · have:=LR.dw l (((o.dst).getD 0,V)::G) hl.2 (by
        simp only [List.map_cons,List.nodup_cons]
        exact⟨hd _ (by simp),hn⟩) (fun d hdl=>by
        simp only [List.map_cons,List.mem_cons,not_or]
        exact⟨fun e=>hl.1 (e ▸ hdl),hd d (by simp only [List.map_cons,List.mem_cons];exact .inr hdl)⟩) h3
      simpa using this
theorem B7 {P:Program} {r:Option Nat} {n m:Nat} {l:List Oper} {fl:List Nat} {Q:I5} {T:OD Γ} {g0:Γ} {id:Nat} {ρ:EH} {w:World} (hinv:T.inv w g0) (hg0:T.dn g0=[]) (hro:r=none∨fl=[]) (hm:P.follows .mixedOrders=true) (hB:RX n l m fl=true)
    (h:LR P r T l ρ w g0 (K7 T ρ w g0 fun ρ' w' _=>Rg P r n l (l.drop m) Q ρ' w') (l.take m) []):Wp P r n (.region id l.toArray true) Q ρ w:=by
  have D:=N6.of hB
  refine U6 hinv hg0 hro hm hB (LR.dw _ [] ?_ (by simp) (by simp) h)
  refine List.pairwise_iff_getElem.2 fun i j hi hj hij=>?_
  simp only [List.length_map,List.length_take] at hi hj
  have hjm:j<m:=by omega
  have him:i<m:=by omega
  have e:=(D.dst j hjm).2 i hij
  have ei:=(D.dst i him).1
  have ej:=(D.dst j hjm).1
  simp only [List.getElem_map,List.getElem_take]
  have h1:l[i]?=some (l[i]'(by omega)):=List.getElem?_eq_getElem _
  have h2:l[j]?=some (l[j]'(by omega)):=List.getElem?_eq_getElem _
  unfold CR at e ei ej
  rw [h1] at ei e;rw [h2] at ej e
  simp only [Option.bind_some] at ei ej e
  cases h3:(l[i]'(by omega)).dst with
  |none=>rw [h3] at ei;simp at ei
  |some x=>
    cases h4:(l[j]'(by omega)).dst with
    |none=>rw [h4] at ej;simp at ej
    |some y=>
      rw [h3,h4] at e
      simp only [Option.getD_some]
      exact fun he=>e (by rw [he])
theorem SF {P:Program} {r:Option Nat} {n m:Nat} {l:List Oper} {fl:List Nat} {f df:Nat} {Q:I5} {T:OD Γ} {g0:Γ} {id:Nat} {ρ:EH} {w:World} (hinv:T.inv w g0) (hg0:T.dn g0=[]) (hro:r=none∨fl=[]) (hm:P.follows .mixedOrders=true) (hB:Pr n l m fl f=true)
    (hdf:CR l f=some df)
    (h:LR P r T l ρ w g0 (fun G=>K7 T ρ w g0 (fun ρ' w' _=>Rg P r n l (l.drop m) Q ρ' w') G∧K7 T ρ w g0 (fun ρ' w' _=>JD P r n l f Q (l.length - m) m ρ' w') (G.filter fun p=>p.1 !=df)) (l.take m) []):Wp P r n (.region id l.toArray true) Q ρ w:=by
  have D:=KR.of hB
  refine Tn hinv hg0 hro hm hB hdf (LR.dw _ [] ?_ (by simp) (by simp) h)
  refine List.pairwise_iff_getElem.2 fun i j hi hj hij=>?_
  simp only [List.length_map,List.length_take] at hi hj
  have hjm:j<m:=by omega
  have him:i<m:=by omega
  have e:=(D.dst j hjm).2 i hij
  have ei:=(D.dst i him).1
  have ej:=(D.dst j hjm).1
  simp only [List.getElem_map,List.getElem_take]
  have h1:l[i]?=some (l[i]'(by omega)):=List.getElem?_eq_getElem _
  have h2:l[j]?=some (l[j]'(by omega)):=List.getElem?_eq_getElem _
  unfold CR at e ei ej
  rw [h1] at ei e;rw [h2] at ej e
  simp only [Option.bind_some] at ei ej e
  cases h3:(l[i]'(by omega)).dst with
  |none=>rw [h3] at ei;simp at ei
  |some x=>
    cases h4:(l[j]'(by omega)).dst with
    |none=>rw [h4] at ej;simp at ej
    |some y=>
      rw [h3,h4] at e
      simp only [Option.getD_some]
      exact fun he=>e (by rw [he])
attribute [irreducible] JD
end Go.Fx
set_option linter.unusedSimpArgs false
set_option linter.unusedVariables false
namespace Go.Fx
open Go Go.RowKit

structure Vr (α:Type) where
  vd:World→List Nat→Value→α→Prop
  step:∀{w O w' O' v x},AA O w O' w'→vd w O v x→vd w' O' v x
def Cx (k:IntKind) (x:Int):Prop:=k.min≤x∧x≤k.max
instance (k:IntKind) (x:Int):Decidable (Cx k x):=inferInstanceAs (Decidable (k.min≤x∧x≤k.max))
def vI (k:IntKind):Vr Int:=⟨fun _ _ v x=>v=.int k x∧Cx k x,fun _ h=>h⟩
def vB:Vr Bool:=⟨fun _ _ v x=>v=.bool x,fun _ h=>h⟩
def vC {α:Type} (r:Rp α):Vr α:=⟨fun w O v x=>r.rd w O [v] x,fun s h=>r.step s h⟩
def vA {α:Type} (r:Rp α):Vr α:=⟨fun w O v x=>∃cs:List Value,v=.agg cs.toArray∧r.rd w O cs x,fun s h=>by obtain⟨cs,h1,h2⟩:=h;exact⟨cs,h1,r.step s h2⟩⟩
def Ns {α β:Type} (a:Vr α) (b:Vr β):Vr (α × β):=
  ⟨fun w O v x=>∃v1 v2,v=.tuple [v1,v2].toArray∧a.vd w O v1 x.1∧b.vd w O v2 x.2,fun s ⟨v1,v2,h1,h2,h3⟩=>⟨v1,v2,h1,a.step s h2,b.step s h3⟩⟩
def WM {α β γ:Type} (a:Vr α) (b:Vr β) (c:Vr γ):Vr (α × β × γ):=
  ⟨fun w O v x=>∃v1 v2 v3,v=.tuple [v1,v2,v3].toArray∧a.vd w O v1 x.1∧b.vd w O v2 x.2.1∧c.vd w O v3 x.2.2,
   fun s ⟨v1,v2,v3,h1,h2,h3,h4⟩=>⟨v1,v2,v3,h1,a.step s h2,b.step s h3,c.step s h4⟩⟩
def vU:Vr Unit:=⟨fun _ _ v _=>v=.tuple [].toArray,fun _ h=>h⟩
theorem Vr.eq {α:Type} {a:Vr α} {w:World} {O:List Nat} {v:Value} {x y:α} (h:a.vd w O v x) (e:x=y):a.vd w O v y:=e ▸ h

def Ok {α:Type} (P:Program) (f:FuncId) (args:List Value) (w:World) (O:List Nat) (R:Vr α) (x:α):Prop:=Fn P f args w fun v w'=>GU w w'∧R.vd w' O v x

section
variable {P : Program} {r : Option Nat} {n : Nat} {Q : I5} {ρ : EH} {w : World} {w0 : Zx} {O0 : List Nat} {bs : Be}

theorem AJ {d:Nat} {v:Value} {b:Bool} (h:ρ d=v) (h2:(U3 v == some b)=false):U3 (ρ d)≠some b:=by rw [h];intro e;rw [e] at h2;simp at h2
theorem U7 {d:Nat} {b:Bool} {ops rest:List Oper} (ht:b=true→Rg P r n ops rest Q (Lu ρ d (.bool true)) w) (hf:b=false→Rg P r n ops rest Q (Lu ρ d (.bool false)) w):Rg P r n ops rest Q (Lu ρ d (.bool b)) w:=by
  cases b
  · exact hf rfl
  · exact ht rfl

section dw
variable {Γ : Type} {T : OD Γ} {g0 : Γ} {ops l : List Oper} {K : List (Nat × VR Γ) → Prop} {G : List (Nat × VR Γ)} {d : Nat} {op : Op} {ty : TypeId} {pos : String} {aft : Array Edge} {gd : Option (Nat × Bool)}
theorem Bd (V:VR Γ) (hst:Iq T V) (hop:∀ρ' w' g',T.le w g0 w' g'→T.inv w' g'→(∀t,((⟨some d,op,ty,pos,aft,gd⟩:Oper).looksAt ops.toArray).contains t=true→Gj G ρ ρ' w' g' t)→
      FQ P r ops ρ' w' ⟨some d,op,ty,pos,aft,gd⟩ (Bs T w' g' V G.length))
    (h:LR P r T ops ρ w g0 K l ((d,V)::G)):LR P r T ops ρ w g0 K (⟨some d,op,ty,pos,aft,gd⟩::l) G:=⟨V,hst,fun ρ w g a b _=>hop ρ w g a b,h⟩
theorem BN (c:Value) (hop:∀ρ' w' g',T.le w g0 w' g'→T.inv w' g'→(∀t,((⟨some d,op,ty,pos,aft,gd⟩:Oper).looksAt ops.toArray).contains t=true→Gj G ρ ρ' w' g' t)→
      FQ P r ops ρ' w' ⟨some d,op,ty,pos,aft,gd⟩ (Bs T w' g' (fun v _ _=>v=c) G.length))
    (h:LR P r T ops ρ w g0 K l ((d,fun v _ _=>v=c)::G)):LR P r T ops ρ w g0 K (⟨some d,op,ty,pos,aft,gd⟩::l) G:=⟨_,Iq.eq T c,fun ρ w g a b _=>hop ρ w g a b,h⟩
theorem GI (b:Bool) (hop:∀ρ' w' g',T.le w g0 w' g'→T.inv w' g'→(∀t,((⟨some d,op,ty,pos,aft,gd⟩:Oper).looksAt ops.toArray).contains t=true→Gj G ρ ρ' w' g' t)→
      FQ P r ops ρ' w' ⟨some d,op,ty,pos,aft,gd⟩ (Bs T w' g' (fun v _ _=>v=.bool b) G.length))
    (ht:b=true→LR P r T ops ρ w g0 K l ((d,fun v _ _=>v=.bool true)::G)) (hf:b=false→LR P r T ops ρ w g0 K l ((d,fun v _ _=>v=.bool false)::G)):
    LR P r T ops ρ w g0 K (⟨some d,op,ty,pos,aft,gd⟩::l) G:=by
  cases b
  · exact⟨_,Iq.eq _ _,fun ρ w g a b _=>hop ρ w g a b,hf rfl⟩
  · exact⟨_,Iq.eq _ _,fun ρ w g a b _=>hop ρ w g a b,ht rfl⟩
theorem U8 (hop:∀ρ' w' g',(∀t,((⟨some d,op,ty,pos,aft,gd⟩:Oper).looksAt ops.toArray).contains t=true→Gj G ρ ρ' w' g' t)→Region.wanted ⟨some d,op,ty,pos,aft,gd⟩ (GT ops ρ')=false)
    (h:LR P r T ops ρ w g0 K l ((d,fun v _ _=>v=undef)::G)):LR P r T ops ρ w g0 K (⟨some d,op,ty,pos,aft,gd⟩::l) G:=
  ⟨_,Iq.eq T _,fun ρ' w' g' hx hi _ ht=>by unfold FQ;rw [if_neg (by rw [hop ρ' w' g' ht];simp)];exact⟨g',hi,T.refl _ _,rfl,fun _ h=>.inl h⟩,h⟩
theorem BD {K:EH→World→Γ→Prop} (h:∀w' g',T.le w g0 w' g'→T.inv w' g'→PX w' g' K G ρ):LR P r T ops ρ w g0 (K7 T ρ w g0 K) [] G:=h
theorem U9 {K K1:EH→World→Γ→Prop} {df:Nat} (h:∀w' g',T.le w g0 w' g'→T.inv w' g'→PX w' g' K G ρ) (h1:∀w' g',T.le w g0 w' g'→T.inv w' g'→PX w' g' K1 (G.filter fun p=>p.1 !=df) ρ):
    LR P r T ops ρ w g0 (fun G=>K7 T ρ w g0 K G∧K7 T ρ w g0 K1 (G.filter fun p=>p.1 !=df)) [] G:=⟨h,h1⟩
theorem Lj {V:Value→World→Prop} (h:BJ P r ρ w ⟨none,op,ty,pos,aft,none⟩ V):FQ P r ops ρ w ⟨none,op,ty,pos,aft,none⟩ V:=by
  unfold FQ;rw [if_pos (by simp [Region.wanted])];exact h
theorem SG {f k d:Nat} {o:Oper} (ho:ops[f]?=some o) (hd:o.dst.all (·<n)=true) (hk:d=0∨f∈C0 ops k)
    (h:FQ P r ops ρ w o fun v w'=>Rg P r n ops (ops.drop k) Q (JC ρ o.dst v) w'):JD P r n ops f Q d k ρ w:=by
  unfold JD
  refine⟨?_,o,ho,hd,h⟩
  cases d with
  |zero=>trivial
  |succ d=>exact .inl (hk.resolve_left (by omega))
theorem Qb {f k d d':Nat} {o o2:Oper} (hd':d=d'+1) (ho2:ops[k]?=some o2) (hd2:o2.dst.all (·<n)=true) (ho:ops[f]?=some o) (hd:o.dst.all (·<n)=true)
    (h2:FQ P r ops ρ w o2 fun v w'=>JD P r n ops f Q d' (k+1) (JC ρ o2.dst v) w')
    (h:FQ P r ops ρ w o fun v w'=>Rg P r n ops (ops.drop k) Q (JC ρ o.dst v) w'):JD P r n ops f Q d k ρ w:=by
  subst hd'
  unfold JD
  exact⟨.inr ⟨o2,ho2,hd2,h2⟩,o,ho,hd,h⟩
theorem Ay {V:Value→World→Prop} (h:BJ P r ρ w ⟨some d,op,ty,pos,aft,none⟩ V):FQ P r ops ρ w ⟨some d,op,ty,pos,aft,none⟩ V:=by
  unfold FQ;rw [if_pos (by simp [Region.wanted])];exact h
theorem BL {V:Value→World→Prop} {j dj:Nat} {b:Bool} (hj:(ops[j]?).bind (·.dst)=some dj) (hb:ρ dj=.bool b) (h:BJ P r ρ w ⟨some d,op,ty,pos,aft,some (j,b)⟩ V):FQ P r ops ρ w ⟨some d,op,ty,pos,aft,some (j,b)⟩ V:=by
  unfold FQ;rw [if_pos (by simp [Region.wanted,GT,hj,hb,U3])];exact h
theorem To {j dj:Nat} {b:Bool} {v:Value} (hj:(ops[j]?).bind (·.dst)=some dj) (hb:ρ dj=v) (hv:(U3 v == some b)=false):Region.wanted ⟨some d,op,ty,pos,aft,some (j,b)⟩ (GT ops ρ)=false:=by
  simp only [Region.wanted,GT,hj,hb];exact hv
theorem Bs.same {V:VR Γ} {g':Γ} {w':World} {v:Value} {k:Nat} (hi:T.inv w' g') (hv:V v w' g'):Bs T w' g' V k v w':=⟨g',hi,T.refl _ _,hv,fun _ h=>.inl h⟩
theorem Gk (V:VR Γ) (hst:Iq T V) (hop:∀ρ' w' g',T.le w g0 w' g'→T.inv w' g'→G.length ∉ T.dn g'→(∀t,((⟨some d,op,ty,pos,aft,gd⟩:Oper).looksAt ops.toArray).contains t=true→Gj G ρ ρ' w' g' t)→
      FQ P r ops ρ' w' ⟨some d,op,ty,pos,aft,gd⟩ (Bs T w' g' V G.length))
    (h:LR P r T ops ρ w g0 K l ((d,V)::G)):LR P r T ops ρ w g0 K (⟨some d,op,ty,pos,aft,gd⟩::l) G:=⟨V,hst,hop,h⟩
end dw

/-! the usual ghost: what a region's operations have made -/
abbrev Nx:=List (Nat × Nat × Obj)
def DS (nx:Nx):Be:=nx.map fun p=>(some p.2.1,p.2.2)
def TS (w0:Zx) (O0:List Nat) (bs:Be):OD Nx where
  inv w nx:=St w0 O0 w (DS nx++bs)
  le w nx w' nx':=(∃l,nx'=l++nx)∧AA (ks (DS nx++bs) O0) w (ks (DS nx'++bs) O0) w'∧GU w w'
  refl w nx:=⟨⟨[],rfl⟩,AA.refl _ _,GU.refl _⟩
  trans:=fun⟨⟨l,h1⟩,h2,h3⟩ ⟨⟨l',h1'⟩,h2',h3'⟩=>⟨⟨l'++l,by rw [h1',h1,List.append_assoc]⟩,h2.trans h2',h3.trans h3'⟩
  drew w nx h:=⟨h.call (GU.drew w),⟨[],rfl⟩,AA.ext (GU.drew w),GU.drew w⟩
theorem CQ (h:St w0 O0 w bs):(TS w0 O0 bs).inv w []:=h
abbrev VD {α:Type} (O0:List Nat) (bs:Be) (R:Vr α) (x:α):VR Nx:=fun v w nx=>R.vd w (ks (DS nx++bs) O0) v x
theorem VD.stab {α:Type} (R:Vr α) (x:α):Iq (TS w0 O0 bs) (VD O0 bs R x):=fun _ _ _ _ _ h hv=>R.step h.2.1 hv
abbrev VP {α:Type} (O0:List Nat) (bs:Be) (q:Rp α) (x:α):VR Nx:=fun v w nx=>∃p,v=.pointer (some p)∧Ia q w (ks (DS nx++bs) O0) p x
theorem VP.stab {α:Type} (q:Rp α) (x:α):Iq (TS w0 O0 bs) (VP O0 bs q x):=fun _ _ _ _ _ h ⟨p,h1,h2⟩=>⟨p,h1,h2.step h.2.1⟩
abbrev VN (tag:Nat) (o:Obj):VR Nx:=fun v w nx=>∃b,v=.pointer (some ⟨b,0,none⟩)∧(tag,b,o)∈nx
theorem VN.stab (tag:Nat) (o:Obj):Iq (TS w0 O0 bs) (VN tag o):=fun _ _ _ _ _ ⟨⟨l,h1⟩,_⟩ ⟨b,h2,h3⟩=>⟨b,h2,h1 ▸ List.mem_append_right _ h3⟩
theorem Bs.call {V:VR Nx} {nx:Nx} {w' w'':World} {v:Value} {k:Nat} (hi:St w0 O0 w' (DS nx++bs)) (hx:GU w' w'') (hv:V v w'' nx):Bs (TS w0 O0 bs) w' nx V k v w'':=
  ⟨nx,hi.call hx,⟨⟨[],rfl⟩,AA.ext hx,hx⟩,hv,fun _ h=>by cases h⟩
theorem Bs.new {nx:Nx} {w' w'':World} {b tag k:Nat} {o:Obj} (hi:St w0 O0 w' (DS nx++bs)) (h1:AA (ks (DS nx++bs) O0) w' (ks ((some b,o)::(DS nx++bs)) O0) w'') (h2:St w0 O0 w'' ((some b,o)::(DS nx++bs))) (hx:GU w' w''):
    Bs (TS w0 O0 bs) w' nx (VN tag o) k (.pointer (some ⟨b,0,none⟩)) w'':=
  ⟨(tag,b,o)::nx,h2,⟨⟨[_],rfl⟩,h1,hx⟩,⟨b,rfl,List.mem_cons_self⟩,fun _ h=>by cases h⟩
theorem Bs.pub {V:VR Nx} {nx:Nx} {w' w'':World} {v:Value} {k:Nat} (hi:St w0 O0 w' (DS nx++bs)) (hs:St w0 O0 w'' (DS nx++bs)) (p:AA (ks (DS nx++bs) O0) w' (ks (DS nx++bs) O0) w'') (hx:GU w' w'') (hv:V v w'' nx):
    Bs (TS w0 O0 bs) w' nx V k v w'':=⟨nx,hs,⟨⟨[],rfl⟩,p,hx⟩,hv,fun _ h=>by cases h⟩
theorem VD.fin {α:Type} {R:Vr α} {x:α} {v:Value} {nx:Nx} (h:VD O0 bs R x v w nx):R.vd w (ks (DS nx++bs) O0) v x:=h
theorem AA.nx {nx:Nx} {w':World} (hi:St w0 O0 w' (DS nx++bs)):St w0 O0 w' bs∧AA (ks (DS nx++bs) O0) w' (ks bs O0) w':=by
  induction nx with
  |nil=>exact⟨hi,AA.refl _ _⟩
  |cons p nx ih=>
    have h1:St w0 O0 w' (DS nx++bs):=hi.drop 0
    have h2:AA (ks (DS (p::nx)++bs) O0) w' (ks (DS nx++bs) O0) w':=AA.drop w' O0 (DS (p::nx)++bs) 0
    exact⟨(ih h1).1,h2.trans (ih h1).2⟩
theorem AA.nx1 {nx:Nx} {w':World} {tag b:Nat} {o:Obj} (hi:St w0 O0 w' (DS nx++bs)) (hm:(tag,b,o)∈nx):
    St w0 O0 w' ((some b,o)::bs)∧AA (ks (DS nx++bs) O0) w' (ks ((some b,o)::bs) O0) w':=by
  induction nx with
  |nil=>cases hm
  |cons p nx ih=>
    by_cases he:(tag,b,o)=p
    · subst he
      clear hm ih
      induction nx with
      |nil=>exact⟨hi,AA.refl _ _⟩
      |cons q nx ih=>
        have h1:St w0 O0 w' (DS ((tag,b,o)::nx)++bs):=hi.drop 1
        have h2:AA (ks (DS ((tag,b,o)::q::nx)++bs) O0) w' (ks (DS ((tag,b,o)::nx)++bs) O0) w':=AA.drop w' O0 (DS ((tag,b,o)::q::nx)++bs) 1
        exact⟨(ih h1).1,h2.trans (ih h1).2⟩
    · have hm' : (tag, b, o) ∈ nx := (List.mem_cons.1 hm).resolve_left he
      have h1:St w0 O0 w' (DS nx++bs):=hi.drop 0
      have h2:AA (ks (DS (p::nx)++bs) O0) w' (ks (DS nx++bs) O0) w':=AA.drop w' O0 (DS (p::nx)++bs) 0
      exact⟨(ih h1 hm').1,h2.trans (ih h1 hm').2⟩

theorem St.perm {bs':Be} {w':World} (hs:St w0 O0 w' bs) (hp:bs'.Perm bs):St w0 O0 w' bs'∧AA (ks bs O0) w' (ks bs' O0) w':=by
  have hk:∀b,b∈ks bs' O0 ↔ b∈ks bs O0:=fun b=>by
    simp only [ks,List.mem_append]
    rw [(hp.filterMap Prod.fst).mem_iff]
  exact⟨⟨hs.below,fun q hq=>hs.own q (hp.mem_iff.1 hq),(hp.filterMap Prod.fst).nodup_iff.2 hs.nd,fun j hj=>⟨(hs.dj j hj).1,fun hm=>(hs.dj j hj).2 ((hp.filterMap Prod.fst).mem_iff.1 hm)⟩,hs.dsn,hs.dfs⟩,
    Nat.le_refl _,fun j hj hn=>⟨fun h=>hn ((hk j).1 h),rfl⟩⟩
theorem AA.nx2 {nx:Nx} {w':World} {t1 t2 b1 b2:Nat} {o1 o2:Obj} (hi:St w0 O0 w' (DS nx++bs)) (h1:(t1,b1,o1)∈nx) (h2:(t2,b2,o2)∈nx) (ht:t1≠t2):
    St w0 O0 w' ((some b1,o1)::(some b2,o2)::bs)∧AA (ks (DS nx++bs) O0) w' (ks ((some b1,o1)::(some b2,o2)::bs) O0) w':=by
  obtain⟨l,l',rfl⟩:=List.append_of_mem h1
  have h3:(t2,b2,o2)∈l++l':=by
    simp only [List.mem_append,List.mem_cons,Prod.mk.injEq] at h2 ⊢
    rcases h2 with h |⟨h,_⟩ |h
    · exact .inl h
    · exact absurd h.symm ht
    · exact .inr h
  obtain⟨m,m',hm⟩:=List.append_of_mem h3
  have hp:((t1,b1,o1)::(t2,b2,o2)::(m++m')).Perm (l++(t1,b1,o1)::l'):=by
    refine List.Perm.trans ?_ List.perm_middle.symm
    rw [hm]
    exact List.perm_middle.symm.cons _
  have hp2:(DS ((t1,b1,o1)::(t2,b2,o2)::(m++m'))++bs).Perm (DS (l++(t1,b1,o1)::l')++bs):=(hp.map _).append_right _
  obtain⟨a1,a2⟩:=hi.perm hp2
  have key:∀(nx:Nx) (e:Be),St w0 O0 w' (e++(DS nx++bs))→St w0 O0 w' (e++bs)∧AA (ks (e++(DS nx++bs)) O0) w' (ks (e++bs) O0) w':=by
    intro nx e h
    induction nx with
    |nil=>exact⟨h,AA.refl _ _⟩
    |cons p nx ih=>
      have e1:(e++(DS (p::nx)++bs)).eraseIdx e.length=e++(DS nx++bs):=by
        rw [List.eraseIdx_append_of_length_le (Nat.le_refl _)];simp [DS]
      have g1:=h.drop e.length
      have g2:=AA.drop w' O0 (e++(DS (p::nx)++bs)) e.length
      rw [e1] at g1 g2
      exact⟨(ih g1).1,g2.trans (ih g1).2⟩
  obtain⟨c1,c2⟩:=key (m++m') [(some b1,o1),(some b2,o2)] a1
  exact⟨c1,a2.trans c2⟩

/-! loops -/
def JE (ds E:List Nat) (ξ ρ:EH):EH:=⟨fun t=>if ds.contains t then ξ t else ρ t,E⟩
def CO (ρ:EH):List (Nat × Value)→EH
  |[] =>ρ
  |(d,v)::l=>Lu (CO ρ l) d v
theorem Ny:∀(l:List (Nat × Value)),(∀p∈l,ρ p.1=p.2)→CO ρ l=ρ
  |[],_=>rfl
  |(d,v)::l,h=>by
    rw [CO,Ny l fun p hp=>h p (List.mem_cons_of_mem _ hp)]
    refine EH.ext' (fun t=>?_) rfl
    simp only [Lu]
    split
    · rename_i e;subst e;exact(h (t,v) (by simp)).symm
    · rfl
def N7 (ρ:EH):List (Nat × Value)→Prop
  |[] =>True
  |(d,v)::l=>ρ d=v∧N7 ρ l
theorem N7.mem {ρ:EH} :∀{l:List (Nat × Value)},N7 ρ l→∀p∈l,ρ p.1=p.2
  |[],_,_,h=>by cases h
  |(d,v)::l,h,p,hp=>by
    rcases List.mem_cons.1 hp with rfl |hp
    · exact h.1
    · exact N7.mem h.2 p hp
theorem BQ {a b:Nat} (h:Nat.ble a b=true):a≤b:=Nat.le_of_ble_eq_true h
def Lw (ds:List Nat) (ρ ρ':EH):Prop:=∀t,ds.contains t=false→ρ' t=ρ t
theorem Lw.refl (ds:List Nat) (ρ:EH):Lw ds ρ ρ:=fun _ _=>rfl
theorem Lw.mix (ds E:List Nat) (ξ ρ:EH):Lw ds ρ (JE ds E ξ ρ):=fun t h=>by simp only [Fx.JE];rw [if_neg (by rw [h];simp)]
theorem Lw.upd {ds:List Nat} {ρ ρ':EH} {d:Nat} {v:Value} (h:Lw ds ρ ρ') (hd:ds.contains d=true):Lw ds ρ (Lu ρ' d v):=fun t ht=>by
  rw [Ht _ _ _ (fun e=>by rw [e,hd] at ht;cases ht)];exact h t ht
theorem Lw.updL {ds:List Nat} {ρ ρ':EH} (h:Lw ds ρ ρ'):∀{l:List (Nat × Value)},(l.all fun p=>ds.contains p.1)=true→Lw ds ρ (CO ρ' l)
  |[],_=>h
  |(d,v)::l,hl=>by
    simp only [List.all_cons,Bool.and_eq_true] at hl
    exact Lw.upd (Lw.updL h hl.2) hl.1
theorem RY {ds E:List Nat} {ρ ρ':EH} (h:Lw ds ρ ρ') (hE:ρ'.ds=E):JE ds E ρ' ρ=ρ':=by
  refine EH.ext' (fun t=>?_) hE.symm
  simp only [JE]
  cases hd:ds.contains t with
  |true=>simp
  |false=>simp [h t hd]
theorem Tp {ds E:List Nat} {ρ ρ':EH} {l:List (Nat × Value)} (h:Lw ds ρ ρ') (hE:ρ'.ds=E) (hl:N7 ρ' l):ρ'=CO (JE ds E ρ' ρ) l:=by
  rw [RY h hE,Ny l hl.mem]

theorem Tq {γ:Type} {c:Code} (I:γ→EH→World→Prop) (μ:γ→Nat) (g0:γ) (h0:I g0 ρ w)
    (round:∀g ρ w,I g ρ w→Wp P r n c (PY (fun ρ' w'=>∃g',I g' ρ' w'∧μ g'<μ g) Q) ρ w):Wp P r n (.loop c) Q ρ w:=by
  have key:∀k g ρ w a,I g ρ w→GS n ρ a→μ g<k→Code.roundsIn (FW r) 0 P c (LN n Q) k a w:=by
    intro k
    induction k with
    |zero=>intro g ρ w a _ _ h;omega
    |succ k ih=>
      intro g ρ w a hI ha hk
      have:=round g ρ w hI
      unfold Wp at this
      refine wpIn_mono (this a ha) fun e a' w' ⟨hp,ρ',h1,h2⟩=>?_
      cases e with
      |normal=>
        obtain⟨g',h3,h4⟩:=h2
        exact ih g' ρ' w' a' h3 h1 (by omega)
      |_=>exact⟨hp,ρ',h1,h2⟩
  unfold Wp
  exact fun a ha=>wpIn_loop_rounds (μ g0+1) (key _ g0 ρ w a h0 ha (Nat.lt_succ_self _))

def BB (ds:List Nat) (ρ ρ':EH) (E:List Nat) (L:List (Nat × Value)):Prop:=Lw ds ρ ρ'∧ρ'.ds=E∧N7 ρ' L
theorem BB.eq {ds E:List Nat} {ρ ρ':EH} {L:List (Nat × Value)} (h:BB ds ρ ρ' E L):ρ'=CO (JE ds E ρ' ρ) L:=Tp h.1 h.2.1 h.2.2
theorem Lw.mix' {ds ds' E:List Nat} {ρ ρ' ξ:EH} (h:Lw ds ρ ρ') (hd:(ds'.all fun d=>ds.contains d)=true):Lw ds ρ (Fx.JE ds' E ξ ρ'):=fun t ht=>by
  simp only [Fx.JE]
  rw [if_neg (fun hc=>?_)]
  · exact h t ht
  · have := List.all_eq_true.1 hd t (List.elem_iff.1 hc)
    rw [this] at ht;cases ht
theorem Bf {c:Code} (ds:List Nat) (F:Nat→(List Nat→List (Nat × Value)→Prop)→World→Prop) (N:Nat) (h0:F N (BB ds ρ ρ) w) (hz:∀ρ' w',¬F 0 (BB ds ρ ρ') w')
    (round:∀m (K:EH→World→Prop),(∀ρ'' w'',F m (BB ds ρ ρ'') w''→K ρ'' w'')→∀ρ' w',F (m+1) (BB ds ρ ρ') w'→Wp P r n c (PY K Q) ρ' w'):Wp P r n (.loop c) Q ρ w:=by
  refine Tq (fun m ρ' w'=>F m (BB ds ρ ρ') w') (fun m=>m) N h0 fun m ρ' w' h=>?_
  cases m with
  |zero=>exact absurd h (hz _ _)
  |succ m=>
    refine Wp.mono (round m (fun ρ'' w''=>F m (BB ds ρ ρ'') w'') (fun _ _ h=>h) ρ' w' h) fun e ρ'' w'' h=>?_
    cases e with
    |normal=>exact⟨m,h,Nat.lt_succ_self m⟩
    |_=>exact h
theorem CE {c1 c2:Code} (ds:List Nat) (F:(List Nat→List (Nat × Value)→Prop)→World→Prop)
    (h1:∀ρ' w',F (BB ds ρ ρ') w'→Wp P r n c2 Q ρ' w')
    (h2:∀K:EH→World→Prop,(∀ρ' w',F (BB ds ρ ρ') w'→K ρ' w')→Wp P r n c1 (PY K Q) ρ w):Wp P r n (.seq c1 c2) Q ρ w:=
  Aw (Wp.mono (h2 (fun ρ' w'=>F (BB ds ρ ρ') w') fun _ _ h=>h) fun e ρ' w' h=>by
    cases e with
    |normal=>exact h1 _ _ h
    |_=>exact h)

theorem Tr {c:Code} (E:List Nat) (L:List (Nat × Value)) (hE:ρ.ds=E) (hL:N7 ρ L) (k:∀ξ:Nat→Value,Wp P r n c Q (CO ⟨ξ,E⟩ L) w):Wp P r n c Q ρ w:=by
  have h:=k ρ.f
  rwa [show(⟨ρ.f,E⟩:EH)=ρ from EH.ext' (fun _=>rfl) hE.symm,Ny L hL.mem] at h
theorem SH {c:Code} (ds E:List Nat) (ρj:EH) (L:List (Nat × Value)) (hO:Lw ds ρj ρ) (hE:ρ.ds=E) (hL:N7 ρ L) (k:∀ξ:EH,Wp P r n c Q (CO (JE ds E ξ ρj) L) w):Wp P r n c Q ρ w:=by
  have h:=k ρ
  rwa [RY hO hE,Ny L hL.mem] at h
/-! results -/
theorem Qc {t a i bl off:Nat} {td:TypeDesc} {nn b:Nat} {z:List Value} {cs vs:List Value} {e:TypeId} {fz:Nat × Nat} (T:Ty P t td nn b z true) (hs:St w0 O0 w bs) (hx:ρ a=.pointer (some ⟨bl,off,none⟩))
    (hi:bs[i]?=some (some bl,.cells cs.toArray e fz)) (hv:(cs.drop off).take nn=vs) (hn:vs.length=nn):U5 P ρ w (.cell a t) (.agg vs.toArray):=
  ⟨_,hx,Kz (p:=⟨bl,off,none⟩) T rfl (hs.get hi) (by simpa using hv) hn⟩
theorem N8 {t a i bl off:Nat} {td:TypeDesc} {nn b:Nat} {z:List Value} {cs:List Value} {v:Value} {e:TypeId} {fz:Nat × Nat} (T:Ty P t td nn b z false) (hs:St w0 O0 w bs) (hx:ρ a=.pointer (some ⟨bl,off,none⟩))
    (hi:bs[i]?=some (some bl,.cells cs.toArray e fz)) (hv:cs[off]?=some v):U5 P ρ w (.cell a t) v:=
  ⟨_,hx,K3 T ((JU (hs.get hi)).trans (by simpa using hv))⟩
end
end Go.Fx
set_option linter.unusedSimpArgs false
set_option linter.unusedVariables false
namespace Go.Fx
open Go Go.RowKit

theorem DQ {P:Program} {t:TypeId} {i:TypeInfo} (h:P.types[t]?=some i):P.info? t=some i:=by
  have hlt:t<P.types.size:=(Array.getElem?_eq_some_iff.1 h).1
  show P.toTables.info? t=some i
  unfold Tables.info?
  rw [if_pos hlt];exact h

section
variable {P : Program} {r : Option Nat} {ρ : EH} {w : World} {d : Option Nat} {ty : TypeId} {pos : String} {aft : Array Edge} {g : Option (Nat × Bool)} {V : Value → World → Prop}
variable {w0 : Zx} {w' : World} {O0 : List Nat} {bs new : Be}
variable {x y : Operand} {t s : TypeId} {td : TypeDesc} {n b : Nat} {z : List Value} {ag : Bool}

section
variable {α β γ δ : Type} {O : List Nat}
theorem JX {q:Rp α} {cs:List Value} {x:α} (h:q.rd w O cs x):(vA q).vd w O (.agg cs.toArray) x:=⟨cs,rfl,h⟩
theorem Jy {q:Rp α} {v:Value} {x:α} (h:q.rd w O [v] x):(vC q).vd w O v x:=h
theorem C2 {f:β→α} {q:Rp α} {cs:List Value} {x:β} (h:q.rd w O cs (f x)):(Np f q).rd w O cs x:=h
theorem Ly {a:Vr α} {b:Vr β} {v1 v2:Value} {x:α} {y:β} (h1:a.vd w O v1 x) (h2:b.vd w O v2 y):(Ns a b).vd w O (.tuple [v1,v2].toArray) (x,y):=⟨v1,v2,rfl,h1,h2⟩
theorem UA {a:Vr α} {b:Vr β} {c:Vr γ} {v1 v2 v3:Value} {x:α} {y:β} {z:γ} (h1:a.vd w O v1 x) (h2:b.vd w O v2 y) (h3:c.vd w O v3 z):(WM a b c).vd w O (.tuple [v1,v2,v3].toArray) (x,y,z):=⟨v1,v2,v3,rfl,h1,h2,h3⟩
theorem GJ {x:Bool} :O9.rd w O [.bool x] x:=rfl
end
theorem G5 (hs:St w0 O0 w bs):AA (ks bs O0) w O0 w:=AA.all w O0 bs
theorem Qd {f:Go.Fn} {a c:Array Operand} (h:V (.func f (a.map (ev ρ)) (c.map (ev ρ))) w):BJ P r ρ w ⟨d,.makeFunc f a c,ty,pos,aft,g⟩ V:=
  Bj (by simp) (by simp [execOp,Instr.makeFunc]) h

end
end Go.Fx
set_option linter.unusedSimpArgs false
set_option linter.unusedVariables false
namespace Go.Fx
open Go Go.RowKit

/-! models -/
section model
universe u v
variable {R : Type} {α : Type u} {x : R} {m a b : Option R} {c : Bool}
def ck (c:Prop) [Decidable c] (m:Option R):Option R:=if c then m else none
def jn (k:α) (f:α→Option R):Option R:=f k
theorem AE {c:Prop} [Decidable c] (h:ck c m=some x):c∧m=some x:=by
  unfold ck at h;split at h
  · exact⟨‹_›,h⟩
  · cases h
theorem Cy {k:α} {f:α→Option R} (h:jn k f=some x):∃j,j=k∧f j=some x:=⟨k,rfl,h⟩
theorem Hy (h:(bif c then a else b)=some x) (hc:c=true):a=some x:=by rw [hc] at h;exact h
theorem Hz (h:(bif c then a else b)=some x) (hc:c=false):b=some x:=by rw [hc] at h;exact h
theorem bd {β:Type} {o:Option β} {f:β→Option R} (h:o.bind f=some x):∃v,o=some v∧f v=some x:=by
  cases o with
  |none=>cases h
  |some v=>exact⟨v,rfl,h⟩
theorem jnE0 {j f:Option R} (e:j=f) (h:j=some x):f=some x:=e ▸ h
theorem Dc {A0:Type} {j f:A0→Option R} {a0:A0} (e:j=f) (h:j a0=some x):f a0=some x:=e ▸ h
@[irreducible] def B0 {A0:Type} (b:(A0→Option R)→A0→Option R) (n:Nat):A0→Option R:=Nat.rec (fun _=>none) (fun _ s=>b s) n
theorem QU {A0:Type} {b:(A0→Option R)→A0→Option R} {a0:A0} :B0 b 0 a0=none:=by unfold B0;rfl
theorem FG {A0:Type} {b:(A0→Option R)→A0→Option R} {n:Nat} {a0:A0} :B0 b (n+1) a0=b (B0 b n) a0:=by unfold B0;rfl
theorem CF {A0:Type} {b:(A0→Option R)→A0→Option R} {a0:A0} (h:B0 b 0 a0=some x):False:=by rw [QU] at h;cases h
theorem CG {A0:Type} {b:(A0→Option R)→A0→Option R} {n:Nat} {a0:A0} (h:B0 b (n+1) a0=some x):∃sf,sf=B0 b n∧b sf a0=some x:=⟨_,rfl,FG.symm.trans h⟩
theorem GV {A0 A1:Type} {j f:A0→A1→Option R} {a0:A0} {a1:A1} (e:j=f) (h:j a0 a1=some x):f a0 a1=some x:=e ▸ h
@[irreducible] def BC {A0 A1:Type} (b:(A0→A1→Option R)→A0→A1→Option R) (n:Nat):A0→A1→Option R:=Nat.rec (fun _ _=>none) (fun _ s=>b s) n
theorem QV {A0 A1:Type} {b:(A0→A1→Option R)→A0→A1→Option R} {a0:A0} {a1:A1} :BC b 0 a0 a1=none:=by unfold BC;rfl
theorem Ds {A0 A1:Type} {b:(A0→A1→Option R)→A0→A1→Option R} {n:Nat} {a0:A0} {a1:A1} :BC b (n+1) a0 a1=b (BC b n) a0 a1:=by unfold BC;rfl
theorem DI {A0 A1:Type} {b:(A0→A1→Option R)→A0→A1→Option R} {a0:A0} {a1:A1} (h:BC b 0 a0 a1=some x):False:=by rw [QV] at h;cases h
theorem DJ {A0 A1:Type} {b:(A0→A1→Option R)→A0→A1→Option R} {n:Nat} {a0:A0} {a1:A1} (h:BC b (n+1) a0 a1=some x):∃sf,sf=BC b n∧b sf a0 a1=some x:=⟨_,rfl,Ds.symm.trans h⟩
theorem WQ {A0 A1 A2:Type} {j f:A0→A1→A2→Option R} {a0:A0} {a1:A1} {a2:A2} (e:j=f) (h:j a0 a1 a2=some x):f a0 a1 a2=some x:=e ▸ h
@[irreducible] def Is {A0 A1 A2:Type} (b:(A0→A1→A2→Option R)→A0→A1→A2→Option R) (n:Nat):A0→A1→A2→Option R:=Nat.rec (fun _ _ _=>none) (fun _ s=>b s) n
theorem QW {A0 A1 A2:Type} {b:(A0→A1→A2→Option R)→A0→A1→A2→Option R} {a0:A0} {a1:A1} {a2:A2} :Is b 0 a0 a1 a2=none:=by unfold Is;rfl
theorem Ie {A0 A1 A2:Type} {b:(A0→A1→A2→Option R)→A0→A1→A2→Option R} {n:Nat} {a0:A0} {a1:A1} {a2:A2} :Is b (n+1) a0 a1 a2=b (Is b n) a0 a1 a2:=by unfold Is;rfl
theorem RZ {A0 A1 A2:Type} {b:(A0→A1→A2→Option R)→A0→A1→A2→Option R} {a0:A0} {a1:A1} {a2:A2} (h:Is b 0 a0 a1 a2=some x):False:=by rw [QW] at h;cases h
theorem Sa {A0 A1 A2:Type} {b:(A0→A1→A2→Option R)→A0→A1→A2→Option R} {n:Nat} {a0:A0} {a1:A1} {a2:A2} (h:Is b (n+1) a0 a1 a2=some x):∃sf,sf=Is b n∧b sf a0 a1 a2=some x:=⟨_,rfl,Ie.symm.trans h⟩
theorem jnE4 {A0 A1 A2 A3:Type} {j f:A0→A1→A2→A3→Option R} {a0:A0} {a1:A1} {a2:A2} {a3:A3} (e:j=f) (h:j a0 a1 a2 a3=some x):f a0 a1 a2 a3=some x:=e ▸ h
@[irreducible] def KA {A0 A1 A2 A3:Type} (b:(A0→A1→A2→A3→Option R)→A0→A1→A2→A3→Option R) (n:Nat):A0→A1→A2→A3→Option R:=Nat.rec (fun _ _ _ _=>none) (fun _ s=>b s) n
theorem QX {A0 A1 A2 A3:Type} {b:(A0→A1→A2→A3→Option R)→A0→A1→A2→A3→Option R} {a0:A0} {a1:A1} {a2:A2} {a3:A3} :KA b 0 a0 a1 a2 a3=none:=by unfold KA;rfl
theorem Lz {A0 A1 A2 A3:Type} {b:(A0→A1→A2→A3→Option R)→A0→A1→A2→A3→Option R} {n:Nat} {a0:A0} {a1:A1} {a2:A2} {a3:A3} :KA b (n+1) a0 a1 a2 a3=b (KA b n) a0 a1 a2 a3:=by unfold KA;rfl
theorem UB {A0 A1 A2 A3:Type} {b:(A0→A1→A2→A3→Option R)→A0→A1→A2→A3→Option R} {a0:A0} {a1:A1} {a2:A2} {a3:A3} (h:KA b 0 a0 a1 a2 a3=some x):False:=by rw [QX] at h;cases h
theorem UC {A0 A1 A2 A3:Type} {b:(A0→A1→A2→A3→Option R)→A0→A1→A2→A3→Option R} {n:Nat} {a0:A0} {a1:A1} {a2:A2} {a3:A3} (h:KA b (n+1) a0 a1 a2 a3=some x):∃sf,sf=KA b n∧b sf a0 a1 a2 a3=some x:=⟨_,rfl,Lz.symm.trans h⟩
theorem Ts {A0 A1 A2 A3 A4:Type} {j f:A0→A1→A2→A3→A4→Option R} {a0:A0} {a1:A1} {a2:A2} {a3:A3} {a4:A4} (e:j=f) (h:j a0 a1 a2 a3 a4=some x):f a0 a1 a2 a3 a4=some x:=e ▸ h
@[irreducible] def IG {A0 A1 A2 A3 A4:Type} (b:(A0→A1→A2→A3→A4→Option R)→A0→A1→A2→A3→A4→Option R) (n:Nat):A0→A1→A2→A3→A4→Option R:=Nat.rec (fun _ _ _ _ _=>none) (fun _ s=>b s) n
theorem QY {A0 A1 A2 A3 A4:Type} {b:(A0→A1→A2→A3→A4→Option R)→A0→A1→A2→A3→A4→Option R} {a0:A0} {a1:A1} {a2:A2} {a3:A3} {a4:A4} :IG b 0 a0 a1 a2 a3 a4=none:=by unfold IG;rfl
theorem JY {A0 A1 A2 A3 A4:Type} {b:(A0→A1→A2→A3→A4→Option R)→A0→A1→A2→A3→A4→Option R} {n:Nat} {a0:A0} {a1:A1} {a2:A2} {a3:A3} {a4:A4} :IG b (n+1) a0 a1 a2 a3 a4=b (IG b n) a0 a1 a2 a3 a4:=by unfold IG;rfl
theorem Sb {A0 A1 A2 A3 A4:Type} {b:(A0→A1→A2→A3→A4→Option R)→A0→A1→A2→A3→A4→Option R} {a0:A0} {a1:A1} {a2:A2} {a3:A3} {a4:A4} (h:IG b 0 a0 a1 a2 a3 a4=some x):False:=by rw [QY] at h;cases h
theorem Sc {A0 A1 A2 A3 A4:Type} {b:(A0→A1→A2→A3→A4→Option R)→A0→A1→A2→A3→A4→Option R} {n:Nat} {a0:A0} {a1:A1} {a2:A2} {a3:A3} {a4:A4} (h:IG b (n+1) a0 a1 a2 a3 a4=some x):∃sf,sf=IG b n∧b sf a0 a1 a2 a3 a4=some x:=⟨_,rfl,JY.symm.trans h⟩
end model

section ink
theorem AT (k:IntKind) (n:Int):Cx k (k.wrap n):=wrap_within k n
theorem AX {α:Type} {r:Rp α} {w:World} {O:List Nat} {a:Option Addr} {c:Nat} {xs:List α} (h:CA r w O a c xs):Cx .i64 (xs.length:Int):=by
  have:=h.len
  constructor<;> simp [IntKind.min,IntKind.max,IntKind.bits,IntKind.signed]<;> omega
theorem HK {α:Type} {q:Rp α} {e:TypeId} {w:World} {O:List Nat} {a:Option Addr} {c:Nat} {xs:List α} {kk:Option Nat} {o:Obj} (h:Gs q e w O a c xs kk o):Cx .i64 (xs.length:Int):=by
  have:=h.le
  have:maxLen=9223372036854775807:=rfl
  constructor<;> simp [IntKind.min,IntKind.max,IntKind.bits,IntKind.signed]<;> omega
theorem Pu {k:Nat} (h:k≤9223372036854775807):Cx .i64 (k:Int):=by
  constructor<;> simp [IntKind.min,IntKind.max,IntKind.bits,IntKind.signed]<;> omega
theorem QZ {α:Type} {r:Rp α} {w:World} {O:List Nat} {a:Option Addr} {c k:Nat} {xs:List α} (h:CA r w O a c xs):Cx .i64 ((min xs.length k:Nat):Int):=by
  have:=h.len
  constructor<;> simp [IntKind.min,IntKind.max,IntKind.bits,IntKind.signed]<;> omega
theorem Sd {k:IntKind} {m n:Int} (h1:Cx k m) (h2:Cx k n):Cx k (max m n):=⟨Int.le_trans h1.1 (Int.le_max_left ..),Int.max_le.2 ⟨h1.2,h2.2⟩⟩
theorem UD {k:IntKind} {m n:Int} (h1:Cx k m) (h2:Cx k n):Cx k (min m n):=⟨Int.le_min.2 ⟨h1.1,h2.1⟩,Int.le_trans (Int.min_le_left ..) h1.2⟩
theorem AU {k:IntKind} {x:Int} {w:World} {O:List Nat} (h:Cx k x):(AL k).rd w O [.int k x] x:=⟨rfl,h⟩
end ink

section
variable {P : Program} {r : Option Nat} {ρ : EH} {w : World} {d : Option Nat} {ty : TypeId} {pos : String} {aft : Array Edge} {g : Option (Nat × Bool)} {V : Value → World → Prop}
variable {w0 : Zx} {w' : World} {O0 : List Nat} {bs bs' new : Be}
variable {x y : Operand} {t s u : TypeId} {td : TypeDesc} {n b : Nat} {z : List Value} {ag : Bool} {k q q' : IntKind} {m j : Int}

theorem R1 (hx:ev ρ x=.int q m) (hy:ev ρ y=.int q j) (h:V (.int q (Go.bits .and q m j)) w):BJ P r ρ w ⟨d,.binOp .and t x y u,ty,pos,aft,g⟩ V:=
  Bj (by simp) (by simp [execOp,hx,hy,eqGuard,binOp,Op.intBits,Go.bits]) h
theorem N9 (hx:ev ρ x=.int q m) (hy:ev ρ y=.int q' j) (h0:0≤j) (h:V (.int q (m / 2 ^ min j.toNat q.bits)) w):BJ P r ρ w ⟨d,.binOp .shr t x y u,ty,pos,aft,g⟩ V:=
  Bj (by simp) (by simp [execOp,hx,hy,eqGuard,binOp,shift_shr_any _ _ _ _ h0]) h
theorem Pv {us:Array TypeId} (hx:ev ρ x=.int q m) (hy:ev ρ y=.int q j) (h:V (.int q (max m j)) w):BJ P r ρ w ⟨d,.call ⟨.builtin .max,#[x,y],us⟩,ty,pos,aft,g⟩ V:=by
  have e:(if m<j then j else m)=max m j:=by split<;> omega
  exact Bj (v:=.int q (max m j)) (by simp) (by simp [execOp,resolve,invoke,builtin,Builtin.max_,Builtin.max2,hx,hy,e]) h
theorem VT {us:Array TypeId} (hx:ev ρ x=.int q m) (hy:ev ρ y=.int q j) (h:V (.int q (min m j)) w):BJ P r ρ w ⟨d,.call ⟨.builtin .min,#[x,y],us⟩,ty,pos,aft,g⟩ V:=by
  have e:(if j<m then j else m)=min m j:=by split<;> omega
  exact Bj (v:=.int q (min m j)) (by simp) (by simp [execOp,resolve,invoke,builtin,Builtin.min_,Builtin.min2,hx,hy,e]) h
theorem Ib {a:Option Addr} {l l' c:Nat} (h:ev ρ x=.slice a l c) (e:l=l'):ev ρ x=.slice a l' c:=e ▸ h
theorem M4 {a:Option Addr} {l l' c:Nat} (e:l=l'):Value.slice a l c=.slice a l' c:=e ▸ rfl
theorem Pw {o:Operand} {dflt l:Nat} {m:Int} (h:ev ρ o=.int q m) (hk:m=(l:Int)):PW ρ (some o) dflt l:=⟨q,by rw [h,hk]⟩
theorem Oj.owned' {bl len:Nat} {cs news:List Value} {e:TypeId} {fz:Nat × Nat} (h:w.heap[bl]?=some (.cells cs.toArray e fz)) (hn:(cs.drop 0).take len=news):Oj w (some ⟨bl,0,none⟩) news:=hn ▸ Oj.owned h
theorem Gs.of_make {α:Type} {p:Rp α} {O:List Nat} {e:TypeId} {bl l c:Nat} {v:Value} {x0:α} (hp:p.n=1) (hr:∀w O,p.rd w O [v] x0) (hlc:l≤c) (hc:c≤maxLen):
    Gs p e w O (some ⟨bl,0,none⟩) c (List.replicate l x0) (some bl) (.cells (List.replicate c v).toArray e):=by
  refine Gs.made (by simp [hp]) (by simpa using hlc) hc ?_
  simp only [hp,Nat.mul_one,List.length_replicate,List.take_replicate,Nat.min_eq_left hlc]
  clear hlc
  induction l with
  |zero=>exact E0.nil
  |succ l ih=>exact⟨[v],List.replicate l v,by simp [List.replicate_succ],hr w O,ih⟩
theorem GC {α:Type} {q:Rp α} {e:TypeId} {bt:Nat} {tz:List Value} {ta:Bool} {v:Value} {x0:α} {kl kc:IntKind} {l c:Int} (T:Ty P t (.slice e) 1 bt tz ta) (E:Ty P e td 1 b [v] ag) (hs:St w0 O0 w bs)
    (hx:ev ρ x=.int kl l) (hy:ev ρ y=.int kc c) (hc:0≤l∧l≤c∧b*c≤281474976710656∧c≤281474976710656) (hq:q.n=1) (hr:∀w O,q.rd w O [v] x0)
    (k:∀bl w',GU w w'→AA (ks bs O0) w (ks ((some bl,.cells (List.replicate c.toNat v).toArray e)::bs) O0) w'→St w0 O0 w' ((some bl,.cells (List.replicate c.toNat v).toArray e)::bs)→
      Gs q e w' (ks ((some bl,.cells (List.replicate c.toNat v).toArray e)::bs) O0) (some ⟨bl,0,none⟩) c.toNat (List.replicate l.toNat x0) (some bl) (.cells (List.replicate c.toNat v).toArray e)→
      V (.slice (some ⟨bl,0,none⟩) (List.replicate l.toNat x0).length c.toNat) w'):
    BJ P r ρ w ⟨d,.makeSlice t x y,ty,pos,aft,g⟩ V:=by
  have hm:maxLen=9223372036854775807:=rfl
  refine Pp (l:=l.toNat) (c:=c.toNat) T E hs (hx.trans (by rw [Int.toNat_of_nonneg hc.1])) (hy.trans (by rw [Int.toNat_of_nonneg (by omega)])) (by omega) ?_ (by omega) fun bl w' hx h1 h2=>?_
  · have e1 : ((c.toNat : Nat) : Int) = c := Int.toNat_of_nonneg (by omega)
    have e2:((b*c.toNat:Nat):Int)=b*c:=by rw [Int.natCast_mul,e1]
    have:=hc.2.2.1
    rw [← e2] at this
    exact Int.ofNat_le.1 this
  · have := k bl w' hx h1 h2 (Gs.of_make hq hr (by omega) (by omega))
    rwa [List.length_replicate] at this
theorem L0 {β:Type} :∀(l:List β) (i:Nat) (p:β),l[i]?=some p→(p::l.eraseIdx i).Perm l
  |[],_,_,h=>by simp at h
  |a::l,0,p,h=>by simp at h;subst h;exact List.Perm.refl _
  |a::l,i+1,p,h=>(List.Perm.swap a p _).trans ((L0 l i p (by simpa using h)).cons a)
theorem St.front {i:Nat} {p:Option Nat × Obj} (hs:St w0 O0 w bs) (hi:bs[i]?=some p):St w0 O0 w (p::bs.eraseIdx i)∧AA (ks bs O0) w (ks (p::bs.eraseIdx i) O0) w:=by
  have hp:(p::bs.eraseIdx i).Perm bs:=L0 bs i p hi
  have hk:∀b,b∈ks (p::bs.eraseIdx i) O0 ↔ b∈ks bs O0:=fun b=>by
    simp only [ks,List.mem_append]
    rw [(hp.filterMap Prod.fst).mem_iff]
  refine⟨⟨hs.below,fun q hq=>hs.own q (hp.mem_iff.1 hq),?_,fun j hj=>⟨(hs.dj j hj).1,fun hm=>(hs.dj j hj).2 ((hp.filterMap Prod.fst).mem_iff.1 hm)⟩,hs.dsn,hs.dfs⟩,Nat.le_refl _,fun j hj hn=>⟨fun h=>hn ((hk j).1 h),rfl⟩⟩
  exact(hp.filterMap Prod.fst).nodup_iff.2 hs.nd

/-! slices of one's own, read and written -/
section own
variable {α : Type} {p : Rp α} {O O' : List Nat}
theorem E0.set:∀{cs:List Value} {xs:List α},E0 p w O cs xs→∀i,i<xs.length→∀{vs:List Value} {y:α},p.rd w O vs y→E0 p w O (cs.take (i*p.n)++vs++cs.drop (i*p.n+p.n)) (xs.set i y)
  |_,[],h,i,hi,_,_,_=>by simp at hi
  |_,x::xs,⟨v1,v2,h1,h2,h3⟩,0,_,vs,y,hy=>by
    refine⟨vs,v2,?_,hy,h3⟩
    rw [h1,← p.len h2];simp
  |_,x::xs,⟨v1,v2,h1,h2,h3⟩,i+1,hi,vs,y,hy=>by
    refine⟨v1,v2.take (i*p.n)++vs++v2.drop (i*p.n+p.n),?_,h2,E0.set h3 i (by simpa using hi) hy⟩
    have hl:=p.len h2
    have e1:(i+1)*p.n=v1.length+i*p.n:=by rw [hl,Nat.add_mul,Nat.one_mul,Nat.add_comm]
    rw [h1,e1,List.take_length_add_append,Nat.add_assoc,List.drop_append]
    simp [Nat.add_assoc]

theorem Gs.at_ {e:TypeId} {a:Option Addr} {c:Nat} {xs:List α} {kk:Option Nat} {o:Obj} (h:Gs p e w O a c xs kk o) (hx:0<xs.length):∃bl,a=some ⟨bl,0,none⟩∧kk=some bl:=by
  rcases h with ⟨_,_,rfl,_⟩ |⟨bl,cur,h1,h2,_⟩
  · simp at hx
  · exact⟨bl,h1,h2⟩
theorem BA {xs:List α} {e:TypeId} {dt:TypeDesc} {a:Option Addr} {c:Nat} {kd:IntKind} {bt:Nat} {tz:List Value} {ta:Bool} {kk:Option Nat} {o:Obj} (T:Ty P t (.slice e) 1 bt tz ta) (E:Ty P e dt n b z ag)
    (hx:ev ρ x=.slice a xs.length c) (hy:ev ρ y=.int kd m) (h:Gs p e w O a c xs kk o) (h0:0≤m∧m<xs.length)
    (k:∀bl,a=some ⟨bl,0,none⟩→kk=some bl→V (.pointer (some ⟨bl,m.toNat*n,none⟩)) w):BJ P r ρ w ⟨d,.indexAddr t x y,ty,pos,aft,g⟩ V:=by
  obtain⟨bl,ha,hk⟩:=h.at_ (by omega)
  refine Hc T E (hx.trans (by rw [ha])) hy h0.1 h0.2 ?_
  simpa using k bl ha hk
theorem Gs.cellsAt {e:TypeId} {a:Option Addr} {c bl:Nat} {xs:List α} {o:Obj} (h:Gs p e w O a c xs (some bl) o) {i:Nat} (hi:i<xs.length):
    ∃cur,o=.cells cur e (0,0)∧(i+1)*p.n≤cur.size∧p.rd w O ((cur.toList.drop (i*p.n)).take p.n) xs[i]:=by
  rcases h with ⟨_,_,rfl,_⟩ |⟨b2,cur,h1,h2,h3,h4,h5,h6,h7⟩
  · simp at hi
  · have e1 : (i + 1) * p.n ≤ xs.length * p.n := Nat.mul_le_mul_right _ hi
    have e2:xs.length*p.n≤c*p.n:=Nat.mul_le_mul_right _ h5
    refine⟨cur,h3,by omega,?_⟩
    have:=h7.get i hi
    rwa [List.drop_take,List.take_take,Nat.min_eq_left (by rw [Nat.add_mul] at e1;omega)] at this
theorem F0 [Inhabited α] {xs:List α} {e:TypeId} {a:Option Addr} {c bl i:Nat} {o:Obj} (T:Ty P t td 1 b z false) (hp:p.n=1) (hs:St w0 O0 w bs) (hi:bs[i]?=some (some bl,o))
    (hx:ev ρ x=.pointer (some ⟨bl,m.toNat*1,none⟩)) (h:Gs p e w O a c xs (some bl) o) (h0:0≤m∧m<xs.length)
    (k:∀v,p.rd w O [v] (xs.getD m.toNat default)→V v w):BJ P r ρ w ⟨d,.load t x,ty,pos,aft,g⟩ V:=by
  have hm:m.toNat<xs.length:=by omega
  obtain⟨cur,h1,h2,h3⟩:=h.cellsAt hm
  subst h1
  rw [hp] at h2 h3
  simp only [Nat.mul_one] at h2 h3 hx
  have hl:m.toNat<cur.size:=by omega
  have e1:(cur.toList.drop m.toNat).take 1=[cur[m.toNat]]:=by
    rw [List.drop_eq_getElem_cons (by simpa using hl)];simp
  rw [e1] at h3
  refine RS (cs:=cur.toList) (v:=cur[m.toNat]) T hs hx (by rw [hi]) ?_ (k _ ?_)
  · rw [List.getElem?_eq_getElem (by simpa using hl)];simp
  · have : xs.getD m.toNat default = xs[m.toNat] := by simp [List.getD_eq_getElem?_getD, List.getElem?_eq_getElem hm]
    rw [this];exact h3
theorem KS [Inhabited α] {xs:List α} {e:TypeId} {a:Option Addr} {c bl i:Nat} {o:Obj} (T:Ty P t td n b z true) (hp:p.n=n) (hs:St w0 O0 w bs) (hi:bs[i]?=some (some bl,o))
    (hx:ev ρ x=.pointer (some ⟨bl,m.toNat*n,none⟩)) (h:Gs p e w O a c xs (some bl) o) (h0:0≤m∧m<xs.length)
    (k:∀vs,p.rd w O vs (xs.getD m.toNat default)→V (.agg vs.toArray) w):BJ P r ρ w ⟨d,.load t x,ty,pos,aft,g⟩ V:=by
  have hm:m.toNat<xs.length:=by omega
  obtain⟨cur,h1,h2,h3⟩:=h.cellsAt hm
  subst h1 hp
  refine G4 (cs:=cur.toList) T hs hx (by rw [hi]) rfl (p.len h3) (k _ ?_)
  have:xs.getD m.toNat default=xs[m.toNat]:=by simp [List.getD_eq_getElem?_getD,List.getElem?_eq_getElem hm]
  rw [this];exact h3
theorem FH {xs:List α} {e:TypeId} {a:Option Addr} {c bl i:Nat} {o:Obj} {v:Value} {vs:List Value} {yv:α} (T:Ty P t td n b z ag) (hp:p.n=n) (hs:St w0 O0 w bs) (hi:bs[i]?=some (some bl,o))
    (hx:ev ρ x=.pointer (some ⟨bl,m.toNat*n,none⟩)) (hy:ev ρ y=v) (hv:v.cells=vs.toArray) (h:Gs p e w (ks bs O0) a c xs (some bl) o) (h0:0≤m∧m<xs.length) (hr:p.rd w (ks bs O0) vs yv)
    (k:∀w' o',AA (ks bs O0) w (ks (bs.set i (some bl,o')) O0) w'→St w0 O0 w' (bs.set i (some bl,o'))→Gs p e w' (ks (bs.set i (some bl,o')) O0) a c (xs.set m.toNat yv) (some bl) o'→V undef w'):
    BJ P r ρ w ⟨d,.store t x y,ty,pos,aft,g⟩ V:=by
  have hm:m.toNat<xs.length:=by omega
  rcases h with ⟨_,_,rfl,_⟩ |⟨b2,cur,h1,h2,h3,h4,h5,h6,h7⟩
  · simp at hm
  · cases h2
    subst h3 hp
    have e1:(m.toNat+1)*p.n≤xs.length*p.n:=Nat.mul_le_mul_right _ hm
    have e2:xs.length*p.n≤c*p.n:=Nat.mul_le_mul_right _ h5
    rw [Nat.add_mul,Nat.one_mul] at e1
    have hn:=p.len hr
    refine HJ (cs:=cur.toList) (vs:=vs) T hs hx hy (by rw [hi]) hv hn (by simp;omega) (List.all_eq_true.2 fun v hv=>by simpa using p.one hr v hv) rfl rfl fun w' h8 h9=>?_
    refine k w' _ h8 h9 ?_
    refine .inr ⟨bl,_,h1,rfl,rfl,?_,by simpa using h5,h6,?_⟩
    · rw [List.size_toArray,Jm (by simp;omega)];simpa using h4
    · have e3 := (h7.set m.toNat hm hr).step h8
      simp only [List.length_set]
      have e4:(HY cur.toList (m.toNat*p.n) vs).take (xs.length*p.n)=((cur.toList.take (xs.length*p.n)).take (m.toNat*p.n))++vs++(cur.toList.take (xs.length*p.n)).drop (m.toNat*p.n+p.n):=by
        apply List.ext_getElem?
        intro j
        rw [List.getElem?_take,Hl (by simp;omega)]
        simp only [List.getElem?_append,List.length_append,List.length_take,Array.length_toList,List.getElem?_take,List.getElem?_drop,hn]
        rw [Nat.min_eq_left (show xs.length*p.n≤cur.size by omega),Nat.min_eq_left (show m.toNat*p.n≤xs.length*p.n by omega)]
        by_cases c1:j<m.toNat*p.n
        · simp [c1,show j<m.toNat*p.n+p.n by omega,show j<xs.length*p.n by omega,show ¬m.toNat*p.n≤j by omega]
        · by_cases c2 : j < m.toNat * p.n + p.n
          · simp [c1,c2,show j<xs.length*p.n by omega,show m.toNat*p.n≤j by omega]
          · simp only [c1, c2, if_false, and_false]
            have:m.toNat*p.n+p.n+(j - (m.toNat*p.n+p.n))=j:=by omega
            rw [this]
      rw [e4];exact e3
theorem Gs.of_cells {e:TypeId} {bl c:Nat} {cs:List Value} {xs:List α} (h:E0 p w O cs xs) (hc:xs.length=c) (hm:c≤maxLen):Gs p e w O (some ⟨bl,0,none⟩) c xs (some bl) (.cells cs.toArray e):=by
  refine Gs.made (by simp [h.len,hc]) (by omega) hm ?_
  simp only
  rw [List.take_of_length_le (by rw [h.len];exact Nat.le_refl _)];exact h
end own

/-! function values -/
def Oq (P:Program) (fv:Value) (args:List Value) (w:World) (K:Value→World→Prop):Prop:=
  ∃f first cap,fv=.func (.func f) first cap∧(∀(zs:Array Value) (w:World),(callFunc f zs).run P w=.ok (.enter f zs) w)∧Fn P f (first.toList++args++cap.toList) w K
theorem It {fv:Value} {args:Array Operand} {us:Array TypeId} {vs:List Value} {K:Value→World→Prop} (hx:ev ρ x=fv) (h:Oq P fv vs w K) (ha:args.toList.map (ev ρ)=vs) (hk:∀v w',K v w'→V v w'):
    BJ P r ρ w ⟨d,.call ⟨.value x,args,us⟩,ty,pos,aft,g⟩ V:=by
  obtain⟨f,first,cap,rfl,hc,hf⟩:=h
  refine N4 (f:=f) (args:=first.toList++vs++cap.toList) (w':=w) (by simp) ?_ hf hk
  have:args.map (ev ρ)=vs.toArray:=by rw [← ha,← Array.toList_map]
  simp [execOp,resolve,Deferred.ofValue,hx,invoke,hc,this]
theorem Gl {f:Go.Fn} {a c:Array Operand} {a' c':List Value} (ha:a.toList.map (ev ρ)=a') (hc:c.toList.map (ev ρ)=c') (h:V (.func f a'.toArray c'.toArray) w):BJ P r ρ w ⟨d,.makeFunc f a c,ty,pos,aft,g⟩ V:=by
  refine Qd ?_
  have e1:a.map (ev ρ)=a'.toArray:=by rw [← ha,← Array.toList_map]
  have e2:c.map (ev ρ)=c'.toArray:=by rw [← hc,← Array.toList_map]
  rw [e1,e2];exact h
def G6 {α β:Type} (P:Program) (w:World) (O:List Nat) (fv:Value) (A:Vr α) (R:Vr β) (f:α→Option β):Prop:=
  ∀w' O',AA O w O' w'→(∀k∈O',k<w'.heap.size)→∀v x y,A.vd w' O' v x→f x=some y→Oq P fv [v] w' fun u w''=>GU w' w''∧R.vd w'' O' u y
def EC {α α' β:Type} (P:Program) (w:World) (O:List Nat) (fv:Value) (A:Vr α) (A':Vr α') (R:Vr β) (f:α→α'→Option β):Prop:=
  ∀w' O',AA O w O' w'→(∀k∈O',k<w'.heap.size)→∀v v' x x' y,A.vd w' O' v x→A'.vd w' O' v' x'→f x x'=some y→Oq P fv [v,v'] w' fun u w''=>GU w' w''∧R.vd w'' O' u y
theorem G6.step {α β:Type} {w':World} {O O':List Nat} {fv:Value} {A:Vr α} {R:Vr β} {f:α→Option β} (h:G6 P w O fv A R f) (s:AA O w O' w'):G6 P w' O' fv A R f:=
  fun _ _ s'=>h _ _ (s.trans s')
theorem EC.step {α α' β:Type} {w':World} {O O':List Nat} {fv:Value} {A:Vr α} {A':Vr α'} {R:Vr β} {f:α→α'→Option β} (h:EC P w O fv A A' R f) (s:AA O w O' w'):EC P w' O' fv A A' R f:=
  fun _ _ s'=>h _ _ (s.trans s')
theorem G6.call {α β:Type} {O:List Nat} {fv:Value} {A:Vr α} {R:Vr β} {f:α→Option β} (h:G6 P w O fv A R f) (hO:∀k∈O,k<w.heap.size) {v:Value} {x:α} {y:β} (hv:A.vd w O v x) (hy:f x=some y):
    Oq P fv [v] w fun u w''=>GU w w''∧R.vd w'' O u y:=h _ _ (AA.refl _ _) hO _ _ _ hv hy
theorem EC.call {α α' β:Type} {O:List Nat} {fv:Value} {A:Vr α} {A':Vr α'} {R:Vr β} {f:α→α'→Option β} (h:EC P w O fv A A' R f) (hO:∀k∈O,k<w.heap.size) {v v':Value} {x:α} {x':α'} {y:β} (hv:A.vd w O v x) (hv':A'.vd w O v' x') (hy:f x x'=some y):
    Oq P fv [v,v'] w fun u w''=>GU w w''∧R.vd w'' O u y:=h _ _ (AA.refl _ _) hO _ _ _ _ _ hv hv' hy
theorem St.publishP {α:Type} {p:Rp α} (hs:St w0 O0 w bs) {i bl:Nat} {cs:List Value} {e:TypeId} {fz:Nat × Nat} {x:α} (hi:bs[i]?=some (some bl,.cells cs.toArray e fz)) (h:p.rd w (ks bs O0) cs x):
    St w0 O0 w (bs.eraseIdx i)∧AA (ks bs O0) w (ks (bs.eraseIdx i) O0) w∧Ia p w (ks (bs.eraseIdx i) O0) ⟨bl,0,none⟩ x:=by
  have hst:=AA.drop w O0 bs i
  refine⟨hs.drop i,hst,rfl,⟨hs.lt (List.mem_of_getElem? hi) rfl,JW hs hi⟩,_,e,fz,hs.get hi,?_,?_⟩
  · have:=p.len h;simp;omega
  · have h1 := p.len h
    simp only [List.drop_zero]
    rw [← h1,List.take_length];exact p.step hst h

/-! a slice handed back as the caller's own -/
def Px {α:Type} (P:Program) (f:FuncId) (args:List Value) (w:World) (O:List Nat) (p:Rp α) (e:TypeId) (x:List α):Prop:=
  Fn P f args w fun v w'=>GU w w'∧∃a c kk o,v=.slice a x.length c∧(∀b,kk=some b→w.heap.size≤b∧w'.heap[b]?=some o)∧Gs p e w' (kk.toList++O) a c x kk o
theorem JZ (kk:Option Nat) (o:Obj):ks ((kk,o)::bs) O0=kk.toList++ks bs O0:=by cases kk<;> rfl
theorem St.callG {kk:Option Nat} {o:Obj} (hs:St w0 O0 w bs) (hx:GU w w') (hk:∀b,kk=some b→w.heap.size≤b∧w'.heap[b]?=some o):
    St w0 O0 w' ((kk,o)::bs)∧AA (ks bs O0) w (ks ((kk,o)::bs) O0) w':=by
  have h1:=hs.call hx
  cases kk with
  |none=>exact⟨h1.ghost o,AA.ext hx⟩
  |some b=>
    obtain⟨hb,hg⟩:=hk b rfl
    refine⟨⟨h1.below,fun q hq j hj=>?_,?_,fun j hj=>⟨(h1.dj j hj).1,fun hm=>?_⟩,h1.dsn,h1.dfs⟩,hx.size,fun j hj hn=>⟨fun hm=>?_,(AA.ext (O:=ks bs O0) hx).keep j hj hn |>.2⟩⟩
    · rcases List.mem_cons.1 hq with rfl | hq
      · cases hj;exact⟨.inr (Nat.le_trans hs.below.size hb),hg⟩
      · exact h1.own q hq j hj
    · show (b :: bs.filterMap Prod.fst).Nodup
      rw [List.nodup_cons]
      refine⟨fun hm=>?_,h1.nd⟩
      have:=hs.ltw b (List.mem_append_left _ hm)
      omega
    · rcases List.mem_cons.1 (show j ∈ b :: bs.filterMap Prod.fst from hm) with e | hm
      · have:=hs.lt0 j hj;omega
      · exact(hs.dj j hj).2 hm
    · rw [JZ] at hm
      rcases List.mem_append.1 hm with hm |hm
      · simp at hm;omega
      · exact hn hm
theorem Px.ok {α:Type} {f:FuncId} {args:List Value} {O:List Nat} {p:Rp α} {e:TypeId} {xs:List α} (hO:∀k∈O,k<w.heap.size) (h:Px P f args w O p e xs):Ok P f args w O (vC (BG p)) xs:=by
  refine Fn.mono h fun v w' ⟨hx,a,c,kk,o,hv,hk,hG⟩=>⟨hx,?_⟩
  obtain⟨h1,h2⟩:=(St.start hO).callG hx hk
  obtain⟨_,_,h3⟩:=Gs.publish (i:=0) h1 rfl (by rw [JZ];exact hG)
  rw [hv]
  exact Jy (B8 h3)
theorem Px.mk {w0:World} {α:Type} {O:List Nat} {p:Rp α} {e:TypeId} {xs ys:List α} {a:Option Addr} {c i:Nat} {kk:Option Nat} {o:Obj} (hs:St ⟨w0,[],[]⟩ O w' bs) (hi:bs[i]?=some (kk,o)) (h:Gs p e w' (ks bs O) a c xs kk o) (he:xs=ys):
    ∃a' c' kk o,Value.slice a xs.length c=.slice a' ys.length c'∧(∀b,kk=some b→w0.heap.size≤b∧w'.heap[b]?=some o)∧Gs p e w' (kk.toList++O) a' c' ys kk o:=by
  subst he
  refine⟨a,c,kk,o,rfl,fun b hb=>⟨((hs.own _ (List.mem_of_getElem? hi) b hb).1).resolve_left (by simp),(hs.own _ (List.mem_of_getElem? hi) b hb).2⟩,h.step ⟨Nat.le_refl _,fun j hj hn=>⟨fun hm=>hn ?_,rfl⟩⟩⟩
  rcases List.mem_append.1 hm with hm |hm
  · refine List.mem_append_left _ (B2.2 ⟨_, List.mem_of_getElem? hi, ?_⟩)
    simpa using hm
  · exact List.mem_append_right _ hm
theorem Px.mkNil {w0:World} {α:Type} {O:List Nat} {p:Rp α} {e:TypeId} {ys:List α} (he:([]:List α)=ys):
    ∃a' c' kk o,Value.slice none 0 0=.slice a' ys.length c'∧(∀b,kk=some b→w0.heap.size≤b∧w'.heap[b]?=some o)∧Gs p e w' (kk.toList++O) a' c' ys kk o:=by
  subst he
  exact⟨none,0,none,.cells #[] e,rfl,(fun _ h=>by cases h),Gs.nil_⟩

theorem E0.drop {α:Type} {p:Rp α} {O:List Nat} :∀{cs:List Value} {xs:List α},E0 p w O cs xs→∀k,E0 p w O (cs.drop (k*p.n)) (xs.drop k)
  |_,[],h,k=>by rw [show _=_ from h];simp [E0]
  |_,_::_,h,0=>by simpa using h
  |_,x::xs,⟨v1,v2,h1,h2,h3⟩,k+1=>by
    have:=E0.drop h3 k
    rw [h1,Nat.add_mul,Nat.one_mul,Nat.add_comm,← p.len h2,List.drop_append,List.drop_of_length_le (by omega)]
    simp only [List.nil_append,List.drop_succ_cons,p.len h2,Nat.add_sub_cancel_left];exact this
theorem Tt {α:Type} {p:Rp α} {xs ys:List α} {e:TypeId} {a a2:Option Addr} {c c2 i bt:Nat} {tz:List Value} {ta:Bool} {kk:Option Nat} {o:Obj} (T:Ty P t (.slice e) 1 bt tz ta) (E:Ty P e td 1 b z ag) (hp:p.n=1)
    (hs:St w0 O0 w bs) (hi:bs[i]?=some (kk,o)) (hx:ev ρ x=.slice a xs.length c) (hG:Gs p e w (ks bs O0) a c xs kk o) (hy:ev ρ y=.slice a2 ys.length c2) (h:CA p w (ks bs O0) a2 c2 ys) (hpos:0<xs.length∨a≠none)
    (k:∀o' w',AA (ks bs O0) w (ks (bs.set i (kk,o')) O0) w'→St w0 O0 w' (bs.set i (kk,o'))→Gs p e w' (ks (bs.set i (kk,o')) O0) a c (ys.take xs.length++xs.drop ys.length) kk o'→V (.int .i64 ((min ys.length xs.length:Nat):Int)) w'):
    BJ P r ρ w ⟨d,.call ⟨.builtin .copy,#[x,y],#[t,t]⟩,ty,pos,aft,g⟩ V:=by
  rcases hG with ⟨ha,_,rfl,_⟩ |⟨bl,cur,rfl,rfl,rfl,h4,h5,h6,h7⟩
  · simp [ha] at hpos
  · obtain ⟨news, hE, hS⟩ := h.src
    have hnl:news.length=ys.length:=by rw [hE.len,hp,Nat.mul_one]
    rw [hp,Nat.mul_one] at h4 h7
    refine RV (cs:=cur.toList) T E hs (by rw [hi]) hx hy hS hnl hE.one (by simp;omega) rfl rfl fun w' h8 h9=>k _ w' h8 h9 ?_
    have hlen:(news.take (min ys.length xs.length)).length=min ys.length xs.length:=by simp;omega
    refine .inr ⟨bl,_,rfl,rfl,rfl,?_,by simp;omega,h6,?_⟩
    · rw [List.size_toArray,Jm (by simp;omega)];simpa [hp] using h4
    · have e1 : (ys.take xs.length ++ xs.drop ys.length).length = xs.length := by simp; omega
      rw [hp,Nat.mul_one,e1]
      have e2:(HY cur.toList 0 (news.take (min ys.length xs.length))).take xs.length=news.take (min ys.length xs.length)++(cur.toList.take xs.length).drop (min ys.length xs.length):=by
        unfold HY
        simp only [List.take_zero,List.nil_append,Nat.zero_add,hlen]
        rw [List.take_append,hlen,List.take_of_length_le (by rw [hlen];omega),List.drop_take]
      rw [show(HY cur.toList 0 (news.take (min ys.length xs.length))).toArray.toList=HY cur.toList 0 (news.take (min ys.length xs.length)) from rfl,e2]
      have e3:ys.take xs.length=ys.take (min ys.length xs.length):=by rw [← List.take_take,List.take_of_length_le (l:=ys.take xs.length) (by simp;omega)]<;> omega
      have e4:xs.drop ys.length=xs.drop (min ys.length xs.length):=by
        rcases Nat.le_total ys.length xs.length with hl |hl
        · rw [Nat.min_eq_left hl]
        · rw [Nat.min_eq_right hl,List.drop_of_length_le hl,List.drop_of_length_le (Nat.le_refl _)]
      rw [e3,e4]
      have f1:=(hE.take (min ys.length xs.length)).step h8
      have f2:=(h7.drop (min ys.length xs.length)).step h8
      rw [hp,Nat.mul_one] at f1 f2
      exact f1.append f2

theorem Tu {α:Type} {p:Rp α} {xs ys:List α} {news:List Value} {e e':TypeId} {a2:Option Addr} {c c2 i bt bl l h:Nat} {tz:List Value} {ta:Bool} {a:Option Addr} {o:Obj} (T:Ty P t (.slice e) 1 bt tz ta) (E:Ty P e td 1 b z ag) (hp:p.n=1)
    (hs:St w0 O0 w bs) (hi:bs[i]?=some (some bl,o)) (hx:ev ρ x=.slice (some ⟨bl,if c=l then 0 else 0+l*1,none⟩) (h - l) (c - l)) (hG:Gs p e' w (ks bs O0) a c xs (some bl) o) (hy:ev ρ y=.slice a2 ys.length c2) (hE:E0 p w (ks bs O0) news ys) (hS:Oj w a2 news)
    (hlh:l<h) (hh:h≤xs.length)
    (k:∀o' w',AA (ks bs O0) w (ks (bs.set i (some bl,o')) O0) w'→St w0 O0 w' (bs.set i (some bl,o'))→
      Gs p e' w' (ks (bs.set i (some bl,o')) O0) a c (xs.take l++(ys.take (h - l)++(xs.drop l).drop (min ys.length (h - l)))) (some bl) o'→V (.int .i64 ((min ys.length (h - l):Nat):Int)) w'):
    BJ P r ρ w ⟨d,.call ⟨.builtin .copy,#[x,y],#[t,t]⟩,ty,pos,aft,g⟩ V:=by
  rcases hG with ⟨_,_,rfl,_⟩ |⟨b2,cur,rfl,hb2,rfl,h4,h5,h6,h7⟩
  · simp at hh;omega
  · cases hb2
    have hnl:news.length=ys.length:=by rw [hE.len,hp,Nat.mul_one]
    rw [hp,Nat.mul_one] at h4 h7
    have hcl:c≠l:=by omega
    rw [if_neg hcl,Nat.zero_add,Nat.mul_one] at hx
    have hlen:(news.take (min ys.length (h - l))).length=min ys.length (h - l):=by simp;omega
    have hcs:cur.toList.length=c:=by simpa using h4
    refine RV (cs:=cur.toList) T E hs (by rw [hi]) hx hy hS hnl hE.one (by rw [hcs];omega) rfl rfl fun w' h8 h9=>k _ w' h8 h9 ?_
    have hL:(xs.take l++(ys.take (h - l)++(xs.drop l).drop (min ys.length (h - l)))).length=xs.length:=by simp;omega
    refine .inr ⟨bl,_,rfl,rfl,rfl,?_,by rw [hL];exact h5,h6,?_⟩
    · rw [List.size_toArray,Jm (by rw [hlen,hcs];omega),hcs,hp,Nat.mul_one]
    · rw [hp, Nat.mul_one, hL]
      have e2:(HY cur.toList l (news.take (min ys.length (h - l)))).take xs.length=
          (cur.toList.take xs.length).take l++(news.take (min ys.length (h - l))++((cur.toList.take xs.length).drop l).drop (min ys.length (h - l))):=by
        apply List.ext_getElem?
        intro j
        rw [List.getElem?_take,Hl (by rw [hlen,hcs];omega),hlen]
        simp only [List.getElem?_append,List.length_take,List.getElem?_take,List.getElem?_drop,hnl,hcs,List.length_drop]
        have e5:min l (min xs.length c)=l:=by omega
        rw [e5]
        by_cases c1:j<l
        · simp [c1,show j<xs.length by omega,show ¬l≤j by omega]
        · simp only [c1, if_false]
          by_cases c2:j<l+min ys.length (h - l)
          · have c3 : j - l < min (min ys.length (h - l)) ys.length := by omega
            have c4:j - l<min ys.length (h - l):=by omega
            simp only [show j<xs.length by omega,show l≤j by omega,c2,c3,c4,and_self,if_true]
          · have c3 : ¬ j - l < min (min ys.length (h - l)) ys.length := by omega
            simp only [c2,c3,and_false,if_false]
            have e6:l+(min ys.length (h - l)+(j - l - min (min ys.length (h - l)) ys.length))=j:=by omega
            rw [e6]
      rw [show(HY cur.toList l (news.take (min ys.length (h - l)))).toArray.toList=HY cur.toList l (news.take (min ys.length (h - l))) from rfl,e2]
      have e3:ys.take (h - l)=ys.take (min ys.length (h - l)):=by
        rcases Nat.le_total ys.length (h - l) with hl |hl
        · rw [Nat.min_eq_left hl,List.take_of_length_le hl,List.take_length]
        · rw [Nat.min_eq_right hl]
      rw [e3]
      have f0:=(h7.take l).step h8
      have f1:=(hE.take (min ys.length (h - l))).step h8
      have f2:=((h7.drop l).drop (min ys.length (h - l))).step h8
      rw [hp,Nat.mul_one] at f0 f1 f2
      rw [Nat.mul_one] at f2
      exact f0.append (f1.append f2)

theorem Gs.win {α:Type} {p:Rp α} {xs:List α} {e:TypeId} {O:List Nat} {a:Option Addr} {c bl l h i:Nat} {o:Obj} (hp:p.n=1) (hs:St w0 O0 w bs) (hi:bs[i]?=some (some bl,o)) (hG:Gs p e w O a c xs (some bl) o) (hlh:l<h) (hh:h≤xs.length):
    ∃news,E0 p w O news ((xs.drop l).take (h - l))∧Oj w (some ⟨bl,if c=l then 0 else 0+l*1,none⟩) news:=by
  rcases hG with ⟨_,_,rfl,_⟩ |⟨b2,cur,rfl,hb2,rfl,h4,h5,h6,h7⟩
  · simp at hh;omega
  · cases hb2
    rw [hp,Nat.mul_one] at h4 h7
    have f:=(h7.drop l).take (h - l)
    rw [hp,Nat.mul_one,Nat.mul_one] at f
    refine⟨_,f,?_⟩
    rw [if_neg (by omega),Nat.zero_add,Nat.mul_one]
    have e1:((cur.toList.take xs.length).drop l).take (h - l)=(cur.toList.drop l).take (h - l):=by
      rw [List.drop_take,List.take_take,Nat.min_eq_left (by omega)]
    rw [e1]
    exact Oj.owned (cs:=cur.toList) (e:=e) (fz:=(0,0)) (hs.get (by rw [hi]))
/-! arrays in blocks of one's own -/
theorem FR {α:Type} {p:Rp α} {O:List Nat} {xs:List α} {e c bl tn:Nat} {dt:TypeDesc} {kd:IntKind} {bt:Nat} {tz:List Value} {ta:Bool} {a:Option Addr} {o:Obj} {e':TypeId} (T:Ty P t (.array c e) tn bt tz ta) (E:Ty P e dt n b z ag)
    (hx:ev ρ x=.pointer (some ⟨bl,0,none⟩)) (hy:ev ρ y=.int kd m) (h:Gs p e' w O a c xs (some bl) o) (h0:0≤m∧m<xs.length)
    (k:V (.pointer (some ⟨bl,m.toNat*n,none⟩)) w):BJ P r ρ w ⟨d,.indexAddr t x y,ty,pos,aft,g⟩ V:=by
  have hl:=h.le.1
  refine On T E hx hy h0.1 (by omega) ?_
  rw [Addr.add_lit,Nat.zero_add];exact k
theorem VU {α:Type} {p:Rp α} {O:List Nat} {xs:List α} {a:Option Addr} {c l:Nat} (e:l=xs.length) (h:CA p w O a c xs):(BG p).rd w O [.slice a l c] xs:=by subst e;exact B8 h
end
end Go.Fx
set_option linter.unusedSimpArgs false
set_option linter.unusedVariables false
namespace Go.Fx
open Go Go.RowKit

structure Qe (O O':List Nat) (w w':World):Prop where
  new:∀k∈O',k∈O∨w.heap.size≤k
  lt:∀k∈O',k<w'.heap.size
theorem Qe.refl {O:List Nat} {w w':World} (h:∀k∈O,k<w'.heap.size):Qe O O w w':=⟨fun _ h=>.inl h,h⟩

abbrev JP (α:Type):=List α→World→List Nat→List Nat→Prop
structure G1 {α:Type} (J:JP α):Prop where
  loc:∀{pre:List α} {w w':World} {O K K':List Nat},J pre w O K→(∀k∈K,k ∉ O)→HX K w w'→Qe K K' w w'→J pre w' O K'
def GW {α:Type} (P:Program) (enc:α→World→List Nat→List Value→Prop) (L:List α) (l:Nat) (J Jx:JP α):Prop:=
  ∀(pre:List α) (x:α) (w:World) (O K:List Nat) (vs:List Value),pre++[x]<+:L→J pre w O K→(∀k∈K,k<w.heap.size∧k ∉ O)→(∀k∈O,k<w.heap.size)→enc x w (K++O) vs→
    YieldAt (FW none) 0 P l vs.toArray w fun e w'=>∃O',HX O w w'∧Qe O O' w w'∧((e=.returned (.bool true)∧J (pre++[x]) w' O' K)∨(e=.returned (.bool false)∧Jx (pre++[x]) w' O' K))
def MX {α:Type} (P:Program) (w:World) (O:List Nat) (f:FuncId) (caps:List Value) (enc:α→World→List Nat→List Value→Prop) (L:List α):Prop:=
  ∀(w1:World) (O1:List Nat),AA O w O1 w1→(∀k∈O1,k<w1.heap.size)→∀(l:Nat) (J Jx:JP α),G1 J→G1 Jx→GW P enc L l J Jx→J [] w1 O1 []→
    Fn P f (.func (.yield l) #[] #[]::caps) w1 fun _ w2=>∃O2,J L w2 O2 []∨∃pre,Jx pre w2 O2 []
theorem MX.step {α:Type} {P:Program} {w w':World} {O O':List Nat} {f:FuncId} {caps:List Value} {enc:α→World→List Nat→List Value→Prop} {L:List α} (h:MX P w O f caps enc L) (s:AA O w O' w'):MX P w' O' f caps enc L:=
  fun w1 O1 s1=>h w1 O1 (s.trans s1)
def JF {α:Type} (a:Vr α):α→World→List Nat→List Value→Prop:=fun x w O vs=>∃v,vs=[v]∧a.vd w O v x
def Iu {α β:Type} (a:Vr α) (b:Vr β):α × β→World→List Nat→List Value→Prop:=fun x w O vs=>∃v1 v2,vs=[v1,v2]∧a.vd w O v1 x.1∧b.vd w O v2 x.2
theorem Qf {α:Type} {a:Vr α} {x:α} {w:World} {O:List Nat} {vs:List Value} (h:JF a x w O vs):vs.length=1:=by obtain⟨v,rfl,_⟩:=h;rfl
theorem Qg {α β:Type} {a:Vr α} {b:Vr β} {x:α × β} {w:World} {O:List Nat} {vs:List Value} (h:Iu a b x w O vs):vs.length=2:=by obtain⟨v1,v2,rfl,_⟩:=h;rfl
theorem OF {α:Type} {a:Vr α} {x:α} {w w':World} {O O':List Nat} {vs:List Value} (s:AA O w O' w') (h:JF a x w O vs):JF a x w' O' vs:=by obtain⟨v,e,h⟩:=h;exact⟨v,e,a.step s h⟩
theorem KT {α β:Type} {a:Vr α} {b:Vr β} {x:α × β} {w w':World} {O O':List Nat} {vs:List Value} (s:AA O w O' w') (h:Iu a b x w O vs):Iu a b x w' O' vs:=by
  obtain⟨v1,v2,e,h1,h2⟩:=h;exact⟨v1,v2,e,a.step s h1,b.step s h2⟩

/-! ### what is owned, said anew -/
theorem AA.sub {O O':List Nat} {w:World} (h:∀k∈O',k∈O):AA O w O' w:=⟨Nat.le_refl _,fun k _ hn=>⟨fun hm=>hn (h k hm),rfl⟩⟩
theorem AA.of_loc {O O' K:List Nat} {w w':World} (h:HX K w w') (hK:∀k∈K,k∈O) (hO:∀k∈O',k∈O∨w.heap.size≤k):AA O w O' w':=
  ⟨h.size,fun k hk hn=>⟨fun hm=>(hO k hm).elim hn (fun h=>by omega),h.block k hk fun hm=>hn (hK k hm)⟩⟩
section
variable {z : Zx} {O0 O1 : List Nat} {w w' : World} {bs : Be}
theorem Bw {k:Nat} :k∈ks bs O0 ↔ k∈bs.filterMap Prod.fst∨k∈O0:=List.mem_append
theorem St.loc (h:St z O0 w bs) {K:List Nat} (hl:HX K w w') (hK:∀k∈K,k ∉ bs.filterMap Prod.fst∧(k∈z.K∨z.w.heap.size≤k)∧k ∉ z.ds):St z O0 w' bs:=
  ⟨h.below.trans' hl fun k hk=>(hK k hk).2.1,fun p hp b hb=>⟨(h.own p hp b hb).1,by rw [hl.block b (h.lt hp hb) fun hm=>(hK b hm).1 (B2.2 ⟨p,hp,hb⟩)];exact(h.own p hp b hb).2⟩,h.nd,
   fun k hk=>⟨Nat.lt_of_lt_of_le (h.dj k hk).1 hl.size,(h.dj k hk).2⟩,h.dsn,
   fun D hD=>⟨(h.dfs D hD).1,(h.dfs D hD).2.1,by rw [hl.block D (h.lt0 D (h.dfs D hD).1) fun hm=>(hK D hm).2.2 hD];exact(h.dfs D hD).2.2⟩⟩
theorem St.others (h:St z O0 w bs) (hO:∀k∈O1,k<w.heap.size∧k ∉ bs.filterMap Prod.fst) (hd:∀D∈z.ds,D∈O1):St z O1 w bs:=
  ⟨h.below,h.own,h.nd,hO,h.dsn,fun D hD=>⟨hd D hD,(h.dfs D hD).2⟩⟩
theorem St.re (h:St z O0 w bs):St ⟨w,bs.filterMap Prod.fst,[]⟩ O0 w bs:=
  ⟨HX.refl _ _,fun p hp b hb=>⟨.inl (B2.2 ⟨p,hp,hb⟩),(h.own p hp b hb).2⟩,h.nd,h.dj,List.nodup_nil,fun _ h=>by cases h⟩
theorem St.back {w1:World} {K1:List Nat} (h:St ⟨w1,K1,[]⟩ O0 w bs) (hl:HX z.K z.w w1) (hK:∀k∈K1,k∈z.K∨z.w.heap.size≤k) (hdn:z.ds.Nodup)
    (hd:∀D∈z.ds,D∈O0∧(D∈z.K∨z.w.heap.size≤D)∧w.heap[D]?=some (.deferred (some []))):St z O0 w bs:=
  ⟨hl.trans' h.below hK,fun p hp b hb=>⟨(h.own p hp b hb).1.elim (hK b) fun h1=>.inr (Nat.le_trans hl.size h1),(h.own p hp b hb).2⟩,h.nd,h.dj,hdn,hd⟩
theorem St.sub {bs':Be} (h:St z O0 w bs) (hb:bs'.Sublist bs):St z O0 w bs'∧AA (ks bs O0) w (ks bs' O0) w:=
  ⟨⟨h.below,fun p hp=>h.own p (hb.subset hp),(hb.filterMap _).nodup h.nd,fun k hk=>⟨(h.dj k hk).1,fun hm=>(h.dj k hk).2 ((hb.filterMap _).subset hm)⟩,h.dsn,h.dfs⟩,
   AA.sub fun k hk=>(Bw.1 hk).elim (fun hm=>Bw.2 (.inl ((hb.filterMap _).subset hm))) fun hm=>Bw.2 (.inr hm)⟩
theorem St.close {w0:World} {K0:List Nat} :∀{ds:List Nat} {w:World},St ⟨w0,K0,ds⟩ O0 w bs→∃w',N3 ds w w'∧St ⟨w0,K0,[]⟩ O0 w' bs∧AA (ks bs O0) w (ks bs O0) w'
  |[],w,h=>⟨w,rfl,h,AA.refl _ _⟩
  |D::ds,w,h=>by
    obtain⟨h1,h2,h3⟩:=h.dfs D (by simp)
    have hlt:=h.lt0 D h1
    have hn:=List.nodup_cons.1 h.dsn
    have hl:HX [D] w (w.putObj D (.deferred none)):=⟨rfl,rfl,rfl,by simp,fun k hk hn=>World.putObj_heap_other (by simpa using hn),Nat.le_refl _⟩
    have h4:St ⟨w0,K0,ds⟩ O0 w bs:=⟨h.below,h.own,h.nd,h.dj,hn.2,fun E hE=>h.dfs E (List.mem_cons_of_mem _ hE)⟩
    have h5:St ⟨w0,K0,ds⟩ O0 (w.putObj D (.deferred none)) bs:=h4.loc hl (by rintro k hk;simp at hk;subst hk;exact⟨(h.dj _ h1).2,h2,hn.1⟩)
    obtain⟨w',hc,hs,hp⟩:=h5.close
    exact⟨w',⟨h3,hc⟩,hs,(AA.of_loc hl (by rintro k hk;simp at hk;subst hk;exact Bw.2 (.inr h1)) (fun k hk=>.inl hk)).trans hp⟩
end

def VV (ρ:EH):List Nat→List Value→EH
  |p::ps,v::vs=>VV (Lu ρ p v) ps vs
  |_,_=>ρ
theorem MY {n:Nat} :∀(ps:List Nat) (vs:List Value) {ρ:EH} {t:Array Value},GS n ρ {tmps:=t,defers:=[]}→ps.all (·<n)=true→
    GS n (VV ρ ps vs) {tmps:=(ps.zip vs).foldl (fun t (p,v)=>t.setIfInBounds p v) t,defers:=[]}
  |[],vs,ρ,t,h,_=>by cases vs<;> exact h
  |p::ps,[],ρ,t,h,_=>h
  |p::ps,v::vs,ρ,t,h,hp=>by
    simp only [List.all_cons,Bool.and_eq_true,decide_eq_true_eq] at hp
    have:=h.put (d:=some p) (by simpa using hp.1) v
    exact MY ps vs (ρ:=Lu ρ p v) (t:=t.setIfInBounds p v) (by simpa [Act.put,JC] using this) hp.2

theorem UE {n:Nat} {ρ:EH} {a:Act} (h:GS n ρ a):GS n ⟨ρ.f,[]⟩ {tmps:=a.tmps,defers:=[]}:=⟨h.size,rfl,h.get⟩

def R2:Option Nat→Exit
  |none=>.ret
  |some id=>.exit id
def Tv:Option Nat→Code
  |none=>.ret
  |some id=>.exit id

section rule
variable {P : Program} {n : Nat} {Q : I5} {ρ : EH} {w : World} {z : Zx} {O0 : List Nat} {bs : Be}
variable {α σ : Type} {g : Operand} {ps : List Nat} {assign body : Code} {f : FuncId} {caps : List Value} {enc : α → World → List Nat → List Value → Prop} {L : List α}
structure Tw (bs:Be) (O0:List Nat) (w:World) (z:Zx) (bsF:σ→Be) (fct:σ→World→List Nat→Prop) (E:List Nat) (s:σ) (w':World):Prop where
  st:St z (E++O0) w' (bsF s)
  ch:AA (ks bs O0) w (ks (bsF s) (E++O0)) w'
  fc:fct s w' (ks (bsF s) (E++O0))

theorem Tw.loc {bsF:σ→Be} {fct:σ→World→List Nat→Prop} (hfs:∀s w O w' O',AA O w O' w'→fct s w O→fct s w' O') {K K' F:List Nat} {s:σ} {w' w'':World} (h:Tw bs O0 w z bsF fct (K++F) s w')
    (hK:∀k∈K,k ∉ ks (bsF s) (F++O0)) (hz:∀k∈K,k∈z.K∨z.w.heap.size≤k) (hds:∀D∈z.ds,D∈F++O0) (hl:HX K w' w'') (hg:Qe K K' w' w''):Tw bs O0 w z bsF fct (K'++F) s w'':=by
  have h1:St z (K++F++O0) w'' (bsF s):=h.st.loc hl fun k hk=>⟨fun hm=>hK k hk (Bw.2 (.inl hm)),hz k hk,fun hm=>hK k hk (Bw.2 (.inr (hds k hm)))⟩
  have h2:St z (K'++F++O0) w'' (bsF s):=by
    refine h1.others (fun k hk=>?_) (fun D hD=>?_)
    · rw [List.append_assoc] at hk
      rcases List.mem_append.1 hk with hk |hk
      · refine ⟨hg.lt k hk, fun hm => ?_⟩
        rcases hg.new k hk with h5 |h5
        · exact hK k h5 (Bw.2 (.inl hm))
        · obtain ⟨p, hp, e⟩ := B2.1 hm
          have:=h.st.lt hp e
          omega
      · exact h1.dj k (by rw [List.append_assoc];exact List.mem_append_right _ hk)
    · rw [List.append_assoc];exact List.mem_append_right _ (hds D hD)
  have hst:AA (ks (bsF s) (K++F++O0)) w' (ks (bsF s) (K'++F++O0)) w'':=AA.of_loc hl (fun k hk=>Bw.2 (.inr (by simp [hk]))) fun k hk=>by
    rcases Bw.1 hk with hk |hk
    · exact .inl (Bw.2 (.inl hk))
    · rw [List.append_assoc] at hk
      rcases List.mem_append.1 hk with hk |hk
      · rcases hg.new k hk with h | h
        · exact .inl (Bw.2 (.inr (by simp [h])))
        · exact .inr h
      · exact .inl (Bw.2 (.inr (by rw [List.append_assoc];exact List.mem_append_right _ hk)))
  exact⟨h2,h.ch.trans hst,hfs _ _ _ _ _ hst h.fc⟩

theorem IK (hs:St z O0 w bs) (hv:ev ρ g=.func (.func f) #[] caps.toArray) (hcall:∀(args:Array Value) (w:World),(callFunc f args).run P w=.ok (.enter f args) w) (it:MX P w (ks bs O0) f caps enc L)
    (hps:ps.all (·<n)=true) (hlen:∀{x w O vs},enc x w O vs→vs.length=ps.length) (henc:∀{x w O w' O' vs},AA O w O' w'→enc x w O vs→enc x w' O' vs)
    (bsF:σ→Be) (fct:σ→World→List Nat→Prop) (hfs:∀s w O w' O',AA O w O' w'→fct s w O→fct s w' O') (tl:σ→List α→Prop) (xs:List (Option Nat)) (tx:Option Nat→σ→Prop)
    (s0:σ) (hb0:bsF s0=bs) (hf0:fct s0 w (ks bs O0)) (ht0:tl s0 L)
    (round:∀l E s x rest w' vs za,za.ds=[]→St za (E++O0) w' (bsF s)→AA (ks bs O0) w (ks (bsF s) (E++O0)) w'→fct s w' (ks (bsF s) (E++O0))→tl s (x::rest)→enc x w' (ks (bsF s) (E++O0)) vs→
      Wp P (some l) n assign (PY (fun ρ' w2=>∃bs2,St za (E++O0) w2 bs2∧∀w3 zb (RQ:I5),zb.ds=[]→St zb (E++O0) w3 bs2→AA (ks bs2 (E++O0)) w2 (ks bs2 (E++O0)) w3→
          (∀s' ρ' w4,St zb (E++O0) w4 (bsF s')→AA (ks bs O0) w (ks (bsF s') (E++O0)) w4→fct s' w4 (ks (bsF s') (E++O0))→tl s' rest→RQ .normal ρ' w4)→
          (∀e s' ρ' w4,e∈xs→St zb (E++O0) w4 (bsF s')→AA (ks bs O0) w (ks (bsF s') (E++O0)) w4→fct s' w4 (ks (bsF s') (E++O0))→tx e s'→RQ (R2 e) ρ' w4)→
          Wp P (some l) n body RQ ρ' w3) (fun _ _ _=>False)) (VV ⟨ρ.f,[]⟩ ps vs) w')
    (done:∀D s w',St ⟨z.w,z.K,D::z.ds⟩ (D::O0) w' (bsF s)→AA (ks bs O0) w (ks (bsF s) (D::O0)) w'→fct s w' (ks (bsF s) (D::O0))→tl s []→Q .normal ⟨ρ.f,D::ρ.ds⟩ w')
    (stop:∀e D s w',e∈xs→St ⟨z.w,z.K,D::z.ds⟩ (D::O0) w' (bsF s)→AA (ks bs O0) w (ks (bsF s) (D::O0)) w'→fct s w' (ks (bsF s) (D::O0))→tx e s→Q (R2 e) ⟨ρ.f,D::ρ.ds⟩ w'):
    Wp P none n (.rangeFunc g ps.toArray assign body) Q ρ w:=by
  subst hb0
  unfold Wp
  intro a ha
  refine wpIn_rangeFunc ?_
  intro fn hfn
  obtain⟨rec,hrec⟩:∃rec:LoopState→Option Code→Loop,rec=fun st pe=>{state:=st,pending:=pe,fn,tmps:=a.tmps,params:=ps.toArray,assign,body,defers:=w.heap.size}:=⟨_,rfl⟩
  obtain⟨w1,hw1⟩:∃w1,(w.alloc (.deferred (some []))).alloc (.loop (rec .ready none))=w1:=⟨_,rfl⟩
  have hx1:GU w w1:=by rw [← hw1];exact(GU.alloc w _).trans (GU.alloc _ _)
  have hsz:w1.heap.size=w.heap.size+2:=by rw [← hw1];simp
  have hl1:w1.heap[w.heap.size+1]?=some (.loop (rec .ready none)):=by
    rw [← hw1];have:=heap_alloc_new (w.alloc (.deferred (some []))) (.loop (rec .ready none));simpa using this
  have hd1:w1.heap[w.heap.size]?=some (.deferred (some [])):=by
    rw [← hw1,heap_alloc_old _ _ _ (by simp)];exact heap_alloc_new w _
  obtain⟨zD,hzD⟩:∃zD:Zx,zD=⟨z.w,z.K,w.heap.size::z.ds⟩:=⟨_,rfl⟩
  obtain⟨F,hF⟩:∃F:List Nat,F=[w.heap.size+1,w.heap.size]:=⟨_,rfl⟩
  have hmF:∀k,k∈F ↔ k=w.heap.size+1∨k=w.heap.size:=fun k=>by rw [hF];simp
  have hzds:∀D∈zD.ds,D∈F++O0:=fun D hD=>by
    rw [hzD] at hD
    rcases List.mem_cons.1 hD with e |hD
    · exact List.mem_append_left _ ((hmF D).2 (.inr e))
    · exact List.mem_append_right _ (hs.dfs D hD).1
  have hzw:z.w.heap.size≤w.heap.size:=hs.below.size
  -- the loop's invariant
  obtain⟨J0,hJ0⟩:∃J0:(LoopState × Option Code)→List Nat→List Nat→World→σ→Prop,J0=fun st O K w' s=>O=ks (bsF s) (F++O0)∧(∀k∈K,w.heap.size+2≤k)∧Tw (bsF s0) O0 w zD bsF fct (K++F) s w'∧
      w'.heap[w.heap.size+1]?=some (.loop (rec st.1 st.2)):=⟨_,rfl⟩
  have hJ0ab:∀{st:LoopState × Option Code} {O K K':List Nat} {w' w'':World} {s:σ},J0 st O K w' s→(∀k∈K,k ∉ O)→HX K w' w''→Qe K K' w' w''→J0 st O K' w'' s:=by
    intro st O K K' w' w'' s h hKO hl hg
    rw [hJ0] at h ⊢
    obtain⟨h1,h2,h3,h4⟩:=h
    have hsz':w.heap.size+2≤w'.heap.size:=by
      have:=h3.st.lt0 (w.heap.size+1) (by simp [hF]);omega
    refine⟨h1,fun k hk=>(hg.new k hk).elim (h2 k) fun h=>by omega,h3.loc hfs (fun k hk=>h1 ▸ hKO k hk) (fun k hk=>.inr ?_) hzds hl hg,?_⟩
    · have:=h2 k hk;rw [hzD];simp only;omega
    · rw [hl.block _ (h3.st.lt0 _ (by simp [hF])) fun hm=>by have:=h2 _ hm;omega];exact h4
  have hst0:St z O0 w1 (bsF s0):=hs.call hx1
  have hcore1:Tw (bsF s0) O0 w zD bsF fct ([]++F) s0 w1:=by
    have h1:St zD ([]++F++O0) w1 (bsF s0):=by
      refine⟨by rw [hzD];exact hst0.below,by rw [hzD];exact hst0.own,hst0.nd,fun k hk=>?_,?_,fun D hD=>?_⟩
      · rw [List.nil_append] at hk
        rcases List.mem_append.1 hk with hk |hk
        · have hk' := (hmF k).1 hk
          refine⟨by omega,fun hm=>?_⟩
          obtain⟨p,hp,e⟩:=B2.1 hm
          have:=hs.lt hp e;omega
        · exact hst0.dj k hk
      · rw [hzD]
        exact List.nodup_cons.2 ⟨fun hm=>by have:=hs.lt0 _ (hs.dfs _ hm).1;omega,hs.dsn⟩
      · refine ⟨by rw [List.nil_append]; exact hzds D hD, ?_⟩
        rw [hzD] at hD ⊢
        rcases List.mem_cons.1 hD with e |hD
        · subst e;exact⟨.inr hzw,hd1⟩
        · exact(hst0.dfs D hD).2
    have h2:AA (ks (bsF s0) O0) w (ks (bsF s0) ([]++F++O0)) w1:=AA.of_loc (K:=[]) (.of_ext hx1) (by simp) fun k hk=>by
      rw [List.nil_append] at hk
      rcases Bw.1 hk with hk |hk
      · exact .inl (Bw.2 (.inl hk))
      · rcases List.mem_append.1 hk with hk | hk
        · have:=(hmF k).1 hk;exact .inr (by omega)
        · exact .inl (Bw.2 (.inr hk))
    exact⟨h1,h2,hfs _ _ _ _ _ h2 hf0⟩
  refine⟨w.heap.size+1,[U1 w.heap.size],w1,{target:=.fn (.func f) caps.toArray,args:=#[.func (.yield (w.heap.size+1)) #[] #[]]},w1,f,
    #[.func (.yield (w.heap.size+1)) #[] #[]]++caps.toArray,w1,?_,?_,fun _ _=>trivial,?_,fun h=>by simp [FW] at h,?_⟩
  · rw [← hw1,hrec];exact run_enterLoop_outer _ _ _ _ _
  · simp only [resolve, ha.eval, hv]
    simp [go_sem,ev]
  · simp [invoke,go_sem,hcall]
  · have hfn':=it w1 (ks (bsF s0) (F++O0)) (by have:=hcore1.ch;simpa using this) (fun k hk=>by have:=hcore1.st.ltw k (by simpa using hk);exact this) (w.heap.size+1)
      (fun pre w' O K=>∃s rest,L=pre++rest∧J0 (.ready,none) O K w' s∧tl s rest)
      (fun _ w' O K=>∃s e,e∈xs∧J0 (.done,some (Tv e)) O K w' s∧tx e s)
      ⟨fun⟨s,rest,h1,h2,h3⟩ hk hl hg=>⟨s,rest,h1,hJ0ab h2 hk hl hg,h3⟩⟩ ⟨fun⟨s,e,h1,h2,h3⟩ hk hl hg=>⟨s,e,h1,hJ0ab h2 hk hl hg,h3⟩⟩
      ?_ ⟨s0,L,rfl,by rw [hJ0];exact⟨rfl,by simp,hcore1,hl1⟩,ht0⟩
    · -- behind the iterator
      unfold Fn at hfn'
      have hcl:(#[Value.func (.yield (w.heap.size+1)) #[] #[]]++caps.toArray)=(Value.func (.yield (w.heap.size+1)) #[] #[]::caps).toArray:=by simp
      rw [hcl]
      refine CallsIn.mono hfn' ?_
      rintro e w2 ⟨v,rfl,O2,h⟩
      have fin:∀{st:LoopState × Option Code} {s:σ},st.1≠.busy→J0 st O2 [] w2 s→∃w3,(Instr.endLoop (w.heap.size+1)).run P w2=.ok st.2 w3∧
          St ⟨z.w,z.K,w.heap.size::z.ds⟩ (w.heap.size::O0) w3 (bsF s)∧AA (ks (bsF s0) O0) w (ks (bsF s) (w.heap.size::O0)) w3∧fct s w3 (ks (bsF s) (w.heap.size::O0)):=by
        intro st s hb h
        rw [hJ0] at h
        obtain⟨h1,h2,h3,h4⟩:=h
        have hrun:=run_endLoop (P:=P) h4 (by rw [hrec];exact hb)
        have hlo:HX [w.heap.size+1] w2 (w2.putObj (w.heap.size+1) (.loop {rec st.1 st.2 with state:=.exhausted})):=⟨rfl,rfl,rfl,by simp,fun k hk hn=>World.putObj_heap_other (by simpa using hn),Nat.le_refl _⟩
        have h5:=h3.st.loc hlo (by
          rintro k hk
          simp at hk;subst hk
          exact⟨(h3.st.dj _ (by simp [hF])).2,.inr (by rw [hzD];simp only;omega),fun hm=>by
            rw [hzD] at hm
            rcases List.mem_cons.1 hm with e |hm
            · omega
            · have:=hs.lt0 _ (hs.dfs _ hm).1;omega⟩)
        have h6:St ⟨z.w,z.K,w.heap.size::z.ds⟩ (w.heap.size::O0) (w2.putObj (w.heap.size+1) (.loop {rec st.1 st.2 with state:=.exhausted})) (bsF s):=by
          rw [← hzD]
          refine h5.others (fun k hk=>h5.dj k ?_) fun D hD=>?_
          · rcases List.mem_cons.1 hk with e | hk
            · subst e;simp [hF]
            · simp [hk]
          · have := hzds D hD
            rw [hF] at this
            simp only [List.cons_append,List.nil_append,List.mem_cons] at this
            rcases this with e |e |e
            · exfalso
              rw [hzD] at hD
              rcases List.mem_cons.1 hD with e' |hD
              · omega
              · have:=hs.lt0 _ (hs.dfs _ hD).1;omega
            · subst e;simp
            · simp [e]
        have h7:AA (ks (bsF s) ([]++F++O0)) w2 (ks (bsF s) (w.heap.size::O0)) (w2.putObj (w.heap.size+1) (.loop {rec st.1 st.2 with state:=.exhausted})):=AA.of_loc hlo (by
          rintro k hk
          simp at hk;subst hk
          exact Bw.2 (.inr (by simp [hF]))) fun k hk=>.inl (by
          rcases Bw.1 hk with hk |hk
          · exact Bw.2 (.inl hk)
          · refine Bw.2 (.inr ?_)
            rcases List.mem_cons.1 hk with e |hk
            · subst e;simp [hF]
            · simp [hk])
        refine⟨_,?_,h6,h3.ch.trans h7,hfs _ _ _ _ _ h7 h3.fc⟩
        rw [hrun,hrec]
      have hav:∀D,GS n (⟨ρ.f,D::ρ.ds⟩:EH) {a with defers:=[U1 D]++a.defers}:=fun D=>⟨ha.size,by simp [ha.defers],ha.get⟩
      rcases h with ⟨s,rest,h1,h2,h3⟩ |⟨pre,s,e,h1,h2,h3⟩
      · have hr : rest = [] := by simpa using h1
        subst hr
        obtain⟨w3,h4,h5,h6,h7⟩:=fin (by simp) h2
        exact⟨none,w3,h4,(fun _ h=>by cases h),_,hav _,done _ s w3 h5 h6 h7 h3⟩
      · obtain ⟨w3, h4, h5, h6, h7⟩ := fin (by simp) h2
        refine⟨some (Tv e),w3,h4,?_⟩
        have h8:=stop e _ s w3 h1 h5 h6 h7 h3
        cases e with
        |none=>exact wpIn_ret ⟨(fun _ h=>by cases h),_,hav _,h8⟩
        |some id=>exact wpIn_exit ⟨(fun _ h=>by cases h),_,hav _,h8⟩
    · -- one round
      rintro pre x w' O K vs ⟨tail,hpre⟩ ⟨s,rest,h1,h2,h3⟩ hK hO hen
      rw [hJ0] at h2
      obtain⟨g1,g2,g3,g4⟩:=h2
      have hrest:rest=x::tail:=by
        rw [← hpre] at h1
        simpa using h1.symm
      subst hrest
      subst g1
      have hy:=run_yield (P:=P) (args:=vs.toArray) g4 (by rw [hrec];simpa using hlen hen)
      rw [hrec] at hy
      refine⟨fn,_,assign,body,hy,roundIn_of_wpIn hfn ?_⟩
      have hen':enc x w' (ks (bsF s) (K++F++O0)) vs:=henc (AA.sub fun k hk=>by
        rcases Bw.1 hk with hk |hk
        · exact List.mem_append_right _ (Bw.2 (.inl hk))
        · rw [List.append_assoc] at hk
          rcases List.mem_append.1 hk with hk |hk
          · exact List.mem_append_left _ hk
          · exact List.mem_append_right _ (Bw.2 (.inr hk))) hen
      have hza:=g3.st.re
      have hrd:=round (w.heap.size+1) (K++F) s x tail w' vs _ rfl hza g3.ch g3.fc h3 hen'
      have hact:=MY ps vs (UE ha) hps
      unfold Wp at hrd
      have hzip:(ps.toArray.zip vs.toArray).foldl (fun t (p:Nat × Value)=>t.setIfInBounds p.1 p.2) a.tmps=(ps.zip vs).foldl (fun t (p,v)=>t.setIfInBounds p v) a.tmps:=by
        rw [← Array.foldl_toList,Array.toList_zip]
      rw [hzip]
      have hlF:w.heap.size+1∈K++F++O0:=by simp [hF]
      refine wpIn_mono (hrd _ hact) ?_
      rintro e a2 w2 ⟨hp,ρ2,ha2,hq⟩
      cases e<;> try exact hq.elim
      obtain⟨bs2,hs2,hq⟩:=hq
      -- the record is as it was
      have hl2:w2.heap[w.heap.size+1]?=some (.loop (rec .ready none)):=by
        rw [hs2.below.block _ (by have:=g3.st.lt0 _ hlF;exact this) (g3.st.dj _ hlF).2];exact g4
      have hbr:=run_beginRound (P:=P) hl2 (by rw [hrec])
      refine⟨_,hbr,?_⟩
      have hlo2:HX [w.heap.size+1] w2 (w2.putObj (w.heap.size+1) (.loop {rec .ready none with state:=.busy})):=⟨rfl,rfl,rfl,by simp,fun k hk hn=>World.putObj_heap_other (by simpa using hn),Nat.le_refl _⟩
      have hs2':=hs2.re
      have hs3:St ⟨w2.putObj (w.heap.size+1) (.loop {rec .ready none with state:=.busy}),bs2.filterMap Prod.fst,[]⟩ (K++F++O0) (w2.putObj (w.heap.size+1) (.loop {rec .ready none with state:=.busy})) bs2:=by
        refine⟨HX.refl _ _,fun p hp b hb=>⟨.inl (B2.2 ⟨p,hp,hb⟩),?_⟩,hs2.nd,fun k hk=>⟨by simpa using (hs2.dj k hk).1,(hs2.dj k hk).2⟩,List.nodup_nil,fun _ h=>by cases h⟩
        rw [hlo2.block b (hs2.lt hp hb) (by simp;rintro rfl;exact(hs2.dj _ hlF).2 (B2.2 ⟨p,hp,hb⟩))]
        exact(hs2.own p hp b hb).2
      have hst3:AA (ks bs2 (K++F++O0)) w2 (ks bs2 (K++F++O0)) (w2.putObj (w.heap.size+1) (.loop {rec .ready none with state:=.busy})):=
        AA.of_loc hlo2 (by rintro k hk;simp at hk;subst hk;exact Bw.2 (.inr hlF)) fun k hk=>.inl hk
      obtain⟨w3,hw3⟩:∃w3,w3=w2.putObj (w.heap.size+1) (.loop {rec .ready none with state:=.busy}):=⟨_,rfl⟩
      rw [← hw3] at hs3 hst3 hlo2 ⊢
      have hl3:w3.heap[w.heap.size+1]?=some (.loop {rec .ready none with state:=.busy}):=by
        rw [hw3];exact World.putObj_heap_same (hs2.lt0 _ hlF)
      -- what the round's end makes of it
      have ends:∀(jump:Option Code) (s':σ) (w4:World),St ⟨w3,bs2.filterMap Prod.fst,[]⟩ (K++F++O0) w4 (bsF s')→AA (ks (bsF s0) O0) w (ks (bsF s') (K++F++O0)) w4→fct s' w4 (ks (bsF s') (K++F++O0))→
          ∃w5,(Instr.endRound (w.heap.size+1) jump).run P w4=.ok (.bool jump.isNone) w5∧HX (ks (bsF s) (F++O0)) w' w5∧Qe (ks (bsF s) (F++O0)) (ks (bsF s') (F++O0)) w' w5∧
            J0 (if jump.isNone then .ready else .done,jump) (ks (bsF s') (F++O0)) K w5 s':=by
        intro jump s' w4 e1 e2 e3
        have hl4:w4.heap[w.heap.size+1]?=some (.loop {rec .ready none with state:=.busy}):=by
          rw [e1.below.block _ (by have:=hs3.lt0 _ hlF;exact this) (hs3.dj _ hlF).2];exact hl3
        have hrun:=run_endRound (P:=P) jump hl4
        obtain⟨w5,hw5⟩:∃w5,w5=w4.putObj (w.heap.size+1) (.loop (rec (if jump.isNone then .ready else .done) jump)):=⟨_,rfl⟩
        have hlo5:HX [w.heap.size+1] w4 w5:=by rw [hw5];exact⟨rfl,rfl,rfl,by simp,fun k hk hn=>World.putObj_heap_other (by simpa using hn),Nat.le_refl _⟩
        -- from w' to w5
        have hk2:∀k∈bs2.filterMap Prod.fst,k∈(bsF s).filterMap Prod.fst∨w'.heap.size≤k:=fun k hk=>by
          obtain⟨p,hp,e⟩:=B2.1 hk
          exact(hs2.own p hp k e).1
        have L1:HX (ks (bsF s) (F++O0)) w' w2:=hs2.below.sub fun k hk=>.inl (Bw.2 (.inl hk))
        have L2:HX (ks (bsF s) (F++O0)) w' w3:=L1.trans' hlo2 fun k hk=>.inl (by simp at hk;subst hk;exact Bw.2 (.inr (by simp [hF])))
        have L3:HX (ks (bsF s) (F++O0)) w' w4:=L2.trans' e1.below fun k hk=>(hk2 k hk).imp (fun h=>Bw.2 (.inl h)) id
        have L4:HX (ks (bsF s) (F++O0)) w' w5:=L3.trans' hlo5 fun k hk=>.inl (by simp at hk;subst hk;exact Bw.2 (.inr (by simp [hF])))
        have hsz2:w'.heap.size≤w2.heap.size:=hs2.below.size
        have hsz3:w3.heap.size=w2.heap.size:=by rw [hw3];simp
        have keys':∀k∈(bsF s').filterMap Prod.fst,k∈(bsF s).filterMap Prod.fst∨w'.heap.size≤k:=fun k hk=>by
          obtain⟨p,hp,e⟩:=B2.1 hk
          rcases (e1.own p hp k e).1 with h |h
          · exact hk2 k h
          · exact .inr (by simp only at h;omega)
        have hG:Qe (ks (bsF s) (F++O0)) (ks (bsF s') (F++O0)) w' w5:=⟨fun k hk=>by
            rcases Bw.1 hk with hk |hk
            · exact(keys' k hk).imp (fun h=>Bw.2 (.inl h)) id
            · exact .inl (Bw.2 (.inr hk)),fun k hk=>by
            have:k<w4.heap.size:=e1.ltw k (by
              rcases Bw.1 hk with hk |hk
              · exact Bw.2 (.inl hk)
              · exact Bw.2 (.inr (by rw [List.append_assoc];exact List.mem_append_right _ hk)))
            have:=hlo5.size;omega⟩
        have hzk:∀k∈(bsF s).filterMap Prod.fst,k∈zD.K∨zD.w.heap.size≤k:=fun k hk=>by
          obtain⟨p,hp,e⟩:=B2.1 hk
          exact(g3.st.own p hp k e).1
        have hzs:zD.w.heap.size≤w.heap.size:=by rw [hzD];exact hzw
        have hzw':zD.w.heap.size≤w'.heap.size:=g3.st.below.size
        have hlds:w.heap.size+1 ∉ zD.ds:=fun hm=>by
          rw [hzD] at hm
          rcases List.mem_cons.1 hm with e |hm
          · omega
          · have:=hs.lt0 _ (hs.dfs _ hm).1;omega
        have B3:HX zD.K zD.w w3:=(g3.st.below.trans' hs2.below hzk).trans' hlo2 fun k hk=>by simp at hk;subst hk;exact .inr (by omega)
        have S4:St zD (K++F++O0) w4 (bsF s'):=e1.back B3 (fun k hk=>by
          rcases hk2 k hk with h |h
          · exact hzk k h
          · exact .inr (by omega)) g3.st.dsn fun D hD=>by
          obtain⟨d1,d2,d3⟩:=g3.st.dfs D hD
          refine⟨d1,d2,?_⟩
          have hlt:=g3.st.lt0 D d1
          rw [e1.below.block D (by rw [hsz3];omega) (hs2.dj D d1).2,hlo2.block D (by omega) (by simp;rintro rfl;exact hlds hD),hs2.below.block D hlt (g3.st.dj D d1).2]
          exact d3
        have S5:St zD (K++F++O0) w5 (bsF s'):=S4.loc hlo5 (by
          rintro k hk;simp at hk;subst hk
          exact⟨(e1.dj _ hlF).2,.inr (by omega),hlds⟩)
        have P5:AA (ks (bsF s') (K++F++O0)) w4 (ks (bsF s') (K++F++O0)) w5:=AA.of_loc hlo5 (by rintro k hk;simp at hk;subst hk;exact Bw.2 (.inr hlF)) fun k hk=>.inl hk
        refine⟨w5,?_,L4,hG,?_⟩
        · rw [hrun,hw5,hrec]
        · rw [hJ0]
          refine⟨rfl,g2,⟨S5,e2.trans P5,hfs _ _ _ _ _ P5 e3⟩,?_⟩
          rw [hw5];exact World.putObj_heap_same (by have:=e1.lt0 _ hlF;exact this)
      have hbody:=hq w3 _ (fun e _ w4=>match e with
          |.normal=>∃s',St ⟨w3,bs2.filterMap Prod.fst,[]⟩ (K++F++O0) w4 (bsF s')∧AA (ks (bsF s0) O0) w (ks (bsF s') (K++F++O0)) w4∧fct s' w4 (ks (bsF s') (K++F++O0))∧tl s' tail
          |e=>∃e',e=R2 e'∧e'∈xs∧∃s',St ⟨w3,bs2.filterMap Prod.fst,[]⟩ (K++F++O0) w4 (bsF s')∧AA (ks (bsF s0) O0) w (ks (bsF s') (K++F++O0)) w4∧fct s' w4 (ks (bsF s') (K++F++O0))∧tx e' s') rfl hs3 hst3
          (fun s' _ w4 e1 e2 e3 e4=>⟨s',e1,e2,e3,e4⟩) (fun e s' _ w4 he e1 e2 e3 e4=>by
            cases e with
            |none=>exact⟨none,rfl,he,s',e1,e2,e3,e4⟩
            |some id=>exact⟨some id,rfl,he,s',e1,e2,e3,e4⟩)
      unfold Wp at hbody
      refine wpIn_mono (hbody a2 ha2) ?_
      rintro e a4 w4 ⟨hp4,ρ4,ha4,hq4⟩
      cases e with
      |normal=>
        obtain⟨s',e1,e2,e3,e4⟩:=hq4
        obtain⟨w5,r1,r2,r3,r4⟩:=ends none s' w4 e1 e2 e3
        exact⟨_,w5,r1,_,r2,r3,.inl ⟨rfl,s',tail,by rw [List.append_assoc];exact h1,r4,e4⟩⟩
      |ret=>
        obtain⟨e',hee,he,s',e1,e2,e3,e4⟩:=hq4
        cases e' with
        |some id=>cases hee
        |none=>
          obtain⟨w5,r1,r2,r3,r4⟩:=ends (some .ret) s' w4 e1 e2 e3
          exact⟨_,w5,r1,_,r2,r3,.inr ⟨rfl,s',none,he,r4,e4⟩⟩
      |exit id=>
        obtain⟨e',hee,he,s',e1,e2,e3,e4⟩:=hq4
        cases e' with
        |none=>cases hee
        |some id'=>
          cases hee
          obtain⟨w5,r1,r2,r3,r4⟩:=ends (some (.exit id)) s' w4 e1 e2 e3
          exact⟨_,w5,r1,_,r2,r3,.inr ⟨rfl,s',some id,he,r4,e4⟩⟩
      |goto t=>obtain⟨e',hee,_⟩:=hq4;cases e'<;> cases hee
      |panic c=>exact absurd rfl (hp4 c)
      |outgrown=>obtain⟨e',hee,_⟩:=hq4;cases e'<;> cases hee
end rule
/-! models: a list gone through -/
section model
universe u
variable {R : Type} {A : Type u} {x : R} {a : A} {L : List A}
def WR (b:(Option R)→A→Option R) (k:(Option R)):List A→Option R
  |[] =>k
  |x::L=>b (WR b k L) x
def IU {A0:Type} (b:(A0→Option R)→A→A0→Option R) (k:(A0→Option R)):List A→A0→Option R
  |[] =>k
  |x::L=>b (IU b k L) x
theorem LS {A0:Type} {b:(A0→Option R)→A→A0→Option R} {k:(A0→Option R)} {a0:A0} :IU b k [] a0=k a0:=rfl
theorem KU {A0:Type} {b:(A0→Option R)→A→A0→Option R} {k:(A0→Option R)} {a0:A0} :IU b k (a::L) a0=b (IU b k L) a a0:=rfl
theorem R3 {A0:Type} {b:(A0→Option R)→A→A0→Option R} {k:(A0→Option R)} {a0:A0} (h:IU b k [] a0=some x):k a0=some x:=LS.symm.trans h
theorem R4 {A0:Type} {b:(A0→Option R)→A→A0→Option R} {k:(A0→Option R)} {a0:A0} (h:IU b k (a::L) a0=some x):∃sf,sf=IU b k L∧b sf a a0=some x:=⟨_,rfl,KU.symm.trans h⟩
def WS {A0 A1:Type} (b:(A0→A1→Option R)→A→A0→A1→Option R) (k:(A0→A1→Option R)):List A→A0→A1→Option R
  |[] =>k
  |x::L=>b (WS b k L) x
def WT {A0 A1 A2:Type} (b:(A0→A1→A2→Option R)→A→A0→A1→A2→Option R) (k:(A0→A1→A2→Option R)):List A→A0→A1→A2→Option R
  |[] =>k
  |x::L=>b (WT b k L) x
def WU {A0 A1 A2 A3:Type} (b:(A0→A1→A2→A3→Option R)→A→A0→A1→A2→A3→Option R) (k:(A0→A1→A2→A3→Option R)):List A→A0→A1→A2→A3→Option R
  |[] =>k
  |x::L=>b (WU b k L) x
def M5 {A0 A1 A2 A3 A4:Type} (b:(A0→A1→A2→A3→A4→Option R)→A→A0→A1→A2→A3→A4→Option R) (k:(A0→A1→A2→A3→A4→Option R)):List A→A0→A1→A2→A3→A4→Option R
  |[] =>k
  |x::L=>b (M5 b k L) x
theorem Qh {A0 A1 A2 A3 A4:Type} {b:(A0→A1→A2→A3→A4→Option R)→A→A0→A1→A2→A3→A4→Option R} {k:(A0→A1→A2→A3→A4→Option R)} {a0:A0} {a1:A1} {a2:A2} {a3:A3} {a4:A4} :M5 b k [] a0 a1 a2 a3 a4=k a0 a1 a2 a3 a4:=rfl
theorem OG {A0 A1 A2 A3 A4:Type} {b:(A0→A1→A2→A3→A4→Option R)→A→A0→A1→A2→A3→A4→Option R} {k:(A0→A1→A2→A3→A4→Option R)} {a0:A0} {a1:A1} {a2:A2} {a3:A3} {a4:A4} :M5 b k (a::L) a0 a1 a2 a3 a4=b (M5 b k L) a a0 a1 a2 a3 a4:=rfl
theorem VW {A0 A1 A2 A3 A4:Type} {b:(A0→A1→A2→A3→A4→Option R)→A→A0→A1→A2→A3→A4→Option R} {k:(A0→A1→A2→A3→A4→Option R)} {a0:A0} {a1:A1} {a2:A2} {a3:A3} {a4:A4} (h:M5 b k [] a0 a1 a2 a3 a4=some x):k a0 a1 a2 a3 a4=some x:=Qh.symm.trans h
theorem VX {A0 A1 A2 A3 A4:Type} {b:(A0→A1→A2→A3→A4→Option R)→A→A0→A1→A2→A3→A4→Option R} {k:(A0→A1→A2→A3→A4→Option R)} {a0:A0} {a1:A1} {a2:A2} {a3:A3} {a4:A4} (h:M5 b k (a::L) a0 a1 a2 a3 a4=some x):∃sf,sf=M5 b k L∧b sf a a0 a1 a2 a3 a4=some x:=⟨_,rfl,OG.symm.trans h⟩
def WV {A0 A1 A2 A3 A4 A5:Type} (b:(A0→A1→A2→A3→A4→A5→Option R)→A→A0→A1→A2→A3→A4→A5→Option R) (k:(A0→A1→A2→A3→A4→A5→Option R)):List A→A0→A1→A2→A3→A4→A5→Option R
  |[] =>k
  |x::L=>b (WV b k L) x
def WW {A0 A1 A2 A3 A4 A5 A6:Type} (b:(A0→A1→A2→A3→A4→A5→A6→Option R)→A→A0→A1→A2→A3→A4→A5→A6→Option R) (k:(A0→A1→A2→A3→A4→A5→A6→Option R)):List A→A0→A1→A2→A3→A4→A5→A6→Option R
  |[] =>k
  |x::L=>b (WW b k L) x
def WX {A0 A1 A2 A3 A4 A5 A6 A7:Type} (b:(A0→A1→A2→A3→A4→A5→A6→A7→Option R)→A→A0→A1→A2→A3→A4→A5→A6→A7→Option R) (k:(A0→A1→A2→A3→A4→A5→A6→A7→Option R)):List A→A0→A1→A2→A3→A4→A5→A6→A7→Option R
  |[] =>k
  |x::L=>b (WX b k L) x
attribute [irreducible] WR IU WS WT WU M5 WV WW WX
def yl {α:Type} (x:α) (m:Option (List α)):Option (List α):=m.map (x::·)
theorem Se {α:Type} {x:α} {m:Option (List α)} {L:List α} (h:yl x m=some L):∃L',m=some L'∧L=x::L':=by
  cases m with
  |none=>cases h
  |some L'=>exact⟨L',rfl,(Option.some.inj h).symm⟩
end model

/-! the iterator's own walk -/
def Vj {α:Type} (P:Program) (enc:α→World→List Nat→List Value→Prop):Vr (List α):=
  ⟨fun w O v L=>∃f caps,v=.func (.func f) #[] (List.toArray caps)∧(∀(args:Array Value) (w:World),(callFunc f args).run P w=.ok (.enter f args) w)∧MX P w O f caps enc L,
   fun s ⟨f,caps,h1,h2,h3⟩=>⟨f,caps,h1,h2,h3.step s⟩⟩
def U0 {α:Type} (P:Program) (enc:α→World→List Nat→List Value→Prop) (w:World) (O:List Nat) (v:Value) (L:List α):Prop:=(Vj P enc).vd w O v L
theorem U0.step {α:Type} {P:Program} {enc:α→World→List Nat→List Value→Prop} {w w':World} {O O':List Nat} {v:Value} {L:List α} (h:U0 P enc w O v L) (s:AA O w O' w'):U0 P enc w' O' v L:=(Vj P enc).step s h
section iter
variable {P : Program} {ρ : EH} {w : World} {z : Zx} {O : List Nat} {bs : Be} {α : Type} {J Jx : JP α} {L pre : List α} {a : α} {l : Nat} {enc : α → World → List Nat → List Value → Prop}
structure LM (J:JP α) (pre:List α) (z:Zx) (O:List Nat):Prop where
  j:J pre z.w O z.K
  dj:∀k∈z.K,k ∉ O
theorem LM.now (h:LM J pre z O) (hJ:G1 J) (hs:St z O w bs):J pre w O (bs.filterMap Prod.fst):=
  hJ.loc h.j h.dj hs.below ⟨fun k hk=>by obtain⟨p,hp,e⟩:=B2.1 hk;exact(hs.own p hp k e).1,fun k hk=>by obtain⟨p,hp,e⟩:=B2.1 hk;exact hs.lt hp e⟩
theorem LM.fin (h:LM J pre z O) (hJ:G1 J) (hs:St z O w bs):J pre w O []:=
  hJ.loc (h.now hJ hs) (fun k hk hm=>(hs.dj k hm).2 hk) (HX.refl _ _) ⟨(fun _ h=>by cases h),fun _ h=>by cases h⟩
theorem LM.start {w:World} (h:J [] w O []):LM J [] ⟨w,[],[]⟩ O:=⟨h,fun _ h=>by cases h⟩
theorem Qi {d:Option Nat} {ty:TypeId} {pos:String} {aft:Array Edge} {g:Option (Nat × Bool)} {V:Value→World→Prop} {x:Operand} {args:List Operand} {us:Array TypeId} {vs:List Value}
    (hx:ev ρ x=.func (.yield l) #[] #[]) (ha:args.map (ev ρ)=vs) (hY:GW P enc L l J Jx) (hJ:G1 J) (hI:LM J pre z O) (hs:St z O w bs) (hL:pre++[a]<+:L) (hen:enc a w (ks bs O) vs)
    (kt:∀w' O',St ⟨w',bs.filterMap Prod.fst,[]⟩ O' w' bs→AA (ks bs O) w (ks bs O') w'→LM J (pre++[a]) ⟨w',bs.filterMap Prod.fst,[]⟩ O'→V (.bool true) w')
    (kf:∀w' O',St ⟨w',bs.filterMap Prod.fst,[]⟩ O' w' bs→LM Jx (pre++[a]) ⟨w',bs.filterMap Prod.fst,[]⟩ O'→V (.bool false) w'):
    BJ P none ρ w ⟨d,.call ⟨.value x,args.toArray,us⟩,ty,pos,aft,g⟩ V:=by
  obtain⟨fn,tmps,assign,body,hy,hR⟩:=hY pre a w O (bs.filterMap Prod.fst) vs hL (hI.now hJ hs) (fun k hk=>⟨hs.ltw k (Bw.2 (.inl hk)),fun hm=>(hs.dj k hm).2 hk⟩) hs.lt0 hen
  unfold BJ
  rw [Oper.semAt_eq _ _ _ (by simp)]
  have hrun:(execOp (ev ρ) ⟨d,.call ⟨.value x,args.toArray,us⟩,ty,pos,aft,g⟩).run P w=.ok (.round l fn tmps assign body) w:=by
    simp only [execOp,resolve,hx]
    subst ha
    simpa [go_sem,invoke] using hy
  rw [hrun]
  simp only
  refine RoundIn.mono hR ?_
  rintro e w' ⟨O',hl,hg,h⟩
  have hS:St ⟨w',bs.filterMap Prod.fst,[]⟩ O' w' bs:=by
    refine⟨HX.refl _ _,fun p hp b hb=>⟨.inl (B2.2 ⟨p,hp,hb⟩),?_⟩,hs.nd,fun k hk=>⟨hg.lt k hk,fun hm=>?_⟩,List.nodup_nil,fun _ h=>by cases h⟩
    · rw [hl.block b (hs.lt hp hb) fun hm=>(hs.dj b hm).2 (B2.2 ⟨p,hp,hb⟩)];exact(hs.own p hp b hb).2
    · rcases hg.new k hk with h1 | h1
      · exact(hs.dj k h1).2 hm
      · obtain ⟨p, hp, e⟩ := B2.1 hm
        have:=hs.lt hp e;omega
  have hP:AA (ks bs O) w (ks bs O') w':=AA.of_loc hl (fun k hk=>Bw.2 (.inr hk)) fun k hk=>by
    rcases Bw.1 hk with hk |hk
    · exact .inl (Bw.2 (.inl hk))
    · exact(hg.new k hk).imp (fun h=>Bw.2 (.inr h)) id
  have hdj:∀k∈bs.filterMap Prod.fst,k ∉ O':=fun k hk hm=>(hS.dj k hm).2 hk
  rcases h with ⟨rfl,h⟩ |⟨rfl,h⟩
  · exact⟨_,rfl,kt w' O' hS hP ⟨h,hdj⟩⟩
  · exact⟨_,rfl,kf w' O' hS ⟨h,hdj⟩⟩
end iter
theorem Px.mkS {w0 w':World} {bs:Be} {α:Type} {O O1:List Nat} {p:Rp α} {e:TypeId} {xs ys:List α} {a:Option Addr} {c i:Nat} {kk:Option Nat} {o:Obj} (hO:∀k∈O,k∈O1) (hs:St ⟨w0,[],[]⟩ O1 w' bs) (hi:bs[i]?=some (kk,o)) (h:Gs p e w' (ks bs O1) a c xs kk o) (he:xs=ys):
    ∃a' c' kk o,Value.slice a xs.length c=.slice a' ys.length c'∧(∀b,kk=some b→w0.heap.size≤b∧w'.heap[b]?=some o)∧Gs p e w' (kk.toList++O) a' c' ys kk o:=by
  subst he
  refine⟨a,c,kk,o,rfl,fun b hb=>⟨((hs.own _ (List.mem_of_getElem? hi) b hb).1).resolve_left (by simp),(hs.own _ (List.mem_of_getElem? hi) b hb).2⟩,h.step ⟨Nat.le_refl _,fun j hj hn=>⟨fun hm=>hn ?_,rfl⟩⟩⟩
  rcases List.mem_append.1 hm with hm |hm
  · refine List.mem_append_left _ (B2.2 ⟨_, List.mem_of_getElem? hi, ?_⟩)
    simpa using hm
  · exact List.mem_append_right _ (hO _ hm)
end Go.Fx
set_option linter.unusedSimpArgs false
set_option linter.unusedVariables false
namespace Go.Fx
open Go Go.RowKit Go.ChangeShapes

section
variable {H : Type} {enc : TypeId × Value → H} {P : Program} {w : World} {base : Nat} {spare : Nat → Bool} {held : Bool}
def Py {α:Type} (Sm:α→Prop) (xs:List α):Prop:=xs.length≤140737488351232∧∀x∈xs,Sm x
def SmT {α:Type} (_:α):Prop:=True
def Rd {α:Type} (enc:TypeId × Value→H) (P:Program) (w:World) (base:Nat) (spare:Nat→Bool) (held:Bool) (t:TypeId) (q:Rp α) (Sm:α→Prop):Prop:=
  P.cellsOf t=q.n∧∀(fuel:Nat) (cs:List Value) (y:DataW H × List MemPlace),DataW.trod enc P w base spare held fuel t cs=some y→∃x,q.rd w [] cs x∧((∀n∈y.1.weights P t,n≤reachBytes)→Sm x)

theorem Tx {k:IntKind} {n:Int} (h:(Lit.int k n).wf=true):k.min≤n∧n≤k.max:=by
  simpa [Lit.wf,IntKind.has] using h
theorem VY {t:TypeId} {k:IntKind} (ht:P.underlying t=some (.int k)) (hc:P.cellsOf t=1):Rd enc P w base spare held t (AL k) (Cx k):=by
  refine⟨hc,fun fuel cs y h=>?_⟩
  obtain⟨n,rfl,_,hw⟩:=DataW.trod_int ht h
  exact⟨n,⟨rfl,Tx hw⟩,fun _=>Tx hw⟩
theorem UF {t:TypeId} (ht:P.underlying t=some .bool) (hc:P.cellsOf t=1):Rd enc P w base spare held t O9 SmT:=by
  refine⟨hc,fun fuel cs y h=>?_⟩
  obtain⟨b,rfl,_⟩:=DataW.trod_bool ht h
  exact⟨b,rfl,fun _=>trivial⟩
theorem Pz {α:Type} {q:Rp α} {a:Addr} {cs:List Value} {x:α} (hn:0<q.n) (hc:w.cells? base a q.n=some cs) (hr:q.rd w [] cs x):Ia q w [] a x:=by
  obtain⟨_,hl,hg⟩:=World.cells?_some hc
  have h0:=hg 0 hn
  have hs0:(cs[0]?).isSome:=by simp;omega
  obtain⟨v0,hv0⟩:=Option.isSome_iff_exists.1 hs0
  rw [hv0] at h0
  have hsp:a.spot=none:=by have:=World.cell?_spot h0;rwa [Addr.add_zero'] at this
  obtain⟨b,off,sp⟩:=a
  simp only at hsp;subst hsp
  have hblk:∃c T fz,w.heap[b]?=some (.cells c T fz):=by
    simp only [Addr.add_lit,World.cell?,Option.isSome_none,Bool.false_eq_true,if_false] at h0
    cases hb:w.heap[b]? with
    |none=>rw [hb] at h0;simp at h0
    |some o=>cases o<;> simp [hb] at h0;exact⟨_,_,_,rfl⟩
  obtain⟨c,T,fz,hb⟩:=hblk
  have hget:∀i,i<q.n→c[off+i]?=cs[i]?:=fun i hi=>by
    have:=hg i hi
    rw [Addr.add_lit,JU hb] at this
    exact this
  have hsz:off+q.n≤c.size:=by
    have:=hget (q.n - 1) (by omega)
    rw [List.getElem?_eq_getElem (by omega)] at this
    have:=(Array.getElem?_eq_some_iff.1 this).1
    omega
  refine⟨rfl,⟨(Array.getElem?_eq_some_iff.1 hb).1,by simp⟩,c,T,fz,hb,hsz,?_⟩
  have e:(c.toList.drop off).take q.n=cs:=by
    apply List.ext_getElem?
    intro i
    rw [List.getElem?_take,List.getElem?_drop]
    split
    · rename_i hi;rw [← hget i hi];simp
    · rw [List.getElem?_eq_none (by omega)]
  simp only [e];exact hr
theorem KB {e:TypeId} :∀{l:List (DataW H)} {d:DataW H},d∈l→∀n∈d.weights P e,n∈DataW.weightsAll P e l
  |[],_,h,_,_=>by cases h
  |x::l,d,h,n,hn=>by
    rw [DataW.weightsAll]
    rcases List.mem_cons.1 h with e |h
    · subst e;exact List.mem_append_left _ hn
    · exact List.mem_append_right _ (KB h n hn)
theorem JG {α:Type} {q:Rp α} {Sm:α→Prop} {t e:TypeId} (ht:P.underlying t=some (.slice e)) (hc:P.cellsOf t=1) (hn:0<q.n) (hby:1≤P.bytesOf e) (R:Rd enc P w base spare held e q Sm):Rd enc P w base spare held t (BG q) (Py Sm):=by
  refine⟨hc,fun fuel cs y h=>?_⟩
  rcases DataW.trod_slice ht h with ⟨rfl,_⟩ |⟨a,len,cap,elems,rest,n,_,rfl,hy,hb,hl,hm,hlen,hel,_,_⟩
  · exact⟨[],⟨none,0,rfl,CA.nil_⟩,fun _=>⟨by simp,by simp⟩⟩
  · have hex:∀i (hi:i<elems.length),∃x,Ia q w [] (a.add (i*q.n)) x∧((∀n∈elems[i].1.weights P e,n≤reachBytes)→Sm x):=fun i hi=>by
      have h1:=hel i (by omega)
      rw [List.getElem?_eq_getElem hi,Option.bind_eq_some_iff] at h1
      obtain⟨cs,h2,h3⟩:=h1
      obtain⟨x,hx,hs⟩:=R.2 _ _ _ h3
      rw [R.1] at h2
      exact⟨x,Pz hn h2 hx,hs⟩
    have key:∀k,k≤elems.length→∃xs:List α,xs.length=k∧∀i (h:i<xs.length) (hi:i<elems.length),Ia q w [] (a.add (i*q.n)) xs[i]∧((∀n∈elems[i].1.weights P e,n≤reachBytes)→Sm xs[i]):=by
      intro k
      induction k with
      |zero=>exact fun _=>⟨[],rfl,by simp⟩
      |succ k ih=>
        intro hk
        obtain⟨xs,h1,h2⟩:=ih (by omega)
        obtain⟨x,hx⟩:=hex k (by omega)
        refine⟨xs++[x],by simp [h1],fun i hi hi2=>?_⟩
        by_cases hik:i<xs.length
        · rw [List.getElem_append_left hik];exact h2 i hik hi2
        · have : i = k := by simp at hi; omega
          subst this
          rw [List.getElem_append_right (by omega)];simpa [h1] using hx
    obtain⟨xs,h1,h2⟩:=key elems.length (Nat.le_refl _)
    refine⟨xs,⟨some a,cap,by rw [h1,hlen],⟨by omega,hm,(fun h=>by cases h),fun ad he i hi=>by cases he;exact(h2 i hi (by omega)).1⟩⟩,fun hw=>?_⟩
    rw [hy] at hw
    simp only [DataW.weights,ht,List.mem_cons,List.mem_append] at hw
    refine⟨?_,fun x hx=>?_⟩
    · have h3 := hw _ (.inl rfl)
      simp only [List.length_map,reachBytes] at h3
      have h4:elems.length*1≤(elems.length+rest.length)*P.bytesOf e:=Nat.mul_le_mul (by omega) hby
      rw [h1];omega
    · obtain ⟨i, hi, rfl⟩ := List.mem_iff_getElem.1 hx
      refine(h2 i hi (by omega)).2 fun n hn'=>hw n (.inr (.inl (KB (d:=elems[i].1) (List.mem_map.2 ⟨elems[i],List.getElem_mem _,rfl⟩) n hn')))
theorem QO {α:Type} {q:Rp α} {Sm:α→Prop} {fs:Array Field} {cs:List Value} {xs:List (DataW H × List MemPlace)} {n i:Nat} {f:Field} {t:TypeId} {y:DataW H × List MemPlace} (ht:P.underlying t=some (.struct fs))
    (h:∀(i:Nat) (f:Field),fs[i]?=some f→DataW.trod enc P w base spare held n f.type ((cs.drop f.offset).take (P.cellsOf f.type))=xs[i]?) (hl:xs.length=fs.size) (hy:y=(.agg (xs.map (·.1)),xs.flatMap (·.2))) (hf:fs[i]?=some f)
    (R:Rd enc P w base spare held f.type q Sm):∃x,q.rd w [] ((cs.drop f.offset).take q.n) x∧((∀n∈y.1.weights P t,n≤reachBytes)→Sm x):=by
  have h1:=h i f hf
  have hi:i<xs.length:=by rw [hl];exact(Array.getElem?_eq_some_iff.1 hf).1
  rw [List.getElem?_eq_getElem hi] at h1
  obtain⟨x,hx,hs⟩:=R.2 _ _ _ h1
  rw [R.1] at hx
  refine⟨x,hx,fun hw=>hs fun n hn=>hw n ?_⟩
  rw [hy]
  simp only [DataW.weights,ht]
  exact DataW.weights_mem_each (j:=i) (t:=f.type) (d:=xs[i].1) (by simp [hf]) (by simp [hi]) n hn
theorem HL {α β:Type} {r:Rp α} {s:Rp β} {O:List Nat} {cs:List Value} {o:Nat} {x:α} {y:β} (h1:r.rd w O ((cs.drop o).take r.n) x) (h2:s.rd w O ((cs.drop (o+r.n)).take s.n) y):
    (Gg r s).rd w O ((cs.drop o).take (Gg r s).n) (x,y):=by
  refine⟨_,_,?_,h1,h2⟩
  show(cs.drop o).take (r.n+s.n)=_
  rw [List.take_add,List.drop_drop]
theorem NA {α:Type} {q:Rp α} {O:List Nat} {cs:List Value} {x:α} (h:q.rd w O ((cs.drop 0).take q.n) x) (hl:cs.length=q.n):q.rd w O cs x:=by
  rwa [List.drop_zero,List.take_of_length_le (by omega)] at h
end
end Go.Fx
set_option linter.unusedSimpArgs false
set_option linter.unusedVariables false
namespace Go.Fx
open Go Go.RowKit
abbrev Iv (x:Int):Value:=Value.int .i64 x
abbrev Bo (x:Bool):Value:=Value.bool x
abbrev Sl {α:Type} (a:Option Addr) (xs:List α) (c:Nat):Value:=Value.slice a xs.length c
abbrev Pt (b o:Nat):Value:=Value.pointer (some ⟨b,o,none⟩)
abbrev Oc (cs:List Value) (t:TypeId):Obj:=Obj.cells cs.toArray t
abbrev Nz:=Option Nat × Obj
inductive Ip:Be→Nz→Nz→Be→Prop
  |z {l:Be} {e e':Nz} :Ip (e::l) e e' (e'::l)
  |s {a:Nz} {l l':Be} {e e':Nz} :Ip l e e' l'→Ip (a::l) e e' (a::l')
theorem Ip.at {l l':Be} {e e':Nz} (h:Ip l e e' l'):∃i:Nat,l[i]?=some e∧l.set i e'=l':=by
  induction h with
  |z=>exact⟨0,rfl,rfl⟩
  |s _ ih=>obtain⟨i,h1,h2⟩:=ih;exact⟨i+1,by simpa using h1,by simp [h2]⟩
theorem Ip.p1 {a:Nz} {l:Be} {e e':Nz} :Ip (a::e::l) e e' (a::e'::l):=.s .z
theorem Ip.p2 {a b:Nz} {l:Be} {e e':Nz} :Ip (a::b::e::l) e e' (a::b::e'::l):=.s .p1
theorem Ip.p3 {a b c:Nz} {l:Be} {e e':Nz} :Ip (a::b::c::e::l) e e' (a::b::c::e'::l):=.s .p2
theorem Ip.p4 {a b c d:Nz} {l:Be} {e e':Nz} :Ip (a::b::c::d::e::l) e e' (a::b::c::d::e'::l):=.s .p3
theorem Ip.p5 {a b c d f:Nz} {l:Be} {e e':Nz} :Ip (a::b::c::d::f::e::l) e e' (a::b::c::d::f::e'::l):=.s .p4
theorem Ip.p6 {a b c d f g:Nz} {l:Be} {e e':Nz} :Ip (a::b::c::d::f::g::e::l) e e' (a::b::c::d::f::g::e'::l):=.s .p5
theorem Ip.p7 {a b c d f g h:Nz} {l:Be} {e e':Nz} :Ip (a::b::c::d::f::g::h::e::l) e e' (a::b::c::d::f::g::h::e'::l):=.s .p6
theorem Ip.p8 {a b c d f g h i:Nz} {l:Be} {e e':Nz} :Ip (a::b::c::d::f::g::h::i::e::l) e e' (a::b::c::d::f::g::h::i::e'::l):=.s .p7
theorem Ip.p9 {a b c d f g h i j:Nz} {l:Be} {e e':Nz} :Ip (a::b::c::d::f::g::h::i::j::e::l) e e' (a::b::c::d::f::g::h::i::j::e'::l):=.s .p8
section
variable {P : Program} {r : Option Nat} {n : Nat} {Q : I5} {ρ : EH} {w w' : World} {z : Zx} {O : List Nat} {bs : Be}
theorem BB.of {ds E:List Nat} {ρ ρ':EH} {L:List (Nat × Value)} (hL:N7 ρ' L) (hE:ρ'.ds=E:=by rfl) (hO:Lw ds ρ ρ':=by repeat (first |with_reducible exact Lw.refl _ _ |refine Lw.upd ?_ rfl |refine Lw.updL ?_ rfl |refine Lw.mix' ?_ rfl |exact Lw.refl _ _)):BB ds ρ ρ' E L:=⟨hO,hE,hL⟩
theorem Wr {c:Code} (E:List Nat) (L:List (Nat × Value)) (k:∀ξ:Nat→Value,Wp P r n c Q (CO ⟨ξ,E⟩ L) w) (hE:ρ.ds=E:=by rfl) (hL:N7 ρ L:=by repeat (first |exact trivial |refine⟨rfl,?_⟩)):Wp P r n c Q ρ w:=Tr E L hE hL k
theorem Ic {c:Code} (ds E:List Nat) (ρj:EH) (L:List (Nat × Value)) (k:∀ξ:EH,Wp P r n c Q (CO (JE ds E ξ ρj) L) w) (hE:ρ.ds=E:=by rfl) (hL:N7 ρ L:=by repeat (first |exact trivial |refine⟨rfl,?_⟩)) (hO:Lw ds ρj ρ:=by repeat (first |with_reducible exact Lw.refl _ _ |refine Lw.upd ?_ rfl |refine Lw.updL ?_ rfl |refine Lw.mix' ?_ rfl |exact Lw.refl _ _)):Wp P r n c Q ρ w:=SH ds E ρj L hO hE hL k
theorem St.stepE (_:St z O w bs) (hx:GU w w'):AA (ks bs O) w (ks bs O) w':=AA.ext hx
theorem St.stepR (_:St z O w bs):AA (ks bs O) w (ks bs O) w:=AA.refl _ _
theorem St.to {z':Zx} {bs':Be} {O':List Nat} (_:St z O w bs) (_:St z' O' w' bs') (p:AA (ks bs O) w (ks bs' O') w'):AA (ks bs O) w (ks bs' O') w':=p
theorem AF {α:Type} {a b:Option α} {v:α} {c:Operand} {x y:Code} {t:Bool} (hm:(bif t then a else b)=some v) (hc:ev ρ c=.bool t) (ht:t=true→a=some v→Wp P r n x Q ρ w) (hf:t=false→b=some v→Wp P r n y Q ρ w):Wp P r n (.cond c x y) Q ρ w:=
  Pl hc (fun h=>ht h (Hy hm h)) (fun h=>hf h (Hz hm h))
theorem Bz {α:Type} {a e:Option α} {v:α} {d:Nat} {b:Bool} {ops rest:List Oper} (hm:(bif b then a else e)=some v) (ht:b=true→a=some v→Rg P r n ops rest Q (Lu ρ d (.bool true)) w) (hf:b=false→e=some v→Rg P r n ops rest Q (Lu ρ d (.bool false)) w):Rg P r n ops rest Q (Lu ρ d (.bool b)) w:=
  U7 (fun h=>ht h (Hy hm h)) (fun h=>hf h (Hz hm h))
abbrev St.S (_:St z O w bs) (O':List Nat) (w':World):Prop:=AA (ks bs O) w O' w'
end
section
variable {P : Program} {r : Option Nat} {ρ : EH} {w : World} {w0 : Zx} {O0 : List Nat} {bs bs' : Be} {d : Option Nat} {ty : TypeId} {pos : String} {aft : Array Edge} {g : Option (Nat × Bool)} {V : Value → World → Prop} {t : TypeId} {n b : Nat} {td : TypeDesc} {z : List Value} {ag : Bool} {x y : Operand}
theorem UG {cs vs:List Value} (h:cs.length=vs.length):HY cs 0 vs=vs:=by simp [HY,← h]
theorem AP {bl off:Nat} (i:Nat) {cs:List Value} {e:TypeId} {fz:Nat × Nat} {v:Value} (T:Ty P t td n b z false) (hs:St w0 O0 w bs) (hx:ev ρ x=.pointer (some ⟨bl,off,none⟩))
    (hi:bs[i]?=some (some bl,.cells cs.toArray e fz)) (hv:cs[off]?=some v) (k:V v w):BJ P r ρ w ⟨d,.load t x,ty,pos,aft,g⟩ V:=RS T hs hx hi hv k
theorem B1 {bl:Nat} (i:Nat) {cs:List Value} {e:TypeId} {fz:Nat × Nat} (T:Ty P t td n b z true) (hs:St w0 O0 w bs) (hx:ev ρ x=.pointer (some ⟨bl,0,none⟩))
    (hi:bs[i]?=some (some bl,.cells cs.toArray e fz)) (hn:cs.length=n) (k:V (.agg cs.toArray) w):BJ P r ρ w ⟨d,.load t x,ty,pos,aft,g⟩ V:=G4 T hs hx hi (by simp [← hn]) hn k
theorem VZ {bl off:Nat} {cs vs cs':List Value} {e:TypeId} (hb:Ip bs (some bl,Oc cs e) (some bl,Oc cs' e) bs') (T:Ty P t td n b z ag) (hs:St w0 O0 w bs) (hx:ev ρ x=.pointer (some ⟨bl,off,none⟩)) (hy:ev ρ y=.agg vs.toArray)
    (hn:vs.length=n) (h1:vs.all (·.oneCell')=true) (hl:off+n≤cs.length) (hc:HY cs off vs=cs') (hz:true=true)
    (k:∀w',AA (ks bs O0) w (ks bs' O0) w'→St w0 O0 w' bs'→V undef w'):BJ P r ρ w ⟨d,.store t x y,ty,pos,aft,g⟩ V:=by
  obtain⟨i,hi,hb⟩:=hb.at
  exact HJ T hs hx hy hi rfl hn hl h1 hc hb k
theorem C6 {bl:Nat} {cs vs:List Value} {e:TypeId} (hb:Ip bs (some bl,Oc cs e) (some bl,Oc vs e) bs') (T:Ty P t td n b z ag) (hs:St w0 O0 w bs) (hx:ev ρ x=.pointer (some ⟨bl,0,none⟩)) (hy:ev ρ y=.agg vs.toArray)
    (hn:vs.length=n) (hl:cs.length=n) (h1:vs.all (·.oneCell')=true)
    (k:∀w',AA (ks bs O0) w (ks bs' O0) w'→St w0 O0 w' bs'→V undef w'):BJ P r ρ w ⟨d,.store t x y,ty,pos,aft,g⟩ V:=by
  obtain⟨i,hi,hb⟩:=hb.at
  exact HJ T hs hx hy hi rfl hn (by omega) h1 (UG (by omega)) hb k
theorem KC {bl off:Nat} (v:Value) {cs cs':List Value} {e:TypeId} (hb:Ip bs (some bl,Oc cs e) (some bl,Oc cs' e) bs') (T:Ty P t td 1 b z ag) (hs:St w0 O0 w bs) (hx:ev ρ x=.pointer (some ⟨bl,off,none⟩)) (hy:ev ρ y=v)
    (hv:v.cells=[v].toArray) (hl:off+1≤cs.length) (hc:HY cs off [v] =cs') (h1:v.oneCell'=true)
    (k:∀w',AA (ks bs O0) w (ks bs' O0) w'→St w0 O0 w' bs'→V undef w'):BJ P r ρ w ⟨d,.store t x y,ty,pos,aft,g⟩ V:=by
  obtain⟨i,hi,hb⟩:=hb.at
  exact HJ T hs hx hy hi hv rfl hl (by simp [h1]) hc hb k
theorem F1 {bl:Nat} (v:Value) {c:Value} {e:TypeId} (hb:Ip bs (some bl,Oc [c] e) (some bl,Oc [v] e) bs') (T:Ty P t td 1 b z ag) (hs:St w0 O0 w bs) (hx:ev ρ x=.pointer (some ⟨bl,0,none⟩)) (hy:ev ρ y=v)
    (hv:v.cells=[v].toArray) (h1:v.oneCell'=true)
    (k:∀w',AA (ks bs O0) w (ks bs' O0) w'→St w0 O0 w' bs'→V undef w'):BJ P r ρ w ⟨d,.store t x y,ty,pos,aft,g⟩ V:=
  KC v hb T hs hx hy hv (Nat.le_refl 1) rfl h1 k
end
section
variable {P : Program} {r : Option Nat} {n : Nat} {Q : I5} {ρ : EH} {w : World} {z : Zx} {O : List Nat} {bs : Be} {d : Nat} {ty : TypeId} {pos : String} {aft : Array Edge} {ops rest : List Oper}
theorem Bb {x:Operand} (v:Value) (hx:ev ρ x=v) (h:Rg P r n ops rest Q (Lu ρ d v) w) (hd:decide (d<n)=true:=by rfl):Rg P r n ops (⟨some d,.move x,ty,pos,aft,none⟩::rest) Q ρ w:=PZ hd (AD hx h)
theorem Bn {x:Operand} (v:Value) (hx:ev ρ x=v) (h:Rg P r n ops rest Q (Lu ρ d v) w) (hd:decide (d<n)=true:=by rfl):Rg P r n ops (⟨some d,.assign x,ty,pos,aft,none⟩::rest) Q ρ w:=PZ hd (Mx hx h)
theorem F8 {c x y:Operand} (v:Value) (hc:ev ρ c=.bool false) (hx:ev ρ y=v) (h:Rg P r n ops rest Q (Lu ρ d v) w) (hd:decide (d<n)=true:=by rfl):Rg P r n ops (⟨some d,.pick c x y,ty,pos,aft,none⟩::rest) Q ρ w:=PZ hd (FE hc hx h)
theorem FM {c x y:Operand} (v:Value) (hc:ev ρ c=.bool true) (hx:ev ρ x=v) (h:Rg P r n ops rest Q (Lu ρ d v) w) (hd:decide (d<n)=true:=by rfl):Rg P r n ops (⟨some d,.pick c x y,ty,pos,aft,none⟩::rest) Q ρ w:=PZ hd (DR hc hx h)
theorem A9 {o:Op} (h:BJ P r ρ w ⟨some d,o,ty,pos,aft,none⟩ fun v w'=>Rg P r n ops rest Q (Lu ρ d v) w') (hd:decide (d<n)=true:=by rfl):Rg P r n ops (⟨some d,o,ty,pos,aft,none⟩::rest) Q ρ w:=PZ hd h
theorem BO {o:Op} {j dj:Nat} {b:Bool} (hj:(ops[j]?).bind (·.dst)=some dj) (hb:ρ dj=.bool b) (h:BJ P r ρ w ⟨some d,o,ty,pos,aft,some (j,b)⟩ fun v w'=>Rg P r n ops rest Q (Lu ρ d v) w') (hd:decide (d<n)=true:=by rfl):Rg P r n ops (⟨some d,o,ty,pos,aft,some (j,b)⟩::rest) Q ρ w:=VO hj hb hd h
theorem AQ {V:Value→World→Prop} {t:TypeId} {x:Operand} {d:Option Nat} {g:Option (Nat × Bool)} {fs:Array Field} {f fn fb n b:Nat} {z:List Value} {ag:Bool} {fl:Field} {fd:TypeDesc} {fz:List Value} {fa:Bool} {bl off:Nat} (o:Nat) (T:Ty P t (.struct fs) n b z ag) (hf:fs[f]?=some fl) (F:Ty P fl.type fd fn fb fz fa)
    (hx:ev ρ x=.pointer (some ⟨bl,off,none⟩)) (hp:(⟨bl,off,none⟩:Addr).add fl.offset=⟨bl,o,none⟩) (k:V (.pointer (some ⟨bl,o,none⟩)) w) (hn:decide (fn≠0)=true:=by rfl):BJ P r ρ w ⟨d,.fieldAddr t x f,ty,pos,aft,g⟩ V:=
  B5 T hf F (by simpa using hn) hx hp k
theorem DX {w:World} :N3 [] w w:=rfl
theorem oi {α:Type} {a b:α} (h:some a=some b):a=b:=Option.some.inj h
theorem Bi {d:Option Nat} {g:Option (Nat × Bool)} {V:Value→World→Prop} {f:FuncId} {args:Array Operand} {us:Array TypeId} {vs:List Value} {R:Value→World→Prop} (hs:St z O w bs) (hc:∀(args:Array Value) (w:World),(callFunc f args).run P w=.ok (.enter f args) w)
    (h:Fn P f vs w fun v w'=>GU w w'∧R v w') (ha:args.toList.map (ev ρ)=vs) (k:∀v w',AA (ks bs O) w (ks bs O) w'→St z O w' bs→R v w'→V v w'):BJ P r ρ w ⟨d,.call ⟨.value (.func f),args,us⟩,ty,pos,aft,g⟩ V:=
  Gi hc h ha fun v w' ⟨hx,h⟩=>k v w' (AA.ext hx) (hs.call hx) h
end
section
variable {Γ : Type} {T : OD Γ} {g0 : Γ} {ops l : List Oper} {K : List (Nat × VR Γ) → Prop} {G : List (Nat × VR Γ)} {d : Nat} {op : Op} {ty : TypeId} {pos : String} {aft : Array Edge} {P : Program} {r : Option Nat} {ρ : EH} {w : World}
theorem Bc (c:Value) (hop:∀ρ' w' g',T.inv w' g'→(∀t,((⟨some d,op,ty,pos,aft,none⟩:Oper).looksAt ops.toArray).contains t=true→Gj G ρ ρ' w' g' t)→
      BJ P r ρ' w' ⟨some d,op,ty,pos,aft,none⟩ (Bs T w' g' (fun v _ _=>v=c) G.length))
    (h:LR P r T ops ρ w g0 K l ((d,fun v _ _=>v=c)::G)):LR P r T ops ρ w g0 K (⟨some d,op,ty,pos,aft,none⟩::l) G:=BN c (fun ρ' w' g' _ hi ht=>Ay (hop ρ' w' g' hi ht)) h
theorem Dt {j dj:Nat} {b:Bool} (c:Value) (hj:(ops[j]?).bind (·.dst)=some dj) (hl:((⟨some d,op,ty,pos,aft,some (j,b)⟩:Oper).looksAt ops.toArray).contains dj=true) (hb:∀ρ' w' g',Gj G ρ ρ' w' g' dj→ρ' dj=.bool b)
    (hop:∀ρ' w' g',T.inv w' g'→(∀t,((⟨some d,op,ty,pos,aft,some (j,b)⟩:Oper).looksAt ops.toArray).contains t=true→Gj G ρ ρ' w' g' t)→
      BJ P r ρ' w' ⟨some d,op,ty,pos,aft,some (j,b)⟩ (Bs T w' g' (fun v _ _=>v=c) G.length))
    (h:LR P r T ops ρ w g0 K l ((d,fun v _ _=>v=c)::G)):LR P r T ops ρ w g0 K (⟨some d,op,ty,pos,aft,some (j,b)⟩::l) G:=BN c (fun ρ' w' g' _ hi ht=>BL hj (hb _ _ _ (ht dj hl)) (hop ρ' w' g' hi ht)) h
theorem FX {j t:Nat} {b:Bool} {v:Value} (hj:(ops[j]?).bind (·.dst)=some t) (hl:((⟨some d,op,ty,pos,aft,some (j,b)⟩:Oper).looksAt ops.toArray).contains t=true) (hc:∀ρ' w' g',Gj G ρ ρ' w' g' t→ρ' t=v) (hv:(U3 v == some b)=false)
    (h:LR P r T ops ρ w g0 K l ((d,fun v _ _=>v=undef)::G)):LR P r T ops ρ w g0 K (⟨some d,op,ty,pos,aft,some (j,b)⟩::l) G:=U8 (fun ρ' w' g' ht=>To hj (hc _ _ _ (ht t hl)) hv) h
theorem Gz {w':World} {g':Γ} {c:Value} {k:Nat} (hi:T.inv w' g'):Bs T w' g' (fun v _ _=>v=c) k c w':=Bs.same hi rfl
end
end Go.Fx
