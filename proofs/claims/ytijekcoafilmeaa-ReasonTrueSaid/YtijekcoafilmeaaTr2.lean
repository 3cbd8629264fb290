/- Part 2 of the proof: for every problem there is a smallest reason exactly if every solution has an overload. -/
import Derived.Test.YtijekcoafilmeaaTr1
import Derived.Maps.RangeRun
import Derived.Laws.StructEq
import Derived.Shelf.SlSortCmp.NoneTotal
import Derived.Shelf.SlGeneric
import Derived.Ground.SlsfProg
import Derived.Test.YtijekcoafilmeaaChecked
import Derived.Test.YtijekcoafilmeaaRows
import Derived.WalkKit
import Derived.ShutString
set_option linter.unusedSimpArgs false
set_option linter.unusedVariables false
set_option linter.unusedSectionVars false
namespace Go.Fx
open Go Go.RowKit

/-! keys -/
def JH:List Int→List Int→Bool
  |[],[] =>false
  |[],_::_=>true
  |_::_,[] =>false
  |x::s,y::t=>decide (x<y)||(decide (x=y)&&JH s t)
theorem OH:∀a,JH a a=false
  |[] =>rfl
  |x::s=>by unfold JH;rw [decide_eq_false (Int.lt_irrefl x),OH s];simp
theorem MZ:∀{a b c},JH a b=true→JH b c=true→JH a c=true
  |[],[],_,h,_=>by cases h
  |[],_::_,[],_,h=>by cases h
  |[],_::_,_::_,_,_=>rfl
  |_::_,[],_,h,_=>by cases h
  |_::_,_::_,[],_,h=>by cases h
  |x::s,y::t,z::u,h1,h2=>by
    unfold JH at*
    simp only [Bool.or_eq_true,Bool.and_eq_true,decide_eq_true_eq] at*
    rcases h1 with h1 |⟨h1,h1'⟩<;> rcases h2 with h2 |⟨h2,h2'⟩
    · exact .inl (by omega)
    · exact .inl (by omega)
    · exact .inl (by omega)
    · exact .inr ⟨by omega,MZ h1' h2'⟩
theorem OI:∀{a b},JH a b=false→JH b a=false→a=b
  |[],[],_,_=>rfl
  |[],_::_,h,_=>by cases h
  |_::_,[],_,h=>by cases h
  |x::s,y::t,h1,h2=>by
    unfold JH at*
    simp only [Bool.or_eq_false_iff,Bool.and_eq_false_iff,decide_eq_false_iff_not] at*
    have e:x=y:=by omega
    subst e
    obtain⟨_,h1⟩:=h1
    obtain⟨_,h2⟩:=h2
    rw [OI (h1.resolve_left fun h=>h rfl) (h2.resolve_left fun h=>h rfl)]
class Hk (K:Type) where
  ord:K→List Int
  inj:∀{a b:K},ord a=ord b→a=b
instance:Hk Int:=⟨fun x=>[x],fun h=>by simpa using h⟩
def OJ {K:Type} [Hk K] (a b:K):Bool:=JH (Hk.ord a) (Hk.ord b)
section
variable {K : Type} [Hk K]
theorem LT (a:K):OJ a a=false:=OH _
theorem NB {a b:K} (h:OJ a b=true):a≠b:=fun e=>by subst e;rw [LT] at h;cases h
theorem M6 {a b c:K} (h1:OJ a b=true) (h2:OJ b c=true):OJ a c=true:=MZ h1 h2
theorem Qj {a b:K} (h:OJ a b=true):OJ b a=false:=by
  cases h2:OJ b a
  · rfl
  · have:=M6 h h2;rw [LT] at this;cases this
theorem UH {a b:K} (h1:OJ a b=false) (h2:a≠b):OJ b a=true:=by
  cases h:OJ b a
  · exact absurd (Hk.inj (OI h1 h)) h2
  · rfl
end
/-! models -/
section model
variable {K V : Type} [DecidableEq K]
def Bu:List (K × V)→K→Option V
  |[],_=>none
  |(k,v)::t,n=>if k=n then some v else Bu t n
def Dp [Hk K]:List (K × V)→K→V→List (K × V)
  |[],n,x=>[(n,x)]
  |(k,v)::t,n,x=>if OJ n k=true then (n,x)::(k,v)::t else if n=k then (n,x)::t else (k,v)::Dp t n x
def Nt (l:List (K × V)) (n:K):List (K × V):=l.filter fun p=>!decide (p.1=n)
def Hh [Hk K] (l:List (K × V)):Prop:=l.Pairwise fun p q=>OJ p.1 q.1=true
theorem G7 [Hk K] (l:List (K × V)) (n m:K) (x:V):Bu (Dp l n x) m=if n=m then some x else Bu l m:=by
  induction l with
  |nil=>simp [Dp,Bu]
  |cons p t ih=>
    obtain⟨k,v⟩:=p
    unfold Dp
    by_cases h1:OJ n k=true
    · simp only [h1,if_true,Bu]
    · by_cases h2 : n = k
      · subst h2;simp only [LT,Bool.false_eq_true,if_false,if_true,Bu];split<;> rfl
      · simp only [h1, h2, Bool.false_eq_true, if_false, Bu, ih]
        by_cases h3:k=m
        · have : ¬ n = m := fun e => h2 (e.trans h3.symm)
          simp [h3,this]
        · simp [h3]
theorem IP {l:List (K × V)} {n:K} (h:Bu l n=none):∀p∈l,p.1≠n:=by
  induction l with
  |nil=>intro p hp;cases hp
  |cons q t ih=>
    obtain⟨k,v⟩:=q
    unfold Bu at h
    split at h
    · cases h
    · rename_i hk
      intro p hp
      rcases List.mem_cons.1 hp with e |hp
      · subst e;exact hk
      · exact ih h p hp
theorem FI {l:List (K × V)} {n:K} {x:V} (h:Bu l n=some x):(n,x)∈l:=by
  induction l with
  |nil=>cases h
  |cons q t ih=>
    obtain⟨k,v⟩:=q
    unfold Bu at h
    split at h
    · rename_i hk;subst hk;cases h;simp
    · exact List.mem_cons_of_mem _ (ih h)
theorem Jo [Hk K] {l:List (K × V)} (hr:Hh l) {n:K} {x:V} (h:(n,x)∈l):Bu l n=some x:=by
  induction l with
  |nil=>cases h
  |cons q t ih=>
    obtain⟨k,v⟩:=q
    have hr':=List.pairwise_cons.1 hr
    unfold Bu
    rcases List.mem_cons.1 h with e |h
    · cases e;simp
    · have := hr'.1 _ h
      simp only at this
      rw [if_neg (NB this)];exact ih hr'.2 h
theorem LU [Hk K] {l:List (K × V)} (hr:Hh l) (n:K) (x:V) (p:K × V):p∈Dp l n x ↔ p=(n,x)∨(p∈l∧p.1≠n):=by
  induction l with
  |nil=>simp [Dp]
  |cons q t ih=>
    obtain⟨k,v⟩:=q
    have hr':=List.pairwise_cons.1 hr
    unfold Dp
    by_cases h1:OJ n k=true
    · simp only [h1, if_true, List.mem_cons]
      constructor
      · rintro (h | h | h)
        · exact .inl h
        · subst h;exact .inr ⟨.inl rfl,(NB h1).symm⟩
        · exact .inr ⟨.inr h,by have:=hr'.1 p h;simp only at this;exact(NB (M6 h1 this)).symm⟩
      · rintro (h | ⟨h | h, _⟩)
        · exact .inl h
        · exact .inr (.inl h)
        · exact .inr (.inr h)
    · by_cases h2 : n = k
      · subst h2
        simp only [LT,Bool.false_eq_true,if_false,if_true,List.mem_cons]
        constructor
        · rintro (h | h)
          · exact .inl h
          · exact .inr ⟨.inr h,by have:=hr'.1 p h;simp only at this;exact(NB this).symm⟩
        · rintro (h | ⟨h | h, h'⟩)
          · exact .inl h
          · subst h;exact absurd rfl h'
          · exact .inr h
      · simp only [h1, h2, Bool.false_eq_true, if_false, List.mem_cons, ih hr'.2]
        constructor
        · rintro (h | h | ⟨h, h'⟩)
          · subst h;exact .inr ⟨.inl rfl,fun e=>h2 e.symm⟩
          · exact .inl h
          · exact .inr ⟨.inr h,h'⟩
        · rintro (h | ⟨h | h, h'⟩)
          · exact .inr (.inl h)
          · exact .inl h
          · exact .inr (.inr ⟨h,h'⟩)
theorem H4 [Hk K] {l:List (K × V)} (hr:Hh l) (n:K) (x:V):Hh (Dp l n x):=by
  induction l with
  |nil=>simp [Dp,Hh]
  |cons q t ih=>
    obtain⟨k,v⟩:=q
    have hr':=List.pairwise_cons.1 hr
    unfold Dp
    by_cases h1:OJ n k=true
    · simp only [h1, if_true]
      refine List.pairwise_cons.2 ⟨fun p hp=>?_,hr⟩
      rcases List.mem_cons.1 hp with e |hp
      · subst e;exact h1
      · have:=hr'.1 p hp;exact M6 h1 this
    · by_cases h2 : n = k
      · subst h2
        simp only [LT,Bool.false_eq_true,if_false,if_true]
        exact List.pairwise_cons.2 ⟨fun p hp=>hr'.1 p hp,hr'.2⟩
      · simp only [h1, h2, Bool.false_eq_true, if_false]
        refine List.pairwise_cons.2 ⟨fun p hp=>?_,ih hr'.2⟩
        rcases (LU hr'.2 n x p).1 hp with e |⟨hp,_⟩
        · subst e;exact UH (by simpa using h1) h2
        · exact hr'.1 p hp
theorem KV [Hk K] {l:List (K × V)} (hr:Hh l):l.Nodup:=List.Pairwise.imp (fun {a b} h (e:a=b)=>NB h (by rw [e])) hr
theorem NC [Hk K] {l:List (K × V)} (hr:Hh l) (n:K):Hh (Nt l n):=List.Pairwise.filter _ hr
theorem Tz {l:List (K × V)} (n m:K):Bu (Nt l n) m=if n=m then none else Bu l m:=by
  induction l with
  |nil=>simp [Nt,Bu]
  |cons q t ih=>
    obtain⟨k,v⟩:=q
    unfold Nt at ih ⊢
    by_cases h:k=n
    · subst h
      rw [List.filter_cons_of_neg (by simp),ih,Bu]
      by_cases h2:k=m<;> simp [h2]
    · rw [List.filter_cons_of_pos (by simp [h]), Bu, ih, Bu]
      by_cases h2:k=m
      · have : ¬ n = m := fun e => h (h2.trans e.symm)
        simp [h2,this]
      · simp [h2]
theorem HM [Hk K] {l m:List (K × V)} (hl:Hh l) (hm:Hh m) (h:∀n,Bu l n=Bu m n):l=m:=by
  refine List.Perm.eq_of_pairwise (le:=fun p q=>OJ p.1 q.1=true) ?_ (show l.Pairwise (fun p q=>OJ p.1 q.1=true) from hl) (show m.Pairwise (fun p q=>OJ p.1 q.1=true) from hm) ((List.perm_ext_iff_of_nodup (KV hl) (KV hm)).2 fun p=>?_)
  · intro a b _ _ h1 h2;rw [Qj h1] at h2;cases h2
  · constructor
    · intro hp;exact FI ((h p.1).symm.trans (Jo hl hp))
    · intro hp;exact FI ((h p.1).trans (Jo hm hp))
end model

/-! what stands in memory -/
structure Mv (V:Type) where
  enc:V→Value
  ok:V→Prop
def Hm (q:IntKind):Mv Int:=⟨Value.int q,Cx q⟩
def HA:Mv Bool:=⟨Value.bool,fun _=>True⟩
structure Kk (K:Type) where
  enc:K→Value
  ok:K→Prop
def kI (q:IntKind):Kk Int:=⟨Value.int q,Cx q⟩
structure Ot {K:Type} (P:Program) (kt:TypeId) (q:Kk K):Prop where
  check:∀(w:World) (e:Bool) (n:K),q.ok n→(Instr.checkKey e 10000 kt (q.enc n)).run P w=.ok () w
  none_:∀{V:Type} (m:Mv V) (w:World) (n:K) (l:List (K × V × Nat)),q.ok n→(∀e∈l,q.ok e.1∧e.1≠n)→(Instr.findKey kt (q.enc n) (l.map fun e=>(⟨q.enc e.1,m.enc e.2.1,e.2.2⟩:MapEntry))).run P w=.ok none w
  some_:∀{V:Type} (m:Mv V) (w:World) (n:K) (x:V) (b:Nat) (l1 l2:List (K × V × Nat)),q.ok n→(∀e∈l1,q.ok e.1∧e.1≠n)→(Instr.findKey kt (q.enc n) ((l1++(n,x,b)::l2).map fun e=>(⟨q.enc e.1,m.enc e.2.1,e.2.2⟩:MapEntry))).run P w=.ok (some (l1.length,m.enc x)) w
  stays:∀(w:World) (n:K),(Instr.keyThatStays (q.enc n) (q.enc n)).run P w=.ok (q.enc n) w
  inj:∀{a b:K},q.enc a=q.enc b→a=b
section keys
variable {P : Program}
theorem P0 {V:Type} {q:IntKind} (m:Mv V) (l:List (Int × V × Nat)) {n:Int} (h:∀e∈l,e.1≠n):∀i,Instr.findNow (.int q) (.int q n) (l.map fun e=>(⟨.int q e.1,m.enc e.2.1,e.2.2⟩:MapEntry)) i=some none:=by
  induction l with
  |nil=>intro i;rfl
  |cons e t ih=>
    intro i
    have: ¬n=e.1:=fun h'=>h e (by simp) h'.symm
    simp only [List.map_cons,Instr.findNow,Instr.sameNow,if_true]
    rw [show(n == e.1)=false from by simpa using this]
    exact ih (fun f hf=>h f (by simp [hf])) (i+1)
theorem P1 {V:Type} {q:IntKind} (m:Mv V) (l1 l2:List (Int × V × Nat)) {n:Int} {x:V} {b:Nat} (h:∀e∈l1,e.1≠n):∀i,Instr.findNow (.int q) (.int q n) ((l1++(n,x,b)::l2).map fun e=>(⟨.int q e.1,m.enc e.2.1,e.2.2⟩:MapEntry)) i=some (some (i+l1.length,m.enc x)):=by
  induction l1 with
  |nil=>intro i;simp [Instr.findNow,Instr.sameNow]
  |cons e t ih=>
    intro i
    have: ¬n=e.1:=fun h'=>h e (by simp) h'.symm
    simp only [List.cons_append,List.map_cons,Instr.findNow,Instr.sameNow,if_true]
    rw [show(n == e.1)=false from by simpa using this]
    simp only
    rw [ih (fun f hf=>h f (by simp [hf])) (i+1)]
    simp;omega
theorem Ot.int {kt:TypeId} {q:IntKind} (hk:P.underlying kt=some (.int q)):Ot P kt (kI q) where
  check w e n _:=by
    have:∀d,(Instr.checkKey e (d+1) kt (.int q n)).run P w=.ok () w:=fun d=>by simp [Instr.checkKey,run_underlying hk]
    exact this 9999
  none_ m w n l _ h:=by
    have:=P0 (q:=q) m l (n:=n) (fun e he=>(h e he).2) 0
    show(Instr.findKey kt (.int q n) (l.map fun e=>(⟨.int q e.1,m.enc e.2.1,e.2.2⟩:MapEntry))).run P w=_
    simp [Instr.findKey,run_underlying hk,this]
  some_ m w n x b l1 l2 _ h:=by
    have:=P1 (q:=q) m l1 l2 (n:=n) (x:=x) (b:=b) (fun e he=>(h e he).2) 0
    show(Instr.findKey kt (.int q n) ((l1++(n,x,b)::l2).map fun e=>(⟨.int q e.1,m.enc e.2.1,e.2.2⟩:MapEntry))).run P w=_
    simp only [Instr.findKey,Sem.run_bind,run_underlying hk,Result.andThen_ok,this,Sem.run_pure,Nat.zero_add]
  stays w n:=by
    have h:Instr.sameBits 10000 (.int q n) (.int q n)=true:=by
      have:∀d,Instr.sameBits (d+1) (.int q n) (.int q n)=true:=fun d=>by simp [Instr.sameBits]
      exact this 9999
    show(Instr.keyThatStays (.int q n) (.int q n)).run P w=_
    simp [Instr.keyThatStays,h]
    rfl
  inj h:=by injection h
theorem Ot.agg {K:Type} [DecidableEq K] {kt:TypeId} {q:Kk K} {fs:Array Field} (hu:P.underlying kt=some (.struct fs)) (hagg:∀n,∃cs,q.enc n=.agg cs) (hc:∀(w:World) (e:Bool) (n:K),(Instr.checkKey e 10000 kt (q.enc n)).run P w=.ok () w)
    (he:∀(w:World) (a b:K),(Op.equal kt (q.enc a) (q.enc b)).run P w=.ok (decide (a=b)) w) (hs:∀n:K,Instr.sameBits 10000 (q.enc n) (q.enc n)=true) (hi:∀{a b:K},q.enc a=q.enc b→a=b):Ot P kt q where
  check w e n _:=hc w e n
  none_ {V} m w n l _ h:=by
    have ask:∀i,(Instr.findAsking kt (q.enc n) (l.map fun e=>(⟨q.enc e.1,m.enc e.2.1,e.2.2⟩:MapEntry)) i).run P w=.ok none w:=by
      induction l with
      |nil=>intro i;simp [Instr.findAsking]
      |cons e t ih=>
        intro i
        have hne: ¬n=e.1:=fun e'=>(h e (by simp)).2 e'.symm
        simp only [List.map_cons,Instr.findAsking,Sem.run_bind,he,Result.andThen_ok,decide_eq_false hne,Bool.false_eq_true,if_false]
        exact ih (fun f hf=>h f (by simp [hf])) (i+1)
    cases l with
    |nil=>simp [Instr.findKey,run_underlying hu,Instr.findNow]
    |cons e t=>
      obtain⟨cs,hcs⟩:=hagg n
      have:Instr.findNow (.struct fs) (q.enc n) ((e::t).map fun e=>(⟨q.enc e.1,m.enc e.2.1,e.2.2⟩:MapEntry)) 0=none:=by
        rw [hcs];simp [Instr.findNow,Instr.sameNow]
      simp only [Instr.findKey,Sem.run_bind,run_underlying hu,Result.andThen_ok,this]
      exact ask 0
  some_ {V} m w n x b l1 l2 _ h:=by
    have ask:∀i,(Instr.findAsking kt (q.enc n) ((l1++(n,x,b)::l2).map fun e=>(⟨q.enc e.1,m.enc e.2.1,e.2.2⟩:MapEntry)) i).run P w=.ok (some (i+l1.length,m.enc x)) w:=by
      induction l1 with
      |nil=>intro i;simp [Instr.findAsking,he]
      |cons e t ih=>
        intro i
        have hne: ¬n=e.1:=fun e'=>(h e (by simp)).2 e'.symm
        simp only [List.cons_append,List.map_cons,Instr.findAsking,Sem.run_bind,he,Result.andThen_ok,decide_eq_false hne,Bool.false_eq_true,if_false]
        rw [ih (fun f hf=>h f (by simp [hf])) (i+1)]
        simp;omega
    obtain⟨cs,hcs⟩:=hagg n
    have:Instr.findNow (.struct fs) (q.enc n) ((l1++(n,x,b)::l2).map fun e=>(⟨q.enc e.1,m.enc e.2.1,e.2.2⟩:MapEntry)) 0=none:=by
      rw [hcs];cases l1<;> simp [Instr.findNow,Instr.sameNow]
    simp only [Instr.findKey,Sem.run_bind,run_underlying hu,Result.andThen_ok,this]
    simpa using ask 0
  stays w n:=by simp [Instr.keyThatStays,hs n]
  inj:=hi
end keys
structure LV {K V:Type} (q:Kk K) (m:Mv V) (es:Array MapEntry) (clock:Nat) (l:List (K × V × Nat)):Prop where
  eq:es.toList=l.map fun e=>(⟨q.enc e.1,m.enc e.2.1,e.2.2⟩:MapEntry)
  born:l.Pairwise fun e f=>e.2.2<f.2.2
  lt:∀e∈l,e.2.2<clock
  ok:∀e∈l,q.ok e.1∧m.ok e.2.1
def Mo {K V:Type} [DecidableEq K] [Hk K] (q:Kk K) (m:Mv V) (o:Obj) (xs:List (K × V)):Prop:=
  ∃es clock l,o=.map es clock∧LV q m es clock l∧(l.Pairwise fun e f=>e.1≠f.1)∧(∀n x,(∃b,(n,x,b)∈l) ↔ (n,x)∈xs)∧Hh xs
section mem
variable {K V : Type} [DecidableEq K] [Hk K] {q : Kk K} {m : Mv V} {o : Obj} {xs : List (K × V)}
theorem Mo.nil_:Mo q m (.map #[] 0) ([]:List (K × V)):=⟨#[],0,[],rfl,⟨rfl,List.Pairwise.nil,by simp,by simp⟩,List.Pairwise.nil,by simp,List.Pairwise.nil⟩
theorem Mo.ris (h:Mo q m o xs):Hh xs:=by obtain⟨_,_,_,_,_,_,_,h⟩:=h;exact h
theorem Mo.okOf (h:Mo q m o xs) {n:K} {x:V} (hx:Bu xs n=some x):q.ok n∧m.ok x:=by
  obtain⟨es,clock,l,_,hM,_,hp,hr⟩:=h
  obtain⟨b,hb⟩:=(hp n x).2 (FI hx)
  exact hM.ok _ hb
theorem Mo.ok (h:Mo q m o xs) {n:K} {z:V} (hz:m.ok z):m.ok ((Bu xs n).getD z):=by
  cases hg:Bu xs n with
  |none=>exact hz
  |some x=>exact(h.okOf hg).2
theorem KW {l:List (K × V × Nat)} (hd:l.Pairwise fun e f=>e.1≠f.1) {n:K} {x:V} {b:Nat} (h:(n,x,b)∈l):∃l1 l2,l=l1++(n,x,b)::l2∧(∀e∈l1,e.1≠n)∧∀e∈l2,e.1≠n:=by
  obtain⟨l1,l2,rfl⟩:=List.append_of_mem h
  rw [List.pairwise_append] at hd
  refine⟨l1,l2,rfl,fun e he=>hd.2.2 e he (n,x,b) (by simp),fun e he=>?_⟩
  exact fun h'=>(List.pairwise_cons.1 hd.2.1).1 e he h'.symm
variable {P : Program} {w : World}
theorem HN {r:Nat} {es:Array MapEntry} {clock:Nat} (h:w.heap[r]?=some (.map es clock)):(getObj r).run P w=.ok (.map es clock) w:=by simp [getObj,Sem.run,h]
theorem Ka {r:Nat} {es:Array MapEntry} {clock:Nat} (o:Obj) (h:w.heap[r]?=some (.map es clock)):(setObj r o).run P w=.ok () (w.putObj r o):=by simp [setObj,Sem.run,h,World.putObj]
theorem Kb {α:Type} (f:α→α) (a:α) (l2:List α):∀l1:List α,(l1++a::l2).modify l1.length f=l1++f a::l2
  |[] =>rfl
  |x::l1=>by simp [Kb f a l2 l1]
theorem Mo.turn {es:Array MapEntry} {clock:Nat} {l1 l2:List (K × V × Nat)} {n:K} {x v:V} {b:Nat} (hM:LV q m es clock (l1++(n,x,b)::l2)) (hd:(l1++(n,x,b)::l2).Pairwise fun e f=>e.1≠f.1)
    (hp:∀k y,(∃b',(k,y,b')∈l1++(n,x,b)::l2) ↔ (k,y)∈xs) (hr:Hh xs) (hv:m.ok v) {es':Array MapEntry} (he:es'.toList=(l1++(n,v,b)::l2).map fun e=>(⟨q.enc e.1,m.enc e.2.1,e.2.2⟩:MapEntry)):Mo q m (.map es' clock) (Dp xs n v):=by
  have h1:=hM.born
  have h2:=hM.lt
  have h3:=hM.ok
  have hd':=hd
  rw [List.pairwise_append] at h1 hd
  refine⟨es',clock,l1++(n,v,b)::l2,rfl,⟨he,?_,?_,?_⟩,?_,?_,H4 hr n v⟩
  · rw [List.pairwise_append]
    refine⟨h1.1,?_,fun e he f hf=>?_⟩
    · have := List.pairwise_cons.1 h1.2.1
      exact List.pairwise_cons.2 ⟨fun f hf=>this.1 f hf,this.2⟩
    · rcases List.mem_cons.1 hf with e1 | hf
      · subst e1;exact h1.2.2 e he (n,x,b) (by simp)
      · exact h1.2.2 e he f (by simp [hf])
  · intro e he
    rcases List.mem_append.1 he with h |h
    · exact h2 e (by simp [h])
    · rcases List.mem_cons.1 h with e1 | h
      · subst e1;exact h2 (n,x,b) (by simp)
      · exact h2 e (by simp [h])
  · intro e he
    rcases List.mem_append.1 he with h |h
    · exact h3 e (by simp [h])
    · rcases List.mem_cons.1 h with e1 | h
      · subst e1;exact⟨(h3 (n,x,b) (by simp)).1,hv⟩
      · exact h3 e (by simp [h])
  · rw [List.pairwise_append]
    refine⟨hd.1,?_,fun e he f hf=>?_⟩
    · have := List.pairwise_cons.1 hd.2.1
      exact List.pairwise_cons.2 ⟨fun f hf=>this.1 f hf,this.2⟩
    · rcases List.mem_cons.1 hf with e1 | hf
      · subst e1;exact hd.2.2 e he (n,x,b) (by simp)
      · exact hd.2.2 e he f (by simp [hf])
  · intro k y
    rw [LU hr]
    have hn1:∀e∈l1,e.1≠n:=fun e he=>hd.2.2 e he (n,x,b) (by simp)
    have hn2:∀e∈l2,e.1≠n:=fun e he h'=>(List.pairwise_cons.1 hd.2.1).1 e he h'.symm
    constructor
    · rintro ⟨b', hb'⟩
      rcases List.mem_append.1 hb' with h |h
      · exact .inr ⟨(hp k y).1 ⟨b',by simp [h]⟩,hn1 _ h⟩
      · rcases List.mem_cons.1 h with e1 | h
        · cases e1;exact .inl rfl
        · exact .inr ⟨(hp k y).1 ⟨b',by simp [h]⟩,hn2 _ h⟩
    · rintro (e1 | ⟨h, hk⟩)
      · cases e1;exact⟨b,by simp⟩
      · obtain ⟨b', hb'⟩ := (hp k y).2 h
        rcases List.mem_append.1 hb' with h |h
        · exact⟨b',by simp [h]⟩
        · rcases List.mem_cons.1 h with e1 | h
          · cases e1;exact absurd rfl hk
          · exact⟨b',by simp [h]⟩
theorem Mo.push {es:Array MapEntry} {clock:Nat} {l:List (K × V × Nat)} {n:K} {v:V} (hM:LV q m es clock l) (hd:l.Pairwise fun e f=>e.1≠f.1)
    (hp:∀k y,(∃b',(k,y,b')∈l) ↔ (k,y)∈xs) (hr:Hh xs) (hg:Bu xs n=none) (hn:q.ok n) (hv:m.ok v):Mo q m (.map (es.push ⟨q.enc n,m.enc v,clock⟩) (clock+1)) (Dp xs n v):=by
  have hno:∀e∈l,e.1≠n:=fun e he=>IP hg (e.1,e.2.1) ((hp e.1 e.2.1).1 ⟨e.2.2,he⟩)
  refine⟨_,_,l++[(n,v,clock)],rfl,⟨by simp [hM.eq],?_,?_,?_⟩,?_,?_,H4 hr n v⟩
  · rw [List.pairwise_append];exact⟨hM.born,by simp,fun e he f hf=>by simp at hf;subst hf;exact hM.lt e he⟩
  · intro e he; simp at he; rcases he with h | h
    · have:=hM.lt e h;omega
    · subst h;simp
  · intro e he; simp at he; rcases he with h | h
    · exact hM.ok e h
    · subst h;exact⟨hn,hv⟩
  · rw [List.pairwise_append];exact⟨hd,by simp,fun e he f hf=>by simp at hf;subst hf;exact hno e he⟩
  · intro k y
    rw [LU hr]
    constructor
    · rintro ⟨b', hb'⟩
      simp at hb'
      rcases hb' with h |⟨h1,h2,_⟩
      · exact .inr ⟨(hp k y).1 ⟨b',h⟩,hno _ h⟩
      · exact .inl (by rw [h1,h2])
    · rintro (e1 | ⟨h, hk⟩)
      · cases e1;exact⟨clock,by simp⟩
      · obtain⟨b',hb'⟩:=(hp k y).2 h;exact⟨b',by simp [hb']⟩
variable {t kt e : TypeId}
theorem LV.findN {es:Array MapEntry} {clock:Nat} {l:List (K × V × Nat)} (hM:LV q m es clock l) (hk:Ot P kt q) {n:K} (hn:q.ok n) (h:∀e∈l,e.1≠n):(Instr.findKey kt (q.enc n) es.toList).run P w=.ok none w:=by
  rw [hM.eq];exact hk.none_ m w n l hn fun e he=>⟨(hM.ok e he).1,h e he⟩
theorem LV.findS {es:Array MapEntry} {clock:Nat} {l1 l2:List (K × V × Nat)} {n:K} {x:V} {b:Nat} (hM:LV q m es clock (l1++(n,x,b)::l2)) (hk:Ot P kt q) (h:∀e∈l1,e.1≠n):(Instr.findKey kt (q.enc n) es.toList).run P w=.ok (some (l1.length,m.enc x)) w:=by
  rw [hM.eq];exact hk.some_ m w n x b l1 l2 (hM.ok (n,x,b) (by simp)).1 fun e he=>⟨(hM.ok e (by simp [he])).1,h e he⟩
theorem R5 {r:Nat} {n:K} {z:V} (hu:P.underlying t=some (.map kt e)) (hk:Ot P kt q) (hz:∀w,(zeroValue e).run P w=.ok (m.enc z) w) (hr:w.heap[r]?=some o) (h:Mo q m o xs) (hn:q.ok n) (c:Bool):
    (Instr.lookup t (.map (some r)) (q.enc n) c).run P w=.ok (if c then .tuple #[m.enc ((Bu xs n).getD z),.bool (Bu xs n).isSome] else m.enc ((Bu xs n).getD z)) w:=by
  obtain⟨es,clock,l,rfl,hM,hd,hp,hris⟩:=h
  have hfk:(Instr.findKey kt (q.enc n) es.toList).run P w=.ok ((Bu xs n).map fun x=>((l.findIdx? fun e=>decide (e.1=n)).getD 0,m.enc x)) w:=by
    cases hg:Bu xs n with
    |none=>exact hM.findN hk hn fun e he=>IP hg (e.1,e.2.1) ((hp e.1 e.2.1).1 ⟨e.2.2,he⟩)
    |some x=>
      obtain⟨b,hb⟩:=(hp n x).2 (FI hg)
      obtain⟨l1,l2,rfl,h1,h2⟩:=KW hd hb
      rw [hM.findS hk h1]
      have:(l1++(n,x,b)::l2).findIdx? (fun e=>decide (e.1=n))=some l1.length:=by
        rw [List.findIdx?_append,List.findIdx?_eq_none_iff.2 (fun e he=>by simpa using h1 e he)]
        simp [List.findIdx?_cons]
      rw [this];simp
  simp only [Instr.lookup,Sem.run_bind,run_underlying hu,Result.andThen_ok,HN hr,hk.check _ _ _ hn,hfk]
  cases hg:Bu xs n with
  |none=>rw [hg] at hfk;cases c<;> simp [hz,hfk]
  |some x=>rw [hg] at hfk;cases c<;> simp [hfk]
theorem Ou {r:Nat} {n:K} {v:V} (hu:P.underlying t=some (.map kt e)) (hk:Ot P kt q) (hr:w.heap[r]?=some o) (h:Mo q m o xs) (hn:q.ok n) (hv:m.ok v):
    ∃o',(Instr.mapUpdate t (.map (some r)) (q.enc n) (m.enc v)).run P w=.ok () (w.putObj r o')∧Mo q m o' (Dp xs n v):=by
  obtain⟨es,clock,l,rfl,hM,hd,hp,hris⟩:=h
  cases hg:Bu xs n with
  |none=>
    have hf:=hM.findN (P:=P) (w:=w) hk hn (fun e he=>IP hg (e.1,e.2.1) ((hp e.1 e.2.1).1 ⟨e.2.2,he⟩))
    refine⟨_,?_,Mo.push hM hd hp hris hg hn hv⟩
    simp only [Instr.mapUpdate,Sem.run_bind,run_underlying hu,Result.andThen_ok,HN hr,hk.check _ _ _ hn,hf]
    rw [Ka _ hr]
  |some x=>
    obtain⟨b,hb⟩:=(hp n x).2 (FI hg)
    obtain⟨l1,l2,rfl,h1,h2⟩:=KW hd hb
    have hf:=hM.findS (P:=P) (w:=w) hk h1
    have hl:l1.length<es.size:=by
      have:=congrArg List.length hM.eq;simp at this;omega
    have hge:es[l1.length]?=some ⟨q.enc n,m.enc x,b⟩:=by
      have:es.toList[l1.length]?=some ⟨q.enc n,m.enc x,b⟩:=by rw [hM.eq];simp
      simpa using this
    refine⟨.map (es.modify l1.length fun e=>{e with key:=q.enc n,val:=m.enc v}) clock,?_,Mo.turn hM hd hp hris hv ?_⟩
    · simp only [Instr.mapUpdate, Sem.run_bind, run_underlying hu, Result.andThen_ok, HN hr, hk.check _ _ _ hn, hf, hge, Option.map_some, Option.getD_some, hk.stays]
      rw [Ka _ hr]
    · rw [Array.toList_modify, hM.eq]
      simp only [List.map_append,List.map_cons]
      have:=Kb (fun e:MapEntry=>{e with key:=q.enc n,val:=m.enc v}) (⟨q.enc n,m.enc x,b⟩:MapEntry) (l2.map fun e=>(⟨q.enc e.1,m.enc e.2.1,e.2.2⟩:MapEntry)) (l1.map fun e=>(⟨q.enc e.1,m.enc e.2.1,e.2.2⟩:MapEntry))
      rw [List.length_map] at this
      exact this
def WN {K:Type} (o:Obj) (q:Kk K) (n:K) (b:Int):Prop:=∃es clock i,o=.map es clock∧es.toList.findIdx? (fun e=>(e.born:Int) == b)=some i∧∃v bb,es[i]?=some ⟨q.enc n,v,bb⟩
theorem P2 {r:Nat} {n:K} {z:V} (hu:P.underlying t=some (.map kt e)) (hk:Ot P kt q) (hz:∀w,(zeroValue e).run P w=.ok (m.enc z) w) (hzo:m.ok z) (hr:w.heap[r]?=some o) (h:Mo q m o xs) (hn:q.ok n):
    ∃o' b,(Instr.mapEntry t (.map (some r)) (q.enc n)).run P w=.ok (.tuple #[m.enc ((Bu xs n).getD z),.int .i64 b]) (w.putObj r o')∧Mo q m o' (Dp xs n ((Bu xs n).getD z))∧WN o' q n b:=by
  obtain⟨es,clock,l,rfl,hM,hd,hp,hris⟩:=h
  have hbx:∀(l1 l2:List (K × V × Nat)) (y:V) (b:Nat),(l1++(n,y,b)::l2).Pairwise (fun e f=>e.2.2<f.2.2)→
      ((l1++(n,y,b)::l2).map fun e=>(⟨q.enc e.1,m.enc e.2.1,e.2.2⟩:MapEntry)).findIdx? (fun e=>(e.born:Int) == (b:Int))=some l1.length:=by
    intro l1 l2 y b hb
    rw [List.pairwise_append] at hb
    rw [List.map_append,List.findIdx?_append,List.findIdx?_eq_none_iff.2]
    · simp [List.findIdx?_cons]
    · intro e he
      simp only [List.mem_map] at he
      obtain⟨e',he',rfl⟩:=he
      have:e'.2.2<b:=hb.2.2 e' he' (n,y,b) (by simp)
      simp;omega
  cases hg:Bu xs n with
  |none=>
    have hf:=hM.findN (P:=P) (w:=w) hk hn (fun e he=>IP hg (e.1,e.2.1) ((hp e.1 e.2.1).1 ⟨e.2.2,he⟩))
    refine⟨_,clock,?_,Mo.push hM hd hp hris hg hn hzo,_,_,es.size,rfl,?_,?_⟩
    · simp [Instr.mapEntry,run_underlying hu,HN hr,hk.check _ _ _ hn,hf,hz,Ka _ hr,goInt]
    · have hb := hbx l [] z clock (by rw [List.pairwise_append]; exact ⟨hM.born, by simp, fun e he f hf => by simp at hf; subst hf; exact hM.lt e he⟩)
      have hl:es.size=l.length:=by have:=congrArg List.length hM.eq;simpa using this
      rw [hl];simpa [hM.eq] using hb
    · exact⟨_,_,by simp;exact⟨rfl,rfl⟩⟩
  |some x=>
    obtain⟨b,hb⟩:=(hp n x).2 (FI hg)
    obtain⟨l1,l2,rfl,h1,h2⟩:=KW hd hb
    have hf:=hM.findS (P:=P) (w:=w) hk h1
    have hge:es[l1.length]?=some ⟨q.enc n,m.enc x,b⟩:=by
      have:es.toList[l1.length]?=some ⟨q.enc n,m.enc x,b⟩:=by rw [hM.eq];simp
      simpa using this
    have hes:(es.modify l1.length fun e=>{e with key:=q.enc n}).toList=(l1++(n,x,b)::l2).map fun e=>(⟨q.enc e.1,m.enc e.2.1,e.2.2⟩:MapEntry):=by
      rw [Array.toList_modify,hM.eq]
      simp only [List.map_append,List.map_cons]
      have:=Kb (fun e:MapEntry=>{e with key:=q.enc n}) (⟨q.enc n,m.enc x,b⟩:MapEntry) (l2.map fun e=>(⟨q.enc e.1,m.enc e.2.1,e.2.2⟩:MapEntry)) (l1.map fun e=>(⟨q.enc e.1,m.enc e.2.1,e.2.2⟩:MapEntry))
      rw [List.length_map] at this
      exact this
    refine⟨.map (es.modify l1.length fun e=>{e with key:=q.enc n}) clock,b,?_,Mo.turn hM hd hp hris (hM.ok (n,x,b) (by simp)).2 hes,_,_,l1.length,rfl,?_,?_⟩
    · simp [Instr.mapEntry,run_underlying hu,HN hr,hk.check _ _ _ hn,hf,hge,hk.stays,Ka _ hr,goInt]
    · rw [hes];exact hbx l1 l2 x b hM.born
    · refine ⟨m.enc x, b, ?_⟩
      have:(es.modify l1.length fun e=>{e with key:=q.enc n}).toList[l1.length]?=some ⟨q.enc n,m.enc x,b⟩:=by rw [hes];simp
      rw [← Array.getElem?_toList];exact this
theorem ND {r:Nat} {n:K} {b:Int} {v:V} (hq:∀{a b:K},q.enc a=q.enc b→a=b) (hr:w.heap[r]?=some o) (h:Mo q m o xs) (hs:WN o q n b) (hv:m.ok v):
    ∃o',(Instr.entryStore t (.map (some r)) (.int .i64 b) (m.enc v)).run P w=.ok () (w.putObj r o')∧Mo q m o' (Dp xs n v):=by
  obtain⟨es,clock,l,rfl,hM,hd,hp,hris⟩:=h
  obtain⟨es',clock',i,heq,hi,y,bb,hy⟩:=hs
  cases heq
  have hil:i<l.length:=by
    have h1:i<es.size:=(Array.getElem?_eq_some_iff.1 hy).1
    have:=congrArg List.length hM.eq;simp at this;omega
  obtain⟨l1,e,l2,hl,hl1⟩:∃l1 e l2,l=l1++e::l2∧l1.length=i:=⟨l.take i,l[i],l.drop (i+1),by rw [← List.drop_eq_getElem_cons hil,List.take_append_drop],by simp;omega⟩
  obtain⟨n',x,b'⟩:=e
  subst hl;subst hl1
  have hge:es[l1.length]?=some ⟨q.enc n',m.enc x,b'⟩:=by
    have:es.toList[l1.length]?=some ⟨q.enc n',m.enc x,b'⟩:=by rw [hM.eq];simp
    simpa using this
  rw [hge] at hy
  have hy':=Option.some.inj hy
  have hnn:n'=n:=by injection hy' with h1 _ _;exact hq h1
  subst hnn
  have hfi:es.findIdx? (fun e=>(e.born:Int) == b)=some l1.length:=by rw [← hi];cases es;simp
  refine⟨.map (es.modify l1.length fun e=>{e with val:=m.enc v}) clock,?_,Mo.turn hM hd hp hris hv ?_⟩
  · simp only [Instr.entryStore, Sem.run_bind, Result.andThen_ok, HN hr, asInt, asIntOf, Sem.run_pure, hfi]
    rw [Ka _ hr]
  · rw [Array.toList_modify, hM.eq]
    simp only [List.map_append,List.map_cons]
    have:=Kb (fun e:MapEntry=>{e with val:=m.enc v}) (⟨q.enc n',m.enc x,b'⟩:MapEntry) (l2.map fun e=>(⟨q.enc e.1,m.enc e.2.1,e.2.2⟩:MapEntry)) (l1.map fun e=>(⟨q.enc e.1,m.enc e.2.1,e.2.2⟩:MapEntry))
    rw [List.length_map] at this
    exact this
end mem
section own
variable {K V : Type} [DecidableEq K] [Hk K] {q : Kk K} {m : Mv V} {o : Obj} {xs : List (K × V)} {P : Program} {r : Option Nat} {ρ : EH} {w w' : World} {d : Option Nat} {ty : TypeId} {pos : String} {aft : Array Edge} {g : Option (Nat × Bool)} {Vv : Value → World → Prop}
variable {z0 : Zx} {O0 O O' : List Nat} {bs : Be} {x y u : Operand} {t kt e : TypeId}
theorem St.putObj (hs:St z0 O0 w bs) {i b:Nat} (hi:bs[i]?=some (some b,o)) (o':Obj):St z0 O0 (w.putObj b o') (bs.set i (some b,o'))∧AA (ks bs O0) w (ks (bs.set i (some b,o')) O0) (w.putObj b o'):=by
  have hb:=(hs.own _ (List.mem_of_getElem? hi) b rfl).1
  have hlt:b<w.heap.size:=hs.lt (List.mem_of_getElem? hi) rfl
  have hsz:(w.putObj b o').heap.size=w.heap.size:=by simp
  have ho:∀j,j<w.heap.size→some b≠some j→(w.putObj b o').heap[j]?=w.heap[j]?:=fun j _ hj=>World.putObj_heap_other (fun e=>hj (by rw [e]))
  have hl:HX [b] w (w.putObj b o'):=⟨rfl,rfl,rfl,by rw [hsz];exact Nat.le_refl _,fun k hk hn=>ho k hk (by simp at hn;intro e;cases e;exact hn rfl),Nat.le_refl _⟩
  refine⟨hs.put hi (hs.below.trans' hl (by rintro k hk;simp at hk;subst hk;exact hb)) (by rw [hsz];exact Nat.le_refl _) (fun j hj=>?_) ho,AA.put hi (by rw [hsz];exact Nat.le_refl _) (fun j hj=>.inl hj) ho⟩
  cases hj;exact⟨.inl rfl,World.putObj_heap_same hlt⟩
theorem Hn (hs:St z0 O0 w bs) (k:∀bl w',AA (ks bs O0) w (ks ((some bl,.map #[] 0)::bs) O0) w'→St z0 O0 w' ((some bl,.map #[] 0)::bs)→Vv (.map (some bl)) w'):
    BJ P r ρ w ⟨d,.makeMap t none,ty,pos,aft,g⟩ Vv:=by
  refine Bj (v:=.map (some w.heap.size)) (w':=w.alloc (.map #[] 0)) (by simp) ?_ (k _ _ (AA.alloc w O0 bs _) (hs.alloc _))
  simp [execOp,Instr.makeMap]
def Ov (q:Kk K) (m:Mv V) (w:World) (O:List Nat) (v:Value) (xs:List (K × V)):Prop:=∃b o,v=.map (some b)∧Sh w O b∧w.heap[b]?=some o∧Mo q m o xs
theorem Ov.one1 {v:Value} (h:Ov q m w O v xs):v.oneCell'=true:=by obtain⟨b,o,rfl,_⟩:=h;simp [Value.oneCell']
theorem Ov.cells1 {v:Value} (h:Ov q m w O v xs):v.cells=[v].toArray:=by obtain⟨b,o,rfl,_⟩:=h;rfl
theorem Ov.step {v:Value} (h:Ov q m w O v xs) (s:AA O w O' w'):Ov q m w' O' v xs:=by
  obtain⟨b,o,h1,h2,h3,h4⟩:=h
  exact⟨b,o,h1,h2.step s,by rw [(s.keep b h2.lt h2.no).2];exact h3,h4⟩
def Kc (q:Kk K) (m:Mv V):Rp (List (K × V)) where
  n:=1
  rd w O cs x:=∃v,cs=[v]∧Ov q m w O v x
  len:=fun⟨_,h,_⟩=>by rw [h];rfl
  one:=fun⟨v,h,b,o,h2,_⟩=>by subst h;subst h2;simp [Value.oneCell']
  step:=fun s ⟨v,h,h2⟩=>⟨v,h,h2.step s⟩
theorem Sf {v:Value} (h:Ov q m w O v xs):(Kc q m).rd w O [v] xs:=⟨v,rfl,h⟩
theorem Qk {v:Value} (h:(Kc q m).rd w O [v] xs):Ov q m w O v xs:=by obtain⟨v',h1,h2⟩:=h;cases h1;exact h2
theorem St.publishM (hs:St z0 O0 w bs) {i b:Nat} (hi:bs[i]?=some (some b,o)) (h:Mo q m o xs):
    St z0 O0 w (bs.eraseIdx i)∧AA (ks bs O0) w (ks (bs.eraseIdx i) O0) w∧Ov q m w (ks (bs.eraseIdx i) O0) (.map (some b)) xs:=
  ⟨hs.drop i,AA.drop w O0 bs i,b,o,rfl,⟨hs.lt (List.mem_of_getElem? hi) rfl,JW hs hi⟩,hs.get hi,h⟩
theorem He {b:Nat} {n:K} {z:V} (hu:P.underlying t=some (.map kt e)) (hk:Ot P kt q) (hz:∀w,(zeroValue e).run P w=.ok (m.enc z) w) (hb:w.heap[b]?=some o) (h:Mo q m o xs) (hn:q.ok n) (hx:ev ρ x=.map (some b)) (hy:ev ρ y=q.enc n)
    (k:Vv (m.enc ((Bu xs n).getD z)) w):BJ P r ρ w ⟨d,.lookup t x y false,ty,pos,aft,g⟩ Vv:=by
  refine Bj (by simp) ?_ k
  simp [execOp,hx,hy,R5 hu hk hz hb h hn false]
theorem NE {v:Value} {n:K} {z:V} (hu:P.underlying t=some (.map kt e)) (hk:Ot P kt q) (hz:∀w,(zeroValue e).run P w=.ok (m.enc z) w) (h:Ov q m w O v xs) (hn:q.ok n) (hx:ev ρ x=v) (hy:ev ρ y=q.enc n)
    (k:Vv (m.enc ((Bu xs n).getD z)) w):BJ P r ρ w ⟨d,.lookup t x y false,ty,pos,aft,g⟩ Vv:=by
  obtain⟨b,o,rfl,_,hb,hM⟩:=h
  exact He hu hk hz hb hM hn hx hy k
theorem Ov.ok {v:Value} (h:Ov q m w O v xs) {n:K} {z:V} (hz:m.ok z):m.ok ((Bu xs n).getD z):=by obtain⟨_,_,_,_,_,hM⟩:=h;exact hM.ok hz
theorem GP {b i:Nat} {n:K} {v:V} {vv:Value} (hu:P.underlying t=some (.map kt e)) (hk:Ot P kt q) (hs:St z0 O0 w bs) (hi:bs[i]?=some (some b,o)) (h:Mo q m o xs) (hx:ev ρ x=.map (some b)) (hy:ev ρ y=q.enc n) (hv:ev ρ u=vv) (hvv:vv=m.enc v) (hn:q.ok n) (hvo:m.ok v)
    (k:∀o' w',AA (ks bs O0) w (ks (bs.set i (some b,o')) O0) w'→St z0 O0 w' (bs.set i (some b,o'))→Mo q m o' (Dp xs n v)→Vv undef w'):BJ P r ρ w ⟨d,.mapUpdate t x y u,ty,pos,aft,g⟩ Vv:=by
  obtain⟨o',h1,h2⟩:=Ou (P:=P) hu hk (hs.get hi) h hn hvo
  obtain⟨h3,h4⟩:=hs.putObj hi o'
  subst hvv
  refine Mw (by simp) ?_ (k o' _ h4 h3 h2)
  simp [execOp,hx,hy,hv,h1]
theorem Na {b i:Nat} {n:K} {z:V} (hu:P.underlying t=some (.map kt e)) (hk:Ot P kt q) (hz:∀w,(zeroValue e).run P w=.ok (m.enc z) w) (hzo:m.ok z) (hs:St z0 O0 w bs) (hi:bs[i]?=some (some b,o)) (h:Mo q m o xs) (hx:ev ρ x=.map (some b)) (hy:ev ρ y=q.enc n) (hn:q.ok n)
    (k:∀o' s w',AA (ks bs O0) w (ks (bs.set i (some b,o')) O0) w'→St z0 O0 w' (bs.set i (some b,o'))→Mo q m o' (Dp xs n ((Bu xs n).getD z))→WN o' q n s→Vv (.tuple [m.enc ((Bu xs n).getD z),.int .i64 s].toArray) w'):BJ P r ρ w ⟨d,.mapEntry t x y,ty,pos,aft,g⟩ Vv:=by
  obtain⟨o',s,h1,h2,h5⟩:=P2 (P:=P) hu hk hz hzo (hs.get hi) h hn
  obtain⟨h3,h4⟩:=hs.putObj hi o'
  refine Bj (by simp) ?_ (k o' s _ h4 h3 h2 h5)
  simp [execOp,hx,hy,h1]
theorem Lk {b i:Nat} {n:K} {s:Int} {v:V} {vv:Value} (hq:∀{a b:K},q.enc a=q.enc b→a=b) (hs:St z0 O0 w bs) (hi:bs[i]?=some (some b,o)) (h:Mo q m o xs) (hS:WN o q n s) (hx:ev ρ x=.map (some b)) (hy:ev ρ y=.int .i64 s) (hv:ev ρ u=vv) (hvv:vv=m.enc v) (hvo:m.ok v)
    (k:∀o' w',AA (ks bs O0) w (ks (bs.set i (some b,o')) O0) w'→St z0 O0 w' (bs.set i (some b,o'))→Mo q m o' (Dp xs n v)→Vv undef w'):BJ P r ρ w ⟨d,.entryStore t x y u,ty,pos,aft,g⟩ Vv:=by
  obtain⟨o',h1,h2⟩:=ND (P:=P) (t:=t) hq (hs.get hi) h hS hvo
  obtain⟨h3,h4⟩:=hs.putObj hi o'
  subst hvv
  refine Mw (by simp) ?_ (k o' _ h4 h3 h2)
  simp [execOp,hx,hy,hv,h1]
theorem Mo.size (h:Mo q m o xs):∃es clock,o=.map es clock∧es.size=xs.length:=by
  obtain⟨es,clock,l,rfl,hM,hd,hp,hris⟩:=h
  refine⟨es,clock,rfl,?_⟩
  have hl:es.size=l.length:=by have:=congrArg List.length hM.eq;simpa using this
  rw [hl]
  have:(l.map fun e=>(e.1,e.2.1)).Perm xs:=by
    refine(List.perm_ext_iff_of_nodup ?_ (KV hris)).2 fun p=>?_
    · rw [List.nodup_iff_pairwise_ne,List.pairwise_map];exact hd.imp fun h e=>h (Prod.mk.inj e).1
    · rw [← hp p.1 p.2]; simp only [List.mem_map]
      constructor
      · rintro⟨e,he,rfl⟩;exact⟨e.2.2,he⟩
      · rintro⟨b,hb⟩;exact⟨(p.1,p.2,b),hb,rfl⟩
  simpa using this.length_eq
end own
end Go.Fx
set_option linter.unusedSimpArgs false
set_option linter.unusedVariables false
namespace Go.Fx
open Go Go.RowKit

def L5 (v:Value) (h:v.oneCell'=true):Rp Unit where
  n:=1
  rd _ _ cs _:=cs=[v]
  len:=fun h=>by rw [h];rfl
  one:=fun e u hu=>by rw [e] at hu;simp at hu;subst hu;exact h
  step:=fun _ h=>h
theorem If {v u:Value} {h1:v.oneCell'=true} {w:World} {O:List Nat} {x:Unit} (h:(L5 v h1).rd w O [u] x):u=v:=by
  have: [u] =[v]:=h
  simpa using this
def KD {α γ:Type} (P:Program) (enc:γ→World→List Nat→List Value→Prop) (l:Nat) (w:World) (O:List Nat) (fv:Value) (A:Vr α) (f:α→Option (List γ)):Prop:=
  (∃k caps,fv=.func k #[] caps)∧∀w1 O1,AA O w O1 w1→(∀k∈O1,k<w1.heap.size)→∀(J Jx:JP γ),G1 J→G1 Jx→∀v x Lx,A.vd w1 O1 v x→f x=some Lx→GW P enc Lx l J Jx→J [] w1 O1 []→
    Oq P fv [v] w1 fun u w2=>∃O2,(u=.bool true∧J Lx w2 O2 [])∨(u=.bool false∧∃pre,Jx pre w2 O2 [])
theorem KD.step {α γ:Type} {P:Program} {enc:γ→World→List Nat→List Value→Prop} {l:Nat} {w w':World} {O O':List Nat} {fv:Value} {A:Vr α} {f:α→Option (List γ)} (h:KD P enc l w O fv A f) (s:AA O w O' w'):KD P enc l w' O' fv A f:=
  ⟨h.1,fun w1 O1 s1=>h.2 w1 O1 (s.trans s1)⟩
def Ow {α β:Type} (Φ:(α→Option β)→α→Option β):Nat→α→Option β
  |0=>fun _=>none
  |n+1=>Φ (Ow Φ n)
theorem KD.fix {α γ:Type} {P:Program} {enc:γ→World→List Nat→List Value→Prop} {l:Nat} {w:World} {O:List Nat} {A:Vr α} {k:Go.Fn} {caps:Array Value} {Φ:(α→Option (List γ))→α→Option (List γ)}
    (h:∀f,KD P enc l w O (.func k #[] caps) A f→KD P enc l w O (.func k #[] caps) A (Φ f)):∀n,KD P enc l w O (.func k #[] caps) A (Ow Φ n)
  |0=>⟨⟨k,caps,rfl⟩,fun _ _ _ _ _ _ _ _ _ _ _ _ hf=>by cases hf⟩
  |n+1=>h _ (KD.fix h n)
section call
variable {P : Program} {ρ : EH} {w : World} {z : Zx} {O : List Nat} {bs : Be} {α γ : Type} {J Jx : JP γ} {L pre Lx : List γ} {l : Nat} {enc : γ → World → List Nat → List Value → Prop}
def Vk (J:JP γ) (pre:List γ) (w:World) (O:List Nat) (bs:Be):JP γ:=fun pre' w' O' K'=>
  ∃Oc,O'=ks bs Oc∧J (pre++pre') w' Oc (K'++bs.filterMap Prod.fst)∧(∀p∈bs,∀b,p.1=some b→w'.heap[b]?=some p.2)∧(∀k∈Oc,k ∉ bs.filterMap Prod.fst∧k<w'.heap.size)∧AA (ks bs O) w O' w'∧∀k∈K',w.heap.size≤k
theorem Vk.lt {pre':List γ} {w':World} {O' K':List Nat} (hs:St z O w bs) (h:Vk J pre w O bs pre' w' O' K'):∀k∈bs.filterMap Prod.fst,k<w'.heap.size:=fun k hk=>by
  obtain⟨Oc,_,_,_,_,h5,_⟩:=h
  obtain⟨p,hp,e⟩:=B2.1 hk
  exact Nat.lt_of_lt_of_le (hs.lt hp e) h5.size
theorem Vk.abides (hJ:G1 J) (hs:St z O w bs):G1 (Vk J pre w O bs):=by
  refine⟨fun {pre' w1 w2 O' K' K''} h hd hl hg=>?_⟩
  have hlt:=h.lt hs
  obtain⟨Oc,rfl,h2,h3,h4,h5,h6⟩:=h
  have hkO:∀k∈K',k ∉ bs.filterMap Prod.fst∧k ∉ Oc:=fun k hk=>⟨fun hm=>hd k hk (Bw.2 (.inl hm)),fun hm=>hd k hk (Bw.2 (.inr hm))⟩
  refine⟨Oc,rfl,hJ.loc h2 ?_ ?_ ?_,fun p hp b hb=>?_,fun k hk=>⟨(h4 k hk).1,Nat.lt_of_lt_of_le (h4 k hk).2 hl.size⟩,⟨Nat.le_trans h5.size hl.size,fun k hk hn=>?_⟩,fun k hk=>?_⟩
  · intro k hk
    rcases List.mem_append.1 hk with hk |hk
    · exact(hkO k hk).2
    · exact fun hm=>(h4 k hm).1 hk
  · exact hl.sub fun k hk=>.inl (List.mem_append_left _ hk)
  · refine ⟨fun k hk => ?_, fun k hk => ?_⟩
    · rcases List.mem_append.1 hk with hk | hk
      · exact(hg.new k hk).imp (List.mem_append_left _) id
      · exact .inl (List.mem_append_right _ hk)
    · rcases List.mem_append.1 hk with hk | hk
      · exact hg.lt k hk
      · exact Nat.lt_of_lt_of_le (hlt k hk) hl.size
  · rw [hl.block b (hlt b (B2.2 ⟨p,hp,hb⟩)) fun hm=>(hkO b hm).1 (B2.2 ⟨p,hp,hb⟩)];exact h3 p hp b hb
  · obtain ⟨k1, k2⟩ := h5.keep k hk hn
    exact⟨k1,by rw [hl.block k (Nat.lt_of_lt_of_le hk h5.size) fun hm=>by have:=h6 k hm;omega];exact k2⟩
  · rcases hg.new k hk with h | h
    · exact h6 k h
    · exact Nat.le_trans h5.size h
theorem Vk.yields (hs:St z O w bs) (hL:pre++Lx<+:L) (hY:GW P enc L l J Jx):GW P enc Lx l (Vk J pre w O bs) (Vk Jx pre w O bs):=by
  intro pre' a w' O' K' vs hp h hK hO hen
  have hlt:=h.lt hs
  obtain⟨Oc,rfl,h2,h3,h4,h5,h6⟩:=h
  have hkO:∀k∈K',k ∉ bs.filterMap Prod.fst∧k ∉ Oc:=fun k hk=>⟨fun hm=>(hK k hk).2 (Bw.2 (.inl hm)),fun hm=>(hK k hk).2 (Bw.2 (.inr hm))⟩
  have hp':pre++pre'++[a]<+:L:=by
    rw [List.append_assoc]
    exact List.IsPrefix.trans ((List.prefix_append_right_inj pre).2 hp) hL
  obtain⟨fn,tmps,assign,body,hy,hR⟩:=hY (pre++pre') a w' Oc (K'++bs.filterMap Prod.fst) vs hp' h2 (fun k hk=>by
    rcases List.mem_append.1 hk with hk |hk
    · exact⟨(hK k hk).1,(hkO k hk).2⟩
    · exact⟨hlt k hk,fun hm=>(h4 k hm).1 hk⟩) (fun k hk=>(h4 k hk).2) (by rw [List.append_assoc];exact hen)
  refine⟨fn,tmps,assign,body,hy,hR.mono ?_⟩
  · rintro e w'' ⟨O'', hl, hg, hor⟩
    have hkeep:∀b∈bs.filterMap Prod.fst,w''.heap[b]?=w'.heap[b]?:=fun b hb=>hl.block b (hlt b hb) fun hm=>(h4 b hm).1 hb
    have hnew:∀k∈O'',k ∉ bs.filterMap Prod.fst∧k<w''.heap.size:=fun k hk=>⟨fun hm=>by
      rcases hg.new k hk with h |h
      · exact(h4 k h).1 hm
      · have:=hlt k hm;omega,hg.lt k hk⟩
    have hst:AA (ks bs Oc) w' (ks bs O'') w'':=AA.of_loc hl (fun k hk=>Bw.2 (.inr hk)) fun k hk=>by
      rcases Bw.1 hk with hk |hk
      · exact .inl (Bw.2 (.inl hk))
      · exact(hg.new k hk).imp (fun h=>Bw.2 (.inr h)) id
    have mk:∀J':JP γ,J' (pre++pre'++[a]) w'' O'' (K'++bs.filterMap Prod.fst)→Vk J' pre w O bs (pre'++[a]) w'' (ks bs O'') K':=fun J' hj=>
      ⟨O'',rfl,by rw [← List.append_assoc];exact hj,fun p hp b hb=>by rw [hkeep b (B2.2 ⟨p,hp,hb⟩)];exact h3 p hp b hb,hnew,h5.trans hst,h6⟩
    refine⟨ks bs O'',hl.sub fun k hk=>.inl (Bw.2 (.inr hk)),⟨fun k hk=>?_,fun k hk=>?_⟩,?_⟩
    · rcases Bw.1 hk with hk | hk
      · exact .inl (Bw.2 (.inl hk))
      · exact(hg.new k hk).imp (fun h=>Bw.2 (.inr h)) id
    · rcases Bw.1 hk with hk | hk
      · exact Nat.lt_of_lt_of_le (hlt k hk) hl.size
      · exact hg.lt k hk
    · rcases hor with ⟨he, h⟩ | ⟨he, h⟩
      · exact .inl ⟨he,mk J h⟩
      · exact .inr ⟨he,mk Jx h⟩
end call
end Go.Fx
set_option linter.unusedSimpArgs false
set_option linter.unusedVariables false
namespace Go.Fx
open Go Go.RowKit
theorem WY {α:Type} {a b:α} {l m:List α} (h1:a=b) (h2:l=m):a::l=b::m:=by rw [h1,h2]
theorem E0.rep {α:Type} {p:Rp α} {w:World} {O:List Nat} {v:Value} {x:α} (h:p.rd w O [v] x):∀n,E0 p w O (List.replicate n v) (List.replicate n x)
  |0=>rfl
  |n+1=>⟨[v],List.replicate n v,rfl,h,E0.rep h n⟩
theorem T0 {α:Type} {q:Rp α} {e:TypeId} {w:World} {O:List Nat} {a:Option Addr} {c:Nat} {pre xs post:List α} {kk:Option Nat} {o:Obj} (h:Gs q e w O a c (pre++xs++post) kk o):Cx .i64 (xs.length:Int):=by
  have:=h.le
  have:maxLen=9223372036854775807:=rfl
  simp only [List.length_append] at*
  constructor<;> simp [IntKind.min,IntKind.max,IntKind.bits,IntKind.signed]<;> omega
section
variable {α : Type} {q : Rp α} {e : TypeId} {w w' : World} {O O0 : List Nat} {c bl i : Nat} {xs xs' : List α} {o : Obj} {bs : Be} {z : Zx}
theorem KX (hi:bs[i]?=some (some bl,o)):(bl::(bs.eraseIdx i).filterMap Prod.fst).Perm (bs.filterMap Prod.fst):=by
  obtain⟨h,e1⟩:=List.getElem?_eq_some_iff.1 hi
  have e2:bs=bs.take i++(some bl,o)::bs.drop (i+1):=by
    rw [← e1,← List.drop_eq_getElem_cons h,List.take_append_drop]
  have e3:bs.filterMap Prod.fst=(bs.take i).filterMap Prod.fst++bl::(bs.drop (i+1)).filterMap Prod.fst:=by
    conv=>lhs;rw [e2]
    rw [List.filterMap_append];rfl
  rw [e3,List.eraseIdx_eq_take_drop_succ,List.filterMap_append]
  exact List.perm_middle.symm
theorem St.startW {w0:World} (h:∀k∈O,k<w0.heap.size) (hb:bl ∉ O) (ho:w0.heap[bl]?=some o):St ⟨w0,[bl],[]⟩ O w0 [(some bl,o)]:=by
  refine⟨HX.refl _ _,fun p hp b hb'=>?_,by simp,fun k hk=>⟨h k hk,fun hm=>?_⟩,List.nodup_nil,fun _ h=>by cases h⟩
  · rcases List.mem_cons.1 hp with rfl | hp
    · cases hb';exact⟨.inl (by simp),ho⟩
    · cases hp
  · simp at hm;subst hm;exact hb hk
end
theorem CA.win {α:Type} {q:Rp α} {w:World} {O:List Nat} {bl c l h:Nat} {xs:List α} (hq:q.n=1) (hS:CA q w O (some ⟨bl,0,none⟩) c xs) (h1:l<h) (h2:h≤xs.length):
    CA q w O (some ⟨bl,if c=l then 0 else 0+l*1,none⟩) (c - l) ((xs.drop l).take (h - l)):=by
  have:=hS.sub (l:=l) (hi:=h) (mx:=c) (by omega) h2 (by have:=hS.le;omega) (Nat.le_refl _)
  have hc:=hS.le
  have hne: ¬c=l:=by omega
  rw [if_neg hne] at this ⊢
  rw [hq] at this
  simpa [Addr.add_lit] using this
section ops
variable {P : Program} {r : Option Nat} {ρ : EH} {w : World} {O0 : List Nat} {bs : Be} {w0 : Zx} {d : Option Nat} {ty : TypeId} {pos : String} {aft : Array Edge} {g : Option (Nat × Bool)} {V : Value → World → Prop} {t : TypeId} {x y : Operand} {td : TypeDesc} {n b : Nat} {z : List Value} {ag : Bool} {m : Int}
theorem OL {α:Type} {p:Rp α} {pre xs post:List α} {e:TypeId} {a:Option Addr} {c bl i:Nat} {o:Obj} {v:Value} {vs:List Value} {yv:α} (T:Ty P t td 1 b z ag) (hp:p.n=1) (hs:St w0 O0 w bs) (hi:bs[i]?=some (some bl,o))
    (hx:ev ρ x=.pointer (some ⟨bl,pre.length+m.toNat*1,none⟩)) (hy:ev ρ y=v) (hv:v.cells=vs.toArray) (h:Gs p e w (ks bs O0) a c (pre++xs++post) (some bl) o) (h0:0≤m∧m<xs.length) (hr:p.rd w (ks bs O0) vs yv)
    (k:∀w' o',AA (ks bs O0) w (ks (bs.set i (some bl,o')) O0) w'→St w0 O0 w' (bs.set i (some bl,o'))→Gs p e w' (ks (bs.set i (some bl,o')) O0) a c (pre++xs.set m.toNat yv++post) (some bl) o'→V undef w'):
    BJ P r ρ w ⟨d,.store t x y,ty,pos,aft,g⟩ V:=by
  have em:((pre.length+m.toNat:Nat):Int).toNat=pre.length+m.toNat:=Int.toNat_natCast _
  refine FH (m:=((pre.length+m.toNat:Nat):Int)) T hp hs hi (by rw [em,Nat.mul_one];rw [Nat.mul_one] at hx;exact hx) hy hv h (by simp only [List.length_append];omega) hr ?_
  intro w' o' h1 h2 h3
  refine k w' o' h1 h2 ?_
  rw [em,List.append_assoc,List.set_append_right _ _ (by omega),show pre.length+m.toNat - pre.length=m.toNat by omega,List.set_append_left _ _ (by omega),← List.append_assoc] at h3
  exact h3
end ops
end Go.Fx
set_option linter.unusedSimpArgs false
set_option linter.unusedVariables false
set_option linter.unusedSectionVars false
namespace Go.Fx
open Go Go.RowKit

/-! slices that may be nil -/
section
variable {P : Program} {r : Option Nat} {ρ : EH} {w : World} {d : Option Nat} {ty : TypeId} {pos : String} {aft : Array Edge} {g : Option (Nat × Bool)} {V : Value → World → Prop} {t : TypeId} {x y : Operand} {u : TypeId}
end
/-! maps lent to a call -/
section
variable {K V β : Type} [DecidableEq K] [Hk K] {q : Kk K} {m : Mv V} {w w' : World} {O O0 : List Nat} {bl i : Nat} {o o' : Obj} {bs : Be} {z : Zx} {mp mp' : List (K × V)}
theorem Ql (hi:bs[i]?=some (some bl,o)) {k:Nat} :k∈bl::ks (bs.eraseIdx i) O0 ↔ k∈ks bs O0:=by
  have hp:=KX hi
  constructor
  · intro h
    rcases List.mem_cons.1 h with rfl |h
    · exact Bw.2 (.inl (hp.mem_iff.1 List.mem_cons_self))
    · exact(Bw.1 h).elim (fun h=>Bw.2 (.inl (hp.mem_iff.1 (List.mem_cons_of_mem _ h)))) fun h=>Bw.2 (.inr h)
  · intro h
    rcases Bw.1 h with h |h
    · rcases List.mem_cons.1 (hp.mem_iff.2 h) with rfl | h
      · exact List.mem_cons_self
      · exact List.mem_cons_of_mem _ (Bw.2 (.inl h))
    · exact List.mem_cons_of_mem _ (Bw.2 (.inr h))
theorem St.lendM (hs:St z O0 w bs) (hi:bs[i]?=some (some bl,o)):
    (∀k∈ks (bs.eraseIdx i) O0,k<w.heap.size)∧bl ∉ ks (bs.eraseIdx i) O0∧w.heap[bl]?=some o∧AA (ks bs O0) w (bl::ks (bs.eraseIdx i) O0) w:=by
  refine⟨(hs.drop i).ltw,fun hm=>?_,hs.get hi,AA.sub fun k hk=>(Ql hi).1 hk⟩
  have hnd:=(KX hi).nodup_iff.2 hs.nd
  rcases List.mem_append.1 hm with hm |hm
  · exact(List.nodup_cons.1 hnd).1 hm
  · exact(hs.dj bl hm).2 (B2.2 ⟨_,List.mem_of_getElem? hi,rfl⟩)
theorem UI (hi:bs[i]?=some (some bl,o)):(bs.set i (some bl,o'))[i]?=some (some bl,o'):=by
  have:=(List.getElem?_eq_some_iff.1 hi).1
  simp [this]
end
/-! functions BY an iterator that write into a map of it -/
def KE {α γ K V:Type} [DecidableEq K] [Hk K] (P:Program) (enc:γ→World→List Nat→List Value→Prop) (l:Nat) (q:Kk K) (m:Mv V) (bm:Nat) (w:World) (O:List Nat) (fv:Value) (A:Vr α) (f:α × List (K × V)→Option (List γ × List (K × V))):Prop:=
  (∃k caps,fv=.func k #[] caps)∧∀w1 O1 o1 mp,AA O w (bm::O1) w1→bm ∉ O1→w1.heap[bm]?=some o1→Mo q m o1 mp→(∀k∈O1,k<w1.heap.size)→∀(J Jx:JP γ),G1 J→G1 Jx→∀v x Lx mz,A.vd w1 (bm::O1) v x→f (x,mp)=some (Lx,mz)→GW P enc Lx l J Jx→J [] w1 O1 [bm]→
    Oq P fv [v] w1 fun u w2=>∃O2 o2 m2,bm ∉ O2∧w2.heap[bm]?=some o2∧Mo q m o2 m2∧((u=.bool true∧m2=mz∧J Lx w2 O2 [bm])∨(u=.bool false∧∃pre,Jx pre w2 O2 [bm]))
section sub
variable {α γ K V : Type} [DecidableEq K] [Hk K] {P : Program} {enc : γ → World → List Nat → List Value → Prop} {l : Nat} {q : Kk K} {m : Mv V} {bm : Nat} {w w' : World} {O O' : List Nat} {A : Vr α} {f : α × List (K × V) → Option (List γ × List (K × V))}
theorem KE.step {fv:Value} (h:KE P enc l q m bm w O fv A f) (s:AA O w O' w'):KE P enc l q m bm w' O' fv A f:=
  ⟨h.1,fun w1 O1 o1 mp s1=>h.2 w1 O1 o1 mp (s.trans s1)⟩
theorem KE.fix {k:Go.Fn} {caps:Array Value} {Φ:(α × List (K × V)→Option (List γ × List (K × V)))→α × List (K × V)→Option (List γ × List (K × V))}
    (h:∀f,KE P enc l q m bm w O (.func k #[] caps) A f→KE P enc l q m bm w O (.func k #[] caps) A (Φ f)):∀n,KE P enc l q m bm w O (.func k #[] caps) A (Ow Φ n)
  |0=>⟨⟨k,caps,rfl⟩,fun _ _ _ _ _ _ _ _ _ _ _ _ _ _ _ _ _ _ hf=>by cases hf⟩
  |n+1=>h _ (KE.fix h n)
def T1 {M:Type} (a:Option (List γ × M)) (k:M→Option (List γ × M)):Option (List γ × M):=a.bind fun p=>(k p.2).map fun r=>(p.1++r.1,r.2)
theorem SI {M:Type} {a:Option (List γ × M)} {k:M→Option (List γ × M)} {L:List γ} {mz:M} (h:T1 a k=some (L,mz)):∃A m1 B,a=some (A,m1)∧k m1=some (B,mz)∧L=A++B:=by
  cases a with
  |none=>cases h
  |some p=>
    obtain⟨A,m1⟩:=p
    cases hk:k m1 with
    |none=>simp [T1,hk] at h
    |some r=>
      obtain⟨B,m2⟩:=r
      simp [T1,hk] at h
      obtain⟨h1,h2⟩:=h
      subst h1;subst h2
      exact⟨A,m1,B,rfl,hk,rfl⟩
def T2 {M:Type} (a:Option (List γ × M)) (k:M→Option (List γ)):Option (List γ):=a.bind fun p=>(k p.2).map (p.1++·)
theorem SJ {M:Type} {a:Option (List γ × M)} {k:M→Option (List γ)} {L:List γ} (h:T2 a k=some L):∃A m1 B,a=some (A,m1)∧k m1=some B∧L=A++B:=by
  cases a with
  |none=>cases h
  |some p=>
    obtain⟨A,m1⟩:=p
    cases hk:k m1 with
    |none=>simp [T2,hk] at h
    |some B=>simp [T2,hk] at h;exact⟨A,m1,B,rfl,hk,h.symm⟩
def Yr {M:Type} (x:γ) (m:Option (List γ × M)):Option (List γ × M):=m.map fun r=>(x::r.1,r.2)
theorem T3 {M:Type} {x:γ} {m:Option (List γ × M)} {L:List γ} {mz:M} (h:Yr x m=some (L,mz)):∃L',m=some (L',mz)∧L=x::L':=by
  cases m with
  |none=>cases h
  |some r=>
    obtain⟨L',m2⟩:=r
    simp [Yr] at h
    obtain⟨h1,h2⟩:=h
    subst h1;subst h2;exact⟨L',rfl,rfl⟩
end sub
section call
variable {P : Program} {ρ : EH} {w : World} {z : Zx} {O : List Nat} {bs : Be} {α γ K V : Type} [DecidableEq K] [Hk K] {J Jx : JP γ} {L pre Lx : List γ} {l : Nat} {enc : γ → World → List Nat → List Value → Prop} {q : Kk K} {m : Mv V} {bm : Nat}
def L6 (J:JP γ) (pre:List γ) (w:World) (O:List Nat) (bs:Be) (bm:Nat):JP γ:=fun pre' w' O' K'=>
  ∃Oc,O'=ks bs Oc∧J (pre++pre') w' Oc (K'++bs.filterMap Prod.fst)∧(∀p∈bs,∀b,p.1=some b→w'.heap[b]?=some p.2)∧(∀k∈Oc,k ∉ bs.filterMap Prod.fst∧k<w'.heap.size)∧AA (bm::ks bs O) w (bm::O') w'∧∀k∈K',k=bm∨w.heap.size≤k
theorem L6.lt {pre':List γ} {w':World} {O' K':List Nat} (hb:∀k∈bs.filterMap Prod.fst,k<w.heap.size) (h:L6 J pre w O bs bm pre' w' O' K'):∀k∈bs.filterMap Prod.fst,k<w'.heap.size:=fun k hk=>by
  obtain⟨Oc,_,_,_,_,h5,_⟩:=h
  exact Nat.lt_of_lt_of_le (hb k hk) h5.size
theorem L6.abides (hJ:G1 J) (hb:∀k∈bs.filterMap Prod.fst,k<w.heap.size):G1 (L6 J pre w O bs bm):=by
  refine⟨fun {pre' w1 w2 O' K' K''} h hd hl hg=>?_⟩
  have hlt:=h.lt hb
  obtain⟨Oc,rfl,h2,h3,h4,h5,h6⟩:=h
  have hkO:∀k∈K',k ∉ bs.filterMap Prod.fst∧k ∉ Oc:=fun k hk=>⟨fun hm=>hd k hk (Bw.2 (.inl hm)),fun hm=>hd k hk (Bw.2 (.inr hm))⟩
  refine⟨Oc,rfl,hJ.loc h2 ?_ ?_ ?_,fun p hp b hb=>?_,fun k hk=>⟨(h4 k hk).1,Nat.lt_of_lt_of_le (h4 k hk).2 hl.size⟩,⟨Nat.le_trans h5.size hl.size,fun k hk hn=>?_⟩,fun k hk=>?_⟩
  · intro k hk
    rcases List.mem_append.1 hk with hk |hk
    · exact(hkO k hk).2
    · exact fun hm=>(h4 k hm).1 hk
  · exact hl.sub fun k hk=>.inl (List.mem_append_left _ hk)
  · refine ⟨fun k hk => ?_, fun k hk => ?_⟩
    · rcases List.mem_append.1 hk with hk | hk
      · exact(hg.new k hk).imp (List.mem_append_left _) id
      · exact .inl (List.mem_append_right _ hk)
    · rcases List.mem_append.1 hk with hk | hk
      · exact hg.lt k hk
      · exact Nat.lt_of_lt_of_le (hlt k hk) hl.size
  · rw [hl.block b (hlt b (B2.2 ⟨p,hp,hb⟩)) fun hm=>(hkO b hm).1 (B2.2 ⟨p,hp,hb⟩)];exact h3 p hp b hb
  · obtain ⟨k1, k2⟩ := h5.keep k hk hn
    exact⟨k1,by rw [hl.block k (Nat.lt_of_lt_of_le hk h5.size) fun hm=>(h6 k hm).elim (fun e=>hn (by rw [e];exact List.mem_cons_self)) fun h=>by omega];exact k2⟩
  · rcases hg.new k hk with h | h
    · exact h6 k h
    · exact .inr (Nat.le_trans h5.size h)
theorem L6.yields (hb:∀k∈bs.filterMap Prod.fst,k<w.heap.size) (hL:pre++Lx<+:L) (hY:GW P enc L l J Jx):GW P enc Lx l (L6 J pre w O bs bm) (L6 Jx pre w O bs bm):=by
  intro pre' a w' O' K' vs hp h hK hO hen
  have hlt:=h.lt hb
  obtain⟨Oc,rfl,h2,h3,h4,h5,h6⟩:=h
  have hkO:∀k∈K',k ∉ bs.filterMap Prod.fst∧k ∉ Oc:=fun k hk=>⟨fun hm=>(hK k hk).2 (Bw.2 (.inl hm)),fun hm=>(hK k hk).2 (Bw.2 (.inr hm))⟩
  have hp':pre++pre'++[a]<+:L:=by
    rw [List.append_assoc]
    exact List.IsPrefix.trans ((List.prefix_append_right_inj pre).2 hp) hL
  obtain⟨fn,tmps,assign,body,hy,hR⟩:=hY (pre++pre') a w' Oc (K'++bs.filterMap Prod.fst) vs hp' h2 (fun k hk=>by
    rcases List.mem_append.1 hk with hk |hk
    · exact⟨(hK k hk).1,(hkO k hk).2⟩
    · exact⟨hlt k hk,fun hm=>(h4 k hm).1 hk⟩) (fun k hk=>(h4 k hk).2) (by rw [List.append_assoc];exact hen)
  refine⟨fn,tmps,assign,body,hy,hR.mono ?_⟩
  · rintro e w'' ⟨O'', hl, hg, hor⟩
    have hkeep:∀b∈bs.filterMap Prod.fst,w''.heap[b]?=w'.heap[b]?:=fun b hb=>hl.block b (hlt b hb) fun hm=>(h4 b hm).1 hb
    have hnew:∀k∈O'',k ∉ bs.filterMap Prod.fst∧k<w''.heap.size:=fun k hk=>⟨fun hm=>by
      rcases hg.new k hk with h |h
      · exact(h4 k h).1 hm
      · have:=hlt k hm;omega,hg.lt k hk⟩
    have hst:AA (bm::ks bs Oc) w' (bm::ks bs O'') w'':=AA.of_loc hl (fun k hk=>List.mem_cons_of_mem _ (Bw.2 (.inr hk))) fun k hk=>by
      rcases List.mem_cons.1 hk with rfl |hk
      · exact .inl List.mem_cons_self
      · rcases Bw.1 hk with hk | hk
        · exact .inl (List.mem_cons_of_mem _ (Bw.2 (.inl hk)))
        · exact(hg.new k hk).imp (fun h=>List.mem_cons_of_mem _ (Bw.2 (.inr h))) id
    have mk:∀J':JP γ,J' (pre++pre'++[a]) w'' O'' (K'++bs.filterMap Prod.fst)→L6 J' pre w O bs bm (pre'++[a]) w'' (ks bs O'') K':=fun J' hj=>
      ⟨O'',rfl,by rw [← List.append_assoc];exact hj,fun p hp b hb=>by rw [hkeep b (B2.2 ⟨p,hp,hb⟩)];exact h3 p hp b hb,hnew,h5.trans hst,h6⟩
    refine⟨ks bs O'',hl.sub fun k hk=>.inl (Bw.2 (.inr hk)),⟨fun k hk=>?_,fun k hk=>?_⟩,?_⟩
    · rcases Bw.1 hk with hk | hk
      · exact .inl (Bw.2 (.inl hk))
      · exact(hg.new k hk).imp (fun h=>Bw.2 (.inr h)) id
    · rcases Bw.1 hk with hk | hk
      · exact Nat.lt_of_lt_of_le (hlt k hk) hl.size
      · exact hg.lt k hk
    · rcases hor with ⟨he, h⟩ | ⟨he, h⟩
      · exact .inl ⟨he,mk J h⟩
      · exact .inr ⟨he,mk Jx h⟩
theorem SK {d:Option Nat} {ty:TypeId} {pos:String} {aft:Array Edge} {g:Option (Nat × Bool)} {Vv:Value→World→Prop} {x:Operand} {args:List Operand} {us:Array TypeId} {vs:List Value} {a:γ}
    (hx:ev ρ x=.func (.yield l) #[] #[]) (ha:args.map (ev ρ)=vs) (hY:GW P enc L l J Jx) (hJ:G1 J) (hI:LM J pre z O) (hs:St z O w bs) (hL:pre++[a]<+:L) (hen:enc a w (ks bs O) vs)
    (kt:∀w' O',St ⟨w',bs.filterMap Prod.fst,[]⟩ O' w' bs→AA (ks bs O) w (ks bs O') w'→LM J (pre++[a]) ⟨w',bs.filterMap Prod.fst,[]⟩ O'→Vv (.bool true) w')
    (kf:∀w' O',St ⟨w',bs.filterMap Prod.fst,[]⟩ O' w' bs→AA (ks bs O) w (ks bs O') w'→LM Jx (pre++[a]) ⟨w',bs.filterMap Prod.fst,[]⟩ O'→Vv (.bool false) w'):
    BJ P none ρ w ⟨d,.call ⟨.value x,args.toArray,us⟩,ty,pos,aft,g⟩ Vv:=by
  obtain⟨fn,tmps,assign,body,hy,hR⟩:=hY pre a w O (bs.filterMap Prod.fst) vs hL (hI.now hJ hs) (fun k hk=>⟨hs.ltw k (Bw.2 (.inl hk)),fun hm=>(hs.dj k hm).2 hk⟩) hs.lt0 hen
  unfold BJ
  rw [Oper.semAt_eq _ _ _ (by simp)]
  have hrun:(execOp (ev ρ) ⟨d,.call ⟨.value x,args.toArray,us⟩,ty,pos,aft,g⟩).run P w=.ok (.round l fn tmps assign body) w:=by
    simp only [execOp,resolve,hx]
    subst ha
    simpa [go_sem,invoke] using hy
  rw [hrun]
  simp only
  refine RoundIn.mono hR ?_
  rintro e w' ⟨O',hl,hg,h⟩
  have hS:St ⟨w',bs.filterMap Prod.fst,[]⟩ O' w' bs:=by
    refine⟨HX.refl _ _,fun p hp b hb=>⟨.inl (B2.2 ⟨p,hp,hb⟩),?_⟩,hs.nd,fun k hk=>⟨hg.lt k hk,fun hm=>?_⟩,List.nodup_nil,fun _ h=>by cases h⟩
    · rw [hl.block b (hs.lt hp hb) fun hm=>(hs.dj b hm).2 (B2.2 ⟨p,hp,hb⟩)];exact(hs.own p hp b hb).2
    · rcases hg.new k hk with h1 | h1
      · exact(hs.dj k h1).2 hm
      · obtain ⟨p, hp, e⟩ := B2.1 hm
        have:=hs.lt hp e;omega
  have hP:AA (ks bs O) w (ks bs O') w':=AA.of_loc hl (fun k hk=>Bw.2 (.inr hk)) fun k hk=>by
    rcases Bw.1 hk with hk |hk
    · exact .inl (Bw.2 (.inl hk))
    · exact(hg.new k hk).imp (fun h=>Bw.2 (.inr h)) id
  have hdj:∀k∈bs.filterMap Prod.fst,k ∉ O':=fun k hk hm=>(hS.dj k hm).2 hk
  rcases h with ⟨rfl,h⟩ |⟨rfl,h⟩
  · exact⟨_,rfl,kt w' O' hS hP ⟨h,hdj⟩⟩
  · exact⟨_,rfl,kf w' O' hS hP ⟨h,hdj⟩⟩
theorem LM.startM {w:World} {bm:Nat} (h:J [] w O [bm]) (hb:bm ∉ O):LM J [] ⟨w,[bm],[]⟩ O:=⟨h,fun k hk=>by simp at hk;subst hk;exact hb⟩
theorem LM.finM {o:Obj} (h:LM J pre z O) (hJ:G1 J) (hs:St z O w [(some bm,o)]):J pre w O [bm]∧bm ∉ O∧w.heap[bm]?=some o:=
  ⟨h.now hJ hs,fun hm=>(hs.dj bm hm).2 (by simp),hs.get (i:=0) rfl⟩
end call
end Go.Fx
set_option linter.unusedSimpArgs false
set_option linter.unusedVariables false
set_option linter.unusedSectionVars false
namespace Go.Fx
open Go Go.RowKit
/-! models -/
section model
variable {α β σ R : Type}
def IV:List α→List (α × List α)
  |[] =>[]
  |x::t=>(x,t)::(IV t).map fun p=>(p.1,x::p.2)
theorem JI {xs:List α} {p:α × List α} :p∈IV xs ↔ ∃r1 r2,xs=r1++p.1::r2∧p.2=r1++r2:=by
  induction xs generalizing p with
  |nil=>simp [IV]
  |cons x t ih=>
    simp only [IV,List.mem_cons,List.mem_map]
    constructor
    · rintro (rfl | ⟨q, hq, rfl⟩)
      · exact⟨[],t,rfl,rfl⟩
      · obtain ⟨r1, r2, e1, e2⟩ := ih.1 hq
        exact⟨x::r1,r2,by simp [e1],by simp [e2]⟩
    · rintro ⟨r1, r2, e1, e2⟩
      cases r1 with
      |nil=>
        left
        have:=List.cons.inj e1
        obtain⟨a,b⟩:=p
        simp at e2 this
        rw [this.1,this.2,e2]
      |cons y r1=>
        right
        have:=List.cons.inj e1
        refine⟨(p.1,r1++r2),ih.2 ⟨r1,r2,this.2,rfl⟩,?_⟩
        obtain⟨a,b⟩:=p
        simp at e2 this ⊢
        rw [this.1,e2]
theorem M7 {xs:List α} {p:α × List α} (h:p∈IV xs):xs.length=p.2.length+1:=by
  obtain⟨r1,r2,e1,e2⟩:=JI.1 h
  rw [e1,e2];simp;omega
def Kd [DecidableEq R]:List (Option R)→Option R
  |[] =>none
  |r::t=>r.bind fun a=>bif t.all (fun u=>decide (u=some a)) then some a else none
theorem Iw [DecidableEq R] {L:List (Option R)} {a:R} :Kd L=some a ↔ L≠[]∧∀u∈L,u=some a:=by
  cases L with
  |nil=>simp [Kd]
  |cons r t=>
    cases r with
    |none=>simp [Kd]
    |some b=>
      simp only [Kd,Option.bind_some]
      cases h:t.all (fun u=>decide (u=some b))
      · simp only [cond_false, reduceCtorEq, false_iff]
        rintro⟨_,h2⟩
        have e:b=a:=Option.some.inj (h2 (some b) (by simp))
        subst e
        have:t.all (fun u=>decide (u=some b))=true:=List.all_eq_true.2 fun u hu=>by simpa using h2 u (by simp [hu])
        rw [h] at this;cases this
      · simp only [cond_true, Option.some.injEq]
        have h':∀u∈t,u=some b:=fun u hu=>by simpa using List.all_eq_true.1 h u hu
        constructor
        · rintro rfl;exact⟨by simp,fun u hu=>(List.mem_cons.1 hu).elim id (h' u)⟩
        · rintro⟨_,h2⟩;exact Option.some.inj (h2 (some b) (by simp))
def JJ [DecidableEq R] (b:(σ→Option R)→α→σ→Option R) (k:σ→Option R):Nat→List α→σ→Option R
  |0,_,s=>k s
  |n+1,xs,s=>Kd ((IV xs).map fun p=>b (JJ b k n p.2) p.1 s)
def NF [DecidableEq R] (b:(σ→Option R)→α→σ→Option R) (k:σ→Option R) (xs:List α):σ→Option R:=JJ b k xs.length xs
theorem T4 [DecidableEq R] {b:(σ→Option R)→α→σ→Option R} {k:σ→Option R} {s:σ} {x:R} {r1 r2:List α} {p:α} (h:NF b k (r1++p::r2) s=some x):∃sf,sf=NF b k (r1++r2)∧b sf p s=some x:=by
  refine⟨_,rfl,?_⟩
  unfold NF at h
  rw [show(r1++p::r2).length=(r1++r2).length+1 by simp;omega] at h
  exact(Iw.1 h).2 _ (List.mem_map.2 ⟨(p,r1++r2),JI.2 ⟨r1,r2,rfl,rfl⟩,rfl⟩)
theorem R6 [DecidableEq R] (b:(σ→Option R)→α→σ→Option R) (k:σ→Option R):∀(n:Nat) {l xs:List α},l.length=n→l.Perm xs→JJ b k n l=JJ b k n xs:=by
  intro n
  induction n with
  |zero=>intro l xs hl h;rfl
  |succ n ih=>
    intro l xs hl h
    have one:∀{l xs:List α},l.length=n+1→l.Perm xs→∀s a,JJ b k (n+1) l s=some a→JJ b k (n+1) xs s=some a:=by
      intro l xs hl h s a ha
      have:=Iw.1 ha
      refine Iw.2 ⟨?_,fun u hu=>?_⟩
      · intro e
        have e2:IV xs=[]:=List.map_eq_nil_iff.1 e
        cases xs with
        |nil=>rw [h.length_eq] at hl;cases hl
        |cons x t=>simp [IV] at e2
      · obtain ⟨p, hp, rfl⟩ := List.mem_map.1 hu
        obtain⟨r1,r2,e1,e2⟩:=JI.1 hp
        have hm:p.1∈l:=h.mem_iff.2 (by rw [e1];simp)
        obtain⟨l1,l2,e3⟩:=List.append_of_mem hm
        have hp2:(l1++l2).Perm (r1++r2):=by
          have:(p.1::(l1++l2)).Perm (p.1::(r1++r2)):=by
            have h3:=h
            rw [e1,e3] at h3
            exact List.perm_middle.symm.trans (h3.trans List.perm_middle)
          exact List.Perm.cons_inv this
        have hn:(l1++l2).length=n:=by rw [e3] at hl;simp at hl ⊢;omega
        rw [e2,← ih hn hp2]
        exact this.2 _ (List.mem_map.2 ⟨(p.1,l1++l2),JI.2 ⟨l1,l2,e3,rfl⟩,rfl⟩)
    funext s
    have h2:=one hl h s
    have h3:=one (h.symm.length_eq.trans hl) h.symm s
    cases e:JJ b k (n+1) l s with
    |some a=>exact(h2 a e).symm
    |none=>cases e':JJ b k (n+1) xs s with
      |none=>rfl
      |some a=>rw [h3 a e'] at e;cases e
theorem OM [DecidableEq R] {b:(σ→Option R)→α→σ→Option R} {k:σ→Option R} {l xs:List α} (h:l.Perm xs):NF b k l=NF b k xs:=by
  unfold NF;rw [h.length_eq];exact R6 b k _ h.length_eq h
section curry
variable [DecidableEq R] {A0 A1 A2 A3 : Type}
def Jp (b:(A0→Option R)→α→A0→Option R) (k:A0→Option R) (xs:List α):A0→Option R:=NF b k xs
def Jq (b:(A0→A1→Option R)→α→A0→A1→Option R) (k:A0→A1→Option R) (xs:List α) (a0:A0) (a1:A1):Option R:=NF (fun sf p (s:A0 × A1)=>b (fun a0 a1=>sf (a0,a1)) p s.1 s.2) (fun s=>k s.1 s.2) xs (a0,a1)
variable {x : R} {a0 : A0} {a1 : A1} {a2 : A2} {a3 : A3} {r1 r2 : List α} {p : α}
theorem P3 {b:(A0→Option R)→α→A0→Option R} {k:A0→Option R} (h:Jp b k [] a0=some x):k a0=some x:=h
theorem Sg {b:(A0→A1→Option R)→α→A0→A1→Option R} {k:A0→A1→Option R} (h:Jq b k [] a0 a1=some x):k a0 a1=some x:=h
theorem P4 {b:(A0→Option R)→α→A0→Option R} {k:A0→Option R} (h:Jp b k (r1++p::r2) a0=some x):∃sf,sf=Jp b k (r1++r2)∧b sf p a0=some x:=T4 h
theorem Si {b:(A0→A1→Option R)→α→A0→A1→Option R} {k:A0→A1→Option R} (h:Jq b k (r1++p::r2) a0 a1=some x):∃sf,sf=Jq b k (r1++r2)∧b sf p a0 a1=some x:=by
  obtain⟨_,rfl,h⟩:=T4 h;exact⟨_,rfl,h⟩
theorem L7 {b:(A0→Option R)→α→A0→Option R} {k:A0→Option R} {l xs:List α} (h:l.Perm xs):Jp b k l=Jp b k xs:=OM h
theorem NG {b:(A0→A1→Option R)→α→A0→A1→Option R} {k:A0→A1→Option R} {l xs:List α} (h:l.Perm xs):Jq b k l=Jq b k xs:=by unfold Jq;rw [OM h]
end curry
end model
/-! what stands in memory -/
section mem
variable {K V : Type} [DecidableEq K] [Hk K] {q : Kk K} {m : Mv V} {om oi : Obj} {xs rem : List (K × V)}
def QQ (q:Kk K) (m:Mv V) (om oi:Obj) (b:Nat) (last:Option (K × V)) (rem:List (K × V)):Prop:=
  ∃es clock l since seen c0,om=.map es clock∧LV q m es clock l∧(l.Pairwise fun e f=>e.1≠f.1)∧oi=.mapIter (some b) since seen c0∧(∀e∈l,e.2.2<since)∧since≤c0∧since≤clock∧
    rem=((l.filter fun e=>!seen.contains e.2.2).map fun e=>(e.1,e.2.1))∧(last=none∨∃e∈l,∃seen',seen=Array.push seen' e.2.2∧last=some (e.1,e.2.1)∧c0=clock)
theorem Mo.perm {es:Array MapEntry} {clock:Nat} {l:List (K × V × Nat)} (hd:l.Pairwise fun e f=>e.1≠f.1) (hp:∀n x,(∃b,(n,x,b)∈l) ↔ (n,x)∈xs) (hr:Hh xs):(l.map fun e=>(e.1,e.2.1)).Perm xs:=by
  refine(List.perm_ext_iff_of_nodup ?_ (KV hr)).2 fun p=>?_
  · rw [List.nodup_iff_pairwise_ne,List.pairwise_map];exact hd.imp fun h e=>h (Prod.mk.inj e).1
  · rw [← hp p.1 p.2]; simp only [List.mem_map]
    constructor
    · rintro⟨e,he,rfl⟩;exact⟨e.2.2,he⟩
    · rintro⟨b,hb⟩;exact⟨(p.1,p.2,b),hb,rfl⟩
theorem QQ.start {b:Nat} (h:Mo q m om xs):∃es clock rem,om=.map es clock∧QQ q m om (.mapIter (some b) clock #[] clock) b none rem∧rem.Perm xs:=by
  obtain⟨es,clock,l,rfl,hM,hd,hp,hr⟩:=h
  refine⟨es,clock,l.map fun e=>(e.1,e.2.1),rfl,⟨es,clock,l,clock,#[],clock,rfl,hM,hd,rfl,hM.lt,Nat.le_refl _,Nat.le_refl _,?_,.inl rfl⟩,Mo.perm (es:=es) (clock:=clock) hd hp hr⟩
  congr 1
  exact(List.filter_eq_self.2 fun e _=>by simp).symm
variable {P : Program} {w : World} {b r : Nat} {last : Option (K × V)} {ty : TypeId}
theorem ON (h:QQ q m om oi b last rem) (hm:w.heap[b]?=some om) (hi:w.heap[r]?=some oi):
    (rem=[]∧(Instr.next (.pointer (some ⟨r,0,none⟩)) false ty).run P w=.ok (.tuple #[.bool false]) w)∨
    ∃p r1 r2 oi' w1,rem=r1++p::r2∧(w1=w∨w1=w.drew)∧(Instr.next (.pointer (some ⟨r,0,none⟩)) false ty).run P w=.ok (.tuple #[.bool true,q.enc p.1,m.enc p.2]) (w1.putObj r oi')∧QQ q m om oi' b (some p) (r1++r2)∧q.ok p.1∧m.ok p.2:=by
  obtain⟨es,clock,l,since,seen,c0,rfl,hM,hd,rfl,hs,hsc,hcl,hrem,_⟩:=h
  have hold:∀x∈es.toList,x.born<since:=fun x hx=>by
    rw [hM.eq] at hx
    obtain⟨e,he,rfl⟩:=List.mem_map.1 hx
    exact hs e he
  have hleft:(leftOf es seen).toList=(l.filter fun e=>!seen.contains e.2.2).map fun e=>(⟨q.enc e.1,m.enc e.2.1,e.2.2⟩:MapEntry):=by
    unfold leftOf
    rw [Array.toList_filter,hM.eq,List.filter_map]
    rfl
  rcases run_next_at (P:=P) w ty r b since c0 seen es clock hi hm hold hsc with ⟨h1,h2⟩ |⟨e,he,w1,hw1,h2⟩
  · left
    refine⟨?_,h2⟩
    have:(leftOf es seen).toList=[]:=by rw [List.eq_nil_iff_length_eq_zero,Array.length_toList];exact h1
    rw [hleft] at this
    rw [hrem]
    simpa using this
  · right
    rw [hleft] at he
    obtain⟨e',he',rfl⟩:=List.mem_map.1 he
    have hel:e'∈l:=(List.mem_filter.1 he').1
    have hes:seen.contains e'.2.2=false:=by have:=(List.mem_filter.1 he').2;simpa using this
    obtain⟨l1,l2,hl⟩:=List.append_of_mem hel
    have hb:=hM.born
    rw [hl,List.pairwise_append] at hb
    have hn1:∀f∈l1,¬f.2.2=e'.2.2:=fun f hf=>by have:=hb.2.2 f hf e' (by simp);omega
    have hn2:∀f∈l2,¬f.2.2=e'.2.2:=fun f hf=>by have:=(List.pairwise_cons.1 hb.2.1).1 f hf;omega
    have fpush:∀f:K × V × Nat,(!(seen.push e'.2.2).contains f.2.2)=(!seen.contains f.2.2&&!decide (f.2.2=e'.2.2)):=fun f=>by
      simp only [Array.contains_push]
      by_cases h:f.2.2=e'.2.2<;> simp [h]
    have hfil:∀t:List (K × V × Nat),(∀f∈t,¬f.2.2=e'.2.2)→t.filter (fun f=>!(seen.push e'.2.2).contains f.2.2)=t.filter (fun f=>!seen.contains f.2.2):=fun t ht=>by
      apply List.filter_congr
      intro f hf
      rw [fpush];simp [ht f hf]
    have hw1b:∀k:Nat,w1.heap[k]?=w.heap[k]?:=fun k=>by rcases hw1 with rfl |rfl<;> rfl
    refine⟨(e'.1,e'.2.1),(l1.filter fun f=>!seen.contains f.2.2).map fun e=>(e.1,e.2.1),(l2.filter fun f=>!seen.contains f.2.2).map fun e=>(e.1,e.2.1),.mapIter (some b) since (seen.push e'.2.2) clock,w1,?_,hw1,?_,?_,hM.ok e' hel⟩
    · rw [hrem, hl]
      rw [List.filter_append,List.filter_cons_of_pos (by simpa using hes),List.map_append,List.map_cons]
    · exact h2
    · refine ⟨es, clock, l, since, seen.push e'.2.2, clock, rfl, hM, hd, rfl, hs, hcl, hcl, ?_, .inr ⟨e', hel, seen, rfl, rfl, rfl⟩⟩
      rw [hl,List.filter_append,List.filter_cons_of_neg (by rw [fpush];simp),hfil l1 hn1,hfil l2 hn2,List.map_append]
theorem NH {p:K × V} (h:QQ q m om oi b (some p) rem) (hm:w.heap[b]?=some om) (hi:w.heap[r]?=some oi):
    (Instr.entry (.pointer (some ⟨r,0,none⟩))).run P w=.ok (.tuple #[q.enc p.1,m.enc p.2]) w:=by
  obtain⟨es,clock,l,since,seen,c0,rfl,hM,hd,rfl,hs,hsc,hcl,hrem,hl⟩:=h
  rcases hl with hl |⟨e,he,seen',rfl,hl,rfl⟩
  · cases hl
  cases hl
  have hmem:(⟨q.enc e.1,m.enc e.2.1,e.2.2⟩:MapEntry)∈es.toList:=by rw [hM.eq];exact List.mem_map.2 ⟨e,he,rfl⟩
  have hnd:(es.toList.map (·.born)).Nodup:=by
    rw [hM.eq,List.map_map,List.nodup_iff_pairwise_ne,List.pairwise_map]
    exact hM.born.imp fun h=>Nat.ne_of_lt h
  have hf:es.find? (·.born == e.2.2)=some ⟨q.enc e.1,m.enc e.2.1,e.2.2⟩:=by rw [← Array.find?_toList];exact find_born _ es.toList hnd hmem
  simp only [Instr.entry,getObj,Sem.run_bind,Sem.run,hi,hm,Result.andThen,Array.back?_push,hf]
  simp
end mem
section own
variable {K V : Type} [DecidableEq K] [Hk K] {q : Kk K} {m : Mv V} {P : Program} {r : Option Nat} {ρ : EH} {w w' : World} {d : Option Nat} {ty : TypeId} {pos : String} {aft : Array Edge} {g : Option (Nat × Bool)} {Vv : Value → World → Prop}
variable {z0 : Zx} {O0 O O' : List Nat} {bs : Be} {x : Operand} {t kt e : TypeId} {v : Value} {oi : Obj} {last : Option (K × V)} {xs rem : List (K × V)}
def L8 (q:Kk K) (m:Mv V) (w:World) (O:List Nat) (v:Value) (oi:Obj) (last:Option (K × V)) (rem:List (K × V)):Prop:=
  ∃b om,v=.map (some b)∧Sh w O b∧w.heap[b]?=some om∧QQ q m om oi b last rem
theorem L8.step (h:L8 q m w O v oi last rem) (s:AA O w O' w'):L8 q m w' O' v oi last rem:=by
  obtain⟨b,o,h1,h2,h3,h4⟩:=h
  exact⟨b,o,h1,h2.step s,by rw [(s.keep b h2.lt h2.no).2];exact h3,h4⟩
theorem QQ.any {om:Obj} {b:Nat} (h:QQ q m om oi b last rem):QQ q m om oi b none rem:=by
  obtain⟨es,clock,l,since,seen,c0,h1,h2,h3,h4,h5,h6,h7,h8,_⟩:=h
  exact⟨es,clock,l,since,seen,c0,h1,h2,h3,h4,h5,h6,h7,h8,.inl rfl⟩
theorem L8.any (h:L8 q m w O v oi last rem):L8 q m w O v oi none rem:=by
  obtain⟨b,o,h1,h2,h3,h4⟩:=h
  exact⟨b,o,h1,h2,h3,h4.any⟩
theorem KY (hu:P.underlying t=some (.map kt e)) (hs:St z0 O0 w bs) (h:Ov q m w (ks bs O0) v xs) (hx:ev ρ x=v)
    (k:∀bl oi rem w',AA (ks bs O0) w (ks ((some bl,oi)::bs) O0) w'→St z0 O0 w' ((some bl,oi)::bs)→L8 q m w' (ks ((some bl,oi)::bs) O0) v oi none rem→rem.Perm xs→Vv (.pointer (some ⟨bl,0,none⟩)) w'):
    BJ P r ρ w ⟨d,.range t x,ty,pos,aft,g⟩ Vv:=by
  obtain⟨b,o,rfl,hsh,hb,hM⟩:=h
  obtain⟨es,clock,rem,rfl,hit,hp⟩:=QQ.start (b:=b) hM
  have hs':=AA.alloc w O0 bs (.mapIter (some b) clock #[] clock)
  refine Bj (v:=.pointer (some ⟨w.heap.size,0,none⟩)) (w':=w.alloc (.mapIter (some b) clock #[] clock)) (by simp) ?_ (k _ _ rem _ hs' (hs.alloc _) (L8.step ⟨b,_,rfl,hsh,hb,hit⟩ hs') hp)
  simp [execOp,hx,Instr.range,run_underlying hu,HN hb]
theorem LW {i b:Nat} (hs:St z0 O0 w bs) (hi:bs[i]?=some (some b,oi)) (h:L8 q m w (ks bs O0) v oi last rem) (hx:ev ρ x=.pointer (some ⟨b,0,none⟩))
    (k0:rem=[]→Vv (.tuple [Value.bool false].toArray) w)
    (k1:∀p r1 r2 oi' w',rem=r1++p::r2→AA (ks bs O0) w (ks (bs.set i (some b,oi')) O0) w'→St z0 O0 w' (bs.set i (some b,oi'))→L8 q m w' (ks (bs.set i (some b,oi')) O0) v oi' (some p) (r1++r2)→q.ok p.1→m.ok p.2→Vv (.tuple [Value.bool true,q.enc p.1,m.enc p.2].toArray) w'):
    BJ P r ρ w ⟨d,.next x false,ty,pos,aft,g⟩ Vv:=by
  obtain⟨bm,om,rfl,hsh,hb,hit⟩:=h
  rcases ON (P:=P) (w:=w) (r:=b) (ty:=ty) hit hb (hs.get hi) with ⟨h0,h1⟩ |⟨p,r1,r2,oi',w1,hr,hw1,h1,h2,h3,h4⟩
  · refine Bj (by simp) ?_ (k0 h0)
    simp [execOp,hx,h1]
  · have he : GU w w1 := by rcases hw1 with rfl | rfl; exact GU.refl _; exact GU.drew _
    have hs1:=hs.call he
    obtain⟨h5,h6⟩:=hs1.putObj hi oi'
    have h7:=(AA.ext (O:=ks bs O0) he).trans h6
    have hsh':=hsh.step h7
    refine Bj (by simp) ?_ (k1 p r1 r2 oi' _ hr h7 h5 ⟨bm,om,rfl,hsh',?_,h2⟩ h3 h4)
    · simp [execOp,hx,h1]
    · rw [(h7.keep bm hsh.lt hsh.no).2];exact hb
theorem KZ {i b:Nat} {p:K × V} (hs:St z0 O0 w bs) (hi:bs[i]?=some (some b,oi)) (h:L8 q m w (ks bs O0) v oi (some p) rem) (hx:ev ρ x=.pointer (some ⟨b,0,none⟩))
    (k:Vv (.tuple [q.enc p.1,m.enc p.2].toArray) w):BJ P r ρ w ⟨d,.entry x,ty,pos,aft,g⟩ Vv:=by
  obtain⟨bm,om,rfl,hsh,hb,hit⟩:=h
  refine Bj (by simp) ?_ k
  simp [execOp,hx,NH hit hb (hs.get hi)]
end own
end Go.Fx
set_option linter.unusedSimpArgs false
set_option linter.unusedVariables false
set_option linter.unusedSectionVars false
namespace Go.Fx
open Go Go.RowKit
section
variable {w w' : World} {O O0 : List Nat} {L L' rest bs : Be} {z : Zx}
theorem IW (L rest:Be) (O:List Nat):ks (L++rest) O=ks L (ks rest O):=by simp [ks,List.filterMap_append,List.append_assoc]
def I8 (w:World) (O:List Nat) (L:Be):Prop:=St ⟨w,L.filterMap Prod.fst,[]⟩ O w L
theorem St.lendL (hs:St z O0 w (L++rest)):I8 w (ks rest O0) L:=by
  have hnd:=hs.nd
  rw [List.filterMap_append] at hnd
  have hdis:=(List.nodup_append.1 hnd).2.2
  refine⟨HX.refl _ _,fun p hp b hb=>⟨.inl (B2.2 ⟨p,hp,hb⟩),(hs.own p (List.mem_append_left _ hp) b hb).2⟩,(List.nodup_append.1 hnd).1,fun k hk=>?_,List.nodup_nil,fun _ h=>by cases h⟩
  rcases Bw.1 hk with hk |hk
  · obtain ⟨p, hp, hb⟩ := B2.1 hk
    exact⟨hs.lt (List.mem_append_right _ hp) hb,fun hm=>hdis _ hm _ hk rfl⟩
  · exact⟨(hs.dj k hk).1,fun hm=>(hs.dj k hk).2 (by rw [List.filterMap_append];exact List.mem_append_left _ hm)⟩
structure Jz (w:World) (L:Be) (w':World) (O:List Nat) (L':Be):Prop where
  loc:HX (L.filterMap Prod.fst) w w'
  st:I8 w' O L'
  new:∀k∈L'.filterMap Prod.fst,k∈L.filterMap Prod.fst∨w.heap.size≤k
theorem St.backB (hs:St ⟨w,L.filterMap Prod.fst,[]⟩ O w' L'):Jz w L w' O L':=
  ⟨hs.below,⟨HX.refl _ _,fun p hp b hb=>⟨.inl (B2.2 ⟨p,hp,hb⟩),(hs.own p hp b hb).2⟩,hs.nd,hs.dj,List.nodup_nil,fun _ h=>by cases h⟩,fun k hk=>by
    obtain⟨p,hp,hb⟩:=B2.1 hk
    exact(hs.own p hp k hb).1⟩
theorem Jz.refl (h:I8 w O L):Jz w L w O L:=⟨HX.refl _ _,h,fun k hk=>.inl hk⟩
theorem Jz.trans {w1 w2:World} {L1 L2:Be} (h:Jz w L w1 O L1) (k:Jz w1 L1 w2 O L2):Jz w L w2 O L2:=
  ⟨h.loc.trans' k.loc h.new,k.st,fun b hb=>by
    rcases k.new b hb with h1 |h1
    · exact h.new b h1
    · exact .inr (Nat.le_trans h.loc.size h1)⟩
theorem Jz.step (h:Jz w L w' O L'):AA (ks L O) w (ks L' O) w':=by
  refine⟨h.loc.size,fun k hk hn=>⟨fun hm=>?_,h.loc.block k hk fun hm=>hn (Bw.2 (.inl hm))⟩⟩
  rcases Bw.1 hm with hm |hm
  · rcases h.new k hm with h1 | h1
    · exact hn (Bw.2 (.inl h1))
    · omega
  · exact hn (Bw.2 (.inr hm))
theorem St.backL (hs:St z O0 w (L++rest)) (h:Jz w L w' (ks rest O0) L'):St z O0 w' (L'++rest)∧AA (ks (L++rest) O0) w (ks (L'++rest) O0) w':=by
  have hnd:=hs.nd
  rw [List.filterMap_append] at hnd
  have hdis:=(List.nodup_append.1 hnd).2.2
  have hz:z.w.heap.size≤w.heap.size:=hs.below.size
  have hold:∀k∈L.filterMap Prod.fst,k∈z.K∨z.w.heap.size≤k:=fun k hk=>by
    obtain⟨p,hp,hb⟩:=B2.1 hk
    exact(hs.own p (List.mem_append_left _ hp) k hb).1
  refine⟨⟨hs.below.trans' h.loc hold,fun p hp b hb=>?_,?_,fun k hk=>⟨Nat.lt_of_lt_of_le (hs.dj k hk).1 h.loc.size,fun hm=>?_⟩,hs.dsn,fun D hD=>?_⟩,?_⟩
  · rcases List.mem_append.1 hp with hp | hp
    · refine ⟨?_, (h.st.own p hp b hb).2⟩
      rcases h.new b (B2.2 ⟨p,hp,hb⟩) with h1 |h1
      · exact hold b h1
      · exact .inr (Nat.le_trans hz h1)
    · have h1 := hs.own p (List.mem_append_right _ hp) b hb
      refine⟨h1.1,?_⟩
      rw [h.loc.block b (hs.lt (List.mem_append_right _ hp) hb) fun hm=>hdis _ hm _ (B2.2 ⟨p,hp,hb⟩) rfl]
      exact h1.2
  · rw [List.filterMap_append]
    refine List.nodup_append.2 ⟨h.st.nd,(List.nodup_append.1 hnd).2.1,fun a ha b hb e=>?_⟩
    subst e
    exact(h.st.dj a (Bw.2 (.inl hb))).2 ha
  · rw [List.filterMap_append] at hm
    rcases List.mem_append.1 hm with hm |hm
    · exact(h.st.dj k (Bw.2 (.inr hk))).2 hm
    · exact(hs.dj k hk).2 (by rw [List.filterMap_append];exact List.mem_append_right _ hm)
  · obtain ⟨h1, h2, h3⟩ := hs.dfs D hD
    refine⟨h1,h2,?_⟩
    rw [h.loc.block D (hs.dj D h1).1 fun hm=>(hs.dj D h1).2 (by rw [List.filterMap_append];exact List.mem_append_left _ hm)]
    exact h3
  · have := h.step
    rwa [IW,IW]
def WZ {β:Type} (P:Program) (f:FuncId) (args:List Value) (w:World) (O:List Nat) (L:Be) (R:Vr β) (y:β) (I5:World→Be→Prop):Prop:=
  Fn P f args w fun v w'=>∃L',Jz w L w' O L'∧I5 w' L'∧R.vd w' (ks L' O) v y
theorem NI {β:Type} {P:Program} {r:Option Nat} {ρ:EH} {d:Option Nat} {ty:TypeId} {pos:String} {aft:Array Edge} {g:Option (Nat × Bool)} {Vv:Value→World→Prop} {f:FuncId} {args:Array Operand} {us:Array TypeId} {vs:List Value} {R:Vr β} {y:β} {I5:World→Be→Prop}
    (hc:∀(args:Array Value) (w:World),(callFunc f args).run P w=.ok (.enter f args) w) (L:Be) (hs:St z O0 w (L++rest)) (h:WZ P f vs w (ks rest O0) L R y I5) (ha:args.toList.map (ev ρ)=vs)
    (k:∀v w' L',AA (ks (L++rest) O0) w (ks (L'++rest) O0) w'→St z O0 w' (L'++rest)→I5 w' L'→R.vd w' (ks (L'++rest) O0) v y→Vv v w'):BJ P r ρ w ⟨d,.call ⟨.value (.func f),args,us⟩,ty,pos,aft,g⟩ Vv:=by
  refine Gi hc h ha ?_
  rintro v w' ⟨L',hB,hP,hR⟩
  obtain⟨h1,h2⟩:=hs.backL hB
  exact k v w' L' h2 h1 hP (by rw [IW];exact hR)
section load
variable {P : Program} {r : Option Nat} {ρ : EH} {d : Option Nat} {ty : TypeId} {pos : String} {aft : Array Edge} {g : Option (Nat × Bool)} {V : Value → World → Prop} {t : TypeId} {td : TypeDesc} {b : Nat} {zs : List Value} {x : Operand} {m : Int}
theorem Qm {α:Type} [Inhabited α] {p:Rp α} {pre xs post:List α} {e:TypeId} {a:Option Addr} {c bl i:Nat} {o:Obj} (T:Ty P t td 1 b zs false) (hp:p.n=1) (hs:St z O0 w bs) (hi:bs[i]?=some (some bl,o))
    (hx:ev ρ x=.pointer (some ⟨bl,pre.length+m.toNat*1,none⟩)) (h:Gs p e w O a c (pre++xs++post) (some bl) o) (h0:0≤m∧m<xs.length)
    (k:∀v,p.rd w O [v] (xs.getD m.toNat default)→V v w):BJ P r ρ w ⟨d,.load t x,ty,pos,aft,g⟩ V:=by
  have em:((pre.length+m.toNat:Nat):Int).toNat=pre.length+m.toNat:=Int.toNat_natCast _
  refine F0 (m:=((pre.length+m.toNat:Nat):Int)) T hp hs hi (by rw [em,Nat.mul_one];rw [Nat.mul_one] at hx;exact hx) h (by simp only [List.length_append];omega) ?_
  intro v hv
  refine k v ?_
  rw [em] at hv
  have:(pre++xs++post).getD (pre.length+m.toNat) default=xs.getD m.toNat default:=by
    rw [List.getD_eq_getElem?_getD,List.getD_eq_getElem?_getD,List.append_assoc,List.getElem?_append_right (by omega),show pre.length+m.toNat - pre.length=m.toNat by omega,List.getElem?_append_left (by omega)]
  rwa [this] at hv
theorem T5 {cs:List Value} {o n off:Nat} {u:Value} (h:o+n≤cs.length) (ho:off<n):HY cs o (((cs.drop o).take n).set off u)=HY cs (o+off) [u]:=by
  have hl:(((cs.drop o).take n).set off u).length=n:=by simp;omega
  apply List.ext_getElem?
  intro j
  rw [Hl (by rw [hl];exact h),Hl (by simp;omega),hl]
  by_cases h1:o≤j∧j<o+n
  · rw [if_pos h1, List.getElem?_set]
    by_cases h2:off=j - o
    · rw [if_pos h2, if_pos (by simp; omega), if_pos (by simp; omega)]
      rw [show j - (o+off)=0 by omega];rfl
    · rw [if_neg h2,if_neg (by simp;omega),List.getElem?_take,if_pos (by omega),List.getElem?_drop,show o+(j - o)=j by omega]
  · rw [if_neg h1,if_neg (by simp;omega)]
theorem R7 {α:Type} [Inhabited α] {p:Rp α} {xs:List α} {e:TypeId} {a:Option Addr} {c bl i nn off:Nat} {o:Obj} {v u:Value} {yv:α} {y:Operand} (T:Ty P t td 1 b zs false) (hp:p.n=nn) (hs:St z O0 w bs) (hi:bs[i]?=some (some bl,o))
    (hx:ev ρ x=.pointer (some ⟨bl,m.toNat*nn+off,none⟩)) (hy:ev ρ y=v) (hv:v.cells=[u].toArray) (hu:u.oneCell'=true) (h:Gs p e w (ks bs O0) a c xs (some bl) o) (h0:0≤m∧m<xs.length) (hoff:off<nn)
    (hr:∀vs,p.rd w (ks bs O0) vs (xs.getD m.toNat default)→p.rd w (ks bs O0) (vs.set off u) yv)
    (k:∀w' o',AA (ks bs O0) w (ks (bs.set i (some bl,o')) O0) w'→St z O0 w' (bs.set i (some bl,o'))→Gs p e w' (ks (bs.set i (some bl,o')) O0) a c (xs.set m.toNat yv) (some bl) o'→V undef w'):
    BJ P r ρ w ⟨d,.store t x y,ty,pos,aft,g⟩ V:=by
  have hm:m.toNat<xs.length:=by omega
  rcases h with ⟨_,_,rfl,_⟩ |⟨b2,cur,h1,h2,h3,h4,h5,h6,h7⟩
  · simp at hm
  · cases h2
    subst h3 hp
    have e1:(m.toNat+1)*p.n≤xs.length*p.n:=Nat.mul_le_mul_right _ hm
    have e2:xs.length*p.n≤c*p.n:=Nat.mul_le_mul_right _ h5
    rw [Nat.add_mul,Nat.one_mul] at e1
    have hg:=h7.get m.toNat hm
    have erow:((cur.toList.take (xs.length*p.n)).drop (m.toNat*p.n)).take p.n=(cur.toList.drop (m.toNat*p.n)).take p.n:=by
      rw [List.drop_take,List.take_take,Nat.min_eq_left (by omega)]
    rw [erow] at hg
    have hgd:xs.getD m.toNat default=xs[m.toNat]:=by simp [List.getD_eq_getElem?_getD,List.getElem?_eq_getElem hm]
    have hr':=hr _ (by rw [hgd];exact hg)
    have hn:=p.len hr'
    refine HJ (cs:=cur.toList) (vs:=[u]) T hs hx hy (by rw [hi]) hv rfl (by simp;omega) (by simp [hu]) (T5 (u:=u) (o:=m.toNat*p.n) (n:=p.n) (by simp;omega) hoff).symm rfl fun w' h8 h9=>?_
    refine k w' _ h8 h9 ?_
    generalize hvs:((cur.toList.drop (m.toNat*p.n)).take p.n).set off u=vs at hr' hn h8 h9 ⊢
    refine .inr ⟨bl,_,h1,rfl,rfl,?_,by simpa using h5,h6,?_⟩
    · rw [List.size_toArray,Jm (by simp;omega)];simpa using h4
    · have e3 := (h7.set m.toNat hm hr').step h8
      simp only [List.length_set]
      have e4:(HY cur.toList (m.toNat*p.n) vs).take (xs.length*p.n)=((cur.toList.take (xs.length*p.n)).take (m.toNat*p.n))++vs++(cur.toList.take (xs.length*p.n)).drop (m.toNat*p.n+p.n):=by
        apply List.ext_getElem?
        intro j
        rw [List.getElem?_take,Hl (by simp;omega)]
        simp only [List.getElem?_append,List.length_append,List.length_take,Array.length_toList,List.getElem?_take,List.getElem?_drop,hn]
        rw [Nat.min_eq_left (show xs.length*p.n≤cur.size by omega),Nat.min_eq_left (show m.toNat*p.n≤xs.length*p.n by omega)]
        by_cases c1:j<m.toNat*p.n
        · simp [c1,show j<m.toNat*p.n+p.n by omega,show j<xs.length*p.n by omega,show ¬m.toNat*p.n≤j by omega]
        · by_cases c2 : j < m.toNat * p.n + p.n
          · simp [c1,c2,show j<xs.length*p.n by omega,show m.toNat*p.n≤j by omega]
          · simp only [c1, c2, if_false, and_false]
            have:m.toNat*p.n+p.n+(j - (m.toNat*p.n+p.n))=j:=by omega
            rw [this]
      rw [e4];exact e3
theorem UJ {K V':Type} [DecidableEq K] [Hk K] {q:Kk K} {m:Mv V'} {kt e:TypeId} {v:Value} {xs:List (K × V')} (hu:P.underlying t=some (.map kt e)) (hx:ev ρ x=v) (h:Ov q m w O v xs) (k:V (.int .i64 xs.length) w):
    BJ P r ρ w ⟨d,.call ⟨.builtin .len,#[x],#[t]⟩,ty,pos,aft,g⟩ V:=by
  obtain⟨bb,o,rfl,_,hb,hM⟩:=h
  obtain⟨es,clock,rfl,hsz⟩:=hM.size
  refine Bj (v:=.int .i64 xs.length) (by simp) ?_ k
  simp [execOp,resolve,invoke,builtin,Builtin.len_,hx,run_underlying hu,goInt,HN hb,hsz]
end load
end
end Go.Fx
set_option linter.unusedSimpArgs false
set_option linter.unusedVariables false
set_option linter.unusedSectionVars false
namespace Go.Fx
open Go Go.RowKit
inductive SL (P:Program) (d:Nat) (xs ys:List Value):List Field→List Bool→Prop
  |nil:SL P d xs ys [] []
  | cons {f : Field} {fs : List Field} {c : Bool} {cs : List Bool} {a b : Value} (hn : f.name ≠ "_") (ha : ∀ w, (part f.type xs.toArray f.offset).run P w = .ok a w) (hb : ∀ w, (part f.type ys.toArray f.offset).run P w = .ok b w)
      (he:∀w,(Op.equalIn d f.type a b).run P w=.ok c w) (h:SL P d xs ys fs cs):SL P d xs ys (f::fs) (c::cs)
inductive T6 (P:Program) (e:Bool) (d:Nat) (xs:List Value):List Field→Prop
  |nil:T6 P e d xs []
  | cons {f : Field} {fs : List Field} {a : Value} (hn : f.name ≠ "_") (ha : ∀ w, (part f.type xs.toArray f.offset).run P w = .ok a w) (hc : ∀ w, (Instr.checkKey e d f.type a).run P w = .ok () w) (h : T6 P e d xs fs) : T6 P e d xs (f :: fs)
section
variable {P : Program} {t : TypeId} {td : TypeDesc} {n b : Nat} {z : List Value} {ag : Bool}
theorem BR (T:Ty P t td 1 b z false) {cs:List Value} {off:Nat} {v:Value} (h:cs[off]?=some v):∀w,(part t cs.toArray off).run P w=.ok v w:=fun w=>by simp [part,T.agg,h]
theorem SL.run {d:Nat} {xs ys:List Value} {fs:List Field} {cs:List Bool} (h:SL P d xs ys fs cs):∀w,(Op.eqFields d xs.toArray ys.toArray fs).run P w=.ok (cs.all id) w:=by
  induction h with
  |nil=>intro w;simp [Op.eqFields]
  |@cons f fs c cs a b hn ha hb he _ ih=>
    intro w
    simp only [Op.eqFields,hn,ne_eq,not_false_eq_true,if_true,Sem.run_bind,ha,hb,he,Result.andThen_ok]
    cases c<;> simp [ih]
theorem OP {d:Nat} {xs ys:List Value} {fs:Array Field} {cs:List Bool} (hu:P.underlying t=some (.struct fs)) (hp:P.stoodInHeld t=false) (h:SL P d xs ys fs.toList cs):∀w,(Op.equalIn (d+1) t (.agg xs.toArray) (.agg ys.toArray)).run P w=.ok (cs.all id) w:=fun w=>by
  have hf:P.fieldsOf t=fs:=by unfold Program.fieldsOf;rw [hu]
  rw [run_equalIn_struct w d t _ _ (by rw [hf];exact hu) hp,hf]
  exact h.run w
theorem P6 {d:Nat} {t:TypeId} {q:IntKind} (h:P.underlying t=some (.int q)) (x y:Int):∀w,(Op.equalIn (d+1) t (.int q x) (.int q y)).run P w=.ok (x == y) w:=fun w=>run_equalIn_int w d t q q x y h
theorem UK {d:Nat} {t:TypeId} (h:P.underlying t=some .bool) (x y:Bool):∀w,(Op.equalIn (d+1) t (.bool x) (.bool y)).run P w=.ok (x == y) w:=fun w=>run_equalIn_bool' w d t x y h
theorem OQ {e:Bool} {d:Nat} {xs:List Value} {fs:Array Field} (hu:P.underlying t=some (.struct fs)) (h:T6 P e d xs fs.toList):∀w,(Instr.checkKey e (d+1) t (.agg xs.toArray)).run P w=.ok () w:=fun w=>by
  simp only [Instr.checkKey,Sem.run_bind,run_underlying hu,Result.andThen_ok]
  rw [← Array.forIn_toList]
  generalize fs.toList=L at h
  induction h with
  |nil=>simp
  |@cons f fs' a hn ha hc _ ih=>
    simp only [List.forIn_cons,Sem.run_bind,hn,ne_eq,not_false_eq_true,if_true,Result.andThen_ok,ha,hc,Sem.run_pure]
    exact ih
theorem P7 {e:Bool} {d:Nat} {t:TypeId} {q:IntKind} (h:P.underlying t=some (.int q)) (x:Int):∀w,(Instr.checkKey e (d+1) t (.int q x)).run P w=.ok () w:=fun w=>by simp [Instr.checkKey,run_underlying h]
theorem UL {e:Bool} {d:Nat} {t:TypeId} (h:P.underlying t=some .bool) (x:Bool):∀w,(Instr.checkKey e (d+1) t (.bool x)).run P w=.ok () w:=fun w=>by simp [Instr.checkKey,run_underlying h]
variable {r : Option Nat} {ρ : EH} {w : World} {d : Option Nat} {ty : TypeId} {pos : String} {aft : Array Edge} {g : Option (Nat × Bool)} {V : Value → World → Prop} {x y : Operand} {u : TypeId}
theorem Sj {xs ys:List Value} {c:Bool} (hx:ev ρ x=.agg xs.toArray) (hy:ev ρ y=.agg ys.toArray) (hg:P.eqGuardType P.depth t=false) (he:(Op.equalIn 10000 t (.agg xs.toArray) (.agg ys.toArray)).run P w=.ok c w) (k:V (.bool c) w):BJ P r ρ w ⟨d,.binOp .eql t x y u,ty,pos,aft,g⟩ V:=by
  refine Bj (v:=.bool c) (by simp) ?_ k
  simp only [execOp,hx,hy,Sem.run_bind,run_eqGuard_agg w .eql t x y xs.toArray ys.toArray hg,Result.andThen_ok,run_eql_struct,he,Sem.run_pure]
theorem Sk {xs ys:List Value} {c:Bool} (hx:ev ρ x=.agg xs.toArray) (hy:ev ρ y=.agg ys.toArray) (hg:P.eqGuardType P.depth t=false) (he:(Op.equalIn 10000 t (.agg xs.toArray) (.agg ys.toArray)).run P w=.ok c w) (k:V (.bool (!c)) w):BJ P r ρ w ⟨d,.binOp .neq t x y u,ty,pos,aft,g⟩ V:=by
  refine Bj (v:=.bool (!c)) (by simp) ?_ k
  simp only [execOp,hx,hy,Sem.run_bind,run_eqGuard_agg w .neq t x y xs.toArray ys.toArray hg,Result.andThen_ok,run_neq_struct,he,Sem.run_pure]
end
end Go.Fx
set_option linter.unusedSimpArgs false
set_option linter.unusedVariables false
namespace Go.Fx
open Go Go.RowKit
abbrev Gx:=List (Nat × Option Nat × Obj) × List Nat
def Gu (g:Gx):Be:=g.1.map fun p=>(p.2.1,p.2.2)
section
variable {w w' w'' : World} {w0 : Zx} {O0 : List Nat} {bs : Be} {eat : Nat → Nat} {g : Gx} {v : Value} {k : Nat}
def TX (w0:Zx) (O0:List Nat) (bs:Be) (eat:Nat→Nat):OD Gx where
  inv w g:=St w0 O0 w (Gu g++bs)∧∀k∈g.2,k<1000
  le w g w' g':=((∀p∈g.1,p∈g'.1∨eat p.1∈g'.2)∧∀k∈g.2,k∈g'.2)∧AA (ks (Gu g++bs) O0) w (ks (Gu g'++bs) O0) w'∧True
  refl w g:=⟨⟨fun _ h=>.inl h,fun _ h=>h⟩,AA.refl _ _,trivial⟩
  trans:=fun⟨⟨a,b⟩,h,_⟩ ⟨⟨a',b'⟩,h',_⟩=>⟨⟨fun p hp=>(a p hp).elim (a' p) fun h=>.inr (b' _ h),fun k hk=>b' _ (b _ hk)⟩,h.trans h',trivial⟩
  drew w g h:=⟨⟨h.1.call (GU.drew w),h.2⟩,⟨fun _ h=>.inl h,fun _ h=>h⟩,AA.ext (GU.drew w),trivial⟩
  dn g:=g.2
theorem R8 (h:St w0 O0 w bs):(TX w0 O0 bs eat).inv w ([],[]):=⟨h,by simp⟩
abbrev XD {α:Type} (O0:List Nat) (bs:Be) (R:Vr α) (x:α):VR Gx:=fun v w g=>R.vd w (ks (Gu g++bs) O0) v x
theorem XD.stab {α:Type} (R:Vr α) (x:α):Iq (TX w0 O0 bs eat) (XD O0 bs R x):=fun _ _ _ _ _ h hv=>R.step h.2.1 hv
abbrev XP {α:Type} (O0:List Nat) (bs:Be) (q:Rp α) (x:α):VR Gx:=fun v w g=>∃p,v=.pointer (some p)∧Ia q w (ks (Gu g++bs) O0) p x
theorem XP.stab {α:Type} (q:Rp α) (x:α):Iq (TX w0 O0 bs eat) (XP O0 bs q x):=fun _ _ _ _ _ h ⟨p,h1,h2⟩=>⟨p,h1,h2.step h.2.1⟩
def XG {α:Type} (O0:List Nat) (bs:Be) (eat:Nat→Nat) (tag:Nat) (q:Rp α) (e:TypeId) (xs:List α):VR Gx:=fun v w g=>eat tag∈g.2∨∃a c kk o,v=.slice a xs.length c∧(tag,kk,o)∈g.1∧Gs q e w (ks (Gu g++bs) O0) a c xs kk o
theorem XG.stab {α:Type} (tag:Nat) (q:Rp α) (e:TypeId) (xs:List α):Iq (TX w0 O0 bs eat) (XG O0 bs eat tag q e xs):=by
  rintro v w g w' g' ⟨⟨h1,h2⟩,h3,_⟩ (hv |⟨a,c,kk,o,e1,e2,e3⟩)
  · exact .inl (h2 _ hv)
  · rcases h1 _ e2 with h | h
    · exact .inr ⟨a,c,kk,o,e1,h,e3.step h3⟩
    · exact .inl h
theorem GoesX.same {V:VR Gx} (hi:St w0 O0 w' (Gu g++bs)) (hi2:∀k∈g.2,k<1000) (hv:V v w' g):Bs (TX w0 O0 bs eat) w' g V k v w':=⟨g,⟨hi,hi2⟩,(TX w0 O0 bs eat).refl _ _,hv,fun _ h=>.inl h⟩
theorem GoesX.call {V:VR Gx} (hi:St w0 O0 w' (Gu g++bs)) (hi2:∀k∈g.2,k<1000) (hx:GU w' w'') (hv:V v w'' g):Bs (TX w0 O0 bs eat) w' g V k v w'':=
  ⟨g,⟨hi.call hx,hi2⟩,⟨⟨fun _ h=>.inl h,fun _ h=>h⟩,AA.ext hx,trivial⟩,hv,fun _ h=>.inl h⟩
theorem GoesX.pub {V:VR Gx} (hi:St w0 O0 w' (Gu g++bs)) (hi2:∀k∈g.2,k<1000) (hs:St w0 O0 w'' (Gu g++bs)) (p:AA (ks (Gu g++bs) O0) w' (ks (Gu g++bs) O0) w'') (hx:GU w' w'') (hv:V v w'' g):
    Bs (TX w0 O0 bs eat) w' g V k v w'':=⟨g,⟨hs,hi2⟩,⟨⟨fun _ h=>.inl h,fun _ h=>h⟩,p,trivial⟩,hv,fun _ h=>.inl h⟩
theorem GoesX.own {α:Type} {q:Rp α} {e:TypeId} {xs:List α} {a:Option Addr} {c len tag:Nat} {kk:Option Nat} {o:Obj} (hi2:∀k∈g.2,k<1000) (p:AA (ks (Gu g++bs) O0) w' (ks ((kk,o)::(Gu g++bs)) O0) w'') (hs:St w0 O0 w'' ((kk,o)::(Gu g++bs)))
    (f:Gs q e w'' (ks ((kk,o)::(Gu g++bs)) O0) a c xs kk o) (hl:len=xs.length):Bs (TX w0 O0 bs eat) w' g (XG O0 bs eat tag q e xs) k (.slice a len c) w'':=by
  subst hl
  exact⟨((tag,kk,o)::g.1,g.2),⟨hs,hi2⟩,⟨⟨fun _ h=>.inl (List.mem_cons_of_mem _ h),fun _ h=>h⟩,p,trivial⟩,.inr ⟨a,c,kk,o,rfl,List.mem_cons_self,f⟩,fun _ h=>.inl h⟩
theorem AA.nxX:∀{g:Gx} {w':World},St w0 O0 w' (Gu g++bs)→St w0 O0 w' bs∧AA (ks (Gu g++bs) O0) w' (ks bs O0) w'
  |([],_),w',hi=>⟨hi,AA.refl _ _⟩
  |(p::nx,D),w',hi=>by
    have h1:St w0 O0 w' (Gu (nx,D)++bs):=hi.drop 0
    have h2:AA (ks (Gu (p::nx,D)++bs) O0) w' (ks (Gu (nx,D)++bs) O0) w':=AA.drop w' O0 (Gu (p::nx,D)++bs) 0
    have:=AA.nxX h1
    exact⟨this.1,h2.trans this.2⟩
theorem Sn (e:Be):∀(nx:List (Nat × Option Nat × Obj)) {w':World},St w0 O0 w' (e++((nx.map fun p=>(p.2.1,p.2.2))++bs))→St w0 O0 w' (e++bs)∧AA (ks (e++((nx.map fun p=>(p.2.1,p.2.2))++bs)) O0) w' (ks (e++bs) O0) w'
  |[],_,h=>⟨h,AA.refl _ _⟩
  |p::nx,w',h=>by
    have e1:(e++(((p::nx).map fun p=>(p.2.1,p.2.2))++bs)).eraseIdx e.length=e++((nx.map fun p=>(p.2.1,p.2.2))++bs):=by
      rw [List.eraseIdx_append_of_length_le (Nat.le_refl _)];simp
    have g1:=h.drop e.length
    have g2:=AA.drop w' O0 (e++(((p::nx).map fun p=>(p.2.1,p.2.2))++bs)) e.length
    rw [e1] at g1 g2
    have:=Sn e nx g1
    exact⟨this.1,g2.trans this.2⟩
theorem AA.nxX1 {tag:Nat} {kk:Option Nat} {o:Obj} (hi:St w0 O0 w' (Gu g++bs)) (hm:(tag,kk,o)∈g.1):St w0 O0 w' ((kk,o)::bs)∧AA (ks (Gu g++bs) O0) w' (ks ((kk,o)::bs) O0) w':=by
  obtain⟨nx,D⟩:=g
  obtain⟨l,l',rfl⟩:=List.append_of_mem hm
  have hp:([(kk,o)]++(((l++l').map fun p=>(p.2.1,p.2.2))++bs)).Perm (Gu (l++(tag,kk,o)::l',D)++bs):=by
    unfold Gu
    rw [← List.append_assoc]
    refine List.Perm.append_right _ ?_
    simp only [List.map_append,List.map_cons,List.cons_append,List.nil_append]
    exact List.perm_middle.symm
  obtain⟨a1,a2⟩:=hi.perm hp
  obtain⟨c1,c2⟩:=Sn [(kk,o)] (l++l') a1
  exact⟨c1,a2.trans c2⟩
theorem Ll {α β:Type} (f:α→β):∀(l:List α) (i:Nat),(l.map f).eraseIdx i=(l.eraseIdx i).map f
  |[],_=>rfl
  |_::_,0=>rfl
  |_::l,i+1=>by
    simp only [List.map_cons,List.eraseIdx_cons_succ,Ll f l i]
theorem Vl {α:Type} {q:Rp α} {e:TypeId} {xs:List α} {tag:Nat} (hi:St w0 O0 w (Gu g++bs)) (hi2:∀k∈g.2,k<1000) (hk:k ∉ g.2) (he:eat tag=k) (hk2:k<1000) (hx:XG O0 bs eat tag q e xs v w g):
    ∃a c g',v=.slice a xs.length c∧St w0 O0 w (Gu g'++bs)∧(∀k∈g'.2,k<1000)∧(TX w0 O0 bs eat).le w g w g'∧(∀i∈g'.2,i∈g.2∨i=k)∧CA q w (ks (Gu g'++bs) O0) a c xs:=by
  rcases hx with hx |⟨a,c,kk,o,e1,e2,e3⟩
  · rw [he] at hx;exact absurd hx hk
  · obtain ⟨i, hi3⟩ := List.mem_iff_getElem?.1 e2
    have hlt:i<g.1.length:=(List.getElem?_eq_some_iff.1 hi3).1
    have hget:(Gu g++bs)[i]?=some (kk,o):=by
      rw [List.getElem?_append_left (by unfold Gu;rw [List.length_map];exact hlt)]
      unfold Gu;rw [List.getElem?_map,hi3];rfl
    obtain⟨h1,h2,h3⟩:=Gs.publish hi hget e3
    have hset:(Gu g++bs).eraseIdx i=Gu (g.1.eraseIdx i,k::g.2)++bs:=by
      rw [List.eraseIdx_append_of_lt_length (by unfold Gu;rw [List.length_map];exact hlt)]
      unfold Gu;rw [Ll]
    rw [hset] at h1 h2 h3
    refine⟨a,c,(g.1.eraseIdx i,k::g.2),e1,h1,fun j hj=>?_,⟨⟨fun p hp=>?_,fun j hj=>List.mem_cons_of_mem _ hj⟩,h2,trivial⟩,fun j hj=>?_,h3⟩
    · rcases List.mem_cons.1 hj with rfl | hj
      · exact hk2
      · exact hi2 j hj
    · obtain ⟨j, hj⟩ := List.mem_iff_getElem?.1 hp
      by_cases hji:j=i
      · subst hji
        rw [hi3] at hj;cases hj
        exact .inr (by rw [he];exact List.mem_cons_self)
      · exact .inl (List.mem_eraseIdx_iff_getElem?.2 ⟨j,hji,hj⟩)
    · rcases List.mem_cons.1 hj with h | h
      · exact .inr h
      · exact .inl h
theorem GoesX.take {V:VR Gx} {g':Gx} (hl:(TX w0 O0 bs eat).le w g w g') (hd:∀i∈g'.2,i∈g.2∨i=k) (h:Bs (TX w0 O0 bs eat) w g' V k v w''):Bs (TX w0 O0 bs eat) w g V k v w'':=by
  obtain⟨g'',h1,h2,h3,h4⟩:=h
  exact⟨g'',h1,(TX w0 O0 bs eat).trans hl h2,h3,fun i hi=>(h4 i hi).elim (hd i) .inr⟩
end
section ops
variable {P : Program} {r : Option Nat} {ρ : EH} {w : World} {O0 : List Nat} {bs : Be} {w0 : Zx} {d : Option Nat} {ty : TypeId} {pos : String} {aft : Array Edge} {gd : Option (Nat × Bool)} {t : TypeId} {x y : Operand} {td : TypeDesc} {n b : Nat} {z : List Value} {ag : Bool} {eat : Nat → Nat} {g : Gx}
theorem Ig {α:Type} {q:Rp α} {xs ys:List α} {e:TypeId} {a2:Option Addr} {c2 bt tag tag' k:Nat} {tz:List Value} {ta:Bool} {news:List Value}
    (T:Ty P t (.slice e) 1 bt tz ta) (E:Ty P e td n b z ag) (hqn:q.n=n) (h0:0<n) (hi:St w0 O0 w (Gu g++bs)) (hi2:∀k∈g.2,k<1000) (hk:k ∉ g.2) (he:eat tag=k) (hk2:k<1000)
    (hx:XG O0 bs eat tag q e xs (ev ρ x) w g) (hy:ev ρ y=.slice a2 ys.length c2) (hS:Oj w a2 news) (hE:E0 q w (ks (Gu g++bs) O0) news ys)
    (hb:(xs.length+ys.length)*b≤140737488355328) (h63:xs.length+ys.length≤maxLen):
    BJ P r ρ w ⟨d,.call ⟨.builtin .append,#[x,y],#[t,t]⟩,ty,pos,aft,gd⟩ (Bs (TX w0 O0 bs eat) w g (XG O0 bs eat tag' q e (xs++ys)) k):=by
  rcases hx with hx |⟨a,c,kk,o,e1,e2,e3⟩
  · rw [he] at hx;exact absurd hx hk
  · obtain ⟨i, hi3⟩ := List.mem_iff_getElem?.1 e2
    have hlt:i<g.1.length:=(List.getElem?_eq_some_iff.1 hi3).1
    have hget:(Gu g++bs)[i]?=some (kk,o):=by
      rw [List.getElem?_append_left (by unfold Gu;rw [List.length_map];exact hlt)]
      unfold Gu;rw [List.getElem?_map,hi3];rfl
    refine FF T E hqn h0 hi hget e1 e3 hy hS hE hb h63 fun a' c' k' o' w' h1 h2 h3=>?_
    have hset:(Gu g++bs).set i (k',o')=Gu (g.1.set i (tag',k',o'),k::g.2)++bs:=by
      rw [List.set_append_left _ _ (by unfold Gu;rw [List.length_map];exact hlt)]
      unfold Gu;rw [List.map_set]
    rw [hset] at h1 h2 h3
    refine⟨(g.1.set i (tag',k',o'),k::g.2),⟨h2,fun j hj=>?_⟩,⟨⟨fun p hp=>?_,fun j hj=>List.mem_cons_of_mem _ hj⟩,h1,trivial⟩,.inr ⟨a',c',k',o',rfl,?_,h3⟩,fun j hj=>?_⟩
    · rcases List.mem_cons.1 hj with rfl | hj
      · exact hk2
      · exact hi2 j hj
    · obtain ⟨j, hj⟩ := List.mem_iff_getElem?.1 hp
      by_cases hji:j=i
      · subst hji
        rw [hi3] at hj;cases hj
        exact .inr (by rw [he];exact List.mem_cons_self)
      · refine .inl (List.mem_of_getElem? (i := j) ?_)
        rw [List.getElem?_set_ne (Ne.symm hji)];exact hj
    · exact List.mem_of_getElem? (i:=i) (by rw [List.getElem?_set_self hlt])
    · rcases List.mem_cons.1 hj with h | h
      · exact .inr h
      · exact .inl h
end ops
end Go.Fx
set_option linter.unusedSimpArgs false
set_option linter.unusedVariables false
set_option linter.unusedSectionVars false
namespace Go.Fx
open Go Go.RowKit
abbrev Hd:=Option Addr × Nat × Nat
def QR:Rp Hd where
  n:=1
  rd _ _ cs x:=cs=[Value.slice x.1 x.2.1 x.2.2]
  len:=fun h=>by rw [h];rfl
  one:=fun e v hv=>by rw [e] at hv;simp at hv;subst hv;rfl
  step:=fun _ h=>h
section
variable {α : Type} {q : Rp α} {e : TypeId} {w w' : World} {O O' O0 : List Nat} {z : Zx} {bs R : Be}
def Rows (q:Rp α) (e:TypeId) (w:World) (O:List Nat):List Hd→Be→List (List α)→Prop
  |[],[],[] =>True
  |h::hs,p::R,x::xs=>(Gs q e w O h.1 h.2.2 x p.1 p.2∧h.2.1=x.length)∧Rows q e w O hs R xs
  |_,_,_=>False
theorem Rows.lens:∀{hs:List Hd} {R:Be} {xs:List (List α)},Rows q e w O hs R xs→hs.length=xs.length∧R.length=xs.length
  |[],[],[],_=>⟨rfl,rfl⟩
  |h::hs,k::kk,x::xs,⟨_,h2⟩=>by have:=Rows.lens h2;simp [this]
  |[],[],_::_,h=>h.elim
  |[],_::_,_,h=>h.elim
  |_::_,[],_,h=>h.elim
  |_::_,_::_,[],h=>h.elim
theorem Rows.get:∀{hs:List Hd} {R:Be} {xs:List (List α)},Rows q e w O hs R xs→∀i (h:i<xs.length),∃hd p,hs[i]?=some hd∧R[i]?=some p∧Gs q e w O hd.1 hd.2.2 xs[i] p.1 p.2∧hd.2.1=xs[i].length
  |[],[],[],_,i,h=>by simp at h
  |hd::hs,k::kk,x::xs,⟨h1,h2⟩,0,_=>⟨hd,k,rfl,rfl,h1⟩
  |hd::hs,k::kk,x::xs,⟨h1,h2⟩,i+1,h=>by
    obtain⟨a,b,e1,e2,e3⟩:=Rows.get h2 i (by simpa using h)
    exact⟨a,b,by simpa using e1,by simpa using e2,by simpa using e3⟩
  |[],[],_::_,h,_,_=>h.elim
  |[],_::_,_,h,_,_=>h.elim
  |_::_,[],_,h,_,_=>h.elim
  |_::_,_::_,[],h,_,_=>h.elim
theorem Rows.append:∀{hs:List Hd} {R:Be} {xs:List (List α)} {hd:Hd} {p:Option Nat × Obj} {x:List α},Rows q e w O hs R xs→Gs q e w O hd.1 hd.2.2 x p.1 p.2→hd.2.1=x.length→Rows q e w O (hs++[hd]) (R++[p]) (xs++[x])
  |[],[],[],_,_,_,_,h,h'=>⟨⟨h,h'⟩,trivial⟩
  |h::hs,k::kk,x::xs,_,_,_,⟨h1,h2⟩,h3,h4=>⟨h1,Rows.append h2 h3 h4⟩
  |[],[],_::_,_,_,_,h,_,_=>h.elim
  |[],_::_,_,_,_,_,h,_,_=>h.elim
  |_::_,[],_,_,_,_,h,_,_=>h.elim
  |_::_,_::_,[],_,_,_,h,_,_=>h.elim
theorem Rows.set:∀{hs:List Hd} {R:Be} {xs:List (List α)} {hd:Hd} {p:Option Nat × Obj} {x:List α} (i:Nat),Rows q e w O hs R xs→Gs q e w O hd.1 hd.2.2 x p.1 p.2→hd.2.1=x.length→Rows q e w O (hs.set i hd) (R.set i p) (xs.set i x)
  |[],[],[],_,_,_,_,h,_,_=>h
  |h::hs,k::kk,x::xs,_,_,_,0,⟨h1,h2⟩,h3,h4=>⟨⟨h3,h4⟩,h2⟩
  |h::hs,k::kk,x::xs,_,_,_,i+1,⟨h1,h2⟩,h3,h4=>⟨h1,Rows.set i h2 h3 h4⟩
  |[],[],_::_,_,_,_,_,h,_,_=>h.elim
  |[],_::_,_,_,_,_,_,h,_,_=>h.elim
  |_::_,[],_,_,_,_,_,h,_,_=>h.elim
  |_::_,_::_,[],_,_,_,_,h,_,_=>h.elim
theorem Rows.nil_:Rows q e w O [] [] ([]:List (List α)):=trivial
theorem Rows.nils (o:Obj):∀n,Rows q e w O (List.replicate n (none,0,0)) (List.replicate n (none,o)) (List.replicate n ([]:List α))
  |0=>trivial
  |n+1=>⟨⟨Gs.nil_,rfl⟩,Rows.nils o n⟩
theorem Rows.step (s:AA O w O' w'):∀{hs:List Hd} {R:Be} {xs:List (List α)},Rows q e w O hs R xs→Rows q e w' O' hs R xs
  |[],[],[],_=>trivial
  |h::hs,k::kk,x::xs,⟨h1,h2⟩=>⟨⟨h1.1.step s,h1.2⟩,Rows.step s h2⟩
  |[],[],_::_,h=>h.elim
  |[],_::_,_,h=>h.elim
  |_::_,[],_,h=>h.elim
  |_::_,_::_,[],h=>h.elim
theorem St.nones {o:Obj} (h:St z O0 w bs):∀n,St z O0 w (bs++List.replicate n (none,o)):=fun n=>by
  have e1:(bs++List.replicate n ((none:Option Nat),o)).filterMap Prod.fst=bs.filterMap Prod.fst:=by
    rw [List.filterMap_append]
    have:(List.replicate n ((none:Option Nat),o)).filterMap Prod.fst=[]:=by
      rw [List.filterMap_eq_nil_iff];intro p hp;rw [(List.mem_replicate.1 hp).2]
    rw [this,List.append_nil]
  refine⟨h.below,fun p hp b hb=>?_,by rw [e1];exact h.nd,fun k hk=>by rw [e1];exact h.dj k hk,h.dsn,h.dfs⟩
  rcases List.mem_append.1 hp with hp |hp
  · exact h.own p hp b hb
  · rw [(List.mem_replicate.1 hp).2] at hb;cases hb
theorem Vm {v:Value} {x:Hd} {w:World} {O:List Nat} (h:QR.rd w O [v] x):v=.slice x.1 x.2.1 x.2.2:=by
  have h': [v] =[Value.slice x.1 x.2.1 x.2.2]:=h
  simpa using h'
theorem T7 {o:Obj} (bs:Be) (O:List Nat) (n:Nat):ks (bs++List.replicate n ((none:Option Nat),o)) O=ks bs O:=by
  unfold ks
  rw [List.filterMap_append]
  have:(List.replicate n ((none:Option Nat),o)).filterMap Prod.fst=[]:=by
    rw [List.filterMap_eq_nil_iff];intro p hp;rw [(List.mem_replicate.1 hp).2]
  rw [this,List.append_nil]
theorem St.nones2 {o:Obj} (h:St z O0 w bs) (n:Nat):St z O0 w (bs++List.replicate n (none,o))∧AA (ks bs O0) w (ks (bs++List.replicate n (none,o)) O0) w:=
  ⟨h.nones n,by rw [T7];exact AA.refl _ _⟩
theorem St.toback {p:Option Nat × Obj} {i:Nat} (h:St z O0 w bs) (hi:bs[i]?=some p):St z O0 w (bs.eraseIdx i++[p])∧AA (ks bs O0) w (ks (bs.eraseIdx i++[p]) O0) w:=by
  obtain⟨h1,h2⟩:=h.front hi
  obtain⟨h3,h4⟩:=h1.perm (bs':=bs.eraseIdx i++[p]) (List.perm_append_singleton _ _)
  exact⟨h3,h2.trans h4⟩
theorem So {i:Nat} {p:Option Nat × Obj} (h:R[i]?=some p):(bs++R)[bs.length+i]?=some p:=by
  rw [List.getElem?_append_right (by omega),show bs.length+i - bs.length=i by omega];exact h
theorem UM {i:Nat} {p:Option Nat × Obj} :(bs++R).set (bs.length+i) p=bs++R.set i p:=by
  rw [List.set_append_right _ _ (by omega),show bs.length+i - bs.length=i by omega]
theorem Rows.turn:∀{hs:List Hd} {R:Be} {xs:List (List α)} {hd:Hd} {p:Option Nat × Obj} {x:List α} (i:Nat),Rows q e w O hs R xs→hs[i]?=some hd→Gs q e w O hd.1 hd.2.2 x p.1 p.2→hd.2.1=x.length→Rows q e w O hs (R.set i p) (xs.set i x):=by
  intro hs R xs hd p x i h hh hg hl
  have:=Rows.set i h hg hl
  have e1:hs.set i hd=hs:=by
    obtain⟨h1,h2⟩:=List.getElem?_eq_some_iff.1 hh
    rw [← h2,List.set_getElem_self]
  rwa [e1] at this
def Lm (q:Rp α) (w:World) (O:List Nat):List Hd→List (List α)→Prop
  |[],[] =>True
  |h::hs,x::xs=>(CA q w O h.1 h.2.2 x∧h.2.1=x.length)∧Lm q w O hs xs
  |_,_=>False
theorem Lm.step (s:AA O w O' w'):∀{hs:List Hd} {xs:List (List α)},Lm q w O hs xs→Lm q w' O' hs xs
  |[],[],_=>trivial
  |h::hs,x::xs,⟨h1,h2⟩=>⟨⟨h1.1.step s,h1.2⟩,Lm.step s h2⟩
  |[],_::_,h=>h.elim
  |_::_,[],h=>h.elim
theorem Qn:∀{cs:List Value} {hs:List Hd} {xs:List (List α)},E0 QR w O cs hs→Lm q w O hs xs→E0 (BG q) w O cs xs
  |cs,[],[],h,_=>h
  |cs,h::hs,x::xs,⟨v1,v2,e1,e2,e3⟩,⟨h1,h2⟩=>⟨v1,v2,e1,⟨h.1,h.2.2,by rw [← h1.2];exact e2,h1.1⟩,Qn e3 h2⟩
  |_,[],_::_,_,h=>h.elim
  |_,_::_,[],_,h=>h.elim
theorem Lm.lens:∀{hs:List Hd} {xs:List (List α)},Lm q w O hs xs→hs.length=xs.length
  |[],[],_=>rfl
  |h::hs,x::xs,⟨_,h2⟩=>by simp [Lm.lens h2]
  |[],_::_,h=>h.elim
  |_::_,[],h=>h.elim
theorem Rows.pubs:∀{hs:List Hd} {R:Be} {xs:List (List α)},St z O0 w (bs++R)→Rows q e w (ks (bs++R) O0) hs R xs→St z O0 w bs∧AA (ks (bs++R) O0) w (ks bs O0) w∧Lm q w (ks bs O0) hs xs
  |[],[],[],h,_=>by rw [List.append_nil] at h ⊢;exact⟨h,AA.refl _ _,trivial⟩
  |hd::hs,p::R,x::xs,h,⟨h1,h2⟩=>by
    obtain⟨k1,k2,k3⟩:=Gs.publish (i:=bs.length) h (by rw [List.getElem?_append_right (Nat.le_refl _)];simp) h1.1
    have e1:(bs++p::R).eraseIdx bs.length=bs++R:=by rw [List.eraseIdx_append_of_length_le (Nat.le_refl _)];simp
    rw [e1] at k1 k2 k3
    obtain⟨j1,j2,j3⟩:=Rows.pubs k1 (h2.step k2)
    exact⟨j1,k2.trans j2,⟨k3.step j2,h1.2⟩,j3⟩
  |[],[],_::_,_,h=>h.elim
  |[],_::_,_,_,h=>h.elim
  |_::_,[],_,_,h=>h.elim
  |_::_,_::_,[],_,h=>h.elim
theorem Rows.publish {hds:List Hd} {xss:List (List α)} {j c:Nat} {kk:Option Nat} {o:Obj} {a:Option Addr} {e2:TypeId} (hs:St z O0 w (bs++R)) (fR:Rows q e w (ks (bs++R) O0) hds R xss) (hj:bs[j]?=some (kk,o)) (hG:Gs QR e2 w (ks (bs++R) O0) a c hds kk o):
    St z O0 w (bs.eraseIdx j)∧AA (ks (bs++R) O0) w (ks (bs.eraseIdx j) O0) w∧CA (BG q) w (ks (bs.eraseIdx j) O0) a c xss:=by
  obtain⟨h1,h2,h3⟩:=fR.pubs hs
  have hl:=h3.lens
  have hG2:Gs (BG q) e2 w (ks bs O0) a c xss kk o:=by
    rcases hG.step h2 with ⟨k1,k2,k3,k4⟩ |⟨bl,cur,k1,k2,k3,k4,k5,k6,k7⟩
    · subst k3
      have:xss=[]:=List.length_eq_zero_iff.1 hl.symm
      exact .inl ⟨k1,k2,this,k4⟩
    · refine .inr ⟨bl, cur, k1, k2, k3, k4, by omega, k6, ?_⟩
      rw [← hl];exact Qn k7 h3
  obtain⟨j1,j2,j3⟩:=Gs.publish (i:=j) h1 hj hG2
  exact⟨j1,h2.trans j2,j3⟩
section ops
variable {P : Program} {r : Option Nat} {ρ : EH} {d : Option Nat} {ty : TypeId} {pos : String} {aft : Array Edge} {g : Option (Nat × Bool)} {V : Value → World → Prop} {t : TypeId} {td : TypeDesc} {n b : Nat} {zs : List Value} {ag : Bool} {x y : Operand} {m : Int}
theorem Nb {hds:List Hd} {xss:List (List α)} {i bl:Nat} {hd:Hd} {v:Value} {vs:List Value} {yv:α} (T:Ty P t td n b zs ag) (hp:q.n=n) (hs:St z O0 w (bs++R)) (fR:Rows q e w (ks (bs++R) O0) hds R xss) (hi:i<xss.length) (hh:hds[i]?=some hd) (ha:hd.1=some ⟨bl,0,none⟩)
    (hx:ev ρ x=.pointer (some ⟨bl,m.toNat*n,none⟩)) (hy:ev ρ y=v) (hv:v.cells=vs.toArray) (h0:0≤m∧m<(xss.getD i default).length) (hr:q.rd w (ks (bs++R) O0) vs yv)
    (k:∀w' R',AA (ks (bs++R) O0) w (ks (bs++R') O0) w'→St z O0 w' (bs++R')→Rows q e w' (ks (bs++R') O0) hds R' (xss.set i ((xss.getD i default).set m.toNat yv))→V undef w'):
    BJ P r ρ w ⟨d,.store t x y,ty,pos,aft,g⟩ V:=by
  obtain⟨hd',p,h1,h2,h3,h4⟩:=fR.get i hi
  rw [hh] at h1
  cases h1
  have hgd:xss.getD i default=xss[i]:=by simp [List.getD_eq_getElem?_getD,List.getElem?_eq_getElem hi]
  rw [hgd] at h0
  have hpk:p.1=some bl:=by
    obtain⟨bl',e1,e2⟩:=h3.at_ (by omega)
    rw [ha] at e1;cases e1;exact e2
  obtain⟨pk,po⟩:=p
  simp only at hpk h3
  subst hpk
  refine FH T hp hs (So h2) hx hy hv h3 h0 hr fun w' o' h5 h6 h7=>?_
  rw [UM] at h5 h6 h7
  refine k w' _ h5 h6 ?_
  rw [hgd]
  exact(fR.step h5).turn i hh h7 (by rw [h4,List.length_set])
theorem Rows.at_ {hds:List Hd} {xss:List (List α)} (fR:Rows q e w O hds R xss) {i:Nat} (hi:i<xss.length):
    hds[i]?=some (hds.getD i default)∧(hds.getD i default).2.1=(xss.getD i default).length∧(0<(xss.getD i default).length→∃bl,(hds.getD i default).1=some ⟨bl,0,none⟩):=by
  obtain⟨hd,p,h1,h2,h3,h4⟩:=fR.get i hi
  have e1:hds.getD i default=hd:=by simp [List.getD_eq_getElem?_getD,h1]
  have e2:xss.getD i default=xss[i]:=by simp [List.getD_eq_getElem?_getD,List.getElem?_eq_getElem hi]
  rw [e1,e2]
  exact⟨h1,h4,fun h=>by obtain⟨bl,h5,_⟩:=h3.at_ h;exact⟨bl,h5⟩⟩
theorem R9 [Inhabited α] {hds:List Hd} {xss:List (List α)} {i bl:Nat} {OO:List Nat} (bs R:Be) (T:Ty P t td 1 b zs false) (hp:q.n=1) (hs:St z O0 w (bs++R)) (fR:Rows q e w OO hds R xss) (hi:i<xss.length) (ha:(hds.getD i default).1=some ⟨bl,0,none⟩)
    (hx:ev ρ x=.pointer (some ⟨bl,m.toNat*1,none⟩)) (h0:0≤m∧m<(xss.getD i default).length)
    (k:∀v,q.rd w OO [v] ((xss.getD i default).getD m.toNat default)→V v w):BJ P r ρ w ⟨d,.load t x,ty,pos,aft,g⟩ V:=by
  obtain⟨hd,p,h1,h2,h3,h4⟩:=fR.get i hi
  have e1:hds.getD i default=hd:=by simp [List.getD_eq_getElem?_getD,h1]
  have e2:xss.getD i default=xss[i]:=by simp [List.getD_eq_getElem?_getD,List.getElem?_eq_getElem hi]
  rw [e1] at ha
  rw [e2] at h0 k
  obtain⟨pk,po⟩:=p
  obtain⟨bl',e3,e4⟩:=h3.at_ (by omega)
  rw [ha] at e3
  cases e3
  simp only at e4
  subst e4
  exact F0 T hp hs (So h2) hx h3 h0 k
theorem KF {H:Hd} {row:List α} {bl:Nat} {dt:TypeDesc} {kd:IntKind} {bt b':Nat} {tz:List Value} {ta:Bool} (T:Ty P t (.slice e) 1 bt tz ta) (E:Ty P e dt n b' zs ag)
    (hx:ev ρ x=.slice H.1 H.2.1 H.2.2) (hy:ev ρ y=.int kd m) (hb:H.1=some ⟨bl,0,none⟩) (hl:H.2.1=row.length) (h0:0≤m∧m<row.length)
    (k:V (.pointer (some ⟨bl,m.toNat*n,none⟩)) w):BJ P r ρ w ⟨d,.indexAddr t x y,ty,pos,aft,g⟩ V:=by
  rw [hb,hl] at hx
  refine Hc T E hx hy h0.1 h0.2 ?_
  simpa using k
theorem Qo {γ:Type} {y:γ} :∀{R:List γ} {i:Nat},i<R.length→(R.set i y).Perm (y::R.eraseIdx i)
  |[],i,h=>by simp at h
  |a::R,0,h=>by simp
  |a::R,i+1,h=>by
    simp only [List.set_cons_succ,List.eraseIdx_cons_succ]
    exact((Qo (by simpa using h)).cons a).trans (List.Perm.swap _ _ _)
theorem St.intoR {p:Option Nat × Obj} {i j:Nat} (h:St z O0 w (bs++R)) (hj:bs[j]?=some p) (hi:i<R.length):
    St z O0 w (bs.eraseIdx j++R.set i p)∧AA (ks (bs++R) O0) w (ks (bs.eraseIdx j++R.set i p) O0) w:=by
  have hlt:j<bs.length:=(List.getElem?_eq_some_iff.1 hj).1
  have h1:=h.drop (bs.length+i)
  have s1:=h.dropS (bs.length+i)
  have e1:(bs++R).eraseIdx (bs.length+i)=bs++R.eraseIdx i:=by
    rw [List.eraseIdx_append_of_length_le (by omega),show bs.length+i - bs.length=i by omega]
  rw [e1] at h1 s1
  have hp:(bs.eraseIdx j++R.set i p).Perm (bs++R.eraseIdx i):=by
    refine((Qo hi).append_left _).trans ?_
    refine List.perm_middle.trans ?_
    have:=L0 bs j p hj
    exact(this.append_right (R.eraseIdx i))
  obtain⟨h2,s2⟩:=h1.perm hp
  exact⟨h2,s1.trans s2⟩
end ops
section dw
abbrev Vn {α:Type} (O0:List Nat) (bs:Be) (tag:Nat) (q:Rp α) (e:TypeId) (x:List α):VR Nx:=fun v w nx=>
  ∃a c kk o,v=.slice a x.length c∧(∀b,kk=some b→(tag,b,o)∈nx)∧Gs q e w (ks (DS nx++bs) O0) a c x kk o
theorem Vn.stab {α:Type} {w0:Zx} {tag:Nat} {q:Rp α} {e:TypeId} {x:List α} :Iq (TS w0 O0 bs) (Vn O0 bs tag q e x):=fun _ _ _ _ _ ⟨⟨l,h1⟩,h2,_⟩ ⟨a,c,kk,o,g1,g2,g3⟩=>
  ⟨a,c,kk,o,g1,fun b hb=>h1 ▸ List.mem_append_right _ (g2 b hb),g3.step h2⟩
theorem GoesG.call {α:Type} {w0:Zx} {nx:Nx} {tag:Nat} {q:Rp α} {e:TypeId} {x:List α} {a:Option Addr} {c k:Nat} {kk:Option Nat} {o:Obj} (hi:St w0 O0 w (DS nx++bs)) (hx:GU w w') (hk:∀b,kk=some b→w.heap.size≤b∧w'.heap[b]?=some o)
    (f:Gs q e w' (kk.toList++ks (DS nx++bs) O0) a c x kk o):Bs (TS w0 O0 bs) w nx (Vn O0 bs tag q e x) k (.slice a x.length c) w':=by
  obtain⟨h1,h2⟩:=hi.callG hx hk
  cases kk with
  |none=>exact⟨nx,hi.call hx,⟨⟨[],rfl⟩,AA.ext hx,hx⟩,⟨a,c,none,o,rfl,(fun _ h=>by cases h),f⟩,fun _ h=>by cases h⟩
  |some b=>exact⟨(tag,b,o)::nx,h1,⟨⟨[_],rfl⟩,h2,hx⟩,⟨a,c,some b,o,rfl,(fun j hj=>by cases hj;exact List.mem_cons_self),f⟩,fun _ h=>by cases h⟩
theorem GoesG.new {α:Type} {w0:Zx} {nx:Nx} {tag:Nat} {q:Rp α} {e:TypeId} {x:List α} {b c k:Nat} {o:Obj} (hx:GU w w') (p:AA (ks (DS nx++bs) O0) w (ks ((some b,o)::(DS nx++bs)) O0) w') (h:St w0 O0 w' ((some b,o)::(DS nx++bs)))
    (f:Gs q e w' (ks ((some b,o)::(DS nx++bs)) O0) (some ⟨b,0,none⟩) c x (some b) o):Bs (TS w0 O0 bs) w nx (Vn O0 bs tag q e x) k (.slice (some ⟨b,0,none⟩) x.length c) w':=
  ⟨(tag,b,o)::nx,h,⟨⟨[_],rfl⟩,p,hx⟩,⟨_,c,some b,o,rfl,(fun j hj=>by cases hj;exact List.mem_cons_self),f⟩,fun _ h=>by cases h⟩
abbrev Xa {α:Type} (O0:List Nat) (bs:Be) (tag tag2:Nat) (q:Rp α) (e e2:TypeId) (x:List α):VR Nx:=fun v w nx=>
  ∃b a c kk o,v=.slice (some ⟨b,0,none⟩) 1 1∧(tag2,b,.cells #[Value.slice a x.length c] e2)∈nx∧(∀b,kk=some b→(tag,b,o)∈nx)∧Gs q e w (ks (DS nx++bs) O0) a c x kk o
theorem Xa.stab {α:Type} {w0:Zx} {tag tag2:Nat} {q:Rp α} {e e2:TypeId} {x:List α} :Iq (TS w0 O0 bs) (Xa O0 bs tag tag2 q e e2 x):=fun _ _ _ _ _ ⟨⟨l,h1⟩,h2,_⟩ ⟨b,a,c,kk,o,g1,g0,g2,g3⟩=>
  ⟨b,a,c,kk,o,g1,h1 ▸ List.mem_append_right _ g0,fun b hb=>h1 ▸ List.mem_append_right _ (g2 b hb),g3.step h2⟩
theorem GoesG.hd {α:Type} {w0:Zx} {nx:Nx} {tag tag2:Nat} {q:Rp α} {e e2:TypeId} {x:List α} {a:Option Addr} {b c k:Nat} {kk:Option Nat} {o:Obj} (hx:GU w w') (p:AA (ks (DS nx++bs) O0) w (ks ((some b,.cells #[Value.slice a x.length c] e2)::(DS nx++bs)) O0) w') (h:St w0 O0 w' ((some b,.cells #[Value.slice a x.length c] e2)::(DS nx++bs)))
    (hk:∀b,kk=some b→(tag,b,o)∈nx) (f:Gs q e w (ks (DS nx++bs) O0) a c x kk o):Bs (TS w0 O0 bs) w nx (Xa O0 bs tag tag2 q e e2 x) k (.slice (some ⟨b,0,none⟩) 1 1) w':=
  ⟨(tag2,b,_)::nx,h,⟨⟨[_],rfl⟩,p,hx⟩,⟨b,a,c,kk,o,rfl,List.mem_cons_self,(fun j hj=>List.mem_cons_of_mem _ (hk j hj)),f.step p⟩,fun _ h=>by cases h⟩
theorem AA.nxK1 {w0:Zx} {nx:Nx} {tag:Nat} {kk:Option Nat} {o:Obj} (hi:St w0 O0 w (DS nx++bs)) (hk:∀b,kk=some b→(tag,b,o)∈nx):St w0 O0 w ((kk,o)::bs)∧AA (ks (DS nx++bs) O0) w (ks ((kk,o)::bs) O0) w:=by
  cases kk with
  |none=>obtain⟨h1,h2⟩:=AA.nx hi;exact⟨h1.ghost o,h2⟩
  |some b=>exact AA.nx1 hi (hk b rfl)
theorem AA.nxK2 {w0:Zx} {nx:Nx} {tag tag2 b:Nat} {kk:Option Nat} {o o2:Obj} (hi:St w0 O0 w (DS nx++bs)) (h2:(tag2,b,o2)∈nx) (hk:∀b,kk=some b→(tag,b,o)∈nx) (ht:tag2≠tag):St w0 O0 w ((some b,o2)::(kk,o)::bs)∧AA (ks (DS nx++bs) O0) w (ks ((some b,o2)::(kk,o)::bs) O0) w:=by
  cases kk with
  |none=>
    obtain⟨h1,h3⟩:=AA.nx1 hi h2
    obtain⟨h4,h5⟩:=(h1.ghost o).perm (bs':=(some b,o2)::(none,o)::bs) (List.Perm.swap _ _ _)
    exact⟨h4,h3.trans h5⟩
  |some j=>exact AA.nx2 hi h2 (hk j rfl) ht
end dw
end
end Go.Fx
set_option linter.unusedSimpArgs false
set_option linter.unusedVariables false
namespace Go.Fx
open Go Go.RowKit
section
variable {w w' w'' : World} {w0 : Zx} {O0 : List Nat} {bs : Be} {eat : Nat → Nat} {g : Gx} {v : Value} {k : Nat}
def XN (eat:Nat→Nat) (tag:Nat) (o:Obj):VR Gx:=fun v _ g=>eat tag∈g.2∨∃b,v=.pointer (some ⟨b,0,none⟩)∧(tag,some b,o)∈g.1
theorem XN.stab (tag:Nat) (o:Obj):Iq (TX w0 O0 bs eat) (XN eat tag o):=by
  rintro v w g w' g' ⟨⟨h1,h2⟩,h3,_⟩ (hv |⟨b,e1,e2⟩)
  · exact .inl (h2 _ hv)
  · rcases h1 _ e2 with h | h
    · exact .inr ⟨b,e1,h⟩
    · exact .inl h
theorem GoesX.new {b tag:Nat} {o:Obj} (hi2:∀k∈g.2,k<1000) (p:AA (ks (Gu g++bs) O0) w' (ks ((some b,o)::(Gu g++bs)) O0) w'') (hs:St w0 O0 w'' ((some b,o)::(Gu g++bs))):
    Bs (TX w0 O0 bs eat) w' g (XN eat tag o) k (.pointer (some ⟨b,0,none⟩)) w'':=
  ⟨((tag,some b,o)::g.1,g.2),⟨hs,hi2⟩,⟨⟨fun _ h=>.inl (List.mem_cons_of_mem _ h),fun _ h=>h⟩,p,trivial⟩,.inr ⟨b,rfl,List.mem_cons_self⟩,fun _ h=>.inl h⟩
end
end Go.Fx
set_option linter.unusedSimpArgs false
set_option linter.unusedVariables false
set_option linter.unusedSectionVars false
namespace Go.Fx
open Go Go.RowKit
section call
variable {P : Program} {ρ : EH} {w : World} {z : Zx} {O : List Nat} {bs : Be} {γ : Type} {J Jx : JP γ} {L pre : List γ}
end call
end Go.Fx
set_option linter.unusedSimpArgs false
set_option linter.unusedVariables false
set_option linter.unusedSectionVars false
namespace Go.Fx
open Go Go.RowKit
theorem GS.out {n:Nat} {ρ:EH} {a:Act} (h:GS n ρ a) {t:Nat} (ht:n≤t):ρ t=undef:=by
  rw [← h.get t,Array.getD_eq_getD_getElem?,Array.getElem?_eq_none (by rw [h.size];exact ht)];rfl
def Jr (n:Nat):Nat→List Oper→List Oper
  |_,[] =>[]
  |i,o::l=>{o with dst:=some (o.dst.getD (n+i))}::Jr n (i+1) l
theorem Hv (n:Nat):∀(i:Nat) (l:List Oper),(Jr n i l).length=l.length
  |_,[] =>rfl
  |i,o::l=>by simp [Jr,Hv n (i+1) l]
theorem M9 (n:Nat):∀(i:Nat) (l:List Oper) (j:Nat),(Jr n i l)[j]?=l[j]?.map fun o=>{o with dst:=some (o.dst.getD (n+(i+j)))}
  |_,[],j=>by simp [Jr]
  |i,o::l,0=>by simp [Jr]
  |i,o::l,j+1=>by
    simp only [Jr,List.getElem?_cons_succ,M9 n (i+1) l j]
    rw [show i+1+j=i+(j+1) by omega]
def P8 (ops:List Oper) (i:Nat):Bool:=match ops[i]? with
  |some ⟨none,.store _ _ _,_,_,_,none⟩=>true
  |_=>false
structure LX (n:Nat) (ops:List Oper) (m:Nat):Prop where
  dst:∀j<m,(CR ops j).all (·<n)=true∧∀i<j,CR ops i=none∨CR ops i≠CR ops j
  st:∀j<m,(CR ops j).isSome=true∨P8 ops j=true
  up:∀j<ops.length,∀i∈C0 ops j,i<j
  look:∀j<m,∀t∈Hg ops j,∀i<m,CR ops i=some t→i∈C0 ops j
  look2:∀j<m,∀t∈Hg ops j,t<n
  tail:∀k<ops.length,m≤k→(∀i<m,i∈VS ops k)∧(m<k→k - 1∈C0 ops k)
  sel:Region.noSelect ops.toArray=true
  le:m≤ops.length
def P9 (n:Nat) (ops:List Oper) (m:Nat):Bool:=
  GH m (fun j=>(CR ops j).all (·<n)&&GH j fun i=>CR ops i == none||CR ops i !=CR ops j)&&
  (GH m (fun j=>(CR ops j).isSome||P8 ops j)&&
  (GH ops.length (fun j=>(C0 ops j).all (·<j))&&
  (GH m (fun j=>(Hg ops j).all fun t=>GH m fun i=>CR ops i !=some t||(C0 ops j).contains i)&&
  (GH m (fun j=>(Hg ops j).all (·<n))&&
  (GH ops.length (fun k=>k<m||(GH m (fun i=>(VS ops k).contains i)&&(k≤m||(C0 ops k).contains (k - 1))))&&
  (Region.noSelect ops.toArray&&m≤ops.length))))))
theorem LX.of {n:Nat} {ops:List Oper} {m:Nat} (h:P9 n ops m=true):LX n ops m:=by
  simp only [P9,Bool.and_eq_true] at h
  obtain⟨h1,h8,h2,h3,h9,h4,h6,h7⟩:=h
  refine⟨fun j hj=>?_,fun j hj=>?_,fun j hj i hi=>?_,fun j hj t ht i hi hd=>?_,fun j hj t ht=>?_,fun k hk hm=>?_,h6,by simpa using h7⟩
  · have := C1 h1 j hj
    simp only [Bool.and_eq_true] at this
    exact⟨this.1,fun i hi=>by simpa using C1 this.2 i hi⟩
  · simpa using C1 h8 j hj
  · have := List.all_eq_true.1 (C1 h2 j hj) i hi
    simpa using this
  · have := C1 (List.all_eq_true.1 (C1 h3 j hj) t ht) i hi
    simp only [Bool.or_eq_true,bne_iff_ne,ne_eq,List.contains_eq_mem,decide_eq_true_eq] at this
    exact this.resolve_left (fun h=>h hd)
  · simpa using List.all_eq_true.1 (C1 h9 j hj) t ht
  · have := C1 h4 k hk
    simp only [Bool.or_eq_true,decide_eq_true_eq,Bool.and_eq_true,List.contains_eq_mem] at this
    rcases this with h |⟨h,h'⟩
    · omega
    · refine ⟨fun i hi => ?_, fun hmk => h'.resolve_left (by omega)⟩
      have:=C1 h i hi
      simpa using this
theorem SM {P:Program} {r:Option Nat} {ρ:EH} {w:World} {o:Oper} {ops:List Oper} {i:Nat} {V:Value→World→Prop} (hi:ops[i]?=some o) (ho:P8 ops i=true) (h:BJ P r ρ w o V):BJ P r ρ w o fun v w'=>v=undef∧V v w':=by
  unfold P8 at ho
  rw [hi] at ho
  clear hi
  obtain⟨dst,op,ty,pos,aft,g⟩:=o
  cases dst<;> cases op<;> cases g<;> simp at ho
  case none.store t x y=>
    unfold BJ at h ⊢
    rw [Oper.semAt_eq _ _ _ (by simp)] at h ⊢
    simp only [execOp,Sem.run_bind] at h ⊢
    cases hr:(Instr.storeAt t (ev ρ x) (ev ρ y)).run P w with
    |halt e w'=>simp [hr,Result.andThen] at h
    |ok u w'=>simp only [hr,Result.andThen_ok,Sem.run_pure] at h ⊢;exact⟨trivial,h⟩
section
variable {Γ : Type} {P : Program} {r : Option Nat} {n m : Nat} {l : List Oper} {Q : I5}
theorem OR (D:LX n l m) {Q':Exit→Act→World→Prop} :∀(fuel k:Nat) (listed:Array Bool) (a:Act) (w:World),m≤k→k≤l.length→QN listed l.length≤fuel→listed.size=l.length→
    (∀i,i<l.length→listed.getD i true=decide (i<k))→wpListIn (FW r) 0 P l.toArray Q' (l.drop k) a w→wpAnyIn (FW r) 0 P .any l.toArray Q' fuel listed a w:=by
  intro fuel
  induction fuel with
  |zero=>
    intro k listed a w hmk hkl hc hsz hL h
    have hz:=Ir (Nat.le_zero.1 hc)
    have hrd:Region.ready .any l.toArray listed=[]:=by
      rw [List.eq_nil_iff_forall_not_mem]
      intro i hi
      obtain⟨h1,o,ho,_⟩:=mem_ready.1 hi
      have hil:i<l.length:=by simpa using (Array.getElem?_eq_some_iff.1 ho).1
      rw [hz i hil] at h1
      cases h1
    have hk:l.length≤k:=by
      rcases Nat.lt_or_ge k l.length with hlt |hge
      · have:=hz k hlt;rw [hL k hlt] at this;simp at this
      · exact hge
    rw [List.drop_of_length_le hk] at h
    exact⟨hrd,h⟩
  |succ fuel ih=>
    intro k listed a w hmk hkle hc hsz hL h
    rcases Nat.eq_or_lt_of_le hkle with hkl |hkl
    · have hrd:Region.ready .any l.toArray listed=[]:=by
        rw [List.eq_nil_iff_forall_not_mem]
        intro i hi
        obtain⟨h1,o,ho,_⟩:=mem_ready.1 hi
        have hil:i<l.length:=by simpa using (Array.getElem?_eq_some_iff.1 ho).1
        rw [hL i hil] at h1
        simp at h1;omega
      rw [List.drop_of_length_le (by omega)] at h
      exact wpAnyIn_done hrd h _
    have hgD:∀i,i<l.length→listed.getD i false=listed.getD i true:=fun i hi=>by simp [Array.getD_eq_getD_getElem?,Array.getElem?_eq_getElem (show i<listed.size by omega)]
    -- what may come up is k alone
    have hrd:∀i∈Region.ready .any l.toArray listed,i=k:=by
      intro i hi
      obtain⟨h1,o,ho,hdep⟩:=mem_ready.1 hi
      have hil:i<l.length:=by simpa using (Array.getElem?_eq_some_iff.1 ho).1
      rw [hL i hil] at h1
      have hik:k≤i:=by simpa using h1
      rcases Nat.eq_or_lt_of_le hik with e |hlt
      · exact e.symm
      · exfalso
        have hm':=(D.tail i hil (by omega)).2 (by omega)
        rw [Ei (by simpa using ho)] at hm'
        obtain⟨e,he,hb,hon⟩:=hm'
        have:=hdep e he hb
        rw [hon,hgD _ (by omega),hL _ (by omega)] at this
        simp at this;omega
    have hk1:k∈Region.ready .any l.toArray listed:=by
      refine mem_ready.2 ⟨by rw [hL k hkl];simp,l[k],by simp [hkl],fun e he hb=>?_⟩
      have:=D.up k hkl e.on ((Ei (List.getElem?_eq_getElem hkl)).2 ⟨e,he,hb,rfl⟩)
      rw [hgD _ (by omega),hL _ (by omega)];simpa using this
    refine⟨fun h0=>absurd hk1 (by rw [h0];simp),fun i hi=>?_⟩
    have:=hrd i hi
    subst this
    rw [List.drop_eq_getElem_cons hkl] at h
    have h':=h
    unfold wpOpIn
    simp only [List.getElem?_toArray,List.getElem?_eq_getElem hkl]
    simp only [wpListIn] at h'
    have hL':∀j,j<l.length→(listed.setIfInBounds i true).getD j true=decide (j<i+1):=by
      intro j hj
      by_cases hji:j=i
      · subst hji;simp [Array.getD_eq_getD_getElem?,hsz,hkl]
      · have := hL j hj
        simp only [Array.getD_eq_getD_getElem?,Array.getElem?_setIfInBounds,Ne.symm hji,if_false] at this ⊢
        rw [this];simp;omega
    have step:∀a' w',wpListIn (FW r) 0 P l.toArray Q' (l.drop (i+1)) a' w'→wpAnyIn (FW r) 0 P .any l.toArray Q' fuel (listed.setIfInBounds i true) a' w':=
      fun a' w' hh=>ih (i+1) _ a' w' (by omega) (by omega) (by
        have:=Jn (L:=listed) (i:=i) (by omega) (by rw [hL i hkl];simp) l.length
        rw [if_pos hkl] at this;omega) (by simpa using hsz) hL' hh
    split
    · rename_i hw
      rw [if_pos hw] at h'
      exact Oper.wpIn_mono step h'
    · rename_i hw
      rw [if_neg hw] at h'
      exact⟨h'.1,step _ _ h'.2⟩

theorem T8 {T:OD Γ} {g0:Γ} {id:Nat} {ρ:EH} {w:World} (hinv:T.inv w g0) (hg0:T.dn g0=[]) (hm:P.follows .mixedOrders=true) (hB:P9 n l m=true)
    (h:Dw P r T l ρ w g0 (fun G=>K7 T ρ w g0 (fun ρ' w' _=>Rg P r n l (l.drop m) Q ρ' w') G.reverse) (Jr n 0 (l.take m)) []):Wp P r n (.region id l.toArray true) Q ρ w:=by
  have D:=LX.of hB
  obtain⟨Vs,hVl,hV,hfin⟩:=Dw.facts _ _ h
  simp only [List.nil_append,List.length_nil,Nat.zero_add,Hv,List.length_take,Nat.min_eq_left D.le] at hVl hV hfin
  unfold Wp
  intro a ha
  apply wpIn_region_any hm
  -- the slots and what is known of them
  have hget:∀i o,i<m→l[i]?=some o→(Jr n 0 (l.take m))[i]?=some {o with dst:=some (o.dst.getD (n+i))}:=fun i o hi ho=>by
    rw [M9,List.getElem?_take,if_pos hi,ho];simp
  have hdst:∀i,i<m→∃o,l[i]?=some o∧∀d,o.dst=some d→d<n:=fun i hi=>by
    have h1:=(D.dst i hi).1
    have hl:i<l.length:=by have:=D.le;omega
    refine⟨l[i],List.getElem?_eq_getElem hl,fun d hd=>?_⟩
    have h2:=h1
    unfold CR at h2
    rw [List.getElem?_eq_getElem hl] at h2
    simpa [hd] using h2
  have hVget:∀i,i<m→∃V,Vs[i]?=some V:=fun i hi=>⟨_,List.getElem?_eq_getElem (by omega)⟩
  let G:List (Nat × VR Γ):=((Jr n 0 (l.take m)).map fun o=>(o.dst).getD 0).zip Vs
  have hGget:∀i o V,i<m→l[i]?=some o→Vs[i]?=some V→G[i]?=some (o.dst.getD (n+i),V):=fun i o V hi ho hV=>by
    simp only [G,List.getElem?_zip_eq_some,List.getElem?_map,hget i o hi ho,Option.map_some,Option.getD_some,hV,and_self]
  have hGlen:G.length=m:=by simp [G,hVl,Hv,Nat.min_eq_left D.le]
  have hGinv:∀i p,G[i]?=some p→i<m∧∃o,l[i]?=some o∧p.1=o.dst.getD (n+i)∧Vs[i]?=some p.2:=fun i p hp=>by
    have him:i<m:=by rw [← hGlen];exact(List.getElem?_eq_some_iff.1 hp).1
    obtain⟨o,ho,_⟩:=hdst i him
    obtain⟨V,hV'⟩:=hVget i him
    rw [hGget i o V him ho hV'] at hp
    cases hp
    exact⟨him,o,ho,rfl,hV'⟩
  have hkeys:∀i j oi oj,i<j→j<m→l[i]?=some oi→l[j]?=some oj→oi.dst.getD (n+i)≠oj.dst.getD (n+j):=fun i j oi oj hij hj hoi hoj=>by
    have h1:=(D.dst j hj).2 i hij
    obtain⟨o1,e1,b1⟩:=hdst i (by omega)
    obtain⟨o2,e2,b2⟩:=hdst j hj
    rw [hoi] at e1;cases e1
    rw [hoj] at e2;cases e2
    simp only [CR,hoi,hoj,Option.bind_some] at h1
    cases h3:oi.dst with
    |none=>cases h4:oj.dst with
      |none=>intro e;simp at e;omega
      |some d=>have:=b2 d h4;intro e;have e':n+i=d:=e;exact absurd (Nat.lt_of_le_of_lt (Nat.le_of_eq e') this) (by omega)
    |some d=>cases h4:oj.dst with
      |none=>have:=b1 d h3;intro e;have e':n+j=d:=e.symm;exact absurd (Nat.lt_of_le_of_lt (Nat.le_of_eq e') this) (by omega)
      |some d'=>rw [h3,h4] at h1;simpa using h1
  have hnodup:(G.map Prod.fst).Nodup:=by
    rw [List.nodup_iff_pairwise_ne,List.pairwise_iff_getElem]
    intro i j hi hj hij e
    simp only [List.length_map] at hi hj
    obtain⟨h1,o1,a1,a2,_⟩:=hGinv i G[i] (List.getElem?_eq_getElem hi)
    obtain⟨h2,o2,b1,b2,_⟩:=hGinv j G[j] (List.getElem?_eq_getElem hj)
    simp only [List.getElem_map] at e
    rw [a2,b2] at e
    exact hkeys i j o1 o2 hij h2 a1 b1 e
  have hnodup':(G.reverse.map Prod.fst).Nodup:=by rw [List.map_reverse];exact(List.reverse_perm _).nodup_iff.2 hnodup
  -- the walk
  have key:∀(fuel:Nat) (listed:Array Bool) (a:Act) (ρ':EH) (w':World) (g:Γ),listed.size=l.length→QN listed l.length≤fuel→
      GS n ρ' a→ρ'.ds=ρ.ds→T.le w g0 w' g→T.inv w' g→
      (∀i,m≤i→i<l.length→listed.getD i true=false)→
      (∀i,i<m→listed.getD i true=true→∀o V,l[i]?=some o→Vs[i]?=some V→V (ρ' (o.dst.getD (n+i))) w' g)→
      (∀t,(∀i,i<m→listed.getD i true=true→CR l i≠some t)→ρ' t=ρ t)→
      (∀i,i<l.length→listed.getD i true=true→∀j∈C0 l i,listed.getD j true=true)→(∀i,i<l.length→i∈T.dn g→listed.getD i true=true)→
      wpAnyIn (FW r) 0 P .any l.toArray (LN n Q) fuel listed a w':=by
    intro fuel
    induction fuel with
    |zero=>
      intro listed a ρ' w' g hsz hc ha hds hx hgi htail hfact hframe hdc hdone
      have hz:=Ir (Nat.le_zero.1 hc)
      have hml:m=l.length:=by
        rcases Nat.eq_or_lt_of_le D.le with h |h
        · exact h
        · have h1:=htail m (Nat.le_refl _) h;rw [hz m h] at h1;cases h1
      have hK:=hfin w' g hx hgi
      have hR:=PX.apply G.reverse ρ ρ' hK hnodup' (fun p hp=>by
          obtain⟨i,hi⟩:=List.mem_iff_getElem?.1 (List.mem_reverse.1 hp)
          obtain⟨him,o,ho,hd,hV'⟩:=hGinv i p hi
          rw [hd];exact hfact i him (hz i (by omega)) o _ ho hV') (fun t ht=>hframe t fun i him _ e=>by
          obtain⟨o,ho,_⟩:=hdst i him
          obtain⟨V,hV'⟩:=hVget i him
          have:o.dst=some t:=by simpa [CR,ho] using e
          exact ht (List.mem_map.2 ⟨(o.dst.getD (n+i),V),List.mem_reverse.2 (List.mem_of_getElem? (hGget i o V him ho hV')),by rw [this];rfl⟩)) hds
      unfold Rg at hR
      exact OR D 0 m listed a w' (Nat.le_refl _) D.le hc hsz (fun i hi=>by rw [hz i hi];simp;omega) (hR a ha)
    |succ fuel ih=>
      intro listed a ρ' w' g hsz hc ha hds hx hgi htail hfact hframe hdc hdone
      by_cases hall:∀i,i<m→listed.getD i true=true
      · have hK := hfin w' g hx hgi
        have hR:=PX.apply G.reverse ρ ρ' hK hnodup' (fun p hp=>by
            obtain⟨i,hi⟩:=List.mem_iff_getElem?.1 (List.mem_reverse.1 hp)
            obtain⟨him,o,ho,hd,hV'⟩:=hGinv i p hi
            rw [hd];exact hfact i him (hall i him) o _ ho hV') (fun t ht=>hframe t fun i him _ e=>by
            obtain⟨o,ho,_⟩:=hdst i him
            obtain⟨V,hV'⟩:=hVget i him
            have:o.dst=some t:=by simpa [CR,ho] using e
            exact ht (List.mem_map.2 ⟨(o.dst.getD (n+i),V),List.mem_reverse.2 (List.mem_of_getElem? (hGget i o V him ho hV')),by rw [this];rfl⟩)) hds
        unfold Rg at hR
        refine OR D _ m listed a w' (Nat.le_refl _) D.le hc hsz (fun i hi=>?_) (hR a ha)
        by_cases him:i<m
        · rw [hall i him];simp [him]
        · rw [htail i (by omega) hi];simp [him]
      · -- one of the first has not come up
        have hgD:∀i,i<l.length→∀b,listed.getD i b=listed.getD i true:=fun i hi b=>LQ (by omega) b
        have hready:∀i,i<l.length→listed.getD i true=false→(∀j∈C0 l i,listed.getD j true=true)→i∈Region.ready .any l.toArray listed:=fun i hi hu hd=>by
          refine mem_ready.2 ⟨hu,l[i],by simp [hi],fun e he hb=>?_⟩
          have hj:=(Ei (List.getElem?_eq_getElem hi)).2 ⟨e,he,hb,rfl⟩
          rw [hgD _ (by have:=D.up i hi e.on hj;omega)]
          exact hd _ hj
        have hready':∀i∈Region.ready .any l.toArray listed,i<l.length∧listed.getD i true=false∧∀j∈C0 l i,listed.getD j true=true:=fun i hi=>by
          obtain⟨h1,o,ho,hdep⟩:=mem_ready.1 hi
          have hil:i<l.length:=by simpa using (Array.getElem?_eq_some_iff.1 ho).1
          refine⟨hil,h1,fun j hj=>?_⟩
          have hj':=hj
          rw [Ei (by simpa using ho)] at hj
          obtain⟨e,he,hb,rfl⟩:=hj
          rw [← hgD _ (by have:=D.up i hil e.on hj';omega) false]
          exact hdep e he hb
        -- what stands behind one of the first
        have next:∀i o V v w'' g'',i<m→i∈Region.ready .any l.toArray listed→l[i]?=some o→Vs[i]?=some V→T.inv w'' g''→T.le w' g w'' g''→V v w'' g''→(o.dst=none→v=undef)→(∀k∈T.dn g'',k∈T.dn g∨k=i)→
            wpAnyIn (FW r) 0 P .any l.toArray (LN n Q) fuel (listed.setIfInBounds i true) (a.put o.dst v) w'':=by
          intro i o V v w'' g'' him hi ho hVi hi'' hx' hv hvu hdo
          obtain⟨hil,hu,hdep⟩:=hready' i hi
          have his:i<listed.size:=by omega
          obtain⟨o',ho',hdn⟩:=hdst i him
          rw [ho] at ho';cases ho'
          have hput:=ha.put (d:=o.dst) (by cases hd:o.dst with |none=>rfl |some d=>simpa [hd] using hdn d hd) v
          have hsame:∀t,t≠o.dst.getD (n+i)→JC ρ' o.dst v t=ρ' t:=fun t ht=>by
            cases hd:o.dst with
            |none=>rfl
            |some d=>rw [hd] at ht;exact Ht _ _ _ (by simpa using ht)
          have hown:JC ρ' o.dst v (o.dst.getD (n+i))=v:=by
            cases hd:o.dst with
            |none=>rw [hvu hd];exact ha.out (by simp)
            |some d=>exact Ky _ _ _
          refine ih _ _ _ _ g'' (by simpa using hsz) ?_ hput (by cases hd:o.dst<;> simpa [JC,Lu] using hds) (T.trans hx hx') hi'' (fun j hj hjl=>?_) (fun j hjm hjL o2 V2 ho2 hV2=>?_) (fun t ht=>?_) (fun j hjl hjL k hk=>?_) (fun k hkl hk=>?_)
          · have := Jn his hu l.length
            rw [if_pos hil] at this;omega
          · rw [Ec his,if_neg (by omega)];exact htail j hj hjl
          · rw [Ec his] at hjL
            by_cases hji:j=i
            · subst hji
              rw [ho] at ho2;cases ho2
              rw [hVi] at hV2;cases hV2
              rw [hown];exact hv
            · rw [if_neg hji] at hjL
              have hne:o2.dst.getD (n+j)≠o.dst.getD (n+i):=by
                rcases Nat.lt_or_ge j i with hlt |hge
                · exact hkeys j i o2 o hlt him ho2 ho
                · exact(hkeys i j o o2 (by omega) hjm ho ho2).symm
              rw [hsame _ hne]
              exact(hV j _ V2 (hget j o2 hjm ho2) hV2).1 _ _ _ _ _ hx' (hfact j hjm hjL o2 V2 ho2 hV2)
          · by_cases htd : o.dst = some t
            · exact absurd (by simp [CR,ho,htd]) (ht i him (by rw [Ec his,if_pos rfl]))
            · have hst:JC ρ' o.dst v t=ρ' t:=by
                cases hd:o.dst with
                |none=>rfl
                |some d=>rw [hd] at htd;exact Ht _ _ _ (fun e=>htd (by rw [e]))
              rw [hst]
              exact hframe t fun j hjm hjL=>ht j hjm (by
                rw [Ec his]
                split
                · rfl
                · exact hjL)
          · have hkl:listed.getD k true=true:=by
              rw [Ec his] at hjL
              split at hjL
              · rename_i e;subst e;exact hdep k hk
              · exact hdc j hjl hjL k hk
            rw [Ec his];split
            · rfl
            · exact hkl
          · rw [Ec his]
            rcases hdo k hk with h |h
            · split
              · rfl
              · exact hdone k hkl h
            · rw [if_pos h]
        -- what operation i finds
        have holds:∀i o,i<m→i∈Region.ready .any l.toArray listed→l[i]?=some o→∀t,(o.looksAt l.toArray).contains t=true→Gj (G.take i) ρ ρ' w' g t:=by
          intro i o him hi ho t ht
          obtain⟨hil,hu,hdep⟩:=hready' i hi
          have htl:t∈Hg l i:=by simp only [Hg,ho];simpa using ht
          unfold Gj
          cases hlk:look (G.take i) t with
          |some V=>
            obtain⟨j,hj⟩:=List.mem_iff_getElem?.1 (M1 hlk)
            rw [List.getElem?_take] at hj
            split at hj
            · rename_i hji
              obtain⟨hjm,o2,ho2,hd2,hV2⟩:=hGinv j _ hj
              simp only at hd2
              have htn:=D.look2 i him t htl
              have hd3:o2.dst=some t:=by
                cases hd:o2.dst with
                | none => have h8 : t = n + j := by rw [hd] at hd2; exact hd2
                          exact absurd (Nat.lt_of_le_of_lt (Nat.le_of_eq h8.symm) htn) (by omega)
                | some d => have h8 : t = d := by rw [hd] at hd2; exact hd2
                            rw [h8]
              have:=D.look i him t htl j hjm (by simp [CR,ho2,hd3])
              have:=hfact j hjm (hdep j this) o2 V ho2 hV2
              rwa [hd3] at this
            · cases hj
          |none=>
            refine hframe t fun j hjm hjL e=>?_
            have hji:=D.up i hil j (D.look i him t htl j hjm e)
            obtain⟨o2,ho2,_⟩:=hdst j hjm
            obtain⟨V2,hV2⟩:=hVget j hjm
            have hd3:o2.dst=some t:=by simpa [CR,ho2] using e
            exact M2 hlk (List.mem_map.2 ⟨(o2.dst.getD (n+j),V2),List.mem_of_getElem? (i:=j) (by rw [List.getElem?_take,if_pos hji];exact hGget j o2 V2 hjm ho2 hV2),by rw [hd3];rfl⟩)
        have hmain:∀i∈Region.ready .any l.toArray listed,i<m:=by
            intro i hi
            obtain⟨hil,hu,hdep⟩:=hready' i hi
            rcases Nat.lt_or_ge i m with h |hmi
            · exact h
            · exfalso
              have hclo:=Lv (L:=fun j=>listed.getD j true=true) (fun j hj k hk=>by
                rcases Nat.lt_or_ge j l.length with hjl |hjl
                · exact hdc j hjl hj k hk
                · simp [C0,List.getElem?_eq_none hjl] at hk) i hdep
              exact hall fun j hj=>hclo j ((D.tail i hil hmi).1 j hj)
        refine⟨fun h0=>?_,fun i hi=>?_⟩
        · -- the first that has not come up may come up
            exfalso
            apply hall
            intro i
            induction i using Nat.strongRecOn with
            |_ i ihi=>
              intro him
              cases hL:listed.getD i true with
              |true=>rfl
              |false=>
                have hil:i<l.length:=by have:=D.le;omega
                have:=hready i hil hL fun j hj=>ihi j (D.up i hil j hj) (by have:=D.up i hil j hj;omega)
                rw [h0] at this;cases this
        · have him := hmain i hi
          obtain⟨o,ho,hdn⟩:=hdst i him
          obtain⟨V,hVi⟩:=hVget i him
          have hop:=(hV i _ V (hget i o him ho) hVi).2 ρ' w' g hx hgi (fun hk=>by have h1:=hready' i hi;have h2:=hdone i h1.1 hk;rw [h1.2.1] at h2;cases h2) (holds i o him hi ho)
          have hst:=D.st i him
          unfold wpOpIn
          simp only [List.getElem?_toArray,ho]
          rw [ha.yieldedE]
          unfold FQ at hop
          split
          · rename_i hw
            rw [if_pos (show Region.wanted {o with dst:=some (o.dst.getD (n+i))} (GT l ρ')=true from hw)] at hop
            cases hd:o.dst with
            |some d=>
              have hop':BJ P r ρ' w' o (Bs T w' g V i):=by unfold BJ at hop ⊢;exact hop
              have:=hop'.wpIn (K:=wpAnyIn (FW r) 0 P .any l.toArray (LN n Q) fuel (listed.setIfInBounds i true)) (Q:=LN n Q) ha fun v w'' ⟨g'',h1,h2,h3,h4⟩=>next i o V v w'' g'' him hi ho hVi h1 h2 h3 (fun e=>by rw [hd] at e;cases e) h4
              exact this
            |none=>
              have hop':BJ P r ρ' w' o (fun v w''=>v=undef∧Bs T w' g V i v w''):=by
                have hop2:BJ P r ρ' w' o (Bs T w' g V i):=by unfold BJ at hop ⊢;exact hop
                exact SM ho (hst.resolve_left (by simp [CR,ho,hd])) hop2
              exact hop'.wpIn ha fun v w'' ⟨hv0,g'',h1,h2,h3,h4⟩=>next i o V v w'' g'' him hi ho hVi h1 h2 h3 (fun _=>hv0) h4
          · rename_i hw
            rw [if_neg (show ¬Region.wanted {o with dst:=some (o.dst.getD (n+i))} (GT l ρ')=true from hw)] at hop
            obtain⟨g'',h1,h2,h3,h4⟩:=hop
            exact⟨fun _ _=>trivial,next i o V undef w' g'' him hi ho hVi h1 h2 h3 (fun _=>rfl) h4⟩
  have hrep:∀i,i<l.length→(Array.replicate l.length false).getD i true=false:=fun i hi=>by simp [Array.getD_eq_getD_getElem?,hi]
  have hsz:l.toArray.size=l.length:=by simp
  rw [hsz]
  refine key l.length (Array.replicate l.length false) a ρ {w with drawn:=w.drawn+1} g0 (by simp) (Pq _ _) ha rfl (T.drew w g0 hinv).2 (T.drew w g0 hinv).1 (fun i _ hi=>hrep i hi) (fun i hi hL=>?_) (fun t _=>rfl) (fun i hi hL=>?_) (fun i _ hi=>by rw [hg0] at hi;cases hi)
  · rw [hrep i (by have:=D.le;omega)] at hL;cases hL
  · rw [hrep i hi] at hL;cases hL
theorem SN {T:OD Γ} {g0:Γ} {id:Nat} {ρ:EH} {w:World} (hinv:T.inv w g0) (hg0:T.dn g0=[]) (hm:P.follows .mixedOrders=true) (hB:P9 n l m=true)
    (h:LR P r T l ρ w g0 (K7 T ρ w g0 fun ρ' w' _=>Rg P r n l (l.drop m) Q ρ' w') (Jr n 0 (l.take m)) []):Wp P r n (.region id l.toArray true) Q ρ w:=by
  have D:=LX.of hB
  refine T8 hinv hg0 hm hB (LR.dw _ [] ?_ (by simp) (by simp) h)
  refine List.pairwise_iff_getElem.2 fun i j hi hj hij=>?_
  simp only [List.length_map,Hv,List.length_take] at hi hj
  have hjm:j<m:=by omega
  have him:i<m:=by omega
  simp only [List.getElem_map]
  have hget:∀i (h:i<(Jr n 0 (l.take m)).length) (him:i<m) (hil:i<l.length),((Jr n 0 (l.take m))[i]).dst=some ((l[i]'hil).dst.getD (n+i)):=fun i h him hil=>by
    have h1:(Jr n 0 (l.take m))[i]?=some {(l[i]'hil) with dst:=some ((l[i]'hil).dst.getD (n+i))}:=by
      rw [M9,List.getElem?_take,if_pos him,List.getElem?_eq_getElem hil];simp
    have h2:=List.getElem?_eq_getElem h
    rw [h1] at h2
    rw [← Option.some.inj h2]
  rw [hget i (by simp [Hv];omega) him (by omega),hget j (by simp [Hv];omega) hjm (by omega)]
  simp only [Option.getD_some]
  have e:=(D.dst j hjm).2 i hij
  have ei:=(D.dst i him).1
  have ej:=(D.dst j hjm).1
  unfold CR at e ei ej
  rw [List.getElem?_eq_getElem (show i<l.length by omega)] at ei e
  rw [List.getElem?_eq_getElem (show j<l.length by omega)] at ej e
  simp only [Option.bind_some] at ei ej e
  cases h3:(l[i]'(by omega)).dst with
  |none=>cases h4:(l[j]'(by omega)).dst with
    |none=>intro e';have e'':n+i=n+j:=e';omega
    |some y=>
      rw [h4] at ej
      have h5:y<n:=by simpa using ej
      intro e';have e'':n+i=y:=e';exact absurd (Nat.lt_of_le_of_lt (Nat.le_of_eq e'') h5) (by omega)
  |some x=>cases h4:(l[j]'(by omega)).dst with
    |none=>
      rw [h3] at ei
      have h5:x<n:=by simpa using ei
      intro e';have e'':n+j=x:=Eq.symm e';exact absurd (Nat.lt_of_le_of_lt (Nat.le_of_eq e'') h5) (by omega)
    |some y=>
      rw [h3,h4] at e
      intro e'
      have e'':x=y:=e'
      rcases e with e |e
      · cases e
      · exact e (by rw [e''])
end
/-! a block that is made and stored into where the order is drawn -/
abbrev Gq:=Nx × Option (Nat × Obj × Bool)
def Ke (g:Gq):Be:=(match g.2 with |none=>[] |some p=>[(some p.1,p.2.1)])++DS g.1
section
variable {w w' w'' : World} {w0 : Zx} {O0 : List Nat} {bs : Be} {zo : Obj} {ka kst : Nat} {g : Gq} {v : Value} {k : Nat}
def TQ (zo:Obj) (w0:Zx) (O0:List Nat) (bs:Be) (ka kst:Nat):OD Gq where
  inv w g:=St w0 O0 w (Ke g++bs)∧∀b o,g.2=some (b,o,false)→o=zo
  le w g w' g':=((∃l,g'.1=l++g.1)∧∀b o f,g.2=some (b,o,f)→∃o' f',g'.2=some (b,o',f')∧(f=true→o'=o∧f'=true))∧AA (ks (Ke g++bs) O0) w (ks (Ke g'++bs) O0) w'∧True
  refl w g:=⟨⟨⟨[],rfl⟩,fun b o f h=>⟨o,f,h,fun h=>⟨rfl,h⟩⟩⟩,AA.refl _ _,trivial⟩
  trans:=fun⟨⟨⟨l,a⟩,b⟩,h,_⟩ ⟨⟨⟨l',a'⟩,b'⟩,h',_⟩=>⟨⟨⟨l'++l,by rw [a',a,List.append_assoc]⟩,fun bb o f hg=>by
    obtain⟨o1,f1,e1,e2⟩:=b bb o f hg
    obtain⟨o2,f2,e3,e4⟩:=b' bb o1 f1 e1
    exact⟨o2,f2,e3,fun h=>by obtain⟨e5,e6⟩:=e2 h;obtain⟨e7,e8⟩:=e4 e6;exact⟨e7.trans e5,e8⟩⟩⟩,h.trans h',trivial⟩
  drew w g h:=⟨⟨h.1.call (GU.drew w),h.2⟩,⟨⟨[],rfl⟩,fun b o f h=>⟨o,f,h,fun h=>⟨rfl,h⟩⟩⟩,AA.ext (GU.drew w),trivial⟩
  dn g:=match g.2 with |none=>[] |some p=>if p.2.2 then [ka,kst] else [ka]
theorem Wa (h:St w0 O0 w bs):(TQ zo w0 O0 bs ka kst).inv w ([],none):=⟨h,fun _ _ h=>by cases h⟩
abbrev QD {α:Type} (O0:List Nat) (bs:Be) (R:Vr α) (x:α):VR Gq:=fun v w g=>R.vd w (ks (Ke g++bs) O0) v x
theorem QD.stab {α:Type} (R:Vr α) (x:α):Iq (TQ zo w0 O0 bs ka kst) (QD O0 bs R x):=fun _ _ _ _ _ h hv=>R.step h.2.1 hv
abbrev QP {α:Type} (O0:List Nat) (bs:Be) (q:Rp α) (x:α):VR Gq:=fun v w g=>∃p,v=.pointer (some p)∧Ia q w (ks (Ke g++bs) O0) p x
theorem QP.stab {α:Type} (q:Rp α) (x:α):Iq (TQ zo w0 O0 bs ka kst) (QP O0 bs q x):=fun _ _ _ _ _ h ⟨p,h1,h2⟩=>⟨p,h1,h2.step h.2.1⟩
abbrev QA:VR Gq:=fun v _ g=>∃b o f,v=.pointer (some ⟨b,0,none⟩)∧g.2=some (b,o,f)
theorem QA.stab:Iq (TQ zo w0 O0 bs ka kst) QA:=fun _ _ _ _ _ h ⟨b,o,f,h1,h2⟩=>by obtain⟨o',f',e,_⟩:=h.1.2 b o f h2;exact⟨b,o',f',h1,e⟩
abbrev QS {α:Type} (O0:List Nat) (bs:Be) (q:Rp α) (t:TypeId) (x:α):VR Gq:=fun _ w g=>∃b vs,g.2=some (b,.cells vs.toArray t,true)∧q.rd w (ks (Ke g++bs) O0) vs x
theorem QS.stab {α:Type} {q:Rp α} {t:TypeId} {x:α} :Iq (TQ zo w0 O0 bs ka kst) (QS O0 bs q t x):=fun _ _ _ _ _ h ⟨b,vs,h1,h2⟩=>by
  obtain⟨o',f',e,e2⟩:=h.1.2 b _ _ h1
  obtain⟨rfl,rfl⟩:=e2 rfl
  exact⟨b,vs,e,q.step h.2.1 h2⟩
theorem GoesQ.same {V:VR Gq} (hi:St w0 O0 w' (Ke g++bs)) (hi2:∀b o,g.2=some (b,o,false)→o=zo) (hv:V v w' g):Bs (TQ zo w0 O0 bs ka kst) w' g V k v w':=⟨g,⟨hi,hi2⟩,(TQ zo w0 O0 bs ka kst).refl _ _,hv,fun _ h=>.inl h⟩
theorem GoesQ.call {V:VR Gq} (hi:St w0 O0 w' (Ke g++bs)) (hi2:∀b o,g.2=some (b,o,false)→o=zo) (hx:GU w' w'') (hv:V v w'' g):Bs (TQ zo w0 O0 bs ka kst) w' g V k v w'':=
  ⟨g,⟨hi.call hx,hi2⟩,⟨⟨⟨[],rfl⟩,fun b o f h=>⟨o,f,h,fun h=>⟨rfl,h⟩⟩⟩,AA.ext hx,trivial⟩,hv,fun _ h=>.inl h⟩
theorem AA.nxQ (hi:St w0 O0 w' (Ke g++bs)):St w0 O0 w' bs∧AA (ks (Ke g++bs) O0) w' (ks bs O0) w':=by
  obtain⟨nx,q⟩:=g
  cases q with
  |none=>exact AA.nx hi
  |some p=>
    have h1:St w0 O0 w' (DS nx++bs):=hi.drop 0
    have h2:AA (ks (Ke (nx,some p)++bs) O0) w' (ks (DS nx++bs) O0) w':=AA.drop w' O0 (Ke (nx,some p)++bs) 0
    exact⟨(AA.nx h1).1,h2.trans (AA.nx h1).2⟩
theorem AA.nxQ1 {b:Nat} {o:Obj} {f:Bool} (hi:St w0 O0 w' (Ke g++bs)) (hg:g.2=some (b,o,f)):St w0 O0 w' ((some b,o)::bs)∧AA (ks (Ke g++bs) O0) w' (ks ((some b,o)::bs) O0) w':=by
  obtain⟨nx,q⟩:=g
  simp only at hg
  subst hg
  induction nx with
  |nil=>exact⟨hi,AA.refl _ _⟩
  |cons p nx ih=>
    have h1:St w0 O0 w' (Ke (nx,some (b,o,f))++bs):=hi.drop 1
    have h2:AA (ks (Ke (p::nx,some (b,o,f))++bs) O0) w' (ks (Ke (nx,some (b,o,f))++bs) O0) w':=AA.drop w' O0 (Ke (p::nx,some (b,o,f))++bs) 1
    exact⟨(ih h1).1,h2.trans (ih h1).2⟩
section ops
variable {P : Program} {r : Option Nat} {ρ : EH} {d : Option Nat} {ty : TypeId} {pos : String} {aft : Array Edge} {gd : Option (Nat × Bool)} {t : TypeId} {td : TypeDesc} {n b : Nat} {zs : List Value} {ag : Bool} {x y : Operand}
theorem SO (T:Ty P t td n b zs ag) (hi:(TQ (.cells zs.toArray t) w0 O0 bs ka kst).inv w g) (hk:ka ∉ (TQ (.cells zs.toArray t) w0 O0 bs ka kst).dn g):
    BJ P r ρ w ⟨d,.alloc t,ty,pos,aft,gd⟩ (Bs (TQ (.cells zs.toArray t) w0 O0 bs ka kst) w g QA ka):=by
  obtain⟨nx,q⟩:=g
  cases q with
  |some p=>exact absurd (by show ka∈(if p.2.2 then [ka,kst] else [ka]);split<;> simp) hk
  |none=>
    refine Bv T (bs:=DS nx++bs) hi.1 ?_
    intro bl w' hx p hs
    refine⟨(nx,some (bl,_,false)),⟨hs,fun b o h=>by cases h;rfl⟩,⟨⟨⟨[],rfl⟩,fun _ _ _ h=>by cases h⟩,p,trivial⟩,⟨bl,_,false,rfl,rfl⟩,fun j hj=>.inr ?_⟩
    have:j∈[ka]:=hj
    simpa using this
theorem T9 {cs vs:List Value} (h:vs.length=cs.length):HY cs 0 vs=vs:=by
  apply List.ext_getElem?
  intro j
  rw [Hl (by omega)]
  by_cases hj:j<vs.length
  · rw [if_pos (by omega)];simp
  · rw [if_neg (by omega),List.getElem?_eq_none (by omega),List.getElem?_eq_none (by omega)]
theorem SP {α:Type} {q:Rp α} {e:α} (T:Ty P t td n b zs true) (hq:q.n=n) (hz:zs.length=n) (hi:(TQ (.cells zs.toArray t) w0 O0 bs ka kst).inv w g) (hk:kst ∉ (TQ (.cells zs.toArray t) w0 O0 bs ka kst).dn g) (hx:QA (ev ρ x) w g) (hy:(vA q).vd w (ks (Ke g++bs) O0) (ev ρ y) e):
    BJ P r ρ w ⟨d,.store t x y,ty,pos,aft,gd⟩ (Bs (TQ (.cells zs.toArray t) w0 O0 bs ka kst) w g (QS O0 bs q t e) kst):=by
  obtain⟨nx,qq⟩:=g
  obtain⟨bl,o,f,h1,h2⟩:=hx
  simp only at h2
  subst h2
  obtain⟨hi,hi2⟩:=hi
  obtain⟨cs,h3,h4⟩:=hy
  cases f with
  |true=>exact absurd (by show kst∈[ka,kst];simp) hk
  |false=>
    obtain rfl:=hi2 bl o rfl
    have hl:=q.len h4
    refine HJ (cs:=zs) (vs:=cs) (i:=0) (bl:=bl) (off:=0) (e:=t) T hi h1 h3 rfl rfl (by omega) (by omega) (List.all_eq_true.2 fun u hu=>q.one h4 u hu) (T9 (by omega)) rfl ?_
    intro w' p hs
    refine⟨(nx,some (bl,.cells cs.toArray t,true)),⟨hs,fun b o h=>by cases h⟩,⟨⟨⟨[],rfl⟩,fun b o f h=>by cases h;exact⟨_,true,rfl,fun h=>by cases h⟩⟩,p,trivial⟩,⟨bl,cs,rfl,q.step p h4⟩,fun j hj=>?_⟩
    have hj':j∈[ka,kst]:=hj
    simp only [List.mem_cons,List.not_mem_nil,or_false] at hj'
    rcases hj' with rfl |rfl
    · exact .inl (by show j∈[j];simp)
    · exact .inr rfl
end ops
end
/-! what is new altogether -/
section fresh
def PA {α:Type} (p:Rp α):Prop:=∀w O w' O' vs x,p.rd w O vs x→p.rd w' O' vs x
theorem PA.int {k:IntKind} :PA (AL k):=fun _ _ _ _ _ _ h=>h
theorem PA.bool:PA O9:=fun _ _ _ _ _ _ h=>h
theorem PA.via {α β:Type} {f:β→α} {r:Rp α} (h:PA r):PA (Np f r):=fun w O w' O' _ _ a=>h w O w' O' _ _ a
theorem Gs.flat {α:Type} {p:Rp α} (hp:PA p) {e:TypeId} {w:World} {O:List Nat} {a:Option Addr} {c:Nat} {kk:Option Nat} {o:Obj} {xs:List α} (h:Gs p e w O a c xs kk o) (w':World) (O':List Nat):Gs p e w' O' a c xs kk o:=by
  rcases h with h |⟨bl,cur,h1,h2,h3,h4,h5,h6,h7⟩
  · exact .inl h
  · refine .inr ⟨bl, cur, h1, h2, h3, h4, h5, h6, ?_⟩
    revert h7
    generalize cur.toList.take (xs.length*p.n)=cs
    clear h5
    induction xs generalizing cs with
    |nil=>exact id
    |cons x t ih=>rintro⟨v1,v2,e1,e2,e3⟩;exact⟨v1,v2,e1,hp _ _ _ _ _ _ e2,ih _ e3⟩
theorem St.fresh {w0 w:World} {ds O O':List Nat} {bs:Be} (h:St ⟨w0,[],ds⟩ O' w bs) (hO:∀k∈O,k∈O') (hd:ds=[]:=by rfl):St ⟨w0,[],ds⟩ (List.range w0.heap.size++O) w bs:=by
  subst hd
  refine St.others h (fun k hk=>?_) (fun D hD=>by cases hD)
  rcases List.mem_append.1 hk with hk |hk
  · have hk := List.mem_range.1 hk
    refine⟨Nat.lt_of_lt_of_le hk h.below.size,fun hm=>?_⟩
    obtain⟨p,hp,e⟩:=B2.1 hm
    rcases (h.own p hp k e).1 with h1 |h1
    · cases h1
    · simp only at h1;omega
  · exact h.dj k (hO k hk)
def OkF {α:Type} (P:Program) (f:FuncId) (args:List Value) (w:World) (O:List Nat) (R:Vr α) (x:α):Prop:=Fn P f args w fun v w'=>GU w w'∧R.vd w' (List.range w.heap.size++O) v x
theorem OkF.ok {α:Type} {P:Program} {f:FuncId} {args:List Value} {w:World} {O:List Nat} {R:Vr α} {x:α} (h:OkF P f args w O R x):Ok P f args w O R x:=
  Fn.mono h fun _ _ ⟨h1,h2⟩=>⟨h1,R.step (AA.sub fun k hk=>List.mem_append_right _ hk) h2⟩
end fresh
end Go.Fx
set_option linter.unusedSimpArgs false
set_option linter.unusedVariables false
set_option linter.unusedSectionVars false
namespace Go.Fx
open Go Go.RowKit
def H1 {α γ σ:Type} (P:Program) (enc:γ→World→List Nat→List Value→Prop) (l:Nat) (M:Obj→σ→Prop) (bm:Nat) (w:World) (O:List Nat) (fv:Value) (A:α→World→List Nat→List Value→Prop) (f:α × σ→Option (List γ × σ)):Prop:=
  (∃k caps,fv=.func k #[] caps)∧∀w1 O1 o1 s,AA O w (bm::O1) w1→bm ∉ O1→w1.heap[bm]?=some o1→M o1 s→(∀k∈O1,k<w1.heap.size)→∀(J Jx:JP γ),G1 J→G1 Jx→∀vs x Lx sz,A x w1 (bm::O1) vs→f (x,s)=some (Lx,sz)→GW P enc Lx l J Jx→J [] w1 O1 [bm]→
    Oq P fv vs w1 fun u w2=>∃O2 o2 s2,bm ∉ O2∧w2.heap[bm]?=some o2∧M o2 s2∧((u=.bool true∧s2=sz∧J Lx w2 O2 [bm])∨(u=.bool false∧∃pre,Jx pre w2 O2 [bm]))
section sub
variable {α γ σ : Type} {P : Program} {enc : γ → World → List Nat → List Value → Prop} {l : Nat} {M : Obj → σ → Prop} {bm : Nat} {w w' : World} {O O' : List Nat} {A : α → World → List Nat → List Value → Prop} {f : α × σ → Option (List γ × σ)}
theorem H1.step {fv:Value} (h:H1 P enc l M bm w O fv A f) (s:AA O w O' w'):H1 P enc l M bm w' O' fv A f:=
  ⟨h.1,fun w1 O1 o1 mp s1=>h.2 w1 O1 o1 mp (s.trans s1)⟩
def UN (P:Program) (enc:γ→World→List Nat→List Value→Prop) (l:Nat) (M:Obj→σ→Prop) (bm:Nat) (A:α→World→List Nat→List Value→Prop):Rp (α × σ→Option (List γ × σ)) where
  n:=1
  rd w O cs f:=∃v,cs=[v]∧H1 P enc l M bm w O v A f
  len:=fun⟨_,h,_⟩=>by rw [h];rfl
  one:=fun⟨v,h,⟨k,caps,h2⟩,_⟩=>by subst h;subst h2;simp [Value.oneCell']
  step:=fun s ⟨v,h,h2⟩=>⟨v,h,h2.step s⟩
def Wb (P:Program) (enc:γ→World→List Nat→List Value→Prop) (l:Nat) (M:Obj→σ→Prop) (bm:Nat) (A:α→World→List Nat→List Value→Prop):Vr (α × σ→Option (List γ × σ)):=⟨fun w O v f=>H1 P enc l M bm w O v A f,fun s h=>h.step s⟩
theorem TA {v:Value} (h:(UN P enc l M bm A).rd w O [v] f):H1 P enc l M bm w O v A f:=by
  obtain⟨v',h1,h2⟩:=h;cases h1;exact h2
theorem Ia.sbX {v:Value} {h1:v.oneCell'=true} {p:Addr} (h:Ia (L5 v h1) w O p ()) (hf:H1 P enc l M bm w O v A f):Ia (UN P enc l M bm A) w O p f:=by
  refine⟨h.spot,h.sh,?_⟩
  obtain⟨cs,e,fz,k1,k2,k3⟩:=h.cells
  exact⟨cs,e,fz,k1,k2,v,k3,hf⟩
theorem H1.fix {k:Go.Fn} {caps:Array Value} {Φ:(α × σ→Option (List γ × σ))→α × σ→Option (List γ × σ)}
    (h:∀f,H1 P enc l M bm w O (.func k #[] caps) A f→H1 P enc l M bm w O (.func k #[] caps) A (Φ f)):∀n,H1 P enc l M bm w O (.func k #[] caps) A (Ow Φ n)
  |0=>⟨⟨k,caps,rfl⟩,fun _ _ _ _ _ _ _ _ _ _ _ _ _ _ _ _ _ _ hf=>by cases hf⟩
  |n+1=>h _ (H1.fix h n)
def Ar (ik:IntKind) (e:TypeId) (c bm n:Nat) (o:Obj) (xs:List Int):Prop:=xs.length=n∧∀w O,Gs (AL ik) e w O (some ⟨bm,0,none⟩) c xs (some bm) o
theorem Gs.int {ik:IntKind} {e:TypeId} {a:Option Addr} {c:Nat} {kk:Option Nat} {o:Obj} {xs:List Int} (h:Gs (AL ik) e w O a c xs kk o) (w':World) (O':List Nat):Gs (AL ik) e w' O' a c xs kk o:=by
  rcases h with h |⟨bl,cur,h1,h2,h3,h4,h5,h6,h7⟩
  · exact .inl h
  · refine .inr ⟨bl, cur, h1, h2, h3, h4, h5, h6, ?_⟩
    revert h7
    generalize cur.toList.take (xs.length*(AL ik).n)=cs
    clear h5
    induction xs generalizing cs with
    |nil=>exact id
    |cons x t ih=>rintro⟨v1,v2,e1,e2,e3⟩;exact⟨v1,v2,e1,e2,ih _ e3⟩
theorem Ar.of {ik:IntKind} {e:TypeId} {c n:Nat} {o:Obj} {xs:List Int} (h:Gs (AL ik) e w O (some ⟨bm,0,none⟩) c xs (some bm) o) (hl:xs.length=n):Ar ik e c bm n o xs:=⟨hl,h.int⟩
end sub
section call
variable {P : Program} {ρ : EH} {w : World} {z : Zx} {O : List Nat} {bs : Be} {α γ σ : Type} {J Jx : JP γ} {L pre Lx : List γ} {l : Nat} {enc : γ → World → List Nat → List Value → Prop} {bm : Nat}
theorem Nc {r:Option Nat} {d:Option Nat} {ty:TypeId} {pos:String} {aft:Array Edge} {g:Option (Nat × Bool)} {Vv:Value→World→Prop} {x:Operand} {args:Array Operand} {us:Array TypeId} {fv:Value} {vs:List Value} {M:Obj→σ→Prop} {A:α→World→List Nat→List Value→Prop} {f:α × σ→Option (List γ × σ)} {a:α} {i:Nat} {o:Obj} {mp mz:σ}
    (hx:ev ρ x=fv) (hf:H1 P enc l M bm w (ks bs O) fv A f) (ha:args.toList.map (ev ρ)=vs) (hA:∀{x:α} {w w':World} {O O':List Nat} {vs:List Value},AA O w O' w'→A x w O vs→A x w' O' vs) (hv:A a w (ks bs O) vs) (hfa:f (a,mp)=some (Lx,mz)) (hY:GW P enc L l J Jx) (hJ:G1 J) (hJx:G1 Jx) (hI:LM J pre z O) (hs:St z O w bs) (hi:bs[i]?=some (some bm,o)) (hM:M o mp) (hL:pre++Lx<+:L)
    (kt:∀w' O' o',St ⟨w',(bs.set i (some bm,o')).filterMap Prod.fst,[]⟩ O' w' (bs.set i (some bm,o'))→AA (ks bs O) w (ks (bs.set i (some bm,o')) O') w'→LM J (pre++Lx) ⟨w',(bs.set i (some bm,o')).filterMap Prod.fst,[]⟩ O'→M o' mz→Vv (.bool true) w')
    (kf:∀w' O' o' (m2:σ) pre',St ⟨w',(bs.set i (some bm,o')).filterMap Prod.fst,[]⟩ O' w' (bs.set i (some bm,o'))→AA (ks bs O) w (ks (bs.set i (some bm,o')) O') w'→LM Jx pre' ⟨w',(bs.set i (some bm,o')).filterMap Prod.fst,[]⟩ O'→M o' m2→Vv (.bool false) w'):
    BJ P r ρ w ⟨d,.call ⟨.value x,args,us⟩,ty,pos,aft,g⟩ Vv:=by
  obtain⟨e1,e2,e3,e4⟩:=hs.lendM hi
  have hp:=KX hi
  have hlt:∀k∈(bs.eraseIdx i).filterMap Prod.fst,k<w.heap.size:=fun k hk=>e1 k (Bw.2 (.inl hk))
  have hdj:∀k∈O,k ∉ (bs.eraseIdx i).filterMap Prod.fst:=fun k hk hm=>(hs.dj k hk).2 (hp.mem_iff.1 (List.mem_cons_of_mem _ hm))
  have hnow:=hI.now hJ hs
  have hbmlt:bm<w.heap.size:=hs.lt (List.mem_of_getElem? hi) rfl
  have h0:L6 J pre w O (bs.eraseIdx i) bm [] w (ks (bs.eraseIdx i) O) [bm]:=
    ⟨O,rfl,by
      rw [List.append_nil]
      exact hJ.loc hnow (fun k hk hm=>(hs.dj k hm).2 hk) (HX.refl _ _) ⟨fun k hk=>.inl (hp.mem_iff.1 (by simpa using hk)),fun k hk=>by
        rcases List.mem_append.1 hk with hk |hk
        · simp at hk;subst hk;exact hbmlt
        · exact hlt k hk⟩,fun p hp' b hb=>(hs.own p (List.mem_of_mem_eraseIdx hp') b hb).2,fun k hk=>⟨hdj k hk,(hs.dj k hk).1⟩,AA.refl _ _,fun k hk=>by simp at hk;exact .inl hk⟩
  have hc:=hf.2 w (ks (bs.eraseIdx i) O) o mp e4 e2 e3 hM e1 (L6 J pre w O (bs.eraseIdx i) bm) (L6 Jx pre w O (bs.eraseIdx i) bm) (L6.abides hJ hlt) (L6.abides hJx hlt) vs a Lx mz (hA e4 hv) hfa (L6.yields hlt hL hY) h0
  refine It hx hc ha ?_
  rintro u w2 ⟨O2,o2,m2,k1,k2,k3,h⟩
  have done:∀(J':JP γ) (pre':List γ),G1 J'→L6 J' pre w O (bs.eraseIdx i) bm pre' w2 O2 [bm]→∃Oc,St ⟨w2,(bs.set i (some bm,o2)).filterMap Prod.fst,[]⟩ Oc w2 (bs.set i (some bm,o2))∧AA (ks bs O) w (ks (bs.set i (some bm,o2)) Oc) w2∧LM J' (pre++pre') ⟨w2,(bs.set i (some bm,o2)).filterMap Prod.fst,[]⟩ Oc:=by
    rintro J' pre' hJ' ⟨Oc,rfl,h2,h3,h4,h5,_⟩
    have hi':=UI (o':=o2) hi
    have he:(bs.set i (some bm,o2)).eraseIdx i=bs.eraseIdx i:=by rw [List.eraseIdx_set_eq]
    have hp':=KX hi'
    rw [he] at hp'
    have hbO:bm ∉ Oc:=fun hm=>k1 (Bw.2 (.inr hm))
    have hnd:((bs.set i (some bm,o2)).filterMap Prod.fst).Nodup:=hp'.nodup_iff.1 (hp.nodup_iff.2 hs.nd)
    have hsz:bm<w2.heap.size:=(Array.getElem?_eq_some_iff.1 k2).1
    have hkeys:∀k,k∈(bs.set i (some bm,o2)).filterMap Prod.fst→k<w2.heap.size∧k ∉ Oc:=fun k hk=>by
      rcases List.mem_cons.1 (hp'.mem_iff.2 hk) with rfl |hk
      · exact⟨hsz,hbO⟩
      · exact⟨Nat.lt_of_lt_of_le (hlt k hk) h5.size,fun hm=>(h4 k hm).1 hk⟩
    refine⟨Oc,⟨HX.refl _ _,fun p hp1 b hb=>⟨.inl (B2.2 ⟨p,hp1,hb⟩),?_⟩,hnd,fun k hk=>⟨(h4 k hk).2,fun hm=>(hkeys k hm).2 hk⟩,List.nodup_nil,fun _ h=>by cases h⟩,?_,?_,fun k hk=>(hkeys k hk).2⟩
    · obtain ⟨j, hj⟩ := List.mem_iff_getElem?.1 hp1
      rw [List.getElem?_set] at hj
      split at hj
      · split at hj
        · cases hj;cases hb;exact k2
        · cases hj
      · rename_i hne
        refine h3 p ?_ b hb
        rw [List.eraseIdx_eq_take_drop_succ]
        by_cases hlt':j<i
        · exact List.mem_append_left _ (List.mem_of_getElem? (i:=j) (by rw [List.getElem?_take,if_pos hlt'];exact hj))
        · exact List.mem_append_right _ (List.mem_of_getElem? (i:=j - (i+1)) (by rw [List.getElem?_drop,show i+1+(j - (i+1))=j by omega];exact hj))
    · refine e4.trans (h5.trans (AA.sub fun k hk => ?_))
      have:=(Ql (O0:=Oc) hi' (k:=k)).2 hk
      rwa [he] at this
    · refine hJ'.loc h2 (fun k hk => ?_) (HX.refl _ _) ⟨fun k hk => .inl ?_, fun k hk => (hkeys k hk).1⟩
      · rcases List.mem_append.1 hk with hk | hk
        · simp at hk;subst hk;exact hbO
        · exact fun hm=>(h4 k hm).1 hk
      · rcases List.mem_cons.1 (hp'.mem_iff.2 hk) with rfl | hk
        · simp
        · exact List.mem_append_right _ hk
  rcases h with ⟨rfl,rfl,h⟩ |⟨rfl,pre',h⟩
  · obtain ⟨Oc, g1, g2, g3⟩ := done J Lx hJ h
    exact kt w2 Oc o2 g1 g2 g3 k3
  · obtain ⟨Oc, g1, g2, g3⟩ := done Jx pre' hJx h
    exact kf w2 Oc o2 m2 _ g1 g2 g3 k3
end call
section own
variable {K V : Type} [DecidableEq K] [Hk K] {q : Kk K} {m : Mv V} {P : Program} {r : Option Nat} {ρ : EH} {w w' : World} {d : Option Nat} {ty : TypeId} {pos : String} {aft : Array Edge} {g : Option (Nat × Bool)} {Vv : Value → World → Prop}
variable {z0 : Zx} {O0 O O' : List Nat} {bs : Be} {x : Operand} {t kt e : TypeId} {v : Value} {oi om : Obj} {last : Option (K × V)} {xs rem : List (K × V)}
theorem SQ {b i:Nat} (hu:P.underlying t=some (.map kt e)) (hs:St z0 O0 w bs) (hi:bs[i]?=some (some b,om)) (hM:Mo q m om xs) (hx:ev ρ x=.map (some b))
    (k:∀bl oi rem w',AA (ks bs O0) w (ks ((some bl,oi)::bs) O0) w'→St z0 O0 w' ((some bl,oi)::bs)→QQ q m om oi b none rem→rem.Perm xs→Vv (.pointer (some ⟨bl,0,none⟩)) w'):
    BJ P r ρ w ⟨d,.range t x,ty,pos,aft,g⟩ Vv:=by
  have hb:=hs.get hi
  obtain⟨es,clock,rem,rfl,hit,hp⟩:=QQ.start (b:=b) hM
  have hs':=AA.alloc w O0 bs (.mapIter (some b) clock #[] clock)
  refine Bj (v:=.pointer (some ⟨w.heap.size,0,none⟩)) (w':=w.alloc (.mapIter (some b) clock #[] clock)) (by simp) ?_ (k _ _ rem _ hs' (hs.alloc _) hit hp)
  simp [execOp,hx,Instr.range,run_underlying hu,HN hb]
theorem TB {i j b bm:Nat} (hs:St z0 O0 w bs) (hi:bs[i]?=some (some b,oi)) (hj:bs[j]?=some (some bm,om)) (hit:QQ q m om oi bm last rem) (hx:ev ρ x=.pointer (some ⟨b,0,none⟩))
    (k0:rem=[]→Vv (.tuple [Value.bool false].toArray) w)
    (k1:∀p r1 r2 oi' w',rem=r1++p::r2→AA (ks bs O0) w (ks (bs.set i (some b,oi')) O0) w'→St z0 O0 w' (bs.set i (some b,oi'))→QQ q m om oi' bm (some p) (r1++r2)→q.ok p.1→m.ok p.2→Vv (.tuple [Value.bool true,q.enc p.1,m.enc p.2].toArray) w'):
    BJ P r ρ w ⟨d,.next x false,ty,pos,aft,g⟩ Vv:=by
  rcases ON (P:=P) (w:=w) (r:=b) (ty:=ty) hit (hs.get hj) (hs.get hi) with ⟨h0,h1⟩ |⟨p,r1,r2,oi',w1,hr,hw1,h1,h2,h3,h4⟩
  · refine Bj (by simp) ?_ (k0 h0)
    simp [execOp,hx,h1]
  · have he : GU w w1 := by rcases hw1 with rfl | rfl; exact GU.refl _; exact GU.drew _
    have hs1:=hs.call he
    obtain⟨h5,h6⟩:=hs1.putObj hi oi'
    have h7:=(AA.ext (O:=ks bs O0) he).trans h6
    refine Bj (by simp) ?_ (k1 p r1 r2 oi' _ hr h7 h5 h2 h3 h4)
    simp [execOp,hx,h1]
theorem SR {i j b bm:Nat} {p:K × V} (hs:St z0 O0 w bs) (hi:bs[i]?=some (some b,oi)) (hj:bs[j]?=some (some bm,om)) (hit:QQ q m om oi bm (some p) rem) (hx:ev ρ x=.pointer (some ⟨b,0,none⟩))
    (k:Vv (.tuple [q.enc p.1,m.enc p.2].toArray) w):BJ P r ρ w ⟨d,.entry x,ty,pos,aft,g⟩ Vv:=by
  refine Bj (by simp) ?_ k
  simp [execOp,hx,NH hit (hs.get hj) (hs.get hi)]
theorem UO {i b:Nat} (hu:P.underlying t=some (.map kt e)) (hs:St z0 O0 w bs) (hi:bs[i]?=some (some b,om)) (hM:Mo q m om xs) (hx:ev ρ x=.map (some b)) (k:Vv (.int .i64 xs.length) w):
    BJ P r ρ w ⟨d,.call ⟨.builtin .len,#[x],#[t]⟩,ty,pos,aft,g⟩ Vv:=by
  refine UJ (O:=[]) (v:=.map (some b)) hu hx ⟨b,om,rfl,⟨(Array.getElem?_eq_some_iff.1 (hs.get hi)).1,by simp⟩,hs.get hi,hM⟩ k
theorem TC {ik ik':IntKind} {f:FuncId} {args:Array Operand} {us:Array TypeId} {e':TypeId} {a:Option Addr} {c b i:Nat} {o:Obj} {xs ys:List Int} {nx:Nx} {OO:List Nat}
    (hc:∀(args:Array Value) (w:World),(callFunc f args).run P w=.ok (.enter f args) w) (hi:St z0 O0 w (DS nx++bs)) (hsn:St z0 O0 w bs) (hb:bs[i]?=some (some b,o)) (hG:Gs (AL ik) e w OO a c xs (some b) o)
    (h:CA (AL ik) w [] a c xs→Px P f [.slice a xs.length c] w [] (AL ik') e' ys) (ha:args.toList.map (ev ρ)=[.slice a xs.length c])
    (k:∀v w',GU w w'→(vC (BG (AL ik'))).vd w' (ks (DS nx++bs) O0) v ys→Vv v w'):BJ P r ρ w ⟨d,.call ⟨.value (.func f),args,us⟩,ty,pos,aft,g⟩ Vv:=by
  have h1:St ⟨w,[b],[]⟩ [] w [(some b,o)]:=St.startW (by simp) (by simp) (hsn.get hb)
  obtain⟨_,_,h2⟩:=Gs.publish (i:=0) h1 rfl (hG.int w (ks [(some b,o)] []))
  refine Gi hc (h h2) ha ?_
  rintro v w' ⟨hx,a',c',kk,o',rfl,hk,hG'⟩
  obtain⟨h3,_⟩:=hi.callG (o:=o') hx hk
  obtain⟨_,_,h4⟩:=Gs.publish (i:=0) h3 rfl (hG'.int w' (ks ((kk,o')::(DS nx++bs)) O0))
  exact k _ w' hx ⟨a',c',rfl,h4⟩
end own
end Go.Fx
set_option linter.unusedSimpArgs false
set_option linter.unusedVariables false
set_option linter.unusedSectionVars false
namespace Go.Fx
open Go Go.RowKit
/-! delete -/
section del
variable {K V : Type} [DecidableEq K] [Hk K] {q : Kk K} {m : Mv V} {o : Obj} {xs : List (K × V)} {P : Program} {w : World} {t kt e : TypeId}
theorem Qp {l:List (K × V)} {n k:K} {y:V} :(k,y)∈Nt l n ↔ (k,y)∈l∧k≠n:=by simp [Nt]
theorem Mo.del {es es':Array MapEntry} {clock:Nat} {l1 l2:List (K × V × Nat)} {n:K} {x:V} {b:Nat} (hM:LV q m es clock (l1++(n,x,b)::l2)) (hd:(l1++(n,x,b)::l2).Pairwise fun e f=>e.1≠f.1)
    (hp:∀k y,(∃b',(k,y,b')∈l1++(n,x,b)::l2) ↔ (k,y)∈xs) (hr:Hh xs) (he:es'.toList=(l1++l2).map fun e=>(⟨q.enc e.1,m.enc e.2.1,e.2.2⟩:MapEntry)):Mo q m (.map es' clock) (Nt xs n):=by
  have hsub:(l1++l2).Sublist (l1++(n,x,b)::l2):=(List.Sublist.refl l1).append (List.sublist_cons_self _ _)
  rw [List.pairwise_append] at hd
  have hn1:∀e∈l1,e.1≠n:=fun e he=>hd.2.2 e he (n,x,b) (by simp)
  have hn2:∀e∈l2,e.1≠n:=fun e he h'=>(List.pairwise_cons.1 hd.2.1).1 e he h'.symm
  refine⟨es',clock,l1++l2,rfl,⟨he,hM.born.sublist hsub,fun e he=>hM.lt e (hsub.subset he),fun e he=>hM.ok e (hsub.subset he)⟩,?_,fun k y=>?_,NC hr n⟩
  · exact(List.pairwise_append.2 hd).sublist hsub
  · rw [Qp, ← hp k y]
    constructor
    · rintro ⟨b', hb'⟩
      exact⟨⟨b',hsub.subset hb'⟩,(List.mem_append.1 hb').elim (hn1 _) (hn2 _)⟩
    · rintro ⟨⟨b', hb'⟩, hk⟩
      refine⟨b',?_⟩
      rcases List.mem_append.1 hb' with h |h
      · exact List.mem_append_left _ h
      · rcases List.mem_cons.1 h with e1 | h
        · cases e1;exact absurd rfl hk
        · exact List.mem_append_right _ h
theorem RA {r:Nat} {n:K} {ty:TypeId} (hu:P.underlying t=some (.map kt e)) (hk:Ot P kt q) (hr:w.heap[r]?=some o) (h:Mo q m o xs) (hn:q.ok n):
    ∃o',(Builtin.delete_ #[t,kt] ty #[.map (some r),q.enc n]).run P w=.ok (.tuple #[]) (w.putObj r o')∧Mo q m o' (Nt xs n):=by
  obtain⟨es,clock,l,rfl,hM,hd,hp,hris⟩:=h
  cases hg:Bu xs n with
  |none=>
    have hf:=hM.findN (P:=P) (w:=w) hk hn (fun e he=>IP hg (e.1,e.2.1) ((hp e.1 e.2.1).1 ⟨e.2.2,he⟩))
    refine⟨.map es clock,?_,⟨es,clock,l,rfl,hM,hd,fun k y=>?_,NC hris n⟩⟩
    · simp [Builtin.delete_,run_underlying hu,Result.andThen,HN hr,hk.check _ _ _ hn,hf,Ka _ hr]
    · rw [Qp, hp k y]
      exact⟨fun h=>⟨h,fun e=>IP hg _ h e⟩,fun h=>h.1⟩
  |some x=>
    obtain⟨b,hb⟩:=(hp n x).2 (FI hg)
    obtain⟨l1,l2,rfl,h1,h2⟩:=KW hd hb
    have hf:=hM.findS (P:=P) (w:=w) hk h1
    refine⟨.map (es.eraseIdxIfInBounds l1.length) clock,?_,Mo.del hM hd hp hris ?_⟩
    · simp [Builtin.delete_,run_underlying hu,Result.andThen,HN hr,hk.check _ _ _ hn,hf,Ka _ hr]
    · have hl:l1.length<es.size:=by
        have:=congrArg List.length hM.eq;simp at this;omega
      have h3:(es.eraseIdxIfInBounds l1.length).toList=es.toList.eraseIdx l1.length:=by simp [Array.eraseIdxIfInBounds,hl]
      rw [h3,hM.eq]
      simp only [List.map_append,List.map_cons]
      rw [List.eraseIdx_append_of_length_le (by simp)]
      simp
end del
section
variable {K V : Type} [DecidableEq K] [Hk K] {q : Kk K} {m : Mv V} {o : Obj} {xs : List (K × V)} {P : Program} {r : Option Nat} {ρ : EH} {w w' : World} {d : Option Nat} {ty : TypeId} {pos : String} {aft : Array Edge} {g : Option (Nat × Bool)} {Vv : Value → World → Prop}
variable {z0 : Zx} {O0 O O' : List Nat} {bs : Be} {x y u : Operand} {t kt e : TypeId}
theorem SS {b i:Nat} {n:K} {v:V} (hu:P.underlying t=some (.map kt e)) (hk:Ot P kt q) (hs:St z0 O0 w bs) (hi:bs[i]?=some (some b,o)) (h:Mo q m o xs) (hx:ev ρ x=.map (some b)) (hy:ev ρ y=q.enc n) (hn:q.ok n)
    (k:∀o' w',AA (ks bs O0) w (ks (bs.set i (some b,o')) O0) w'→St z0 O0 w' (bs.set i (some b,o'))→Mo q m o' (Nt xs n)→Vv (.tuple #[]) w'):
    BJ P r ρ w ⟨d,.call ⟨.builtin .delete,#[x,y],#[t,kt]⟩,ty,pos,aft,g⟩ Vv:=by
  obtain⟨o',h1,h2⟩:=RA (P:=P) (ty:=ty) hu hk (hs.get hi) h hn
  obtain⟨h3,h4⟩:=hs.putObj hi o'
  refine Bj (v:=.tuple #[]) (by simp) ?_ (k o' _ h4 h3 h2)
  simp [execOp,resolve,invoke,builtin,hx,hy,h1]
end
/-! what is lent, as a state -/
structure Sx (σ:Type) where
  rd:World→List Nat→Be→σ→Prop
  step:∀{w O w' O' E s},AA O w O' w'→rd w O E s→rd w' O' E s
def Ox {σ:Type} (S:Sx σ) (w:World) (O:List Nat) (E:Be) (s:σ):Prop:=S.rd w O E s
theorem Ox.step {σ:Type} {S:Sx σ} {w w':World} {O O':List Nat} {E:Be} {s:σ} (h:Ox S w O E s) (p:AA O w O' w'):Ox S w' O' E s:=S.step p h
def Js {K V σ:Type} [DecidableEq K] [Hk K] (P:Program) (q:Kk K) (m:Mv V) (S:Sx σ) (w:World) (O:List Nat) (fd:Value) (D:List (K × V)→σ→Option (Bool × σ)):Prop:=
  (∃k caps,fd=.func k #[] caps)∧∀(w1:World) (O1:List Nat) (L1:Be) (b:Nat) (o:Obj) (xs:List (K × V)) (s:σ) (r:Bool) (s':σ),AA O w (ks L1 O1) w1→I8 w1 O1 L1→b∈O1→w1.heap[b]?=some o→Mo q m o xs→Ox S w1 (ks L1 O1) L1 s→D xs s=some (r,s')→
    Oq P fd [.map (some b)] w1 fun u w2=>∃L2,Jz w1 L1 w2 O1 L2∧Ox S w2 (ks L2 O1) L2 s'∧u=.bool r
section done
variable {K V σ : Type} [DecidableEq K] [Hk K] {P : Program} {q : Kk K} {m : Mv V} {S : Sx σ} {w w' : World} {O O' O0 : List Nat} {D : List (K × V) → σ → Option (Bool × σ)} {fd : Value} {z : Zx} {L1 own bs : Be}
theorem Js.step (h:Js P q m S w O fd D) (p:AA O w O' w'):Js P q m S w' O' fd D:=
  ⟨h.1,fun w1 O1 L1 b o xs s r s' p1=>h.2 w1 O1 L1 b o xs s r s' (p.trans p1)⟩
theorem Js.cells (h:Js P q m S w O fd D):fd.cells=[fd].toArray:=by obtain⟨k,c,rfl⟩:=h.1;rfl
theorem Js.one (h:Js P q m S w O fd D):fd.oneCell'=true:=by obtain⟨k,c,rfl⟩:=h.1;simp [Value.oneCell']
def Ys (P:Program) (q:Kk K) (m:Mv V) (S:Sx σ):Rp (List (K × V)→σ→Option (Bool × σ)) where
  n:=1
  rd w O cs D:=∃v,cs=[v]∧Js P q m S w O v D
  len:=fun⟨_,h,_⟩=>by rw [h];rfl
  one:=fun⟨v,h,h2⟩=>by subst h;intro u hu;simp at hu;subst hu;exact h2.one
  step:=fun s ⟨v,h,h2⟩=>⟨v,h,h2.step s⟩
theorem Xb {v:Value} (h:(Ys P q m S).rd w O [v] D):Js P q m S w O v D:=by obtain⟨v',h1,h2⟩:=h;cases h1;exact h2
theorem Xc {v:Value} (h:Js P q m S w O v D):(Ys P q m S).rd w O [v] D:=⟨v,rfl,h⟩
theorem Sp {k:Nat} :k∈ks L1 (ks own O0) ↔ k∈ks (own++L1) O0:=by
  simp only [ks,List.filterMap_append,List.mem_append]
  constructor
  · rintro (h | h | h)
    · exact .inl (.inr h)
    · exact .inl (.inl h)
    · exact .inr h
  · rintro ((h | h) | h)
    · exact .inr (.inl h)
    · exact .inl h
    · exact .inr (.inr h)
theorem St.swap (h:St z O0 w (own++L1)):St z O0 w (L1++own)∧AA (ks (own++L1) O0) w (ks (L1++own) O0) w:=h.perm List.perm_append_comm
theorem AA.comm1:AA (ks (own++L1) O0) w (ks L1 (ks own O0)) w:=AA.sub fun k hk=>Sp.1 hk
theorem AA.comm2:AA (ks L1 (ks own O0)) w (ks (own++L1) O0) w:=AA.sub fun k hk=>Sp.2 hk
theorem St.lendT (h:St z O0 w (own++L1)):I8 w (ks own O0) L1:=(h.swap.1).lendL
theorem St.backT {L2:Be} {w2:World} (h:St z O0 w (own++L1)) (hB:Jz w L1 w2 (ks own O0) L2):St z O0 w2 (own++L2)∧AA (ks (own++L1) O0) w (ks (own++L2) O0) w2:=by
  obtain⟨h1,h2⟩:=h.swap
  obtain⟨h3,h4⟩:=h1.backL hB
  obtain⟨h5,h6⟩:=h3.swap
  exact⟨h5,(h2.trans h4).trans h6⟩
theorem TD {r:Option Nat} {ρ:EH} {d:Option Nat} {ty:TypeId} {pos:String} {aft:Array Edge} {g:Option (Nat × Bool)} {Vv:Value→World→Prop} {x:Operand} {args:Array Operand} {us:Array TypeId} {i b:Nat} {o:Obj} {xs:List (K × V)} {s s':σ} {rr:Bool}
    (own L1:Be) (hs:St z O0 w (own++L1)) (hx:ev ρ x=fd) (ha:args.toList.map (ev ρ)=[.map (some b)]) (hD:Js P q m S w (ks (own++L1) O0) fd D) (hi:own[i]?=some (some b,o)) (hM:Mo q m o xs) (hS:Ox S w (ks (own++L1) O0) L1 s) (hm:D xs s=some (rr,s'))
    (k:∀w' L2,AA (ks (own++L1) O0) w (ks (own++L2) O0) w'→St z O0 w' (own++L2)→Ox S w' (ks (own++L2) O0) L2 s'→Vv (.bool rr) w'):BJ P r ρ w ⟨d,.call ⟨.value x,args,us⟩,ty,pos,aft,g⟩ Vv:=by
  have hi':(own++L1)[i]?=some (some b,o):=by
    rw [List.getElem?_append_left (List.getElem?_eq_some_iff.1 hi).1];exact hi
  refine It hx (hD.2 w (ks own O0) L1 b o xs s rr s' AA.comm1 hs.lendT (Bw.2 (.inl (B2.2 ⟨_,List.mem_of_getElem? hi,rfl⟩))) (hs.get hi') hM (hS.step AA.comm1) hm) ha ?_
  rintro u w' ⟨L2,hB,hS2,rfl⟩
  obtain⟨h1,h2⟩:=hs.backT hB
  exact k w' L2 h2 h1 (hS2.step AA.comm2)
end done
/-! the map that is read is among what others own; or it is lent too -/
section less
variable {w w' : World} {O : List Nat} {L L' : Be} {b : Nat} {o : Obj}
abbrev less (O:List Nat) (b:Nat):List Nat:=O.filter fun k=>!decide (k=b)
theorem HO {k:Nat} :k∈less O b ↔ k∈O∧k≠b:=by simp [less]
theorem I8.lt0 (h:I8 w O L):∀k∈O,k<w.heap.size:=St.lt0 h
theorem I8.less (h:I8 w O L):I8 w (less O b) L:=⟨h.below,h.own,h.nd,fun k hk=>h.dj k (HO.1 hk).1,h.dsn,fun _ h=>by cases h⟩
theorem I8.stepless (L:Be) (O:List Nat) (w:World):AA (ks L O) w (ks L (Fx.less O b)) w:=AA.sub fun k hk=>by
  rcases Bw.1 hk with hk |hk
  · exact Bw.2 (.inl hk)
  · exact Bw.2 (.inr (HO.1 hk).1)
theorem I8.readM {K V:Type} [DecidableEq K] [Hk K] {q:Kk K} {m:Mv V} {xs:List (K × V)} (h:I8 w O L) (hb:b∈O) (ho:w.heap[b]?=some o) (hM:Mo q m o xs):Ov q m w (ks L (Fx.less O b)) (.map (some b)) xs:=
  ⟨b,o,rfl,⟨h.lt0 b hb,fun hm=>(Bw.1 hm).elim (h.dj b hb).2 fun hm=>(HO.1 hm).2 rfl⟩,ho,hM⟩
theorem Jz.more (hB:Jz w L w' (Fx.less O b) L') (h:I8 w O L) (hb:b∈O):Jz w L w' O L':=by
  refine⟨hB.loc,⟨hB.st.below,hB.st.own,hB.st.nd,fun k hk=>?_,hB.st.dsn,fun _ h=>by cases h⟩,hB.new⟩
  by_cases e:k=b
  · subst e
    refine⟨Nat.lt_of_lt_of_le (h.lt0 k hb) hB.loc.size,fun hm=>?_⟩
    rcases hB.new k hm with h1 |h1
    · exact(h.dj k hb).2 h1
    · have:=h.lt0 k hb;omega
  · exact hB.st.dj k (HO.2 ⟨hk,e⟩)
theorem I8.join (h:I8 w O L) (hb:b∈O) (ho:w.heap[b]?=some o):I8 w (Fx.less O b) (L++[(some b,o)]):=by
  have hk:(L++[(some b,o)]).filterMap Prod.fst=L.filterMap Prod.fst++[b]:=by simp
  refine⟨HX.refl _ _,fun p hp j hj=>⟨.inl (B2.2 ⟨p,hp,hj⟩),?_⟩,?_,fun k hk'=>⟨(h.dj k (HO.1 hk').1).1,?_⟩,List.nodup_nil,fun _ h=>by cases h⟩
  · rcases List.mem_append.1 hp with hp | hp
    · exact(h.own p hp j hj).2
    · simp at hp;subst hp;cases hj;exact ho
  · rw [hk]
    exact List.nodup_append.2 ⟨h.nd,by simp,fun a ha c hc e=>by simp at hc;subst hc;subst e;exact(h.dj a hb).2 ha⟩
  · rw [hk]
    intro hm
    rcases List.mem_append.1 hm with hm |hm
    · exact(h.dj k (HO.1 hk').1).2 hm
    · simp at hm;exact(HO.1 hk').2 hm
theorem Qq {k:Nat} (hb:b∈O):k∈ks (L++[(some b,o)]) (Fx.less O b) ↔ k∈ks L O:=by
  simp only [ks,List.filterMap_append,List.mem_append,HO]
  constructor
  · rintro ((h | h) | h)
    · exact .inl h
    · simp at h;subst h;exact .inr hb
    · exact .inr h.1
  · rintro (h | h)
    · exact .inl (.inl h)
    · by_cases e : k = b
      · subst e;exact .inl (.inr (by simp))
      · exact .inr ⟨h,e⟩
theorem AA.join (L:Be) (w:World) (o:Obj) (hb:b∈O):AA (ks L O) w (ks (L++[(some b,o)]) (Fx.less O b)) w:=AA.sub fun k hk=>(Qq hb).1 hk
theorem AA.unjoin (L:Be) (w:World) (o:Obj) (hb:b∈O):AA (ks (L++[(some b,o)]) (Fx.less O b)) w (ks L O) w:=AA.sub fun k hk=>(Qq hb).2 hk
theorem Jz.unjoin (hB:Jz w (L++[(some b,o)]) w' (Fx.less O b) (L'++[(some b,o)])) (h:I8 w O L) (hb:b∈O) (ho:w.heap[b]?=some o):Jz w L w' O L':=by
  have hk:∀L:Be,(L++[(some b,o)]).filterMap Prod.fst=L.filterMap Prod.fst++[b]:=fun L=>by simp
  have hnd:=hB.st.nd
  rw [hk] at hnd
  have hdis:=(List.nodup_append.1 hnd).2.2
  have hbl:b<w.heap.size:=h.lt0 b hb
  refine⟨⟨hB.loc.os,hB.loc.tape,hB.loc.output,hB.loc.size,fun k hk1 hk2=>?_,hB.loc.drawn⟩,⟨HX.refl _ _,fun p hp j hj=>⟨.inl (B2.2 ⟨p,hp,hj⟩),(hB.st.own p (List.mem_append_left _ hp) j hj).2⟩,(List.nodup_append.1 hnd).1,fun k hk1=>?_,List.nodup_nil,fun _ h=>by cases h⟩,fun k hk1=>?_⟩
  · by_cases e : k = b
    · subst e
      rw [(hB.st.own (some k,o) (by simp) k rfl).2,ho]
    · exact hB.loc.block k hk1 fun hm=>by
        rw [hk] at hm
        rcases List.mem_append.1 hm with hm |hm
        · exact hk2 hm
        · simp at hm;exact e hm
  · refine ⟨Nat.lt_of_lt_of_le (h.lt0 k hk1) hB.loc.size, fun hm => ?_⟩
    by_cases e:k=b
    · subst e;exact hdis k hm k (by simp) rfl
    · exact(hB.st.dj k (HO.2 ⟨hk1,e⟩)).2 (by rw [hk];exact List.mem_append_left _ hm)
  · have := hB.new k (by rw [hk]; exact List.mem_append_left _ hk1)
    rw [hk] at this
    rcases this with h1 |h1
    · rcases List.mem_append.1 h1 with h1 | h1
      · exact .inl h1
      · simp at h1;subst h1;exact absurd rfl (hdis k hk1 k (by simp))
    · exact .inr h1
end less
/-! a function that calls itself, with two maps and what is behind them lent on -/
section sub
variable {α K1 V1 K2 V2 σ : Type} [DecidableEq K1] [Hk K1] [DecidableEq K2] [Hk K2] {P : Program} {q1 : Kk K1} {m1 : Mv V1} {q2 : Kk K2} {m2 : Mv V2} {S : Sx σ} {b1 b2 : Nat} {w w' : World} {O O' O0 : List Nat} {A : Vr α}
variable {f : α → List (K1 × V1) → List (K2 × V2) → σ → Option (Bool × List (K1 × V1) × List (K2 × V2) × σ)} {z : Zx} {L1 own bs : Be} {fv : Value}
def Le (P:Program) (q1:Kk K1) (m1:Mv V1) (q2:Kk K2) (m2:Mv V2) (S:Sx σ) (b1 b2:Nat) (w:World) (O:List Nat) (fv:Value) (A:Vr α) (f:α→List (K1 × V1)→List (K2 × V2)→σ→Option (Bool × List (K1 × V1) × List (K2 × V2) × σ)):Prop:=
  (∃k caps,fv=.func k #[] caps)∧∀(w1:World) (O1:List Nat) (o1 o2:Obj) (L1:Be) (v:Value) (x:α) (d1:List (K1 × V1)) (d2:List (K2 × V2)) (s:σ) (r:Bool) (d1':List (K1 × V1)) (d2':List (K2 × V2)) (s':σ),
    AA O w (ks ((some b1,o1)::(some b2,o2)::L1) O1) w1→I8 w1 O1 ((some b1,o1)::(some b2,o2)::L1)→Mo q1 m1 o1 d1→Mo q2 m2 o2 d2→Ox S w1 (ks ((some b1,o1)::(some b2,o2)::L1) O1) L1 s→A.vd w1 (ks ((some b1,o1)::(some b2,o2)::L1) O1) v x→f x d1 d2 s=some (r,d1',d2',s')→
    Oq P fv [v] w1 fun u w2=>∃o1' o2' L2,Jz w1 ((some b1,o1)::(some b2,o2)::L1) w2 O1 ((some b1,o1')::(some b2,o2')::L2)∧Mo q1 m1 o1' d1'∧Mo q2 m2 o2' d2'∧Ox S w2 (ks ((some b1,o1')::(some b2,o2')::L2) O1) L2 s'∧u=.bool r
theorem Le.step (h:Le P q1 m1 q2 m2 S b1 b2 w O fv A f) (p:AA O w O' w'):Le P q1 m1 q2 m2 S b1 b2 w' O' fv A f:=
  ⟨h.1,fun w1 O1 o1 o2 L1 v x d1 d2 s r d1' d2' s' p1=>h.2 w1 O1 o1 o2 L1 v x d1 d2 s r d1' d2' s' (p.trans p1)⟩
def Wc (P:Program) (q1:Kk K1) (m1:Mv V1) (q2:Kk K2) (m2:Mv V2) (S:Sx σ) (b1 b2:Nat) (A:Vr α):Rp (α→List (K1 × V1)→List (K2 × V2)→σ→Option (Bool × List (K1 × V1) × List (K2 × V2) × σ)) where
  n:=1
  rd w O cs f:=∃v,cs=[v]∧Le P q1 m1 q2 m2 S b1 b2 w O v A f
  len:=fun⟨_,h,_⟩=>by rw [h];rfl
  one:=fun⟨v,h,⟨k,caps,h2⟩,_⟩=>by subst h;subst h2;simp [Value.oneCell']
  step:=fun s ⟨v,h,h2⟩=>⟨v,h,h2.step s⟩
def Wd (P:Program) (q1:Kk K1) (m1:Mv V1) (q2:Kk K2) (m2:Mv V2) (S:Sx σ) (b1 b2:Nat) (A:Vr α):Vr (α→List (K1 × V1)→List (K2 × V2)→σ→Option (Bool × List (K1 × V1) × List (K2 × V2) × σ)):=
  ⟨fun w O v f=>Le P q1 m1 q2 m2 S b1 b2 w O v A f,fun s h=>h.step s⟩
theorem TE {v:Value} (h:(Wc P q1 m1 q2 m2 S b1 b2 A).rd w O [v] f):Le P q1 m1 q2 m2 S b1 b2 w O v A f:=by obtain⟨v',h1,h2⟩:=h;cases h1;exact h2
theorem Ia.sbS {v:Value} {h1:v.oneCell'=true} {p:Addr} (h:Ia (L5 v h1) w O p ()) (hf:Le P q1 m1 q2 m2 S b1 b2 w O v A f):Ia (Wc P q1 m1 q2 m2 S b1 b2 A) w O p f:=by
  refine⟨h.spot,h.sh,?_⟩
  obtain⟨cs,e,fz,k1,k2,k3⟩:=h.cells
  exact⟨cs,e,fz,k1,k2,v,k3,hf⟩
def Qr {α β γ δ ε:Type} (Φ:(α→β→γ→δ→Option ε)→α→β→γ→δ→Option ε):Nat→α→β→γ→δ→Option ε
  |0=>fun _ _ _ _=>none
  |n+1=>Φ (Qr Φ n)
theorem Le.fix {k:Go.Fn} {caps:Array Value} {Φ:(α→List (K1 × V1)→List (K2 × V2)→σ→Option (Bool × List (K1 × V1) × List (K2 × V2) × σ))→α→List (K1 × V1)→List (K2 × V2)→σ→Option (Bool × List (K1 × V1) × List (K2 × V2) × σ)}
    (h:∀f,Le P q1 m1 q2 m2 S b1 b2 w O (.func k #[] caps) A f→Le P q1 m1 q2 m2 S b1 b2 w O (.func k #[] caps) A (Φ f)):∀n,Le P q1 m1 q2 m2 S b1 b2 w O (.func k #[] caps) A (Qr Φ n)
  |0=>⟨⟨k,caps,rfl⟩,fun _ _ _ _ _ _ _ _ _ _ _ _ _ _ _ _ _ _ _ _ hf=>by cases hf⟩
  |n+1=>h _ (Le.fix h n)
theorem Qs {r:Option Nat} {ρ:EH} {d:Option Nat} {ty:TypeId} {pos:String} {aft:Array Edge} {g:Option (Nat × Bool)} {Vv:Value→World→Prop} {x:Operand} {args:Array Operand} {us:Array TypeId} {o1 o2:Obj} {v:Value} {a:α} {d1 d1':List (K1 × V1)} {d2 d2':List (K2 × V2)} {s s':σ} {rr:Bool}
    (own L1:Be) (hs:St z O0 w (own++((some b1,o1)::(some b2,o2)::L1))) (hx:ev ρ x=fv) (ha:args.toList.map (ev ρ)=[v]) (hf:Le P q1 m1 q2 m2 S b1 b2 w (ks (own++((some b1,o1)::(some b2,o2)::L1)) O0) fv A f) (hM1:Mo q1 m1 o1 d1) (hM2:Mo q2 m2 o2 d2)
    (hS:Ox S w (ks (own++((some b1,o1)::(some b2,o2)::L1)) O0) L1 s) (hv:A.vd w (ks (own++((some b1,o1)::(some b2,o2)::L1)) O0) v a) (hm:f a d1 d2 s=some (rr,d1',d2',s'))
    (k:∀w' o1' o2' L2,AA (ks (own++((some b1,o1)::(some b2,o2)::L1)) O0) w (ks (own++((some b1,o1')::(some b2,o2')::L2)) O0) w'→St z O0 w' (own++((some b1,o1')::(some b2,o2')::L2))→Mo q1 m1 o1' d1'→Mo q2 m2 o2' d2'→Ox S w' (ks (own++((some b1,o1')::(some b2,o2')::L2)) O0) L2 s'→Vv (.bool rr) w'):
    BJ P r ρ w ⟨d,.call ⟨.value x,args,us⟩,ty,pos,aft,g⟩ Vv:=by
  refine It hx (hf.2 w (ks own O0) o1 o2 L1 v a d1 d2 s rr d1' d2' s' AA.comm1 hs.lendT hM1 hM2 (hS.step AA.comm1) (A.step AA.comm1 hv) hm) ha ?_
  rintro u w' ⟨o1',o2',L2,hB,k1,k2,k3,rfl⟩
  obtain⟨h1,h2⟩:=hs.backT hB
  exact k w' o1' o2' L2 h2 h1 k1 k2 (k3.step AA.comm2)
end sub
/-! m[k] += x where the order is drawn: the entry may be made before the element is looked up -/
section dw
variable {K V : Type} [DecidableEq K] [Hk K]
def TM (q:Kk K) (m:Mv V) (n:K) (mp':List (K × V)) (z0:Zx) (O0:List Nat) (bs:Be) (i b kx:Nat):OD (Option (Obj × Int)) where
  dn g:=match g with |none=>[] |some _=>[kx]
  inv w g:=match g with
    |none=>St z0 O0 w bs
    |some p=>St z0 O0 w (bs.set i (some b,p.1))∧Mo q m p.1 mp'∧WN p.1 q n p.2
  le w g w' g':=(∀p,g=some p→g'=some p)∧AA (ks (match g with |none=>bs |some p=>bs.set i (some b,p.1)) O0) w (ks (match g' with |none=>bs |some p=>bs.set i (some b,p.1)) O0) w'
  refl w g:=⟨fun _ h=>h,AA.refl _ _⟩
  trans:=fun⟨h1,h2⟩ ⟨h1',h2'⟩=>⟨fun p h=>h1' p (h1 p h),h2.trans h2'⟩
  drew w g h:=by
    cases g with
    |none=>exact⟨h.call (GU.drew w),fun _ h=>h,AA.ext (GU.drew w)⟩
    |some p=>exact⟨⟨h.1.call (GU.drew w),h.2⟩,fun _ h=>h,AA.ext (GU.drew w)⟩
variable {q : Kk K} {m : Mv V} {n : K} {mp' : List (K × V)} {z0 : Zx} {O0 : List Nat} {bs : Be} {i b kx : Nat} {w : World}
theorem TF (h:St z0 O0 w bs):(TM q m n mp' z0 O0 bs i b kx).inv w none:=h
abbrev VE (m:Mv V) (v0:V):VR (Option (Obj × Int)):=fun v w g=>∃p,g=some p∧v=.tuple [m.enc v0,.int .i64 p.2].toArray
abbrev WO:VR (Option (Obj × Int)):=fun v w g=>∃p:Obj × Int,g=some p∧v=.int .i64 p.2
theorem VE.stab (v0:V):Iq (TM q m n mp' z0 O0 bs i b kx) (VE m v0):=fun _ _ _ _ _ h ⟨p,h1,h2⟩=>⟨p,h.1 p h1,h2⟩
theorem WO.stab:Iq (TM q m n mp' z0 O0 bs i b kx) WO:=fun _ _ _ _ _ h ⟨p,h1,h2⟩=>⟨p,h.1 p h1,h2⟩
theorem GoesM.made {V:VR (Option (Obj × Int))} {w':World} {o':Obj} {s:Int} {v:Value} (h1:AA (ks bs O0) w (ks (bs.set i (some b,o')) O0) w') (h2:St z0 O0 w' (bs.set i (some b,o'))) (h3:Mo q m o' mp') (h4:WN o' q n s) (hv:V v w' (some (o',s))):
    Bs (TM q m n mp' z0 O0 bs i b kx) w none V kx v w':=⟨some (o',s),⟨h2,h3,h4⟩,⟨(fun _ h=>by cases h),h1⟩,hv,fun k h=>.inr (by have h':k∈[kx]:=h;simpa using h')⟩
theorem GoesM.same {V:VR (Option (Obj × Int))} {g:Option (Obj × Int)} {v:Value} {k:Nat} (hi:(TM q m n mp' z0 O0 bs i b kx).inv w g) (hv:V v w g):Bs (TM q m n mp' z0 O0 bs i b kx) w g V k v w:=⟨g,hi,(TM q m n mp' z0 O0 bs i b kx).refl _ _,hv,fun _ h=>.inl h⟩
theorem NJ {l:List (K × V)} {n:K} {v0:V} (z:V):(Bu (Dp l n v0) n).getD z=v0:=by rw [G7];simp
end dw
end Go.Fx
set_option linter.unusedSimpArgs false
set_option linter.unusedVariables false
namespace Go.Fx
open Go Go.RowKit Go.Shelf Go.Proofs
section sortm
variable {α : Type}
def Qt (cmp:α→α→Option Int) (x y:α):Bool:=match cmp x y with |some n=>decide (n<0) |none=>false
def L9 [DecidableEq α] (cmp:α→α→Option Int) (xs:List α):Bool:=
  xs.all fun x=>!Qt cmp x x&&xs.all fun y=>(cmp x y).isSome&&(Qt cmp x y||Qt cmp y x||decide (x=y))&&xs.all fun z=>!(Qt cmp x y&&Qt cmp y z)||Qt cmp x z
def RB (lt:α→α→Bool) (x:α):List α→List α
  |[] =>[x]
  |y::t=>bif lt x y then x::y::t else y::RB lt x t
def MA (lt:α→α→Bool) (xs:List α):List α:=xs.foldr (RB lt) []
def LY [DecidableEq α] (cmp:α→α→Option Int) (xs:List α):Option (List α):=bif L9 cmp xs then some (MA (Qt cmp) xs) else none
theorem MB (lt:α→α→Bool) (x:α):∀l,(RB lt x l).Perm (x::l)
  |[] =>List.Perm.refl _
  |y::t=>by
    unfold RB
    cases lt x y
    · exact((MB lt x t).cons y).trans (List.Perm.swap x y t)
    · exact List.Perm.refl _
theorem Ix (lt:α→α→Bool):∀l:List α,(MA lt l).Perm l
  |[] =>List.Perm.refl _
  |x::t=>(MB lt x _).trans ((Ix lt t).cons x)
structure Kf (lt:α→α→Bool) (xs:List α):Prop where
  irr:∀x∈xs,lt x x=false
  tot:∀x∈xs,∀y∈xs,lt x y=false→lt y x=false→x=y
  tr:∀x∈xs,∀y∈xs,∀z∈xs,lt x y=true→lt y z=true→lt x z=true
theorem NK [DecidableEq α] {cmp:α→α→Option Int} {xs:List α} :L9 cmp xs=true ↔ Kf (Qt cmp) xs∧∀x∈xs,∀y∈xs,∃n,cmp x y=some n:=by
  unfold L9
  simp only [List.all_eq_true,Bool.and_eq_true,Bool.or_eq_true,Bool.not_eq_true',decide_eq_true_eq,Option.isSome_iff_exists]
  constructor
  · intro h
    refine⟨⟨fun x hx=>(h x hx).1,fun x hx y hy h1 h2=>?_,fun x hx y hy z hz h1 h2=>?_⟩,fun x hx y hy=>((h x hx).2 y hy).1.1⟩
    · rcases ((h x hx).2 y hy).1.2 with (h3 | h3) | h3
      · rw [h1] at h3;cases h3
      · rw [h2] at h3;cases h3
      · exact h3
    · rcases ((h x hx).2 y hy).2 z hz with h3 | h3
      · rw [h1,h2] at h3;cases h3
      · exact h3
  · rintro ⟨⟨h1, h2, h3⟩, h4⟩ x hx
    refine⟨h1 x hx,fun y hy=>⟨⟨h4 x hx y hy,?_⟩,fun z hz=>?_⟩⟩
    · cases h5 : Qt cmp x y
      · cases h6 : Qt cmp y x
        · exact .inr (h2 x hx y hy h5 h6)
        · exact .inl (.inr rfl)
      · exact .inl (.inl rfl)
    · cases h5 : Qt cmp x y
      · exact .inl rfl
      · cases h6 : Qt cmp y z
        · exact .inl rfl
        · exact .inr (h3 x hx y hy z hz h5 h6)
theorem Kf.ntrans {lt:α→α→Bool} {xs:List α} (T:Kf lt xs) {x y z:α} (hx:x∈xs) (hy:y∈xs) (hz:z∈xs) (h1:lt x y=false) (h2:lt y z=false):lt x z=false:=by
  cases h3:lt x z
  · rfl
  · cases h4 : lt y x
    · have:=T.tot x hx y hy h1 h4;subst this;rw [h3] at h2;cases h2
    · have:=T.tr y hy x hx z hz h4 h3;rw [this] at h2;cases h2
theorem Nd {lt:α→α→Bool} {xs:List α} (T:Kf lt xs) {x:α} (hx:x∈xs):∀l:List α,(∀y∈l,y∈xs)→l.Pairwise (fun a b=>lt b a=false)→(RB lt x l).Pairwise (fun a b=>lt b a=false)
  |[],_,_=>by simp [RB]
  |y::t,hl,hp=>by
    unfold RB
    have hy:=hl y (by simp)
    cases h:lt x y
    · rw [cond_false, List.pairwise_cons]
      have hp':=List.pairwise_cons.1 hp
      refine⟨fun z hz=>?_,Nd T hx t (fun z hz=>hl z (by simp [hz])) hp'.2⟩
      rcases List.mem_cons.1 ((MB lt x t).mem_iff.1 hz) with e |hz
      · subst e;exact h
      · exact hp'.1 z hz
    · rw [cond_true, List.pairwise_cons]
      refine⟨fun z hz=>?_,hp⟩
      have hyx:lt y x=false:=by
        cases h':lt y x
        · rfl
        · have:=T.tr x hx y hy x hx h h';rw [T.irr x hx] at this;cases this
      rcases List.mem_cons.1 hz with e |hz'
      · subst e;exact hyx
      · exact T.ntrans (hl z (by simp [hz'])) hy hx ((List.pairwise_cons.1 hp).1 z hz') hyx
theorem Ln {lt:α→α→Bool} {xs:List α} (T:Kf lt xs):∀l:List α,(∀y∈l,y∈xs)→(MA lt l).Pairwise (fun a b=>lt b a=false)
  |[],_=>by simp [MA]
  |x::t,hl=>Nd T (hl x (by simp)) _ (fun y hy=>hl y (by simp [(Ix lt t).mem_iff.1 hy])) (Ln T t fun y hy=>hl y (by simp [hy]))
theorem Lo {lt:α→α→Bool} {xs ys:List α} (T:Kf lt xs) (hp:ys.Perm xs) (hs:ys.Pairwise (fun a b=>lt b a=false)):ys=MA lt xs:=by
  refine List.Perm.eq_of_pairwise (le:=fun x y=>(!lt y x)=true) ?_ ?_ ?_ (hp.trans (Ix lt xs).symm)
  · intro a b ha hb h1 h2
    simp only [Bool.not_eq_true'] at h1 h2
    exact T.tot a (hp.mem_iff.1 ha) b (by simpa [(Ix lt xs).mem_iff] using hb) h2 h1
  · exact hs.imp (by simp)
  · exact(Ln T xs fun _ h=>h).imp (by simp)
theorem ST [DecidableEq α] {cmp:α→α→Option Int} {xs ys:List α} (h:LY cmp xs=some ys):ys.length=xs.length:=by
  unfold LY at h
  cases he:L9 cmp xs
  · rw [he] at h;cases h
  · rw [he] at h;rw [← Option.some.inj h];exact(Ix _ _).length_eq
end sortm

theorem GU.grow {w w':World} (h:GU w w'):∃q os,w'=Go.Sort.grow (w.drewN q) os:=by
  refine⟨w'.drawn - w.drawn,w'.heap.extract w.heap.size w'.heap.size,?_⟩
  obtain⟨h1,h2,h3,h4,h5,h6⟩:=h
  cases w with |mk heap tape drawn os output=>cases w' with |mk heap' tape' drawn' os' output'=>
  simp only at h1 h2 h3 h4 h5 h6
  subst h1;subst h2;subst h3
  simp only [Go.Sort.grow,World.drewN,World.mk.injEq,true_and,and_true]
  refine⟨?_,by omega⟩
  apply Array.ext_getElem?
  intro k
  by_cases hk:k<heap.size
  · rw [Array.getElem?_append_left hk,h5 k hk]
  · rw [Array.getElem?_append_right (by omega), Array.getElem?_extract]
    by_cases hk':k<heap'.size
    · rw [if_pos (by omega)];congr 1;omega
    · rw [if_neg (by omega),Array.getElem?_eq_none (by omega)]

section
variable {α : Type} {q : Rp α} {w w' : World} {O : List Nat}
theorem E0.one1 (hq:q.n=1):∀{cs:List Value} {xs:List α},E0 q w O cs xs→cs.length=xs.length∧∀j (h1:j<cs.length) (h2:j<xs.length),q.rd w O [cs[j]] xs[j]:=by
  intro cs xs h
  have hl:cs.length=xs.length:=by rw [h.len,hq,Nat.mul_one]
  refine⟨hl,fun j h1 h2=>?_⟩
  have:=h.get j h2
  rw [hq,Nat.mul_one] at this
  rw [show [cs[j]] =(cs.drop j).take 1 from by rw [List.drop_eq_getElem_cons h1];rfl]
  exact this
end

theorem Fn.of_calls {P:Program} {f:FuncId} {args:List Value} {w:World} {R:Value→World→Prop} (h:Calls P f args.toArray w fun e w'=>∃v,e=.returned v∧R v w'):Fn P f args w R:=by
  unfold Fn;rw [U2];exact callsIn_wide.2 h
section op
variable {P : Program} {r : Option Nat} {ρ : EH} {w : World} {z : Zx} {O0 : List Nat} {bs : Be} {V : Value → World → Prop} {d : Option Nat} {ty : TypeId} {pos : String} {aft : Array Edge} {g : Option (Nat × Bool)}
variable {α : Type} [DecidableEq α] {q : Rp α}
end op
end Go.Fx
namespace Go.Proofs
open Go.Shelf
def Qu : Go.Shelf.Ren := ⟨fun | 6 => 68 | 15 => 83 | 14 => 82 | 28 => 98 | 29 => 99 | 20 => 90 | 21 => 91 | 22 => 92 | 23 => 93 | 24 => 94 | 25 => 95 | 26 => 96 | 27 => 97 | 46 => 101 | 47 => 102 | 48 => 103 | 49 => 104 | 50 => 105 | 57 => 106 | n => n, fun | 22 => 32 | 24 => 45 | 25 => 104 | 3 => 3 | 39 => 123 | 0 => 0 | 53 => 133 | 55 => 136 | 4 => 4 | 46 => 143 | 45 => 142 | 50 => 147 | 5 => 5 | 9 => 9 | 66 => 152 | 70 => 156 | 76 => 158 | 77 => 159 | n => n, fun | n => n⟩
theorem UP : Go.Proofs.SlLaysF0.n6 Try.prog Qu := {
  mixed := by kernel_rfl
  f6 := ⟨Try.f68.name, by decide, Try.func68.trans (congrArg some (by kernel_rfl))⟩
  f14 := ⟨Try.f82.name, by decide, Try.func82.trans (congrArg some (by kernel_rfl))⟩
  f15 := Try.func83.trans (congrArg some (by kernel_rfl))
  f20 := ⟨Try.f90.name, by decide, Try.func90.trans (congrArg some (by kernel_rfl))⟩
  f21 := ⟨Try.f91.name, by decide, Try.func91.trans (congrArg some (by kernel_rfl))⟩
  f22 := ⟨Try.f92.name, by decide, Try.func92.trans (congrArg some (by kernel_rfl))⟩
  f23 := ⟨Try.f93.name, by decide, Try.func93.trans (congrArg some (by kernel_rfl))⟩
  f24 := ⟨Try.f94.name, by decide, Try.func94.trans (congrArg some (by kernel_rfl))⟩
  f25 := ⟨Try.f95.name, by decide, Try.func95.trans (congrArg some (by kernel_rfl))⟩
  f26 := ⟨Try.f96.name, by decide, Try.func96.trans (congrArg some (by kernel_rfl))⟩
  f27 := ⟨Try.f97.name, by decide, Try.func97.trans (congrArg some (by kernel_rfl))⟩
  f28 := Try.func98.trans (congrArg some (by kernel_rfl))
  f29 := Try.func99.trans (congrArg some (by kernel_rfl))
  f46 := ⟨Try.f101.name, by decide, Try.func101.trans (congrArg some (by kernel_rfl))⟩
  f47 := Try.func102.trans (congrArg some (by kernel_rfl))
  f48 := Try.func103.trans (congrArg some (by kernel_rfl))
  f49 := ⟨Try.f104.name, by decide, Try.func104.trans (congrArg some (by kernel_rfl))⟩
  f50 := ⟨Try.f105.name, by decide, Try.func105.trans (congrArg some (by kernel_rfl))⟩
  f57 := ⟨Try.f106.name, by decide, Try.func106.trans (congrArg some (by kernel_rfl))⟩
  t0 := Try.underlying0
  a0 := Try.isAgg0
  z0 := Try.sizeOf0
  v0 := Try.zeroValue0
  t3 := Try.underlying3
  a3 := Try.isAgg3
  z3 := Try.sizeOf3
  v3 := Try.zeroValue3
  t4 := Try.underlying4
  a4 := Try.isAgg4
  z4 := Try.sizeOf4
  v4 := Try.zeroValue4
  t5 := Try.underlying5
  a5 := Try.isAgg5
  z5 := Try.sizeOf5
  v5 := Try.zeroValue5
  t9 := Try.underlying9
  a9 := Try.isAgg9
  z9 := Try.sizeOf9
  v9 := Try.zeroValue9
  t22 := Try.underlying32
  a22 := Try.isAgg32
  z22 := Try.sizeOf32
  v22 := Try.zeroValue32
  t25 := Try.underlying104
  a25 := Try.isAgg104
  z25 := Try.sizeOf104
  v25 := Try.zeroValue104
  t39 := Try.underlying123
  a39 := Try.isAgg123
  z39 := Try.sizeOf123
  v39 := Try.zeroValue123
  t45 := Try.underlying142
  a45 := Try.isAgg142
  z45 := Try.sizeOf142
  v45 := Try.zeroValue142
  t46 := Try.underlying143
  a46 := Try.isAgg143
  z46 := Try.sizeOf143
  v46 := Try.zeroValue143
  t50 := Try.underlying147
  a50 := Try.isAgg147
  z50 := Try.sizeOf147
  v50 := Try.zeroValue147
  t53 := Try.underlying133
  a53 := Try.isAgg133
  z53 := Try.sizeOf133
  v53 := Try.zeroValue133
  t55 := Try.underlying136
  a55 := Try.isAgg136
  z55 := Try.sizeOf136
  v55 := Try.zeroValue136
  t66 := Try.underlying152
  a66 := Try.isAgg152
  z66 := Try.sizeOf152
  v66 := Try.zeroValue152
  t70 := Try.underlying156
  a70 := Try.isAgg156
  z70 := Try.sizeOf156
  v70 := Try.zeroValue156
  t76 := Try.underlying158
  a76 := Try.isAgg158
  z76 := Try.sizeOf158
  v76 := Try.zeroValue158
  t77 := Try.underlying159
  a77 := Try.isAgg159
  z77 := Try.sizeOf159
  v77 := Try.zeroValue159 }
end Go.Proofs
set_option linter.unusedSimpArgs false
set_option linter.unusedVariables false
namespace Go.Fx
open Go Go.RowKit Go.Shelf Go.Proofs Go.Sort
theorem Nf {β:Type} {enc:β→List Value} {k:Nat} (hk:∀x,(enc x).length=k):∀(l:List β) (t:Nat),t<l.length*k→(l.flatMap enc)[t]?=(l[t / k]?).bind fun x=>(enc x)[t % k]?
  |[],t,h=>by simp at h
  |x::l,t,h=>by
    have k0 : 0 < k := by rcases Nat.eq_zero_or_pos k with e | e; · subst e; simp at h
                          · exact e
    rw [List.flatMap_cons]
    by_cases ht:t<k
    · rw [List.getElem?_append_left (by rw [hk];exact ht),Nat.div_eq_of_lt ht,Nat.mod_eq_of_lt ht];rfl
    · have e1 : t / k = (t - k) / k + 1 := by rw [← Nat.add_div_right _ k0]; congr 1; omega
      have e2:t % k=(t - k) % k:=by rw [Nat.mod_eq_sub_mod (by omega)]
      rw [List.getElem?_append_right (by rw [hk];omega),hk,e1,e2,List.getElem?_cons_succ]
      refine Nf hk l (t - k) ?_
      rw [List.length_cons,Nat.add_mul,Nat.one_mul] at h;omega
theorem Ng {β:Type} {enc:β→List Value} {k:Nat} (hk:∀x,(enc x).length=k):∀(l:List β),(l.flatMap enc).length=l.length*k
  |[] =>by simp
  |x::l=>by rw [List.flatMap_cons,List.length_append,hk,Ng hk l,List.length_cons,Nat.add_mul,Nat.one_mul,Nat.add_comm]
theorem NL {β:Type} [Inhabited β] {enc:β→List Value} {k:Nat} (hk:∀x,(enc x).length=k) (d:Array β):(flatK enc k d).toList=d.toList.flatMap enc:=by
  apply List.ext_getElem?
  intro t
  by_cases h:t<d.size*k
  · have k0 : 0 < k := by rcases Nat.eq_zero_or_pos k with e | e; · subst e; simp at h
                          · exact e
    rw [Nf hk _ t (by simpa using h)]
    have hq:t / k<d.size:=Nat.div_lt_of_lt_mul (by rwa [Nat.mul_comm] at h)
    have hm:t % k<k:=Nat.mod_lt _ k0
    have e1:d.toList[t / k]?=some d[t / k]:=by simp [hq]
    have e2:(enc d[t / k])[t % k]?=some ((enc d[t / k])[t % k]'(by rw [hk];exact hm)):=List.getElem?_eq_getElem _
    rw [e1,Option.bind_some,e2,Array.getElem?_toList,Array.getElem?_eq_getElem (by rw [size_flatK];exact h)]
    have:=get_flatK enc k d t h
    rw [getElem!_pos (flatK enc k d) t (by simpa using h),getElem!_pos d (t / k) hq,getElem!_pos (enc d[t / k]) (t % k) (by rw [hk];exact hm)] at this
    rw [this]
  · rw [List.getElem?_eq_none (by simpa using h),List.getElem?_eq_none (by rw [Ng hk];simpa using h)]
section
variable {α : Type} {q : Rp α} {w w' : World} {O : List Nat}
abbrev UQ (q:Rp α) (w:World) (O:List Nat) (xs:List α):={p:List Value × α // q.rd w O p.1 p.2∧p.2∈xs}
theorem OT {xs0:List α} :∀{cs:List Value} {xs:List α},E0 q w O cs xs→(∀x∈xs,x∈xs0)→∃D:List (UQ q w O xs0),D.flatMap (fun p=>p.1.1)=cs∧D.map (fun p=>p.1.2)=xs
  |cs,[],h,_=>⟨[],h.symm,rfl⟩
  |cs,x::xs,⟨v1,v2,h1,h2,h3⟩,hx=>by
    obtain⟨D,e1,e2⟩:=OT h3 fun y hy=>hx y (List.mem_cons_of_mem _ hy)
    exact⟨⟨(v1,x),h2,hx x List.mem_cons_self⟩::D,by rw [List.flatMap_cons,e1,h1],by rw [List.map_cons,e2]⟩
theorem OU {xs0:List α} {O':List Nat} (s:∀cs x,q.rd w O cs x→q.rd w' O' cs x):∀D:List (UQ q w O xs0),E0 q w' O' (D.flatMap fun p=>p.1.1) (D.map fun p=>p.1.2)
  |[] =>rfl
  |p::D=>⟨p.1.1,D.flatMap fun p=>p.1.1,by rw [List.flatMap_cons],s _ _ p.2.1,OU s D⟩
end
section op
variable {P : Program} {r : Option Nat} {ρ : EH} {w : World} {z : Zx} {O0 : List Nat} {bs : Be} {V : Value → World → Prop} {d : Option Nat} {ty : TypeId} {pos : String} {aft : Array Edge} {g : Option (Nat × Bool)}
variable {α : Type} [DecidableEq α] {q : Rp α}
theorem Oy {F cur:Array Value} {m:Nat} (hF:F.size=m) (hm:m≤cur.size):(Go.Sort.putCells id 0 F cur).toList.take m=F.toList:=by
  subst hF
  apply List.ext_getElem
  · simp [Go.Sort.putCells];omega
  · intro j h1 h2
    have hj:j<F.size:=by simpa using h2
    simp only [List.getElem_take,Array.getElem_toList,Go.Sort.putCells,Array.getElem_mapIdx,Nat.zero_le,Nat.zero_add,true_and,Nat.sub_zero]
    rw [if_pos hj,getElem!_pos F j hj];rfl
theorem TG {ρs:Ren} (L:SlLaysF0.n6 P ρs) {k:Nat} (hq:q.n=k) (aE:∀w,(isAgg (ρs.t 24)).run P w=.ok true w) (zE:∀w,(Go.sizeOf (ρs.t 24)).run P w=.ok k w) {e:TypeId} {f:Nat} {caps:Array Value}
    (hf:∀(args:Array Value) (w:World),(callFunc f args).run P w=.ok (.enter f args) w) (hs:St z O0 w bs) {i c:Nat} {kk:Option Nat} {o:Obj} {a:Option Addr} {xs ys:List α} (hi:bs[i]?=some (kk,o)) (gs:Gs q e w (ks bs O0) a c xs kk o)
    {cmp:α→α→Option Int} (hF:EC P w (ks bs O0) (.func (.func f) #[] caps) (vA q) (vA q) (vI .i64) cmp) (hm:LY cmp xs=some ys) (hsz:xs.length<4611686018427387904):
    Fn P (ρs.f 6) [.slice a xs.length c,.func (.func f) #[] caps] w fun v w'=>v=.tuple #[]∧∃o',St z O0 w' (bs.set i (kk,o'))∧AA (ks bs O0) w (ks (bs.set i (kk,o')) O0) w'∧Gs q e w' (ks (bs.set i (kk,o')) O0) a c ys kk o':=by
  subst hq
  have hok:L9 cmp xs=true:=by
    unfold LY at hm;cases h:L9 cmp xs
    · rw [h] at hm;cases hm
    · rfl
  have hys:ys=MA (Qt cmp) xs:=by unfold LY at hm;rw [hok] at hm;exact(Option.some.inj hm).symm
  obtain⟨T,htot⟩:=NK.1 hok
  have hset:bs.set i (kk,o)=bs:=by
    obtain⟨h,e⟩:=List.getElem?_eq_some_iff.1 hi
    rw [← e,List.set_getElem_self]
  by_cases hx0:xs=[]
  · subst hx0
    have he:ys=[]:=hys
    subst he
    have:=AnyF.slices_SortFunc_none (P:=P) (ρ:=ρs) L a c (.func (.func f) #[] caps) w
    refine Fn.mono (R:=fun v w'=>v=.tuple #[]∧w'=w) (Fn.of_calls (Calls.mono this ?_)) ?_
    · rintro e w' ⟨rfl,rfl⟩;exact⟨_,rfl,rfl,rfl⟩
    · rintro v w' ⟨rfl, rfl⟩
      exact⟨rfl,o,by rw [hset];exact⟨hs,AA.refl _ _,gs⟩⟩
  · rcases gs with ⟨_, _, h, _⟩ | ⟨bl, cur, rfl, rfl, rfl, g4, g5, g6, g7⟩
    · exact absurd h hx0
    obtain⟨Dl,hD1,hD2⟩:=OT g7 (xs0:=xs) fun x hx=>hx
    have hDlen:Dl.length=xs.length:=by have:=congrArg List.length hD2;simpa using this
    have hne:Dl≠[]:=fun e=>hx0 (by have:=hDlen;rw [e] at this;exact List.length_eq_zero_iff.1 this.symm)
    letI:Inhabited (UQ q w (ks bs O0) xs):=⟨Dl.head hne⟩
    obtain⟨D,hD⟩:∃D:Array (UQ q w (ks bs O0) xs),D=Dl.toArray:=⟨_,rfl⟩
    have hDs:D.size=xs.length:=by rw [hD];simpa using hDlen
    obtain⟨enc,henc⟩:∃enc:UQ q w (ks bs O0) xs→List Value,enc=fun p=>p.1.1:=⟨_,rfl⟩
    have hkl:∀p,(enc p).length=q.n:=fun p=>by rw [henc];exact q.len p.2.1
    obtain⟨cf,hcf⟩:∃cf:UQ q w (ks bs O0) xs→UQ q w (ks bs O0) xs→Int,cf=fun p p'=>(cmp p.1.2 p'.1.2).getD 0:=⟨_,rfl⟩
    have hlt:∀p p',ltOf cf p p'=Qt cmp p.1.2 p'.1.2:=fun p p'=>by
      unfold ltOf Qt;rw [hcf]
      obtain⟨n,hn⟩:=htot p.1.2 p.2.2 p'.1.2 p'.2.2
      simp [hn]
    have hO:Go.Sort.SWO (ltOf cf):=⟨fun p=>by rw [hlt];exact T.irr _ p.2.2,fun p p' p'' k1 k2=>by rw [hlt] at*;exact T.tr _ p.2.2 _ p'.2.2 _ p''.2.2 k1 k2,fun p p' p'' k1 k2=>by rw [hlt] at*;exact T.ntrans p.2.2 p'.2.2 p''.2.2 k1 k2⟩
    have hbl:=hs.get hi
    have hblk:bl<w.heap.size:=hs.lt (List.mem_of_getElem? hi) rfl
    have hmul:xs.length*q.n≤cur.size:=by rw [g4];exact Nat.mul_le_mul_right _ g5
    have hfl:(flatK enc q.n D).toList=cur.toList.take (xs.length*q.n):=by rw [NL hkl,hD,henc];exact hD1
    have hH:HoldsK enc q.n w bl 0 D:=by
      intro j hj
      rw [size_flatK,hDs] at hj
      have e0:(flatK enc q.n D).toList[j]?=(cur.toList.take (xs.length*q.n))[j]?:=by rw [hfl]
      have e1:(flatK enc q.n D)[j]! =cur[j]'(by omega):=by
        rw [getElem!_pos (flatK enc q.n D) j (by rw [size_flatK,hDs];exact hj)]
        rw [Array.getElem?_toList,Array.getElem?_eq_getElem (by rw [size_flatK,hDs];exact hj),List.getElem?_take,if_pos hj,Array.getElem?_toList,Array.getElem?_eq_getElem (by omega)] at e0
        exact Option.some.inj e0
      rw [e1]
      constructor
      · simp only [World.cell?,hbl,Nat.zero_add,id];simp [show j<cur.size by omega]
      · simp only [World.frozen?,hbl];simp
    have hrow:∀(m:Nat) (os:Array Obj) (dk:Array (UQ q w (ks bs O0) xs)),dk.size=D.size→
        HX [bl] w (sortWorldK enc q.n w bl 0 m dk os)∧(sortWorldK enc q.n w bl 0 m dk os).heap[bl]?=some (.cells (Go.Sort.putCells id 0 (flatK enc q.n dk) cur) e (0,0)):=by
      intro m os dk hdk
      have hsz':(Go.Sort.mapBlock (Go.Sort.ahead w m) bl (Go.Sort.putCells id 0 (flatK enc q.n dk))).heap.size=w.heap.size:=by simp [Go.Sort.mapBlock,Go.Sort.ahead]
      constructor
      · refine ⟨rfl, rfl, rfl, ?_, fun k hk hn => ?_, ?_⟩
        · simp only [sortWorldK,putRowK,Go.Sort.grow,Go.Sort.putRow,Array.size_append,hsz'];omega
        · simp only [sortWorldK, putRowK, Go.Sort.grow, Go.Sort.putRow]
          rw [Array.getElem?_append_left (by rw [hsz'];exact hk)]
          simp only [Go.Sort.mapBlock,Go.Sort.ahead,Array.getElem?_modify]
          have: ¬bl=k:=fun e=>hn (by simp [e])
          simp [this]
        · simp only [sortWorldK,putRowK,Go.Sort.grow,Go.Sort.putRow,Go.Sort.mapBlock,Go.Sort.ahead];omega
      · simp only [sortWorldK, putRowK, Go.Sort.grow, Go.Sort.putRow]
        rw [Array.getElem?_append_left (by rw [hsz'];exact hblk)]
        simp only [Go.Sort.mapBlock,Go.Sort.ahead,Array.getElem?_modify,if_true,hbl,Option.map_some,Go.Sort.onCells]
    have hkey:bl∈ks bs O0:=Bw.2 (.inl (B2.2 ⟨_,List.mem_of_getElem? hi,rfl⟩))
    have hcmp:CmpLays P f caps enc q.n cf bl 0 D.size w:=by
      intro m os dk hdk p p'
      obtain⟨hl1,hl2⟩:=hrow m os dk hdk
      have hst:AA (ks bs O0) w (ks bs O0) (sortWorldK enc q.n w bl 0 m dk os):=AA.of_loc hl1 (by rintro k hk;simp at hk;subst hk;exact hkey) fun k hk=>.inl hk
      obtain⟨n,hn⟩:=htot p.1.2 p.2.2 p'.1.2 p'.2.2
      have:=hF _ _ hst (fun k hk=>Nat.lt_of_lt_of_le (hs.ltw k hk) hl1.size) (.agg p.1.1.toArray) (.agg p'.1.1.toArray) p.1.2 p'.1.2 n ⟨_,rfl,q.step hst p.2.1⟩ ⟨_,rfl,q.step hst p'.2.1⟩ hn
      obtain⟨f',first,cap,hv,_,hfn⟩:=this
      cases hv
      have hc:=hfn.calls
      refine Calls.mono ?_ ?_ (R:=fun e w'=>∃v,e=.returned v∧GU (sortWorldK enc q.n w bl 0 m dk os) w'∧(vI .i64).vd w' (ks bs O0) v n)
      · have e1 : ((#[] : Array Value).toList ++ [Value.agg p.1.1.toArray, Value.agg p'.1.1.toArray] ++ caps.toList).toArray = #[Value.agg (enc p).toArray, Value.agg (enc p').toArray] ++ caps := by rw [henc]; apply Array.ext'; simp
        rw [e1] at hc;exact hc
      · rintro e w' ⟨v, rfl, hx, hv⟩
        refine⟨?_,hx.grow⟩
        have hv':v=.int .i64 n:=hv.1
        rw [hv',hcf];simp [hn]
    have:=AnyQ.slices_SortFunc (P:=P) (ρ:=ρs) L q.n aE zE enc hkl (fun p v hv=>by rw [henc] at hv;exact q.one p.2.1 v hv) cf hO f caps bl 0 c D w hf hcmp hH hblk (by rw [hDs];exact hsz)
    rw [hDs] at this
    refine Fn.of_calls (Calls.mono this ?_)
    rintro e' w' ⟨rfl,d',n,os,hp,hso,rfl⟩
    refine⟨_,rfl,rfl,.cells (Go.Sort.putCells id 0 (flatK enc q.n d') cur) e (0,0),?_⟩
    obtain⟨hd1,_,hd3⟩:=hp
    rw [hDs] at hd1
    obtain⟨hl1,hl2⟩:=hrow n os d' (by rw [hDs];exact hd1)
    have ho:∀j,j<w.heap.size→some bl≠some j→(sortWorldK enc q.n w bl 0 n d' os).heap[j]?=w.heap[j]?:=fun j hj hn=>hl1.block j hj (by simp;rintro rfl;exact hn rfl)
    have hb:=(hs.own _ (List.mem_of_getElem? hi) bl rfl).1
    have hst:AA (ks bs O0) w (ks (bs.set i (some bl,.cells (Go.Sort.putCells id 0 (flatK enc q.n d') cur) e (0,0))) O0) (sortWorldK enc q.n w bl 0 n d' os):=AA.put hi hl1.size (fun j hj=>.inl hj) ho
    refine⟨hs.put hi (hs.below.trans' hl1 (by rintro k hk;simp at hk;subst hk;exact hb)) hl1.size (fun j hj=>by cases hj;exact⟨.inl rfl,hl2⟩) ho,hst,?_⟩
    have hex:d'.extract 0 xs.length=d':=by rw [← hd1];exact Array.extract_size
    have hexD:D.extract 0 xs.length=D:=by rw [← hDs];exact Array.extract_size
    rw [hex,hexD] at hd3
    have hDl:D.toList.map (fun p=>p.1.2)=xs:=by rw [hD];exact hD2
    have hyl:d'.toList.map (fun p=>p.1.2)=ys:=by
      rw [hys]
      refine Lo T ?_ ?_
      · have:=hd3.map (fun p:UQ q w (ks bs O0) xs=>p.1.2);rwa [hDl] at this
      · rw [List.pairwise_map, List.pairwise_iff_getElem]
        intro j k hj hk hjk
        have hj':j<d'.size:=by simpa using hj
        have hk':k<d'.size:=by simpa using hk
        have:=hso j k (Nat.zero_le _) hjk (by omega)
        rw [hlt,getElem!_pos d' k hk',getElem!_pos d' j hj'] at this
        simpa using this
    have hylen:ys.length=xs.length:=by rw [← hyl];simp [hd1]
    refine .inr ⟨bl,Go.Sort.putCells id 0 (flatK enc q.n d') cur,rfl,rfl,rfl,by simp [Go.Sort.putCells,g4],by omega,g6,?_⟩
    rw [hylen,Oy (by rw [size_flatK,hd1]) hmul,NL hkl,← hyl]
    have:=OU (fun cs x h=>q.step hst h) d'.toList
    have e9:d'.toList.flatMap enc=d'.toList.flatMap fun p=>p.1.1:=by rw [henc]
    rw [e9];exact this
theorem SU {ρs:Ren} {k:FuncId} (L:SlLaysF0.n6 P ρs) (hk:ρs.f 6=k) (hcall:∀(args:Array Value) (w:World),(callFunc k args).run P w=.ok (.enter k args) w) {n:Nat} (hq:q.n=n) (aE:∀w,(isAgg (ρs.t 24)).run P w=.ok true w) (zE:∀w,(Go.sizeOf (ρs.t 24)).run P w=.ok n w) {e:TypeId} {f:Nat} {caps:Array Value}
    (hf:∀(args:Array Value) (w:World),(callFunc f args).run P w=.ok (.enter f args) w) (hs:St z O0 w bs) {i c:Nat} {kk:Option Nat} {o:Obj} {a:Option Addr} {xs ys:List α} (hi:bs[i]?=some (kk,o)) (gs:Gs q e w (ks bs O0) a c xs kk o)
    {cmp:α→α→Option Int} (hF:EC P w (ks bs O0) (.func (.func f) #[] caps) (vA q) (vA q) (vI .i64) cmp) (hm:LY cmp xs=some ys) (hsz:xs.length<4611686018427387904)
    {args:Array Operand} {us:Array TypeId} (ha:args.toList.map (ev ρ)=[.slice a xs.length c,.func (.func f) #[] caps])
    (kont:∀w' o',St z O0 w' (bs.set i (kk,o'))→AA (ks bs O0) w (ks (bs.set i (kk,o')) O0) w'→Gs q e w' (ks (bs.set i (kk,o')) O0) a c ys kk o'→V (.tuple #[]) w'):
    BJ P r ρ w ⟨d,.call ⟨.value (.func k),args,us⟩,ty,pos,aft,g⟩ V:=by
  refine Gi hcall (by rw [← hk];exact TG L hq aE zE hf hs hi gs hF hm hsz) ha ?_
  rintro v w' ⟨rfl,o',h2,h3,h4⟩
  exact kont w' o' h2 h3 h4
end op
end Go.Fx
set_option linter.unusedVariables false
set_option linter.unusedSimpArgs false
set_option maxRecDepth 100000
set_option maxHeartbeats 0
namespace Go.Fx
open Go Go.RowKit Go.Proofs
structure AK where
  airport : Bool
  index : Int
  minute : Int
  deriving Inhabited, DecidableEq
def Bx : Rp AK := Np (fun d => (d.airport, d.index, d.minute)) (Gg O9 (Gg (AL .i64) (AL .i64)))
instance : Hk AK := ⟨fun d => [cond d.airport 1 0, d.index, d.minute], fun {a b} h => by
  obtain ⟨a0, a1, a2⟩ := a
  obtain ⟨b0, b1, b2⟩ := b
  cases a0 <;> cases b0 <;> simp at h ⊢ <;> omega⟩
def HP : Kk AK := ⟨fun d => Value.agg [(Value.bool d.airport), (Value.int .i64 d.index), (Value.int .i64 d.minute)].toArray, fun d => Cx .i64 d.index ∧ Cx .i64 d.minute⟩
structure Bp where
  cell : AK
  places : Int
  deriving Inhabited, DecidableEq
def Ed : Rp Bp := Np (fun d => (d.cell, d.places)) (Gg Bx (AL .i64))
structure AN where
  delay : Int
  cost : Int
  changes : Int
  uses : List Bp
  deriving Inhabited, DecidableEq
def Bt : Rp AN := Np (fun d => (d.delay, d.cost, d.changes, d.uses)) (Gg (AL .i64) (Gg (AL .i64) (Gg (AL .i64) (BG Ed))))
structure AM where
  flight : Int
  node : Int
  leaves : List Int
  choices : List AN
  deriving Inhabited, DecidableEq
def AS : Rp AM := Np (fun d => (d.flight, d.node, d.leaves, d.choices)) (Gg (AL .i64) (Gg (AL .i64) (Gg (BG (AL .i64)) (BG Bt))))
structure A8 where
  cells : List AK
  capacity : List (List Int)
  variables : List AM
  deriving Inhabited, DecidableEq
def FY : Rp A8 := Np (fun d => (d.cells, d.capacity, d.variables)) (Gg (BG Bx) (Gg (BG (BG (AL .i64))) (BG AS)))
structure Az where
  leaf : Int
  cell : Int
  deriving Inhabited, DecidableEq
def AO : Rp Az := Np (fun d => (d.leaf, d.cell)) (Gg (AL .i64) (AL .i64))
instance : Hk Az := ⟨fun d => [d.leaf, d.cell], fun {a b} h => by
  obtain ⟨a0, a1⟩ := a
  obtain ⟨b0, b1⟩ := b
  simp at h ⊢ <;> omega⟩
def AY : Kk Az := ⟨fun d => Value.agg [(Value.int .i64 d.leaf), (Value.int .i64 d.cell)].toArray, fun d => Cx .i64 d.leaf ∧ Cx .i64 d.cell⟩
structure D7 where
  p : A8
  uses : List (List (List (Az × Int)))
  deriving Inhabited, DecidableEq
def La : Rp D7 := Np (fun d => (d.p, d.uses)) (Gg FY (BG (BG (Kc AY (Hm .i64)))))
structure D8 where
  variables : List Int
  bad : List (List (Az × Bool))
  deriving Inhabited, DecidableEq
def Kg : Rp D8 := Np (fun d => (d.variables, d.bad)) (Gg (BG (AL .i64)) (BG (Kc AY HA)))
structure Ba where
  variables : List Int
  places : List Az
  deriving Inhabited, DecidableEq
def G8 : Rp Ba := Np (fun d => (d.variables, d.places)) (Gg (BG (AL .i64)) (BG AO))
theorem B4 : Ty Try.prog 26 (.struct #[{ name := "Cells", type := 22, offset := 0, embedded := false, tag := "", pkgPath := "", byteOffset := 0 }, { name := "Capacity", type := 23, offset := 1, embedded := false, tag := "", pkgPath := "", byteOffset := 24 }, { name := "Variables", type := 24, offset := 2, embedded := false, tag := "", pkgPath := "", byteOffset := 48 }]) 3 72 [(.slice none 0 0), (.slice none 0 0), (.slice none 0 0)] true :=
  ⟨Try.underlying26, ⟨Try.t26, DQ Try.type26, rfl, rfl, _, rfl, rfl⟩, Try.isAgg26, rfl⟩
theorem Du : Ty Try.prog 67 (.struct #[{ name := "Airport", type := 4, offset := 0, embedded := false, tag := "", pkgPath := "", byteOffset := 0 }, { name := "Index", type := 3, offset := 1, embedded := false, tag := "", pkgPath := "", byteOffset := 8 }, { name := "Minute", type := 3, offset := 2, embedded := false, tag := "", pkgPath := "", byteOffset := 16 }]) 3 24 [(.bool false), (.int .i64 0), (.int .i64 0)] true :=
  ⟨Try.underlying67, ⟨Try.t67, DQ Try.type67, rfl, rfl, _, rfl, rfl⟩, Try.isAgg67, rfl⟩
theorem Gc : Ty Try.prog 76 (.struct #[{ name := "Cell", type := 67, offset := 0, embedded := false, tag := "", pkgPath := "", byteOffset := 0 }, { name := "Places", type := 3, offset := 3, embedded := false, tag := "", pkgPath := "", byteOffset := 24 }]) 4 32 [(.bool false), (.int .i64 0), (.int .i64 0), (.int .i64 0)] true :=
  ⟨Try.underlying76, ⟨Try.t76, DQ Try.type76, rfl, rfl, _, rfl, rfl⟩, Try.isAgg76, rfl⟩
theorem Ho : Ty Try.prog 56 (.slice 76) 1 24 [(.slice none 0 0)] false :=
  ⟨Try.underlying56, ⟨Try.t56, DQ Try.type56, rfl, rfl, _, rfl, rfl⟩, Try.isAgg56, rfl⟩
theorem EX : Ty Try.prog 22 (.slice 67) 1 24 [(.slice none 0 0)] false :=
  ⟨Try.underlying22, ⟨Try.t22, DQ Try.type22, rfl, rfl, _, rfl, rfl⟩, Try.isAgg22, rfl⟩
theorem Bl : Ty Try.prog 31 (.slice 3) 1 24 [(.slice none 0 0)] false :=
  ⟨Try.underlying31, ⟨Try.t31, DQ Try.type31, rfl, rfl, _, rfl, rfl⟩, Try.isAgg31, rfl⟩
theorem B6 : Ty Try.prog 3 (.int .i64) 1 8 [(.int .i64 0)] false :=
  ⟨Try.underlying3, ⟨Try.t3, DQ Try.type3, rfl, rfl, _, rfl, rfl⟩, Try.isAgg3, rfl⟩
theorem Db : Ty Try.prog 23 (.slice 31) 1 24 [(.slice none 0 0)] false :=
  ⟨Try.underlying23, ⟨Try.t23, DQ Try.type23, rfl, rfl, _, rfl, rfl⟩, Try.isAgg23, rfl⟩
theorem FT : Ty Try.prog 58 (.struct #[{ name := "Delay", type := 3, offset := 0, embedded := false, tag := "", pkgPath := "", byteOffset := 0 }, { name := "Cost", type := 3, offset := 1, embedded := false, tag := "", pkgPath := "", byteOffset := 8 }, { name := "Changes", type := 3, offset := 2, embedded := false, tag := "", pkgPath := "", byteOffset := 16 }, { name := "Uses", type := 56, offset := 3, embedded := false, tag := "", pkgPath := "", byteOffset := 24 }]) 4 48 [(.int .i64 0), (.int .i64 0), (.int .i64 0), (.slice none 0 0)] true :=
  ⟨Try.underlying58, ⟨Try.t58, DQ Try.type58, rfl, rfl, _, rfl, rfl⟩, Try.isAgg58, rfl⟩
theorem FJ : Ty Try.prog 59 (.slice 58) 1 24 [(.slice none 0 0)] false :=
  ⟨Try.underlying59, ⟨Try.t59, DQ Try.type59, rfl, rfl, _, rfl, rfl⟩, Try.isAgg59, rfl⟩
theorem Dq : Ty Try.prog 61 (.struct #[{ name := "Flight", type := 3, offset := 0, embedded := false, tag := "", pkgPath := "", byteOffset := 0 }, { name := "Node", type := 3, offset := 1, embedded := false, tag := "", pkgPath := "", byteOffset := 8 }, { name := "Leaves", type := 31, offset := 2, embedded := false, tag := "", pkgPath := "", byteOffset := 16 }, { name := "Choices", type := 59, offset := 3, embedded := false, tag := "", pkgPath := "", byteOffset := 40 }]) 4 64 [(.int .i64 0), (.int .i64 0), (.slice none 0 0), (.slice none 0 0)] true :=
  ⟨Try.underlying61, ⟨Try.t61, DQ Try.type61, rfl, rfl, _, rfl, rfl⟩, Try.isAgg61, rfl⟩
theorem Cz : Ty Try.prog 24 (.slice 61) 1 24 [(.slice none 0 0)] false :=
  ⟨Try.underlying24, ⟨Try.t24, DQ Try.type24, rfl, rfl, _, rfl, rfl⟩, Try.isAgg24, rfl⟩
theorem Jt : Ty Try.prog 4 .bool 1 1 [(.bool false)] false :=
  ⟨Try.underlying4, ⟨Try.t4, DQ Try.type4, rfl, rfl, _, rfl, rfl⟩, Try.isAgg4, rfl⟩
theorem C5 : Ty Try.prog 45 (.struct #[{ name := "Leaf", type := 3, offset := 0, embedded := false, tag := "", pkgPath := "", byteOffset := 0 }, { name := "Cell", type := 3, offset := 1, embedded := false, tag := "", pkgPath := "", byteOffset := 8 }]) 2 16 [(.int .i64 0), (.int .i64 0)] true :=
  ⟨Try.underlying45, ⟨Try.t45, DQ Try.type45, rfl, rfl, _, rfl, rfl⟩, Try.isAgg45, rfl⟩
theorem Xd : ∃ s : String, Ty Try.prog 80 (.struct #[{ name := "p", type := 26, offset := 0, embedded := false, tag := "", pkgPath := s, byteOffset := 0 }, { name := "uses", type := 78, offset := 3, embedded := false, tag := "", pkgPath := s, byteOffset := 72 }]) 4 96 [(.slice none 0 0), (.slice none 0 0), (.slice none 0 0), (.slice none 0 0)] true := ⟨_,⟨Try.underlying80, ⟨Try.t80, DQ Try.type80, rfl, rfl, _, rfl, rfl⟩, Try.isAgg80, rfl⟩⟩
noncomputable def Xe : String := Xd.choose
theorem LA : Ty Try.prog 80 (.struct #[{ name := "p", type := 26, offset := 0, embedded := false, tag := "", pkgPath := Xe, byteOffset := 0 }, { name := "uses", type := 78, offset := 3, embedded := false, tag := "", pkgPath := Xe, byteOffset := 72 }]) 4 96 [(.slice none 0 0), (.slice none 0 0), (.slice none 0 0), (.slice none 0 0)] true := Xd.choose_spec
theorem NM : Ty Try.prog 114 (.slice 115) 1 24 [(.slice none 0 0)] false :=
  ⟨Try.underlying114, ⟨Try.t114, DQ Try.type114, rfl, rfl, _, rfl, rfl⟩, Try.isAgg114, rfl⟩
theorem Lp : Ty Try.prog 115 (.map 45 3) 1 8 [(.map none)] false :=
  ⟨Try.underlying115, ⟨Try.t115, DQ Try.type115, rfl, rfl, _, rfl, rfl⟩, Try.isAgg115, rfl⟩
theorem PC : Ty Try.prog 78 (.slice 114) 1 24 [(.slice none 0 0)] false :=
  ⟨Try.underlying78, ⟨Try.t78, DQ Try.type78, rfl, rfl, _, rfl, rfl⟩, Try.isAgg78, rfl⟩
theorem Qv : Ty Try.prog 117 (.func #[31] #[4] false) 1 8 [.nilFunc] false :=
  ⟨Try.underlying117, ⟨Try.t117, DQ Try.type117, rfl, rfl, _, rfl, rfl⟩, Try.isAgg117, rfl⟩
theorem Sq : Ty Try.prog 118 (.func #[3, 3] #[4] false) 1 8 [.nilFunc] false :=
  ⟨Try.underlying118, ⟨Try.t118, DQ Try.type118, rfl, rfl, _, rfl, rfl⟩, Try.isAgg118, rfl⟩
theorem Xf : ∃ s : String, Ty Try.prog 86 (.struct #[{ name := "variables", type := 31, offset := 0, embedded := false, tag := "", pkgPath := s, byteOffset := 0 }, { name := "bad", type := 84, offset := 1, embedded := false, tag := "", pkgPath := s, byteOffset := 24 }]) 2 48 [(.slice none 0 0), (.slice none 0 0)] true := ⟨_,⟨Try.underlying86, ⟨Try.t86, DQ Try.type86, rfl, rfl, _, rfl, rfl⟩, Try.isAgg86, rfl⟩⟩
noncomputable def UR : String := Xf.choose
theorem KG : Ty Try.prog 86 (.struct #[{ name := "variables", type := 31, offset := 0, embedded := false, tag := "", pkgPath := UR, byteOffset := 0 }, { name := "bad", type := 84, offset := 1, embedded := false, tag := "", pkgPath := UR, byteOffset := 24 }]) 2 48 [(.slice none 0 0), (.slice none 0 0)] true := Xf.choose_spec
theorem MC : Ty Try.prog 84 (.slice 98) 1 24 [(.slice none 0 0)] false :=
  ⟨Try.underlying84, ⟨Try.t84, DQ Try.type84, rfl, rfl, _, rfl, rfl⟩, Try.isAgg84, rfl⟩
theorem LB : Ty Try.prog 98 (.map 45 4) 1 8 [(.map none)] false :=
  ⟨Try.underlying98, ⟨Try.t98, DQ Try.type98, rfl, rfl, _, rfl, rfl⟩, Try.isAgg98, rfl⟩
theorem Xg : Ty Try.prog 101 (.func #[98] #[4] false) 1 8 [.nilFunc] false :=
  ⟨Try.underlying101, ⟨Try.t101, DQ Try.type101, rfl, rfl, _, rfl, rfl⟩, Try.isAgg101, rfl⟩
theorem PD : Ty Try.prog 82 (.slice 86) 1 24 [(.slice none 0 0)] false :=
  ⟨Try.underlying82, ⟨Try.t82, DQ Try.type82, rfl, rfl, _, rfl, rfl⟩, Try.isAgg82, rfl⟩
theorem Eo : Ty Try.prog 32 (.slice 45) 1 24 [(.slice none 0 0)] false :=
  ⟨Try.underlying32, ⟨Try.t32, DQ Try.type32, rfl, rfl, _, rfl, rfl⟩, Try.isAgg32, rfl⟩
theorem DT : Ty Try.prog 34 (.struct #[{ name := "Variables", type := 31, offset := 0, embedded := false, tag := "", pkgPath := "", byteOffset := 0 }, { name := "Places", type := 32, offset := 1, embedded := false, tag := "", pkgPath := "", byteOffset := 24 }]) 2 48 [(.slice none 0 0), (.slice none 0 0)] true :=
  ⟨Try.underlying34, ⟨Try.t34, DQ Try.type34, rfl, rfl, _, rfl, rfl⟩, Try.isAgg34, rfl⟩
theorem Ku : Ty Try.prog 29 (.int .i64) 1 8 [(.int .i64 0)] false :=
  ⟨Try.underlying29, ⟨Try.t29, DQ Try.type29, rfl, rfl, _, rfl, rfl⟩, Try.isAgg29, rfl⟩
theorem Sr : Ty Try.prog 113 (.map 67 3) 1 8 [(.map none)] false :=
  ⟨Try.underlying113, ⟨Try.t113, DQ Try.type113, rfl, rfl, _, rfl, rfl⟩, Try.isAgg113, rfl⟩
theorem Oz : Ty Try.prog 93 (.array 4 3) 4 32 [(.int .i64 0), (.int .i64 0), (.int .i64 0), (.int .i64 0)] true :=
  ⟨Try.underlying93, ⟨Try.t93, DQ Try.type93, rfl, rfl, _, rfl, rfl⟩, Try.isAgg93, rfl⟩
theorem Xh : JV Try.prog #[{ name := "Airport", type := 4, offset := 0, embedded := false, tag := "", pkgPath := "", byteOffset := 0 }, { name := "Index", type := 3, offset := 1, embedded := false, tag := "", pkgPath := "", byteOffset := 8 }, { name := "Minute", type := 3, offset := 2, embedded := false, tag := "", pkgPath := "", byteOffset := 16 }] [(0, 1), (1, 1), (2, 1)] := fun w => by simp [Jt.runSize, B6.runSize, B6.runSize]
theorem We : JV Try.prog #[{ name := "Cell", type := 67, offset := 0, embedded := false, tag := "", pkgPath := "", byteOffset := 0 }, { name := "Places", type := 3, offset := 3, embedded := false, tag := "", pkgPath := "", byteOffset := 24 }] [(0, 3), (3, 1)] := fun w => by simp [Du.runSize, B6.runSize]
theorem Wf : JV Try.prog #[{ name := "Cells", type := 22, offset := 0, embedded := false, tag := "", pkgPath := "", byteOffset := 0 }, { name := "Capacity", type := 23, offset := 1, embedded := false, tag := "", pkgPath := "", byteOffset := 24 }, { name := "Variables", type := 24, offset := 2, embedded := false, tag := "", pkgPath := "", byteOffset := 48 }] [(0, 1), (1, 1), (2, 1)] := fun w => by simp [EX.runSize, Db.runSize, Cz.runSize]
theorem Wg : JV Try.prog #[{ name := "Delay", type := 3, offset := 0, embedded := false, tag := "", pkgPath := "", byteOffset := 0 }, { name := "Cost", type := 3, offset := 1, embedded := false, tag := "", pkgPath := "", byteOffset := 8 }, { name := "Changes", type := 3, offset := 2, embedded := false, tag := "", pkgPath := "", byteOffset := 16 }, { name := "Uses", type := 56, offset := 3, embedded := false, tag := "", pkgPath := "", byteOffset := 24 }] [(0, 1), (1, 1), (2, 1), (3, 1)] := fun w => by simp [B6.runSize, B6.runSize, B6.runSize, Ho.runSize]
theorem Xi : JV Try.prog #[{ name := "Flight", type := 3, offset := 0, embedded := false, tag := "", pkgPath := "", byteOffset := 0 }, { name := "Node", type := 3, offset := 1, embedded := false, tag := "", pkgPath := "", byteOffset := 8 }, { name := "Leaves", type := 31, offset := 2, embedded := false, tag := "", pkgPath := "", byteOffset := 16 }, { name := "Choices", type := 59, offset := 3, embedded := false, tag := "", pkgPath := "", byteOffset := 40 }] [(0, 1), (1, 1), (2, 1), (3, 1)] := fun w => by simp [B6.runSize, B6.runSize, Bl.runSize, FJ.runSize]
theorem US : JV Try.prog #[{ name := "Leaf", type := 3, offset := 0, embedded := false, tag := "", pkgPath := "", byteOffset := 0 }, { name := "Cell", type := 3, offset := 1, embedded := false, tag := "", pkgPath := "", byteOffset := 8 }] [(0, 1), (1, 1)] := fun w => by simp [B6.runSize, B6.runSize]
theorem pl86 : JV Try.prog #[{ name := "variables", type := 31, offset := 0, embedded := false, tag := "", pkgPath := UR, byteOffset := 0 }, { name := "bad", type := 84, offset := 1, embedded := false, tag := "", pkgPath := UR, byteOffset := 24 }] [(0, 1), (1, 1)] := fun w => by simp [Bl.runSize, MC.runSize]
theorem RC : JV Try.prog #[{ name := "Variables", type := 31, offset := 0, embedded := false, tag := "", pkgPath := "", byteOffset := 0 }, { name := "Places", type := 32, offset := 1, embedded := false, tag := "", pkgPath := "", byteOffset := 24 }] [(0, 1), (1, 1)] := fun w => by simp [Bl.runSize, Eo.runSize]
theorem TH (d : Nat) (a b : AK) : ∀ w, (Op.equalIn (d + 2) 67 (.agg [(Value.bool a.airport), (Value.int .i64 a.index), (Value.int .i64 a.minute)].toArray) (.agg [(Value.bool b.airport), (Value.int .i64 b.index), (Value.int .i64 b.minute)].toArray)).run Try.prog w = .ok (decide (a = b)) w := fun w => by
  refine (OP (d := d + 1) Try.underlying67 (by kernel_rfl) (SL.cons (by decide) (BR Jt rfl) (BR Jt rfl) (UK (d := d + 0) Try.underlying4 a.airport b.airport) (SL.cons (by decide) (BR B6 rfl) (BR B6 rfl) (P6 (d := d + 0) Try.underlying3 a.index b.index) (SL.cons (by decide) (BR B6 rfl) (BR B6 rfl) (P6 (d := d + 0) Try.underlying3 a.minute b.minute) SL.nil))) w).trans ?_
  congr 1
  rw [Bool.eq_iff_iff]
  obtain ⟨a0, a1, a2⟩ := a
  obtain ⟨b0, b1, b2⟩ := b
  simp [List.all_cons, and_assoc]
theorem Vo : Try.prog.eqGuardType Try.prog.depth 67 = false := by kernel_rfl
theorem TI (d : Nat) (a b : Az) : ∀ w, (Op.equalIn (d + 2) 45 (.agg [(Value.int .i64 a.leaf), (Value.int .i64 a.cell)].toArray) (.agg [(Value.int .i64 b.leaf), (Value.int .i64 b.cell)].toArray)).run Try.prog w = .ok (decide (a = b)) w := fun w => by
  refine (OP (d := d + 1) Try.underlying45 (by kernel_rfl) (SL.cons (by decide) (BR B6 rfl) (BR B6 rfl) (P6 (d := d + 0) Try.underlying3 a.leaf b.leaf) (SL.cons (by decide) (BR B6 rfl) (BR B6 rfl) (P6 (d := d + 0) Try.underlying3 a.cell b.cell) SL.nil)) w).trans ?_
  congr 1
  rw [Bool.eq_iff_iff]
  obtain ⟨a0, a1⟩ := a
  obtain ⟨b0, b1⟩ := b
  simp [List.all_cons, and_assoc]
theorem Vp : Try.prog.eqGuardType Try.prog.depth 45 = false := by kernel_rfl
theorem OV : Ot Try.prog 67 HP := Ot.agg Try.underlying67 (fun _ => ⟨_, rfl⟩) (fun w e a => OQ (d := 9999) Try.underlying67 (T6.cons (by decide) (BR Jt rfl) (UL (d := 9998) Try.underlying4 a.airport) (T6.cons (by decide) (BR B6 rfl) (P7 (d := 9998) Try.underlying3 a.index) (T6.cons (by decide) (BR B6 rfl) (P7 (d := 9998) Try.underlying3 a.minute) T6.nil))) w) (fun w a b => TH 9998 a b w)
  (fun a => by show Instr.sameBits (9999 + 1) (Value.agg _) (Value.agg _) = true; simp [Instr.sameBits]) (fun {a b} h => by
  obtain ⟨a0, a1, a2⟩ := a
  obtain ⟨b0, b1, b2⟩ := b
  simpa [HP] using h)
theorem Iy : Ot Try.prog 45 AY := Ot.agg Try.underlying45 (fun _ => ⟨_, rfl⟩) (fun w e a => OQ (d := 9999) Try.underlying45 (T6.cons (by decide) (BR B6 rfl) (P7 (d := 9998) Try.underlying3 a.leaf) (T6.cons (by decide) (BR B6 rfl) (P7 (d := 9998) Try.underlying3 a.cell) T6.nil)) w) (fun w a b => TI 9998 a b w)
  (fun a => by show Instr.sameBits (9999 + 1) (Value.agg _) (Value.agg _) = true; simp [Instr.sameBits]) (fun {a b} h => by
  obtain ⟨a0, a1⟩ := a
  obtain ⟨b0, b1⟩ := b
  simpa [AY] using h)

abbrev gt {α : Type} [Inhabited α] (l : List α) (i : Int) : α := l.getD i.toNat default
theorem E1 : Cx .i64 0 := by decide
theorem Ol : Cx .i64 1 := by decide
theorem Au {α : Sort _} {a : α} : a = a := rfl
abbrev wq (i : Int) : Int := IntKind.wrap .i64 i
abbrev BS (p : A8) (a : Option Addr) (b : Nat) (c : Option Addr) (d : Nat) (e : Option Addr) (f : Nat) : List Value := [Sl a p.cells b, Sl c p.capacity d, Sl e p.variables f]
end Go.Fx
namespace Go.Fx
open Go Go.Proofs Go.ChangeShapes Go.WideShapes Go.ChangeAt Go.RowKit Go.Fx
open Go.ChangeMaps (open_string shut_string)
set_option linter.unusedVariables false
set_option maxRecDepth 100000
theorem rd4 {H : Type} {enc : TypeId × Value → H} {w : World} {base : Nat} {spare : Nat → Bool} {held : Bool} : Rd enc Try.prog w base spare held 4 O9 SmT := UF Try.underlying4 (by kernel_rfl)
theorem UT {H : Type} {enc : TypeId × Value → H} {w : World} {base : Nat} {spare : Nat → Bool} {held : Bool} : Rd enc Try.prog w base spare held 3 (AL .i64) (Cx .i64) := VY Try.underlying3 (by kernel_rfl)
def LZ (d : AK) : Prop := SmT d.airport ∧ (Cx .i64) d.index ∧ (Cx .i64) d.minute
theorem Xj {H : Type} {enc : TypeId × Value → H} {w : World} {base : Nat} {spare : Nat → Bool} {held : Bool} : Rd enc Try.prog w base spare held 67 Bx LZ := by
  refine ⟨by kernel_rfl, fun fuel cs y h => ?_⟩
  obtain ⟨xs, n, _, hy, hl, hlen, hf⟩ := DataW.trod_struct Try.underlying67 h
  obtain ⟨x0, h0, s0⟩ := QO Try.underlying67 hf hlen hy (i := 0) rfl rd4
  obtain ⟨x1, h1, s1⟩ := QO Try.underlying67 hf hlen hy (i := 1) rfl UT
  obtain ⟨x2, h2, s2⟩ := QO Try.underlying67 hf hlen hy (i := 2) rfl UT
  have hc : Try.prog.cellsOf 67 = 3 := by kernel_rfl
  refine ⟨⟨x0, x1, x2⟩, ?_, fun hw => ⟨s0 hw, s1 hw, s2 hw⟩⟩
  exact NA (q := (Gg O9 (Gg (AL .i64) (AL .i64)))) (HL h0 (HL h1 h2)) (hl.trans hc)
theorem rd22 {H : Type} {enc : TypeId × Value → H} {w : World} {base : Nat} {spare : Nat → Bool} {held : Bool} : Rd enc Try.prog w base spare held 22 (BG Bx) (Py LZ) := JG Try.underlying22 (by kernel_rfl) (by decide) (of_decide_eq_true (by kernel_rfl)) Xj
theorem Xk {H : Type} {enc : TypeId × Value → H} {w : World} {base : Nat} {spare : Nat → Bool} {held : Bool} : Rd enc Try.prog w base spare held 31 (BG (AL .i64)) (Py (Cx .i64)) := JG Try.underlying31 (by kernel_rfl) (by decide) (of_decide_eq_true (by kernel_rfl)) UT
theorem rd23 {H : Type} {enc : TypeId × Value → H} {w : World} {base : Nat} {spare : Nat → Bool} {held : Bool} : Rd enc Try.prog w base spare held 23 (BG (BG (AL .i64))) (Py (Py (Cx .i64))) := JG Try.underlying23 (by kernel_rfl) (by decide) (of_decide_eq_true (by kernel_rfl)) Xk
def RD (d : Bp) : Prop := LZ d.cell ∧ (Cx .i64) d.places
theorem rd76 {H : Type} {enc : TypeId × Value → H} {w : World} {base : Nat} {spare : Nat → Bool} {held : Bool} : Rd enc Try.prog w base spare held 76 Ed RD := by
  refine ⟨by kernel_rfl, fun fuel cs y h => ?_⟩
  obtain ⟨xs, n, _, hy, hl, hlen, hf⟩ := DataW.trod_struct Try.underlying76 h
  obtain ⟨x0, h0, s0⟩ := QO Try.underlying76 hf hlen hy (i := 0) rfl Xj
  obtain ⟨x1, h1, s1⟩ := QO Try.underlying76 hf hlen hy (i := 1) rfl UT
  have hc : Try.prog.cellsOf 76 = 4 := by kernel_rfl
  refine ⟨⟨x0, x1⟩, ?_, fun hw => ⟨s0 hw, s1 hw⟩⟩
  exact NA (q := (Gg Bx (AL .i64))) (HL h0 h1) (hl.trans hc)
theorem rd56 {H : Type} {enc : TypeId × Value → H} {w : World} {base : Nat} {spare : Nat → Bool} {held : Bool} : Rd enc Try.prog w base spare held 56 (BG Ed) (Py RD) := JG Try.underlying56 (by kernel_rfl) (by decide) (of_decide_eq_true (by kernel_rfl)) rd76
def MD (d : AN) : Prop := (Cx .i64) d.delay ∧ (Cx .i64) d.cost ∧ (Cx .i64) d.changes ∧ (Py RD) d.uses
theorem rd58 {H : Type} {enc : TypeId × Value → H} {w : World} {base : Nat} {spare : Nat → Bool} {held : Bool} : Rd enc Try.prog w base spare held 58 Bt MD := by
  refine ⟨by kernel_rfl, fun fuel cs y h => ?_⟩
  obtain ⟨xs, n, _, hy, hl, hlen, hf⟩ := DataW.trod_struct Try.underlying58 h
  obtain ⟨x0, h0, s0⟩ := QO Try.underlying58 hf hlen hy (i := 0) rfl UT
  obtain ⟨x1, h1, s1⟩ := QO Try.underlying58 hf hlen hy (i := 1) rfl UT
  obtain ⟨x2, h2, s2⟩ := QO Try.underlying58 hf hlen hy (i := 2) rfl UT
  obtain ⟨x3, h3, s3⟩ := QO Try.underlying58 hf hlen hy (i := 3) rfl rd56
  have hc : Try.prog.cellsOf 58 = 4 := by kernel_rfl
  refine ⟨⟨x0, x1, x2, x3⟩, ?_, fun hw => ⟨s0 hw, s1 hw, s2 hw, s3 hw⟩⟩
  exact NA (q := (Gg (AL .i64) (Gg (AL .i64) (Gg (AL .i64) (BG Ed))))) (HL h0 (HL h1 (HL h2 h3))) (hl.trans hc)
theorem rd59 {H : Type} {enc : TypeId × Value → H} {w : World} {base : Nat} {spare : Nat → Bool} {held : Bool} : Rd enc Try.prog w base spare held 59 (BG Bt) (Py MD) := JG Try.underlying59 (by kernel_rfl) (by decide) (of_decide_eq_true (by kernel_rfl)) rd58
def Iz (d : AM) : Prop := (Cx .i64) d.flight ∧ (Cx .i64) d.node ∧ (Py (Cx .i64)) d.leaves ∧ (Py MD) d.choices
theorem rd61 {H : Type} {enc : TypeId × Value → H} {w : World} {base : Nat} {spare : Nat → Bool} {held : Bool} : Rd enc Try.prog w base spare held 61 AS Iz := by
  refine ⟨by kernel_rfl, fun fuel cs y h => ?_⟩
  obtain ⟨xs, n, _, hy, hl, hlen, hf⟩ := DataW.trod_struct Try.underlying61 h
  obtain ⟨x0, h0, s0⟩ := QO Try.underlying61 hf hlen hy (i := 0) rfl UT
  obtain ⟨x1, h1, s1⟩ := QO Try.underlying61 hf hlen hy (i := 1) rfl UT
  obtain ⟨x2, h2, s2⟩ := QO Try.underlying61 hf hlen hy (i := 2) rfl Xk
  obtain ⟨x3, h3, s3⟩ := QO Try.underlying61 hf hlen hy (i := 3) rfl rd59
  have hc : Try.prog.cellsOf 61 = 4 := by kernel_rfl
  refine ⟨⟨x0, x1, x2, x3⟩, ?_, fun hw => ⟨s0 hw, s1 hw, s2 hw, s3 hw⟩⟩
  exact NA (q := (Gg (AL .i64) (Gg (AL .i64) (Gg (BG (AL .i64)) (BG Bt))))) (HL h0 (HL h1 (HL h2 h3))) (hl.trans hc)
theorem rd24 {H : Type} {enc : TypeId × Value → H} {w : World} {base : Nat} {spare : Nat → Bool} {held : Bool} : Rd enc Try.prog w base spare held 24 (BG AS) (Py Iz) := JG Try.underlying24 (by kernel_rfl) (by decide) (of_decide_eq_true (by kernel_rfl)) rd61
def C3 (d : A8) : Prop := (Py LZ) d.cells ∧ (Py (Py (Cx .i64))) d.capacity ∧ (Py Iz) d.variables
theorem rd26 {H : Type} {enc : TypeId × Value → H} {w : World} {base : Nat} {spare : Nat → Bool} {held : Bool} : Rd enc Try.prog w base spare held 26 FY C3 := by
  refine ⟨by kernel_rfl, fun fuel cs y h => ?_⟩
  obtain ⟨xs, n, _, hy, hl, hlen, hf⟩ := DataW.trod_struct Try.underlying26 h
  obtain ⟨x0, h0, s0⟩ := QO Try.underlying26 hf hlen hy (i := 0) rfl rd22
  obtain ⟨x1, h1, s1⟩ := QO Try.underlying26 hf hlen hy (i := 1) rfl rd23
  obtain ⟨x2, h2, s2⟩ := QO Try.underlying26 hf hlen hy (i := 2) rfl rd24
  have hc : Try.prog.cellsOf 26 = 3 := by kernel_rfl
  refine ⟨⟨x0, x1, x2⟩, ?_, fun hw => ⟨s0 hw, s1 hw, s2 hw⟩⟩
  exact NA (q := (Gg (BG Bx) (Gg (BG (BG (AL .i64))) (BG AS)))) (HL h0 (HL h1 h2)) (hl.trans hc)
def TJ (d : Az) : Prop := (Cx .i64) d.leaf ∧ (Cx .i64) d.cell
def ME (d : Ba) : Prop := (Py (Cx .i64)) d.variables ∧ (Py TJ) d.places
end Go.Fx
set_option linter.unusedVariables false
set_option linter.unusedSimpArgs false
set_option maxRecDepth 100000
set_option maxHeartbeats 0
namespace Go.Fx
open Go Go.RowKit Go.Proofs
def CB (n:Int) (lo:Int) (hi:Int):Option Bool:=
 bif (decide (lo≤n)) then
  some (decide (n≤hi))
 else
  some false

theorem Ej {w:World} {O:List Nat} {n:Int} {lo:Int} {hi:Int} (hO:∀k∈O,k<w.heap.size) (Ra:Cx .i64 n) (Rb:Cx .i64 lo) (Rc:Cx .i64 hi) {x:Bool} (A:CB n lo hi=some x):
 Ok Try.prog 33 [Iv n,Iv lo,Iv hi] w O vB x:=by
 unfold CB at A
 refine Br (n:=15) (xs:=[.tmp 6]) Try.func33 Au Try.ntmps33 Try.results33 Au ?_
 have hs:=St.start hO
 refine Aw<|Av<|Bn (Bo false) Au<|Ax<|Aw<|Av<|Bb (Iv lo) Au<|Bb (Iv n) Au<|A9<|JS Au Au<|Bb (Bo (decide (lo≤n))) Au<|Bz A (fun F A=>?_) (fun F A=>?_)
 refine BO Au Au<|AD (v:=Iv n) Au<|BO Au Au<|AD (v:=Iv hi) Au<|BO Au Au<|JS Au Au<|FM (Bo (decide (n≤hi))) Au Au<|Bn (Bo (decide (n≤hi))) Au<|Ax<|AV<|⟨_,DX,[Bo (decide (n≤hi))],⟨Au,trivial⟩,hs.ext,?_⟩
 exact Vr.eq (a:=vB) (x:=decide (n≤hi)) Au (oi A)
 iterate 3 refine AI Au (AJ Au Au) Au ?_
 refine F8 (Bo false) Au Au<|Bn (Bo false) Au<|Ax<|AV<|⟨_,DX,[Bo false],⟨Au,trivial⟩,hs.ext,?_⟩
 exact Vr.eq (a:=vB) (x:=false) Au (oi A)

abbrev Xl:List Nat:=[4,5,6,7,8,9,10,11,12,13,14,15,16,17,18,19,20,21,22,23]

def GK (l:List AK) (less:AK→AK→Option Int) (F:Int→Option Bool) (A:Int):Option Bool:=
 bif (decide (A<(l.length:Int))) then
  ck ((0:Int)≤(IntKind.wrap .i64 (A - 1))∧(IntKind.wrap .i64 (A - 1))<(l.length:Int))<|
  ck ((0:Int)≤A∧A<(l.length:Int))<|
  (less (l.getD (IntKind.wrap .i64 (A - 1)).toNat default) (l.getD A.toNat default)).bind fun G=>
  bif (decide (0≤G)) then
   some false
  else
   F (IntKind.wrap .i64 (A+1))
 else
  some true

def H5 (l:List AK) (less:AK→AK→Option Int):Option Bool:=
 B0 (GK l less) (((l.length:Int) - 1).toNat+1) 1

theorem O3 {w:World} {O:List Nat} {l:List AK} {less:AK→AK→Option Int} {Aa:Option Addr} {Ca:Nat} {v_less:Value} (hO:∀k∈O,k<w.heap.size) (Fa:CA Bx w O Aa Ca l) (F_less:EC Try.prog w O v_less (vA Bx) (vA Bx) (vI .i64) less) {x:Bool} (F:H5 l less=some x):
 Ok Try.prog 34 [Sl Aa l Ca,v_less] w O vB x:=by
 unfold H5 at F
 refine Br (n:=24) (xs:=[.tmp 4]) Try.func34 Au Try.ntmps34 Try.results34 Au ?_
 have hs:=St.start hO
 refine Aw<|Av<|Bn (Bo false) Au<|Ax<|Aw<|Aw<|Av<|Bn (Iv 1) Au<|Ax<|AC<|Wr [] [(0,Sl Aa l Ca),(1,v_less),(5,Iv 1)] fun bA=>Bf Xl (fun m fr w'=>∃(A:Int) (aD:Be),aD=[]∧fr [] [(5,Iv A)]∧hs.S (ks aD O) w'∧St ⟨w,[],[]⟩ O w' aD∧Cx .i64 A∧B0 (GK l less) m A=some x) (((l.length:Int) - 1).toNat+1) ⟨1,_,Au,BB.of ⟨Au,trivial⟩,AA.refl _ _,hs,Ol,F⟩ ?_ ?_
 rintro _ _ ⟨_,_,_,_,_,_,_,F⟩;exact CF F
 rintro m6 K5 aQ a2 w7 ⟨A,_,rfl,J,M,X,Ra,F⟩
 obtain⟨bB,aJ,F⟩:=CG F;unfold GK at F
 rw [J.eq];clear J
 have N:=M
 refine Aw<|Aw<|Av<|Bb (Iv A) Au<|Bb (Sl Aa l Ca) Au<|A9<|AZ Try.underlying22 Au ?_
 replace Fa:=Fa.step M
 have a3:=AX Fa
 refine A9<|By Au Au<|Ax<|AF F Au (fun aK F=>?_) (fun aK F=>?_)
 refine AG<|Aw<|AC<|Aw<|B7 (g0:=[]) (m:=10) (fl:=[]) (CQ X) Au (.inl Au) Au (by decide+kernel) ?_  -- 4
 refine Bc v_less (fun _ _ _ hi G=>AD (v:=v_less) (G 1 Au)<|Gz hi)<|Bc (Sl Aa l Ca) (fun _ _ _ hi G=>AD (v:=Sl Aa l Ca) (G 0 Au)<|Gz hi)<|Bc (Iv A) (fun _ _ _ hi G=>AD (v:=Iv A) (G 5 Au)<|Gz hi)<|Bc (Iv (wq (A - 1))) (fun _ _ _ hi G=>FN (G 14 Au) Au<|Gz hi) ?_
 obtain⟨aA,F⟩:=AE F
 refine Bd (VP _ _ Bx (gt l (wq (A - 1)))) (VP.stab _ _) (fun a4 bC g U hi G=>?_) ?_
 obtain⟨-,aE,-⟩:=U
 replace Fa:=Fa.step aE
 refine Ay<|AB (q:=Bx) EX Du (G 13 Au) (G 15 Au) Fa Au aA.1 aA.2 ?_
 intro bD aR
 exact Bs.same hi ⟨_,Au,aR⟩
 refine Bd (VD _ _ (vA Bx) (gt l (wq (A - 1)))) (VD.stab _ _) (fun a5 bE g U hi G=>?_) ?_
 obtain⟨bF,aS,aT⟩:=G 16 Au
 refine Ay<|BE Du aS aT Au ?_
 intro a6 aU
 obtain⟨_,_,rfl,rfl,⟨_,_,rfl,⟨rfl,Rb⟩,⟨rfl,Rc⟩⟩⟩:=aU
 exact Bs.same hi (show Vr.vd (vA Bx) _ _ _ _ from(JX (C2 (AW GJ (AW (AU Rb) (AU Rc))))))
 refine Bc (Sl Aa l Ca) (fun _ _ _ hi G=>AD (v:=Sl Aa l Ca) (G 0 Au)<|Gz hi)<|Bc (Iv A) (fun _ _ _ hi G=>AD (v:=Iv A) (G 5 Au)<|Gz hi) ?_
 obtain⟨aB,F⟩:=AE F
 refine Bd (VP _ _ Bx (gt l A)) (VP.stab _ _) (fun a7 bG g U hi G=>?_) ?_
 obtain⟨-,aE,-⟩:=U
 replace Fa:=Fa.step aE
 refine Ay<|AB (q:=Bx) EX Du (G 18 Au) (G 19 Au) Fa Au aB.1 aB.2 ?_
 intro bH aV
 exact Bs.same hi ⟨_,Au,aV⟩
 refine Bd (VD _ _ (vA Bx) (gt l A)) (VD.stab _ _) (fun a8 bI g U hi G=>?_) ?_
 obtain⟨bJ,aW,aX⟩:=G 20 Au
 refine Ay<|BE Du aW aX Au ?_
 intro a9 aY
 obtain⟨_,_,rfl,rfl,⟨_,_,rfl,⟨rfl,Rd⟩,⟨rfl,Re⟩⟩⟩:=aY
 exact Bs.same hi (show Vr.vd (vA Bx) _ _ _ _ from(JX (C2 (AW GJ (AW (AU Rd) (AU Re))))))
 refine BD fun bK bL aL aM=>?_
 obtain⟨-,aF,-⟩:=aL
 obtain⟨I,aG⟩:=AA.nx aM
 rintro bM aH
 replace aH:Vr.vd (vA Bx) _ _ _ _:=aH
 obtain⟨_,rfl,⟨_,_,rfl,rfl,⟨_,_,rfl,⟨rfl,Rf⟩,⟨rfl,Rg⟩⟩⟩⟩:=aH
 rintro _ ⟨bN,rfl,Y⟩ _ rfl _ rfl bO aI
 replace aI:Vr.vd (vA Bx) _ _ _ _:=aI
 obtain⟨_,rfl,⟨_,_,rfl,rfl,⟨_,_,rfl,⟨rfl,Rh⟩,⟨rfl,Ri⟩⟩⟩⟩:=aI
 rintro _ ⟨bP,rfl,Z⟩ _ rfl _ rfl _ rfl _ rfl
 have aN:=X.to I (aF.trans aG)
 replace Y:=Y.step aG;replace Z:=Z.step aG;clear X
 obtain⟨bQ,aO,F⟩:=bd F
 replace F_less:=F_less.step (M.trans aN)
 refine A9<|It Au (F_less.call I.ltw (JX (C2 (AW GJ (AW (AU Rh) (AU Ri))))) (JX (C2 (AW GJ (AW (AU Rf) (AU Rg))))) aO) Au ?_
 rintro bR bS ⟨W,aZ⟩
 have aC:=I.call W
 have a0:=I.stepE W
 clear W
 clear I
 obtain⟨rfl,Rj⟩:=aZ
 refine A9<|HH Au Au<|Ax<|AF F Au (fun aP F=>?_) (fun aP F=>?_)
 refine Aw ?_
 clear Fa F_less Y Z
 refine Av<|Bn (Bo false) Au<|Ax<|AV<|⟨_,DX,[Bo false],⟨Au,trivial⟩,aC.ext,?_⟩
 exact Vr.eq (a:=vB) (x:=false) Au (oi F)
 refine AG ?_
 clear Y Z
 refine Av<|Bb (Iv A) Au<|A9<|Bg Au Au<|Bn (Iv (wq (A+1))) Au<|Ax ?_
 have a1:=(aN.trans a0)
 replace N:=N.trans a1
 exact aQ _ _ ⟨(wq (A+1)),_,Au,BB.of ⟨Au,trivial⟩,N,aC,(AT .i64 _),Dc aJ F⟩
 refine Bq<|Aw ?_
 clear Fa F_less
 refine Av<|Bn (Bo true) Au<|Ax<|AV<|⟨_,DX,[Bo true],⟨Au,trivial⟩,X.ext,?_⟩
 exact Vr.eq (a:=vB) (x:=true) Au (oi F)

def H6 (x_:Int):Option Bool:=
 some (decide (x_≠x_))

theorem Lq {w:World} {O:List Nat} {x_:Int} (hO:∀k∈O,k<w.heap.size) (Ra:Cx .i64 x_) {x:Bool} (A:H6 x_=some x):
 Ok Try.prog 66 [Iv x_] w O vB x:=by
 unfold H6 at A
 refine Br (n:=6) (xs:=[.tmp 2]) Try.func66 Au Try.ntmps66 Try.results66 Au ?_
 have hs:=St.start hO
 refine Aw<|Av<|Bn (Bo false) Au<|Ax<|Aw<|Av<|Bb (Iv x_) Au<|Bb (Iv x_) Au<|A9<|Eh Au Au<|Bn (Bo (decide (x_≠x_))) Au<|Ax<|AV<|⟨_,DX,[Bo (decide (x_≠x_))],⟨Au,trivial⟩,hs.ext,?_⟩
 exact Vr.eq (a:=vB) (x:=decide (x_≠x_)) Au (oi A)

def CS (x_:Int) (y:Int):Option Int:=
 (H6 x_).bind fun F=>
 (H6 y).bind fun A=>
 bif F then
  bif A then
   some 0
  else
   some (-1)
 else
  bif A then
   some 1
  else
   bif (decide (x_<y)) then
    some (-1)
   else
    bif (decide (y<x_)) then
     some 1
    else
     some 0

theorem Gd {w:World} {O:List Nat} {x_:Int} {y:Int} (hO:∀k∈O,k<w.heap.size) (Ra:Cx .i64 x_) (Rb:Cx .i64 y) {x:Int} (A:CS x_ y=some x):
 Ok Try.prog 39 [Iv x_,Iv y] w O (vI .i64) x:=by
 unfold CS at A
 refine Br (n:=20) (xs:=[.tmp 4]) Try.func39 Au Try.ntmps39 Try.results39 Au ?_
 have hs:=St.start hO
 refine Aw<|Av<|Bn (Iv 0) Au<|Ax<|Aw<|Av<|Bb (Iv x_) Au ?_
 obtain⟨I,Y,A⟩:=bd A
 refine A9<|Bi hs Try.call66 (Lq (x_:=x_) hs.ltw Ra Y) Au ?_
 rintro v2 w3 p7 J h5
 obtain rfl:=h5
 refine Bn (Bo I) Au<|Ax<|Aw<|Av<|Bb (Iv y) Au ?_
 obtain⟨F,Z,A⟩:=bd A
 refine A9<|Bi J Try.call66 (Lq (x_:=y) J.ltw Rb Z) Au ?_
 rintro aC aD aE G aA
 clear J
 obtain rfl:=aA
 refine Bn (Bo F) Au<|Ax<|Aw<|Aw<|Av<|Bb (Bo I) Au<|Ax<|AF A Au (fun M A=>?_) (fun M A=>?_)
 refine Aw<|Aw<|Av<|Bb (Bo F) Au<|Ax<|AF A Au (fun N A=>?_) (fun N A=>?_)
 refine Aw<|Av<|Bn (Iv 0) Au<|Ax<|AV<|⟨_,DX,[Iv 0],⟨Au,trivial⟩,G.ext,?_⟩
 exact Vr.eq (a:=(vI .i64)) (x:=0) ⟨Au,E1⟩ (oi A)
 refine AG<|Aw<|Av<|Bn (Iv (-1)) Au<|Ax<|AV<|⟨_,DX,[Iv (-1)],⟨Au,trivial⟩,G.ext,?_⟩
 exact Vr.eq (a:=(vI .i64)) (x:=(-1)) ⟨Au,(show Cx .i64 (-1) from by decide)⟩ (oi A)
 refine AG<|Aw<|Aw<|Av<|Bb (Bo F) Au<|Ax<|AF A Au (fun U A=>?_) (fun U A=>?_)
 refine Aw<|Av<|Bn (Iv 1) Au<|Ax<|AV<|⟨_,DX,[Iv 1],⟨Au,trivial⟩,G.ext,?_⟩
 exact Vr.eq (a:=(vI .i64)) (x:=1) ⟨Au,Ol⟩ (oi A)
 refine AG<|Aw<|Aw<|Av<|Bb (Iv x_) Au<|Bb (Iv y) Au<|A9<|By Au Au<|Ax<|AF A Au (fun W A=>?_) (fun W A=>?_)
 refine Aw<|Av<|Bn (Iv (-1)) Au<|Ax<|AV<|⟨_,DX,[Iv (-1)],⟨Au,trivial⟩,G.ext,?_⟩
 exact Vr.eq (a:=(vI .i64)) (x:=(-1)) ⟨Au,(show Cx .i64 (-1) from by decide)⟩ (oi A)
 refine AG<|Aw<|Aw<|Av<|Bb (Iv x_) Au<|Bb (Iv y) Au<|A9<|EB Au Au<|Ax<|AF A Au (fun X A=>?_) (fun X A=>?_)
 refine Aw<|Av<|Bn (Iv 1) Au<|Ax<|AV<|⟨_,DX,[Iv 1],⟨Au,trivial⟩,G.ext,?_⟩
 exact Vr.eq (a:=(vI .i64)) (x:=1) ⟨Au,Ol⟩ (oi A)
 refine AG<|Aw<|Av<|Bn (Iv 0) Au<|Ax<|AV<|⟨_,DX,[Iv 0],⟨Au,trivial⟩,G.ext,?_⟩
 exact Vr.eq (a:=(vI .i64)) (x:=0) ⟨Au,E1⟩ (oi A)

abbrev Xm:List Nat:=[2,5,8,9,10,11,12,13,14,15,16]

def Hf (vals:List Int) (F:Int→Option Int) (A:Int):Option Int:=
 bif (decide (A<(vals.length:Int))) then
  ck ((0:Int)≤A∧A<(vals.length:Int))<|
  bif (decide ((vals.getD A.toNat default)≠0)) then
   some (vals.getD A.toNat default)
  else
   F (IntKind.wrap .i64 (A+1))
 else
  some 0

def Ih (vals:List Int):Option Int:=
 B0 (Hf vals) (((vals.length:Int) - 0).toNat+1) 0

theorem NN {w:World} {O:List Nat} {vals:List Int} {Aa:Option Addr} {Ca:Nat} (hO:∀k∈O,k<w.heap.size) (Fa:CA (AL .i64) w O Aa Ca vals) {x:Int} (F:Ih vals=some x):
 Ok Try.prog 64 [Sl Aa vals Ca] w O (vI .i64) x:=by
 unfold Ih at F
 refine Br (n:=18) (xs:=[.tmp 2]) Try.func64 Au Try.ntmps64 Try.results64 Au ?_
 have hs:=St.start hO
 refine Aw<|Av<|Bn (Iv 0) Au<|Ax<|Aw<|Av<|Bn (Iv 0) Au<|Ax<|Aw<|Aw<|Av<|Bb (Sl Aa vals Ca) Au<|A9<|AZ Try.underlying31 Au ?_
 have aD:=AX Fa
 refine Bb (Iv 0) Au<|Ax<|AC<|Wr [] [(3,Iv 0),(6,Sl Aa vals Ca),(7,Iv (vals.length:Int)),(8,Iv 0)] fun aE=>Bf Xm (fun m fr w'=>∃(A:Int) (M:Be),M=[]∧fr [] [(8,Iv A)]∧hs.S (ks M O) w'∧St ⟨w,[],[]⟩ O w' M∧Cx .i64 A∧B0 (Hf vals) m A=some x) (((vals.length:Int) - 0).toNat+1) ⟨0,_,Au,BB.of ⟨Au,trivial⟩,AA.refl _ _,hs,E1,F⟩ ?_ ?_
 rintro _ _ ⟨_,_,_,_,_,_,_,F⟩;exact CF F
 rintro m7 K6 aA aC w8 ⟨A,_,rfl,G,I,N,Ra,F⟩
 obtain⟨aF,U,F⟩:=CG F;unfold Hf at F
 rw [G.eq];clear G
 have W:=I
 refine Aw<|Av<|A9<|By Au Au<|Ax<|Aw<|AF F Au (fun X F=>?_) (fun X F=>?_)
 refine AG<|Aw<|AC<|Aw<|Av ?_
 obtain⟨J,F⟩:=AE F
 replace Fa:=Fa.step I
 refine A9<|AB (q:=(AL .i64)) Bl B6 Au Au Fa Au J.1 J.2 ?_
 intro aG Y
 refine A9<|AR B6 Au Y Au ?_
 intro aH aB
 obtain⟨rfl,Rb⟩:=BK aB
 refine Bn (Iv (gt vals A)) Au<|Ax<|Aw ?_
 clear Y
 refine Av<|Bb (Iv (gt vals A)) Au<|Bb (Iv 0) Au<|A9<|Eh Au Au<|Ax<|AF F Au (fun Z F=>?_) (fun Z F=>?_)
 refine Aw ?_
 clear Fa
 refine Av<|Bb (Iv (gt vals A)) Au<|Bn (Iv (gt vals A)) Au<|Ax<|AV<|⟨_,DX,[Iv (gt vals A)],⟨Au,trivial⟩,N.ext,?_⟩
 exact Vr.eq (a:=(vI .i64)) (x:=gt vals A) ⟨Au,Rb⟩ (oi F)
 exact AG<|Av<|A9<|Bg Au Au<|Bb (Iv (wq (A+1))) Au<|Ax<|aA _ _ ⟨(wq (A+1)),_,Au,BB.of ⟨Au,trivial⟩,W,N,(AT .i64 _),Dc U F⟩
 refine Bq<|Aw ?_
 clear Fa
 refine Av<|Bb (Iv 0) Au<|Bn (Iv 0) Au<|Ax<|AV<|⟨_,DX,[Iv 0],⟨Au,trivial⟩,N.ext,?_⟩
 exact Vr.eq (a:=(vI .i64)) (x:=0) ⟨Au,E1⟩ (oi F)

def CH (a:AK) (b:AK):Option Int:=
 bif (!(a.airport == b.airport)) then
  bif b.airport then
   some (-1)
  else
   some 1
 else
  (CS a.index b.index).bind fun A=>
  (CS a.minute b.minute).bind fun F=>
  (Ih [A,F]).bind fun G=>
  some G

theorem GE {w:World} {O:List Nat} {a:AK} {b:AK} (hO:∀k∈O,k<w.heap.size) (Ra:Cx .i64 a.index) (Rb:Cx .i64 a.minute) (Rc:Cx .i64 b.index) (Rd:Cx .i64 b.minute) {x:Int} (J:CH a b=some x):
 Ok Try.prog 35 [Value.agg [Bo a.airport,Iv a.index,Iv a.minute].toArray,Value.agg [Bo b.airport,Iv b.index,Iv b.minute].toArray] w O (vI .i64) x:=by
 unfold CH at J
 refine Br (n:=24) (xs:=[.tmp 4]) Try.func35 Au Try.ntmps35 Try.results35 Au ?_
 have hs:=St.start hO
 refine Aw<|Av<|A9<|BT (cs:=[Bo a.airport,Iv a.index,Iv a.minute]) hs Au Au ?_
 intro b1 w2 _ p3 aB
 refine A9<|BT (cs:=[Bo b.airport,Iv b.index,Iv b.minute]) aB Au Au ?_
 intro b6 w7 _ p8 M
 clear aB
 refine Bn (Iv 0) Au<|Ax<|Aw<|Aw<|Av<|A9<|AQ 0 Du Au Jt Au Au<|A9<|AP 1 Jt M Au Au Au<|A9<|AQ 0 Du Au Jt Au Au<|A9<|AP 0 Jt M Au Au Au<|A9<|LO Try.underlying4 Au Au<|Ax<|AF J Au (fun aC J=>?_) (fun aC J=>?_)
 refine Aw<|Aw ?_
 obtain⟨I,aW⟩:=M.sub (bs':=[(some b6,Oc [Bo b.airport,Iv b.index,Iv b.minute] 67)]) (.cons_cons _ (.cons _ List.Sublist.slnil))
 clear M
 refine Av<|A9<|AQ 0 Du Au Jt Au Au<|A9<|AP 0 Jt I Au Au Au<|Ax<|AF J Au (fun aD J=>?_) (fun aD J=>?_)
 refine Aw ?_
 obtain⟨aE,aX⟩:=I.sub (bs':=[]) (.cons _ List.Sublist.slnil)
 clear I
 refine Av<|Bn (Iv (-1)) Au<|Ax<|AV<|⟨_,DX,[Iv (-1)],⟨Au,trivial⟩,aE.ext,?_⟩
 exact Vr.eq (a:=(vI .i64)) (x:=(-1)) ⟨Au,(show Cx .i64 (-1) from by decide)⟩ (oi J)
 refine AG<|Aw ?_
 obtain⟨aF,aY⟩:=I.sub (bs':=[]) (.cons _ List.Sublist.slnil)
 clear I
 refine Av<|Bn (Iv 1) Au<|Ax<|AV<|⟨_,DX,[Iv 1],⟨Au,trivial⟩,aF.ext,?_⟩
 exact Vr.eq (a:=(vI .i64)) (x:=1) ⟨Au,Ol⟩ (oi J)
 refine AG<|Aw<|B7 (g0:=[]) (m:=9) (fl:=[]) (CQ M) Au (.inl Au) Au (by decide+kernel) ?_  -- 5
 refine Bc (Pt b1 1) (fun _ _ _ hi G=>AQ 1 Du Au B6 (G 2 Au) Au<|Gz hi)<|Bc (Iv a.index) (fun _ _ _ hi G=>AP 1 B6 (AA.nx hi).1 (G 12 Au) Au Au<|Gz hi)<|Bc (Pt b6 1) (fun _ _ _ hi G=>AQ 1 Du Au B6 (G 3 Au) Au<|Gz hi)<|Bc (Iv b.index) (fun _ _ _ hi G=>AP 0 B6 (AA.nx hi).1 (G 14 Au) Au Au<|Gz hi) ?_
 obtain⟨A,aG,J⟩:=bd J
 refine Bd (VD _ _ (vI .i64) A) (VD.stab _ _) (fun aU aZ g a0 hi G=>?_) ?_
 refine Ay (Gi Try.call39 (Gd (O:=ks (DS g++[(some b6,Oc [Bo b.airport,Iv b.index,Iv b.minute] 67),(some b1,Oc [Bo a.airport,Iv a.index,Iv a.minute] 67)]) O) (x_:=a.index) (y:=b.index) hi.ltw Ra Rc aG) (by simp only [List.map,Array.toList,(show ev _ (.tmp 13)=_ from(G 13 Au)),(show ev _ (.tmp 15)=_ from(G 15 Au))]<;> rfl) ?_)
 rintro a1 a2 ⟨aH,aP⟩
 exact Bs.call hi aH aP
 refine Bc (Pt b1 2) (fun _ _ _ hi G=>AQ 2 Du Au B6 (G 2 Au) Au<|Gz hi)<|Bc (Iv a.minute) (fun _ _ _ hi G=>AP 1 B6 (AA.nx hi).1 (G 17 Au) Au Au<|Gz hi)<|Bc (Pt b6 2) (fun _ _ _ hi G=>AQ 2 Du Au B6 (G 3 Au) Au<|Gz hi)<|Bc (Iv b.minute) (fun _ _ _ hi G=>AP 0 B6 (AA.nx hi).1 (G 19 Au) Au Au<|Gz hi)<|BD fun a3 a4 aI aJ=>?_
 obtain⟨-,Z,-⟩:=aI
 obtain⟨N,aQ⟩:=AA.nx aJ
 rintro _ rfl _ rfl _ rfl _ rfl a5 aA
 replace aA:Vr.vd (vI .i64) _ _ _ _:=aA
 obtain⟨rfl,Re⟩:=aA
 rintro _ rfl _ rfl _ rfl _ rfl
 have a6:=M.to N (Z.trans aQ)
 clear M
 obtain⟨F,aK,J⟩:=bd J
 refine A9<|Bi N Try.call39 (Gd (x_:=a.minute) (y:=b.minute) N.ltw Rb Rd aK) Au ?_
 rintro a7 a8 a9 X aR
 clear N
 obtain⟨rfl,Rf⟩:=aR
 refine A9<|Bm (cs:=[Iv A,Iv F]) (parts:=[(0,.tmp 16),(1,.tmp 21)]) Bl B6 X (by decide) Au ?_
 intro bA bB aV bC Y
 clear X
 obtain⟨U,bD,aS⟩:=St.publish (i:=0) (o:=0) (c:=2) (xs:=[A,F]) Y Au (show E0 (AL .i64) _ _ [Iv A,Iv F] [A,F] from⟨_,_,Au,AU Re,⟨_,_,Au,AU Rf,E0.nil⟩⟩) (BQ Au) (BQ Au) (BQ Au)
 clear Y
 obtain⟨W,aL,J⟩:=bd J
 refine A9<|Bi U Try.call64 (NN (vals:=[A,F]) U.ltw aS aL) Au ?_
 rintro bE bF bG aM aT
 clear U
 obtain⟨rfl,Rg⟩:=aT
 refine Bn (Iv W) Au<|Ax<|AV<|⟨_,DX,[Iv W],⟨Au,trivial⟩,aM.ext,?_⟩
 exact Vr.eq (a:=(vI .i64)) (x:=W) ⟨Au,Rg⟩ (oi J)

abbrev Xn:List Nat:=[4,5,8,9,10,11,12,13,14,15,16,17,18]

def BZ (s:List Int) (f:Int→Option Bool) (F:Int→Option Int) (A:Int):Option Int:=
 bif (decide (A<(s.length:Int))) then
  ck ((0:Int)≤A∧A<(s.length:Int))<|
  (f (s.getD A.toNat default)).bind fun G=>
  bif G then
   some A
  else
   F (IntKind.wrap .i64 (A+1))
 else
  some (-1)

def EF (s:List Int) (f:Int→Option Bool):Option Int:=
 B0 (BZ s f) (((s.length:Int) - 0).toNat+1) 0

theorem I9 {w:World} {O:List Nat} {s:List Int} {f:Int→Option Bool} {Aa:Option Addr} {Ca:Nat} {v_f:Value} (hO:∀k∈O,k<w.heap.size) (Fa:CA (AL .i64) w O Aa Ca s) (F_f:G6 Try.prog w O v_f (vI .i64) vB f) {x:Int} (F:EF s f=some x):
 Ok Try.prog 65 [Sl Aa s Ca,v_f] w O (vI .i64) x:=by
 unfold EF at F
 refine Br (n:=19) (xs:=[.tmp 4]) Try.func65 Au Try.ntmps65 Try.results65 Au ?_
 have hs:=St.start hO
 refine Aw<|Av<|Bn (Iv 0) Au<|Ax<|Aw<|Aw<|Av<|Bb (Sl Aa s Ca) Au<|A9<|AZ Try.underlying31 Au ?_
 have aI:=AX Fa
 refine Bb (Iv 0) Au<|Ax<|AC<|Wr [] [(0,Sl Aa s Ca),(1,v_f),(7,Iv (s.length:Int)),(8,Iv 0)] fun aJ=>Bf Xn (fun m fr w'=>∃(A:Int) (X:Be),X=[]∧fr [] [(8,Iv A)]∧hs.S (ks X O) w'∧St ⟨w,[],[]⟩ O w' X∧Cx .i64 A∧B0 (BZ s f) m A=some x) (((s.length:Int) - 0).toNat+1) ⟨0,_,Au,BB.of ⟨Au,trivial⟩,AA.refl _ _,hs,E1,F⟩ ?_ ?_
 rintro _ _ ⟨_,_,_,_,_,_,_,F⟩;exact CF F
 rintro m7 K6 aD aH w8 ⟨A,_,rfl,I,G,J,Ra,F⟩
 obtain⟨aK,Z,F⟩:=CG F;unfold BZ at F
 rw [I.eq];clear I
 have M:=G
 refine Aw<|Av<|A9<|By Au Au<|Ax<|Aw<|AF F Au (fun aA F=>?_) (fun aA F=>?_)
 refine AG<|Aw<|AC<|Aw<|Av<|Bb (Iv A) Au<|Bn (Iv A) Au<|Ax<|Aw<|Av<|Bb v_f Au<|Bb (Sl Aa s Ca) Au<|Bb (Iv A) Au ?_
 obtain⟨U,F⟩:=AE F
 replace Fa:=Fa.step G
 refine A9<|AB (q:=(AL .i64)) Bl B6 Au Au Fa Au U.1 U.2 ?_
 intro aL Y
 refine A9<|AR B6 Au Y Au ?_
 intro aM aE
 obtain⟨rfl,Rb⟩:=BK aE
 obtain⟨aN,aB,F⟩:=bd F
 replace F_f:=F_f.step G
 refine A9<|It Au (F_f.call J.ltw ⟨Au,Rb⟩ aB) Au ?_
 rintro aO aP ⟨N,aF⟩
 have W:=J.call N
 have aG:=J.stepE N
 clear N
 clear J
 obtain rfl:=aF
 refine Ax<|AF F Au (fun aC F=>?_) (fun aC F=>?_)
 refine Aw ?_
 clear Fa F_f Y
 refine Av<|Bb (Iv A) Au<|Bn (Iv A) Au<|Ax<|AV<|⟨_,DX,[Iv A],⟨Au,trivial⟩,W.ext,?_⟩
 exact Vr.eq (a:=(vI .i64)) (x:=A) ⟨Au,Ra⟩ (oi F)
 refine AG ?_
 clear Y
 refine Av<|A9<|Bg Au Au<|Bb (Iv (wq (A+1))) Au<|Ax ?_
 replace M:=M.trans aG
 exact aD _ _ ⟨(wq (A+1)),_,Au,BB.of ⟨Au,trivial⟩,M,W,(AT .i64 _),Dc Z F⟩
 refine Bq<|Aw ?_
 clear Fa F_f
 refine Av<|Bn (Iv (-1)) Au<|Ax<|AV<|⟨_,DX,[Iv (-1)],⟨Au,trivial⟩,J.ext,?_⟩
 exact Vr.eq (a:=(vI .i64)) (x:=(-1)) ⟨Au,(show Cx .i64 (-1) from by decide)⟩ (oi F)

def Dn (s:List Int) (f:Int→Option Bool):Option Bool:=
 (EF s f).bind fun A=>
 some (decide (0≤A))

theorem HZ {w:World} {O:List Nat} {s:List Int} {f:Int→Option Bool} {Aa:Option Addr} {Ca:Nat} {v_f:Value} (hO:∀k∈O,k<w.heap.size) (Fa:CA (AL .i64) w O Aa Ca s) (F_f:G6 Try.prog w O v_f (vI .i64) vB f) {x:Bool} (F:Dn s f=some x):
 Ok Try.prog 36 [Sl Aa s Ca,v_f] w O vB x:=by
 unfold Dn at F
 refine Br (n:=9) (xs:=[.tmp 4]) Try.func36 Au Try.ntmps36 Try.results36 Au ?_
 have hs:=St.start hO
 refine Aw<|Av<|Bn (Bo false) Au<|Ax<|Aw<|Av<|Bb (Sl Aa s Ca) Au<|Bb v_f Au ?_
 obtain⟨A,G,F⟩:=bd F
 refine A9<|Bi hs Try.call65 (I9 (s:=s) (f:=f) hs.ltw Fa F_f G) Au ?_
 rintro M N U I J
 obtain⟨rfl,Ra⟩:=J
 refine A9<|HH Au Au<|Bn (Bo (decide (0≤A))) Au<|Ax<|AV<|⟨_,DX,[Bo (decide (0≤A))],⟨Au,trivial⟩,I.ext,?_⟩
 exact Vr.eq (a:=vB) (x:=decide (0≤A)) Au (oi F)

def CI (n:Int):Option Bool:=
 (CB n 0 4096).bind fun A=>
 some (!A)

theorem H2 {w:World} {O:List Nat} {n:Int} (hO:∀k∈O,k<w.heap.size) (Ra:Cx .i64 n) {x:Bool} (F:CI n=some x):
 Ok Try.prog 37 [Iv n] w O vB x:=by
 unfold CI at F
 refine Br (n:=6) (xs:=[.tmp 2]) Try.func37 Au Try.ntmps37 Try.results37 Au ?_
 have hs:=St.start hO
 refine Aw<|Av<|Bn (Bo false) Au<|Ax<|Aw<|Av<|Bb (Iv n) Au ?_
 obtain⟨A,G,F⟩:=bd F
 refine A9<|Bi hs Try.call33 (Ej (n:=n) (lo:=0) (hi:=4096) hs.ltw Ra E1 (show Cx .i64 4096 from by decide) G) Au ?_
 rintro M N U I J
 obtain rfl:=J
 refine A9<|Do Au<|Bn (Bo (!A)) Au<|Ax<|AV<|⟨_,DX,[Bo (!A)],⟨Au,trivial⟩,I.ext,?_⟩
 exact Vr.eq (a:=vB) (x:=!A) Au (oi F)

abbrev Xo:List Nat:=[4,5,6,7,8,9,10,11,12,13,14,15,16,17,18,19,20,21,22,23]

def Ev (l:List Int) (less:Int→Int→Option Int) (F:Int→Option Bool) (A:Int):Option Bool:=
 bif (decide (A<(l.length:Int))) then
  ck ((0:Int)≤(IntKind.wrap .i64 (A - 1))∧(IntKind.wrap .i64 (A - 1))<(l.length:Int))<|
  ck ((0:Int)≤A∧A<(l.length:Int))<|
  (less (l.getD (IntKind.wrap .i64 (A - 1)).toNat default) (l.getD A.toNat default)).bind fun G=>
  bif (decide (0≤G)) then
   some false
  else
   F (IntKind.wrap .i64 (A+1))
 else
  some true

def F2 (l:List Int) (less:Int→Int→Option Int):Option Bool:=
 B0 (Ev l less) (((l.length:Int) - 1).toNat+1) 1

theorem Kh {w:World} {O:List Nat} {l:List Int} {less:Int→Int→Option Int} {Aa:Option Addr} {Ca:Nat} {v_less:Value} (hO:∀k∈O,k<w.heap.size) (Fa:CA (AL .i64) w O Aa Ca l) (F_less:EC Try.prog w O v_less (vI .i64) (vI .i64) (vI .i64) less) {x:Bool} (F:F2 l less=some x):
 Ok Try.prog 38 [Sl Aa l Ca,v_less] w O vB x:=by
 unfold F2 at F
 refine Br (n:=24) (xs:=[.tmp 4]) Try.func38 Au Try.ntmps38 Try.results38 Au ?_
 have hs:=St.start hO
 refine Aw<|Av<|Bn (Bo false) Au<|Ax<|Aw<|Aw<|Av<|Bn (Iv 1) Au<|Ax<|AC<|Wr [] [(0,Sl Aa l Ca),(1,v_less),(5,Iv 1)] fun a8=>Bf Xo (fun m fr w'=>∃(A:Int) (aD:Be),aD=[]∧fr [] [(5,Iv A)]∧hs.S (ks aD O) w'∧St ⟨w,[],[]⟩ O w' aD∧Cx .i64 A∧B0 (Ev l less) m A=some x) (((l.length:Int) - 1).toNat+1) ⟨1,_,Au,BB.of ⟨Au,trivial⟩,AA.refl _ _,hs,Ol,F⟩ ?_ ?_
 rintro _ _ ⟨_,_,_,_,_,_,_,F⟩;exact CF F
 rintro m6 K5 aQ a2 w7 ⟨A,_,rfl,J,M,X,Ra,F⟩
 obtain⟨a9,aJ,F⟩:=CG F;unfold Ev at F
 rw [J.eq];clear J
 have N:=M
 refine Aw<|Aw<|Av<|Bb (Iv A) Au<|Bb (Sl Aa l Ca) Au<|A9<|AZ Try.underlying31 Au ?_
 replace Fa:=Fa.step M
 have a3:=AX Fa
 refine A9<|By Au Au<|Ax<|AF F Au (fun aK F=>?_) (fun aK F=>?_)
 refine AG<|Aw<|AC<|Aw<|B7 (g0:=[]) (m:=10) (fl:=[]) (CQ X) Au (.inl Au) Au (by decide+kernel) ?_  -- 4
 refine Bc v_less (fun _ _ _ hi G=>AD (v:=v_less) (G 1 Au)<|Gz hi)<|Bc (Sl Aa l Ca) (fun _ _ _ hi G=>AD (v:=Sl Aa l Ca) (G 0 Au)<|Gz hi)<|Bc (Iv A) (fun _ _ _ hi G=>AD (v:=Iv A) (G 5 Au)<|Gz hi)<|Bc (Iv (wq (A - 1))) (fun _ _ _ hi G=>FN (G 14 Au) Au<|Gz hi) ?_
 obtain⟨aA,F⟩:=AE F
 refine Bd (VP _ _ (AL .i64) (gt l (wq (A - 1)))) (VP.stab _ _) (fun a4 bA g U hi G=>?_) ?_
 obtain⟨-,aE,-⟩:=U
 replace Fa:=Fa.step aE
 refine Ay<|AB (q:=(AL .i64)) Bl B6 (G 13 Au) (G 15 Au) Fa Au aA.1 aA.2 ?_
 intro bB aR
 exact Bs.same hi ⟨_,Au,aR⟩
 refine Bd (VD _ _ (vI .i64) (gt l (wq (A - 1)))) (VD.stab _ _) (fun a5 bC g U hi G=>?_) ?_
 obtain⟨bD,aS,aT⟩:=G 16 Au
 refine Ay<|AR B6 aS aT Au ?_
 intro bE aU
 obtain⟨rfl,Rb⟩:=BK aU
 exact Bs.same hi (show Vr.vd (vI .i64) _ _ _ _ from⟨Au,Rb⟩)
 refine Bc (Sl Aa l Ca) (fun _ _ _ hi G=>AD (v:=Sl Aa l Ca) (G 0 Au)<|Gz hi)<|Bc (Iv A) (fun _ _ _ hi G=>AD (v:=Iv A) (G 5 Au)<|Gz hi) ?_
 obtain⟨aB,F⟩:=AE F
 refine Bd (VP _ _ (AL .i64) (gt l A)) (VP.stab _ _) (fun a6 bF g U hi G=>?_) ?_
 obtain⟨-,aE,-⟩:=U
 replace Fa:=Fa.step aE
 refine Ay<|AB (q:=(AL .i64)) Bl B6 (G 18 Au) (G 19 Au) Fa Au aB.1 aB.2 ?_
 intro bG aV
 exact Bs.same hi ⟨_,Au,aV⟩
 refine Bd (VD _ _ (vI .i64) (gt l A)) (VD.stab _ _) (fun a7 bH g U hi G=>?_) ?_
 obtain⟨bI,aW,aX⟩:=G 20 Au
 refine Ay<|AR B6 aW aX Au ?_
 intro bJ aY
 obtain⟨rfl,Rc⟩:=BK aY
 exact Bs.same hi (show Vr.vd (vI .i64) _ _ _ _ from⟨Au,Rc⟩)
 refine BD fun bK bL aL aM=>?_
 obtain⟨-,aF,-⟩:=aL
 obtain⟨I,aG⟩:=AA.nx aM
 rintro bM aH
 replace aH:Vr.vd (vI .i64) _ _ _ _:=aH
 obtain⟨rfl,Rd⟩:=aH
 rintro _ ⟨bN,rfl,Y⟩ _ rfl _ rfl bO aI
 replace aI:Vr.vd (vI .i64) _ _ _ _:=aI
 obtain⟨rfl,Re⟩:=aI
 rintro _ ⟨bP,rfl,Z⟩ _ rfl _ rfl _ rfl _ rfl
 have aN:=X.to I (aF.trans aG)
 replace Y:=Y.step aG;replace Z:=Z.step aG;clear X
 obtain⟨bQ,aO,F⟩:=bd F
 replace F_less:=F_less.step (M.trans aN)
 refine A9<|It Au (F_less.call I.ltw ⟨Au,Re⟩ ⟨Au,Rd⟩ aO) Au ?_
 rintro bR bS ⟨W,aZ⟩
 have aC:=I.call W
 have a0:=I.stepE W
 clear W
 clear I
 obtain⟨rfl,Rf⟩:=aZ
 refine A9<|HH Au Au<|Ax<|AF F Au (fun aP F=>?_) (fun aP F=>?_)
 refine Aw ?_
 clear Fa F_less Y Z
 refine Av<|Bn (Bo false) Au<|Ax<|AV<|⟨_,DX,[Bo false],⟨Au,trivial⟩,aC.ext,?_⟩
 exact Vr.eq (a:=vB) (x:=false) Au (oi F)
 refine AG ?_
 clear Y Z
 refine Av<|Bb (Iv A) Au<|A9<|Bg Au Au<|Bn (Iv (wq (A+1))) Au<|Ax ?_
 have a1:=(aN.trans a0)
 replace N:=N.trans a1
 exact aQ _ _ ⟨(wq (A+1)),_,Au,BB.of ⟨Au,trivial⟩,N,aC,(AT .i64 _),Dc aJ F⟩
 refine Bq<|Aw ?_
 clear Fa F_less
 refine Av<|Bn (Bo true) Au<|Ax<|AV<|⟨_,DX,[Bo true],⟨Au,trivial⟩,X.ext,?_⟩
 exact Vr.eq (a:=vB) (x:=true) Au (oi F)

abbrev Xp:List Nat:=[4,5,6,7,8,9,10,11,12,13,14,15,16,17,18,19,20,21,22,23]

def GX (l:List Bp) (less:Bp→Bp→Option Int) (F:Int→Option Bool) (A:Int):Option Bool:=
 bif (decide (A<(l.length:Int))) then
  ck ((0:Int)≤(IntKind.wrap .i64 (A - 1))∧(IntKind.wrap .i64 (A - 1))<(l.length:Int))<|
  ck ((0:Int)≤A∧A<(l.length:Int))<|
  (less (⟨(⟨(l.getD (IntKind.wrap .i64 (A - 1)).toNat default).cell,(l.getD (IntKind.wrap .i64 (A - 1)).toNat default).places⟩:Bp).cell,(⟨(l.getD (IntKind.wrap .i64 (A - 1)).toNat default).cell,(l.getD (IntKind.wrap .i64 (A - 1)).toNat default).places⟩:Bp).places⟩:Bp) (⟨(⟨(l.getD A.toNat default).cell,(l.getD A.toNat default).places⟩:Bp).cell,(⟨(l.getD A.toNat default).cell,(l.getD A.toNat default).places⟩:Bp).places⟩:Bp)).bind fun G=>
  bif (decide (0≤G)) then
   some false
  else
   F (IntKind.wrap .i64 (A+1))
 else
  some true

def HQ (l:List Bp) (less:Bp→Bp→Option Int):Option Bool:=
 B0 (GX l less) (((l.length:Int) - 1).toNat+1) 1

theorem PE {w:World} {O:List Nat} {l:List Bp} {less:Bp→Bp→Option Int} {Aa:Option Addr} {Ca:Nat} {v_less:Value} (hO:∀k∈O,k<w.heap.size) (Fa:CA Ed w O Aa Ca l) (F_less:EC Try.prog w O v_less (vA Ed) (vA Ed) (vI .i64) less) {x:Bool} (F:HQ l less=some x):
 Ok Try.prog 40 [Sl Aa l Ca,v_less] w O vB x:=by
 unfold HQ at F
 refine Br (n:=24) (xs:=[.tmp 4]) Try.func40 Au Try.ntmps40 Try.results40 Au ?_
 have hs:=St.start hO
 refine Aw<|Av<|Bn (Bo false) Au<|Ax<|Aw<|Aw<|Av<|Bn (Iv 1) Au<|Ax<|AC<|Wr [] [(0,Sl Aa l Ca),(1,v_less),(5,Iv 1)] fun bA=>Bf Xp (fun m fr w'=>∃(A:Int) (aD:Be),aD=[]∧fr [] [(5,Iv A)]∧hs.S (ks aD O) w'∧St ⟨w,[],[]⟩ O w' aD∧Cx .i64 A∧B0 (GX l less) m A=some x) (((l.length:Int) - 1).toNat+1) ⟨1,_,Au,BB.of ⟨Au,trivial⟩,AA.refl _ _,hs,Ol,F⟩ ?_ ?_
 rintro _ _ ⟨_,_,_,_,_,_,_,F⟩;exact CF F
 rintro m6 K5 aQ a2 w7 ⟨A,_,rfl,J,M,X,Ra,F⟩
 obtain⟨bB,aJ,F⟩:=CG F;unfold GX at F
 rw [J.eq];clear J
 have N:=M
 refine Aw<|Aw<|Av<|Bb (Iv A) Au<|Bb (Sl Aa l Ca) Au<|A9<|AZ Try.underlying56 Au ?_
 replace Fa:=Fa.step M
 have a3:=AX Fa
 refine A9<|By Au Au<|Ax<|AF F Au (fun aK F=>?_) (fun aK F=>?_)
 refine AG<|Aw<|AC<|Aw<|B7 (g0:=[]) (m:=10) (fl:=[]) (CQ X) Au (.inl Au) Au (by decide+kernel) ?_  -- 4
 refine Bc v_less (fun _ _ _ hi G=>AD (v:=v_less) (G 1 Au)<|Gz hi)<|Bc (Sl Aa l Ca) (fun _ _ _ hi G=>AD (v:=Sl Aa l Ca) (G 0 Au)<|Gz hi)<|Bc (Iv A) (fun _ _ _ hi G=>AD (v:=Iv A) (G 5 Au)<|Gz hi)<|Bc (Iv (wq (A - 1))) (fun _ _ _ hi G=>FN (G 14 Au) Au<|Gz hi) ?_
 obtain⟨aA,F⟩:=AE F
 refine Bd (VP _ _ Ed (gt l (wq (A - 1)))) (VP.stab _ _) (fun a4 bC g U hi G=>?_) ?_
 obtain⟨-,aE,-⟩:=U
 replace Fa:=Fa.step aE
 refine Ay<|AB (q:=Ed) Ho Gc (G 13 Au) (G 15 Au) Fa Au aA.1 aA.2 ?_
 intro bD aR
 exact Bs.same hi ⟨_,Au,aR⟩
 refine Bd (VD _ _ (vA Ed) (⟨(gt l (wq (A - 1))).cell,(gt l (wq (A - 1))).places⟩:Bp)) (VD.stab _ _) (fun a5 bE g U hi G=>?_) ?_
 obtain⟨bF,aS,aT⟩:=G 16 Au
 refine Ay<|BE Gc aS aT Au ?_
 intro a6 aU
 obtain⟨_,_,rfl,⟨_,_,rfl,rfl,⟨_,_,rfl,⟨rfl,Rb⟩,⟨rfl,Rc⟩⟩⟩,⟨rfl,Rd⟩⟩:=aU
 exact Bs.same hi (show Vr.vd (vA Ed) _ _ _ _ from(JX (C2 (AW (C2 (AW GJ (AW (AU Rb) (AU Rc)))) (AU Rd)))))
 refine Bc (Sl Aa l Ca) (fun _ _ _ hi G=>AD (v:=Sl Aa l Ca) (G 0 Au)<|Gz hi)<|Bc (Iv A) (fun _ _ _ hi G=>AD (v:=Iv A) (G 5 Au)<|Gz hi) ?_
 obtain⟨aB,F⟩:=AE F
 refine Bd (VP _ _ Ed (gt l A)) (VP.stab _ _) (fun a7 bG g U hi G=>?_) ?_
 obtain⟨-,aE,-⟩:=U
 replace Fa:=Fa.step aE
 refine Ay<|AB (q:=Ed) Ho Gc (G 18 Au) (G 19 Au) Fa Au aB.1 aB.2 ?_
 intro bH aV
 exact Bs.same hi ⟨_,Au,aV⟩
 refine Bd (VD _ _ (vA Ed) (⟨(gt l A).cell,(gt l A).places⟩:Bp)) (VD.stab _ _) (fun a8 bI g U hi G=>?_) ?_
 obtain⟨bJ,aW,aX⟩:=G 20 Au
 refine Ay<|BE Gc aW aX Au ?_
 intro a9 aY
 obtain⟨_,_,rfl,⟨_,_,rfl,rfl,⟨_,_,rfl,⟨rfl,Re⟩,⟨rfl,Rf⟩⟩⟩,⟨rfl,Rg⟩⟩:=aY
 exact Bs.same hi (show Vr.vd (vA Ed) _ _ _ _ from(JX (C2 (AW (C2 (AW GJ (AW (AU Re) (AU Rf)))) (AU Rg)))))
 refine BD fun bK bL aL aM=>?_
 obtain⟨-,aF,-⟩:=aL
 obtain⟨I,aG⟩:=AA.nx aM
 rintro bM aH
 replace aH:Vr.vd (vA Ed) _ _ _ _:=aH
 obtain⟨_,rfl,⟨_,_,rfl,⟨_,_,rfl,rfl,⟨_,_,rfl,⟨rfl,Rh⟩,⟨rfl,Ri⟩⟩⟩,⟨rfl,Rj⟩⟩⟩:=aH
 rintro _ ⟨bN,rfl,Y⟩ _ rfl _ rfl bO aI
 replace aI:Vr.vd (vA Ed) _ _ _ _:=aI
 obtain⟨_,rfl,⟨_,_,rfl,⟨_,_,rfl,rfl,⟨_,_,rfl,⟨rfl,Rk⟩,⟨rfl,Rl⟩⟩⟩,⟨rfl,Rm⟩⟩⟩:=aI
 rintro _ ⟨bP,rfl,Z⟩ _ rfl _ rfl _ rfl _ rfl
 have aN:=X.to I (aF.trans aG)
 replace Y:=Y.step aG;replace Z:=Z.step aG;clear X
 obtain⟨bQ,aO,F⟩:=bd F
 replace F_less:=F_less.step (M.trans aN)
 refine A9<|It Au (F_less.call I.ltw (JX (C2 (AW (C2 (AW GJ (AW (AU Rk) (AU Rl)))) (AU Rm)))) (JX (C2 (AW (C2 (AW GJ (AW (AU Rh) (AU Ri)))) (AU Rj)))) aO) Au ?_
 rintro bR bS ⟨W,aZ⟩
 have aC:=I.call W
 have a0:=I.stepE W
 clear W
 clear I
 obtain⟨rfl,Rn⟩:=aZ
 refine A9<|HH Au Au<|Ax<|AF F Au (fun aP F=>?_) (fun aP F=>?_)
 refine Aw ?_
 clear Fa F_less Y Z
 refine Av<|Bn (Bo false) Au<|Ax<|AV<|⟨_,DX,[Bo false],⟨Au,trivial⟩,aC.ext,?_⟩
 exact Vr.eq (a:=vB) (x:=false) Au (oi F)
 refine AG ?_
 clear Y Z
 refine Av<|Bb (Iv A) Au<|A9<|Bg Au Au<|Bn (Iv (wq (A+1))) Au<|Ax ?_
 have a1:=(aN.trans a0)
 replace N:=N.trans a1
 exact aQ _ _ ⟨(wq (A+1)),_,Au,BB.of ⟨Au,trivial⟩,N,aC,(AT .i64 _),Dc aJ F⟩
 refine Bq<|Aw ?_
 clear Fa F_less
 refine Av<|Bn (Bo true) Au<|Ax<|AV<|⟨_,DX,[Bo true],⟨Au,trivial⟩,X.ext,?_⟩
 exact Vr.eq (a:=vB) (x:=true) Au (oi F)

def Dr (a:Bp) (b:Bp):Option Int:=
 (CH a.cell b.cell).bind fun A=>
 some A

theorem H3 {w:World} {O:List Nat} {a:Bp} {b:Bp} (hO:∀k∈O,k<w.heap.size) (Ra:Cx .i64 a.cell.index) (Rb:Cx .i64 a.cell.minute) (Rc:Cx .i64 a.places) (Rd:Cx .i64 b.cell.index) (Re:Cx .i64 b.cell.minute) (Rf:Cx .i64 b.places) {x:Int} (M:Dr a b=some x):
 Ok Try.prog 41 [Value.agg [Bo a.cell.airport,Iv a.cell.index,Iv a.cell.minute,Iv a.places].toArray,Value.agg [Bo b.cell.airport,Iv b.cell.index,Iv b.cell.minute,Iv b.places].toArray] w O (vI .i64) x:=by
 unfold Dr at M
 refine Br (n:=10) (xs:=[.tmp 4]) Try.func41 Au Try.ntmps41 Try.results41 Au ?_
 have hs:=St.start hO
 refine Aw<|Av<|A9<|BT (cs:=[Bo a.cell.airport,Iv a.cell.index,Iv a.cell.minute,Iv a.places]) hs Au Au ?_
 intro Y Z _ p3 G
 refine A9<|BT (cs:=[Bo b.cell.airport,Iv b.cell.index,Iv b.cell.minute,Iv b.places]) G Au Au ?_
 intro b6 w7 _ p8 F
 clear G
 refine Bn (Iv 0) Au<|Ax<|Aw<|Av<|A9<|AQ 0 Gc Au Du Au Au<|A9<|G4 (vs:=[Bo a.cell.airport,Iv a.cell.index,Iv a.cell.minute]) (i:=1) Du F Au Au Au Au<|A9<|AQ 0 Gc Au Du Au Au<|A9<|G4 (vs:=[Bo b.cell.airport,Iv b.cell.index,Iv b.cell.minute]) (i:=0) Du F Au Au Au Au ?_
 obtain⟨A,I,M⟩:=bd M
 refine A9<|Bi F Try.call35 (GE (a:=a.cell) (b:=b.cell) F.ltw Ra Rb Rd Re I) Au ?_
 rintro U W X J N
 clear F
 obtain⟨rfl,Rg⟩:=N
 refine Bn (Iv A) Au<|Ax<|AV<|⟨_,DX,[Iv A],⟨Au,trivial⟩,J.ext,?_⟩
 exact Vr.eq (a:=(vI .i64)) (x:=A) ⟨Au,Rg⟩ (oi M)

end Go.Fx
