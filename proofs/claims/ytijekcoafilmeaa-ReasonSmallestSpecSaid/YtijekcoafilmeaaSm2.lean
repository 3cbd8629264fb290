/- Part 2 of the proof: smallest agrees with the reference. -/
import Derived.Test.YtijekcoafilmeaaSm1
import Derived.Maps.RangeRun
import Derived.Laws.StructEq
import Derived.Shelf.SlSortCmp.NoneTotal
import Derived.Shelf.SlGeneric
import Derived.Ground.SlsfProg
import Derived.Test.YtijekcoafilmeaaChecked
import Derived.Test.YtijekcoafilmeaaRows
import Derived.WalkKit
import Derived.ShutString
set_option linter.unusedSimpArgs false
set_option linter.unusedVariables false
set_option linter.unusedSectionVars false
namespace Go.Fx
open Go Go.RowKit

/-! keys -/
def J6:List Int→List Int→Bool
  |[],[] =>false
  |[],_::_=>true
  |_::_,[] =>false
  |x::s,y::t=>decide (x<y)||(decide (x=y)&&J6 s t)
theorem NX:∀a,J6 a a=false
  |[] =>rfl
  |x::s=>by unfold J6;rw [decide_eq_false (Int.lt_irrefl x),NX s];simp
theorem Mp:∀{a b c},J6 a b=true→J6 b c=true→J6 a c=true
  |[],[],_,h,_=>by cases h
  |[],_::_,[],_,h=>by cases h
  |[],_::_,_::_,_,_=>rfl
  |_::_,[],_,h,_=>by cases h
  |_::_,_::_,[],_,h=>by cases h
  |x::s,y::t,z::u,h1,h2=>by
    unfold J6 at*
    simp only [Bool.or_eq_true,Bool.and_eq_true,decide_eq_true_eq] at*
    rcases h1 with h1 |⟨h1,h1'⟩<;> rcases h2 with h2 |⟨h2,h2'⟩
    · exact .inl (by omega)
    · exact .inl (by omega)
    · exact .inl (by omega)
    · exact .inr ⟨by omega,Mp h1' h2'⟩
theorem NY:∀{a b},J6 a b=false→J6 b a=false→a=b
  |[],[],_,_=>rfl
  |[],_::_,h,_=>by cases h
  |_::_,[],_,h=>by cases h
  |x::s,y::t,h1,h2=>by
    unfold J6 at*
    simp only [Bool.or_eq_false_iff,Bool.and_eq_false_iff,decide_eq_false_iff_not] at*
    have e:x=y:=by omega
    subst e
    obtain⟨_,h1⟩:=h1
    obtain⟨_,h2⟩:=h2
    rw [NY (h1.resolve_left fun h=>h rfl) (h2.resolve_left fun h=>h rfl)]
class GT (K:Type) where
  ord:K→List Int
  inj:∀{a b:K},ord a=ord b→a=b
instance:GT Int:=⟨fun x=>[x],fun h=>by simpa using h⟩
def NZ {K:Type} [GT K] (a b:K):Bool:=J6 (GT.ord a) (GT.ord b)
section
variable {K : Type} [GT K]
theorem Lz (a:K):NZ a a=false:=NX _
theorem MT {a b:K} (h:NZ a b=true):a≠b:=fun e=>by subst e;rw [Lz] at h;cases h
theorem LW {a b c:K} (h1:NZ a b=true) (h2:NZ b c=true):NZ a c=true:=Mp h1 h2
theorem Pw {a b:K} (h:NZ a b=true):NZ b a=false:=by
  cases h2:NZ b a
  · rfl
  · have:=LW h h2;rw [Lz] at this;cases this
theorem TI {a b:K} (h1:NZ a b=false) (h2:a≠b):NZ b a=true:=by
  cases h:NZ b a
  · exact absurd (GT.inj (NY h1 h)) h2
  · rfl
end
/-! models -/
section model
variable {K V : Type} [DecidableEq K]
def B0:List (K × V)→K→Option V
  |[],_=>none
  |(k,v)::t,n=>if k=n then some v else B0 t n
def DJ [GT K]:List (K × V)→K→V→List (K × V)
  |[],n,x=>[(n,x)]
  |(k,v)::t,n,x=>if NZ n k=true then (n,x)::(k,v)::t else if n=k then (n,x)::t else (k,v)::DJ t n x
def M7 (l:List (K × V)) (n:K):List (K × V):=l.filter fun p=>!decide (p.1=n)
def He [GT K] (l:List (K × V)):Prop:=l.Pairwise fun p q=>NZ p.1 q.1=true
theorem G5 [GT K] (l:List (K × V)) (n m:K) (x:V):B0 (DJ l n x) m=if n=m then some x else B0 l m:=by
  induction l with
  |nil=>simp [DJ,B0]
  |cons p t ih=>
    obtain⟨k,v⟩:=p
    unfold DJ
    by_cases h1:NZ n k=true
    · simp only [h1,if_true,B0]
    · by_cases h2 : n = k
      · subst h2;simp only [Lz,Bool.false_eq_true,if_false,if_true,B0];split<;> rfl
      · simp only [h1, h2, Bool.false_eq_true, if_false, B0, ih]
        by_cases h3:k=m
        · have : ¬ n = m := fun e => h2 (e.trans h3.symm)
          simp [h3,this]
        · simp [h3]
theorem IE {l:List (K × V)} {n:K} (h:B0 l n=none):∀p∈l,p.1≠n:=by
  induction l with
  |nil=>intro p hp;cases hp
  |cons q t ih=>
    obtain⟨k,v⟩:=q
    unfold B0 at h
    split at h
    · cases h
    · rename_i hk
      intro p hp
      rcases List.mem_cons.1 hp with e |hp
      · subst e;exact hk
      · exact ih h p hp
theorem FK {l:List (K × V)} {n:K} {x:V} (h:B0 l n=some x):(n,x)∈l:=by
  induction l with
  |nil=>cases h
  |cons q t ih=>
    obtain⟨k,v⟩:=q
    unfold B0 at h
    split at h
    · rename_i hk;subst hk;cases h;simp
    · exact List.mem_cons_of_mem _ (ih h)
theorem Je [GT K] {l:List (K × V)} (hr:He l) {n:K} {x:V} (h:(n,x)∈l):B0 l n=some x:=by
  induction l with
  |nil=>cases h
  |cons q t ih=>
    obtain⟨k,v⟩:=q
    have hr':=List.pairwise_cons.1 hr
    unfold B0
    rcases List.mem_cons.1 h with e |h
    · cases e;simp
    · have := hr'.1 _ h
      simp only at this
      rw [if_neg (MT this)];exact ih hr'.2 h
theorem L0 [GT K] {l:List (K × V)} (hr:He l) (n:K) (x:V) (p:K × V):p∈DJ l n x ↔ p=(n,x)∨(p∈l∧p.1≠n):=by
  induction l with
  |nil=>simp [DJ]
  |cons q t ih=>
    obtain⟨k,v⟩:=q
    have hr':=List.pairwise_cons.1 hr
    unfold DJ
    by_cases h1:NZ n k=true
    · simp only [h1, if_true, List.mem_cons]
      constructor
      · rintro (h | h | h)
        · exact .inl h
        · subst h;exact .inr ⟨.inl rfl,(MT h1).symm⟩
        · exact .inr ⟨.inr h,by have:=hr'.1 p h;simp only at this;exact(MT (LW h1 this)).symm⟩
      · rintro (h | ⟨h | h, _⟩)
        · exact .inl h
        · exact .inr (.inl h)
        · exact .inr (.inr h)
    · by_cases h2 : n = k
      · subst h2
        simp only [Lz,Bool.false_eq_true,if_false,if_true,List.mem_cons]
        constructor
        · rintro (h | h)
          · exact .inl h
          · exact .inr ⟨.inr h,by have:=hr'.1 p h;simp only at this;exact(MT this).symm⟩
        · rintro (h | ⟨h | h, h'⟩)
          · exact .inl h
          · subst h;exact absurd rfl h'
          · exact .inr h
      · simp only [h1, h2, Bool.false_eq_true, if_false, List.mem_cons, ih hr'.2]
        constructor
        · rintro (h | h | ⟨h, h'⟩)
          · subst h;exact .inr ⟨.inl rfl,fun e=>h2 e.symm⟩
          · exact .inl h
          · exact .inr ⟨.inr h,h'⟩
        · rintro (h | ⟨h | h, h'⟩)
          · exact .inr (.inl h)
          · exact .inl h
          · exact .inr (.inr ⟨h,h'⟩)
theorem Hu [GT K] {l:List (K × V)} (hr:He l) (n:K) (x:V):He (DJ l n x):=by
  induction l with
  |nil=>simp [DJ,He]
  |cons q t ih=>
    obtain⟨k,v⟩:=q
    have hr':=List.pairwise_cons.1 hr
    unfold DJ
    by_cases h1:NZ n k=true
    · simp only [h1, if_true]
      refine List.pairwise_cons.2 ⟨fun p hp=>?_,hr⟩
      rcases List.mem_cons.1 hp with e |hp
      · subst e;exact h1
      · have:=hr'.1 p hp;exact LW h1 this
    · by_cases h2 : n = k
      · subst h2
        simp only [Lz,Bool.false_eq_true,if_false,if_true]
        exact List.pairwise_cons.2 ⟨fun p hp=>hr'.1 p hp,hr'.2⟩
      · simp only [h1, h2, Bool.false_eq_true, if_false]
        refine List.pairwise_cons.2 ⟨fun p hp=>?_,ih hr'.2⟩
        rcases (L0 hr'.2 n x p).1 hp with e |⟨hp,_⟩
        · subst e;exact TI (by simpa using h1) h2
        · exact hr'.1 p hp
theorem KC [GT K] {l:List (K × V)} (hr:He l):l.Nodup:=List.Pairwise.imp (fun {a b} h (e:a=b)=>MT h (by rw [e])) hr
theorem MU [GT K] {l:List (K × V)} (hr:He l) (n:K):He (M7 l n):=List.Pairwise.filter _ hr
theorem S6 {l:List (K × V)} (n m:K):B0 (M7 l n) m=if n=m then none else B0 l m:=by
  induction l with
  |nil=>simp [M7,B0]
  |cons q t ih=>
    obtain⟨k,v⟩:=q
    unfold M7 at ih ⊢
    by_cases h:k=n
    · subst h
      rw [List.filter_cons_of_neg (by simp),ih,B0]
      by_cases h2:k=m<;> simp [h2]
    · rw [List.filter_cons_of_pos (by simp [h]), B0, ih, B0]
      by_cases h2:k=m
      · have : ¬ n = m := fun e => h (h2.trans e.symm)
        simp [h2,this]
      · simp [h2]
theorem HH [GT K] {l m:List (K × V)} (hl:He l) (hm:He m) (h:∀n,B0 l n=B0 m n):l=m:=by
  refine List.Perm.eq_of_pairwise (le:=fun p q=>NZ p.1 q.1=true) ?_ (show l.Pairwise (fun p q=>NZ p.1 q.1=true) from hl) (show m.Pairwise (fun p q=>NZ p.1 q.1=true) from hm) ((List.perm_ext_iff_of_nodup (KC hl) (KC hm)).2 fun p=>?_)
  · intro a b _ _ h1 h2;rw [Pw h1] at h2;cases h2
  · constructor
    · intro hp;exact FK ((h p.1).symm.trans (Je hl hp))
    · intro hp;exact FK ((h p.1).trans (Je hm hp))
end model

/-! what stands in memory -/
structure Mv (V:Type) where
  enc:V→Value
  ok:V→Prop
def Hl (q:IntKind):Mv Int:=⟨Value.int q,BR q⟩
def H5:Mv Bool:=⟨Value.bool,fun _=>True⟩
structure Kk (K:Type) where
  enc:K→Value
  ok:K→Prop
def kI (q:IntKind):Kk Int:=⟨Value.int q,BR q⟩
structure N8 {K:Type} (P:Program) (kt:TypeId) (q:Kk K):Prop where
  check:∀(w:World) (e:Bool) (n:K),q.ok n→(Instr.checkKey e 10000 kt (q.enc n)).run P w=.ok () w
  none_:∀{V:Type} (m:Mv V) (w:World) (n:K) (l:List (K × V × Nat)),q.ok n→(∀e∈l,q.ok e.1∧e.1≠n)→(Instr.findKey kt (q.enc n) (l.map fun e=>(⟨q.enc e.1,m.enc e.2.1,e.2.2⟩:MapEntry))).run P w=.ok none w
  some_:∀{V:Type} (m:Mv V) (w:World) (n:K) (x:V) (b:Nat) (l1 l2:List (K × V × Nat)),q.ok n→(∀e∈l1,q.ok e.1∧e.1≠n)→(Instr.findKey kt (q.enc n) ((l1++(n,x,b)::l2).map fun e=>(⟨q.enc e.1,m.enc e.2.1,e.2.2⟩:MapEntry))).run P w=.ok (some (l1.length,m.enc x)) w
  stays:∀(w:World) (n:K),(Instr.keyThatStays (q.enc n) (q.enc n)).run P w=.ok (q.enc n) w
  inj:∀{a b:K},q.enc a=q.enc b→a=b
section keys
variable {P : Program}
theorem OM {V:Type} {q:IntKind} (m:Mv V) (l:List (Int × V × Nat)) {n:Int} (h:∀e∈l,e.1≠n):∀i,Instr.findNow (.int q) (.int q n) (l.map fun e=>(⟨.int q e.1,m.enc e.2.1,e.2.2⟩:MapEntry)) i=some none:=by
  induction l with
  |nil=>intro i;rfl
  |cons e t ih=>
    intro i
    have: ¬n=e.1:=fun h'=>h e (by simp) h'.symm
    simp only [List.map_cons,Instr.findNow,Instr.sameNow,if_true]
    rw [show(n == e.1)=false from by simpa using this]
    exact ih (fun f hf=>h f (by simp [hf])) (i+1)
theorem ON {V:Type} {q:IntKind} (m:Mv V) (l1 l2:List (Int × V × Nat)) {n:Int} {x:V} {b:Nat} (h:∀e∈l1,e.1≠n):∀i,Instr.findNow (.int q) (.int q n) ((l1++(n,x,b)::l2).map fun e=>(⟨.int q e.1,m.enc e.2.1,e.2.2⟩:MapEntry)) i=some (some (i+l1.length,m.enc x)):=by
  induction l1 with
  |nil=>intro i;simp [Instr.findNow,Instr.sameNow]
  |cons e t ih=>
    intro i
    have: ¬n=e.1:=fun h'=>h e (by simp) h'.symm
    simp only [List.cons_append,List.map_cons,Instr.findNow,Instr.sameNow,if_true]
    rw [show(n == e.1)=false from by simpa using this]
    simp only
    rw [ih (fun f hf=>h f (by simp [hf])) (i+1)]
    simp;omega
theorem N8.int {kt:TypeId} {q:IntKind} (hk:P.underlying kt=some (.int q)):N8 P kt (kI q) where
  check w e n _:=by
    have:∀d,(Instr.checkKey e (d+1) kt (.int q n)).run P w=.ok () w:=fun d=>by simp [Instr.checkKey,run_underlying hk]
    exact this 9999
  none_ m w n l _ h:=by
    have:=OM (q:=q) m l (n:=n) (fun e he=>(h e he).2) 0
    show(Instr.findKey kt (.int q n) (l.map fun e=>(⟨.int q e.1,m.enc e.2.1,e.2.2⟩:MapEntry))).run P w=_
    simp [Instr.findKey,run_underlying hk,this]
  some_ m w n x b l1 l2 _ h:=by
    have:=ON (q:=q) m l1 l2 (n:=n) (x:=x) (b:=b) (fun e he=>(h e he).2) 0
    show(Instr.findKey kt (.int q n) ((l1++(n,x,b)::l2).map fun e=>(⟨.int q e.1,m.enc e.2.1,e.2.2⟩:MapEntry))).run P w=_
    simp only [Instr.findKey,Sem.run_bind,run_underlying hk,Result.andThen_ok,this,Sem.run_pure,Nat.zero_add]
  stays w n:=by
    have h:Instr.sameBits 10000 (.int q n) (.int q n)=true:=by
      have:∀d,Instr.sameBits (d+1) (.int q n) (.int q n)=true:=fun d=>by simp [Instr.sameBits]
      exact this 9999
    show(Instr.keyThatStays (.int q n) (.int q n)).run P w=_
    simp [Instr.keyThatStays,h]
    rfl
  inj h:=by injection h
theorem N8.agg {K:Type} [DecidableEq K] {kt:TypeId} {q:Kk K} {fs:Array Field} (hu:P.underlying kt=some (.struct fs)) (hagg:∀n,∃cs,q.enc n=.agg cs) (hc:∀(w:World) (e:Bool) (n:K),(Instr.checkKey e 10000 kt (q.enc n)).run P w=.ok () w)
    (he:∀(w:World) (a b:K),(Op.equal kt (q.enc a) (q.enc b)).run P w=.ok (decide (a=b)) w) (hs:∀n:K,Instr.sameBits 10000 (q.enc n) (q.enc n)=true) (hi:∀{a b:K},q.enc a=q.enc b→a=b):N8 P kt q where
  check w e n _:=hc w e n
  none_ {V} m w n l _ h:=by
    have ask:∀i,(Instr.findAsking kt (q.enc n) (l.map fun e=>(⟨q.enc e.1,m.enc e.2.1,e.2.2⟩:MapEntry)) i).run P w=.ok none w:=by
      induction l with
      |nil=>intro i;simp [Instr.findAsking]
      |cons e t ih=>
        intro i
        have hne: ¬n=e.1:=fun e'=>(h e (by simp)).2 e'.symm
        simp only [List.map_cons,Instr.findAsking,Sem.run_bind,he,Result.andThen_ok,decide_eq_false hne,Bool.false_eq_true,if_false]
        exact ih (fun f hf=>h f (by simp [hf])) (i+1)
    cases l with
    |nil=>simp [Instr.findKey,run_underlying hu,Instr.findNow]
    |cons e t=>
      obtain⟨cs,hcs⟩:=hagg n
      have:Instr.findNow (.struct fs) (q.enc n) ((e::t).map fun e=>(⟨q.enc e.1,m.enc e.2.1,e.2.2⟩:MapEntry)) 0=none:=by
        rw [hcs];simp [Instr.findNow,Instr.sameNow]
      simp only [Instr.findKey,Sem.run_bind,run_underlying hu,Result.andThen_ok,this]
      exact ask 0
  some_ {V} m w n x b l1 l2 _ h:=by
    have ask:∀i,(Instr.findAsking kt (q.enc n) ((l1++(n,x,b)::l2).map fun e=>(⟨q.enc e.1,m.enc e.2.1,e.2.2⟩:MapEntry)) i).run P w=.ok (some (i+l1.length,m.enc x)) w:=by
      induction l1 with
      |nil=>intro i;simp [Instr.findAsking,he]
      |cons e t ih=>
        intro i
        have hne: ¬n=e.1:=fun e'=>(h e (by simp)).2 e'.symm
        simp only [List.cons_append,List.map_cons,Instr.findAsking,Sem.run_bind,he,Result.andThen_ok,decide_eq_false hne,Bool.false_eq_true,if_false]
        rw [ih (fun f hf=>h f (by simp [hf])) (i+1)]
        simp;omega
    obtain⟨cs,hcs⟩:=hagg n
    have:Instr.findNow (.struct fs) (q.enc n) ((l1++(n,x,b)::l2).map fun e=>(⟨q.enc e.1,m.enc e.2.1,e.2.2⟩:MapEntry)) 0=none:=by
      rw [hcs];cases l1<;> simp [Instr.findNow,Instr.sameNow]
    simp only [Instr.findKey,Sem.run_bind,run_underlying hu,Result.andThen_ok,this]
    simpa using ask 0
  stays w n:=by simp [Instr.keyThatStays,hs n]
  inj:=hi
end keys
structure L5 {K V:Type} (q:Kk K) (m:Mv V) (es:Array MapEntry) (clock:Nat) (l:List (K × V × Nat)):Prop where
  eq:es.toList=l.map fun e=>(⟨q.enc e.1,m.enc e.2.1,e.2.2⟩:MapEntry)
  born:l.Pairwise fun e f=>e.2.2<f.2.2
  lt:∀e∈l,e.2.2<clock
  ok:∀e∈l,q.ok e.1∧m.ok e.2.1
def Mo {K V:Type} [DecidableEq K] [GT K] (q:Kk K) (m:Mv V) (o:Obj) (xs:List (K × V)):Prop:=
  ∃es clock l,o=.map es clock∧L5 q m es clock l∧(l.Pairwise fun e f=>e.1≠f.1)∧(∀n x,(∃b,(n,x,b)∈l) ↔ (n,x)∈xs)∧He xs
section mem
variable {K V : Type} [DecidableEq K] [GT K] {q : Kk K} {m : Mv V} {o : Obj} {xs : List (K × V)}
theorem Mo.nil_:Mo q m (.map #[] 0) ([]:List (K × V)):=⟨#[],0,[],rfl,⟨rfl,List.Pairwise.nil,by simp,by simp⟩,List.Pairwise.nil,by simp,List.Pairwise.nil⟩
theorem Mo.ris (h:Mo q m o xs):He xs:=by obtain⟨_,_,_,_,_,_,_,h⟩:=h;exact h
theorem Mo.okOf (h:Mo q m o xs) {n:K} {x:V} (hx:B0 xs n=some x):q.ok n∧m.ok x:=by
  obtain⟨es,clock,l,_,hM,_,hp,hr⟩:=h
  obtain⟨b,hb⟩:=(hp n x).2 (FK hx)
  exact hM.ok _ hb
theorem Mo.ok (h:Mo q m o xs) {n:K} {z:V} (hz:m.ok z):m.ok ((B0 xs n).getD z):=by
  cases hg:B0 xs n with
  |none=>exact hz
  |some x=>exact(h.okOf hg).2
theorem KD {l:List (K × V × Nat)} (hd:l.Pairwise fun e f=>e.1≠f.1) {n:K} {x:V} {b:Nat} (h:(n,x,b)∈l):∃l1 l2,l=l1++(n,x,b)::l2∧(∀e∈l1,e.1≠n)∧∀e∈l2,e.1≠n:=by
  obtain⟨l1,l2,rfl⟩:=List.append_of_mem h
  rw [List.pairwise_append] at hd
  refine⟨l1,l2,rfl,fun e he=>hd.2.2 e he (n,x,b) (by simp),fun e he=>?_⟩
  exact fun h'=>(List.pairwise_cons.1 hd.2.1).1 e he h'.symm
variable {P : Program} {w : World}
theorem HI {r:Nat} {es:Array MapEntry} {clock:Nat} (h:w.heap[r]?=some (.map es clock)):(getObj r).run P w=.ok (.map es clock) w:=by simp [getObj,Sem.run,h]
theorem JL {r:Nat} {es:Array MapEntry} {clock:Nat} (o:Obj) (h:w.heap[r]?=some (.map es clock)):(setObj r o).run P w=.ok () (w.putObj r o):=by simp [setObj,Sem.run,h,World.putObj]
theorem JM {α:Type} (f:α→α) (a:α) (l2:List α):∀l1:List α,(l1++a::l2).modify l1.length f=l1++f a::l2
  |[] =>rfl
  |x::l1=>by simp [JM f a l2 l1]
theorem Mo.turn {es:Array MapEntry} {clock:Nat} {l1 l2:List (K × V × Nat)} {n:K} {x v:V} {b:Nat} (hM:L5 q m es clock (l1++(n,x,b)::l2)) (hd:(l1++(n,x,b)::l2).Pairwise fun e f=>e.1≠f.1)
    (hp:∀k y,(∃b',(k,y,b')∈l1++(n,x,b)::l2) ↔ (k,y)∈xs) (hr:He xs) (hv:m.ok v) {es':Array MapEntry} (he:es'.toList=(l1++(n,v,b)::l2).map fun e=>(⟨q.enc e.1,m.enc e.2.1,e.2.2⟩:MapEntry)):Mo q m (.map es' clock) (DJ xs n v):=by
  have h1:=hM.born
  have h2:=hM.lt
  have h3:=hM.ok
  have hd':=hd
  rw [List.pairwise_append] at h1 hd
  refine⟨es',clock,l1++(n,v,b)::l2,rfl,⟨he,?_,?_,?_⟩,?_,?_,Hu hr n v⟩
  · rw [List.pairwise_append]
    refine⟨h1.1,?_,fun e he f hf=>?_⟩
    · have := List.pairwise_cons.1 h1.2.1
      exact List.pairwise_cons.2 ⟨fun f hf=>this.1 f hf,this.2⟩
    · rcases List.mem_cons.1 hf with e1 | hf
      · subst e1;exact h1.2.2 e he (n,x,b) (by simp)
      · exact h1.2.2 e he f (by simp [hf])
  · intro e he
    rcases List.mem_append.1 he with h |h
    · exact h2 e (by simp [h])
    · rcases List.mem_cons.1 h with e1 | h
      · subst e1;exact h2 (n,x,b) (by simp)
      · exact h2 e (by simp [h])
  · intro e he
    rcases List.mem_append.1 he with h |h
    · exact h3 e (by simp [h])
    · rcases List.mem_cons.1 h with e1 | h
      · subst e1;exact⟨(h3 (n,x,b) (by simp)).1,hv⟩
      · exact h3 e (by simp [h])
  · rw [List.pairwise_append]
    refine⟨hd.1,?_,fun e he f hf=>?_⟩
    · have := List.pairwise_cons.1 hd.2.1
      exact List.pairwise_cons.2 ⟨fun f hf=>this.1 f hf,this.2⟩
    · rcases List.mem_cons.1 hf with e1 | hf
      · subst e1;exact hd.2.2 e he (n,x,b) (by simp)
      · exact hd.2.2 e he f (by simp [hf])
  · intro k y
    rw [L0 hr]
    have hn1:∀e∈l1,e.1≠n:=fun e he=>hd.2.2 e he (n,x,b) (by simp)
    have hn2:∀e∈l2,e.1≠n:=fun e he h'=>(List.pairwise_cons.1 hd.2.1).1 e he h'.symm
    constructor
    · rintro ⟨b', hb'⟩
      rcases List.mem_append.1 hb' with h |h
      · exact .inr ⟨(hp k y).1 ⟨b',by simp [h]⟩,hn1 _ h⟩
      · rcases List.mem_cons.1 h with e1 | h
        · cases e1;exact .inl rfl
        · exact .inr ⟨(hp k y).1 ⟨b',by simp [h]⟩,hn2 _ h⟩
    · rintro (e1 | ⟨h, hk⟩)
      · cases e1;exact⟨b,by simp⟩
      · obtain ⟨b', hb'⟩ := (hp k y).2 h
        rcases List.mem_append.1 hb' with h |h
        · exact⟨b',by simp [h]⟩
        · rcases List.mem_cons.1 h with e1 | h
          · cases e1;exact absurd rfl hk
          · exact⟨b',by simp [h]⟩
theorem Mo.push {es:Array MapEntry} {clock:Nat} {l:List (K × V × Nat)} {n:K} {v:V} (hM:L5 q m es clock l) (hd:l.Pairwise fun e f=>e.1≠f.1)
    (hp:∀k y,(∃b',(k,y,b')∈l) ↔ (k,y)∈xs) (hr:He xs) (hg:B0 xs n=none) (hn:q.ok n) (hv:m.ok v):Mo q m (.map (es.push ⟨q.enc n,m.enc v,clock⟩) (clock+1)) (DJ xs n v):=by
  have hno:∀e∈l,e.1≠n:=fun e he=>IE hg (e.1,e.2.1) ((hp e.1 e.2.1).1 ⟨e.2.2,he⟩)
  refine⟨_,_,l++[(n,v,clock)],rfl,⟨by simp [hM.eq],?_,?_,?_⟩,?_,?_,Hu hr n v⟩
  · rw [List.pairwise_append];exact⟨hM.born,by simp,fun e he f hf=>by simp at hf;subst hf;exact hM.lt e he⟩
  · intro e he; simp at he; rcases he with h | h
    · have:=hM.lt e h;omega
    · subst h;simp
  · intro e he; simp at he; rcases he with h | h
    · exact hM.ok e h
    · subst h;exact⟨hn,hv⟩
  · rw [List.pairwise_append];exact⟨hd,by simp,fun e he f hf=>by simp at hf;subst hf;exact hno e he⟩
  · intro k y
    rw [L0 hr]
    constructor
    · rintro ⟨b', hb'⟩
      simp at hb'
      rcases hb' with h |⟨h1,h2,_⟩
      · exact .inr ⟨(hp k y).1 ⟨b',h⟩,hno _ h⟩
      · exact .inl (by rw [h1,h2])
    · rintro (e1 | ⟨h, hk⟩)
      · cases e1;exact⟨clock,by simp⟩
      · obtain⟨b',hb'⟩:=(hp k y).2 h;exact⟨b',by simp [hb']⟩
variable {t kt e : TypeId}
theorem L5.findN {es:Array MapEntry} {clock:Nat} {l:List (K × V × Nat)} (hM:L5 q m es clock l) (hk:N8 P kt q) {n:K} (hn:q.ok n) (h:∀e∈l,e.1≠n):(Instr.findKey kt (q.enc n) es.toList).run P w=.ok none w:=by
  rw [hM.eq];exact hk.none_ m w n l hn fun e he=>⟨(hM.ok e he).1,h e he⟩
theorem L5.findS {es:Array MapEntry} {clock:Nat} {l1 l2:List (K × V × Nat)} {n:K} {x:V} {b:Nat} (hM:L5 q m es clock (l1++(n,x,b)::l2)) (hk:N8 P kt q) (h:∀e∈l1,e.1≠n):(Instr.findKey kt (q.enc n) es.toList).run P w=.ok (some (l1.length,m.enc x)) w:=by
  rw [hM.eq];exact hk.some_ m w n x b l1 l2 (hM.ok (n,x,b) (by simp)).1 fun e he=>⟨(hM.ok e (by simp [he])).1,h e he⟩
theorem Qn {r:Nat} {n:K} {z:V} (hu:P.underlying t=some (.map kt e)) (hk:N8 P kt q) (hz:∀w,(zeroValue e).run P w=.ok (m.enc z) w) (hr:w.heap[r]?=some o) (h:Mo q m o xs) (hn:q.ok n) (c:Bool):
    (Instr.lookup t (.map (some r)) (q.enc n) c).run P w=.ok (if c then .tuple #[m.enc ((B0 xs n).getD z),.bool (B0 xs n).isSome] else m.enc ((B0 xs n).getD z)) w:=by
  obtain⟨es,clock,l,rfl,hM,hd,hp,hris⟩:=h
  have hfk:(Instr.findKey kt (q.enc n) es.toList).run P w=.ok ((B0 xs n).map fun x=>((l.findIdx? fun e=>decide (e.1=n)).getD 0,m.enc x)) w:=by
    cases hg:B0 xs n with
    |none=>exact hM.findN hk hn fun e he=>IE hg (e.1,e.2.1) ((hp e.1 e.2.1).1 ⟨e.2.2,he⟩)
    |some x=>
      obtain⟨b,hb⟩:=(hp n x).2 (FK hg)
      obtain⟨l1,l2,rfl,h1,h2⟩:=KD hd hb
      rw [hM.findS hk h1]
      have:(l1++(n,x,b)::l2).findIdx? (fun e=>decide (e.1=n))=some l1.length:=by
        rw [List.findIdx?_append,List.findIdx?_eq_none_iff.2 (fun e he=>by simpa using h1 e he)]
        simp [List.findIdx?_cons]
      rw [this];simp
  simp only [Instr.lookup,Sem.run_bind,run_underlying hu,Result.andThen_ok,HI hr,hk.check _ _ _ hn,hfk]
  cases hg:B0 xs n with
  |none=>rw [hg] at hfk;cases c<;> simp [hz,hfk]
  |some x=>rw [hg] at hfk;cases c<;> simp [hfk]
theorem N9 {r:Nat} {n:K} {v:V} (hu:P.underlying t=some (.map kt e)) (hk:N8 P kt q) (hr:w.heap[r]?=some o) (h:Mo q m o xs) (hn:q.ok n) (hv:m.ok v):
    ∃o',(Instr.mapUpdate t (.map (some r)) (q.enc n) (m.enc v)).run P w=.ok () (w.putObj r o')∧Mo q m o' (DJ xs n v):=by
  obtain⟨es,clock,l,rfl,hM,hd,hp,hris⟩:=h
  cases hg:B0 xs n with
  |none=>
    have hf:=hM.findN (P:=P) (w:=w) hk hn (fun e he=>IE hg (e.1,e.2.1) ((hp e.1 e.2.1).1 ⟨e.2.2,he⟩))
    refine⟨_,?_,Mo.push hM hd hp hris hg hn hv⟩
    simp only [Instr.mapUpdate,Sem.run_bind,run_underlying hu,Result.andThen_ok,HI hr,hk.check _ _ _ hn,hf]
    rw [JL _ hr]
  |some x=>
    obtain⟨b,hb⟩:=(hp n x).2 (FK hg)
    obtain⟨l1,l2,rfl,h1,h2⟩:=KD hd hb
    have hf:=hM.findS (P:=P) (w:=w) hk h1
    have hl:l1.length<es.size:=by
      have:=congrArg List.length hM.eq;simp at this;omega
    have hge:es[l1.length]?=some ⟨q.enc n,m.enc x,b⟩:=by
      have:es.toList[l1.length]?=some ⟨q.enc n,m.enc x,b⟩:=by rw [hM.eq];simp
      simpa using this
    refine⟨.map (es.modify l1.length fun e=>{e with key:=q.enc n,val:=m.enc v}) clock,?_,Mo.turn hM hd hp hris hv ?_⟩
    · simp only [Instr.mapUpdate, Sem.run_bind, run_underlying hu, Result.andThen_ok, HI hr, hk.check _ _ _ hn, hf, hge, Option.map_some, Option.getD_some, hk.stays]
      rw [JL _ hr]
    · rw [Array.toList_modify, hM.eq]
      simp only [List.map_append,List.map_cons]
      have:=JM (fun e:MapEntry=>{e with key:=q.enc n,val:=m.enc v}) (⟨q.enc n,m.enc x,b⟩:MapEntry) (l2.map fun e=>(⟨q.enc e.1,m.enc e.2.1,e.2.2⟩:MapEntry)) (l1.map fun e=>(⟨q.enc e.1,m.enc e.2.1,e.2.2⟩:MapEntry))
      rw [List.length_map] at this
      exact this
def VM {K:Type} (o:Obj) (q:Kk K) (n:K) (b:Int):Prop:=∃es clock i,o=.map es clock∧es.toList.findIdx? (fun e=>(e.born:Int) == b)=some i∧∃v bb,es[i]?=some ⟨q.enc n,v,bb⟩
theorem OP {r:Nat} {n:K} {z:V} (hu:P.underlying t=some (.map kt e)) (hk:N8 P kt q) (hz:∀w,(zeroValue e).run P w=.ok (m.enc z) w) (hzo:m.ok z) (hr:w.heap[r]?=some o) (h:Mo q m o xs) (hn:q.ok n):
    ∃o' b,(Instr.mapEntry t (.map (some r)) (q.enc n)).run P w=.ok (.tuple #[m.enc ((B0 xs n).getD z),.int .i64 b]) (w.putObj r o')∧Mo q m o' (DJ xs n ((B0 xs n).getD z))∧VM o' q n b:=by
  obtain⟨es,clock,l,rfl,hM,hd,hp,hris⟩:=h
  have hbx:∀(l1 l2:List (K × V × Nat)) (y:V) (b:Nat),(l1++(n,y,b)::l2).Pairwise (fun e f=>e.2.2<f.2.2)→
      ((l1++(n,y,b)::l2).map fun e=>(⟨q.enc e.1,m.enc e.2.1,e.2.2⟩:MapEntry)).findIdx? (fun e=>(e.born:Int) == (b:Int))=some l1.length:=by
    intro l1 l2 y b hb
    rw [List.pairwise_append] at hb
    rw [List.map_append,List.findIdx?_append,List.findIdx?_eq_none_iff.2]
    · simp [List.findIdx?_cons]
    · intro e he
      simp only [List.mem_map] at he
      obtain⟨e',he',rfl⟩:=he
      have:e'.2.2<b:=hb.2.2 e' he' (n,y,b) (by simp)
      simp;omega
  cases hg:B0 xs n with
  |none=>
    have hf:=hM.findN (P:=P) (w:=w) hk hn (fun e he=>IE hg (e.1,e.2.1) ((hp e.1 e.2.1).1 ⟨e.2.2,he⟩))
    refine⟨_,clock,?_,Mo.push hM hd hp hris hg hn hzo,_,_,es.size,rfl,?_,?_⟩
    · simp [Instr.mapEntry,run_underlying hu,HI hr,hk.check _ _ _ hn,hf,hz,JL _ hr,goInt]
    · have hb := hbx l [] z clock (by rw [List.pairwise_append]; exact ⟨hM.born, by simp, fun e he f hf => by simp at hf; subst hf; exact hM.lt e he⟩)
      have hl:es.size=l.length:=by have:=congrArg List.length hM.eq;simpa using this
      rw [hl];simpa [hM.eq] using hb
    · exact⟨_,_,by simp;exact⟨rfl,rfl⟩⟩
  |some x=>
    obtain⟨b,hb⟩:=(hp n x).2 (FK hg)
    obtain⟨l1,l2,rfl,h1,h2⟩:=KD hd hb
    have hf:=hM.findS (P:=P) (w:=w) hk h1
    have hge:es[l1.length]?=some ⟨q.enc n,m.enc x,b⟩:=by
      have:es.toList[l1.length]?=some ⟨q.enc n,m.enc x,b⟩:=by rw [hM.eq];simp
      simpa using this
    have hes:(es.modify l1.length fun e=>{e with key:=q.enc n}).toList=(l1++(n,x,b)::l2).map fun e=>(⟨q.enc e.1,m.enc e.2.1,e.2.2⟩:MapEntry):=by
      rw [Array.toList_modify,hM.eq]
      simp only [List.map_append,List.map_cons]
      have:=JM (fun e:MapEntry=>{e with key:=q.enc n}) (⟨q.enc n,m.enc x,b⟩:MapEntry) (l2.map fun e=>(⟨q.enc e.1,m.enc e.2.1,e.2.2⟩:MapEntry)) (l1.map fun e=>(⟨q.enc e.1,m.enc e.2.1,e.2.2⟩:MapEntry))
      rw [List.length_map] at this
      exact this
    refine⟨.map (es.modify l1.length fun e=>{e with key:=q.enc n}) clock,b,?_,Mo.turn hM hd hp hris (hM.ok (n,x,b) (by simp)).2 hes,_,_,l1.length,rfl,?_,?_⟩
    · simp [Instr.mapEntry,run_underlying hu,HI hr,hk.check _ _ _ hn,hf,hge,hk.stays,JL _ hr,goInt]
    · rw [hes];exact hbx l1 l2 x b hM.born
    · refine ⟨m.enc x, b, ?_⟩
      have:(es.modify l1.length fun e=>{e with key:=q.enc n}).toList[l1.length]?=some ⟨q.enc n,m.enc x,b⟩:=by rw [hes];simp
      rw [← Array.getElem?_toList];exact this
theorem MV {r:Nat} {n:K} {b:Int} {v:V} (hq:∀{a b:K},q.enc a=q.enc b→a=b) (hr:w.heap[r]?=some o) (h:Mo q m o xs) (hs:VM o q n b) (hv:m.ok v):
    ∃o',(Instr.entryStore t (.map (some r)) (.int .i64 b) (m.enc v)).run P w=.ok () (w.putObj r o')∧Mo q m o' (DJ xs n v):=by
  obtain⟨es,clock,l,rfl,hM,hd,hp,hris⟩:=h
  obtain⟨es',clock',i,heq,hi,y,bb,hy⟩:=hs
  cases heq
  have hil:i<l.length:=by
    have h1:i<es.size:=(Array.getElem?_eq_some_iff.1 hy).1
    have:=congrArg List.length hM.eq;simp at this;omega
  obtain⟨l1,e,l2,hl,hl1⟩:∃l1 e l2,l=l1++e::l2∧l1.length=i:=⟨l.take i,l[i],l.drop (i+1),by rw [← List.drop_eq_getElem_cons hil,List.take_append_drop],by simp;omega⟩
  obtain⟨n',x,b'⟩:=e
  subst hl;subst hl1
  have hge:es[l1.length]?=some ⟨q.enc n',m.enc x,b'⟩:=by
    have:es.toList[l1.length]?=some ⟨q.enc n',m.enc x,b'⟩:=by rw [hM.eq];simp
    simpa using this
  rw [hge] at hy
  have hy':=Option.some.inj hy
  have hnn:n'=n:=by injection hy' with h1 _ _;exact hq h1
  subst hnn
  have hfi:es.findIdx? (fun e=>(e.born:Int) == b)=some l1.length:=by rw [← hi];cases es;simp
  refine⟨.map (es.modify l1.length fun e=>{e with val:=m.enc v}) clock,?_,Mo.turn hM hd hp hris hv ?_⟩
  · simp only [Instr.entryStore, Sem.run_bind, Result.andThen_ok, HI hr, asInt, asIntOf, Sem.run_pure, hfi]
    rw [JL _ hr]
  · rw [Array.toList_modify, hM.eq]
    simp only [List.map_append,List.map_cons]
    have:=JM (fun e:MapEntry=>{e with val:=m.enc v}) (⟨q.enc n',m.enc x,b'⟩:MapEntry) (l2.map fun e=>(⟨q.enc e.1,m.enc e.2.1,e.2.2⟩:MapEntry)) (l1.map fun e=>(⟨q.enc e.1,m.enc e.2.1,e.2.2⟩:MapEntry))
    rw [List.length_map] at this
    exact this
end mem
section own
variable {K V : Type} [DecidableEq K] [GT K] {q : Kk K} {m : Mv V} {o : Obj} {xs : List (K × V)} {P : Program} {r : Option Nat} {ρ : EX} {w w' : World} {d : Option Nat} {ty : TypeId} {pos : String} {aft : Array Edge} {g : Option (Nat × Bool)} {Vv : Value → World → Prop}
variable {z0 : Zx} {O0 O O' : List Nat} {bs : Bi} {x y u : Operand} {t kt e : TypeId}
theorem St.putObj (hs:St z0 O0 w bs) {i b:Nat} (hi:bs[i]?=some (some b,o)) (o':Obj):St z0 O0 (w.putObj b o') (bs.set i (some b,o'))∧AB (ks bs O0) w (ks (bs.set i (some b,o')) O0) (w.putObj b o'):=by
  have hb:=(hs.own _ (List.mem_of_getElem? hi) b rfl).1
  have hlt:b<w.heap.size:=hs.lt (List.mem_of_getElem? hi) rfl
  have hsz:(w.putObj b o').heap.size=w.heap.size:=by simp
  have ho:∀j,j<w.heap.size→some b≠some j→(w.putObj b o').heap[j]?=w.heap[j]?:=fun j _ hj=>World.putObj_heap_other (fun e=>hj (by rw [e]))
  have hl:HW [b] w (w.putObj b o'):=⟨rfl,rfl,rfl,by rw [hsz];exact Nat.le_refl _,fun k hk hn=>ho k hk (by simp at hn;intro e;cases e;exact hn rfl),Nat.le_refl _⟩
  refine⟨hs.put hi (hs.below.trans' hl (by rintro k hk;simp at hk;subst hk;exact hb)) (by rw [hsz];exact Nat.le_refl _) (fun j hj=>?_) ho,AB.put hi (by rw [hsz];exact Nat.le_refl _) (fun j hj=>.inl hj) ho⟩
  cases hj;exact⟨.inl rfl,World.putObj_heap_same hlt⟩
theorem H6 (hs:St z0 O0 w bs) (k:∀bl w',AB (ks bs O0) w (ks ((some bl,.map #[] 0)::bs) O0) w'→St z0 O0 w' ((some bl,.map #[] 0)::bs)→Vv (.map (some bl)) w'):
    BQ P r ρ w ⟨d,.makeMap t none,ty,pos,aft,g⟩ Vv:=by
  refine Bl (v:=.map (some w.heap.size)) (w':=w.alloc (.map #[] 0)) (by simp) ?_ (k _ _ (AB.alloc w O0 bs _) (hs.alloc _))
  simp [execOp,Instr.makeMap]
def NA (q:Kk K) (m:Mv V) (w:World) (O:List Nat) (v:Value) (xs:List (K × V)):Prop:=∃b o,v=.map (some b)∧Sh w O b∧w.heap[b]?=some o∧Mo q m o xs
theorem NA.one1 {v:Value} (h:NA q m w O v xs):v.oneCell'=true:=by obtain⟨b,o,rfl,_⟩:=h;simp [Value.oneCell']
theorem NA.cells1 {v:Value} (h:NA q m w O v xs):v.cells=[v].toArray:=by obtain⟨b,o,rfl,_⟩:=h;rfl
theorem NA.step {v:Value} (h:NA q m w O v xs) (s:AB O w O' w'):NA q m w' O' v xs:=by
  obtain⟨b,o,h1,h2,h3,h4⟩:=h
  exact⟨b,o,h1,h2.step s,by rw [(s.keep b h2.lt h2.no).2];exact h3,h4⟩
def JN (q:Kk K) (m:Mv V):Rp (List (K × V)) where
  n:=1
  rd w O cs x:=∃v,cs=[v]∧NA q m w O v x
  len:=fun⟨_,h,_⟩=>by rw [h];rfl
  one:=fun⟨v,h,b,o,h2,_⟩=>by subst h;subst h2;simp [Value.oneCell']
  step:=fun s ⟨v,h,h2⟩=>⟨v,h,h2.step s⟩
theorem QH {v:Value} (h:NA q m w O v xs):(JN q m).rd w O [v] xs:=⟨v,rfl,h⟩
theorem Px {v:Value} (h:(JN q m).rd w O [v] xs):NA q m w O v xs:=by obtain⟨v',h1,h2⟩:=h;cases h1;exact h2
theorem St.publishM (hs:St z0 O0 w bs) {i b:Nat} (hi:bs[i]?=some (some b,o)) (h:Mo q m o xs):
    St z0 O0 w (bs.eraseIdx i)∧AB (ks bs O0) w (ks (bs.eraseIdx i) O0) w∧NA q m w (ks (bs.eraseIdx i) O0) (.map (some b)) xs:=
  ⟨hs.drop i,AB.drop w O0 bs i,b,o,rfl,⟨hs.lt (List.mem_of_getElem? hi) rfl,JJ hs hi⟩,hs.get hi,h⟩
theorem Hg {b:Nat} {n:K} {z:V} (hu:P.underlying t=some (.map kt e)) (hk:N8 P kt q) (hz:∀w,(zeroValue e).run P w=.ok (m.enc z) w) (hb:w.heap[b]?=some o) (h:Mo q m o xs) (hn:q.ok n) (hx:ev ρ x=.map (some b)) (hy:ev ρ y=q.enc n)
    (k:Vv (m.enc ((B0 xs n).getD z)) w):BQ P r ρ w ⟨d,.lookup t x y false,ty,pos,aft,g⟩ Vv:=by
  refine Bl (by simp) ?_ k
  simp [execOp,hx,hy,Qn hu hk hz hb h hn false]
theorem MW {v:Value} {n:K} {z:V} (hu:P.underlying t=some (.map kt e)) (hk:N8 P kt q) (hz:∀w,(zeroValue e).run P w=.ok (m.enc z) w) (h:NA q m w O v xs) (hn:q.ok n) (hx:ev ρ x=v) (hy:ev ρ y=q.enc n)
    (k:Vv (m.enc ((B0 xs n).getD z)) w):BQ P r ρ w ⟨d,.lookup t x y false,ty,pos,aft,g⟩ Vv:=by
  obtain⟨b,o,rfl,_,hb,hM⟩:=h
  exact Hg hu hk hz hb hM hn hx hy k
theorem NA.ok {v:Value} (h:NA q m w O v xs) {n:K} {z:V} (hz:m.ok z):m.ok ((B0 xs n).getD z):=by obtain⟨_,_,_,_,_,hM⟩:=h;exact hM.ok hz
theorem Hh {b i:Nat} {n:K} {v:V} {vv:Value} (hu:P.underlying t=some (.map kt e)) (hk:N8 P kt q) (hs:St z0 O0 w bs) (hi:bs[i]?=some (some b,o)) (h:Mo q m o xs) (hx:ev ρ x=.map (some b)) (hy:ev ρ y=q.enc n) (hv:ev ρ u=vv) (hvv:vv=m.enc v) (hn:q.ok n) (hvo:m.ok v)
    (k:∀o' w',AB (ks bs O0) w (ks (bs.set i (some b,o')) O0) w'→St z0 O0 w' (bs.set i (some b,o'))→Mo q m o' (DJ xs n v)→Vv undef w'):BQ P r ρ w ⟨d,.mapUpdate t x y u,ty,pos,aft,g⟩ Vv:=by
  obtain⟨o',h1,h2⟩:=N9 (P:=P) hu hk (hs.get hi) h hn hvo
  obtain⟨h3,h4⟩:=hs.putObj hi o'
  subst hvv
  refine LO (by simp) ?_ (k o' _ h4 h3 h2)
  simp [execOp,hx,hy,hv,h1]
theorem Mq {b i:Nat} {n:K} {z:V} (hu:P.underlying t=some (.map kt e)) (hk:N8 P kt q) (hz:∀w,(zeroValue e).run P w=.ok (m.enc z) w) (hzo:m.ok z) (hs:St z0 O0 w bs) (hi:bs[i]?=some (some b,o)) (h:Mo q m o xs) (hx:ev ρ x=.map (some b)) (hy:ev ρ y=q.enc n) (hn:q.ok n)
    (k:∀o' s w',AB (ks bs O0) w (ks (bs.set i (some b,o')) O0) w'→St z0 O0 w' (bs.set i (some b,o'))→Mo q m o' (DJ xs n ((B0 xs n).getD z))→VM o' q n s→Vv (.tuple [m.enc ((B0 xs n).getD z),.int .i64 s].toArray) w'):BQ P r ρ w ⟨d,.mapEntry t x y,ty,pos,aft,g⟩ Vv:=by
  obtain⟨o',s,h1,h2,h5⟩:=OP (P:=P) hu hk hz hzo (hs.get hi) h hn
  obtain⟨h3,h4⟩:=hs.putObj hi o'
  refine Bl (by simp) ?_ (k o' s _ h4 h3 h2 h5)
  simp [execOp,hx,hy,h1]
theorem KS {b i:Nat} {n:K} {s:Int} {v:V} {vv:Value} (hq:∀{a b:K},q.enc a=q.enc b→a=b) (hs:St z0 O0 w bs) (hi:bs[i]?=some (some b,o)) (h:Mo q m o xs) (hS:VM o q n s) (hx:ev ρ x=.map (some b)) (hy:ev ρ y=.int .i64 s) (hv:ev ρ u=vv) (hvv:vv=m.enc v) (hvo:m.ok v)
    (k:∀o' w',AB (ks bs O0) w (ks (bs.set i (some b,o')) O0) w'→St z0 O0 w' (bs.set i (some b,o'))→Mo q m o' (DJ xs n v)→Vv undef w'):BQ P r ρ w ⟨d,.entryStore t x y u,ty,pos,aft,g⟩ Vv:=by
  obtain⟨o',h1,h2⟩:=MV (P:=P) (t:=t) hq (hs.get hi) h hS hvo
  obtain⟨h3,h4⟩:=hs.putObj hi o'
  subst hvv
  refine LO (by simp) ?_ (k o' _ h4 h3 h2)
  simp [execOp,hx,hy,hv,h1]
theorem Mo.size (h:Mo q m o xs):∃es clock,o=.map es clock∧es.size=xs.length:=by
  obtain⟨es,clock,l,rfl,hM,hd,hp,hris⟩:=h
  refine⟨es,clock,rfl,?_⟩
  have hl:es.size=l.length:=by have:=congrArg List.length hM.eq;simpa using this
  rw [hl]
  have:(l.map fun e=>(e.1,e.2.1)).Perm xs:=by
    refine(List.perm_ext_iff_of_nodup ?_ (KC hris)).2 fun p=>?_
    · rw [List.nodup_iff_pairwise_ne,List.pairwise_map];exact hd.imp fun h e=>h (Prod.mk.inj e).1
    · rw [← hp p.1 p.2]; simp only [List.mem_map]
      constructor
      · rintro⟨e,he,rfl⟩;exact⟨e.2.2,he⟩
      · rintro⟨b,hb⟩;exact⟨(p.1,p.2,b),hb,rfl⟩
  simpa using this.length_eq
end own
end Go.Fx
set_option linter.unusedSimpArgs false
set_option linter.unusedVariables false
namespace Go.Fx
open Go Go.RowKit

def Ld (v:Value) (h:v.oneCell'=true):Rp Unit where
  n:=1
  rd _ _ cs _:=cs=[v]
  len:=fun h=>by rw [h];rfl
  one:=fun e u hu=>by rw [e] at hu;simp at hu;subst hu;exact h
  step:=fun _ h=>h
theorem Ic {v u:Value} {h1:v.oneCell'=true} {w:World} {O:List Nat} {x:Unit} (h:(Ld v h1).rd w O [u] x):u=v:=by
  have: [u] =[v]:=h
  simpa using this
def Ku {α γ:Type} (P:Program) (enc:γ→World→List Nat→List Value→Prop) (l:Nat) (w:World) (O:List Nat) (fv:Value) (A:Vr α) (f:α→Option (List γ)):Prop:=
  (∃k caps,fv=.func k #[] caps)∧∀w1 O1,AB O w O1 w1→(∀k∈O1,k<w1.heap.size)→∀(J Jx:JP γ),Gw J→Gw Jx→∀v x Lx,A.vd w1 O1 v x→f x=some Lx→GW P enc Lx l J Jx→J [] w1 O1 []→
    N7 P fv [v] w1 fun u w2=>∃O2,(u=.bool true∧J Lx w2 O2 [])∨(u=.bool false∧∃pre,Jx pre w2 O2 [])
theorem Ku.step {α γ:Type} {P:Program} {enc:γ→World→List Nat→List Value→Prop} {l:Nat} {w w':World} {O O':List Nat} {fv:Value} {A:Vr α} {f:α→Option (List γ)} (h:Ku P enc l w O fv A f) (s:AB O w O' w'):Ku P enc l w' O' fv A f:=
  ⟨h.1,fun w1 O1 s1=>h.2 w1 O1 (s.trans s1)⟩
def NB {α β:Type} (Φ:(α→Option β)→α→Option β):Nat→α→Option β
  |0=>fun _=>none
  |n+1=>Φ (NB Φ n)
theorem Ku.fix {α γ:Type} {P:Program} {enc:γ→World→List Nat→List Value→Prop} {l:Nat} {w:World} {O:List Nat} {A:Vr α} {k:Go.Fn} {caps:Array Value} {Φ:(α→Option (List γ))→α→Option (List γ)}
    (h:∀f,Ku P enc l w O (.func k #[] caps) A f→Ku P enc l w O (.func k #[] caps) A (Φ f)):∀n,Ku P enc l w O (.func k #[] caps) A (NB Φ n)
  |0=>⟨⟨k,caps,rfl⟩,fun _ _ _ _ _ _ _ _ _ _ _ _ hf=>by cases hf⟩
  |n+1=>h _ (Ku.fix h n)
section call
variable {P : Program} {ρ : EX} {w : World} {z : Zx} {O : List Nat} {bs : Bi} {α γ : Type} {J Jx : JP γ} {L pre Lx : List γ} {l : Nat} {enc : γ → World → List Nat → List Value → Prop}
def Uo (J:JP γ) (pre:List γ) (w:World) (O:List Nat) (bs:Bi):JP γ:=fun pre' w' O' K'=>
  ∃Oc,O'=ks bs Oc∧J (pre++pre') w' Oc (K'++bs.filterMap Prod.fst)∧(∀p∈bs,∀b,p.1=some b→w'.heap[b]?=some p.2)∧(∀k∈Oc,k ∉ bs.filterMap Prod.fst∧k<w'.heap.size)∧AB (ks bs O) w O' w'∧∀k∈K',w.heap.size≤k
theorem Uo.lt {pre':List γ} {w':World} {O' K':List Nat} (hs:St z O w bs) (h:Uo J pre w O bs pre' w' O' K'):∀k∈bs.filterMap Prod.fst,k<w'.heap.size:=fun k hk=>by
  obtain⟨Oc,_,_,_,_,h5,_⟩:=h
  obtain⟨p,hp,e⟩:=B6.1 hk
  exact Nat.lt_of_lt_of_le (hs.lt hp e) h5.size
theorem Uo.abides (hJ:Gw J) (hs:St z O w bs):Gw (Uo J pre w O bs):=by
  refine⟨fun {pre' w1 w2 O' K' K''} h hd hl hg=>?_⟩
  have hlt:=h.lt hs
  obtain⟨Oc,rfl,h2,h3,h4,h5,h6⟩:=h
  have hkO:∀k∈K',k ∉ bs.filterMap Prod.fst∧k ∉ Oc:=fun k hk=>⟨fun hm=>hd k hk (By.2 (.inl hm)),fun hm=>hd k hk (By.2 (.inr hm))⟩
  refine⟨Oc,rfl,hJ.loc h2 ?_ ?_ ?_,fun p hp b hb=>?_,fun k hk=>⟨(h4 k hk).1,Nat.lt_of_lt_of_le (h4 k hk).2 hl.size⟩,⟨Nat.le_trans h5.size hl.size,fun k hk hn=>?_⟩,fun k hk=>?_⟩
  · intro k hk
    rcases List.mem_append.1 hk with hk |hk
    · exact(hkO k hk).2
    · exact fun hm=>(h4 k hm).1 hk
  · exact hl.sub fun k hk=>.inl (List.mem_append_left _ hk)
  · refine ⟨fun k hk => ?_, fun k hk => ?_⟩
    · rcases List.mem_append.1 hk with hk | hk
      · exact(hg.new k hk).imp (List.mem_append_left _) id
      · exact .inl (List.mem_append_right _ hk)
    · rcases List.mem_append.1 hk with hk | hk
      · exact hg.lt k hk
      · exact Nat.lt_of_lt_of_le (hlt k hk) hl.size
  · rw [hl.block b (hlt b (B6.2 ⟨p,hp,hb⟩)) fun hm=>(hkO b hm).1 (B6.2 ⟨p,hp,hb⟩)];exact h3 p hp b hb
  · obtain ⟨k1, k2⟩ := h5.keep k hk hn
    exact⟨k1,by rw [hl.block k (Nat.lt_of_lt_of_le hk h5.size) fun hm=>by have:=h6 k hm;omega];exact k2⟩
  · rcases hg.new k hk with h | h
    · exact h6 k h
    · exact Nat.le_trans h5.size h
theorem Uo.yields (hs:St z O w bs) (hL:pre++Lx<+:L) (hY:GW P enc L l J Jx):GW P enc Lx l (Uo J pre w O bs) (Uo Jx pre w O bs):=by
  intro pre' a w' O' K' vs hp h hK hO hen
  have hlt:=h.lt hs
  obtain⟨Oc,rfl,h2,h3,h4,h5,h6⟩:=h
  have hkO:∀k∈K',k ∉ bs.filterMap Prod.fst∧k ∉ Oc:=fun k hk=>⟨fun hm=>(hK k hk).2 (By.2 (.inl hm)),fun hm=>(hK k hk).2 (By.2 (.inr hm))⟩
  have hp':pre++pre'++[a]<+:L:=by
    rw [List.append_assoc]
    exact List.IsPrefix.trans ((List.prefix_append_right_inj pre).2 hp) hL
  obtain⟨fn,tmps,assign,body,hy,hR⟩:=hY (pre++pre') a w' Oc (K'++bs.filterMap Prod.fst) vs hp' h2 (fun k hk=>by
    rcases List.mem_append.1 hk with hk |hk
    · exact⟨(hK k hk).1,(hkO k hk).2⟩
    · exact⟨hlt k hk,fun hm=>(h4 k hm).1 hk⟩) (fun k hk=>(h4 k hk).2) (by rw [List.append_assoc];exact hen)
  refine⟨fn,tmps,assign,body,hy,hR.mono ?_⟩
  · rintro e w'' ⟨O'', hl, hg, hor⟩
    have hkeep:∀b∈bs.filterMap Prod.fst,w''.heap[b]?=w'.heap[b]?:=fun b hb=>hl.block b (hlt b hb) fun hm=>(h4 b hm).1 hb
    have hnew:∀k∈O'',k ∉ bs.filterMap Prod.fst∧k<w''.heap.size:=fun k hk=>⟨fun hm=>by
      rcases hg.new k hk with h |h
      · exact(h4 k h).1 hm
      · have:=hlt k hm;omega,hg.lt k hk⟩
    have hst:AB (ks bs Oc) w' (ks bs O'') w'':=AB.of_loc hl (fun k hk=>By.2 (.inr hk)) fun k hk=>by
      rcases By.1 hk with hk |hk
      · exact .inl (By.2 (.inl hk))
      · exact(hg.new k hk).imp (fun h=>By.2 (.inr h)) id
    have mk:∀J':JP γ,J' (pre++pre'++[a]) w'' O'' (K'++bs.filterMap Prod.fst)→Uo J' pre w O bs (pre'++[a]) w'' (ks bs O'') K':=fun J' hj=>
      ⟨O'',rfl,by rw [← List.append_assoc];exact hj,fun p hp b hb=>by rw [hkeep b (B6.2 ⟨p,hp,hb⟩)];exact h3 p hp b hb,hnew,h5.trans hst,h6⟩
    refine⟨ks bs O'',hl.sub fun k hk=>.inl (By.2 (.inr hk)),⟨fun k hk=>?_,fun k hk=>?_⟩,?_⟩
    · rcases By.1 hk with hk | hk
      · exact .inl (By.2 (.inl hk))
      · exact(hg.new k hk).imp (fun h=>By.2 (.inr h)) id
    · rcases By.1 hk with hk | hk
      · exact Nat.lt_of_lt_of_le (hlt k hk) hl.size
      · exact hg.lt k hk
    · rcases hor with ⟨he, h⟩ | ⟨he, h⟩
      · exact .inl ⟨he,mk J h⟩
      · exact .inr ⟨he,mk Jx h⟩
end call
end Go.Fx
set_option linter.unusedSimpArgs false
set_option linter.unusedVariables false
namespace Go.Fx
open Go Go.RowKit
theorem Wd {α:Type} {a b:α} {l m:List α} (h1:a=b) (h2:l=m):a::l=b::m:=by rw [h1,h2]
theorem Ej.rep {α:Type} {p:Rp α} {w:World} {O:List Nat} {v:Value} {x:α} (h:p.rd w O [v] x):∀n,Ej p w O (List.replicate n v) (List.replicate n x)
  |0=>rfl
  |n+1=>⟨[v],List.replicate n v,rfl,h,Ej.rep h n⟩
section
variable {α : Type} {q : Rp α} {e : TypeId} {w w' : World} {O O0 : List Nat} {c bl i : Nat} {xs xs' : List α} {o : Obj} {bs : Bi} {z : Zx}
theorem KE (hi:bs[i]?=some (some bl,o)):(bl::(bs.eraseIdx i).filterMap Prod.fst).Perm (bs.filterMap Prod.fst):=by
  obtain⟨h,e1⟩:=List.getElem?_eq_some_iff.1 hi
  have e2:bs=bs.take i++(some bl,o)::bs.drop (i+1):=by
    rw [← e1,← List.drop_eq_getElem_cons h,List.take_append_drop]
  have e3:bs.filterMap Prod.fst=(bs.take i).filterMap Prod.fst++bl::(bs.drop (i+1)).filterMap Prod.fst:=by
    conv=>lhs;rw [e2]
    rw [List.filterMap_append];rfl
  rw [e3,List.eraseIdx_eq_take_drop_succ,List.filterMap_append]
  exact List.perm_middle.symm
theorem St.startW {w0:World} (h:∀k∈O,k<w0.heap.size) (hb:bl ∉ O) (ho:w0.heap[bl]?=some o):St ⟨w0,[bl],[]⟩ O w0 [(some bl,o)]:=by
  refine⟨HW.refl _ _,fun p hp b hb'=>?_,by simp,fun k hk=>⟨h k hk,fun hm=>?_⟩,List.nodup_nil,fun _ h=>by cases h⟩
  · rcases List.mem_cons.1 hp with rfl | hp
    · cases hb';exact⟨.inl (by simp),ho⟩
    · cases hp
  · simp at hm;subst hm;exact hb hk
end
theorem CA.win {α:Type} {q:Rp α} {w:World} {O:List Nat} {bl c l h:Nat} {xs:List α} (hq:q.n=1) (hS:CA q w O (some ⟨bl,0,none⟩) c xs) (h1:l<h) (h2:h≤xs.length):
    CA q w O (some ⟨bl,if c=l then 0 else 0+l*1,none⟩) (c - l) ((xs.drop l).take (h - l)):=by
  have:=hS.sub (l:=l) (hi:=h) (mx:=c) (by omega) h2 (by have:=hS.le;omega) (Nat.le_refl _)
  have hc:=hS.le
  have hne: ¬c=l:=by omega
  rw [if_neg hne] at this ⊢
  rw [hq] at this
  simpa [Addr.add_lit] using this
section ops
variable {P : Program} {r : Option Nat} {ρ : EX} {w : World} {O0 : List Nat} {bs : Bi} {w0 : Zx} {d : Option Nat} {ty : TypeId} {pos : String} {aft : Array Edge} {g : Option (Nat × Bool)} {V : Value → World → Prop} {t : TypeId} {x y : Operand} {td : TypeDesc} {n b : Nat} {z : List Value} {ag : Bool} {m : Int}
end ops
end Go.Fx
set_option linter.unusedSimpArgs false
set_option linter.unusedVariables false
set_option linter.unusedSectionVars false
namespace Go.Fx
open Go Go.RowKit

/-! slices that may be nil -/
section
variable {P : Program} {r : Option Nat} {ρ : EX} {w : World} {d : Option Nat} {ty : TypeId} {pos : String} {aft : Array Edge} {g : Option (Nat × Bool)} {V : Value → World → Prop} {t : TypeId} {x y : Operand} {u : TypeId}
end
/-! maps lent to a call -/
section
variable {K V β : Type} [DecidableEq K] [GT K] {q : Kk K} {m : Mv V} {w w' : World} {O O0 : List Nat} {bl i : Nat} {o o' : Obj} {bs : Bi} {z : Zx} {mp mp' : List (K × V)}
theorem Py (hi:bs[i]?=some (some bl,o)) {k:Nat} :k∈bl::ks (bs.eraseIdx i) O0 ↔ k∈ks bs O0:=by
  have hp:=KE hi
  constructor
  · intro h
    rcases List.mem_cons.1 h with rfl |h
    · exact By.2 (.inl (hp.mem_iff.1 List.mem_cons_self))
    · exact(By.1 h).elim (fun h=>By.2 (.inl (hp.mem_iff.1 (List.mem_cons_of_mem _ h)))) fun h=>By.2 (.inr h)
  · intro h
    rcases By.1 h with h |h
    · rcases List.mem_cons.1 (hp.mem_iff.2 h) with rfl | h
      · exact List.mem_cons_self
      · exact List.mem_cons_of_mem _ (By.2 (.inl h))
    · exact List.mem_cons_of_mem _ (By.2 (.inr h))
theorem St.lendM (hs:St z O0 w bs) (hi:bs[i]?=some (some bl,o)):
    (∀k∈ks (bs.eraseIdx i) O0,k<w.heap.size)∧bl ∉ ks (bs.eraseIdx i) O0∧w.heap[bl]?=some o∧AB (ks bs O0) w (bl::ks (bs.eraseIdx i) O0) w:=by
  refine⟨(hs.drop i).ltw,fun hm=>?_,hs.get hi,AB.sub fun k hk=>(Py hi).1 hk⟩
  have hnd:=(KE hi).nodup_iff.2 hs.nd
  rcases List.mem_append.1 hm with hm |hm
  · exact(List.nodup_cons.1 hnd).1 hm
  · exact(hs.dj bl hm).2 (B6.2 ⟨_,List.mem_of_getElem? hi,rfl⟩)
theorem TJ (hi:bs[i]?=some (some bl,o)):(bs.set i (some bl,o'))[i]?=some (some bl,o'):=by
  have:=(List.getElem?_eq_some_iff.1 hi).1
  simp [this]
end
/-! functions BS an iterator that write into a map of it -/
def Kv {α γ K V:Type} [DecidableEq K] [GT K] (P:Program) (enc:γ→World→List Nat→List Value→Prop) (l:Nat) (q:Kk K) (m:Mv V) (bm:Nat) (w:World) (O:List Nat) (fv:Value) (A:Vr α) (f:α × List (K × V)→Option (List γ × List (K × V))):Prop:=
  (∃k caps,fv=.func k #[] caps)∧∀w1 O1 o1 mp,AB O w (bm::O1) w1→bm ∉ O1→w1.heap[bm]?=some o1→Mo q m o1 mp→(∀k∈O1,k<w1.heap.size)→∀(J Jx:JP γ),Gw J→Gw Jx→∀v x Lx mz,A.vd w1 (bm::O1) v x→f (x,mp)=some (Lx,mz)→GW P enc Lx l J Jx→J [] w1 O1 [bm]→
    N7 P fv [v] w1 fun u w2=>∃O2 o2 m2,bm ∉ O2∧w2.heap[bm]?=some o2∧Mo q m o2 m2∧((u=.bool true∧m2=mz∧J Lx w2 O2 [bm])∨(u=.bool false∧∃pre,Jx pre w2 O2 [bm]))
section sub
variable {α γ K V : Type} [DecidableEq K] [GT K] {P : Program} {enc : γ → World → List Nat → List Value → Prop} {l : Nat} {q : Kk K} {m : Mv V} {bm : Nat} {w w' : World} {O O' : List Nat} {A : Vr α} {f : α × List (K × V) → Option (List γ × List (K × V))}
theorem Kv.step {fv:Value} (h:Kv P enc l q m bm w O fv A f) (s:AB O w O' w'):Kv P enc l q m bm w' O' fv A f:=
  ⟨h.1,fun w1 O1 o1 mp s1=>h.2 w1 O1 o1 mp (s.trans s1)⟩
theorem Kv.fix {k:Go.Fn} {caps:Array Value} {Φ:(α × List (K × V)→Option (List γ × List (K × V)))→α × List (K × V)→Option (List γ × List (K × V))}
    (h:∀f,Kv P enc l q m bm w O (.func k #[] caps) A f→Kv P enc l q m bm w O (.func k #[] caps) A (Φ f)):∀n,Kv P enc l q m bm w O (.func k #[] caps) A (NB Φ n)
  |0=>⟨⟨k,caps,rfl⟩,fun _ _ _ _ _ _ _ _ _ _ _ _ _ _ _ _ _ _ hf=>by cases hf⟩
  |n+1=>h _ (Kv.fix h n)
def S7 {M:Type} (a:Option (List γ × M)) (k:M→Option (List γ × M)):Option (List γ × M):=a.bind fun p=>(k p.2).map fun r=>(p.1++r.1,r.2)
theorem RG {M:Type} {a:Option (List γ × M)} {k:M→Option (List γ × M)} {L:List γ} {mz:M} (h:S7 a k=some (L,mz)):∃A m1 B,a=some (A,m1)∧k m1=some (B,mz)∧L=A++B:=by
  cases a with
  |none=>cases h
  |some p=>
    obtain⟨A,m1⟩:=p
    cases hk:k m1 with
    |none=>simp [S7,hk] at h
    |some r=>
      obtain⟨B,m2⟩:=r
      simp [S7,hk] at h
      obtain⟨h1,h2⟩:=h
      subst h1;subst h2
      exact⟨A,m1,B,rfl,hk,rfl⟩
def S8 {M:Type} (a:Option (List γ × M)) (k:M→Option (List γ)):Option (List γ):=a.bind fun p=>(k p.2).map (p.1++·)
theorem RH {M:Type} {a:Option (List γ × M)} {k:M→Option (List γ)} {L:List γ} (h:S8 a k=some L):∃A m1 B,a=some (A,m1)∧k m1=some B∧L=A++B:=by
  cases a with
  |none=>cases h
  |some p=>
    obtain⟨A,m1⟩:=p
    cases hk:k m1 with
    |none=>simp [S8,hk] at h
    |some B=>simp [S8,hk] at h;exact⟨A,m1,B,rfl,hk,h.symm⟩
def Xr {M:Type} (x:γ) (m:Option (List γ × M)):Option (List γ × M):=m.map fun r=>(x::r.1,r.2)
theorem S9 {M:Type} {x:γ} {m:Option (List γ × M)} {L:List γ} {mz:M} (h:Xr x m=some (L,mz)):∃L',m=some (L',mz)∧L=x::L':=by
  cases m with
  |none=>cases h
  |some r=>
    obtain⟨L',m2⟩:=r
    simp [Xr] at h
    obtain⟨h1,h2⟩:=h
    subst h1;subst h2;exact⟨L',rfl,rfl⟩
end sub
section call
variable {P : Program} {ρ : EX} {w : World} {z : Zx} {O : List Nat} {bs : Bi} {α γ K V : Type} [DecidableEq K] [GT K] {J Jx : JP γ} {L pre Lx : List γ} {l : Nat} {enc : γ → World → List Nat → List Value → Prop} {q : Kk K} {m : Mv V} {bm : Nat}
def Le (J:JP γ) (pre:List γ) (w:World) (O:List Nat) (bs:Bi) (bm:Nat):JP γ:=fun pre' w' O' K'=>
  ∃Oc,O'=ks bs Oc∧J (pre++pre') w' Oc (K'++bs.filterMap Prod.fst)∧(∀p∈bs,∀b,p.1=some b→w'.heap[b]?=some p.2)∧(∀k∈Oc,k ∉ bs.filterMap Prod.fst∧k<w'.heap.size)∧AB (bm::ks bs O) w (bm::O') w'∧∀k∈K',k=bm∨w.heap.size≤k
theorem Le.lt {pre':List γ} {w':World} {O' K':List Nat} (hb:∀k∈bs.filterMap Prod.fst,k<w.heap.size) (h:Le J pre w O bs bm pre' w' O' K'):∀k∈bs.filterMap Prod.fst,k<w'.heap.size:=fun k hk=>by
  obtain⟨Oc,_,_,_,_,h5,_⟩:=h
  exact Nat.lt_of_lt_of_le (hb k hk) h5.size
theorem Le.abides (hJ:Gw J) (hb:∀k∈bs.filterMap Prod.fst,k<w.heap.size):Gw (Le J pre w O bs bm):=by
  refine⟨fun {pre' w1 w2 O' K' K''} h hd hl hg=>?_⟩
  have hlt:=h.lt hb
  obtain⟨Oc,rfl,h2,h3,h4,h5,h6⟩:=h
  have hkO:∀k∈K',k ∉ bs.filterMap Prod.fst∧k ∉ Oc:=fun k hk=>⟨fun hm=>hd k hk (By.2 (.inl hm)),fun hm=>hd k hk (By.2 (.inr hm))⟩
  refine⟨Oc,rfl,hJ.loc h2 ?_ ?_ ?_,fun p hp b hb=>?_,fun k hk=>⟨(h4 k hk).1,Nat.lt_of_lt_of_le (h4 k hk).2 hl.size⟩,⟨Nat.le_trans h5.size hl.size,fun k hk hn=>?_⟩,fun k hk=>?_⟩
  · intro k hk
    rcases List.mem_append.1 hk with hk |hk
    · exact(hkO k hk).2
    · exact fun hm=>(h4 k hm).1 hk
  · exact hl.sub fun k hk=>.inl (List.mem_append_left _ hk)
  · refine ⟨fun k hk => ?_, fun k hk => ?_⟩
    · rcases List.mem_append.1 hk with hk | hk
      · exact(hg.new k hk).imp (List.mem_append_left _) id
      · exact .inl (List.mem_append_right _ hk)
    · rcases List.mem_append.1 hk with hk | hk
      · exact hg.lt k hk
      · exact Nat.lt_of_lt_of_le (hlt k hk) hl.size
  · rw [hl.block b (hlt b (B6.2 ⟨p,hp,hb⟩)) fun hm=>(hkO b hm).1 (B6.2 ⟨p,hp,hb⟩)];exact h3 p hp b hb
  · obtain ⟨k1, k2⟩ := h5.keep k hk hn
    exact⟨k1,by rw [hl.block k (Nat.lt_of_lt_of_le hk h5.size) fun hm=>(h6 k hm).elim (fun e=>hn (by rw [e];exact List.mem_cons_self)) fun h=>by omega];exact k2⟩
  · rcases hg.new k hk with h | h
    · exact h6 k h
    · exact .inr (Nat.le_trans h5.size h)
theorem Le.yields (hb:∀k∈bs.filterMap Prod.fst,k<w.heap.size) (hL:pre++Lx<+:L) (hY:GW P enc L l J Jx):GW P enc Lx l (Le J pre w O bs bm) (Le Jx pre w O bs bm):=by
  intro pre' a w' O' K' vs hp h hK hO hen
  have hlt:=h.lt hb
  obtain⟨Oc,rfl,h2,h3,h4,h5,h6⟩:=h
  have hkO:∀k∈K',k ∉ bs.filterMap Prod.fst∧k ∉ Oc:=fun k hk=>⟨fun hm=>(hK k hk).2 (By.2 (.inl hm)),fun hm=>(hK k hk).2 (By.2 (.inr hm))⟩
  have hp':pre++pre'++[a]<+:L:=by
    rw [List.append_assoc]
    exact List.IsPrefix.trans ((List.prefix_append_right_inj pre).2 hp) hL
  obtain⟨fn,tmps,assign,body,hy,hR⟩:=hY (pre++pre') a w' Oc (K'++bs.filterMap Prod.fst) vs hp' h2 (fun k hk=>by
    rcases List.mem_append.1 hk with hk |hk
    · exact⟨(hK k hk).1,(hkO k hk).2⟩
    · exact⟨hlt k hk,fun hm=>(h4 k hm).1 hk⟩) (fun k hk=>(h4 k hk).2) (by rw [List.append_assoc];exact hen)
  refine⟨fn,tmps,assign,body,hy,hR.mono ?_⟩
  · rintro e w'' ⟨O'', hl, hg, hor⟩
    have hkeep:∀b∈bs.filterMap Prod.fst,w''.heap[b]?=w'.heap[b]?:=fun b hb=>hl.block b (hlt b hb) fun hm=>(h4 b hm).1 hb
    have hnew:∀k∈O'',k ∉ bs.filterMap Prod.fst∧k<w''.heap.size:=fun k hk=>⟨fun hm=>by
      rcases hg.new k hk with h |h
      · exact(h4 k h).1 hm
      · have:=hlt k hm;omega,hg.lt k hk⟩
    have hst:AB (bm::ks bs Oc) w' (bm::ks bs O'') w'':=AB.of_loc hl (fun k hk=>List.mem_cons_of_mem _ (By.2 (.inr hk))) fun k hk=>by
      rcases List.mem_cons.1 hk with rfl |hk
      · exact .inl List.mem_cons_self
      · rcases By.1 hk with hk | hk
        · exact .inl (List.mem_cons_of_mem _ (By.2 (.inl hk)))
        · exact(hg.new k hk).imp (fun h=>List.mem_cons_of_mem _ (By.2 (.inr h))) id
    have mk:∀J':JP γ,J' (pre++pre'++[a]) w'' O'' (K'++bs.filterMap Prod.fst)→Le J' pre w O bs bm (pre'++[a]) w'' (ks bs O'') K':=fun J' hj=>
      ⟨O'',rfl,by rw [← List.append_assoc];exact hj,fun p hp b hb=>by rw [hkeep b (B6.2 ⟨p,hp,hb⟩)];exact h3 p hp b hb,hnew,h5.trans hst,h6⟩
    refine⟨ks bs O'',hl.sub fun k hk=>.inl (By.2 (.inr hk)),⟨fun k hk=>?_,fun k hk=>?_⟩,?_⟩
    · rcases By.1 hk with hk | hk
      · exact .inl (By.2 (.inl hk))
      · exact(hg.new k hk).imp (fun h=>By.2 (.inr h)) id
    · rcases By.1 hk with hk | hk
      · exact Nat.lt_of_lt_of_le (hlt k hk) hl.size
      · exact hg.lt k hk
    · rcases hor with ⟨he, h⟩ | ⟨he, h⟩
      · exact .inl ⟨he,mk J h⟩
      · exact .inr ⟨he,mk Jx h⟩
theorem RI {d:Option Nat} {ty:TypeId} {pos:String} {aft:Array Edge} {g:Option (Nat × Bool)} {Vv:Value→World→Prop} {x:Operand} {args:List Operand} {us:Array TypeId} {vs:List Value} {a:γ}
    (hx:ev ρ x=.func (.yield l) #[] #[]) (ha:args.map (ev ρ)=vs) (hY:GW P enc L l J Jx) (hJ:Gw J) (hI:NW J pre z O) (hs:St z O w bs) (hL:pre++[a]<+:L) (hen:enc a w (ks bs O) vs)
    (kt:∀w' O',St ⟨w',bs.filterMap Prod.fst,[]⟩ O' w' bs→AB (ks bs O) w (ks bs O') w'→NW J (pre++[a]) ⟨w',bs.filterMap Prod.fst,[]⟩ O'→Vv (.bool true) w')
    (kf:∀w' O',St ⟨w',bs.filterMap Prod.fst,[]⟩ O' w' bs→AB (ks bs O) w (ks bs O') w'→NW Jx (pre++[a]) ⟨w',bs.filterMap Prod.fst,[]⟩ O'→Vv (.bool false) w'):
    BQ P none ρ w ⟨d,.call ⟨.value x,args.toArray,us⟩,ty,pos,aft,g⟩ Vv:=by
  obtain⟨fn,tmps,assign,body,hy,hR⟩:=hY pre a w O (bs.filterMap Prod.fst) vs hL (hI.now hJ hs) (fun k hk=>⟨hs.ltw k (By.2 (.inl hk)),fun hm=>(hs.dj k hm).2 hk⟩) hs.lt0 hen
  unfold BQ
  rw [Oper.semAt_eq _ _ _ (by simp)]
  have hrun:(execOp (ev ρ) ⟨d,.call ⟨.value x,args.toArray,us⟩,ty,pos,aft,g⟩).run P w=.ok (.round l fn tmps assign body) w:=by
    simp only [execOp,resolve,hx]
    subst ha
    simpa [go_sem,invoke] using hy
  rw [hrun]
  simp only
  refine RoundIn.mono hR ?_
  rintro e w' ⟨O',hl,hg,h⟩
  have hS:St ⟨w',bs.filterMap Prod.fst,[]⟩ O' w' bs:=by
    refine⟨HW.refl _ _,fun p hp b hb=>⟨.inl (B6.2 ⟨p,hp,hb⟩),?_⟩,hs.nd,fun k hk=>⟨hg.lt k hk,fun hm=>?_⟩,List.nodup_nil,fun _ h=>by cases h⟩
    · rw [hl.block b (hs.lt hp hb) fun hm=>(hs.dj b hm).2 (B6.2 ⟨p,hp,hb⟩)];exact(hs.own p hp b hb).2
    · rcases hg.new k hk with h1 | h1
      · exact(hs.dj k h1).2 hm
      · obtain ⟨p, hp, e⟩ := B6.1 hm
        have:=hs.lt hp e;omega
  have hP:AB (ks bs O) w (ks bs O') w':=AB.of_loc hl (fun k hk=>By.2 (.inr hk)) fun k hk=>by
    rcases By.1 hk with hk |hk
    · exact .inl (By.2 (.inl hk))
    · exact(hg.new k hk).imp (fun h=>By.2 (.inr h)) id
  have hdj:∀k∈bs.filterMap Prod.fst,k ∉ O':=fun k hk hm=>(hS.dj k hm).2 hk
  rcases h with ⟨rfl,h⟩ |⟨rfl,h⟩
  · exact⟨_,rfl,kt w' O' hS hP ⟨h,hdj⟩⟩
  · exact⟨_,rfl,kf w' O' hS hP ⟨h,hdj⟩⟩
theorem NW.startM {w:World} {bm:Nat} (h:J [] w O [bm]) (hb:bm ∉ O):NW J [] ⟨w,[bm],[]⟩ O:=⟨h,fun k hk=>by simp at hk;subst hk;exact hb⟩
theorem NW.finM {o:Obj} (h:NW J pre z O) (hJ:Gw J) (hs:St z O w [(some bm,o)]):J pre w O [bm]∧bm ∉ O∧w.heap[bm]?=some o:=
  ⟨h.now hJ hs,fun hm=>(hs.dj bm hm).2 (by simp),hs.get (i:=0) rfl⟩
end call
end Go.Fx
set_option linter.unusedSimpArgs false
set_option linter.unusedVariables false
set_option linter.unusedSectionVars false
namespace Go.Fx
open Go Go.RowKit
/-! models -/
section model
variable {α β σ R : Type}
def IJ:List α→List (α × List α)
  |[] =>[]
  |x::t=>(x,t)::(IJ t).map fun p=>(p.1,x::p.2)
theorem J7 {xs:List α} {p:α × List α} :p∈IJ xs ↔ ∃r1 r2,xs=r1++p.1::r2∧p.2=r1++r2:=by
  induction xs generalizing p with
  |nil=>simp [IJ]
  |cons x t ih=>
    simp only [IJ,List.mem_cons,List.mem_map]
    constructor
    · rintro (rfl | ⟨q, hq, rfl⟩)
      · exact⟨[],t,rfl,rfl⟩
      · obtain ⟨r1, r2, e1, e2⟩ := ih.1 hq
        exact⟨x::r1,r2,by simp [e1],by simp [e2]⟩
    · rintro ⟨r1, r2, e1, e2⟩
      cases r1 with
      |nil=>
        left
        have:=List.cons.inj e1
        obtain⟨a,b⟩:=p
        simp at e2 this
        rw [this.1,this.2,e2]
      |cons y r1=>
        right
        have:=List.cons.inj e1
        refine⟨(p.1,r1++r2),ih.2 ⟨r1,r2,this.2,rfl⟩,?_⟩
        obtain⟨a,b⟩:=p
        simp at e2 this ⊢
        rw [this.1,e2]
theorem LX {xs:List α} {p:α × List α} (h:p∈IJ xs):xs.length=p.2.length+1:=by
  obtain⟨r1,r2,e1,e2⟩:=J7.1 h
  rw [e1,e2];simp;omega
def JO [DecidableEq R]:List (Option R)→Option R
  |[] =>none
  |r::t=>r.bind fun a=>bif t.all (fun u=>decide (u=some a)) then some a else none
theorem Iq [DecidableEq R] {L:List (Option R)} {a:R} :JO L=some a ↔ L≠[]∧∀u∈L,u=some a:=by
  cases L with
  |nil=>simp [JO]
  |cons r t=>
    cases r with
    |none=>simp [JO]
    |some b=>
      simp only [JO,Option.bind_some]
      cases h:t.all (fun u=>decide (u=some b))
      · simp only [cond_false, reduceCtorEq, false_iff]
        rintro⟨_,h2⟩
        have e:b=a:=Option.some.inj (h2 (some b) (by simp))
        subst e
        have:t.all (fun u=>decide (u=some b))=true:=List.all_eq_true.2 fun u hu=>by simpa using h2 u (by simp [hu])
        rw [h] at this;cases this
      · simp only [cond_true, Option.some.injEq]
        have h':∀u∈t,u=some b:=fun u hu=>by simpa using List.all_eq_true.1 h u hu
        constructor
        · rintro rfl;exact⟨by simp,fun u hu=>(List.mem_cons.1 hu).elim id (h' u)⟩
        · rintro⟨_,h2⟩;exact Option.some.inj (h2 (some b) (by simp))
def J8 [DecidableEq R] (b:(σ→Option R)→α→σ→Option R) (k:σ→Option R):Nat→List α→σ→Option R
  |0,_,s=>k s
  |n+1,xs,s=>JO ((IJ xs).map fun p=>b (J8 b k n p.2) p.1 s)
def MX [DecidableEq R] (b:(σ→Option R)→α→σ→Option R) (k:σ→Option R) (xs:List α):σ→Option R:=J8 b k xs.length xs
theorem SA [DecidableEq R] {b:(σ→Option R)→α→σ→Option R} {k:σ→Option R} {s:σ} {x:R} {r1 r2:List α} {p:α} (h:MX b k (r1++p::r2) s=some x):∃sf,sf=MX b k (r1++r2)∧b sf p s=some x:=by
  refine⟨_,rfl,?_⟩
  unfold MX at h
  rw [show(r1++p::r2).length=(r1++r2).length+1 by simp;omega] at h
  exact(Iq.1 h).2 _ (List.mem_map.2 ⟨(p,r1++r2),J7.2 ⟨r1,r2,rfl,rfl⟩,rfl⟩)
theorem Qo [DecidableEq R] (b:(σ→Option R)→α→σ→Option R) (k:σ→Option R):∀(n:Nat) {l xs:List α},l.length=n→l.Perm xs→J8 b k n l=J8 b k n xs:=by
  intro n
  induction n with
  |zero=>intro l xs hl h;rfl
  |succ n ih=>
    intro l xs hl h
    have one:∀{l xs:List α},l.length=n+1→l.Perm xs→∀s a,J8 b k (n+1) l s=some a→J8 b k (n+1) xs s=some a:=by
      intro l xs hl h s a ha
      have:=Iq.1 ha
      refine Iq.2 ⟨?_,fun u hu=>?_⟩
      · intro e
        have e2:IJ xs=[]:=List.map_eq_nil_iff.1 e
        cases xs with
        |nil=>rw [h.length_eq] at hl;cases hl
        |cons x t=>simp [IJ] at e2
      · obtain ⟨p, hp, rfl⟩ := List.mem_map.1 hu
        obtain⟨r1,r2,e1,e2⟩:=J7.1 hp
        have hm:p.1∈l:=h.mem_iff.2 (by rw [e1];simp)
        obtain⟨l1,l2,e3⟩:=List.append_of_mem hm
        have hp2:(l1++l2).Perm (r1++r2):=by
          have:(p.1::(l1++l2)).Perm (p.1::(r1++r2)):=by
            have h3:=h
            rw [e1,e3] at h3
            exact List.perm_middle.symm.trans (h3.trans List.perm_middle)
          exact List.Perm.cons_inv this
        have hn:(l1++l2).length=n:=by rw [e3] at hl;simp at hl ⊢;omega
        rw [e2,← ih hn hp2]
        exact this.2 _ (List.mem_map.2 ⟨(p.1,l1++l2),J7.2 ⟨l1,l2,e3,rfl⟩,rfl⟩)
    funext s
    have h2:=one hl h s
    have h3:=one (h.symm.length_eq.trans hl) h.symm s
    cases e:J8 b k (n+1) l s with
    |some a=>exact(h2 a e).symm
    |none=>cases e':J8 b k (n+1) xs s with
      |none=>rfl
      |some a=>rw [h3 a e'] at e;cases e
theorem Oa [DecidableEq R] {b:(σ→Option R)→α→σ→Option R} {k:σ→Option R} {l xs:List α} (h:l.Perm xs):MX b k l=MX b k xs:=by
  unfold MX;rw [h.length_eq];exact Qo b k _ h.length_eq h
section curry
variable [DecidableEq R] {A0 A1 A2 A3 : Type}
def Jf (b:(A0→Option R)→α→A0→Option R) (k:A0→Option R) (xs:List α):A0→Option R:=MX b k xs
def Jg (b:(A0→A1→Option R)→α→A0→A1→Option R) (k:A0→A1→Option R) (xs:List α) (a0:A0) (a1:A1):Option R:=MX (fun sf p (s:A0 × A1)=>b (fun a0 a1=>sf (a0,a1)) p s.1 s.2) (fun s=>k s.1 s.2) xs (a0,a1)
variable {x : R} {a0 : A0} {a1 : A1} {a2 : A2} {a3 : A3} {r1 r2 : List α} {p : α}
theorem OQ {b:(A0→Option R)→α→A0→Option R} {k:A0→Option R} (h:Jf b k [] a0=some x):k a0=some x:=h
theorem QI {b:(A0→A1→Option R)→α→A0→A1→Option R} {k:A0→A1→Option R} (h:Jg b k [] a0 a1=some x):k a0 a1=some x:=h
theorem OR {b:(A0→Option R)→α→A0→Option R} {k:A0→Option R} (h:Jf b k (r1++p::r2) a0=some x):∃sf,sf=Jf b k (r1++r2)∧b sf p a0=some x:=SA h
theorem QJ {b:(A0→A1→Option R)→α→A0→A1→Option R} {k:A0→A1→Option R} (h:Jg b k (r1++p::r2) a0 a1=some x):∃sf,sf=Jg b k (r1++r2)∧b sf p a0 a1=some x:=by
  obtain⟨_,rfl,h⟩:=SA h;exact⟨_,rfl,h⟩
theorem Lf {b:(A0→Option R)→α→A0→Option R} {k:A0→Option R} {l xs:List α} (h:l.Perm xs):Jf b k l=Jf b k xs:=Oa h
theorem MY {b:(A0→A1→Option R)→α→A0→A1→Option R} {k:A0→A1→Option R} {l xs:List α} (h:l.Perm xs):Jg b k l=Jg b k xs:=by unfold Jg;rw [Oa h]
end curry
end model
/-! what stands in memory -/
section mem
variable {K V : Type} [DecidableEq K] [GT K] {q : Kk K} {m : Mv V} {om oi : Obj} {xs rem : List (K × V)}
def Qa (q:Kk K) (m:Mv V) (om oi:Obj) (b:Nat) (last:Option (K × V)) (rem:List (K × V)):Prop:=
  ∃es clock l since seen c0,om=.map es clock∧L5 q m es clock l∧(l.Pairwise fun e f=>e.1≠f.1)∧oi=.mapIter (some b) since seen c0∧(∀e∈l,e.2.2<since)∧since≤c0∧since≤clock∧
    rem=((l.filter fun e=>!seen.contains e.2.2).map fun e=>(e.1,e.2.1))∧(last=none∨∃e∈l,∃seen',seen=Array.push seen' e.2.2∧last=some (e.1,e.2.1)∧c0=clock)
theorem Mo.perm {es:Array MapEntry} {clock:Nat} {l:List (K × V × Nat)} (hd:l.Pairwise fun e f=>e.1≠f.1) (hp:∀n x,(∃b,(n,x,b)∈l) ↔ (n,x)∈xs) (hr:He xs):(l.map fun e=>(e.1,e.2.1)).Perm xs:=by
  refine(List.perm_ext_iff_of_nodup ?_ (KC hr)).2 fun p=>?_
  · rw [List.nodup_iff_pairwise_ne,List.pairwise_map];exact hd.imp fun h e=>h (Prod.mk.inj e).1
  · rw [← hp p.1 p.2]; simp only [List.mem_map]
    constructor
    · rintro⟨e,he,rfl⟩;exact⟨e.2.2,he⟩
    · rintro⟨b,hb⟩;exact⟨(p.1,p.2,b),hb,rfl⟩
theorem Qa.start {b:Nat} (h:Mo q m om xs):∃es clock rem,om=.map es clock∧Qa q m om (.mapIter (some b) clock #[] clock) b none rem∧rem.Perm xs:=by
  obtain⟨es,clock,l,rfl,hM,hd,hp,hr⟩:=h
  refine⟨es,clock,l.map fun e=>(e.1,e.2.1),rfl,⟨es,clock,l,clock,#[],clock,rfl,hM,hd,rfl,hM.lt,Nat.le_refl _,Nat.le_refl _,?_,.inl rfl⟩,Mo.perm (es:=es) (clock:=clock) hd hp hr⟩
  congr 1
  exact(List.filter_eq_self.2 fun e _=>by simp).symm
variable {P : Program} {w : World} {b r : Nat} {last : Option (K × V)} {ty : TypeId}
theorem Ob (h:Qa q m om oi b last rem) (hm:w.heap[b]?=some om) (hi:w.heap[r]?=some oi):
    (rem=[]∧(Instr.next (.pointer (some ⟨r,0,none⟩)) false ty).run P w=.ok (.tuple #[.bool false]) w)∨
    ∃p r1 r2 oi' w1,rem=r1++p::r2∧(w1=w∨w1=w.drew)∧(Instr.next (.pointer (some ⟨r,0,none⟩)) false ty).run P w=.ok (.tuple #[.bool true,q.enc p.1,m.enc p.2]) (w1.putObj r oi')∧Qa q m om oi' b (some p) (r1++r2)∧q.ok p.1∧m.ok p.2:=by
  obtain⟨es,clock,l,since,seen,c0,rfl,hM,hd,rfl,hs,hsc,hcl,hrem,_⟩:=h
  have hold:∀x∈es.toList,x.born<since:=fun x hx=>by
    rw [hM.eq] at hx
    obtain⟨e,he,rfl⟩:=List.mem_map.1 hx
    exact hs e he
  have hleft:(leftOf es seen).toList=(l.filter fun e=>!seen.contains e.2.2).map fun e=>(⟨q.enc e.1,m.enc e.2.1,e.2.2⟩:MapEntry):=by
    unfold leftOf
    rw [Array.toList_filter,hM.eq,List.filter_map]
    rfl
  rcases run_next_at (P:=P) w ty r b since c0 seen es clock hi hm hold hsc with ⟨h1,h2⟩ |⟨e,he,w1,hw1,h2⟩
  · left
    refine⟨?_,h2⟩
    have:(leftOf es seen).toList=[]:=by rw [List.eq_nil_iff_length_eq_zero,Array.length_toList];exact h1
    rw [hleft] at this
    rw [hrem]
    simpa using this
  · right
    rw [hleft] at he
    obtain⟨e',he',rfl⟩:=List.mem_map.1 he
    have hel:e'∈l:=(List.mem_filter.1 he').1
    have hes:seen.contains e'.2.2=false:=by have:=(List.mem_filter.1 he').2;simpa using this
    obtain⟨l1,l2,hl⟩:=List.append_of_mem hel
    have hb:=hM.born
    rw [hl,List.pairwise_append] at hb
    have hn1:∀f∈l1,¬f.2.2=e'.2.2:=fun f hf=>by have:=hb.2.2 f hf e' (by simp);omega
    have hn2:∀f∈l2,¬f.2.2=e'.2.2:=fun f hf=>by have:=(List.pairwise_cons.1 hb.2.1).1 f hf;omega
    have fpush:∀f:K × V × Nat,(!(seen.push e'.2.2).contains f.2.2)=(!seen.contains f.2.2&&!decide (f.2.2=e'.2.2)):=fun f=>by
      simp only [Array.contains_push]
      by_cases h:f.2.2=e'.2.2<;> simp [h]
    have hfil:∀t:List (K × V × Nat),(∀f∈t,¬f.2.2=e'.2.2)→t.filter (fun f=>!(seen.push e'.2.2).contains f.2.2)=t.filter (fun f=>!seen.contains f.2.2):=fun t ht=>by
      apply List.filter_congr
      intro f hf
      rw [fpush];simp [ht f hf]
    have hw1b:∀k:Nat,w1.heap[k]?=w.heap[k]?:=fun k=>by rcases hw1 with rfl |rfl<;> rfl
    refine⟨(e'.1,e'.2.1),(l1.filter fun f=>!seen.contains f.2.2).map fun e=>(e.1,e.2.1),(l2.filter fun f=>!seen.contains f.2.2).map fun e=>(e.1,e.2.1),.mapIter (some b) since (seen.push e'.2.2) clock,w1,?_,hw1,?_,?_,hM.ok e' hel⟩
    · rw [hrem, hl]
      rw [List.filter_append,List.filter_cons_of_pos (by simpa using hes),List.map_append,List.map_cons]
    · exact h2
    · refine ⟨es, clock, l, since, seen.push e'.2.2, clock, rfl, hM, hd, rfl, hs, hcl, hcl, ?_, .inr ⟨e', hel, seen, rfl, rfl, rfl⟩⟩
      rw [hl,List.filter_append,List.filter_cons_of_neg (by rw [fpush];simp),hfil l1 hn1,hfil l2 hn2,List.map_append]
theorem MZ {p:K × V} (h:Qa q m om oi b (some p) rem) (hm:w.heap[b]?=some om) (hi:w.heap[r]?=some oi):
    (Instr.entry (.pointer (some ⟨r,0,none⟩))).run P w=.ok (.tuple #[q.enc p.1,m.enc p.2]) w:=by
  obtain⟨es,clock,l,since,seen,c0,rfl,hM,hd,rfl,hs,hsc,hcl,hrem,hl⟩:=h
  rcases hl with hl |⟨e,he,seen',rfl,hl,rfl⟩
  · cases hl
  cases hl
  have hmem:(⟨q.enc e.1,m.enc e.2.1,e.2.2⟩:MapEntry)∈es.toList:=by rw [hM.eq];exact List.mem_map.2 ⟨e,he,rfl⟩
  have hnd:(es.toList.map (·.born)).Nodup:=by
    rw [hM.eq,List.map_map,List.nodup_iff_pairwise_ne,List.pairwise_map]
    exact hM.born.imp fun h=>Nat.ne_of_lt h
  have hf:es.find? (·.born == e.2.2)=some ⟨q.enc e.1,m.enc e.2.1,e.2.2⟩:=by rw [← Array.find?_toList];exact find_born _ es.toList hnd hmem
  simp only [Instr.entry,getObj,Sem.run_bind,Sem.run,hi,hm,Result.andThen,Array.back?_push,hf]
  simp
end mem
section own
variable {K V : Type} [DecidableEq K] [GT K] {q : Kk K} {m : Mv V} {P : Program} {r : Option Nat} {ρ : EX} {w w' : World} {d : Option Nat} {ty : TypeId} {pos : String} {aft : Array Edge} {g : Option (Nat × Bool)} {Vv : Value → World → Prop}
variable {z0 : Zx} {O0 O O' : List Nat} {bs : Bi} {x : Operand} {t kt e : TypeId} {v : Value} {oi : Obj} {last : Option (K × V)} {xs rem : List (K × V)}
def Lg (q:Kk K) (m:Mv V) (w:World) (O:List Nat) (v:Value) (oi:Obj) (last:Option (K × V)) (rem:List (K × V)):Prop:=
  ∃b om,v=.map (some b)∧Sh w O b∧w.heap[b]?=some om∧Qa q m om oi b last rem
theorem Lg.step (h:Lg q m w O v oi last rem) (s:AB O w O' w'):Lg q m w' O' v oi last rem:=by
  obtain⟨b,o,h1,h2,h3,h4⟩:=h
  exact⟨b,o,h1,h2.step s,by rw [(s.keep b h2.lt h2.no).2];exact h3,h4⟩
theorem Qa.any {om:Obj} {b:Nat} (h:Qa q m om oi b last rem):Qa q m om oi b none rem:=by
  obtain⟨es,clock,l,since,seen,c0,h1,h2,h3,h4,h5,h6,h7,h8,_⟩:=h
  exact⟨es,clock,l,since,seen,c0,h1,h2,h3,h4,h5,h6,h7,h8,.inl rfl⟩
theorem Lg.any (h:Lg q m w O v oi last rem):Lg q m w O v oi none rem:=by
  obtain⟨b,o,h1,h2,h3,h4⟩:=h
  exact⟨b,o,h1,h2,h3,h4.any⟩
theorem KF (hu:P.underlying t=some (.map kt e)) (hs:St z0 O0 w bs) (h:NA q m w (ks bs O0) v xs) (hx:ev ρ x=v)
    (k:∀bl oi rem w',AB (ks bs O0) w (ks ((some bl,oi)::bs) O0) w'→St z0 O0 w' ((some bl,oi)::bs)→Lg q m w' (ks ((some bl,oi)::bs) O0) v oi none rem→rem.Perm xs→Vv (.pointer (some ⟨bl,0,none⟩)) w'):
    BQ P r ρ w ⟨d,.range t x,ty,pos,aft,g⟩ Vv:=by
  obtain⟨b,o,rfl,hsh,hb,hM⟩:=h
  obtain⟨es,clock,rem,rfl,hit,hp⟩:=Qa.start (b:=b) hM
  have hs':=AB.alloc w O0 bs (.mapIter (some b) clock #[] clock)
  refine Bl (v:=.pointer (some ⟨w.heap.size,0,none⟩)) (w':=w.alloc (.mapIter (some b) clock #[] clock)) (by simp) ?_ (k _ _ rem _ hs' (hs.alloc _) (Lg.step ⟨b,_,rfl,hsh,hb,hit⟩ hs') hp)
  simp [execOp,hx,Instr.range,run_underlying hu,HI hb]
theorem L6 {i b:Nat} (hs:St z0 O0 w bs) (hi:bs[i]?=some (some b,oi)) (h:Lg q m w (ks bs O0) v oi last rem) (hx:ev ρ x=.pointer (some ⟨b,0,none⟩))
    (k0:rem=[]→Vv (.tuple [Value.bool false].toArray) w)
    (k1:∀p r1 r2 oi' w',rem=r1++p::r2→AB (ks bs O0) w (ks (bs.set i (some b,oi')) O0) w'→St z0 O0 w' (bs.set i (some b,oi'))→Lg q m w' (ks (bs.set i (some b,oi')) O0) v oi' (some p) (r1++r2)→q.ok p.1→m.ok p.2→Vv (.tuple [Value.bool true,q.enc p.1,m.enc p.2].toArray) w'):
    BQ P r ρ w ⟨d,.next x false,ty,pos,aft,g⟩ Vv:=by
  obtain⟨bm,om,rfl,hsh,hb,hit⟩:=h
  rcases Ob (P:=P) (w:=w) (r:=b) (ty:=ty) hit hb (hs.get hi) with ⟨h0,h1⟩ |⟨p,r1,r2,oi',w1,hr,hw1,h1,h2,h3,h4⟩
  · refine Bl (by simp) ?_ (k0 h0)
    simp [execOp,hx,h1]
  · have he : GH w w1 := by rcases hw1 with rfl | rfl; exact GH.refl _; exact GH.drew _
    have hs1:=hs.call he
    obtain⟨h5,h6⟩:=hs1.putObj hi oi'
    have h7:=(AB.ext (O:=ks bs O0) he).trans h6
    have hsh':=hsh.step h7
    refine Bl (by simp) ?_ (k1 p r1 r2 oi' _ hr h7 h5 ⟨bm,om,rfl,hsh',?_,h2⟩ h3 h4)
    · simp [execOp,hx,h1]
    · rw [(h7.keep bm hsh.lt hsh.no).2];exact hb
theorem KG {i b:Nat} {p:K × V} (hs:St z0 O0 w bs) (hi:bs[i]?=some (some b,oi)) (h:Lg q m w (ks bs O0) v oi (some p) rem) (hx:ev ρ x=.pointer (some ⟨b,0,none⟩))
    (k:Vv (.tuple [q.enc p.1,m.enc p.2].toArray) w):BQ P r ρ w ⟨d,.entry x,ty,pos,aft,g⟩ Vv:=by
  obtain⟨bm,om,rfl,hsh,hb,hit⟩:=h
  refine Bl (by simp) ?_ k
  simp [execOp,hx,MZ hit hb (hs.get hi)]
end own
end Go.Fx
set_option linter.unusedSimpArgs false
set_option linter.unusedVariables false
set_option linter.unusedSectionVars false
namespace Go.Fx
open Go Go.RowKit
section
variable {w w' : World} {O O0 : List Nat} {L L' rest bs : Bi} {z : Zx}
theorem JQ (L rest:Bi) (O:List Nat):ks (L++rest) O=ks L (ks rest O):=by simp [ks,List.filterMap_append,List.append_assoc]
def IA (w:World) (O:List Nat) (L:Bi):Prop:=St ⟨w,L.filterMap Prod.fst,[]⟩ O w L
theorem St.lendL (hs:St z O0 w (L++rest)):IA w (ks rest O0) L:=by
  have hnd:=hs.nd
  rw [List.filterMap_append] at hnd
  have hdis:=(List.nodup_append.1 hnd).2.2
  refine⟨HW.refl _ _,fun p hp b hb=>⟨.inl (B6.2 ⟨p,hp,hb⟩),(hs.own p (List.mem_append_left _ hp) b hb).2⟩,(List.nodup_append.1 hnd).1,fun k hk=>?_,List.nodup_nil,fun _ h=>by cases h⟩
  rcases By.1 hk with hk |hk
  · obtain ⟨p, hp, hb⟩ := B6.1 hk
    exact⟨hs.lt (List.mem_append_right _ hp) hb,fun hm=>hdis _ hm _ hk rfl⟩
  · exact⟨(hs.dj k hk).1,fun hm=>(hs.dj k hk).2 (by rw [List.filterMap_append];exact List.mem_append_left _ hm)⟩
structure Jo (w:World) (L:Bi) (w':World) (O:List Nat) (L':Bi):Prop where
  loc:HW (L.filterMap Prod.fst) w w'
  st:IA w' O L'
  new:∀k∈L'.filterMap Prod.fst,k∈L.filterMap Prod.fst∨w.heap.size≤k
theorem St.backB (hs:St ⟨w,L.filterMap Prod.fst,[]⟩ O w' L'):Jo w L w' O L':=
  ⟨hs.below,⟨HW.refl _ _,fun p hp b hb=>⟨.inl (B6.2 ⟨p,hp,hb⟩),(hs.own p hp b hb).2⟩,hs.nd,hs.dj,List.nodup_nil,fun _ h=>by cases h⟩,fun k hk=>by
    obtain⟨p,hp,hb⟩:=B6.1 hk
    exact(hs.own p hp k hb).1⟩
theorem Jo.refl (h:IA w O L):Jo w L w O L:=⟨HW.refl _ _,h,fun k hk=>.inl hk⟩
theorem Jo.trans {w1 w2:World} {L1 L2:Bi} (h:Jo w L w1 O L1) (k:Jo w1 L1 w2 O L2):Jo w L w2 O L2:=
  ⟨h.loc.trans' k.loc h.new,k.st,fun b hb=>by
    rcases k.new b hb with h1 |h1
    · exact h.new b h1
    · exact .inr (Nat.le_trans h.loc.size h1)⟩
theorem Jo.step (h:Jo w L w' O L'):AB (ks L O) w (ks L' O) w':=by
  refine⟨h.loc.size,fun k hk hn=>⟨fun hm=>?_,h.loc.block k hk fun hm=>hn (By.2 (.inl hm))⟩⟩
  rcases By.1 hm with hm |hm
  · rcases h.new k hm with h1 | h1
    · exact hn (By.2 (.inl h1))
    · omega
  · exact hn (By.2 (.inr hm))
theorem St.backL (hs:St z O0 w (L++rest)) (h:Jo w L w' (ks rest O0) L'):St z O0 w' (L'++rest)∧AB (ks (L++rest) O0) w (ks (L'++rest) O0) w':=by
  have hnd:=hs.nd
  rw [List.filterMap_append] at hnd
  have hdis:=(List.nodup_append.1 hnd).2.2
  have hz:z.w.heap.size≤w.heap.size:=hs.below.size
  have hold:∀k∈L.filterMap Prod.fst,k∈z.K∨z.w.heap.size≤k:=fun k hk=>by
    obtain⟨p,hp,hb⟩:=B6.1 hk
    exact(hs.own p (List.mem_append_left _ hp) k hb).1
  refine⟨⟨hs.below.trans' h.loc hold,fun p hp b hb=>?_,?_,fun k hk=>⟨Nat.lt_of_lt_of_le (hs.dj k hk).1 h.loc.size,fun hm=>?_⟩,hs.dsn,fun D hD=>?_⟩,?_⟩
  · rcases List.mem_append.1 hp with hp | hp
    · refine ⟨?_, (h.st.own p hp b hb).2⟩
      rcases h.new b (B6.2 ⟨p,hp,hb⟩) with h1 |h1
      · exact hold b h1
      · exact .inr (Nat.le_trans hz h1)
    · have h1 := hs.own p (List.mem_append_right _ hp) b hb
      refine⟨h1.1,?_⟩
      rw [h.loc.block b (hs.lt (List.mem_append_right _ hp) hb) fun hm=>hdis _ hm _ (B6.2 ⟨p,hp,hb⟩) rfl]
      exact h1.2
  · rw [List.filterMap_append]
    refine List.nodup_append.2 ⟨h.st.nd,(List.nodup_append.1 hnd).2.1,fun a ha b hb e=>?_⟩
    subst e
    exact(h.st.dj a (By.2 (.inl hb))).2 ha
  · rw [List.filterMap_append] at hm
    rcases List.mem_append.1 hm with hm |hm
    · exact(h.st.dj k (By.2 (.inr hk))).2 hm
    · exact(hs.dj k hk).2 (by rw [List.filterMap_append];exact List.mem_append_right _ hm)
  · obtain ⟨h1, h2, h3⟩ := hs.dfs D hD
    refine⟨h1,h2,?_⟩
    rw [h.loc.block D (hs.dj D h1).1 fun hm=>(hs.dj D h1).2 (by rw [List.filterMap_append];exact List.mem_append_left _ hm)]
    exact h3
  · have := h.step
    rwa [JQ,JQ]
def Xs {β:Type} (P:Program) (f:FuncId) (args:List Value) (w:World) (O:List Nat) (L:Bi) (R:Vr β) (y:β) (Iz:World→Bi→Prop):Prop:=
  Fn P f args w fun v w'=>∃L',Jo w L w' O L'∧Iz w' L'∧R.vd w' (ks L' O) v y
theorem Pz {β:Type} {P:Program} {r:Option Nat} {ρ:EX} {d:Option Nat} {ty:TypeId} {pos:String} {aft:Array Edge} {g:Option (Nat × Bool)} {Vv:Value→World→Prop} {f:FuncId} {args:Array Operand} {us:Array TypeId} {vs:List Value} {R:Vr β} {y:β} {Iz:World→Bi→Prop}
    (hc:∀(args:Array Value) (w:World),(callFunc f args).run P w=.ok (.enter f args) w) (L:Bi) (hs:St z O0 w (L++rest)) (h:Xs P f vs w (ks rest O0) L R y Iz) (ha:args.toList.map (ev ρ)=vs)
    (k:∀v w' L',AB (ks (L++rest) O0) w (ks (L'++rest) O0) w'→St z O0 w' (L'++rest)→Iz w' L'→R.vd w' (ks (L'++rest) O0) v y→Vv v w'):BQ P r ρ w ⟨d,.call ⟨.value (.func f),args,us⟩,ty,pos,aft,g⟩ Vv:=by
  refine FT hc h ha ?_
  rintro v w' ⟨L',hB,hP,hR⟩
  obtain⟨h1,h2⟩:=hs.backL hB
  exact k v w' L' h2 h1 hP (by rw [JQ];exact hR)
section load
variable {P : Program} {r : Option Nat} {ρ : EX} {d : Option Nat} {ty : TypeId} {pos : String} {aft : Array Edge} {g : Option (Nat × Bool)} {V : Value → World → Prop} {t : TypeId} {td : TypeDesc} {b : Nat} {zs : List Value} {x : Operand} {m : Int}
theorem SB {cs:List Value} {o n off:Nat} {u:Value} (h:o+n≤cs.length) (ho:off<n):Ia cs o (((cs.drop o).take n).set off u)=Ia cs (o+off) [u]:=by
  have hl:(((cs.drop o).take n).set off u).length=n:=by simp;omega
  apply List.ext_getElem?
  intro j
  rw [HC (by rw [hl];exact h),HC (by simp;omega),hl]
  by_cases h1:o≤j∧j<o+n
  · rw [if_pos h1, List.getElem?_set]
    by_cases h2:off=j - o
    · rw [if_pos h2, if_pos (by simp; omega), if_pos (by simp; omega)]
      rw [show j - (o+off)=0 by omega];rfl
    · rw [if_neg h2,if_neg (by simp;omega),List.getElem?_take,if_pos (by omega),List.getElem?_drop,show o+(j - o)=j by omega]
  · rw [if_neg h1,if_neg (by simp;omega)]
theorem Qp {α:Type} [Inhabited α] {p:Rp α} {xs:List α} {e:TypeId} {a:Option Addr} {c bl i nn off:Nat} {o:Obj} {v u:Value} {yv:α} {y:Operand} (T:Ty P t td 1 b zs false) (hp:p.n=nn) (hs:St z O0 w bs) (hi:bs[i]?=some (some bl,o))
    (hx:ev ρ x=.pointer (some ⟨bl,m.toNat*nn+off,none⟩)) (hy:ev ρ y=v) (hv:v.cells=[u].toArray) (hu:u.oneCell'=true) (h:Gs p e w (ks bs O0) a c xs (some bl) o) (h0:0≤m∧m<xs.length) (hoff:off<nn)
    (hr:∀vs,p.rd w (ks bs O0) vs (xs.getD m.toNat default)→p.rd w (ks bs O0) (vs.set off u) yv)
    (k:∀w' o',AB (ks bs O0) w (ks (bs.set i (some bl,o')) O0) w'→St z O0 w' (bs.set i (some bl,o'))→Gs p e w' (ks (bs.set i (some bl,o')) O0) a c (xs.set m.toNat yv) (some bl) o'→V undef w'):
    BQ P r ρ w ⟨d,.store t x y,ty,pos,aft,g⟩ V:=by
  have hm:m.toNat<xs.length:=by omega
  rcases h with ⟨_,_,rfl,_⟩ |⟨b2,cur,h1,h2,h3,h4,h5,h6,h7⟩
  · simp at hm
  · cases h2
    subst h3 hp
    have e1:(m.toNat+1)*p.n≤xs.length*p.n:=Nat.mul_le_mul_right _ hm
    have e2:xs.length*p.n≤c*p.n:=Nat.mul_le_mul_right _ h5
    rw [Nat.add_mul,Nat.one_mul] at e1
    have hg:=h7.get m.toNat hm
    have erow:((cur.toList.take (xs.length*p.n)).drop (m.toNat*p.n)).take p.n=(cur.toList.drop (m.toNat*p.n)).take p.n:=by
      rw [List.drop_take,List.take_take,Nat.min_eq_left (by omega)]
    rw [erow] at hg
    have hgd:xs.getD m.toNat default=xs[m.toNat]:=by simp [List.getD_eq_getElem?_getD,List.getElem?_eq_getElem hm]
    have hr':=hr _ (by rw [hgd];exact hg)
    have hn:=p.len hr'
    refine Il (cs:=cur.toList) (vs:=[u]) T hs hx hy (by rw [hi]) hv rfl (by simp;omega) (by simp [hu]) (SB (u:=u) (o:=m.toNat*p.n) (n:=p.n) (by simp;omega) hoff).symm rfl fun w' h8 h9=>?_
    refine k w' _ h8 h9 ?_
    generalize hvs:((cur.toList.drop (m.toNat*p.n)).take p.n).set off u=vs at hr' hn h8 h9 ⊢
    refine .inr ⟨bl,_,h1,rfl,rfl,?_,by simpa using h5,h6,?_⟩
    · rw [List.size_toArray,Jc (by simp;omega)];simpa using h4
    · have e3 := (h7.set m.toNat hm hr').step h8
      simp only [List.length_set]
      have e4:(Ia cur.toList (m.toNat*p.n) vs).take (xs.length*p.n)=((cur.toList.take (xs.length*p.n)).take (m.toNat*p.n))++vs++(cur.toList.take (xs.length*p.n)).drop (m.toNat*p.n+p.n):=by
        apply List.ext_getElem?
        intro j
        rw [List.getElem?_take,HC (by simp;omega)]
        simp only [List.getElem?_append,List.length_append,List.length_take,Array.length_toList,List.getElem?_take,List.getElem?_drop,hn]
        rw [Nat.min_eq_left (show xs.length*p.n≤cur.size by omega),Nat.min_eq_left (show m.toNat*p.n≤xs.length*p.n by omega)]
        by_cases c1:j<m.toNat*p.n
        · simp [c1,show j<m.toNat*p.n+p.n by omega,show j<xs.length*p.n by omega,show ¬m.toNat*p.n≤j by omega]
        · by_cases c2 : j < m.toNat * p.n + p.n
          · simp [c1,c2,show j<xs.length*p.n by omega,show m.toNat*p.n≤j by omega]
          · simp only [c1, c2, if_false, and_false]
            have:m.toNat*p.n+p.n+(j - (m.toNat*p.n+p.n))=j:=by omega
            rw [this]
      rw [e4];exact e3
theorem TK {K V':Type} [DecidableEq K] [GT K] {q:Kk K} {m:Mv V'} {kt e:TypeId} {v:Value} {xs:List (K × V')} (hu:P.underlying t=some (.map kt e)) (hx:ev ρ x=v) (h:NA q m w O v xs) (k:V (.int .i64 xs.length) w):
    BQ P r ρ w ⟨d,.call ⟨.builtin .len,#[x],#[t]⟩,ty,pos,aft,g⟩ V:=by
  obtain⟨bb,o,rfl,_,hb,hM⟩:=h
  obtain⟨es,clock,rfl,hsz⟩:=hM.size
  refine Bl (v:=.int .i64 xs.length) (by simp) ?_ k
  simp [execOp,resolve,invoke,builtin,Builtin.len_,hx,run_underlying hu,goInt,HI hb,hsz]
end load
end
end Go.Fx
set_option linter.unusedSimpArgs false
set_option linter.unusedVariables false
set_option linter.unusedSectionVars false
namespace Go.Fx
open Go Go.RowKit
inductive RJ (P:Program) (d:Nat) (xs ys:List Value):List Field→List Bool→Prop
  |nil:RJ P d xs ys [] []
  | cons {f : Field} {fs : List Field} {c : Bool} {cs : List Bool} {a b : Value} (hn : f.name ≠ "_") (ha : ∀ w, (part f.type xs.toArray f.offset).run P w = .ok a w) (hb : ∀ w, (part f.type ys.toArray f.offset).run P w = .ok b w)
      (he:∀w,(Op.equalIn d f.type a b).run P w=.ok c w) (h:RJ P d xs ys fs cs):RJ P d xs ys (f::fs) (c::cs)
inductive SC (P:Program) (e:Bool) (d:Nat) (xs:List Value):List Field→Prop
  |nil:SC P e d xs []
  | cons {f : Field} {fs : List Field} {a : Value} (hn : f.name ≠ "_") (ha : ∀ w, (part f.type xs.toArray f.offset).run P w = .ok a w) (hc : ∀ w, (Instr.checkKey e d f.type a).run P w = .ok () w) (h : SC P e d xs fs) : SC P e d xs (f :: fs)
section
variable {P : Program} {t : TypeId} {td : TypeDesc} {n b : Nat} {z : List Value} {ag : Bool}
theorem Bq (T:Ty P t td 1 b z false) {cs:List Value} {off:Nat} {v:Value} (h:cs[off]?=some v):∀w,(part t cs.toArray off).run P w=.ok v w:=fun w=>by simp [part,T.agg,h]
theorem RJ.run {d:Nat} {xs ys:List Value} {fs:List Field} {cs:List Bool} (h:RJ P d xs ys fs cs):∀w,(Op.eqFields d xs.toArray ys.toArray fs).run P w=.ok (cs.all id) w:=by
  induction h with
  |nil=>intro w;simp [Op.eqFields]
  |@cons f fs c cs a b hn ha hb he _ ih=>
    intro w
    simp only [Op.eqFields,hn,ne_eq,not_false_eq_true,if_true,Sem.run_bind,ha,hb,he,Result.andThen_ok]
    cases c<;> simp [ih]
theorem Od {d:Nat} {xs ys:List Value} {fs:Array Field} {cs:List Bool} (hu:P.underlying t=some (.struct fs)) (hp:P.stoodInHeld t=false) (h:RJ P d xs ys fs.toList cs):∀w,(Op.equalIn (d+1) t (.agg xs.toArray) (.agg ys.toArray)).run P w=.ok (cs.all id) w:=fun w=>by
  have hf:P.fieldsOf t=fs:=by unfold Program.fieldsOf;rw [hu]
  rw [run_equalIn_struct w d t _ _ (by rw [hf];exact hu) hp,hf]
  exact h.run w
theorem OT {d:Nat} {t:TypeId} {q:IntKind} (h:P.underlying t=some (.int q)) (x y:Int):∀w,(Op.equalIn (d+1) t (.int q x) (.int q y)).run P w=.ok (x == y) w:=fun w=>run_equalIn_int w d t q q x y h
theorem TL {d:Nat} {t:TypeId} (h:P.underlying t=some .bool) (x y:Bool):∀w,(Op.equalIn (d+1) t (.bool x) (.bool y)).run P w=.ok (x == y) w:=fun w=>run_equalIn_bool' w d t x y h
theorem Oe {e:Bool} {d:Nat} {xs:List Value} {fs:Array Field} (hu:P.underlying t=some (.struct fs)) (h:SC P e d xs fs.toList):∀w,(Instr.checkKey e (d+1) t (.agg xs.toArray)).run P w=.ok () w:=fun w=>by
  simp only [Instr.checkKey,Sem.run_bind,run_underlying hu,Result.andThen_ok]
  rw [← Array.forIn_toList]
  generalize fs.toList=L at h
  induction h with
  |nil=>simp
  |@cons f fs' a hn ha hc _ ih=>
    simp only [List.forIn_cons,Sem.run_bind,hn,ne_eq,not_false_eq_true,if_true,Result.andThen_ok,ha,hc,Sem.run_pure]
    exact ih
theorem OU {e:Bool} {d:Nat} {t:TypeId} {q:IntKind} (h:P.underlying t=some (.int q)) (x:Int):∀w,(Instr.checkKey e (d+1) t (.int q x)).run P w=.ok () w:=fun w=>by simp [Instr.checkKey,run_underlying h]
theorem TN {e:Bool} {d:Nat} {t:TypeId} (h:P.underlying t=some .bool) (x:Bool):∀w,(Instr.checkKey e (d+1) t (.bool x)).run P w=.ok () w:=fun w=>by simp [Instr.checkKey,run_underlying h]
variable {r : Option Nat} {ρ : EX} {w : World} {d : Option Nat} {ty : TypeId} {pos : String} {aft : Array Edge} {g : Option (Nat × Bool)} {V : Value → World → Prop} {x y : Operand} {u : TypeId}
theorem TO {xs ys:List Value} {c:Bool} (hx:ev ρ x=.agg xs.toArray) (hy:ev ρ y=.agg ys.toArray) (hg:P.eqGuardType P.depth t=false) (he:(Op.equalIn 10000 t (.agg xs.toArray) (.agg ys.toArray)).run P w=.ok c w) (k:V (.bool c) w):BQ P r ρ w ⟨d,.binOp .eql t x y u,ty,pos,aft,g⟩ V:=by
  refine Bl (v:=.bool c) (by simp) ?_ k
  simp only [execOp,hx,hy,Sem.run_bind,run_eqGuard_agg w .eql t x y xs.toArray ys.toArray hg,Result.andThen_ok,run_eql_struct,he,Sem.run_pure]
theorem QK {xs ys:List Value} {c:Bool} (hx:ev ρ x=.agg xs.toArray) (hy:ev ρ y=.agg ys.toArray) (hg:P.eqGuardType P.depth t=false) (he:(Op.equalIn 10000 t (.agg xs.toArray) (.agg ys.toArray)).run P w=.ok c w) (k:V (.bool (!c)) w):BQ P r ρ w ⟨d,.binOp .neq t x y u,ty,pos,aft,g⟩ V:=by
  refine Bl (v:=.bool (!c)) (by simp) ?_ k
  simp only [execOp,hx,hy,Sem.run_bind,run_eqGuard_agg w .neq t x y xs.toArray ys.toArray hg,Result.andThen_ok,run_neq_struct,he,Sem.run_pure]
end
end Go.Fx
set_option linter.unusedSimpArgs false
set_option linter.unusedVariables false
namespace Go.Fx
open Go Go.RowKit
abbrev Gx:=List (Nat × Option Nat × Obj) × List Nat
def Hv (g:Gx):Bi:=g.1.map fun p=>(p.2.1,p.2.2)
section
variable {w w' w'' : World} {w0 : Zx} {O0 : List Nat} {bs : Bi} {eat : Nat → Nat} {g : Gx} {v : Value} {k : Nat}
def TX (w0:Zx) (O0:List Nat) (bs:Bi) (eat:Nat→Nat):Pk Gx where
  inv w g:=St w0 O0 w (Hv g++bs)∧∀k∈g.2,k<1000
  le w g w' g':=((∀p∈g.1,p∈g'.1∨eat p.1∈g'.2)∧∀k∈g.2,k∈g'.2)∧AB (ks (Hv g++bs) O0) w (ks (Hv g'++bs) O0) w'∧True
  refl w g:=⟨⟨fun _ h=>.inl h,fun _ h=>h⟩,AB.refl _ _,trivial⟩
  trans:=fun⟨⟨a,b⟩,h,_⟩ ⟨⟨a',b'⟩,h',_⟩=>⟨⟨fun p hp=>(a p hp).elim (a' p) fun h=>.inr (b' _ h),fun k hk=>b' _ (b _ hk)⟩,h.trans h',trivial⟩
  drew w g h:=⟨⟨h.1.call (GH.drew w),h.2⟩,⟨fun _ h=>.inl h,fun _ h=>h⟩,AB.ext (GH.drew w),trivial⟩
  dn g:=g.2
theorem UY (h:St w0 O0 w bs):(TX w0 O0 bs eat).inv w ([],[]):=⟨h,by simp⟩
abbrev XD {α:Type} (O0:List Nat) (bs:Bi) (R:Vr α) (x:α):VR Gx:=fun v w g=>R.vd w (ks (Hv g++bs) O0) v x
theorem XD.stab {α:Type} (R:Vr α) (x:α):Im (TX w0 O0 bs eat) (XD O0 bs R x):=fun _ _ _ _ _ h hv=>R.step h.2.1 hv
abbrev XP {α:Type} (O0:List Nat) (bs:Bi) (q:Rp α) (x:α):VR Gx:=fun v w g=>∃p,v=.pointer (some p)∧Iy q w (ks (Hv g++bs) O0) p x
theorem XP.stab {α:Type} (q:Rp α) (x:α):Im (TX w0 O0 bs eat) (XP O0 bs q x):=fun _ _ _ _ _ h ⟨p,h1,h2⟩=>⟨p,h1,h2.step h.2.1⟩
def XG {α:Type} (O0:List Nat) (bs:Bi) (eat:Nat→Nat) (tag:Nat) (q:Rp α) (e:TypeId) (xs:List α):VR Gx:=fun v w g=>eat tag∈g.2∨∃a c kk o,v=.slice a xs.length c∧(tag,kk,o)∈g.1∧Gs q e w (ks (Hv g++bs) O0) a c xs kk o
theorem XG.stab {α:Type} (tag:Nat) (q:Rp α) (e:TypeId) (xs:List α):Im (TX w0 O0 bs eat) (XG O0 bs eat tag q e xs):=by
  rintro v w g w' g' ⟨⟨h1,h2⟩,h3,_⟩ (hv |⟨a,c,kk,o,e1,e2,e3⟩)
  · exact .inl (h2 _ hv)
  · rcases h1 _ e2 with h | h
    · exact .inr ⟨a,c,kk,o,e1,h,e3.step h3⟩
    · exact .inl h
theorem GoesX.same {V:VR Gx} (hi:St w0 O0 w' (Hv g++bs)) (hi2:∀k∈g.2,k<1000) (hv:V v w' g):Bs (TX w0 O0 bs eat) w' g V k v w':=⟨g,⟨hi,hi2⟩,(TX w0 O0 bs eat).refl _ _,hv,fun _ h=>.inl h⟩
theorem GoesX.call {V:VR Gx} (hi:St w0 O0 w' (Hv g++bs)) (hi2:∀k∈g.2,k<1000) (hx:GH w' w'') (hv:V v w'' g):Bs (TX w0 O0 bs eat) w' g V k v w'':=
  ⟨g,⟨hi.call hx,hi2⟩,⟨⟨fun _ h=>.inl h,fun _ h=>h⟩,AB.ext hx,trivial⟩,hv,fun _ h=>.inl h⟩
theorem GoesX.pub {V:VR Gx} (hi:St w0 O0 w' (Hv g++bs)) (hi2:∀k∈g.2,k<1000) (hs:St w0 O0 w'' (Hv g++bs)) (p:AB (ks (Hv g++bs) O0) w' (ks (Hv g++bs) O0) w'') (hx:GH w' w'') (hv:V v w'' g):
    Bs (TX w0 O0 bs eat) w' g V k v w'':=⟨g,⟨hs,hi2⟩,⟨⟨fun _ h=>.inl h,fun _ h=>h⟩,p,trivial⟩,hv,fun _ h=>.inl h⟩
theorem GoesX.own {α:Type} {q:Rp α} {e:TypeId} {xs:List α} {a:Option Addr} {c len tag:Nat} {kk:Option Nat} {o:Obj} (hi2:∀k∈g.2,k<1000) (p:AB (ks (Hv g++bs) O0) w' (ks ((kk,o)::(Hv g++bs)) O0) w'') (hs:St w0 O0 w'' ((kk,o)::(Hv g++bs)))
    (f:Gs q e w'' (ks ((kk,o)::(Hv g++bs)) O0) a c xs kk o) (hl:len=xs.length):Bs (TX w0 O0 bs eat) w' g (XG O0 bs eat tag q e xs) k (.slice a len c) w'':=by
  subst hl
  exact⟨((tag,kk,o)::g.1,g.2),⟨hs,hi2⟩,⟨⟨fun _ h=>.inl (List.mem_cons_of_mem _ h),fun _ h=>h⟩,p,trivial⟩,.inr ⟨a,c,kk,o,rfl,List.mem_cons_self,f⟩,fun _ h=>.inl h⟩
theorem QL (e:Bi):∀(nx:List (Nat × Option Nat × Obj)) {w':World},St w0 O0 w' (e++((nx.map fun p=>(p.2.1,p.2.2))++bs))→St w0 O0 w' (e++bs)∧AB (ks (e++((nx.map fun p=>(p.2.1,p.2.2))++bs)) O0) w' (ks (e++bs) O0) w'
  |[],_,h=>⟨h,AB.refl _ _⟩
  |p::nx,w',h=>by
    have e1:(e++(((p::nx).map fun p=>(p.2.1,p.2.2))++bs)).eraseIdx e.length=e++((nx.map fun p=>(p.2.1,p.2.2))++bs):=by
      rw [List.eraseIdx_append_of_length_le (Nat.le_refl _)];simp
    have g1:=h.drop e.length
    have g2:=AB.drop w' O0 (e++(((p::nx).map fun p=>(p.2.1,p.2.2))++bs)) e.length
    rw [e1] at g1 g2
    have:=QL e nx g1
    exact⟨this.1,g2.trans this.2⟩
theorem AB.nxX1 {tag:Nat} {kk:Option Nat} {o:Obj} (hi:St w0 O0 w' (Hv g++bs)) (hm:(tag,kk,o)∈g.1):St w0 O0 w' ((kk,o)::bs)∧AB (ks (Hv g++bs) O0) w' (ks ((kk,o)::bs) O0) w':=by
  obtain⟨nx,D⟩:=g
  obtain⟨l,l',rfl⟩:=List.append_of_mem hm
  have hp:([(kk,o)]++(((l++l').map fun p=>(p.2.1,p.2.2))++bs)).Perm (Hv (l++(tag,kk,o)::l',D)++bs):=by
    unfold Hv
    rw [← List.append_assoc]
    refine List.Perm.append_right _ ?_
    simp only [List.map_append,List.map_cons,List.cons_append,List.nil_append]
    exact List.perm_middle.symm
  obtain⟨a1,a2⟩:=hi.perm hp
  obtain⟨c1,c2⟩:=QL [(kk,o)] (l++l') a1
  exact⟨c1,a2.trans c2⟩
theorem GoesX.take {V:VR Gx} {g':Gx} (hl:(TX w0 O0 bs eat).le w g w g') (hd:∀i∈g'.2,i∈g.2∨i=k) (h:Bs (TX w0 O0 bs eat) w g' V k v w''):Bs (TX w0 O0 bs eat) w g V k v w'':=by
  obtain⟨g'',h1,h2,h3,h4⟩:=h
  exact⟨g'',h1,(TX w0 O0 bs eat).trans hl h2,h3,fun i hi=>(h4 i hi).elim (hd i) .inr⟩
end
section ops
variable {P : Program} {r : Option Nat} {ρ : EX} {w : World} {O0 : List Nat} {bs : Bi} {w0 : Zx} {d : Option Nat} {ty : TypeId} {pos : String} {aft : Array Edge} {gd : Option (Nat × Bool)} {t : TypeId} {x y : Operand} {td : TypeDesc} {n b : Nat} {z : List Value} {ag : Bool} {eat : Nat → Nat} {g : Gx}
theorem Na {α:Type} {q:Rp α} {xs ys:List α} {e:TypeId} {a2:Option Addr} {c2 bt tag tag' k:Nat} {tz:List Value} {ta:Bool} {news:List Value}
    (T:Ty P t (.slice e) 1 bt tz ta) (E:Ty P e td n b z ag) (hqn:q.n=n) (h0:0<n) (hi:St w0 O0 w (Hv g++bs)) (hi2:∀k∈g.2,k<1000) (hk:k ∉ g.2) (he:eat tag=k) (hk2:k<1000)
    (hx:XG O0 bs eat tag q e xs (ev ρ x) w g) (hy:ev ρ y=.slice a2 ys.length c2) (hS:Mm w a2 news) (hE:Ej q w (ks (Hv g++bs) O0) news ys)
    (hb:(xs.length+ys.length)*b≤140737488355328) (h63:xs.length+ys.length≤maxLen):
    BQ P r ρ w ⟨d,.call ⟨.builtin .append,#[x,y],#[t,t]⟩,ty,pos,aft,gd⟩ (Bs (TX w0 O0 bs eat) w g (XG O0 bs eat tag' q e (xs++ys)) k):=by
  rcases hx with hx |⟨a,c,kk,o,e1,e2,e3⟩
  · rw [he] at hx;exact absurd hx hk
  · obtain ⟨i, hi3⟩ := List.mem_iff_getElem?.1 e2
    have hlt:i<g.1.length:=(List.getElem?_eq_some_iff.1 hi3).1
    have hget:(Hv g++bs)[i]?=some (kk,o):=by
      rw [List.getElem?_append_left (by unfold Hv;rw [List.length_map];exact hlt)]
      unfold Hv;rw [List.getElem?_map,hi3];rfl
    refine DR T E hqn h0 hi hget e1 e3 hy hS hE hb h63 fun a' c' k' o' w' h1 h2 h3=>?_
    have hset:(Hv g++bs).set i (k',o')=Hv (g.1.set i (tag',k',o'),k::g.2)++bs:=by
      rw [List.set_append_left _ _ (by unfold Hv;rw [List.length_map];exact hlt)]
      unfold Hv;rw [List.map_set]
    rw [hset] at h1 h2 h3
    refine⟨(g.1.set i (tag',k',o'),k::g.2),⟨h2,fun j hj=>?_⟩,⟨⟨fun p hp=>?_,fun j hj=>List.mem_cons_of_mem _ hj⟩,h1,trivial⟩,.inr ⟨a',c',k',o',rfl,?_,h3⟩,fun j hj=>?_⟩
    · rcases List.mem_cons.1 hj with rfl | hj
      · exact hk2
      · exact hi2 j hj
    · obtain ⟨j, hj⟩ := List.mem_iff_getElem?.1 hp
      by_cases hji:j=i
      · subst hji
        rw [hi3] at hj;cases hj
        exact .inr (by rw [he];exact List.mem_cons_self)
      · refine .inl (List.mem_of_getElem? (i := j) ?_)
        rw [List.getElem?_set_ne (Ne.symm hji)];exact hj
    · exact List.mem_of_getElem? (i:=i) (by rw [List.getElem?_set_self hlt])
    · rcases List.mem_cons.1 hj with h | h
      · exact .inr h
      · exact .inl h
end ops
end Go.Fx
set_option linter.unusedSimpArgs false
set_option linter.unusedVariables false
set_option linter.unusedSectionVars false
namespace Go.Fx
open Go Go.RowKit
abbrev Hd:=Option Addr × Nat × Nat
def RK:Rp Hd where
  n:=1
  rd _ _ cs x:=cs=[Value.slice x.1 x.2.1 x.2.2]
  len:=fun h=>by rw [h];rfl
  one:=fun e v hv=>by rw [e] at hv;simp at hv;subst hv;rfl
  step:=fun _ h=>h
section
variable {α : Type} {q : Rp α} {e : TypeId} {w w' : World} {O O' O0 : List Nat} {z : Zx} {bs R : Bi}
def Rows (q:Rp α) (e:TypeId) (w:World) (O:List Nat):List Hd→Bi→List (List α)→Prop
  |[],[],[] =>True
  |h::hs,p::R,x::xs=>(Gs q e w O h.1 h.2.2 x p.1 p.2∧h.2.1=x.length)∧Rows q e w O hs R xs
  |_,_,_=>False
theorem Rows.lens:∀{hs:List Hd} {R:Bi} {xs:List (List α)},Rows q e w O hs R xs→hs.length=xs.length∧R.length=xs.length
  |[],[],[],_=>⟨rfl,rfl⟩
  |h::hs,k::kk,x::xs,⟨_,h2⟩=>by have:=Rows.lens h2;simp [this]
  |[],[],_::_,h=>h.elim
  |[],_::_,_,h=>h.elim
  |_::_,[],_,h=>h.elim
  |_::_,_::_,[],h=>h.elim
theorem Rows.get:∀{hs:List Hd} {R:Bi} {xs:List (List α)},Rows q e w O hs R xs→∀i (h:i<xs.length),∃hd p,hs[i]?=some hd∧R[i]?=some p∧Gs q e w O hd.1 hd.2.2 xs[i] p.1 p.2∧hd.2.1=xs[i].length
  |[],[],[],_,i,h=>by simp at h
  |hd::hs,k::kk,x::xs,⟨h1,h2⟩,0,_=>⟨hd,k,rfl,rfl,h1⟩
  |hd::hs,k::kk,x::xs,⟨h1,h2⟩,i+1,h=>by
    obtain⟨a,b,e1,e2,e3⟩:=Rows.get h2 i (by simpa using h)
    exact⟨a,b,by simpa using e1,by simpa using e2,by simpa using e3⟩
  |[],[],_::_,h,_,_=>h.elim
  |[],_::_,_,h,_,_=>h.elim
  |_::_,[],_,h,_,_=>h.elim
  |_::_,_::_,[],h,_,_=>h.elim
theorem Rows.append:∀{hs:List Hd} {R:Bi} {xs:List (List α)} {hd:Hd} {p:Option Nat × Obj} {x:List α},Rows q e w O hs R xs→Gs q e w O hd.1 hd.2.2 x p.1 p.2→hd.2.1=x.length→Rows q e w O (hs++[hd]) (R++[p]) (xs++[x])
  |[],[],[],_,_,_,_,h,h'=>⟨⟨h,h'⟩,trivial⟩
  |h::hs,k::kk,x::xs,_,_,_,⟨h1,h2⟩,h3,h4=>⟨h1,Rows.append h2 h3 h4⟩
  |[],[],_::_,_,_,_,h,_,_=>h.elim
  |[],_::_,_,_,_,_,h,_,_=>h.elim
  |_::_,[],_,_,_,_,h,_,_=>h.elim
  |_::_,_::_,[],_,_,_,h,_,_=>h.elim
theorem Rows.set:∀{hs:List Hd} {R:Bi} {xs:List (List α)} {hd:Hd} {p:Option Nat × Obj} {x:List α} (i:Nat),Rows q e w O hs R xs→Gs q e w O hd.1 hd.2.2 x p.1 p.2→hd.2.1=x.length→Rows q e w O (hs.set i hd) (R.set i p) (xs.set i x)
  |[],[],[],_,_,_,_,h,_,_=>h
  |h::hs,k::kk,x::xs,_,_,_,0,⟨h1,h2⟩,h3,h4=>⟨⟨h3,h4⟩,h2⟩
  |h::hs,k::kk,x::xs,_,_,_,i+1,⟨h1,h2⟩,h3,h4=>⟨h1,Rows.set i h2 h3 h4⟩
  |[],[],_::_,_,_,_,_,h,_,_=>h.elim
  |[],_::_,_,_,_,_,_,h,_,_=>h.elim
  |_::_,[],_,_,_,_,_,h,_,_=>h.elim
  |_::_,_::_,[],_,_,_,_,h,_,_=>h.elim
theorem Rows.nil_:Rows q e w O [] [] ([]:List (List α)):=trivial
theorem Rows.step (s:AB O w O' w'):∀{hs:List Hd} {R:Bi} {xs:List (List α)},Rows q e w O hs R xs→Rows q e w' O' hs R xs
  |[],[],[],_=>trivial
  |h::hs,k::kk,x::xs,⟨h1,h2⟩=>⟨⟨h1.1.step s,h1.2⟩,Rows.step s h2⟩
  |[],[],_::_,h=>h.elim
  |[],_::_,_,h=>h.elim
  |_::_,[],_,h=>h.elim
  |_::_,_::_,[],h=>h.elim
theorem Up {v:Value} {x:Hd} {w:World} {O:List Nat} (h:RK.rd w O [v] x):v=.slice x.1 x.2.1 x.2.2:=by
  have h': [v] =[Value.slice x.1 x.2.1 x.2.2]:=h
  simpa using h'
theorem St.toback {p:Option Nat × Obj} {i:Nat} (h:St z O0 w bs) (hi:bs[i]?=some p):St z O0 w (bs.eraseIdx i++[p])∧AB (ks bs O0) w (ks (bs.eraseIdx i++[p]) O0) w:=by
  obtain⟨h1,h2⟩:=h.front hi
  obtain⟨h3,h4⟩:=h1.perm (bs':=bs.eraseIdx i++[p]) (List.perm_append_singleton _ _)
  exact⟨h3,h2.trans h4⟩
theorem TP {i:Nat} {p:Option Nat × Obj} (h:R[i]?=some p):(bs++R)[bs.length+i]?=some p:=by
  rw [List.getElem?_append_right (by omega),show bs.length+i - bs.length=i by omega];exact h
theorem TR {i:Nat} {p:Option Nat × Obj} :(bs++R).set (bs.length+i) p=bs++R.set i p:=by
  rw [List.set_append_right _ _ (by omega),show bs.length+i - bs.length=i by omega]
theorem Rows.turn:∀{hs:List Hd} {R:Bi} {xs:List (List α)} {hd:Hd} {p:Option Nat × Obj} {x:List α} (i:Nat),Rows q e w O hs R xs→hs[i]?=some hd→Gs q e w O hd.1 hd.2.2 x p.1 p.2→hd.2.1=x.length→Rows q e w O hs (R.set i p) (xs.set i x):=by
  intro hs R xs hd p x i h hh hg hl
  have:=Rows.set i h hg hl
  have e1:hs.set i hd=hs:=by
    obtain⟨h1,h2⟩:=List.getElem?_eq_some_iff.1 hh
    rw [← h2,List.set_getElem_self]
  rwa [e1] at this
def KT (q:Rp α) (w:World) (O:List Nat):List Hd→List (List α)→Prop
  |[],[] =>True
  |h::hs,x::xs=>(CA q w O h.1 h.2.2 x∧h.2.1=x.length)∧KT q w O hs xs
  |_,_=>False
theorem KT.step (s:AB O w O' w'):∀{hs:List Hd} {xs:List (List α)},KT q w O hs xs→KT q w' O' hs xs
  |[],[],_=>trivial
  |h::hs,x::xs,⟨h1,h2⟩=>⟨⟨h1.1.step s,h1.2⟩,KT.step s h2⟩
  |[],_::_,h=>h.elim
  |_::_,[],h=>h.elim
theorem P0:∀{cs:List Value} {hs:List Hd} {xs:List (List α)},Ej RK w O cs hs→KT q w O hs xs→Ej (BE q) w O cs xs
  |cs,[],[],h,_=>h
  |cs,h::hs,x::xs,⟨v1,v2,e1,e2,e3⟩,⟨h1,h2⟩=>⟨v1,v2,e1,⟨h.1,h.2.2,by rw [← h1.2];exact e2,h1.1⟩,P0 e3 h2⟩
  |_,[],_::_,_,h=>h.elim
  |_,_::_,[],_,h=>h.elim
theorem KT.lens:∀{hs:List Hd} {xs:List (List α)},KT q w O hs xs→hs.length=xs.length
  |[],[],_=>rfl
  |h::hs,x::xs,⟨_,h2⟩=>by simp [KT.lens h2]
  |[],_::_,h=>h.elim
  |_::_,[],h=>h.elim
theorem Rows.pubs:∀{hs:List Hd} {R:Bi} {xs:List (List α)},St z O0 w (bs++R)→Rows q e w (ks (bs++R) O0) hs R xs→St z O0 w bs∧AB (ks (bs++R) O0) w (ks bs O0) w∧KT q w (ks bs O0) hs xs
  |[],[],[],h,_=>by rw [List.append_nil] at h ⊢;exact⟨h,AB.refl _ _,trivial⟩
  |hd::hs,p::R,x::xs,h,⟨h1,h2⟩=>by
    obtain⟨k1,k2,k3⟩:=Gs.publish (i:=bs.length) h (by rw [List.getElem?_append_right (Nat.le_refl _)];simp) h1.1
    have e1:(bs++p::R).eraseIdx bs.length=bs++R:=by rw [List.eraseIdx_append_of_length_le (Nat.le_refl _)];simp
    rw [e1] at k1 k2 k3
    obtain⟨j1,j2,j3⟩:=Rows.pubs k1 (h2.step k2)
    exact⟨j1,k2.trans j2,⟨k3.step j2,h1.2⟩,j3⟩
  |[],[],_::_,_,h=>h.elim
  |[],_::_,_,_,h=>h.elim
  |_::_,[],_,_,h=>h.elim
  |_::_,_::_,[],_,h=>h.elim
theorem Rows.publish {hds:List Hd} {xss:List (List α)} {j c:Nat} {kk:Option Nat} {o:Obj} {a:Option Addr} {e2:TypeId} (hs:St z O0 w (bs++R)) (fR:Rows q e w (ks (bs++R) O0) hds R xss) (hj:bs[j]?=some (kk,o)) (hG:Gs RK e2 w (ks (bs++R) O0) a c hds kk o):
    St z O0 w (bs.eraseIdx j)∧AB (ks (bs++R) O0) w (ks (bs.eraseIdx j) O0) w∧CA (BE q) w (ks (bs.eraseIdx j) O0) a c xss:=by
  obtain⟨h1,h2,h3⟩:=fR.pubs hs
  have hl:=h3.lens
  have hG2:Gs (BE q) e2 w (ks bs O0) a c xss kk o:=by
    rcases hG.step h2 with ⟨k1,k2,k3,k4⟩ |⟨bl,cur,k1,k2,k3,k4,k5,k6,k7⟩
    · subst k3
      have:xss=[]:=List.length_eq_zero_iff.1 hl.symm
      exact .inl ⟨k1,k2,this,k4⟩
    · refine .inr ⟨bl, cur, k1, k2, k3, k4, by omega, k6, ?_⟩
      rw [← hl];exact P0 k7 h3
  obtain⟨j1,j2,j3⟩:=Gs.publish (i:=j) h1 hj hG2
  exact⟨j1,h2.trans j2,j3⟩
section ops
variable {P : Program} {r : Option Nat} {ρ : EX} {d : Option Nat} {ty : TypeId} {pos : String} {aft : Array Edge} {g : Option (Nat × Bool)} {V : Value → World → Prop} {t : TypeId} {td : TypeDesc} {n b : Nat} {zs : List Value} {ag : Bool} {x y : Operand} {m : Int}
theorem Mr {hds:List Hd} {xss:List (List α)} {i bl:Nat} {hd:Hd} {v:Value} {vs:List Value} {yv:α} (T:Ty P t td n b zs ag) (hp:q.n=n) (hs:St z O0 w (bs++R)) (fR:Rows q e w (ks (bs++R) O0) hds R xss) (hi:i<xss.length) (hh:hds[i]?=some hd) (ha:hd.1=some ⟨bl,0,none⟩)
    (hx:ev ρ x=.pointer (some ⟨bl,m.toNat*n,none⟩)) (hy:ev ρ y=v) (hv:v.cells=vs.toArray) (h0:0≤m∧m<(xss.getD i default).length) (hr:q.rd w (ks (bs++R) O0) vs yv)
    (k:∀w' R',AB (ks (bs++R) O0) w (ks (bs++R') O0) w'→St z O0 w' (bs++R')→Rows q e w' (ks (bs++R') O0) hds R' (xss.set i ((xss.getD i default).set m.toNat yv))→V undef w'):
    BQ P r ρ w ⟨d,.store t x y,ty,pos,aft,g⟩ V:=by
  obtain⟨hd',p,h1,h2,h3,h4⟩:=fR.get i hi
  rw [hh] at h1
  cases h1
  have hgd:xss.getD i default=xss[i]:=by simp [List.getD_eq_getElem?_getD,List.getElem?_eq_getElem hi]
  rw [hgd] at h0
  have hpk:p.1=some bl:=by
    obtain⟨bl',e1,e2⟩:=h3.at_ (by omega)
    rw [ha] at e1;cases e1;exact e2
  obtain⟨pk,po⟩:=p
  simp only at hpk h3
  subst hpk
  refine Hf T hp hs (TP h2) hx hy hv h3 h0 hr fun w' o' h5 h6 h7=>?_
  rw [TR] at h5 h6 h7
  refine k w' _ h5 h6 ?_
  rw [hgd]
  exact(fR.step h5).turn i hh h7 (by rw [h4,List.length_set])
theorem Rows.at_ {hds:List Hd} {xss:List (List α)} (fR:Rows q e w O hds R xss) {i:Nat} (hi:i<xss.length):
    hds[i]?=some (hds.getD i default)∧(hds.getD i default).2.1=(xss.getD i default).length∧(0<(xss.getD i default).length→∃bl,(hds.getD i default).1=some ⟨bl,0,none⟩):=by
  obtain⟨hd,p,h1,h2,h3,h4⟩:=fR.get i hi
  have e1:hds.getD i default=hd:=by simp [List.getD_eq_getElem?_getD,h1]
  have e2:xss.getD i default=xss[i]:=by simp [List.getD_eq_getElem?_getD,List.getElem?_eq_getElem hi]
  rw [e1,e2]
  exact⟨h1,h4,fun h=>by obtain⟨bl,h5,_⟩:=h3.at_ h;exact⟨bl,h5⟩⟩
theorem Ms {H:Hd} {row:List α} {bl:Nat} {dt:TypeDesc} {kd:IntKind} {bt b':Nat} {tz:List Value} {ta:Bool} (T:Ty P t (.slice e) 1 bt tz ta) (E:Ty P e dt n b' zs ag)
    (hx:ev ρ x=.slice H.1 H.2.1 H.2.2) (hy:ev ρ y=.int kd m) (hb:H.1=some ⟨bl,0,none⟩) (hl:H.2.1=row.length) (h0:0≤m∧m<row.length)
    (k:V (.pointer (some ⟨bl,m.toNat*n,none⟩)) w):BQ P r ρ w ⟨d,.indexAddr t x y,ty,pos,aft,g⟩ V:=by
  rw [hb,hl] at hx
  refine KQ T E hx hy h0.1 h0.2 ?_
  simpa using k
end ops
section dw
abbrev VO {α:Type} (O0:List Nat) (bs:Bi) (tag:Nat) (q:Rp α) (e:TypeId) (x:List α):VR Nx:=fun v w nx=>
  ∃a c kk o,v=.slice a x.length c∧(∀b,kk=some b→(tag,b,o)∈nx)∧Gs q e w (ks (Em nx++bs) O0) a c x kk o
theorem VO.stab {α:Type} {w0:Zx} {tag:Nat} {q:Rp α} {e:TypeId} {x:List α} :Im (TS w0 O0 bs) (VO O0 bs tag q e x):=fun _ _ _ _ _ ⟨⟨l,h1⟩,h2,_⟩ ⟨a,c,kk,o,g1,g2,g3⟩=>
  ⟨a,c,kk,o,g1,fun b hb=>h1 ▸ List.mem_append_right _ (g2 b hb),g3.step h2⟩
theorem GoesG.call {α:Type} {w0:Zx} {nx:Nx} {tag:Nat} {q:Rp α} {e:TypeId} {x:List α} {a:Option Addr} {c k:Nat} {kk:Option Nat} {o:Obj} (hi:St w0 O0 w (Em nx++bs)) (hx:GH w w') (hk:∀b,kk=some b→w.heap.size≤b∧w'.heap[b]?=some o)
    (f:Gs q e w' (kk.toList++ks (Em nx++bs) O0) a c x kk o):Bs (TS w0 O0 bs) w nx (VO O0 bs tag q e x) k (.slice a x.length c) w':=by
  obtain⟨h1,h2⟩:=hi.callG hx hk
  cases kk with
  |none=>exact⟨nx,hi.call hx,⟨⟨[],rfl⟩,AB.ext hx,hx⟩,⟨a,c,none,o,rfl,(fun _ h=>by cases h),f⟩,fun _ h=>by cases h⟩
  |some b=>exact⟨(tag,b,o)::nx,h1,⟨⟨[_],rfl⟩,h2,hx⟩,⟨a,c,some b,o,rfl,(fun j hj=>by cases hj;exact List.mem_cons_self),f⟩,fun _ h=>by cases h⟩
theorem GoesG.new {α:Type} {w0:Zx} {nx:Nx} {tag:Nat} {q:Rp α} {e:TypeId} {x:List α} {b c k:Nat} {o:Obj} (hx:GH w w') (p:AB (ks (Em nx++bs) O0) w (ks ((some b,o)::(Em nx++bs)) O0) w') (h:St w0 O0 w' ((some b,o)::(Em nx++bs)))
    (f:Gs q e w' (ks ((some b,o)::(Em nx++bs)) O0) (some ⟨b,0,none⟩) c x (some b) o):Bs (TS w0 O0 bs) w nx (VO O0 bs tag q e x) k (.slice (some ⟨b,0,none⟩) x.length c) w':=
  ⟨(tag,b,o)::nx,h,⟨⟨[_],rfl⟩,p,hx⟩,⟨_,c,some b,o,rfl,(fun j hj=>by cases hj;exact List.mem_cons_self),f⟩,fun _ h=>by cases h⟩
abbrev We {α:Type} (O0:List Nat) (bs:Bi) (tag tag2:Nat) (q:Rp α) (e e2:TypeId) (x:List α):VR Nx:=fun v w nx=>
  ∃b a c kk o,v=.slice (some ⟨b,0,none⟩) 1 1∧(tag2,b,.cells #[Value.slice a x.length c] e2)∈nx∧(∀b,kk=some b→(tag,b,o)∈nx)∧Gs q e w (ks (Em nx++bs) O0) a c x kk o
theorem We.stab {α:Type} {w0:Zx} {tag tag2:Nat} {q:Rp α} {e e2:TypeId} {x:List α} :Im (TS w0 O0 bs) (We O0 bs tag tag2 q e e2 x):=fun _ _ _ _ _ ⟨⟨l,h1⟩,h2,_⟩ ⟨b,a,c,kk,o,g1,g0,g2,g3⟩=>
  ⟨b,a,c,kk,o,g1,h1 ▸ List.mem_append_right _ g0,fun b hb=>h1 ▸ List.mem_append_right _ (g2 b hb),g3.step h2⟩
theorem GoesG.hd {α:Type} {w0:Zx} {nx:Nx} {tag tag2:Nat} {q:Rp α} {e e2:TypeId} {x:List α} {a:Option Addr} {b c k:Nat} {kk:Option Nat} {o:Obj} (hx:GH w w') (p:AB (ks (Em nx++bs) O0) w (ks ((some b,.cells #[Value.slice a x.length c] e2)::(Em nx++bs)) O0) w') (h:St w0 O0 w' ((some b,.cells #[Value.slice a x.length c] e2)::(Em nx++bs)))
    (hk:∀b,kk=some b→(tag,b,o)∈nx) (f:Gs q e w (ks (Em nx++bs) O0) a c x kk o):Bs (TS w0 O0 bs) w nx (We O0 bs tag tag2 q e e2 x) k (.slice (some ⟨b,0,none⟩) 1 1) w':=
  ⟨(tag2,b,_)::nx,h,⟨⟨[_],rfl⟩,p,hx⟩,⟨b,a,c,kk,o,rfl,List.mem_cons_self,(fun j hj=>List.mem_cons_of_mem _ (hk j hj)),f.step p⟩,fun _ h=>by cases h⟩
theorem AB.nxK2 {w0:Zx} {nx:Nx} {tag tag2 b:Nat} {kk:Option Nat} {o o2:Obj} (hi:St w0 O0 w (Em nx++bs)) (h2:(tag2,b,o2)∈nx) (hk:∀b,kk=some b→(tag,b,o)∈nx) (ht:tag2≠tag):St w0 O0 w ((some b,o2)::(kk,o)::bs)∧AB (ks (Em nx++bs) O0) w (ks ((some b,o2)::(kk,o)::bs) O0) w:=by
  cases kk with
  |none=>
    obtain⟨h1,h3⟩:=AB.nx1 hi h2
    obtain⟨h4,h5⟩:=(h1.ghost o).perm (bs':=(some b,o2)::(none,o)::bs) (List.Perm.swap _ _ _)
    exact⟨h4,h3.trans h5⟩
  |some j=>exact AB.nx2 hi h2 (hk j rfl) ht
end dw
end
end Go.Fx
set_option linter.unusedSimpArgs false
set_option linter.unusedVariables false
namespace Go.Fx
open Go Go.RowKit
section
variable {w w' w'' : World} {w0 : Zx} {O0 : List Nat} {bs : Bi} {eat : Nat → Nat} {g : Gx} {v : Value} {k : Nat}
def XN (eat:Nat→Nat) (tag:Nat) (o:Obj):VR Gx:=fun v _ g=>eat tag∈g.2∨∃b,v=.pointer (some ⟨b,0,none⟩)∧(tag,some b,o)∈g.1
theorem XN.stab (tag:Nat) (o:Obj):Im (TX w0 O0 bs eat) (XN eat tag o):=by
  rintro v w g w' g' ⟨⟨h1,h2⟩,h3,_⟩ (hv |⟨b,e1,e2⟩)
  · exact .inl (h2 _ hv)
  · rcases h1 _ e2 with h | h
    · exact .inr ⟨b,e1,h⟩
    · exact .inl h
theorem GoesX.new {b tag:Nat} {o:Obj} (hi2:∀k∈g.2,k<1000) (p:AB (ks (Hv g++bs) O0) w' (ks ((some b,o)::(Hv g++bs)) O0) w'') (hs:St w0 O0 w'' ((some b,o)::(Hv g++bs))):
    Bs (TX w0 O0 bs eat) w' g (XN eat tag o) k (.pointer (some ⟨b,0,none⟩)) w'':=
  ⟨((tag,some b,o)::g.1,g.2),⟨hs,hi2⟩,⟨⟨fun _ h=>.inl (List.mem_cons_of_mem _ h),fun _ h=>h⟩,p,trivial⟩,.inr ⟨b,rfl,List.mem_cons_self⟩,fun _ h=>.inl h⟩
end
end Go.Fx
set_option linter.unusedSimpArgs false
set_option linter.unusedVariables false
set_option linter.unusedSectionVars false
namespace Go.Fx
open Go Go.RowKit
section call
variable {P : Program} {ρ : EX} {w : World} {z : Zx} {O : List Nat} {bs : Bi} {γ : Type} {J Jx : JP γ} {L pre : List γ}
end call
end Go.Fx
set_option linter.unusedSimpArgs false
set_option linter.unusedVariables false
set_option linter.unusedSectionVars false
namespace Go.Fx
open Go Go.RowKit
theorem GR.out {n:Nat} {ρ:EX} {a:Act} (h:GR n ρ a) {t:Nat} (ht:n≤t):ρ t=undef:=by
  rw [← h.get t,Array.getD_eq_getD_getElem?,Array.getElem?_eq_none (by rw [h.size];exact ht)];rfl
def SD (ops:List Oper) (i:Nat):Bool:=match ops[i]? with
  |some ⟨none,.store _ _ _,_,_,_,none⟩=>true
  |_=>false
structure QM (n:Nat) (ops:List Oper) (m:Nat):Prop where
  dst:∀j<m,(DK ops j).all (·<n)=true∧∀i<j,DK ops i=none∨DK ops i≠DK ops j
  st:∀j<m,(DK ops j).isSome=true∨SD ops j=true
  up:∀j<ops.length,∀i∈CJ ops j,i<j
  look:∀j<m,∀t∈H4 ops j,∀i<m,DK ops i=some t→i∈CJ ops j
  look2:∀j<m,∀t∈H4 ops j,t<n
  tail:∀k<ops.length,m≤k→(∀i<m,i∈UP ops k)∧(m<k→k - 1∈CJ ops k)
  sel:Region.noSelect ops.toArray=true
  le:m≤ops.length
def SE (n:Nat) (ops:List Oper) (m:Nat):Bool:=
  G4 m (fun j=>(DK ops j).all (·<n)&&G4 j fun i=>DK ops i == none||DK ops i !=DK ops j)&&
  (G4 m (fun j=>(DK ops j).isSome||SD ops j)&&
  (G4 ops.length (fun j=>(CJ ops j).all (·<j))&&
  (G4 m (fun j=>(H4 ops j).all fun t=>G4 m fun i=>DK ops i !=some t||(CJ ops j).contains i)&&
  (G4 m (fun j=>(H4 ops j).all (·<n))&&
  (G4 ops.length (fun k=>k<m||(G4 m (fun i=>(UP ops k).contains i)&&(k≤m||(CJ ops k).contains (k - 1))))&&
  (Region.noSelect ops.toArray&&m≤ops.length))))))
theorem QM.of {n:Nat} {ops:List Oper} {m:Nat} (h:SE n ops m=true):QM n ops m:=by
  simp only [SE,Bool.and_eq_true] at h
  obtain⟨h1,h8,h2,h3,h9,h4,h6,h7⟩:=h
  refine⟨fun j hj=>?_,fun j hj=>?_,fun j hj i hi=>?_,fun j hj t ht i hi hd=>?_,fun j hj t ht=>?_,fun k hk hm=>?_,h6,by simpa using h7⟩
  · have := C4 h1 j hj
    simp only [Bool.and_eq_true] at this
    exact⟨this.1,fun i hi=>by simpa using C4 this.2 i hi⟩
  · simpa using C4 h8 j hj
  · have := List.all_eq_true.1 (C4 h2 j hj) i hi
    simpa using this
  · have := C4 (List.all_eq_true.1 (C4 h3 j hj) t ht) i hi
    simp only [Bool.or_eq_true,bne_iff_ne,ne_eq,List.contains_eq_mem,decide_eq_true_eq] at this
    exact this.resolve_left (fun h=>h hd)
  · simpa using List.all_eq_true.1 (C4 h9 j hj) t ht
  · have := C4 h4 k hk
    simp only [Bool.or_eq_true,decide_eq_true_eq,Bool.and_eq_true,List.contains_eq_mem] at this
    rcases this with h |⟨h,h'⟩
    · omega
    · refine ⟨fun i hi => ?_, fun hmk => h'.resolve_left (by omega)⟩
      have:=C4 h i hi
      simpa using this
section
variable {Γ : Type} {P : Program} {r : Option Nat} {n m : Nat} {l : List Oper} {Q : Iz}
end
/-! a block that is made and stored into where the order is drawn -/
abbrev Gq:=Nx × Option (Nat × Obj × Bool)
def P1 (g:Gq):Bi:=(match g.2 with |none=>[] |some p=>[(some p.1,p.2.1)])++Em g.1
section
variable {w w' w'' : World} {w0 : Zx} {O0 : List Nat} {bs : Bi} {zo : Obj} {ka kst : Nat} {g : Gq} {v : Value} {k : Nat}
def TQ (zo:Obj) (w0:Zx) (O0:List Nat) (bs:Bi) (ka kst:Nat):Pk Gq where
  inv w g:=St w0 O0 w (P1 g++bs)∧∀b o,g.2=some (b,o,false)→o=zo
  le w g w' g':=((∃l,g'.1=l++g.1)∧∀b o f,g.2=some (b,o,f)→∃o' f',g'.2=some (b,o',f')∧(f=true→o'=o∧f'=true))∧AB (ks (P1 g++bs) O0) w (ks (P1 g'++bs) O0) w'∧True
  refl w g:=⟨⟨⟨[],rfl⟩,fun b o f h=>⟨o,f,h,fun h=>⟨rfl,h⟩⟩⟩,AB.refl _ _,trivial⟩
  trans:=fun⟨⟨⟨l,a⟩,b⟩,h,_⟩ ⟨⟨⟨l',a'⟩,b'⟩,h',_⟩=>⟨⟨⟨l'++l,by rw [a',a,List.append_assoc]⟩,fun bb o f hg=>by
    obtain⟨o1,f1,e1,e2⟩:=b bb o f hg
    obtain⟨o2,f2,e3,e4⟩:=b' bb o1 f1 e1
    exact⟨o2,f2,e3,fun h=>by obtain⟨e5,e6⟩:=e2 h;obtain⟨e7,e8⟩:=e4 e6;exact⟨e7.trans e5,e8⟩⟩⟩,h.trans h',trivial⟩
  drew w g h:=⟨⟨h.1.call (GH.drew w),h.2⟩,⟨⟨[],rfl⟩,fun b o f h=>⟨o,f,h,fun h=>⟨rfl,h⟩⟩⟩,AB.ext (GH.drew w),trivial⟩
  dn g:=match g.2 with |none=>[] |some p=>if p.2.2 then [ka,kst] else [ka]
abbrev QD {α:Type} (O0:List Nat) (bs:Bi) (R:Vr α) (x:α):VR Gq:=fun v w g=>R.vd w (ks (P1 g++bs) O0) v x
theorem QD.stab {α:Type} (R:Vr α) (x:α):Im (TQ zo w0 O0 bs ka kst) (QD O0 bs R x):=fun _ _ _ _ _ h hv=>R.step h.2.1 hv
abbrev QP {α:Type} (O0:List Nat) (bs:Bi) (q:Rp α) (x:α):VR Gq:=fun v w g=>∃p,v=.pointer (some p)∧Iy q w (ks (P1 g++bs) O0) p x
theorem QP.stab {α:Type} (q:Rp α) (x:α):Im (TQ zo w0 O0 bs ka kst) (QP O0 bs q x):=fun _ _ _ _ _ h ⟨p,h1,h2⟩=>⟨p,h1,h2.step h.2.1⟩
abbrev QA:VR Gq:=fun v _ g=>∃b o f,v=.pointer (some ⟨b,0,none⟩)∧g.2=some (b,o,f)
theorem QA.stab:Im (TQ zo w0 O0 bs ka kst) QA:=fun _ _ _ _ _ h ⟨b,o,f,h1,h2⟩=>by obtain⟨o',f',e,_⟩:=h.1.2 b o f h2;exact⟨b,o',f',h1,e⟩
abbrev QS {α:Type} (O0:List Nat) (bs:Bi) (q:Rp α) (t:TypeId) (x:α):VR Gq:=fun _ w g=>∃b vs,g.2=some (b,.cells vs.toArray t,true)∧q.rd w (ks (P1 g++bs) O0) vs x
theorem QS.stab {α:Type} {q:Rp α} {t:TypeId} {x:α} :Im (TQ zo w0 O0 bs ka kst) (QS O0 bs q t x):=fun _ _ _ _ _ h ⟨b,vs,h1,h2⟩=>by
  obtain⟨o',f',e,e2⟩:=h.1.2 b _ _ h1
  obtain⟨rfl,rfl⟩:=e2 rfl
  exact⟨b,vs,e,q.step h.2.1 h2⟩
theorem GoesQ.same {V:VR Gq} (hi:St w0 O0 w' (P1 g++bs)) (hi2:∀b o,g.2=some (b,o,false)→o=zo) (hv:V v w' g):Bs (TQ zo w0 O0 bs ka kst) w' g V k v w':=⟨g,⟨hi,hi2⟩,(TQ zo w0 O0 bs ka kst).refl _ _,hv,fun _ h=>.inl h⟩
theorem GoesQ.call {V:VR Gq} (hi:St w0 O0 w' (P1 g++bs)) (hi2:∀b o,g.2=some (b,o,false)→o=zo) (hx:GH w' w'') (hv:V v w'' g):Bs (TQ zo w0 O0 bs ka kst) w' g V k v w'':=
  ⟨g,⟨hi.call hx,hi2⟩,⟨⟨⟨[],rfl⟩,fun b o f h=>⟨o,f,h,fun h=>⟨rfl,h⟩⟩⟩,AB.ext hx,trivial⟩,hv,fun _ h=>.inl h⟩
section ops
variable {P : Program} {r : Option Nat} {ρ : EX} {d : Option Nat} {ty : TypeId} {pos : String} {aft : Array Edge} {gd : Option (Nat × Bool)} {t : TypeId} {td : TypeDesc} {n b : Nat} {zs : List Value} {ag : Bool} {x y : Operand}
end ops
end
/-! what is new altogether -/
section fresh
def Qq {α:Type} (p:Rp α):Prop:=∀w O w' O' vs x,p.rd w O vs x→p.rd w' O' vs x
theorem Qq.int {k:IntKind} :Qq (AM k):=fun _ _ _ _ _ _ h=>h
theorem Qq.bool:Qq NK:=fun _ _ _ _ _ _ h=>h
theorem Qq.via {α β:Type} {f:β→α} {r:Rp α} (h:Qq r):Qq (M4 f r):=fun w O w' O' _ _ a=>h w O w' O' _ _ a
theorem St.fresh {w0 w:World} {ds O O':List Nat} {bs:Bi} (h:St ⟨w0,[],ds⟩ O' w bs) (hO:∀k∈O,k∈O') (hd:ds=[]:=by rfl):St ⟨w0,[],ds⟩ (List.range w0.heap.size++O) w bs:=by
  subst hd
  refine St.others h (fun k hk=>?_) (fun D hD=>by cases hD)
  rcases List.mem_append.1 hk with hk |hk
  · have hk := List.mem_range.1 hk
    refine⟨Nat.lt_of_lt_of_le hk h.below.size,fun hm=>?_⟩
    obtain⟨p,hp,e⟩:=B6.1 hm
    rcases (h.own p hp k e).1 with h1 |h1
    · cases h1
    · simp only at h1;omega
  · exact h.dj k (hO k hk)
def OkF {α:Type} (P:Program) (f:FuncId) (args:List Value) (w:World) (O:List Nat) (R:Vr α) (x:α):Prop:=Fn P f args w fun v w'=>GH w w'∧R.vd w' (List.range w.heap.size++O) v x
theorem OkF.ok {α:Type} {P:Program} {f:FuncId} {args:List Value} {w:World} {O:List Nat} {R:Vr α} {x:α} (h:OkF P f args w O R x):Ok P f args w O R x:=
  Fn.mono h fun _ _ ⟨h1,h2⟩=>⟨h1,R.step (AB.sub fun k hk=>List.mem_append_right _ hk) h2⟩
end fresh
end Go.Fx
set_option linter.unusedSimpArgs false
set_option linter.unusedVariables false
set_option linter.unusedSectionVars false
namespace Go.Fx
open Go Go.RowKit
def Hm {α γ σ:Type} (P:Program) (enc:γ→World→List Nat→List Value→Prop) (l:Nat) (M:Obj→σ→Prop) (bm:Nat) (w:World) (O:List Nat) (fv:Value) (A:α→World→List Nat→List Value→Prop) (f:α × σ→Option (List γ × σ)):Prop:=
  (∃k caps,fv=.func k #[] caps)∧∀w1 O1 o1 s,AB O w (bm::O1) w1→bm ∉ O1→w1.heap[bm]?=some o1→M o1 s→(∀k∈O1,k<w1.heap.size)→∀(J Jx:JP γ),Gw J→Gw Jx→∀vs x Lx sz,A x w1 (bm::O1) vs→f (x,s)=some (Lx,sz)→GW P enc Lx l J Jx→J [] w1 O1 [bm]→
    N7 P fv vs w1 fun u w2=>∃O2 o2 s2,bm ∉ O2∧w2.heap[bm]?=some o2∧M o2 s2∧((u=.bool true∧s2=sz∧J Lx w2 O2 [bm])∨(u=.bool false∧∃pre,Jx pre w2 O2 [bm]))
section sub
variable {α γ σ : Type} {P : Program} {enc : γ → World → List Nat → List Value → Prop} {l : Nat} {M : Obj → σ → Prop} {bm : Nat} {w w' : World} {O O' : List Nat} {A : α → World → List Nat → List Value → Prop} {f : α × σ → Option (List γ × σ)}
theorem Hm.step {fv:Value} (h:Hm P enc l M bm w O fv A f) (s:AB O w O' w'):Hm P enc l M bm w' O' fv A f:=
  ⟨h.1,fun w1 O1 o1 mp s1=>h.2 w1 O1 o1 mp (s.trans s1)⟩
def TT (P:Program) (enc:γ→World→List Nat→List Value→Prop) (l:Nat) (M:Obj→σ→Prop) (bm:Nat) (A:α→World→List Nat→List Value→Prop):Rp (α × σ→Option (List γ × σ)) where
  n:=1
  rd w O cs f:=∃v,cs=[v]∧Hm P enc l M bm w O v A f
  len:=fun⟨_,h,_⟩=>by rw [h];rfl
  one:=fun⟨v,h,⟨k,caps,h2⟩,_⟩=>by subst h;subst h2;simp [Value.oneCell']
  step:=fun s ⟨v,h,h2⟩=>⟨v,h,h2.step s⟩
def UZ (P:Program) (enc:γ→World→List Nat→List Value→Prop) (l:Nat) (M:Obj→σ→Prop) (bm:Nat) (A:α→World→List Nat→List Value→Prop):Vr (α × σ→Option (List γ × σ)):=⟨fun w O v f=>Hm P enc l M bm w O v A f,fun s h=>h.step s⟩
theorem SF {v:Value} (h:(TT P enc l M bm A).rd w O [v] f):Hm P enc l M bm w O v A f:=by
  obtain⟨v',h1,h2⟩:=h;cases h1;exact h2
theorem Iy.sbX {v:Value} {h1:v.oneCell'=true} {p:Addr} (h:Iy (Ld v h1) w O p ()) (hf:Hm P enc l M bm w O v A f):Iy (TT P enc l M bm A) w O p f:=by
  refine⟨h.spot,h.sh,?_⟩
  obtain⟨cs,e,fz,k1,k2,k3⟩:=h.cells
  exact⟨cs,e,fz,k1,k2,v,k3,hf⟩
theorem Hm.fix {k:Go.Fn} {caps:Array Value} {Φ:(α × σ→Option (List γ × σ))→α × σ→Option (List γ × σ)}
    (h:∀f,Hm P enc l M bm w O (.func k #[] caps) A f→Hm P enc l M bm w O (.func k #[] caps) A (Φ f)):∀n,Hm P enc l M bm w O (.func k #[] caps) A (NB Φ n)
  |0=>⟨⟨k,caps,rfl⟩,fun _ _ _ _ _ _ _ _ _ _ _ _ _ _ _ _ _ _ hf=>by cases hf⟩
  |n+1=>h _ (Hm.fix h n)
def Ar (ik:IntKind) (e:TypeId) (c bm n:Nat) (o:Obj) (xs:List Int):Prop:=xs.length=n∧∀w O,Gs (AM ik) e w O (some ⟨bm,0,none⟩) c xs (some bm) o
theorem Gs.int {ik:IntKind} {e:TypeId} {a:Option Addr} {c:Nat} {kk:Option Nat} {o:Obj} {xs:List Int} (h:Gs (AM ik) e w O a c xs kk o) (w':World) (O':List Nat):Gs (AM ik) e w' O' a c xs kk o:=by
  rcases h with h |⟨bl,cur,h1,h2,h3,h4,h5,h6,h7⟩
  · exact .inl h
  · refine .inr ⟨bl, cur, h1, h2, h3, h4, h5, h6, ?_⟩
    revert h7
    generalize cur.toList.take (xs.length*(AM ik).n)=cs
    clear h5
    induction xs generalizing cs with
    |nil=>exact id
    |cons x t ih=>rintro⟨v1,v2,e1,e2,e3⟩;exact⟨v1,v2,e1,e2,ih _ e3⟩
theorem Ar.of {ik:IntKind} {e:TypeId} {c n:Nat} {o:Obj} {xs:List Int} (h:Gs (AM ik) e w O (some ⟨bm,0,none⟩) c xs (some bm) o) (hl:xs.length=n):Ar ik e c bm n o xs:=⟨hl,h.int⟩
end sub
section call
variable {P : Program} {ρ : EX} {w : World} {z : Zx} {O : List Nat} {bs : Bi} {α γ σ : Type} {J Jx : JP γ} {L pre Lx : List γ} {l : Nat} {enc : γ → World → List Nat → List Value → Prop} {bm : Nat}
theorem Mt {r:Option Nat} {d:Option Nat} {ty:TypeId} {pos:String} {aft:Array Edge} {g:Option (Nat × Bool)} {Vv:Value→World→Prop} {x:Operand} {args:Array Operand} {us:Array TypeId} {fv:Value} {vs:List Value} {M:Obj→σ→Prop} {A:α→World→List Nat→List Value→Prop} {f:α × σ→Option (List γ × σ)} {a:α} {i:Nat} {o:Obj} {mp mz:σ}
    (hx:ev ρ x=fv) (hf:Hm P enc l M bm w (ks bs O) fv A f) (ha:args.toList.map (ev ρ)=vs) (hA:∀{x:α} {w w':World} {O O':List Nat} {vs:List Value},AB O w O' w'→A x w O vs→A x w' O' vs) (hv:A a w (ks bs O) vs) (hfa:f (a,mp)=some (Lx,mz)) (hY:GW P enc L l J Jx) (hJ:Gw J) (hJx:Gw Jx) (hI:NW J pre z O) (hs:St z O w bs) (hi:bs[i]?=some (some bm,o)) (hM:M o mp) (hL:pre++Lx<+:L)
    (kt:∀w' O' o',St ⟨w',(bs.set i (some bm,o')).filterMap Prod.fst,[]⟩ O' w' (bs.set i (some bm,o'))→AB (ks bs O) w (ks (bs.set i (some bm,o')) O') w'→NW J (pre++Lx) ⟨w',(bs.set i (some bm,o')).filterMap Prod.fst,[]⟩ O'→M o' mz→Vv (.bool true) w')
    (kf:∀w' O' o' (m2:σ) pre',St ⟨w',(bs.set i (some bm,o')).filterMap Prod.fst,[]⟩ O' w' (bs.set i (some bm,o'))→AB (ks bs O) w (ks (bs.set i (some bm,o')) O') w'→NW Jx pre' ⟨w',(bs.set i (some bm,o')).filterMap Prod.fst,[]⟩ O'→M o' m2→Vv (.bool false) w'):
    BQ P r ρ w ⟨d,.call ⟨.value x,args,us⟩,ty,pos,aft,g⟩ Vv:=by
  obtain⟨e1,e2,e3,e4⟩:=hs.lendM hi
  have hp:=KE hi
  have hlt:∀k∈(bs.eraseIdx i).filterMap Prod.fst,k<w.heap.size:=fun k hk=>e1 k (By.2 (.inl hk))
  have hdj:∀k∈O,k ∉ (bs.eraseIdx i).filterMap Prod.fst:=fun k hk hm=>(hs.dj k hk).2 (hp.mem_iff.1 (List.mem_cons_of_mem _ hm))
  have hnow:=hI.now hJ hs
  have hbmlt:bm<w.heap.size:=hs.lt (List.mem_of_getElem? hi) rfl
  have h0:Le J pre w O (bs.eraseIdx i) bm [] w (ks (bs.eraseIdx i) O) [bm]:=
    ⟨O,rfl,by
      rw [List.append_nil]
      exact hJ.loc hnow (fun k hk hm=>(hs.dj k hm).2 hk) (HW.refl _ _) ⟨fun k hk=>.inl (hp.mem_iff.1 (by simpa using hk)),fun k hk=>by
        rcases List.mem_append.1 hk with hk |hk
        · simp at hk;subst hk;exact hbmlt
        · exact hlt k hk⟩,fun p hp' b hb=>(hs.own p (List.mem_of_mem_eraseIdx hp') b hb).2,fun k hk=>⟨hdj k hk,(hs.dj k hk).1⟩,AB.refl _ _,fun k hk=>by simp at hk;exact .inl hk⟩
  have hc:=hf.2 w (ks (bs.eraseIdx i) O) o mp e4 e2 e3 hM e1 (Le J pre w O (bs.eraseIdx i) bm) (Le Jx pre w O (bs.eraseIdx i) bm) (Le.abides hJ hlt) (Le.abides hJx hlt) vs a Lx mz (hA e4 hv) hfa (Le.yields hlt hL hY) h0
  refine Io hx hc ha ?_
  rintro u w2 ⟨O2,o2,m2,k1,k2,k3,h⟩
  have done:∀(J':JP γ) (pre':List γ),Gw J'→Le J' pre w O (bs.eraseIdx i) bm pre' w2 O2 [bm]→∃Oc,St ⟨w2,(bs.set i (some bm,o2)).filterMap Prod.fst,[]⟩ Oc w2 (bs.set i (some bm,o2))∧AB (ks bs O) w (ks (bs.set i (some bm,o2)) Oc) w2∧NW J' (pre++pre') ⟨w2,(bs.set i (some bm,o2)).filterMap Prod.fst,[]⟩ Oc:=by
    rintro J' pre' hJ' ⟨Oc,rfl,h2,h3,h4,h5,_⟩
    have hi':=TJ (o':=o2) hi
    have he:(bs.set i (some bm,o2)).eraseIdx i=bs.eraseIdx i:=by rw [List.eraseIdx_set_eq]
    have hp':=KE hi'
    rw [he] at hp'
    have hbO:bm ∉ Oc:=fun hm=>k1 (By.2 (.inr hm))
    have hnd:((bs.set i (some bm,o2)).filterMap Prod.fst).Nodup:=hp'.nodup_iff.1 (hp.nodup_iff.2 hs.nd)
    have hsz:bm<w2.heap.size:=(Array.getElem?_eq_some_iff.1 k2).1
    have hkeys:∀k,k∈(bs.set i (some bm,o2)).filterMap Prod.fst→k<w2.heap.size∧k ∉ Oc:=fun k hk=>by
      rcases List.mem_cons.1 (hp'.mem_iff.2 hk) with rfl |hk
      · exact⟨hsz,hbO⟩
      · exact⟨Nat.lt_of_lt_of_le (hlt k hk) h5.size,fun hm=>(h4 k hm).1 hk⟩
    refine⟨Oc,⟨HW.refl _ _,fun p hp1 b hb=>⟨.inl (B6.2 ⟨p,hp1,hb⟩),?_⟩,hnd,fun k hk=>⟨(h4 k hk).2,fun hm=>(hkeys k hm).2 hk⟩,List.nodup_nil,fun _ h=>by cases h⟩,?_,?_,fun k hk=>(hkeys k hk).2⟩
    · obtain ⟨j, hj⟩ := List.mem_iff_getElem?.1 hp1
      rw [List.getElem?_set] at hj
      split at hj
      · split at hj
        · cases hj;cases hb;exact k2
        · cases hj
      · rename_i hne
        refine h3 p ?_ b hb
        rw [List.eraseIdx_eq_take_drop_succ]
        by_cases hlt':j<i
        · exact List.mem_append_left _ (List.mem_of_getElem? (i:=j) (by rw [List.getElem?_take,if_pos hlt'];exact hj))
        · exact List.mem_append_right _ (List.mem_of_getElem? (i:=j - (i+1)) (by rw [List.getElem?_drop,show i+1+(j - (i+1))=j by omega];exact hj))
    · refine e4.trans (h5.trans (AB.sub fun k hk => ?_))
      have:=(Py (O0:=Oc) hi' (k:=k)).2 hk
      rwa [he] at this
    · refine hJ'.loc h2 (fun k hk => ?_) (HW.refl _ _) ⟨fun k hk => .inl ?_, fun k hk => (hkeys k hk).1⟩
      · rcases List.mem_append.1 hk with hk | hk
        · simp at hk;subst hk;exact hbO
        · exact fun hm=>(h4 k hm).1 hk
      · rcases List.mem_cons.1 (hp'.mem_iff.2 hk) with rfl | hk
        · simp
        · exact List.mem_append_right _ hk
  rcases h with ⟨rfl,rfl,h⟩ |⟨rfl,pre',h⟩
  · obtain ⟨Oc, g1, g2, g3⟩ := done J Lx hJ h
    exact kt w2 Oc o2 g1 g2 g3 k3
  · obtain ⟨Oc, g1, g2, g3⟩ := done Jx pre' hJx h
    exact kf w2 Oc o2 m2 _ g1 g2 g3 k3
end call
section own
variable {K V : Type} [DecidableEq K] [GT K] {q : Kk K} {m : Mv V} {P : Program} {r : Option Nat} {ρ : EX} {w w' : World} {d : Option Nat} {ty : TypeId} {pos : String} {aft : Array Edge} {g : Option (Nat × Bool)} {Vv : Value → World → Prop}
variable {z0 : Zx} {O0 O O' : List Nat} {bs : Bi} {x : Operand} {t kt e : TypeId} {v : Value} {oi om : Obj} {last : Option (K × V)} {xs rem : List (K × V)}
theorem RL {b i:Nat} (hu:P.underlying t=some (.map kt e)) (hs:St z0 O0 w bs) (hi:bs[i]?=some (some b,om)) (hM:Mo q m om xs) (hx:ev ρ x=.map (some b))
    (k:∀bl oi rem w',AB (ks bs O0) w (ks ((some bl,oi)::bs) O0) w'→St z0 O0 w' ((some bl,oi)::bs)→Qa q m om oi b none rem→rem.Perm xs→Vv (.pointer (some ⟨bl,0,none⟩)) w'):
    BQ P r ρ w ⟨d,.range t x,ty,pos,aft,g⟩ Vv:=by
  have hb:=hs.get hi
  obtain⟨es,clock,rem,rfl,hit,hp⟩:=Qa.start (b:=b) hM
  have hs':=AB.alloc w O0 bs (.mapIter (some b) clock #[] clock)
  refine Bl (v:=.pointer (some ⟨w.heap.size,0,none⟩)) (w':=w.alloc (.mapIter (some b) clock #[] clock)) (by simp) ?_ (k _ _ rem _ hs' (hs.alloc _) hit hp)
  simp [execOp,hx,Instr.range,run_underlying hu,HI hb]
theorem SG {i j b bm:Nat} (hs:St z0 O0 w bs) (hi:bs[i]?=some (some b,oi)) (hj:bs[j]?=some (some bm,om)) (hit:Qa q m om oi bm last rem) (hx:ev ρ x=.pointer (some ⟨b,0,none⟩))
    (k0:rem=[]→Vv (.tuple [Value.bool false].toArray) w)
    (k1:∀p r1 r2 oi' w',rem=r1++p::r2→AB (ks bs O0) w (ks (bs.set i (some b,oi')) O0) w'→St z0 O0 w' (bs.set i (some b,oi'))→Qa q m om oi' bm (some p) (r1++r2)→q.ok p.1→m.ok p.2→Vv (.tuple [Value.bool true,q.enc p.1,m.enc p.2].toArray) w'):
    BQ P r ρ w ⟨d,.next x false,ty,pos,aft,g⟩ Vv:=by
  rcases Ob (P:=P) (w:=w) (r:=b) (ty:=ty) hit (hs.get hj) (hs.get hi) with ⟨h0,h1⟩ |⟨p,r1,r2,oi',w1,hr,hw1,h1,h2,h3,h4⟩
  · refine Bl (by simp) ?_ (k0 h0)
    simp [execOp,hx,h1]
  · have he : GH w w1 := by rcases hw1 with rfl | rfl; exact GH.refl _; exact GH.drew _
    have hs1:=hs.call he
    obtain⟨h5,h6⟩:=hs1.putObj hi oi'
    have h7:=(AB.ext (O:=ks bs O0) he).trans h6
    refine Bl (by simp) ?_ (k1 p r1 r2 oi' _ hr h7 h5 h2 h3 h4)
    simp [execOp,hx,h1]
theorem RM {i j b bm:Nat} {p:K × V} (hs:St z0 O0 w bs) (hi:bs[i]?=some (some b,oi)) (hj:bs[j]?=some (some bm,om)) (hit:Qa q m om oi bm (some p) rem) (hx:ev ρ x=.pointer (some ⟨b,0,none⟩))
    (k:Vv (.tuple [q.enc p.1,m.enc p.2].toArray) w):BQ P r ρ w ⟨d,.entry x,ty,pos,aft,g⟩ Vv:=by
  refine Bl (by simp) ?_ k
  simp [execOp,hx,MZ hit (hs.get hj) (hs.get hi)]
theorem TU {i b:Nat} (hu:P.underlying t=some (.map kt e)) (hs:St z0 O0 w bs) (hi:bs[i]?=some (some b,om)) (hM:Mo q m om xs) (hx:ev ρ x=.map (some b)) (k:Vv (.int .i64 xs.length) w):
    BQ P r ρ w ⟨d,.call ⟨.builtin .len,#[x],#[t]⟩,ty,pos,aft,g⟩ Vv:=by
  refine TK (O:=[]) (v:=.map (some b)) hu hx ⟨b,om,rfl,⟨(Array.getElem?_eq_some_iff.1 (hs.get hi)).1,by simp⟩,hs.get hi,hM⟩ k
theorem SH {ik ik':IntKind} {f:FuncId} {args:Array Operand} {us:Array TypeId} {e':TypeId} {a:Option Addr} {c b i:Nat} {o:Obj} {xs ys:List Int} {nx:Nx} {OO:List Nat}
    (hc:∀(args:Array Value) (w:World),(callFunc f args).run P w=.ok (.enter f args) w) (hi:St z0 O0 w (Em nx++bs)) (hsn:St z0 O0 w bs) (hb:bs[i]?=some (some b,o)) (hG:Gs (AM ik) e w OO a c xs (some b) o)
    (h:CA (AM ik) w [] a c xs→OI P f [.slice a xs.length c] w [] (AM ik') e' ys) (ha:args.toList.map (ev ρ)=[.slice a xs.length c])
    (k:∀v w',GH w w'→(vC (BE (AM ik'))).vd w' (ks (Em nx++bs) O0) v ys→Vv v w'):BQ P r ρ w ⟨d,.call ⟨.value (.func f),args,us⟩,ty,pos,aft,g⟩ Vv:=by
  have h1:St ⟨w,[b],[]⟩ [] w [(some b,o)]:=St.startW (by simp) (by simp) (hsn.get hb)
  obtain⟨_,_,h2⟩:=Gs.publish (i:=0) h1 rfl (hG.int w (ks [(some b,o)] []))
  refine FT hc (h h2) ha ?_
  rintro v w' ⟨hx,a',c',kk,o',rfl,hk,hG'⟩
  obtain⟨h3,_⟩:=hi.callG (o:=o') hx hk
  obtain⟨_,_,h4⟩:=Gs.publish (i:=0) h3 rfl (hG'.int w' (ks ((kk,o')::(Em nx++bs)) O0))
  exact k _ w' hx ⟨a',c',rfl,h4⟩
end own
end Go.Fx
set_option linter.unusedSimpArgs false
set_option linter.unusedVariables false
set_option linter.unusedSectionVars false
namespace Go.Fx
open Go Go.RowKit
/-! delete -/
section del
variable {K V : Type} [DecidableEq K] [GT K] {q : Kk K} {m : Mv V} {o : Obj} {xs : List (K × V)} {P : Program} {w : World} {t kt e : TypeId}
theorem P2 {l:List (K × V)} {n k:K} {y:V} :(k,y)∈M7 l n ↔ (k,y)∈l∧k≠n:=by simp [M7]
theorem Mo.del {es es':Array MapEntry} {clock:Nat} {l1 l2:List (K × V × Nat)} {n:K} {x:V} {b:Nat} (hM:L5 q m es clock (l1++(n,x,b)::l2)) (hd:(l1++(n,x,b)::l2).Pairwise fun e f=>e.1≠f.1)
    (hp:∀k y,(∃b',(k,y,b')∈l1++(n,x,b)::l2) ↔ (k,y)∈xs) (hr:He xs) (he:es'.toList=(l1++l2).map fun e=>(⟨q.enc e.1,m.enc e.2.1,e.2.2⟩:MapEntry)):Mo q m (.map es' clock) (M7 xs n):=by
  have hsub:(l1++l2).Sublist (l1++(n,x,b)::l2):=(List.Sublist.refl l1).append (List.sublist_cons_self _ _)
  rw [List.pairwise_append] at hd
  have hn1:∀e∈l1,e.1≠n:=fun e he=>hd.2.2 e he (n,x,b) (by simp)
  have hn2:∀e∈l2,e.1≠n:=fun e he h'=>(List.pairwise_cons.1 hd.2.1).1 e he h'.symm
  refine⟨es',clock,l1++l2,rfl,⟨he,hM.born.sublist hsub,fun e he=>hM.lt e (hsub.subset he),fun e he=>hM.ok e (hsub.subset he)⟩,?_,fun k y=>?_,MU hr n⟩
  · exact(List.pairwise_append.2 hd).sublist hsub
  · rw [P2, ← hp k y]
    constructor
    · rintro ⟨b', hb'⟩
      exact⟨⟨b',hsub.subset hb'⟩,(List.mem_append.1 hb').elim (hn1 _) (hn2 _)⟩
    · rintro ⟨⟨b', hb'⟩, hk⟩
      refine⟨b',?_⟩
      rcases List.mem_append.1 hb' with h |h
      · exact List.mem_append_left _ h
      · rcases List.mem_cons.1 h with e1 | h
        · cases e1;exact absurd rfl hk
        · exact List.mem_append_right _ h
theorem Qr {r:Nat} {n:K} {ty:TypeId} (hu:P.underlying t=some (.map kt e)) (hk:N8 P kt q) (hr:w.heap[r]?=some o) (h:Mo q m o xs) (hn:q.ok n):
    ∃o',(Builtin.delete_ #[t,kt] ty #[.map (some r),q.enc n]).run P w=.ok (.tuple #[]) (w.putObj r o')∧Mo q m o' (M7 xs n):=by
  obtain⟨es,clock,l,rfl,hM,hd,hp,hris⟩:=h
  cases hg:B0 xs n with
  |none=>
    have hf:=hM.findN (P:=P) (w:=w) hk hn (fun e he=>IE hg (e.1,e.2.1) ((hp e.1 e.2.1).1 ⟨e.2.2,he⟩))
    refine⟨.map es clock,?_,⟨es,clock,l,rfl,hM,hd,fun k y=>?_,MU hris n⟩⟩
    · simp [Builtin.delete_,run_underlying hu,Result.andThen,HI hr,hk.check _ _ _ hn,hf,JL _ hr]
    · rw [P2, hp k y]
      exact⟨fun h=>⟨h,fun e=>IE hg _ h e⟩,fun h=>h.1⟩
  |some x=>
    obtain⟨b,hb⟩:=(hp n x).2 (FK hg)
    obtain⟨l1,l2,rfl,h1,h2⟩:=KD hd hb
    have hf:=hM.findS (P:=P) (w:=w) hk h1
    refine⟨.map (es.eraseIdxIfInBounds l1.length) clock,?_,Mo.del hM hd hp hris ?_⟩
    · simp [Builtin.delete_,run_underlying hu,Result.andThen,HI hr,hk.check _ _ _ hn,hf,JL _ hr]
    · have hl:l1.length<es.size:=by
        have:=congrArg List.length hM.eq;simp at this;omega
      have h3:(es.eraseIdxIfInBounds l1.length).toList=es.toList.eraseIdx l1.length:=by simp [Array.eraseIdxIfInBounds,hl]
      rw [h3,hM.eq]
      simp only [List.map_append,List.map_cons]
      rw [List.eraseIdx_append_of_length_le (by simp)]
      simp
end del
section
variable {K V : Type} [DecidableEq K] [GT K] {q : Kk K} {m : Mv V} {o : Obj} {xs : List (K × V)} {P : Program} {r : Option Nat} {ρ : EX} {w w' : World} {d : Option Nat} {ty : TypeId} {pos : String} {aft : Array Edge} {g : Option (Nat × Bool)} {Vv : Value → World → Prop}
variable {z0 : Zx} {O0 O O' : List Nat} {bs : Bi} {x y u : Operand} {t kt e : TypeId}
theorem RN {b i:Nat} {n:K} {v:V} (hu:P.underlying t=some (.map kt e)) (hk:N8 P kt q) (hs:St z0 O0 w bs) (hi:bs[i]?=some (some b,o)) (h:Mo q m o xs) (hx:ev ρ x=.map (some b)) (hy:ev ρ y=q.enc n) (hn:q.ok n)
    (k:∀o' w',AB (ks bs O0) w (ks (bs.set i (some b,o')) O0) w'→St z0 O0 w' (bs.set i (some b,o'))→Mo q m o' (M7 xs n)→Vv (.tuple #[]) w'):
    BQ P r ρ w ⟨d,.call ⟨.builtin .delete,#[x,y],#[t,kt]⟩,ty,pos,aft,g⟩ Vv:=by
  obtain⟨o',h1,h2⟩:=Qr (P:=P) (ty:=ty) hu hk (hs.get hi) h hn
  obtain⟨h3,h4⟩:=hs.putObj hi o'
  refine Bl (v:=.tuple #[]) (by simp) ?_ (k o' _ h4 h3 h2)
  simp [execOp,resolve,invoke,builtin,hx,hy,h1]
end
/-! what is lent, as a state -/
structure Sx (σ:Type) where
  rd:World→List Nat→Bi→σ→Prop
  step:∀{w O w' O' E s},AB O w O' w'→rd w O E s→rd w' O' E s
def NC {σ:Type} (S:Sx σ) (w:World) (O:List Nat) (E:Bi) (s:σ):Prop:=S.rd w O E s
theorem NC.step {σ:Type} {S:Sx σ} {w w':World} {O O':List Nat} {E:Bi} {s:σ} (h:NC S w O E s) (p:AB O w O' w'):NC S w' O' E s:=S.step p h
def Jh {K V σ:Type} [DecidableEq K] [GT K] (P:Program) (q:Kk K) (m:Mv V) (S:Sx σ) (w:World) (O:List Nat) (fd:Value) (D:List (K × V)→σ→Option (Bool × σ)):Prop:=
  (∃k caps,fd=.func k #[] caps)∧∀(w1:World) (O1:List Nat) (L1:Bi) (b:Nat) (o:Obj) (xs:List (K × V)) (s:σ) (r:Bool) (s':σ),AB O w (ks L1 O1) w1→IA w1 O1 L1→b∈O1→w1.heap[b]?=some o→Mo q m o xs→NC S w1 (ks L1 O1) L1 s→D xs s=some (r,s')→
    N7 P fd [.map (some b)] w1 fun u w2=>∃L2,Jo w1 L1 w2 O1 L2∧NC S w2 (ks L2 O1) L2 s'∧u=.bool r
section done
variable {K V σ : Type} [DecidableEq K] [GT K] {P : Program} {q : Kk K} {m : Mv V} {S : Sx σ} {w w' : World} {O O' O0 : List Nat} {D : List (K × V) → σ → Option (Bool × σ)} {fd : Value} {z : Zx} {L1 own bs : Bi}
theorem Jh.step (h:Jh P q m S w O fd D) (p:AB O w O' w'):Jh P q m S w' O' fd D:=
  ⟨h.1,fun w1 O1 L1 b o xs s r s' p1=>h.2 w1 O1 L1 b o xs s r s' (p.trans p1)⟩
theorem Jh.cells (h:Jh P q m S w O fd D):fd.cells=[fd].toArray:=by obtain⟨k,c,rfl⟩:=h.1;rfl
theorem Jh.one (h:Jh P q m S w O fd D):fd.oneCell'=true:=by obtain⟨k,c,rfl⟩:=h.1;simp [Value.oneCell']
def Xt (P:Program) (q:Kk K) (m:Mv V) (S:Sx σ):Rp (List (K × V)→σ→Option (Bool × σ)) where
  n:=1
  rd w O cs D:=∃v,cs=[v]∧Jh P q m S w O v D
  len:=fun⟨_,h,_⟩=>by rw [h];rfl
  one:=fun⟨v,h,h2⟩=>by subst h;intro u hu;simp at hu;subst hu;exact h2.one
  step:=fun s ⟨v,h,h2⟩=>⟨v,h,h2.step s⟩
theorem Wf {v:Value} (h:(Xt P q m S).rd w O [v] D):Jh P q m S w O v D:=by obtain⟨v',h1,h2⟩:=h;cases h1;exact h2
theorem Wg {v:Value} (h:Jh P q m S w O v D):(Xt P q m S).rd w O [v] D:=⟨v,rfl,h⟩
theorem QN {k:Nat} :k∈ks L1 (ks own O0) ↔ k∈ks (own++L1) O0:=by
  simp only [ks,List.filterMap_append,List.mem_append]
  constructor
  · rintro (h | h | h)
    · exact .inl (.inr h)
    · exact .inl (.inl h)
    · exact .inr h
  · rintro ((h | h) | h)
    · exact .inr (.inl h)
    · exact .inl h
    · exact .inr (.inr h)
theorem St.swap (h:St z O0 w (own++L1)):St z O0 w (L1++own)∧AB (ks (own++L1) O0) w (ks (L1++own) O0) w:=h.perm List.perm_append_comm
theorem AB.comm1:AB (ks (own++L1) O0) w (ks L1 (ks own O0)) w:=AB.sub fun k hk=>QN.1 hk
theorem AB.comm2:AB (ks L1 (ks own O0)) w (ks (own++L1) O0) w:=AB.sub fun k hk=>QN.2 hk
theorem St.lendT (h:St z O0 w (own++L1)):IA w (ks own O0) L1:=(h.swap.1).lendL
theorem St.backT {L2:Bi} {w2:World} (h:St z O0 w (own++L1)) (hB:Jo w L1 w2 (ks own O0) L2):St z O0 w2 (own++L2)∧AB (ks (own++L1) O0) w (ks (own++L2) O0) w2:=by
  obtain⟨h1,h2⟩:=h.swap
  obtain⟨h3,h4⟩:=h1.backL hB
  obtain⟨h5,h6⟩:=h3.swap
  exact⟨h5,(h2.trans h4).trans h6⟩
theorem SI {r:Option Nat} {ρ:EX} {d:Option Nat} {ty:TypeId} {pos:String} {aft:Array Edge} {g:Option (Nat × Bool)} {Vv:Value→World→Prop} {x:Operand} {args:Array Operand} {us:Array TypeId} {i b:Nat} {o:Obj} {xs:List (K × V)} {s s':σ} {rr:Bool}
    (own L1:Bi) (hs:St z O0 w (own++L1)) (hx:ev ρ x=fd) (ha:args.toList.map (ev ρ)=[.map (some b)]) (hD:Jh P q m S w (ks (own++L1) O0) fd D) (hi:own[i]?=some (some b,o)) (hM:Mo q m o xs) (hS:NC S w (ks (own++L1) O0) L1 s) (hm:D xs s=some (rr,s'))
    (k:∀w' L2,AB (ks (own++L1) O0) w (ks (own++L2) O0) w'→St z O0 w' (own++L2)→NC S w' (ks (own++L2) O0) L2 s'→Vv (.bool rr) w'):BQ P r ρ w ⟨d,.call ⟨.value x,args,us⟩,ty,pos,aft,g⟩ Vv:=by
  have hi':(own++L1)[i]?=some (some b,o):=by
    rw [List.getElem?_append_left (List.getElem?_eq_some_iff.1 hi).1];exact hi
  refine Io hx (hD.2 w (ks own O0) L1 b o xs s rr s' AB.comm1 hs.lendT (By.2 (.inl (B6.2 ⟨_,List.mem_of_getElem? hi,rfl⟩))) (hs.get hi') hM (hS.step AB.comm1) hm) ha ?_
  rintro u w' ⟨L2,hB,hS2,rfl⟩
  obtain⟨h1,h2⟩:=hs.backT hB
  exact k w' L2 h2 h1 (hS2.step AB.comm2)
end done
/-! the map that is read is among what others own; or it is lent too -/
section less
variable {w w' : World} {O : List Nat} {L L' : Bi} {b : Nat} {o : Obj}
abbrev less (O:List Nat) (b:Nat):List Nat:=O.filter fun k=>!decide (k=b)
theorem HJ {k:Nat} :k∈less O b ↔ k∈O∧k≠b:=by simp [less]
theorem IA.lt0 (h:IA w O L):∀k∈O,k<w.heap.size:=St.lt0 h
theorem IA.less (h:IA w O L):IA w (less O b) L:=⟨h.below,h.own,h.nd,fun k hk=>h.dj k (HJ.1 hk).1,h.dsn,fun _ h=>by cases h⟩
theorem IA.stepless (L:Bi) (O:List Nat) (w:World):AB (ks L O) w (ks L (Fx.less O b)) w:=AB.sub fun k hk=>by
  rcases By.1 hk with hk |hk
  · exact By.2 (.inl hk)
  · exact By.2 (.inr (HJ.1 hk).1)
theorem IA.readM {K V:Type} [DecidableEq K] [GT K] {q:Kk K} {m:Mv V} {xs:List (K × V)} (h:IA w O L) (hb:b∈O) (ho:w.heap[b]?=some o) (hM:Mo q m o xs):NA q m w (ks L (Fx.less O b)) (.map (some b)) xs:=
  ⟨b,o,rfl,⟨h.lt0 b hb,fun hm=>(By.1 hm).elim (h.dj b hb).2 fun hm=>(HJ.1 hm).2 rfl⟩,ho,hM⟩
theorem Jo.more (hB:Jo w L w' (Fx.less O b) L') (h:IA w O L) (hb:b∈O):Jo w L w' O L':=by
  refine⟨hB.loc,⟨hB.st.below,hB.st.own,hB.st.nd,fun k hk=>?_,hB.st.dsn,fun _ h=>by cases h⟩,hB.new⟩
  by_cases e:k=b
  · subst e
    refine⟨Nat.lt_of_lt_of_le (h.lt0 k hb) hB.loc.size,fun hm=>?_⟩
    rcases hB.new k hm with h1 |h1
    · exact(h.dj k hb).2 h1
    · have:=h.lt0 k hb;omega
  · exact hB.st.dj k (HJ.2 ⟨hk,e⟩)
theorem IA.join (h:IA w O L) (hb:b∈O) (ho:w.heap[b]?=some o):IA w (Fx.less O b) (L++[(some b,o)]):=by
  have hk:(L++[(some b,o)]).filterMap Prod.fst=L.filterMap Prod.fst++[b]:=by simp
  refine⟨HW.refl _ _,fun p hp j hj=>⟨.inl (B6.2 ⟨p,hp,hj⟩),?_⟩,?_,fun k hk'=>⟨(h.dj k (HJ.1 hk').1).1,?_⟩,List.nodup_nil,fun _ h=>by cases h⟩
  · rcases List.mem_append.1 hp with hp | hp
    · exact(h.own p hp j hj).2
    · simp at hp;subst hp;cases hj;exact ho
  · rw [hk]
    exact List.nodup_append.2 ⟨h.nd,by simp,fun a ha c hc e=>by simp at hc;subst hc;subst e;exact(h.dj a hb).2 ha⟩
  · rw [hk]
    intro hm
    rcases List.mem_append.1 hm with hm |hm
    · exact(h.dj k (HJ.1 hk').1).2 hm
    · simp at hm;exact(HJ.1 hk').2 hm
theorem P3 {k:Nat} (hb:b∈O):k∈ks (L++[(some b,o)]) (Fx.less O b) ↔ k∈ks L O:=by
  simp only [ks,List.filterMap_append,List.mem_append,HJ]
  constructor
  · rintro ((h | h) | h)
    · exact .inl h
    · simp at h;subst h;exact .inr hb
    · exact .inr h.1
  · rintro (h | h)
    · exact .inl (.inl h)
    · by_cases e : k = b
      · subst e;exact .inl (.inr (by simp))
      · exact .inr ⟨h,e⟩
theorem AB.join (L:Bi) (w:World) (o:Obj) (hb:b∈O):AB (ks L O) w (ks (L++[(some b,o)]) (Fx.less O b)) w:=AB.sub fun k hk=>(P3 hb).1 hk
theorem AB.unjoin (L:Bi) (w:World) (o:Obj) (hb:b∈O):AB (ks (L++[(some b,o)]) (Fx.less O b)) w (ks L O) w:=AB.sub fun k hk=>(P3 hb).2 hk
theorem Jo.unjoin (hB:Jo w (L++[(some b,o)]) w' (Fx.less O b) (L'++[(some b,o)])) (h:IA w O L) (hb:b∈O) (ho:w.heap[b]?=some o):Jo w L w' O L':=by
  have hk:∀L:Bi,(L++[(some b,o)]).filterMap Prod.fst=L.filterMap Prod.fst++[b]:=fun L=>by simp
  have hnd:=hB.st.nd
  rw [hk] at hnd
  have hdis:=(List.nodup_append.1 hnd).2.2
  have hbl:b<w.heap.size:=h.lt0 b hb
  refine⟨⟨hB.loc.os,hB.loc.tape,hB.loc.output,hB.loc.size,fun k hk1 hk2=>?_,hB.loc.drawn⟩,⟨HW.refl _ _,fun p hp j hj=>⟨.inl (B6.2 ⟨p,hp,hj⟩),(hB.st.own p (List.mem_append_left _ hp) j hj).2⟩,(List.nodup_append.1 hnd).1,fun k hk1=>?_,List.nodup_nil,fun _ h=>by cases h⟩,fun k hk1=>?_⟩
  · by_cases e : k = b
    · subst e
      rw [(hB.st.own (some k,o) (by simp) k rfl).2,ho]
    · exact hB.loc.block k hk1 fun hm=>by
        rw [hk] at hm
        rcases List.mem_append.1 hm with hm |hm
        · exact hk2 hm
        · simp at hm;exact e hm
  · refine ⟨Nat.lt_of_lt_of_le (h.lt0 k hk1) hB.loc.size, fun hm => ?_⟩
    by_cases e:k=b
    · subst e;exact hdis k hm k (by simp) rfl
    · exact(hB.st.dj k (HJ.2 ⟨hk1,e⟩)).2 (by rw [hk];exact List.mem_append_left _ hm)
  · have := hB.new k (by rw [hk]; exact List.mem_append_left _ hk1)
    rw [hk] at this
    rcases this with h1 |h1
    · rcases List.mem_append.1 h1 with h1 | h1
      · exact .inl h1
      · simp at h1;subst h1;exact absurd rfl (hdis k hk1 k (by simp))
    · exact .inr h1
end less
/-! a function that calls itself, with two maps and what is behind them lent on -/
section sub
variable {α K1 V1 K2 V2 σ : Type} [DecidableEq K1] [GT K1] [DecidableEq K2] [GT K2] {P : Program} {q1 : Kk K1} {m1 : Mv V1} {q2 : Kk K2} {m2 : Mv V2} {S : Sx σ} {b1 b2 : Nat} {w w' : World} {O O' O0 : List Nat} {A : Vr α}
variable {f : α → List (K1 × V1) → List (K2 × V2) → σ → Option (Bool × List (K1 × V1) × List (K2 × V2) × σ)} {z : Zx} {L1 own bs : Bi} {fv : Value}
def KM (P:Program) (q1:Kk K1) (m1:Mv V1) (q2:Kk K2) (m2:Mv V2) (S:Sx σ) (b1 b2:Nat) (w:World) (O:List Nat) (fv:Value) (A:Vr α) (f:α→List (K1 × V1)→List (K2 × V2)→σ→Option (Bool × List (K1 × V1) × List (K2 × V2) × σ)):Prop:=
  (∃k caps,fv=.func k #[] caps)∧∀(w1:World) (O1:List Nat) (o1 o2:Obj) (L1:Bi) (v:Value) (x:α) (d1:List (K1 × V1)) (d2:List (K2 × V2)) (s:σ) (r:Bool) (d1':List (K1 × V1)) (d2':List (K2 × V2)) (s':σ),
    AB O w (ks ((some b1,o1)::(some b2,o2)::L1) O1) w1→IA w1 O1 ((some b1,o1)::(some b2,o2)::L1)→Mo q1 m1 o1 d1→Mo q2 m2 o2 d2→NC S w1 (ks ((some b1,o1)::(some b2,o2)::L1) O1) L1 s→A.vd w1 (ks ((some b1,o1)::(some b2,o2)::L1) O1) v x→f x d1 d2 s=some (r,d1',d2',s')→
    N7 P fv [v] w1 fun u w2=>∃o1' o2' L2,Jo w1 ((some b1,o1)::(some b2,o2)::L1) w2 O1 ((some b1,o1')::(some b2,o2')::L2)∧Mo q1 m1 o1' d1'∧Mo q2 m2 o2' d2'∧NC S w2 (ks ((some b1,o1')::(some b2,o2')::L2) O1) L2 s'∧u=.bool r
theorem KM.step (h:KM P q1 m1 q2 m2 S b1 b2 w O fv A f) (p:AB O w O' w'):KM P q1 m1 q2 m2 S b1 b2 w' O' fv A f:=
  ⟨h.1,fun w1 O1 o1 o2 L1 v x d1 d2 s r d1' d2' s' p1=>h.2 w1 O1 o1 o2 L1 v x d1 d2 s r d1' d2' s' (p.trans p1)⟩
def Va (P:Program) (q1:Kk K1) (m1:Mv V1) (q2:Kk K2) (m2:Mv V2) (S:Sx σ) (b1 b2:Nat) (A:Vr α):Rp (α→List (K1 × V1)→List (K2 × V2)→σ→Option (Bool × List (K1 × V1) × List (K2 × V2) × σ)) where
  n:=1
  rd w O cs f:=∃v,cs=[v]∧KM P q1 m1 q2 m2 S b1 b2 w O v A f
  len:=fun⟨_,h,_⟩=>by rw [h];rfl
  one:=fun⟨v,h,⟨k,caps,h2⟩,_⟩=>by subst h;subst h2;simp [Value.oneCell']
  step:=fun s ⟨v,h,h2⟩=>⟨v,h,h2.step s⟩
def Vb (P:Program) (q1:Kk K1) (m1:Mv V1) (q2:Kk K2) (m2:Mv V2) (S:Sx σ) (b1 b2:Nat) (A:Vr α):Vr (α→List (K1 × V1)→List (K2 × V2)→σ→Option (Bool × List (K1 × V1) × List (K2 × V2) × σ)):=
  ⟨fun w O v f=>KM P q1 m1 q2 m2 S b1 b2 w O v A f,fun s h=>h.step s⟩
theorem SJ {v:Value} (h:(Va P q1 m1 q2 m2 S b1 b2 A).rd w O [v] f):KM P q1 m1 q2 m2 S b1 b2 w O v A f:=by obtain⟨v',h1,h2⟩:=h;cases h1;exact h2
theorem Iy.sbS {v:Value} {h1:v.oneCell'=true} {p:Addr} (h:Iy (Ld v h1) w O p ()) (hf:KM P q1 m1 q2 m2 S b1 b2 w O v A f):Iy (Va P q1 m1 q2 m2 S b1 b2 A) w O p f:=by
  refine⟨h.spot,h.sh,?_⟩
  obtain⟨cs,e,fz,k1,k2,k3⟩:=h.cells
  exact⟨cs,e,fz,k1,k2,v,k3,hf⟩
def P4 {α β γ δ ε:Type} (Φ:(α→β→γ→δ→Option ε)→α→β→γ→δ→Option ε):Nat→α→β→γ→δ→Option ε
  |0=>fun _ _ _ _=>none
  |n+1=>Φ (P4 Φ n)
theorem KM.fix {k:Go.Fn} {caps:Array Value} {Φ:(α→List (K1 × V1)→List (K2 × V2)→σ→Option (Bool × List (K1 × V1) × List (K2 × V2) × σ))→α→List (K1 × V1)→List (K2 × V2)→σ→Option (Bool × List (K1 × V1) × List (K2 × V2) × σ)}
    (h:∀f,KM P q1 m1 q2 m2 S b1 b2 w O (.func k #[] caps) A f→KM P q1 m1 q2 m2 S b1 b2 w O (.func k #[] caps) A (Φ f)):∀n,KM P q1 m1 q2 m2 S b1 b2 w O (.func k #[] caps) A (P4 Φ n)
  |0=>⟨⟨k,caps,rfl⟩,fun _ _ _ _ _ _ _ _ _ _ _ _ _ _ _ _ _ _ _ _ hf=>by cases hf⟩
  |n+1=>h _ (KM.fix h n)
theorem P6 {r:Option Nat} {ρ:EX} {d:Option Nat} {ty:TypeId} {pos:String} {aft:Array Edge} {g:Option (Nat × Bool)} {Vv:Value→World→Prop} {x:Operand} {args:Array Operand} {us:Array TypeId} {o1 o2:Obj} {v:Value} {a:α} {d1 d1':List (K1 × V1)} {d2 d2':List (K2 × V2)} {s s':σ} {rr:Bool}
    (own L1:Bi) (hs:St z O0 w (own++((some b1,o1)::(some b2,o2)::L1))) (hx:ev ρ x=fv) (ha:args.toList.map (ev ρ)=[v]) (hf:KM P q1 m1 q2 m2 S b1 b2 w (ks (own++((some b1,o1)::(some b2,o2)::L1)) O0) fv A f) (hM1:Mo q1 m1 o1 d1) (hM2:Mo q2 m2 o2 d2)
    (hS:NC S w (ks (own++((some b1,o1)::(some b2,o2)::L1)) O0) L1 s) (hv:A.vd w (ks (own++((some b1,o1)::(some b2,o2)::L1)) O0) v a) (hm:f a d1 d2 s=some (rr,d1',d2',s'))
    (k:∀w' o1' o2' L2,AB (ks (own++((some b1,o1)::(some b2,o2)::L1)) O0) w (ks (own++((some b1,o1')::(some b2,o2')::L2)) O0) w'→St z O0 w' (own++((some b1,o1')::(some b2,o2')::L2))→Mo q1 m1 o1' d1'→Mo q2 m2 o2' d2'→NC S w' (ks (own++((some b1,o1')::(some b2,o2')::L2)) O0) L2 s'→Vv (.bool rr) w'):
    BQ P r ρ w ⟨d,.call ⟨.value x,args,us⟩,ty,pos,aft,g⟩ Vv:=by
  refine Io hx (hf.2 w (ks own O0) o1 o2 L1 v a d1 d2 s rr d1' d2' s' AB.comm1 hs.lendT hM1 hM2 (hS.step AB.comm1) (A.step AB.comm1 hv) hm) ha ?_
  rintro u w' ⟨o1',o2',L2,hB,k1,k2,k3,rfl⟩
  obtain⟨h1,h2⟩:=hs.backT hB
  exact k w' o1' o2' L2 h2 h1 k1 k2 (k3.step AB.comm2)
end sub
/-! m[k] += x where the order is drawn: the entry may be made before the element is looked up -/
section dw
variable {K V : Type} [DecidableEq K] [GT K]
def TM (q:Kk K) (m:Mv V) (n:K) (mp':List (K × V)) (z0:Zx) (O0:List Nat) (bs:Bi) (i b kx:Nat):Pk (Option (Obj × Int)) where
  dn g:=match g with |none=>[] |some _=>[kx]
  inv w g:=match g with
    |none=>St z0 O0 w bs
    |some p=>St z0 O0 w (bs.set i (some b,p.1))∧Mo q m p.1 mp'∧VM p.1 q n p.2
  le w g w' g':=(∀p,g=some p→g'=some p)∧AB (ks (match g with |none=>bs |some p=>bs.set i (some b,p.1)) O0) w (ks (match g' with |none=>bs |some p=>bs.set i (some b,p.1)) O0) w'
  refl w g:=⟨fun _ h=>h,AB.refl _ _⟩
  trans:=fun⟨h1,h2⟩ ⟨h1',h2'⟩=>⟨fun p h=>h1' p (h1 p h),h2.trans h2'⟩
  drew w g h:=by
    cases g with
    |none=>exact⟨h.call (GH.drew w),fun _ h=>h,AB.ext (GH.drew w)⟩
    |some p=>exact⟨⟨h.1.call (GH.drew w),h.2⟩,fun _ h=>h,AB.ext (GH.drew w)⟩
variable {q : Kk K} {m : Mv V} {n : K} {mp' : List (K × V)} {z0 : Zx} {O0 : List Nat} {bs : Bi} {i b kx : Nat} {w : World}
theorem SK (h:St z0 O0 w bs):(TM q m n mp' z0 O0 bs i b kx).inv w none:=h
abbrev VE (m:Mv V) (v0:V):VR (Option (Obj × Int)):=fun v w g=>∃p,g=some p∧v=.tuple [m.enc v0,.int .i64 p.2].toArray
abbrev VQ:VR (Option (Obj × Int)):=fun v w g=>∃p:Obj × Int,g=some p∧v=.int .i64 p.2
theorem VE.stab (v0:V):Im (TM q m n mp' z0 O0 bs i b kx) (VE m v0):=fun _ _ _ _ _ h ⟨p,h1,h2⟩=>⟨p,h.1 p h1,h2⟩
theorem VQ.stab:Im (TM q m n mp' z0 O0 bs i b kx) VQ:=fun _ _ _ _ _ h ⟨p,h1,h2⟩=>⟨p,h.1 p h1,h2⟩
theorem GoesM.made {V:VR (Option (Obj × Int))} {w':World} {o':Obj} {s:Int} {v:Value} (h1:AB (ks bs O0) w (ks (bs.set i (some b,o')) O0) w') (h2:St z0 O0 w' (bs.set i (some b,o'))) (h3:Mo q m o' mp') (h4:VM o' q n s) (hv:V v w' (some (o',s))):
    Bs (TM q m n mp' z0 O0 bs i b kx) w none V kx v w':=⟨some (o',s),⟨h2,h3,h4⟩,⟨(fun _ h=>by cases h),h1⟩,hv,fun k h=>.inr (by have h':k∈[kx]:=h;simpa using h')⟩
theorem GoesM.same {V:VR (Option (Obj × Int))} {g:Option (Obj × Int)} {v:Value} {k:Nat} (hi:(TM q m n mp' z0 O0 bs i b kx).inv w g) (hv:V v w g):Bs (TM q m n mp' z0 O0 bs i b kx) w g V k v w:=⟨g,hi,(TM q m n mp' z0 O0 bs i b kx).refl _ _,hv,fun _ h=>.inl h⟩
theorem Nb {l:List (K × V)} {n:K} {v0:V} (z:V):(B0 (DJ l n v0) n).getD z=v0:=by rw [G5];simp
end dw
end Go.Fx
set_option linter.unusedSimpArgs false
set_option linter.unusedVariables false
namespace Go.Fx
open Go Go.RowKit Go.Shelf Go.Proofs
section sortm
variable {α : Type}
def P7 (cmp:α→α→Option Int) (x y:α):Bool:=match cmp x y with |some n=>decide (n<0) |none=>false
def Lh [DecidableEq α] (cmp:α→α→Option Int) (xs:List α):Bool:=
  xs.all fun x=>!P7 cmp x x&&xs.all fun y=>(cmp x y).isSome&&(P7 cmp x y||P7 cmp y x||decide (x=y))&&xs.all fun z=>!(P7 cmp x y&&P7 cmp y z)||P7 cmp x z
def Qs (lt:α→α→Bool) (x:α):List α→List α
  |[] =>[x]
  |y::t=>bif lt x y then x::y::t else y::Qs lt x t
def LY (lt:α→α→Bool) (xs:List α):List α:=xs.foldr (Qs lt) []
def L7 [DecidableEq α] (cmp:α→α→Option Int) (xs:List α):Option (List α):=bif Lh cmp xs then some (LY (P7 cmp) xs) else none
theorem LZ (lt:α→α→Bool) (x:α):∀l,(Qs lt x l).Perm (x::l)
  |[] =>List.Perm.refl _
  |y::t=>by
    unfold Qs
    cases lt x y
    · exact((LZ lt x t).cons y).trans (List.Perm.swap x y t)
    · exact List.Perm.refl _
theorem Ir (lt:α→α→Bool):∀l:List α,(LY lt l).Perm l
  |[] =>List.Perm.refl _
  |x::t=>(LZ lt x _).trans ((Ir lt t).cons x)
structure JR (lt:α→α→Bool) (xs:List α):Prop where
  irr:∀x∈xs,lt x x=false
  tot:∀x∈xs,∀y∈xs,lt x y=false→lt y x=false→x=y
  tr:∀x∈xs,∀y∈xs,∀z∈xs,lt x y=true→lt y z=true→lt x z=true
theorem Nc [DecidableEq α] {cmp:α→α→Option Int} {xs:List α} :Lh cmp xs=true ↔ JR (P7 cmp) xs∧∀x∈xs,∀y∈xs,∃n,cmp x y=some n:=by
  unfold Lh
  simp only [List.all_eq_true,Bool.and_eq_true,Bool.or_eq_true,Bool.not_eq_true',decide_eq_true_eq,Option.isSome_iff_exists]
  constructor
  · intro h
    refine⟨⟨fun x hx=>(h x hx).1,fun x hx y hy h1 h2=>?_,fun x hx y hy z hz h1 h2=>?_⟩,fun x hx y hy=>((h x hx).2 y hy).1.1⟩
    · rcases ((h x hx).2 y hy).1.2 with (h3 | h3) | h3
      · rw [h1] at h3;cases h3
      · rw [h2] at h3;cases h3
      · exact h3
    · rcases ((h x hx).2 y hy).2 z hz with h3 | h3
      · rw [h1,h2] at h3;cases h3
      · exact h3
  · rintro ⟨⟨h1, h2, h3⟩, h4⟩ x hx
    refine⟨h1 x hx,fun y hy=>⟨⟨h4 x hx y hy,?_⟩,fun z hz=>?_⟩⟩
    · cases h5 : P7 cmp x y
      · cases h6 : P7 cmp y x
        · exact .inr (h2 x hx y hy h5 h6)
        · exact .inl (.inr rfl)
      · exact .inl (.inl rfl)
    · cases h5 : P7 cmp x y
      · exact .inl rfl
      · cases h6 : P7 cmp y z
        · exact .inl rfl
        · exact .inr (h3 x hx y hy z hz h5 h6)
theorem JR.ntrans {lt:α→α→Bool} {xs:List α} (T:JR lt xs) {x y z:α} (hx:x∈xs) (hy:y∈xs) (hz:z∈xs) (h1:lt x y=false) (h2:lt y z=false):lt x z=false:=by
  cases h3:lt x z
  · rfl
  · cases h4 : lt y x
    · have:=T.tot x hx y hy h1 h4;subst this;rw [h3] at h2;cases h2
    · have:=T.tr y hy x hx z hz h4 h3;rw [this] at h2;cases h2
theorem Mu {lt:α→α→Bool} {xs:List α} (T:JR lt xs) {x:α} (hx:x∈xs):∀l:List α,(∀y∈l,y∈xs)→l.Pairwise (fun a b=>lt b a=false)→(Qs lt x l).Pairwise (fun a b=>lt b a=false)
  |[],_,_=>by simp [Qs]
  |y::t,hl,hp=>by
    unfold Qs
    have hy:=hl y (by simp)
    cases h:lt x y
    · rw [cond_false, List.pairwise_cons]
      have hp':=List.pairwise_cons.1 hp
      refine⟨fun z hz=>?_,Mu T hx t (fun z hz=>hl z (by simp [hz])) hp'.2⟩
      rcases List.mem_cons.1 ((LZ lt x t).mem_iff.1 hz) with e |hz
      · subst e;exact h
      · exact hp'.1 z hz
    · rw [cond_true, List.pairwise_cons]
      refine⟨fun z hz=>?_,hp⟩
      have hyx:lt y x=false:=by
        cases h':lt y x
        · rfl
        · have:=T.tr x hx y hy x hx h h';rw [T.irr x hx] at this;cases this
      rcases List.mem_cons.1 hz with e |hz'
      · subst e;exact hyx
      · exact T.ntrans (hl z (by simp [hz'])) hy hx ((List.pairwise_cons.1 hp).1 z hz') hyx
theorem KU {lt:α→α→Bool} {xs:List α} (T:JR lt xs):∀l:List α,(∀y∈l,y∈xs)→(LY lt l).Pairwise (fun a b=>lt b a=false)
  |[],_=>by simp [LY]
  |x::t,hl=>Mu T (hl x (by simp)) _ (fun y hy=>hl y (by simp [(Ir lt t).mem_iff.1 hy])) (KU T t fun y hy=>hl y (by simp [hy]))
theorem KV {lt:α→α→Bool} {xs ys:List α} (T:JR lt xs) (hp:ys.Perm xs) (hs:ys.Pairwise (fun a b=>lt b a=false)):ys=LY lt xs:=by
  refine List.Perm.eq_of_pairwise (le:=fun x y=>(!lt y x)=true) ?_ ?_ ?_ (hp.trans (Ir lt xs).symm)
  · intro a b ha hb h1 h2
    simp only [Bool.not_eq_true'] at h1 h2
    exact T.tot a (hp.mem_iff.1 ha) b (by simpa [(Ir lt xs).mem_iff] using hb) h2 h1
  · exact hs.imp (by simp)
  · exact(KU T xs fun _ h=>h).imp (by simp)
theorem RO [DecidableEq α] {cmp:α→α→Option Int} {xs ys:List α} (h:L7 cmp xs=some ys):ys.length=xs.length:=by
  unfold L7 at h
  cases he:Lh cmp xs
  · rw [he] at h;cases h
  · rw [he] at h;rw [← Option.some.inj h];exact(Ir _ _).length_eq
end sortm

theorem GH.grow {w w':World} (h:GH w w'):∃q os,w'=Go.Sort.grow (w.drewN q) os:=by
  refine⟨w'.drawn - w.drawn,w'.heap.extract w.heap.size w'.heap.size,?_⟩
  obtain⟨h1,h2,h3,h4,h5,h6⟩:=h
  cases w with |mk heap tape drawn os output=>cases w' with |mk heap' tape' drawn' os' output'=>
  simp only at h1 h2 h3 h4 h5 h6
  subst h1;subst h2;subst h3
  simp only [Go.Sort.grow,World.drewN,World.mk.injEq,true_and,and_true]
  refine⟨?_,by omega⟩
  apply Array.ext_getElem?
  intro k
  by_cases hk:k<heap.size
  · rw [Array.getElem?_append_left hk,h5 k hk]
  · rw [Array.getElem?_append_right (by omega), Array.getElem?_extract]
    by_cases hk':k<heap'.size
    · rw [if_pos (by omega)];congr 1;omega
    · rw [if_neg (by omega),Array.getElem?_eq_none (by omega)]

section
variable {α : Type} {q : Rp α} {w w' : World} {O : List Nat}
theorem Ej.one1 (hq:q.n=1):∀{cs:List Value} {xs:List α},Ej q w O cs xs→cs.length=xs.length∧∀j (h1:j<cs.length) (h2:j<xs.length),q.rd w O [cs[j]] xs[j]:=by
  intro cs xs h
  have hl:cs.length=xs.length:=by rw [h.len,hq,Nat.mul_one]
  refine⟨hl,fun j h1 h2=>?_⟩
  have:=h.get j h2
  rw [hq,Nat.mul_one] at this
  rw [show [cs[j]] =(cs.drop j).take 1 from by rw [List.drop_eq_getElem_cons h1];rfl]
  exact this
end

theorem Fn.of_calls {P:Program} {f:FuncId} {args:List Value} {w:World} {R:Value→World→Prop} (h:Calls P f args.toArray w fun e w'=>∃v,e=.returned v∧R v w'):Fn P f args w R:=by
  unfold Fn;rw [T3];exact callsIn_wide.2 h
section op
variable {P : Program} {r : Option Nat} {ρ : EX} {w : World} {z : Zx} {O0 : List Nat} {bs : Bi} {V : Value → World → Prop} {d : Option Nat} {ty : TypeId} {pos : String} {aft : Array Edge} {g : Option (Nat × Bool)}
variable {α : Type} [DecidableEq α] {q : Rp α}
end op
end Go.Fx
namespace Go.Proofs
open Go.Shelf
def P8 : Go.Shelf.Ren := ⟨fun | 6 => 68 | 15 => 83 | 14 => 82 | 28 => 98 | 29 => 99 | 20 => 90 | 21 => 91 | 22 => 92 | 23 => 93 | 24 => 94 | 25 => 95 | 26 => 96 | 27 => 97 | 46 => 101 | 47 => 102 | 48 => 103 | 49 => 104 | 50 => 105 | 57 => 106 | n => n, fun | 22 => 32 | 24 => 45 | 25 => 104 | 3 => 3 | 39 => 123 | 0 => 0 | 53 => 133 | 55 => 136 | 4 => 4 | 46 => 143 | 45 => 142 | 50 => 147 | 5 => 5 | 9 => 9 | 66 => 152 | 70 => 156 | 76 => 158 | 77 => 159 | n => n, fun | n => n⟩
theorem TV : Go.Proofs.SlLaysF0.n6 Try.prog P8 := {
  mixed := by kernel_rfl
  f6 := ⟨Try.f68.name, by decide, Try.func68.trans (congrArg some (by kernel_rfl))⟩
  f14 := ⟨Try.f82.name, by decide, Try.func82.trans (congrArg some (by kernel_rfl))⟩
  f15 := Try.func83.trans (congrArg some (by kernel_rfl))
  f20 := ⟨Try.f90.name, by decide, Try.func90.trans (congrArg some (by kernel_rfl))⟩
  f21 := ⟨Try.f91.name, by decide, Try.func91.trans (congrArg some (by kernel_rfl))⟩
  f22 := ⟨Try.f92.name, by decide, Try.func92.trans (congrArg some (by kernel_rfl))⟩
  f23 := ⟨Try.f93.name, by decide, Try.func93.trans (congrArg some (by kernel_rfl))⟩
  f24 := ⟨Try.f94.name, by decide, Try.func94.trans (congrArg some (by kernel_rfl))⟩
  f25 := ⟨Try.f95.name, by decide, Try.func95.trans (congrArg some (by kernel_rfl))⟩
  f26 := ⟨Try.f96.name, by decide, Try.func96.trans (congrArg some (by kernel_rfl))⟩
  f27 := ⟨Try.f97.name, by decide, Try.func97.trans (congrArg some (by kernel_rfl))⟩
  f28 := Try.func98.trans (congrArg some (by kernel_rfl))
  f29 := Try.func99.trans (congrArg some (by kernel_rfl))
  f46 := ⟨Try.f101.name, by decide, Try.func101.trans (congrArg some (by kernel_rfl))⟩
  f47 := Try.func102.trans (congrArg some (by kernel_rfl))
  f48 := Try.func103.trans (congrArg some (by kernel_rfl))
  f49 := ⟨Try.f104.name, by decide, Try.func104.trans (congrArg some (by kernel_rfl))⟩
  f50 := ⟨Try.f105.name, by decide, Try.func105.trans (congrArg some (by kernel_rfl))⟩
  f57 := ⟨Try.f106.name, by decide, Try.func106.trans (congrArg some (by kernel_rfl))⟩
  t0 := Try.underlying0
  a0 := Try.isAgg0
  z0 := Try.sizeOf0
  v0 := Try.zeroValue0
  t3 := Try.underlying3
  a3 := Try.isAgg3
  z3 := Try.sizeOf3
  v3 := Try.zeroValue3
  t4 := Try.underlying4
  a4 := Try.isAgg4
  z4 := Try.sizeOf4
  v4 := Try.zeroValue4
  t5 := Try.underlying5
  a5 := Try.isAgg5
  z5 := Try.sizeOf5
  v5 := Try.zeroValue5
  t9 := Try.underlying9
  a9 := Try.isAgg9
  z9 := Try.sizeOf9
  v9 := Try.zeroValue9
  t22 := Try.underlying32
  a22 := Try.isAgg32
  z22 := Try.sizeOf32
  v22 := Try.zeroValue32
  t25 := Try.underlying104
  a25 := Try.isAgg104
  z25 := Try.sizeOf104
  v25 := Try.zeroValue104
  t39 := Try.underlying123
  a39 := Try.isAgg123
  z39 := Try.sizeOf123
  v39 := Try.zeroValue123
  t45 := Try.underlying142
  a45 := Try.isAgg142
  z45 := Try.sizeOf142
  v45 := Try.zeroValue142
  t46 := Try.underlying143
  a46 := Try.isAgg143
  z46 := Try.sizeOf143
  v46 := Try.zeroValue143
  t50 := Try.underlying147
  a50 := Try.isAgg147
  z50 := Try.sizeOf147
  v50 := Try.zeroValue147
  t53 := Try.underlying133
  a53 := Try.isAgg133
  z53 := Try.sizeOf133
  v53 := Try.zeroValue133
  t55 := Try.underlying136
  a55 := Try.isAgg136
  z55 := Try.sizeOf136
  v55 := Try.zeroValue136
  t66 := Try.underlying152
  a66 := Try.isAgg152
  z66 := Try.sizeOf152
  v66 := Try.zeroValue152
  t70 := Try.underlying156
  a70 := Try.isAgg156
  z70 := Try.sizeOf156
  v70 := Try.zeroValue156
  t76 := Try.underlying158
  a76 := Try.isAgg158
  z76 := Try.sizeOf158
  v76 := Try.zeroValue158
  t77 := Try.underlying159
  a77 := Try.isAgg159
  z77 := Try.sizeOf159
  v77 := Try.zeroValue159 }
end Go.Proofs
set_option linter.unusedSimpArgs false
set_option linter.unusedVariables false
namespace Go.Fx
open Go Go.RowKit Go.Shelf Go.Proofs Go.Sort
theorem Mw {β:Type} {enc:β→List Value} {k:Nat} (hk:∀x,(enc x).length=k):∀(l:List β) (t:Nat),t<l.length*k→(l.flatMap enc)[t]?=(l[t / k]?).bind fun x=>(enc x)[t % k]?
  |[],t,h=>by simp at h
  |x::l,t,h=>by
    have k0 : 0 < k := by rcases Nat.eq_zero_or_pos k with e | e; · subst e; simp at h
                          · exact e
    rw [List.flatMap_cons]
    by_cases ht:t<k
    · rw [List.getElem?_append_left (by rw [hk];exact ht),Nat.div_eq_of_lt ht,Nat.mod_eq_of_lt ht];rfl
    · have e1 : t / k = (t - k) / k + 1 := by rw [← Nat.add_div_right _ k0]; congr 1; omega
      have e2:t % k=(t - k) % k:=by rw [Nat.mod_eq_sub_mod (by omega)]
      rw [List.getElem?_append_right (by rw [hk];omega),hk,e1,e2,List.getElem?_cons_succ]
      refine Mw hk l (t - k) ?_
      rw [List.length_cons,Nat.add_mul,Nat.one_mul] at h;omega
theorem Mx {β:Type} {enc:β→List Value} {k:Nat} (hk:∀x,(enc x).length=k):∀(l:List β),(l.flatMap enc).length=l.length*k
  |[] =>by simp
  |x::l=>by rw [List.flatMap_cons,List.length_append,hk,Mx hk l,List.length_cons,Nat.add_mul,Nat.one_mul,Nat.add_comm]
theorem Nd {β:Type} [Inhabited β] {enc:β→List Value} {k:Nat} (hk:∀x,(enc x).length=k) (d:Array β):(flatK enc k d).toList=d.toList.flatMap enc:=by
  apply List.ext_getElem?
  intro t
  by_cases h:t<d.size*k
  · have k0 : 0 < k := by rcases Nat.eq_zero_or_pos k with e | e; · subst e; simp at h
                          · exact e
    rw [Mw hk _ t (by simpa using h)]
    have hq:t / k<d.size:=Nat.div_lt_of_lt_mul (by rwa [Nat.mul_comm] at h)
    have hm:t % k<k:=Nat.mod_lt _ k0
    have e1:d.toList[t / k]?=some d[t / k]:=by simp [hq]
    have e2:(enc d[t / k])[t % k]?=some ((enc d[t / k])[t % k]'(by rw [hk];exact hm)):=List.getElem?_eq_getElem _
    rw [e1,Option.bind_some,e2,Array.getElem?_toList,Array.getElem?_eq_getElem (by rw [size_flatK];exact h)]
    have:=get_flatK enc k d t h
    rw [getElem!_pos (flatK enc k d) t (by simpa using h),getElem!_pos d (t / k) hq,getElem!_pos (enc d[t / k]) (t % k) (by rw [hk];exact hm)] at this
    rw [this]
  · rw [List.getElem?_eq_none (by simpa using h),List.getElem?_eq_none (by rw [Mx hk];simpa using h)]
section
variable {α : Type} {q : Rp α} {w w' : World} {O : List Nat}
abbrev TW (q:Rp α) (w:World) (O:List Nat) (xs:List α):={p:List Value × α // q.rd w O p.1 p.2∧p.2∈xs}
theorem Of {xs0:List α} :∀{cs:List Value} {xs:List α},Ej q w O cs xs→(∀x∈xs,x∈xs0)→∃D:List (TW q w O xs0),D.flatMap (fun p=>p.1.1)=cs∧D.map (fun p=>p.1.2)=xs
  |cs,[],h,_=>⟨[],h.symm,rfl⟩
  |cs,x::xs,⟨v1,v2,h1,h2,h3⟩,hx=>by
    obtain⟨D,e1,e2⟩:=Of h3 fun y hy=>hx y (List.mem_cons_of_mem _ hy)
    exact⟨⟨(v1,x),h2,hx x List.mem_cons_self⟩::D,by rw [List.flatMap_cons,e1,h1],by rw [List.map_cons,e2]⟩
theorem Og {xs0:List α} {O':List Nat} (s:∀cs x,q.rd w O cs x→q.rd w' O' cs x):∀D:List (TW q w O xs0),Ej q w' O' (D.flatMap fun p=>p.1.1) (D.map fun p=>p.1.2)
  |[] =>rfl
  |p::D=>⟨p.1.1,D.flatMap fun p=>p.1.1,by rw [List.flatMap_cons],s _ _ p.2.1,Og s D⟩
end
section op
variable {P : Program} {r : Option Nat} {ρ : EX} {w : World} {z : Zx} {O0 : List Nat} {bs : Bi} {V : Value → World → Prop} {d : Option Nat} {ty : TypeId} {pos : String} {aft : Array Edge} {g : Option (Nat × Bool)}
variable {α : Type} [DecidableEq α] {q : Rp α}
theorem ND {F cur:Array Value} {m:Nat} (hF:F.size=m) (hm:m≤cur.size):(Go.Sort.putCells id 0 F cur).toList.take m=F.toList:=by
  subst hF
  apply List.ext_getElem
  · simp [Go.Sort.putCells];omega
  · intro j h1 h2
    have hj:j<F.size:=by simpa using h2
    simp only [List.getElem_take,Array.getElem_toList,Go.Sort.putCells,Array.getElem_mapIdx,Nat.zero_le,Nat.zero_add,true_and,Nat.sub_zero]
    rw [if_pos hj,getElem!_pos F j hj];rfl
theorem SL {ρs:Ren} (L:SlLaysF0.n6 P ρs) {k:Nat} (hq:q.n=k) (aE:∀w,(isAgg (ρs.t 24)).run P w=.ok true w) (zE:∀w,(Go.sizeOf (ρs.t 24)).run P w=.ok k w) {e:TypeId} {f:Nat} {caps:Array Value}
    (hf:∀(args:Array Value) (w:World),(callFunc f args).run P w=.ok (.enter f args) w) (hs:St z O0 w bs) {i c:Nat} {kk:Option Nat} {o:Obj} {a:Option Addr} {xs ys:List α} (hi:bs[i]?=some (kk,o)) (gs:Gs q e w (ks bs O0) a c xs kk o)
    {cmp:α→α→Option Int} (hF:EB P w (ks bs O0) (.func (.func f) #[] caps) (vA q) (vA q) (vI .i64) cmp) (hm:L7 cmp xs=some ys) (hsz:xs.length<4611686018427387904):
    Fn P (ρs.f 6) [.slice a xs.length c,.func (.func f) #[] caps] w fun v w'=>v=.tuple #[]∧∃o',St z O0 w' (bs.set i (kk,o'))∧AB (ks bs O0) w (ks (bs.set i (kk,o')) O0) w'∧Gs q e w' (ks (bs.set i (kk,o')) O0) a c ys kk o':=by
  subst hq
  have hok:Lh cmp xs=true:=by
    unfold L7 at hm;cases h:Lh cmp xs
    · rw [h] at hm;cases hm
    · rfl
  have hys:ys=LY (P7 cmp) xs:=by unfold L7 at hm;rw [hok] at hm;exact(Option.some.inj hm).symm
  obtain⟨T,htot⟩:=Nc.1 hok
  have hset:bs.set i (kk,o)=bs:=by
    obtain⟨h,e⟩:=List.getElem?_eq_some_iff.1 hi
    rw [← e,List.set_getElem_self]
  by_cases hx0:xs=[]
  · subst hx0
    have he:ys=[]:=hys
    subst he
    have:=AnyF.slices_SortFunc_none (P:=P) (ρ:=ρs) L a c (.func (.func f) #[] caps) w
    refine Fn.mono (R:=fun v w'=>v=.tuple #[]∧w'=w) (Fn.of_calls (Calls.mono this ?_)) ?_
    · rintro e w' ⟨rfl,rfl⟩;exact⟨_,rfl,rfl,rfl⟩
    · rintro v w' ⟨rfl, rfl⟩
      exact⟨rfl,o,by rw [hset];exact⟨hs,AB.refl _ _,gs⟩⟩
  · rcases gs with ⟨_, _, h, _⟩ | ⟨bl, cur, rfl, rfl, rfl, g4, g5, g6, g7⟩
    · exact absurd h hx0
    obtain⟨Dl,hD1,hD2⟩:=Of g7 (xs0:=xs) fun x hx=>hx
    have hDlen:Dl.length=xs.length:=by have:=congrArg List.length hD2;simpa using this
    have hne:Dl≠[]:=fun e=>hx0 (by have:=hDlen;rw [e] at this;exact List.length_eq_zero_iff.1 this.symm)
    letI:Inhabited (TW q w (ks bs O0) xs):=⟨Dl.head hne⟩
    obtain⟨D,hD⟩:∃D:Array (TW q w (ks bs O0) xs),D=Dl.toArray:=⟨_,rfl⟩
    have hDs:D.size=xs.length:=by rw [hD];simpa using hDlen
    obtain⟨enc,henc⟩:∃enc:TW q w (ks bs O0) xs→List Value,enc=fun p=>p.1.1:=⟨_,rfl⟩
    have hkl:∀p,(enc p).length=q.n:=fun p=>by rw [henc];exact q.len p.2.1
    obtain⟨cf,hcf⟩:∃cf:TW q w (ks bs O0) xs→TW q w (ks bs O0) xs→Int,cf=fun p p'=>(cmp p.1.2 p'.1.2).getD 0:=⟨_,rfl⟩
    have hlt:∀p p',ltOf cf p p'=P7 cmp p.1.2 p'.1.2:=fun p p'=>by
      unfold ltOf P7;rw [hcf]
      obtain⟨n,hn⟩:=htot p.1.2 p.2.2 p'.1.2 p'.2.2
      simp [hn]
    have hO:Go.Sort.SWO (ltOf cf):=⟨fun p=>by rw [hlt];exact T.irr _ p.2.2,fun p p' p'' k1 k2=>by rw [hlt] at*;exact T.tr _ p.2.2 _ p'.2.2 _ p''.2.2 k1 k2,fun p p' p'' k1 k2=>by rw [hlt] at*;exact T.ntrans p.2.2 p'.2.2 p''.2.2 k1 k2⟩
    have hbl:=hs.get hi
    have hblk:bl<w.heap.size:=hs.lt (List.mem_of_getElem? hi) rfl
    have hmul:xs.length*q.n≤cur.size:=by rw [g4];exact Nat.mul_le_mul_right _ g5
    have hfl:(flatK enc q.n D).toList=cur.toList.take (xs.length*q.n):=by rw [Nd hkl,hD,henc];exact hD1
    have hH:HoldsK enc q.n w bl 0 D:=by
      intro j hj
      rw [size_flatK,hDs] at hj
      have e0:(flatK enc q.n D).toList[j]?=(cur.toList.take (xs.length*q.n))[j]?:=by rw [hfl]
      have e1:(flatK enc q.n D)[j]! =cur[j]'(by omega):=by
        rw [getElem!_pos (flatK enc q.n D) j (by rw [size_flatK,hDs];exact hj)]
        rw [Array.getElem?_toList,Array.getElem?_eq_getElem (by rw [size_flatK,hDs];exact hj),List.getElem?_take,if_pos hj,Array.getElem?_toList,Array.getElem?_eq_getElem (by omega)] at e0
        exact Option.some.inj e0
      rw [e1]
      constructor
      · simp only [World.cell?,hbl,Nat.zero_add,id];simp [show j<cur.size by omega]
      · simp only [World.frozen?,hbl];simp
    have hrow:∀(m:Nat) (os:Array Obj) (dk:Array (TW q w (ks bs O0) xs)),dk.size=D.size→
        HW [bl] w (sortWorldK enc q.n w bl 0 m dk os)∧(sortWorldK enc q.n w bl 0 m dk os).heap[bl]?=some (.cells (Go.Sort.putCells id 0 (flatK enc q.n dk) cur) e (0,0)):=by
      intro m os dk hdk
      have hsz':(Go.Sort.mapBlock (Go.Sort.ahead w m) bl (Go.Sort.putCells id 0 (flatK enc q.n dk))).heap.size=w.heap.size:=by simp [Go.Sort.mapBlock,Go.Sort.ahead]
      constructor
      · refine ⟨rfl, rfl, rfl, ?_, fun k hk hn => ?_, ?_⟩
        · simp only [sortWorldK,putRowK,Go.Sort.grow,Go.Sort.putRow,Array.size_append,hsz'];omega
        · simp only [sortWorldK, putRowK, Go.Sort.grow, Go.Sort.putRow]
          rw [Array.getElem?_append_left (by rw [hsz'];exact hk)]
          simp only [Go.Sort.mapBlock,Go.Sort.ahead,Array.getElem?_modify]
          have: ¬bl=k:=fun e=>hn (by simp [e])
          simp [this]
        · simp only [sortWorldK,putRowK,Go.Sort.grow,Go.Sort.putRow,Go.Sort.mapBlock,Go.Sort.ahead];omega
      · simp only [sortWorldK, putRowK, Go.Sort.grow, Go.Sort.putRow]
        rw [Array.getElem?_append_left (by rw [hsz'];exact hblk)]
        simp only [Go.Sort.mapBlock,Go.Sort.ahead,Array.getElem?_modify,if_true,hbl,Option.map_some,Go.Sort.onCells]
    have hkey:bl∈ks bs O0:=By.2 (.inl (B6.2 ⟨_,List.mem_of_getElem? hi,rfl⟩))
    have hcmp:CmpLays P f caps enc q.n cf bl 0 D.size w:=by
      intro m os dk hdk p p'
      obtain⟨hl1,hl2⟩:=hrow m os dk hdk
      have hst:AB (ks bs O0) w (ks bs O0) (sortWorldK enc q.n w bl 0 m dk os):=AB.of_loc hl1 (by rintro k hk;simp at hk;subst hk;exact hkey) fun k hk=>.inl hk
      obtain⟨n,hn⟩:=htot p.1.2 p.2.2 p'.1.2 p'.2.2
      have:=hF _ _ hst (fun k hk=>Nat.lt_of_lt_of_le (hs.ltw k hk) hl1.size) (.agg p.1.1.toArray) (.agg p'.1.1.toArray) p.1.2 p'.1.2 n ⟨_,rfl,q.step hst p.2.1⟩ ⟨_,rfl,q.step hst p'.2.1⟩ hn
      obtain⟨f',first,cap,hv,_,hfn⟩:=this
      cases hv
      have hc:=hfn.calls
      refine Calls.mono ?_ ?_ (R:=fun e w'=>∃v,e=.returned v∧GH (sortWorldK enc q.n w bl 0 m dk os) w'∧(vI .i64).vd w' (ks bs O0) v n)
      · have e1 : ((#[] : Array Value).toList ++ [Value.agg p.1.1.toArray, Value.agg p'.1.1.toArray] ++ caps.toList).toArray = #[Value.agg (enc p).toArray, Value.agg (enc p').toArray] ++ caps := by rw [henc]; apply Array.ext'; simp
        rw [e1] at hc;exact hc
      · rintro e w' ⟨v, rfl, hx, hv⟩
        refine⟨?_,hx.grow⟩
        have hv':v=.int .i64 n:=hv.1
        rw [hv',hcf];simp [hn]
    have:=AnyQ.slices_SortFunc (P:=P) (ρ:=ρs) L q.n aE zE enc hkl (fun p v hv=>by rw [henc] at hv;exact q.one p.2.1 v hv) cf hO f caps bl 0 c D w hf hcmp hH hblk (by rw [hDs];exact hsz)
    rw [hDs] at this
    refine Fn.of_calls (Calls.mono this ?_)
    rintro e' w' ⟨rfl,d',n,os,hp,hso,rfl⟩
    refine⟨_,rfl,rfl,.cells (Go.Sort.putCells id 0 (flatK enc q.n d') cur) e (0,0),?_⟩
    obtain⟨hd1,_,hd3⟩:=hp
    rw [hDs] at hd1
    obtain⟨hl1,hl2⟩:=hrow n os d' (by rw [hDs];exact hd1)
    have ho:∀j,j<w.heap.size→some bl≠some j→(sortWorldK enc q.n w bl 0 n d' os).heap[j]?=w.heap[j]?:=fun j hj hn=>hl1.block j hj (by simp;rintro rfl;exact hn rfl)
    have hb:=(hs.own _ (List.mem_of_getElem? hi) bl rfl).1
    have hst:AB (ks bs O0) w (ks (bs.set i (some bl,.cells (Go.Sort.putCells id 0 (flatK enc q.n d') cur) e (0,0))) O0) (sortWorldK enc q.n w bl 0 n d' os):=AB.put hi hl1.size (fun j hj=>.inl hj) ho
    refine⟨hs.put hi (hs.below.trans' hl1 (by rintro k hk;simp at hk;subst hk;exact hb)) hl1.size (fun j hj=>by cases hj;exact⟨.inl rfl,hl2⟩) ho,hst,?_⟩
    have hex:d'.extract 0 xs.length=d':=by rw [← hd1];exact Array.extract_size
    have hexD:D.extract 0 xs.length=D:=by rw [← hDs];exact Array.extract_size
    rw [hex,hexD] at hd3
    have hDl:D.toList.map (fun p=>p.1.2)=xs:=by rw [hD];exact hD2
    have hyl:d'.toList.map (fun p=>p.1.2)=ys:=by
      rw [hys]
      refine KV T ?_ ?_
      · have:=hd3.map (fun p:TW q w (ks bs O0) xs=>p.1.2);rwa [hDl] at this
      · rw [List.pairwise_map, List.pairwise_iff_getElem]
        intro j k hj hk hjk
        have hj':j<d'.size:=by simpa using hj
        have hk':k<d'.size:=by simpa using hk
        have:=hso j k (Nat.zero_le _) hjk (by omega)
        rw [hlt,getElem!_pos d' k hk',getElem!_pos d' j hj'] at this
        simpa using this
    have hylen:ys.length=xs.length:=by rw [← hyl];simp [hd1]
    refine .inr ⟨bl,Go.Sort.putCells id 0 (flatK enc q.n d') cur,rfl,rfl,rfl,by simp [Go.Sort.putCells,g4],by omega,g6,?_⟩
    rw [hylen,ND (by rw [size_flatK,hd1]) hmul,Nd hkl,← hyl]
    have:=Og (fun cs x h=>q.step hst h) d'.toList
    have e9:d'.toList.flatMap enc=d'.toList.flatMap fun p=>p.1.1:=by rw [henc]
    rw [e9];exact this
theorem RP {ρs:Ren} {k:FuncId} (L:SlLaysF0.n6 P ρs) (hk:ρs.f 6=k) (hcall:∀(args:Array Value) (w:World),(callFunc k args).run P w=.ok (.enter k args) w) {n:Nat} (hq:q.n=n) (aE:∀w,(isAgg (ρs.t 24)).run P w=.ok true w) (zE:∀w,(Go.sizeOf (ρs.t 24)).run P w=.ok n w) {e:TypeId} {f:Nat} {caps:Array Value}
    (hf:∀(args:Array Value) (w:World),(callFunc f args).run P w=.ok (.enter f args) w) (hs:St z O0 w bs) {i c:Nat} {kk:Option Nat} {o:Obj} {a:Option Addr} {xs ys:List α} (hi:bs[i]?=some (kk,o)) (gs:Gs q e w (ks bs O0) a c xs kk o)
    {cmp:α→α→Option Int} (hF:EB P w (ks bs O0) (.func (.func f) #[] caps) (vA q) (vA q) (vI .i64) cmp) (hm:L7 cmp xs=some ys) (hsz:xs.length<4611686018427387904)
    {args:Array Operand} {us:Array TypeId} (ha:args.toList.map (ev ρ)=[.slice a xs.length c,.func (.func f) #[] caps])
    (kont:∀w' o',St z O0 w' (bs.set i (kk,o'))→AB (ks bs O0) w (ks (bs.set i (kk,o')) O0) w'→Gs q e w' (ks (bs.set i (kk,o')) O0) a c ys kk o'→V (.tuple #[]) w'):
    BQ P r ρ w ⟨d,.call ⟨.value (.func k),args,us⟩,ty,pos,aft,g⟩ V:=by
  refine FT hcall (by rw [← hk];exact SL L hq aE zE hf hs hi gs hF hm hsz) ha ?_
  rintro v w' ⟨rfl,o',h2,h3,h4⟩
  exact kont w' o' h2 h3 h4
end op
end Go.Fx
set_option linter.unusedVariables false
set_option linter.unusedSimpArgs false
set_option maxRecDepth 100000
set_option maxHeartbeats 0
namespace Go.Fx
open Go Go.RowKit Go.Proofs
structure AK where
  airport : Bool
  index : Int
  minute : Int
  deriving Inhabited, DecidableEq
def B2 : Rp AK := M4 (fun d => (d.airport, d.index, d.minute)) (Gc NK (Gc (AM .i64) (AM .i64)))
instance : GT AK := ⟨fun d => [cond d.airport 1 0, d.index, d.minute], fun {a b} h => by
  obtain ⟨a0, a1, a2⟩ := a
  obtain ⟨b0, b1, b2⟩ := b
  cases a0 <;> cases b0 <;> simp at h ⊢ <;> omega⟩
def Jp : Kk AK := ⟨fun d => Value.agg [(Value.bool d.airport), (Value.int .i64 d.index), (Value.int .i64 d.minute)].toArray, fun d => BR .i64 d.index ∧ BR .i64 d.minute⟩
structure Bv where
  cell : AK
  places : Int
  deriving Inhabited, DecidableEq
def FO : Rp Bv := M4 (fun d => (d.cell, d.places)) (Gc B2 (AM .i64))
structure AR where
  delay : Int
  cost : Int
  changes : Int
  uses : List Bv
  deriving Inhabited, DecidableEq
def BL : Rp AR := M4 (fun d => (d.delay, d.cost, d.changes, d.uses)) (Gc (AM .i64) (Gc (AM .i64) (Gc (AM .i64) (BE FO))))
structure AL where
  flight : Int
  node : Int
  leaves : List Int
  choices : List AR
  deriving Inhabited, DecidableEq
def AT : Rp AL := M4 (fun d => (d.flight, d.node, d.leaves, d.choices)) (Gc (AM .i64) (Gc (AM .i64) (Gc (BE (AM .i64)) (BE BL))))
structure A9 where
  cells : List AK
  capacity : List (List Int)
  variables : List AL
  deriving Inhabited, DecidableEq
def Gi : Rp A9 := M4 (fun d => (d.cells, d.capacity, d.variables)) (Gc (BE B2) (Gc (BE (BE (AM .i64))) (BE AT)))
structure A8 where
  leaf : Int
  cell : Int
  deriving Inhabited, DecidableEq
def AO : Rp A8 := M4 (fun d => (d.leaf, d.cell)) (Gc (AM .i64) (AM .i64))
instance : GT A8 := ⟨fun d => [d.leaf, d.cell], fun {a b} h => by
  obtain ⟨a0, a1⟩ := a
  obtain ⟨b0, b1⟩ := b
  simp at h ⊢ <;> omega⟩
def AV : Kk A8 := ⟨fun d => Value.agg [(Value.int .i64 d.leaf), (Value.int .i64 d.cell)].toArray, fun d => BR .i64 d.leaf ∧ BR .i64 d.cell⟩
structure DL where
  p : A9
  uses : List (List (List (A8 × Int)))
  deriving Inhabited, DecidableEq
def KH : Rp DL := M4 (fun d => (d.p, d.uses)) (Gc Gi (BE (BE (JN AV (Hl .i64)))))
structure DM where
  variables : List Int
  bad : List (List (A8 × Bool))
  deriving Inhabited, DecidableEq
def JS : Rp DM := M4 (fun d => (d.variables, d.bad)) (Gc (BE (AM .i64)) (BE (JN AV H5)))
structure AS where
  variables : List Int
  places : List A8
  deriving Inhabited, DecidableEq
def FP : Rp AS := M4 (fun d => (d.variables, d.places)) (Gc (BE (AM .i64)) (BE AO))
theorem Bw : Ty Try.prog 26 (.struct #[{ name := "Cells", type := 22, offset := 0, embedded := false, tag := "", pkgPath := "", byteOffset := 0 }, { name := "Capacity", type := 23, offset := 1, embedded := false, tag := "", pkgPath := "", byteOffset := 24 }, { name := "Variables", type := 24, offset := 2, embedded := false, tag := "", pkgPath := "", byteOffset := 48 }]) 3 72 [(.slice none 0 0), (.slice none 0 0), (.slice none 0 0)] true :=
  ⟨Try.underlying26, ⟨Try.t26, Er Try.type26, rfl, rfl, _, rfl, rfl⟩, Try.isAgg26, rfl⟩
theorem Eo : Ty Try.prog 67 (.struct #[{ name := "Airport", type := 4, offset := 0, embedded := false, tag := "", pkgPath := "", byteOffset := 0 }, { name := "Index", type := 3, offset := 1, embedded := false, tag := "", pkgPath := "", byteOffset := 8 }, { name := "Minute", type := 3, offset := 2, embedded := false, tag := "", pkgPath := "", byteOffset := 16 }]) 3 24 [(.bool false), (.int .i64 0), (.int .i64 0)] true :=
  ⟨Try.underlying67, ⟨Try.t67, Er Try.type67, rfl, rfl, _, rfl, rfl⟩, Try.isAgg67, rfl⟩
theorem GU : Ty Try.prog 76 (.struct #[{ name := "Cell", type := 67, offset := 0, embedded := false, tag := "", pkgPath := "", byteOffset := 0 }, { name := "Places", type := 3, offset := 3, embedded := false, tag := "", pkgPath := "", byteOffset := 24 }]) 4 32 [(.bool false), (.int .i64 0), (.int .i64 0), (.int .i64 0)] true :=
  ⟨Try.underlying76, ⟨Try.t76, Er Try.type76, rfl, rfl, _, rfl, rfl⟩, Try.isAgg76, rfl⟩
theorem HK : Ty Try.prog 56 (.slice 76) 1 24 [(.slice none 0 0)] false :=
  ⟨Try.underlying56, ⟨Try.t56, Er Try.type56, rfl, rfl, _, rfl, rfl⟩, Try.isAgg56, rfl⟩
theorem F1 : Ty Try.prog 22 (.slice 67) 1 24 [(.slice none 0 0)] false :=
  ⟨Try.underlying22, ⟨Try.t22, Er Try.type22, rfl, rfl, _, rfl, rfl⟩, Try.isAgg22, rfl⟩
theorem Bp : Ty Try.prog 31 (.slice 3) 1 24 [(.slice none 0 0)] false :=
  ⟨Try.underlying31, ⟨Try.t31, Er Try.type31, rfl, rfl, _, rfl, rfl⟩, Try.isAgg31, rfl⟩
theorem BD : Ty Try.prog 3 (.int .i64) 1 8 [(.int .i64 0)] false :=
  ⟨Try.underlying3, ⟨Try.t3, Er Try.type3, rfl, rfl, _, rfl, rfl⟩, Try.isAgg3, rfl⟩
theorem CB : Ty Try.prog 23 (.slice 31) 1 24 [(.slice none 0 0)] false :=
  ⟨Try.underlying23, ⟨Try.t23, Er Try.type23, rfl, rfl, _, rfl, rfl⟩, Try.isAgg23, rfl⟩
theorem Gy : Ty Try.prog 58 (.struct #[{ name := "Delay", type := 3, offset := 0, embedded := false, tag := "", pkgPath := "", byteOffset := 0 }, { name := "Cost", type := 3, offset := 1, embedded := false, tag := "", pkgPath := "", byteOffset := 8 }, { name := "Changes", type := 3, offset := 2, embedded := false, tag := "", pkgPath := "", byteOffset := 16 }, { name := "Uses", type := 56, offset := 3, embedded := false, tag := "", pkgPath := "", byteOffset := 24 }]) 4 48 [(.int .i64 0), (.int .i64 0), (.int .i64 0), (.slice none 0 0)] true :=
  ⟨Try.underlying58, ⟨Try.t58, Er Try.type58, rfl, rfl, _, rfl, rfl⟩, Try.isAgg58, rfl⟩
theorem G0 : Ty Try.prog 59 (.slice 58) 1 24 [(.slice none 0 0)] false :=
  ⟨Try.underlying59, ⟨Try.t59, Er Try.type59, rfl, rfl, _, rfl, rfl⟩, Try.isAgg59, rfl⟩
theorem Ex : Ty Try.prog 61 (.struct #[{ name := "Flight", type := 3, offset := 0, embedded := false, tag := "", pkgPath := "", byteOffset := 0 }, { name := "Node", type := 3, offset := 1, embedded := false, tag := "", pkgPath := "", byteOffset := 8 }, { name := "Leaves", type := 31, offset := 2, embedded := false, tag := "", pkgPath := "", byteOffset := 16 }, { name := "Choices", type := 59, offset := 3, embedded := false, tag := "", pkgPath := "", byteOffset := 40 }]) 4 64 [(.int .i64 0), (.int .i64 0), (.slice none 0 0), (.slice none 0 0)] true :=
  ⟨Try.underlying61, ⟨Try.t61, Er Try.type61, rfl, rfl, _, rfl, rfl⟩, Try.isAgg61, rfl⟩
theorem CI : Ty Try.prog 24 (.slice 61) 1 24 [(.slice none 0 0)] false :=
  ⟨Try.underlying24, ⟨Try.t24, Er Try.type24, rfl, rfl, _, rfl, rfl⟩, Try.isAgg24, rfl⟩
theorem Ji : Ty Try.prog 4 .bool 1 1 [(.bool false)] false :=
  ⟨Try.underlying4, ⟨Try.t4, Er Try.type4, rfl, rfl, _, rfl, rfl⟩, Try.isAgg4, rfl⟩
theorem BW : Ty Try.prog 45 (.struct #[{ name := "Leaf", type := 3, offset := 0, embedded := false, tag := "", pkgPath := "", byteOffset := 0 }, { name := "Cell", type := 3, offset := 1, embedded := false, tag := "", pkgPath := "", byteOffset := 8 }]) 2 16 [(.int .i64 0), (.int .i64 0)] true :=
  ⟨Try.underlying45, ⟨Try.t45, Er Try.type45, rfl, rfl, _, rfl, rfl⟩, Try.isAgg45, rfl⟩
theorem exPk80 : ∃ s : String, Ty Try.prog 80 (.struct #[{ name := "p", type := 26, offset := 0, embedded := false, tag := "", pkgPath := s, byteOffset := 0 }, { name := "uses", type := 78, offset := 3, embedded := false, tag := "", pkgPath := s, byteOffset := 72 }]) 4 96 [(.slice none 0 0), (.slice none 0 0), (.slice none 0 0), (.slice none 0 0)] true := ⟨_,⟨Try.underlying80, ⟨Try.t80, Er Try.type80, rfl, rfl, _, rfl, rfl⟩, Try.isAgg80, rfl⟩⟩
noncomputable def pathPk80 : String := exPk80.choose
theorem Li : Ty Try.prog 80 (.struct #[{ name := "p", type := 26, offset := 0, embedded := false, tag := "", pkgPath := pathPk80, byteOffset := 0 }, { name := "uses", type := 78, offset := 3, embedded := false, tag := "", pkgPath := pathPk80, byteOffset := 72 }]) 4 96 [(.slice none 0 0), (.slice none 0 0), (.slice none 0 0), (.slice none 0 0)] true := exPk80.choose_spec
theorem Nf : Ty Try.prog 114 (.slice 115) 1 24 [(.slice none 0 0)] false :=
  ⟨Try.underlying114, ⟨Try.t114, Er Try.type114, rfl, rfl, _, rfl, rfl⟩, Try.isAgg114, rfl⟩
theorem KW : Ty Try.prog 115 (.map 45 3) 1 8 [(.map none)] false :=
  ⟨Try.underlying115, ⟨Try.t115, Er Try.type115, rfl, rfl, _, rfl, rfl⟩, Try.isAgg115, rfl⟩
theorem OV : Ty Try.prog 78 (.slice 114) 1 24 [(.slice none 0 0)] false :=
  ⟨Try.underlying78, ⟨Try.t78, Er Try.type78, rfl, rfl, _, rfl, rfl⟩, Try.isAgg78, rfl⟩
theorem P9 : Ty Try.prog 117 (.func #[31] #[4] false) 1 8 [.nilFunc] false :=
  ⟨Try.underlying117, ⟨Try.t117, Er Try.type117, rfl, rfl, _, rfl, rfl⟩, Try.isAgg117, rfl⟩
theorem QO : Ty Try.prog 118 (.func #[3, 3] #[4] false) 1 8 [.nilFunc] false :=
  ⟨Try.underlying118, ⟨Try.t118, Er Try.type118, rfl, rfl, _, rfl, rfl⟩, Try.isAgg118, rfl⟩
theorem exPk86 : ∃ s : String, Ty Try.prog 86 (.struct #[{ name := "variables", type := 31, offset := 0, embedded := false, tag := "", pkgPath := s, byteOffset := 0 }, { name := "bad", type := 84, offset := 1, embedded := false, tag := "", pkgPath := s, byteOffset := 24 }]) 2 48 [(.slice none 0 0), (.slice none 0 0)] true := ⟨_,⟨Try.underlying86, ⟨Try.t86, Er Try.type86, rfl, rfl, _, rfl, rfl⟩, Try.isAgg86, rfl⟩⟩
noncomputable def pathPk86 : String := exPk86.choose
theorem Kw : Ty Try.prog 86 (.struct #[{ name := "variables", type := 31, offset := 0, embedded := false, tag := "", pkgPath := pathPk86, byteOffset := 0 }, { name := "bad", type := 84, offset := 1, embedded := false, tag := "", pkgPath := pathPk86, byteOffset := 24 }]) 2 48 [(.slice none 0 0), (.slice none 0 0)] true := exPk86.choose_spec
theorem Ma : Ty Try.prog 84 (.slice 98) 1 24 [(.slice none 0 0)] false :=
  ⟨Try.underlying84, ⟨Try.t84, Er Try.type84, rfl, rfl, _, rfl, rfl⟩, Try.isAgg84, rfl⟩
theorem Lj : Ty Try.prog 98 (.map 45 4) 1 8 [(.map none)] false :=
  ⟨Try.underlying98, ⟨Try.t98, Er Try.type98, rfl, rfl, _, rfl, rfl⟩, Try.isAgg98, rfl⟩
theorem Wh : Ty Try.prog 101 (.func #[98] #[4] false) 1 8 [.nilFunc] false :=
  ⟨Try.underlying101, ⟨Try.t101, Er Try.type101, rfl, rfl, _, rfl, rfl⟩, Try.isAgg101, rfl⟩
theorem OW : Ty Try.prog 82 (.slice 86) 1 24 [(.slice none 0 0)] false :=
  ⟨Try.underlying82, ⟨Try.t82, Er Try.type82, rfl, rfl, _, rfl, rfl⟩, Try.isAgg82, rfl⟩
theorem Ep : Ty Try.prog 32 (.slice 45) 1 24 [(.slice none 0 0)] false :=
  ⟨Try.underlying32, ⟨Try.t32, Er Try.type32, rfl, rfl, _, rfl, rfl⟩, Try.isAgg32, rfl⟩
theorem Dq : Ty Try.prog 34 (.struct #[{ name := "Variables", type := 31, offset := 0, embedded := false, tag := "", pkgPath := "", byteOffset := 0 }, { name := "Places", type := 32, offset := 1, embedded := false, tag := "", pkgPath := "", byteOffset := 24 }]) 2 48 [(.slice none 0 0), (.slice none 0 0)] true :=
  ⟨Try.underlying34, ⟨Try.t34, Er Try.type34, rfl, rfl, _, rfl, rfl⟩, Try.isAgg34, rfl⟩
theorem Ki : Ty Try.prog 29 (.int .i64) 1 8 [(.int .i64 0)] false :=
  ⟨Try.underlying29, ⟨Try.t29, Er Try.type29, rfl, rfl, _, rfl, rfl⟩, Try.isAgg29, rfl⟩
theorem Wi : JI Try.prog #[{ name := "Airport", type := 4, offset := 0, embedded := false, tag := "", pkgPath := "", byteOffset := 0 }, { name := "Index", type := 3, offset := 1, embedded := false, tag := "", pkgPath := "", byteOffset := 8 }, { name := "Minute", type := 3, offset := 2, embedded := false, tag := "", pkgPath := "", byteOffset := 16 }] [(0, 1), (1, 1), (2, 1)] := fun w => by simp [Ji.runSize, BD.runSize, BD.runSize]
theorem Vc : JI Try.prog #[{ name := "Cell", type := 67, offset := 0, embedded := false, tag := "", pkgPath := "", byteOffset := 0 }, { name := "Places", type := 3, offset := 3, embedded := false, tag := "", pkgPath := "", byteOffset := 24 }] [(0, 3), (3, 1)] := fun w => by simp [Eo.runSize, BD.runSize]
theorem SM : JI Try.prog #[{ name := "Cells", type := 22, offset := 0, embedded := false, tag := "", pkgPath := "", byteOffset := 0 }, { name := "Capacity", type := 23, offset := 1, embedded := false, tag := "", pkgPath := "", byteOffset := 24 }, { name := "Variables", type := 24, offset := 2, embedded := false, tag := "", pkgPath := "", byteOffset := 48 }] [(0, 1), (1, 1), (2, 1)] := fun w => by simp [F1.runSize, CB.runSize, CI.runSize]
theorem Vd : JI Try.prog #[{ name := "Delay", type := 3, offset := 0, embedded := false, tag := "", pkgPath := "", byteOffset := 0 }, { name := "Cost", type := 3, offset := 1, embedded := false, tag := "", pkgPath := "", byteOffset := 8 }, { name := "Changes", type := 3, offset := 2, embedded := false, tag := "", pkgPath := "", byteOffset := 16 }, { name := "Uses", type := 56, offset := 3, embedded := false, tag := "", pkgPath := "", byteOffset := 24 }] [(0, 1), (1, 1), (2, 1), (3, 1)] := fun w => by simp [BD.runSize, BD.runSize, BD.runSize, HK.runSize]
theorem Wj : JI Try.prog #[{ name := "Flight", type := 3, offset := 0, embedded := false, tag := "", pkgPath := "", byteOffset := 0 }, { name := "Node", type := 3, offset := 1, embedded := false, tag := "", pkgPath := "", byteOffset := 8 }, { name := "Leaves", type := 31, offset := 2, embedded := false, tag := "", pkgPath := "", byteOffset := 16 }, { name := "Choices", type := 59, offset := 3, embedded := false, tag := "", pkgPath := "", byteOffset := 40 }] [(0, 1), (1, 1), (2, 1), (3, 1)] := fun w => by simp [BD.runSize, BD.runSize, Bp.runSize, G0.runSize]
theorem Ve : JI Try.prog #[{ name := "Leaf", type := 3, offset := 0, embedded := false, tag := "", pkgPath := "", byteOffset := 0 }, { name := "Cell", type := 3, offset := 1, embedded := false, tag := "", pkgPath := "", byteOffset := 8 }] [(0, 1), (1, 1)] := fun w => by simp [BD.runSize, BD.runSize]
theorem pl86 : JI Try.prog #[{ name := "variables", type := 31, offset := 0, embedded := false, tag := "", pkgPath := pathPk86, byteOffset := 0 }, { name := "bad", type := 84, offset := 1, embedded := false, tag := "", pkgPath := pathPk86, byteOffset := 24 }] [(0, 1), (1, 1)] := fun w => by simp [Bp.runSize, Ma.runSize]
theorem NE : JI Try.prog #[{ name := "Variables", type := 31, offset := 0, embedded := false, tag := "", pkgPath := "", byteOffset := 0 }, { name := "Places", type := 32, offset := 1, embedded := false, tag := "", pkgPath := "", byteOffset := 24 }] [(0, 1), (1, 1)] := fun w => by simp [Bp.runSize, Ep.runSize]
theorem Uq (d : Nat) (a b : AK) : ∀ w, (Op.equalIn (d + 2) 67 (.agg [(Value.bool a.airport), (Value.int .i64 a.index), (Value.int .i64 a.minute)].toArray) (.agg [(Value.bool b.airport), (Value.int .i64 b.index), (Value.int .i64 b.minute)].toArray)).run Try.prog w = .ok (decide (a = b)) w := fun w => by
  refine (Od (d := d + 1) Try.underlying67 (by kernel_rfl) (RJ.cons (by decide) (Bq Ji rfl) (Bq Ji rfl) (TL (d := d + 0) Try.underlying4 a.airport b.airport) (RJ.cons (by decide) (Bq BD rfl) (Bq BD rfl) (OT (d := d + 0) Try.underlying3 a.index b.index) (RJ.cons (by decide) (Bq BD rfl) (Bq BD rfl) (OT (d := d + 0) Try.underlying3 a.minute b.minute) RJ.nil))) w).trans ?_
  congr 1
  rw [Bool.eq_iff_iff]
  obtain ⟨a0, a1, a2⟩ := a
  obtain ⟨b0, b1, b2⟩ := b
  simp [List.all_cons, and_assoc]
theorem Wk : Try.prog.eqGuardType Try.prog.depth 67 = false := by kernel_rfl
theorem SN (d : Nat) (a b : A8) : ∀ w, (Op.equalIn (d + 2) 45 (.agg [(Value.int .i64 a.leaf), (Value.int .i64 a.cell)].toArray) (.agg [(Value.int .i64 b.leaf), (Value.int .i64 b.cell)].toArray)).run Try.prog w = .ok (decide (a = b)) w := fun w => by
  refine (Od (d := d + 1) Try.underlying45 (by kernel_rfl) (RJ.cons (by decide) (Bq BD rfl) (Bq BD rfl) (OT (d := d + 0) Try.underlying3 a.leaf b.leaf) (RJ.cons (by decide) (Bq BD rfl) (Bq BD rfl) (OT (d := d + 0) Try.underlying3 a.cell b.cell) RJ.nil)) w).trans ?_
  congr 1
  rw [Bool.eq_iff_iff]
  obtain ⟨a0, a1⟩ := a
  obtain ⟨b0, b1⟩ := b
  simp [List.all_cons, and_assoc]
theorem Ur : Try.prog.eqGuardType Try.prog.depth 45 = false := by kernel_rfl
theorem QQ : N8 Try.prog 67 Jp := N8.agg Try.underlying67 (fun _ => ⟨_, rfl⟩) (fun w e a => Oe (d := 9999) Try.underlying67 (SC.cons (by decide) (Bq Ji rfl) (TN (d := 9998) Try.underlying4 a.airport) (SC.cons (by decide) (Bq BD rfl) (OU (d := 9998) Try.underlying3 a.index) (SC.cons (by decide) (Bq BD rfl) (OU (d := 9998) Try.underlying3 a.minute) SC.nil))) w) (fun w a b => Uq 9998 a b w)
  (fun a => by show Instr.sameBits (9999 + 1) (Value.agg _) (Value.agg _) = true; simp [Instr.sameBits]) (fun {a b} h => by
  obtain ⟨a0, a1, a2⟩ := a
  obtain ⟨b0, b1, b2⟩ := b
  simpa [Jp] using h)
theorem Is : N8 Try.prog 45 AV := N8.agg Try.underlying45 (fun _ => ⟨_, rfl⟩) (fun w e a => Oe (d := 9999) Try.underlying45 (SC.cons (by decide) (Bq BD rfl) (OU (d := 9998) Try.underlying3 a.leaf) (SC.cons (by decide) (Bq BD rfl) (OU (d := 9998) Try.underlying3 a.cell) SC.nil)) w) (fun w a b => SN 9998 a b w)
  (fun a => by show Instr.sameBits (9999 + 1) (Value.agg _) (Value.agg _) = true; simp [Instr.sameBits]) (fun {a b} h => by
  obtain ⟨a0, a1⟩ := a
  obtain ⟨b0, b1⟩ := b
  simpa [AV] using h)

abbrev gt {α : Type} [Inhabited α] (l : List α) (i : Int) : α := l.getD i.toNat default
theorem EG : BR .i64 0 := by decide
theorem MC : BR .i64 1 := by decide
theorem Av {α : Sort _} {a : α} : a = a := rfl
abbrev wq (i : Int) : Int := IntKind.wrap .i64 i
abbrev C0 (p : A9) (a : Option Addr) (b : Nat) (c : Option Addr) (d : Nat) (e : Option Addr) (f : Nat) : List Value := [Sl a p.cells b, Sl c p.capacity d, Sl e p.variables f]
end Go.Fx
namespace Go.Fx
open Go Go.Proofs Go.ChangeShapes Go.WideShapes Go.ChangeAt Go.RowKit Go.Fx
open Go.ChangeMaps (open_string shut_string)
set_option linter.unusedVariables false
set_option maxRecDepth 100000
theorem rd4 {H : Type} {enc : TypeId × Value → H} {w : World} {base : Nat} {spare : Nat → Bool} {held : Bool} : Rd enc Try.prog w base spare held 4 NK SmT := TG Try.underlying4 (by kernel_rfl)
theorem TY {H : Type} {enc : TypeId × Value → H} {w : World} {base : Nat} {spare : Nat → Bool} {held : Bool} : Rd enc Try.prog w base spare held 3 (AM .i64) (BR .i64) := UW Try.underlying3 (by kernel_rfl)
def L8 (d : AK) : Prop := SmT d.airport ∧ (BR .i64) d.index ∧ (BR .i64) d.minute
theorem Wl {H : Type} {enc : TypeId × Value → H} {w : World} {base : Nat} {spare : Nat → Bool} {held : Bool} : Rd enc Try.prog w base spare held 67 B2 L8 := by
  refine ⟨by kernel_rfl, fun fuel cs y h => ?_⟩
  obtain ⟨xs, n, _, hy, hl, hlen, hf⟩ := DataW.trod_struct Try.underlying67 h
  obtain ⟨x0, h0, s0⟩ := PZ Try.underlying67 hf hlen hy (i := 0) rfl rd4
  obtain ⟨x1, h1, s1⟩ := PZ Try.underlying67 hf hlen hy (i := 1) rfl TY
  obtain ⟨x2, h2, s2⟩ := PZ Try.underlying67 hf hlen hy (i := 2) rfl TY
  have hc : Try.prog.cellsOf 67 = 3 := by kernel_rfl
  refine ⟨⟨x0, x1, x2⟩, ?_, fun hw => ⟨s0 hw, s1 hw, s2 hw⟩⟩
  exact MS (q := (Gc NK (Gc (AM .i64) (AM .i64)))) (HF h0 (HF h1 h2)) (hl.trans hc)
theorem rd22 {H : Type} {enc : TypeId × Value → H} {w : World} {base : Nat} {spare : Nat → Bool} {held : Bool} : Rd enc Try.prog w base spare held 22 (BE B2) (OJ L8) := J5 Try.underlying22 (by kernel_rfl) (by decide) (of_decide_eq_true (by kernel_rfl)) Wl
theorem Wm {H : Type} {enc : TypeId × Value → H} {w : World} {base : Nat} {spare : Nat → Bool} {held : Bool} : Rd enc Try.prog w base spare held 31 (BE (AM .i64)) (OJ (BR .i64)) := J5 Try.underlying31 (by kernel_rfl) (by decide) (of_decide_eq_true (by kernel_rfl)) TY
theorem rd23 {H : Type} {enc : TypeId × Value → H} {w : World} {base : Nat} {spare : Nat → Bool} {held : Bool} : Rd enc Try.prog w base spare held 23 (BE (BE (AM .i64))) (OJ (OJ (BR .i64))) := J5 Try.underlying23 (by kernel_rfl) (by decide) (of_decide_eq_true (by kernel_rfl)) Wm
def Qt (d : Bv) : Prop := L8 d.cell ∧ (BR .i64) d.places
theorem rd76 {H : Type} {enc : TypeId × Value → H} {w : World} {base : Nat} {spare : Nat → Bool} {held : Bool} : Rd enc Try.prog w base spare held 76 FO Qt := by
  refine ⟨by kernel_rfl, fun fuel cs y h => ?_⟩
  obtain ⟨xs, n, _, hy, hl, hlen, hf⟩ := DataW.trod_struct Try.underlying76 h
  obtain ⟨x0, h0, s0⟩ := PZ Try.underlying76 hf hlen hy (i := 0) rfl Wl
  obtain ⟨x1, h1, s1⟩ := PZ Try.underlying76 hf hlen hy (i := 1) rfl TY
  have hc : Try.prog.cellsOf 76 = 4 := by kernel_rfl
  refine ⟨⟨x0, x1⟩, ?_, fun hw => ⟨s0 hw, s1 hw⟩⟩
  exact MS (q := (Gc B2 (AM .i64))) (HF h0 h1) (hl.trans hc)
theorem rd56 {H : Type} {enc : TypeId × Value → H} {w : World} {base : Nat} {spare : Nat → Bool} {held : Bool} : Rd enc Try.prog w base spare held 56 (BE FO) (OJ Qt) := J5 Try.underlying56 (by kernel_rfl) (by decide) (of_decide_eq_true (by kernel_rfl)) rd76
def Mb (d : AR) : Prop := (BR .i64) d.delay ∧ (BR .i64) d.cost ∧ (BR .i64) d.changes ∧ (OJ Qt) d.uses
theorem rd58 {H : Type} {enc : TypeId × Value → H} {w : World} {base : Nat} {spare : Nat → Bool} {held : Bool} : Rd enc Try.prog w base spare held 58 BL Mb := by
  refine ⟨by kernel_rfl, fun fuel cs y h => ?_⟩
  obtain ⟨xs, n, _, hy, hl, hlen, hf⟩ := DataW.trod_struct Try.underlying58 h
  obtain ⟨x0, h0, s0⟩ := PZ Try.underlying58 hf hlen hy (i := 0) rfl TY
  obtain ⟨x1, h1, s1⟩ := PZ Try.underlying58 hf hlen hy (i := 1) rfl TY
  obtain ⟨x2, h2, s2⟩ := PZ Try.underlying58 hf hlen hy (i := 2) rfl TY
  obtain ⟨x3, h3, s3⟩ := PZ Try.underlying58 hf hlen hy (i := 3) rfl rd56
  have hc : Try.prog.cellsOf 58 = 4 := by kernel_rfl
  refine ⟨⟨x0, x1, x2, x3⟩, ?_, fun hw => ⟨s0 hw, s1 hw, s2 hw, s3 hw⟩⟩
  exact MS (q := (Gc (AM .i64) (Gc (AM .i64) (Gc (AM .i64) (BE FO))))) (HF h0 (HF h1 (HF h2 h3))) (hl.trans hc)
theorem rd59 {H : Type} {enc : TypeId × Value → H} {w : World} {base : Nat} {spare : Nat → Bool} {held : Bool} : Rd enc Try.prog w base spare held 59 (BE BL) (OJ Mb) := J5 Try.underlying59 (by kernel_rfl) (by decide) (of_decide_eq_true (by kernel_rfl)) rd58
def It (d : AL) : Prop := (BR .i64) d.flight ∧ (BR .i64) d.node ∧ (OJ (BR .i64)) d.leaves ∧ (OJ Mb) d.choices
theorem rd61 {H : Type} {enc : TypeId × Value → H} {w : World} {base : Nat} {spare : Nat → Bool} {held : Bool} : Rd enc Try.prog w base spare held 61 AT It := by
  refine ⟨by kernel_rfl, fun fuel cs y h => ?_⟩
  obtain ⟨xs, n, _, hy, hl, hlen, hf⟩ := DataW.trod_struct Try.underlying61 h
  obtain ⟨x0, h0, s0⟩ := PZ Try.underlying61 hf hlen hy (i := 0) rfl TY
  obtain ⟨x1, h1, s1⟩ := PZ Try.underlying61 hf hlen hy (i := 1) rfl TY
  obtain ⟨x2, h2, s2⟩ := PZ Try.underlying61 hf hlen hy (i := 2) rfl Wm
  obtain ⟨x3, h3, s3⟩ := PZ Try.underlying61 hf hlen hy (i := 3) rfl rd59
  have hc : Try.prog.cellsOf 61 = 4 := by kernel_rfl
  refine ⟨⟨x0, x1, x2, x3⟩, ?_, fun hw => ⟨s0 hw, s1 hw, s2 hw, s3 hw⟩⟩
  exact MS (q := (Gc (AM .i64) (Gc (AM .i64) (Gc (BE (AM .i64)) (BE BL))))) (HF h0 (HF h1 (HF h2 h3))) (hl.trans hc)
theorem rd24 {H : Type} {enc : TypeId × Value → H} {w : World} {base : Nat} {spare : Nat → Bool} {held : Bool} : Rd enc Try.prog w base spare held 24 (BE AT) (OJ It) := J5 Try.underlying24 (by kernel_rfl) (by decide) (of_decide_eq_true (by kernel_rfl)) rd61
def CC (d : A9) : Prop := (OJ L8) d.cells ∧ (OJ (OJ (BR .i64))) d.capacity ∧ (OJ It) d.variables
theorem rd26 {H : Type} {enc : TypeId × Value → H} {w : World} {base : Nat} {spare : Nat → Bool} {held : Bool} : Rd enc Try.prog w base spare held 26 Gi CC := by
  refine ⟨by kernel_rfl, fun fuel cs y h => ?_⟩
  obtain ⟨xs, n, _, hy, hl, hlen, hf⟩ := DataW.trod_struct Try.underlying26 h
  obtain ⟨x0, h0, s0⟩ := PZ Try.underlying26 hf hlen hy (i := 0) rfl rd22
  obtain ⟨x1, h1, s1⟩ := PZ Try.underlying26 hf hlen hy (i := 1) rfl rd23
  obtain ⟨x2, h2, s2⟩ := PZ Try.underlying26 hf hlen hy (i := 2) rfl rd24
  have hc : Try.prog.cellsOf 26 = 3 := by kernel_rfl
  refine ⟨⟨x0, x1, x2⟩, ?_, fun hw => ⟨s0 hw, s1 hw, s2 hw⟩⟩
  exact MS (q := (Gc (BE B2) (Gc (BE (BE (AM .i64))) (BE AT)))) (HF h0 (HF h1 h2)) (hl.trans hc)
def SO (d : A8) : Prop := (BR .i64) d.leaf ∧ (BR .i64) d.cell
def Ie (d : AS) : Prop := (OJ (BR .i64)) d.variables ∧ (OJ SO) d.places
end Go.Fx
set_option linter.unusedVariables false
set_option linter.unusedSimpArgs false
set_option maxRecDepth 100000
set_option maxHeartbeats 0
namespace Go.Fx
open Go Go.RowKit Go.Proofs
def Dd (n:Int) (lo:Int) (hi:Int):Option Bool:=
 bif (decide (lo≤n)) then
  some (decide (n≤hi))
 else
  some false

theorem EH {w:World} {O:List Nat} {n:Int} {lo:Int} {hi:Int} (hO:∀k∈O,k<w.heap.size) (Ra:BR .i64 n) (Rb:BR .i64 lo) (Rc:BR .i64 hi) {x:Bool} (A:Dd n lo hi=some x):
 Ok Try.prog 33 [Iv n,Iv lo,Iv hi] w O vB x:=by
 unfold Dd at A
 refine Bt (n:=15) (xs:=[.tmp 6]) Try.func33 Av Try.ntmps33 Try.results33 Av ?_
 have hs:=St.start hO
 refine Ax<|Aw<|Bn (Bo false) Av<|Ay<|Ax<|Aw<|Be (Iv lo) Av<|Be (Iv n) Av<|AA<|HZ Av Av<|Be (Bo (decide (lo≤n))) Av<|B4 A (fun F A=>?_) (fun F A=>?_)
 refine BN Av Av<|AD (v:=Iv n) Av<|BN Av Av<|AD (v:=Iv hi) Av<|BN Av Av<|HZ Av Av<|FR (Bo (decide (n≤hi))) Av Av<|Bn (Bo (decide (n≤hi))) Av<|Ay<|AY<|⟨_,En,[Bo (decide (n≤hi))],⟨Av,trivial⟩,hs.ext,?_⟩
 exact Vr.eq (a:=vB) (x:=decide (n≤hi)) Av (oi A)
 iterate 3 refine AI Av (AJ Av Av) Av ?_
 refine FF (Bo false) Av Av<|Bn (Bo false) Av<|Ay<|AY<|⟨_,En,[Bo false],⟨Av,trivial⟩,hs.ext,?_⟩
 exact Vr.eq (a:=vB) (x:=false) Av (oi A)

abbrev Wn:List Nat:=[4,5,6,7,8,9,10,11,12,13,14,15,16,17,18,19,20,21,22,23]

def G6 (l:List AK) (less:AK→AK→Option Int) (F:Int→Option Bool) (A:Int):Option Bool:=
 bif (decide (A<(l.length:Int))) then
  ck ((0:Int)≤(IntKind.wrap .i64 (A - 1))∧(IntKind.wrap .i64 (A - 1))<(l.length:Int))<|
  ck ((0:Int)≤A∧A<(l.length:Int))<|
  (less (l.getD (IntKind.wrap .i64 (A - 1)).toNat default) (l.getD A.toNat default)).bind fun G=>
  bif (decide (0≤G)) then
   some false
  else
   F (IntKind.wrap .i64 (A+1))
 else
  some true

def Hw (l:List AK) (less:AK→AK→Option Int):Option Bool:=
 B1 (G6 l less) (((l.length:Int) - 1).toNat+1) 1

theorem NF {w:World} {O:List Nat} {l:List AK} {less:AK→AK→Option Int} {Aa:Option Addr} {Ca:Nat} {v_less:Value} (hO:∀k∈O,k<w.heap.size) (Fa:CA B2 w O Aa Ca l) (F_less:EB Try.prog w O v_less (vA B2) (vA B2) (vI .i64) less) {x:Bool} (F:Hw l less=some x):
 Ok Try.prog 34 [Sl Aa l Ca,v_less] w O vB x:=by
 unfold Hw at F
 refine Bt (n:=24) (xs:=[.tmp 4]) Try.func34 Av Try.ntmps34 Try.results34 Av ?_
 have hs:=St.start hO
 refine Ax<|Aw<|Bn (Bo false) Av<|Ay<|Ax<|Ax<|Aw<|Bn (Iv 1) Av<|Ay<|AE<|Wr [] [(0,Sl Aa l Ca),(1,v_less),(5,Iv 1)] fun a9=>Bh Wn (fun m fr w'=>∃(A:Int) (aC:Bi),aC=[]∧fr [] [(5,Iv A)]∧hs.S (ks aC O) w'∧St ⟨w,[],[]⟩ O w' aC∧BR .i64 A∧B1 (G6 l less) m A=some x) (((l.length:Int) - 1).toNat+1) ⟨1,_,Av,BB.of ⟨Av,trivial⟩,AB.refl _ _,hs,MC,F⟩ ?_ ?_
 rintro _ _ ⟨_,_,_,_,_,_,_,F⟩;exact Dg F
 rintro m6 K5 aP a1 w7 ⟨A,_,rfl,J,M,W,Ra,F⟩
 obtain⟨bA,aI,F⟩:=Dh F;unfold G6 at F
 rw [J.eq];clear J
 have N:=M
 refine Ax<|Ax<|Aw<|Be (Iv A) Av<|Be (Sl Aa l Ca) Av<|AA<|Bd Try.underlying22 Av ?_
 replace Fa:=Fa.step M
 have a2:=Bb Fa
 refine AA<|Bu Av Av<|Ay<|AF F Av (fun aJ F=>?_) (fun aJ F=>?_)
 refine AH<|Ax<|AE<|Ax<|B9 (g0:=[]) (m:=10) (fl:=[]) (Dc W) Av (.inl Av) Av (by decide+kernel) ?_  -- 4
 refine Ba v_less (fun _ _ _ hi G=>AD (v:=v_less) (G 1 Av)<|Gz hi)<|Ba (Sl Aa l Ca) (fun _ _ _ hi G=>AD (v:=Sl Aa l Ca) (G 0 Av)<|Gz hi)<|Ba (Iv A) (fun _ _ _ hi G=>AD (v:=Iv A) (G 5 Av)<|Gz hi)<|Ba (Iv (wq (A - 1))) (fun _ _ _ hi G=>FC (G 14 Av) Av<|Gz hi) ?_
 obtain⟨Z,F⟩:=AG F
 refine Bc (VP _ _ B2 (gt l (wq (A - 1)))) (VP.stab _ _) (fun a3 bB g Q hi G=>?_) ?_
 obtain⟨-,aD,-⟩:=Q
 replace Fa:=Fa.step aD
 refine Az<|AC (q:=B2) F1 Eo (G 13 Av) (G 15 Av) Fa Av Z.1 Z.2 ?_
 intro bC aQ
 exact Bs.same hi ⟨_,Av,aQ⟩
 refine Bc (VD _ _ (vA B2) (gt l (wq (A - 1)))) (VD.stab _ _) (fun a4 bD g Q hi G=>?_) ?_
 obtain⟨bE,aR,aS⟩:=G 16 Av
 refine Az<|BF Eo aR aS Av ?_
 intro a5 aT
 obtain⟨_,_,rfl,rfl,⟨_,_,rfl,⟨rfl,Rb⟩,⟨rfl,Rc⟩⟩⟩:=aT
 exact Bs.same hi (show Vr.vd (vA B2) _ _ _ _ from(Jn (Cz (AU GQ (AU (AW Rb) (AW Rc))))))
 refine Ba (Sl Aa l Ca) (fun _ _ _ hi G=>AD (v:=Sl Aa l Ca) (G 0 Av)<|Gz hi)<|Ba (Iv A) (fun _ _ _ hi G=>AD (v:=Iv A) (G 5 Av)<|Gz hi) ?_
 obtain⟨aA,F⟩:=AG F
 refine Bc (VP _ _ B2 (gt l A)) (VP.stab _ _) (fun a6 bF g Q hi G=>?_) ?_
 obtain⟨-,aD,-⟩:=Q
 replace Fa:=Fa.step aD
 refine Az<|AC (q:=B2) F1 Eo (G 18 Av) (G 19 Av) Fa Av aA.1 aA.2 ?_
 intro bG aU
 exact Bs.same hi ⟨_,Av,aU⟩
 refine Bc (VD _ _ (vA B2) (gt l A)) (VD.stab _ _) (fun a7 bH g Q hi G=>?_) ?_
 obtain⟨bI,aV,aW⟩:=G 20 Av
 refine Az<|BF Eo aV aW Av ?_
 intro a8 aX
 obtain⟨_,_,rfl,rfl,⟨_,_,rfl,⟨rfl,Rd⟩,⟨rfl,Re⟩⟩⟩:=aX
 exact Bs.same hi (show Vr.vd (vA B2) _ _ _ _ from(Jn (Cz (AU GQ (AU (AW Rd) (AW Re))))))
 refine BA fun bJ bK aK aL=>?_
 obtain⟨-,aE,-⟩:=aK
 obtain⟨I,aF⟩:=AB.nx aL
 rintro bL aG
 replace aG:Vr.vd (vA B2) _ _ _ _:=aG
 obtain⟨_,rfl,⟨_,_,rfl,rfl,⟨_,_,rfl,⟨rfl,Rf⟩,⟨rfl,Rg⟩⟩⟩⟩:=aG
 rintro _ ⟨bM,rfl,X⟩ _ rfl _ rfl bN aH
 replace aH:Vr.vd (vA B2) _ _ _ _:=aH
 obtain⟨_,rfl,⟨_,_,rfl,rfl,⟨_,_,rfl,⟨rfl,Rh⟩,⟨rfl,Ri⟩⟩⟩⟩:=aH
 rintro _ ⟨bO,rfl,Y⟩ _ rfl _ rfl _ rfl _ rfl
 have aM:=W.to I (aE.trans aF)
 replace X:=X.step aF;replace Y:=Y.step aF;clear W
 obtain⟨bP,aN,F⟩:=bd F
 replace F_less:=F_less.step (M.trans aM)
 refine AA<|Io Av (F_less.call I.ltw (Jn (Cz (AU GQ (AU (AW Rh) (AW Ri))))) (Jn (Cz (AU GQ (AU (AW Rf) (AW Rg))))) aN) Av ?_
 rintro bQ bR ⟨U,aY⟩
 have aB:=I.call U
 have aZ:=I.stepE U
 clear U
 clear I
 obtain⟨rfl,Rj⟩:=aY
 refine AA<|Hk Av Av<|Ay<|AF F Av (fun aO F=>?_) (fun aO F=>?_)
 refine Ax ?_
 clear Fa F_less X Y
 refine Aw<|Bn (Bo false) Av<|Ay<|AY<|⟨_,En,[Bo false],⟨Av,trivial⟩,aB.ext,?_⟩
 exact Vr.eq (a:=vB) (x:=false) Av (oi F)
 refine AH ?_
 clear X Y
 refine Aw<|Be (Iv A) Av<|AA<|Bm Av Av<|Bn (Iv (wq (A+1))) Av<|Ay ?_
 have a0:=(aM.trans aZ)
 replace N:=N.trans a0
 exact aP _ _ ⟨(wq (A+1)),_,Av,BB.of ⟨Av,trivial⟩,N,aB,(AZ .i64 _),Ed aI F⟩
 refine Br<|Ax ?_
 clear Fa F_less
 refine Aw<|Bn (Bo true) Av<|Ay<|AY<|⟨_,En,[Bo true],⟨Av,trivial⟩,W.ext,?_⟩
 exact Vr.eq (a:=vB) (x:=true) Av (oi F)

def Hx (x_:Int):Option Bool:=
 some (decide (x_≠x_))

theorem KX {w:World} {O:List Nat} {x_:Int} (hO:∀k∈O,k<w.heap.size) (Ra:BR .i64 x_) {x:Bool} (A:Hx x_=some x):
 Ok Try.prog 66 [Iv x_] w O vB x:=by
 unfold Hx at A
 refine Bt (n:=6) (xs:=[.tmp 2]) Try.func66 Av Try.ntmps66 Try.results66 Av ?_
 have hs:=St.start hO
 refine Ax<|Aw<|Bn (Bo false) Av<|Ay<|Ax<|Aw<|Be (Iv x_) Av<|Be (Iv x_) Av<|AA<|FB Av Av<|Bn (Bo (decide (x_≠x_))) Av<|Ay<|AY<|⟨_,En,[Bo (decide (x_≠x_))],⟨Av,trivial⟩,hs.ext,?_⟩
 exact Vr.eq (a:=vB) (x:=decide (x_≠x_)) Av (oi A)

def Db (x_:Int) (y:Int):Option Int:=
 (Hx x_).bind fun F=>
 (Hx y).bind fun A=>
 bif F then
  bif A then
   some 0
  else
   some (-1)
 else
  bif A then
   some 1
  else
   bif (decide (x_<y)) then
    some (-1)
   else
    bif (decide (y<x_)) then
     some 1
    else
     some 0

theorem Ga {w:World} {O:List Nat} {x_:Int} {y:Int} (hO:∀k∈O,k<w.heap.size) (Ra:BR .i64 x_) (Rb:BR .i64 y) {x:Int} (A:Db x_ y=some x):
 Ok Try.prog 39 [Iv x_,Iv y] w O (vI .i64) x:=by
 unfold Db at A
 refine Bt (n:=20) (xs:=[.tmp 4]) Try.func39 Av Try.ntmps39 Try.results39 Av ?_
 have hs:=St.start hO
 refine Ax<|Aw<|Bn (Iv 0) Av<|Ay<|Ax<|Aw<|Be (Iv x_) Av ?_
 obtain⟨I,X,A⟩:=bd A
 refine AA<|Bj hs Try.call66 (KX (x_:=x_) hs.ltw Ra X) Av ?_
 rintro v2 w3 p7 J h5
 obtain rfl:=h5
 refine Bn (Bo I) Av<|Ay<|Ax<|Aw<|Be (Iv y) Av ?_
 obtain⟨F,Y,A⟩:=bd A
 refine AA<|Bj J Try.call66 (KX (x_:=y) J.ltw Rb Y) Av ?_
 rintro aB aC aD G Z
 clear J
 obtain rfl:=Z
 refine Bn (Bo F) Av<|Ay<|Ax<|Ax<|Aw<|Be (Bo I) Av<|Ay<|AF A Av (fun M A=>?_) (fun M A=>?_)
 refine Ax<|Ax<|Aw<|Be (Bo F) Av<|Ay<|AF A Av (fun N A=>?_) (fun N A=>?_)
 refine Ax<|Aw<|Bn (Iv 0) Av<|Ay<|AY<|⟨_,En,[Iv 0],⟨Av,trivial⟩,G.ext,?_⟩
 exact Vr.eq (a:=(vI .i64)) (x:=0) ⟨Av,EG⟩ (oi A)
 refine AH<|Ax<|Aw<|Bn (Iv (-1)) Av<|Ay<|AY<|⟨_,En,[Iv (-1)],⟨Av,trivial⟩,G.ext,?_⟩
 exact Vr.eq (a:=(vI .i64)) (x:=(-1)) ⟨Av,(show BR .i64 (-1) from by decide)⟩ (oi A)
 refine AH<|Ax<|Ax<|Aw<|Be (Bo F) Av<|Ay<|AF A Av (fun Q A=>?_) (fun Q A=>?_)
 refine Ax<|Aw<|Bn (Iv 1) Av<|Ay<|AY<|⟨_,En,[Iv 1],⟨Av,trivial⟩,G.ext,?_⟩
 exact Vr.eq (a:=(vI .i64)) (x:=1) ⟨Av,MC⟩ (oi A)
 refine AH<|Ax<|Ax<|Aw<|Be (Iv x_) Av<|Be (Iv y) Av<|AA<|Bu Av Av<|Ay<|AF A Av (fun U A=>?_) (fun U A=>?_)
 refine Ax<|Aw<|Bn (Iv (-1)) Av<|Ay<|AY<|⟨_,En,[Iv (-1)],⟨Av,trivial⟩,G.ext,?_⟩
 exact Vr.eq (a:=(vI .i64)) (x:=(-1)) ⟨Av,(show BR .i64 (-1) from by decide)⟩ (oi A)
 refine AH<|Ax<|Ax<|Aw<|Be (Iv x_) Av<|Be (Iv y) Av<|AA<|EY Av Av<|Ay<|AF A Av (fun W A=>?_) (fun W A=>?_)
 refine Ax<|Aw<|Bn (Iv 1) Av<|Ay<|AY<|⟨_,En,[Iv 1],⟨Av,trivial⟩,G.ext,?_⟩
 exact Vr.eq (a:=(vI .i64)) (x:=1) ⟨Av,MC⟩ (oi A)
 refine AH<|Ax<|Aw<|Bn (Iv 0) Av<|Ay<|AY<|⟨_,En,[Iv 0],⟨Av,trivial⟩,G.ext,?_⟩
 exact Vr.eq (a:=(vI .i64)) (x:=0) ⟨Av,EG⟩ (oi A)

abbrev Wo:List Nat:=[2,5,8,9,10,11,12,13,14,15,16]

def GP (vals:List Int) (F:Int→Option Int) (A:Int):Option Int:=
 bif (decide (A<(vals.length:Int))) then
  ck ((0:Int)≤A∧A<(vals.length:Int))<|
  bif (decide ((vals.getD A.toNat default)≠0)) then
   some (vals.getD A.toNat default)
  else
   F (IntKind.wrap .i64 (A+1))
 else
  some 0

def If (vals:List Int):Option Int:=
 B1 (GP vals) (((vals.length:Int) - 0).toNat+1) 0

theorem Ng {w:World} {O:List Nat} {vals:List Int} {Aa:Option Addr} {Ca:Nat} (hO:∀k∈O,k<w.heap.size) (Fa:CA (AM .i64) w O Aa Ca vals) {x:Int} (F:If vals=some x):
 Ok Try.prog 64 [Sl Aa vals Ca] w O (vI .i64) x:=by
 unfold If at F
 refine Bt (n:=18) (xs:=[.tmp 2]) Try.func64 Av Try.ntmps64 Try.results64 Av ?_
 have hs:=St.start hO
 refine Ax<|Aw<|Bn (Iv 0) Av<|Ay<|Ax<|Aw<|Bn (Iv 0) Av<|Ay<|Ax<|Ax<|Aw<|Be (Sl Aa vals Ca) Av<|AA<|Bd Try.underlying31 Av ?_
 have aC:=Bb Fa
 refine Be (Iv 0) Av<|Ay<|AE<|Wr [] [(3,Iv 0),(6,Sl Aa vals Ca),(7,Iv (vals.length:Int)),(8,Iv 0)] fun aD=>Bh Wo (fun m fr w'=>∃(A:Int) (M:Bi),M=[]∧fr [] [(8,Iv A)]∧hs.S (ks M O) w'∧St ⟨w,[],[]⟩ O w' M∧BR .i64 A∧B1 (GP vals) m A=some x) (((vals.length:Int) - 0).toNat+1) ⟨0,_,Av,BB.of ⟨Av,trivial⟩,AB.refl _ _,hs,EG,F⟩ ?_ ?_
 rintro _ _ ⟨_,_,_,_,_,_,_,F⟩;exact Dg F
 rintro m7 K6 Z aB w8 ⟨A,_,rfl,G,I,N,Ra,F⟩
 obtain⟨aE,Q,F⟩:=Dh F;unfold GP at F
 rw [G.eq];clear G
 have U:=I
 refine Ax<|Aw<|AA<|Bu Av Av<|Ay<|Ax<|AF F Av (fun W F=>?_) (fun W F=>?_)
 refine AH<|Ax<|AE<|Ax<|Aw ?_
 obtain⟨J,F⟩:=AG F
 replace Fa:=Fa.step I
 refine AA<|AC (q:=(AM .i64)) Bp BD Av Av Fa Av J.1 J.2 ?_
 intro aF X
 refine AA<|AX BD Av X Av ?_
 intro aG aA
 obtain⟨rfl,Rb⟩:=C3 aA
 refine Bn (Iv (gt vals A)) Av<|Ay<|Ax ?_
 clear X
 refine Aw<|Be (Iv (gt vals A)) Av<|Be (Iv 0) Av<|AA<|FB Av Av<|Ay<|AF F Av (fun Y F=>?_) (fun Y F=>?_)
 refine Ax ?_
 clear Fa
 refine Aw<|Be (Iv (gt vals A)) Av<|Bn (Iv (gt vals A)) Av<|Ay<|AY<|⟨_,En,[Iv (gt vals A)],⟨Av,trivial⟩,N.ext,?_⟩
 exact Vr.eq (a:=(vI .i64)) (x:=gt vals A) ⟨Av,Rb⟩ (oi F)
 exact AH<|Aw<|AA<|Bm Av Av<|Be (Iv (wq (A+1))) Av<|Ay<|Z _ _ ⟨(wq (A+1)),_,Av,BB.of ⟨Av,trivial⟩,U,N,(AZ .i64 _),Ed Q F⟩
 refine Br<|Ax ?_
 clear Fa
 refine Aw<|Be (Iv 0) Av<|Bn (Iv 0) Av<|Ay<|AY<|⟨_,En,[Iv 0],⟨Av,trivial⟩,N.ext,?_⟩
 exact Vr.eq (a:=(vI .i64)) (x:=0) ⟨Av,EG⟩ (oi F)

def CL (a:AK) (b:AK):Option Int:=
 bif (!(a.airport == b.airport)) then
  bif b.airport then
   some (-1)
  else
   some 1
 else
  (Db a.index b.index).bind fun A=>
  (Db a.minute b.minute).bind fun F=>
  (If [A,F]).bind fun G=>
  some G

theorem G2 {w:World} {O:List Nat} {a:AK} {b:AK} (hO:∀k∈O,k<w.heap.size) (Ra:BR .i64 a.index) (Rb:BR .i64 a.minute) (Rc:BR .i64 b.index) (Rd:BR .i64 b.minute) {x:Int} (J:CL a b=some x):
 Ok Try.prog 35 [Value.agg [Bo a.airport,Iv a.index,Iv a.minute].toArray,Value.agg [Bo b.airport,Iv b.index,Iv b.minute].toArray] w O (vI .i64) x:=by
 unfold CL at J
 refine Bt (n:=24) (xs:=[.tmp 4]) Try.func35 Av Try.ntmps35 Try.results35 Av ?_
 have hs:=St.start hO
 refine Ax<|Aw<|AA<|BV (cs:=[Bo a.airport,Iv a.index,Iv a.minute]) hs Av Av ?_
 intro b1 w2 _ p3 aA
 refine AA<|BV (cs:=[Bo b.airport,Iv b.index,Iv b.minute]) aA Av Av ?_
 intro b6 w7 _ p8 M
 clear aA
 refine Bn (Iv 0) Av<|Ay<|Ax<|Ax<|Aw<|AA<|AP 0 Eo Av Ji Av Av<|AA<|AQ 1 Ji M Av Av Av<|AA<|AP 0 Eo Av Ji Av Av<|AA<|AQ 0 Ji M Av Av Av<|AA<|Q2 Try.underlying4 Av Av<|Ay<|AF J Av (fun aB J=>?_) (fun aB J=>?_)
 refine Ax<|Ax ?_
 obtain⟨I,aV⟩:=M.sub (bs':=[(some b6,Oc [Bo b.airport,Iv b.index,Iv b.minute] 67)]) (.cons_cons _ (.cons _ List.Sublist.slnil))
 clear M
 refine Aw<|AA<|AP 0 Eo Av Ji Av Av<|AA<|AQ 0 Ji I Av Av Av<|Ay<|AF J Av (fun aC J=>?_) (fun aC J=>?_)
 refine Ax ?_
 obtain⟨aD,aW⟩:=I.sub (bs':=[]) (.cons _ List.Sublist.slnil)
 clear I
 refine Aw<|Bn (Iv (-1)) Av<|Ay<|AY<|⟨_,En,[Iv (-1)],⟨Av,trivial⟩,aD.ext,?_⟩
 exact Vr.eq (a:=(vI .i64)) (x:=(-1)) ⟨Av,(show BR .i64 (-1) from by decide)⟩ (oi J)
 refine AH<|Ax ?_
 obtain⟨aE,aX⟩:=I.sub (bs':=[]) (.cons _ List.Sublist.slnil)
 clear I
 refine Aw<|Bn (Iv 1) Av<|Ay<|AY<|⟨_,En,[Iv 1],⟨Av,trivial⟩,aE.ext,?_⟩
 exact Vr.eq (a:=(vI .i64)) (x:=1) ⟨Av,MC⟩ (oi J)
 refine AH<|Ax<|B9 (g0:=[]) (m:=9) (fl:=[]) (Dc M) Av (.inl Av) Av (by decide+kernel) ?_  -- 5
 refine Ba (Pt b1 1) (fun _ _ _ hi G=>AP 1 Eo Av BD (G 2 Av) Av<|Gz hi)<|Ba (Iv a.index) (fun _ _ _ hi G=>AQ 1 BD (AB.nx hi).1 (G 12 Av) Av Av<|Gz hi)<|Ba (Pt b6 1) (fun _ _ _ hi G=>AP 1 Eo Av BD (G 3 Av) Av<|Gz hi)<|Ba (Iv b.index) (fun _ _ _ hi G=>AQ 0 BD (AB.nx hi).1 (G 14 Av) Av Av<|Gz hi) ?_
 obtain⟨A,aF,J⟩:=bd J
 refine Bc (VD _ _ (vI .i64) A) (VD.stab _ _) (fun aT aY g aZ hi G=>?_) ?_
 refine Az (FT Try.call39 (Ga (O:=ks (Em g++[(some b6,Oc [Bo b.airport,Iv b.index,Iv b.minute] 67),(some b1,Oc [Bo a.airport,Iv a.index,Iv a.minute] 67)]) O) (x_:=a.index) (y:=b.index) hi.ltw Ra Rc aF) (by simp only [List.map,Array.toList,(show ev _ (.tmp 13)=_ from(G 13 Av)),(show ev _ (.tmp 15)=_ from(G 15 Av))]<;> rfl) ?_)
 rintro a0 a1 ⟨aG,aO⟩
 exact Bs.call hi aG aO
 refine Ba (Pt b1 2) (fun _ _ _ hi G=>AP 2 Eo Av BD (G 2 Av) Av<|Gz hi)<|Ba (Iv a.minute) (fun _ _ _ hi G=>AQ 1 BD (AB.nx hi).1 (G 17 Av) Av Av<|Gz hi)<|Ba (Pt b6 2) (fun _ _ _ hi G=>AP 2 Eo Av BD (G 3 Av) Av<|Gz hi)<|Ba (Iv b.minute) (fun _ _ _ hi G=>AQ 0 BD (AB.nx hi).1 (G 19 Av) Av Av<|Gz hi)<|BA fun a2 a3 aH aI=>?_
 obtain⟨-,Y,-⟩:=aH
 obtain⟨N,aP⟩:=AB.nx aI
 rintro _ rfl _ rfl _ rfl _ rfl a4 Z
 replace Z:Vr.vd (vI .i64) _ _ _ _:=Z
 obtain⟨rfl,Re⟩:=Z
 rintro _ rfl _ rfl _ rfl _ rfl
 have a5:=M.to N (Y.trans aP)
 clear M
 obtain⟨F,aJ,J⟩:=bd J
 refine AA<|Bj N Try.call39 (Ga (x_:=a.minute) (y:=b.minute) N.ltw Rb Rd aJ) Av ?_
 rintro a6 a7 a8 W aQ
 clear N
 obtain⟨rfl,Rf⟩:=aQ
 refine AA<|Bf (cs:=[Iv A,Iv F]) (parts:=[(0,.tmp 16),(1,.tmp 21)]) Bp BD W (by decide) Av ?_
 intro a9 bA aU bB X
 clear W
 obtain⟨Q,bC,aR⟩:=St.publish (i:=0) (o:=0) (c:=2) (xs:=[A,F]) X Av (show Ej (AM .i64) _ _ [Iv A,Iv F] [A,F] from⟨_,_,Av,AW Re,⟨_,_,Av,AW Rf,Ej.nil⟩⟩) (BG Av) (BG Av) (BG Av)
 clear X
 obtain⟨U,aK,J⟩:=bd J
 refine AA<|Bj Q Try.call64 (Ng (vals:=[A,F]) Q.ltw aR aK) Av ?_
 rintro bD bE bF aL aS
 clear Q
 obtain⟨rfl,Rg⟩:=aS
 refine Bn (Iv U) Av<|Ay<|AY<|⟨_,En,[Iv U],⟨Av,trivial⟩,aL.ext,?_⟩
 exact Vr.eq (a:=(vI .i64)) (x:=U) ⟨Av,Rg⟩ (oi J)

abbrev Wq:List Nat:=[4,5,8,9,10,11,12,13,14,15,16,17,18]

def BX (s:List Int) (f:Int→Option Bool) (F:Int→Option Int) (A:Int):Option Int:=
 bif (decide (A<(s.length:Int))) then
  ck ((0:Int)≤A∧A<(s.length:Int))<|
  (f (s.getD A.toNat default)).bind fun G=>
  bif G then
   some A
  else
   F (IntKind.wrap .i64 (A+1))
 else
  some (-1)

def EF (s:List Int) (f:Int→Option Bool):Option Int:=
 B1 (BX s f) (((s.length:Int) - 0).toNat+1) 0

theorem I1 {w:World} {O:List Nat} {s:List Int} {f:Int→Option Bool} {Aa:Option Addr} {Ca:Nat} {v_f:Value} (hO:∀k∈O,k<w.heap.size) (Fa:CA (AM .i64) w O Aa Ca s) (F_f:Gt Try.prog w O v_f (vI .i64) vB f) {x:Int} (F:EF s f=some x):
 Ok Try.prog 65 [Sl Aa s Ca,v_f] w O (vI .i64) x:=by
 unfold EF at F
 refine Bt (n:=19) (xs:=[.tmp 4]) Try.func65 Av Try.ntmps65 Try.results65 Av ?_
 have hs:=St.start hO
 refine Ax<|Aw<|Bn (Iv 0) Av<|Ay<|Ax<|Ax<|Aw<|Be (Sl Aa s Ca) Av<|AA<|Bd Try.underlying31 Av ?_
 have aH:=Bb Fa
 refine Be (Iv 0) Av<|Ay<|AE<|Wr [] [(0,Sl Aa s Ca),(1,v_f),(7,Iv (s.length:Int)),(8,Iv 0)] fun aI=>Bh Wq (fun m fr w'=>∃(A:Int) (W:Bi),W=[]∧fr [] [(8,Iv A)]∧hs.S (ks W O) w'∧St ⟨w,[],[]⟩ O w' W∧BR .i64 A∧B1 (BX s f) m A=some x) (((s.length:Int) - 0).toNat+1) ⟨0,_,Av,BB.of ⟨Av,trivial⟩,AB.refl _ _,hs,EG,F⟩ ?_ ?_
 rintro _ _ ⟨_,_,_,_,_,_,_,F⟩;exact Dg F
 rintro m7 K6 aC aG w8 ⟨A,_,rfl,I,G,J,Ra,F⟩
 obtain⟨aJ,Y,F⟩:=Dh F;unfold BX at F
 rw [I.eq];clear I
 have M:=G
 refine Ax<|Aw<|AA<|Bu Av Av<|Ay<|Ax<|AF F Av (fun Z F=>?_) (fun Z F=>?_)
 refine AH<|Ax<|AE<|Ax<|Aw<|Be (Iv A) Av<|Bn (Iv A) Av<|Ay<|Ax<|Aw<|Be v_f Av<|Be (Sl Aa s Ca) Av<|Be (Iv A) Av ?_
 obtain⟨Q,F⟩:=AG F
 replace Fa:=Fa.step G
 refine AA<|AC (q:=(AM .i64)) Bp BD Av Av Fa Av Q.1 Q.2 ?_
 intro aK X
 refine AA<|AX BD Av X Av ?_
 intro aL aD
 obtain⟨rfl,Rb⟩:=C3 aD
 obtain⟨aM,aA,F⟩:=bd F
 replace F_f:=F_f.step G
 refine AA<|Io Av (F_f.call J.ltw ⟨Av,Rb⟩ aA) Av ?_
 rintro aN aO ⟨N,aE⟩
 have U:=J.call N
 have aF:=J.stepE N
 clear N
 clear J
 obtain rfl:=aE
 refine Ay<|AF F Av (fun aB F=>?_) (fun aB F=>?_)
 refine Ax ?_
 clear Fa F_f X
 refine Aw<|Be (Iv A) Av<|Bn (Iv A) Av<|Ay<|AY<|⟨_,En,[Iv A],⟨Av,trivial⟩,U.ext,?_⟩
 exact Vr.eq (a:=(vI .i64)) (x:=A) ⟨Av,Ra⟩ (oi F)
 refine AH ?_
 clear X
 refine Aw<|AA<|Bm Av Av<|Be (Iv (wq (A+1))) Av<|Ay ?_
 replace M:=M.trans aF
 exact aC _ _ ⟨(wq (A+1)),_,Av,BB.of ⟨Av,trivial⟩,M,U,(AZ .i64 _),Ed Y F⟩
 refine Br<|Ax ?_
 clear Fa F_f
 refine Aw<|Bn (Iv (-1)) Av<|Ay<|AY<|⟨_,En,[Iv (-1)],⟨Av,trivial⟩,J.ext,?_⟩
 exact Vr.eq (a:=(vI .i64)) (x:=(-1)) ⟨Av,(show BR .i64 (-1) from by decide)⟩ (oi F)

def D5 (s:List Int) (f:Int→Option Bool):Option Bool:=
 (EF s f).bind fun A=>
 some (decide (0≤A))

theorem HU {w:World} {O:List Nat} {s:List Int} {f:Int→Option Bool} {Aa:Option Addr} {Ca:Nat} {v_f:Value} (hO:∀k∈O,k<w.heap.size) (Fa:CA (AM .i64) w O Aa Ca s) (F_f:Gt Try.prog w O v_f (vI .i64) vB f) {x:Bool} (F:D5 s f=some x):
 Ok Try.prog 36 [Sl Aa s Ca,v_f] w O vB x:=by
 unfold D5 at F
 refine Bt (n:=9) (xs:=[.tmp 4]) Try.func36 Av Try.ntmps36 Try.results36 Av ?_
 have hs:=St.start hO
 refine Ax<|Aw<|Bn (Bo false) Av<|Ay<|Ax<|Aw<|Be (Sl Aa s Ca) Av<|Be v_f Av ?_
 obtain⟨A,G,F⟩:=bd F
 refine AA<|Bj hs Try.call65 (I1 (s:=s) (f:=f) hs.ltw Fa F_f G) Av ?_
 rintro M N Q I J
 obtain⟨rfl,Ra⟩:=J
 refine AA<|Hk Av Av<|Bn (Bo (decide (0≤A))) Av<|Ay<|AY<|⟨_,En,[Bo (decide (0≤A))],⟨Av,trivial⟩,I.ext,?_⟩
 exact Vr.eq (a:=vB) (x:=decide (0≤A)) Av (oi F)

def CM (n:Int):Option Bool:=
 (Dd n 0 4096).bind fun A=>
 some (!A)

theorem Hn {w:World} {O:List Nat} {n:Int} (hO:∀k∈O,k<w.heap.size) (Ra:BR .i64 n) {x:Bool} (F:CM n=some x):
 Ok Try.prog 37 [Iv n] w O vB x:=by
 unfold CM at F
 refine Bt (n:=6) (xs:=[.tmp 2]) Try.func37 Av Try.ntmps37 Try.results37 Av ?_
 have hs:=St.start hO
 refine Ax<|Aw<|Bn (Bo false) Av<|Ay<|Ax<|Aw<|Be (Iv n) Av ?_
 obtain⟨A,G,F⟩:=bd F
 refine AA<|Bj hs Try.call33 (EH (n:=n) (lo:=0) (hi:=4096) hs.ltw Ra EG (show BR .i64 4096 from by decide) G) Av ?_
 rintro M N Q I J
 obtain rfl:=J
 refine AA<|Es Av<|Bn (Bo (!A)) Av<|Ay<|AY<|⟨_,En,[Bo (!A)],⟨Av,trivial⟩,I.ext,?_⟩
 exact Vr.eq (a:=vB) (x:=!A) Av (oi F)

abbrev Ws:List Nat:=[4,5,6,7,8,9,10,11,12,13,14,15,16,17,18,19,20,21,22,23]

def E1 (l:List Int) (less:Int→Int→Option Int) (F:Int→Option Bool) (A:Int):Option Bool:=
 bif (decide (A<(l.length:Int))) then
  ck ((0:Int)≤(IntKind.wrap .i64 (A - 1))∧(IntKind.wrap .i64 (A - 1))<(l.length:Int))<|
  ck ((0:Int)≤A∧A<(l.length:Int))<|
  (less (l.getD (IntKind.wrap .i64 (A - 1)).toNat default) (l.getD A.toNat default)).bind fun G=>
  bif (decide (0≤G)) then
   some false
  else
   F (IntKind.wrap .i64 (A+1))
 else
  some true

def F2 (l:List Int) (less:Int→Int→Option Int):Option Bool:=
 B1 (E1 l less) (((l.length:Int) - 1).toNat+1) 1

theorem JT {w:World} {O:List Nat} {l:List Int} {less:Int→Int→Option Int} {Aa:Option Addr} {Ca:Nat} {v_less:Value} (hO:∀k∈O,k<w.heap.size) (Fa:CA (AM .i64) w O Aa Ca l) (F_less:EB Try.prog w O v_less (vI .i64) (vI .i64) (vI .i64) less) {x:Bool} (F:F2 l less=some x):
 Ok Try.prog 38 [Sl Aa l Ca,v_less] w O vB x:=by
 unfold F2 at F
 refine Bt (n:=24) (xs:=[.tmp 4]) Try.func38 Av Try.ntmps38 Try.results38 Av ?_
 have hs:=St.start hO
 refine Ax<|Aw<|Bn (Bo false) Av<|Ay<|Ax<|Ax<|Aw<|Bn (Iv 1) Av<|Ay<|AE<|Wr [] [(0,Sl Aa l Ca),(1,v_less),(5,Iv 1)] fun a7=>Bh Ws (fun m fr w'=>∃(A:Int) (aC:Bi),aC=[]∧fr [] [(5,Iv A)]∧hs.S (ks aC O) w'∧St ⟨w,[],[]⟩ O w' aC∧BR .i64 A∧B1 (E1 l less) m A=some x) (((l.length:Int) - 1).toNat+1) ⟨1,_,Av,BB.of ⟨Av,trivial⟩,AB.refl _ _,hs,MC,F⟩ ?_ ?_
 rintro _ _ ⟨_,_,_,_,_,_,_,F⟩;exact Dg F
 rintro m6 K5 aP a1 w7 ⟨A,_,rfl,J,M,W,Ra,F⟩
 obtain⟨a8,aI,F⟩:=Dh F;unfold E1 at F
 rw [J.eq];clear J
 have N:=M
 refine Ax<|Ax<|Aw<|Be (Iv A) Av<|Be (Sl Aa l Ca) Av<|AA<|Bd Try.underlying31 Av ?_
 replace Fa:=Fa.step M
 have a2:=Bb Fa
 refine AA<|Bu Av Av<|Ay<|AF F Av (fun aJ F=>?_) (fun aJ F=>?_)
 refine AH<|Ax<|AE<|Ax<|B9 (g0:=[]) (m:=10) (fl:=[]) (Dc W) Av (.inl Av) Av (by decide+kernel) ?_  -- 4
 refine Ba v_less (fun _ _ _ hi G=>AD (v:=v_less) (G 1 Av)<|Gz hi)<|Ba (Sl Aa l Ca) (fun _ _ _ hi G=>AD (v:=Sl Aa l Ca) (G 0 Av)<|Gz hi)<|Ba (Iv A) (fun _ _ _ hi G=>AD (v:=Iv A) (G 5 Av)<|Gz hi)<|Ba (Iv (wq (A - 1))) (fun _ _ _ hi G=>FC (G 14 Av) Av<|Gz hi) ?_
 obtain⟨Z,F⟩:=AG F
 refine Bc (VP _ _ (AM .i64) (gt l (wq (A - 1)))) (VP.stab _ _) (fun a3 a9 g Q hi G=>?_) ?_
 obtain⟨-,aD,-⟩:=Q
 replace Fa:=Fa.step aD
 refine Az<|AC (q:=(AM .i64)) Bp BD (G 13 Av) (G 15 Av) Fa Av Z.1 Z.2 ?_
 intro bA aQ
 exact Bs.same hi ⟨_,Av,aQ⟩
 refine Bc (VD _ _ (vI .i64) (gt l (wq (A - 1)))) (VD.stab _ _) (fun a4 bB g Q hi G=>?_) ?_
 obtain⟨bC,aR,aS⟩:=G 16 Av
 refine Az<|AX BD aR aS Av ?_
 intro bD aT
 obtain⟨rfl,Rb⟩:=C3 aT
 exact Bs.same hi (show Vr.vd (vI .i64) _ _ _ _ from⟨Av,Rb⟩)
 refine Ba (Sl Aa l Ca) (fun _ _ _ hi G=>AD (v:=Sl Aa l Ca) (G 0 Av)<|Gz hi)<|Ba (Iv A) (fun _ _ _ hi G=>AD (v:=Iv A) (G 5 Av)<|Gz hi) ?_
 obtain⟨aA,F⟩:=AG F
 refine Bc (VP _ _ (AM .i64) (gt l A)) (VP.stab _ _) (fun a5 bE g Q hi G=>?_) ?_
 obtain⟨-,aD,-⟩:=Q
 replace Fa:=Fa.step aD
 refine Az<|AC (q:=(AM .i64)) Bp BD (G 18 Av) (G 19 Av) Fa Av aA.1 aA.2 ?_
 intro bF aU
 exact Bs.same hi ⟨_,Av,aU⟩
 refine Bc (VD _ _ (vI .i64) (gt l A)) (VD.stab _ _) (fun a6 bG g Q hi G=>?_) ?_
 obtain⟨bH,aV,aW⟩:=G 20 Av
 refine Az<|AX BD aV aW Av ?_
 intro bI aX
 obtain⟨rfl,Rc⟩:=C3 aX
 exact Bs.same hi (show Vr.vd (vI .i64) _ _ _ _ from⟨Av,Rc⟩)
 refine BA fun bJ bK aK aL=>?_
 obtain⟨-,aE,-⟩:=aK
 obtain⟨I,aF⟩:=AB.nx aL
 rintro bL aG
 replace aG:Vr.vd (vI .i64) _ _ _ _:=aG
 obtain⟨rfl,Rd⟩:=aG
 rintro _ ⟨bM,rfl,X⟩ _ rfl _ rfl bN aH
 replace aH:Vr.vd (vI .i64) _ _ _ _:=aH
 obtain⟨rfl,Re⟩:=aH
 rintro _ ⟨bO,rfl,Y⟩ _ rfl _ rfl _ rfl _ rfl
 have aM:=W.to I (aE.trans aF)
 replace X:=X.step aF;replace Y:=Y.step aF;clear W
 obtain⟨bP,aN,F⟩:=bd F
 replace F_less:=F_less.step (M.trans aM)
 refine AA<|Io Av (F_less.call I.ltw ⟨Av,Re⟩ ⟨Av,Rd⟩ aN) Av ?_
 rintro bQ bR ⟨U,aY⟩
 have aB:=I.call U
 have aZ:=I.stepE U
 clear U
 clear I
 obtain⟨rfl,Rf⟩:=aY
 refine AA<|Hk Av Av<|Ay<|AF F Av (fun aO F=>?_) (fun aO F=>?_)
 refine Ax ?_
 clear Fa F_less X Y
 refine Aw<|Bn (Bo false) Av<|Ay<|AY<|⟨_,En,[Bo false],⟨Av,trivial⟩,aB.ext,?_⟩
 exact Vr.eq (a:=vB) (x:=false) Av (oi F)
 refine AH ?_
 clear X Y
 refine Aw<|Be (Iv A) Av<|AA<|Bm Av Av<|Bn (Iv (wq (A+1))) Av<|Ay ?_
 have a0:=(aM.trans aZ)
 replace N:=N.trans a0
 exact aP _ _ ⟨(wq (A+1)),_,Av,BB.of ⟨Av,trivial⟩,N,aB,(AZ .i64 _),Ed aI F⟩
 refine Br<|Ax ?_
 clear Fa F_less
 refine Aw<|Bn (Bo true) Av<|Ay<|AY<|⟨_,En,[Bo true],⟨Av,trivial⟩,W.ext,?_⟩
 exact Vr.eq (a:=vB) (x:=true) Av (oi F)

abbrev Wt:List Nat:=[4,5,6,7,8,9,10,11,12,13,14,15,16,17,18,19,20,21,22,23]

def GJ (l:List Bv) (less:Bv→Bv→Option Int) (F:Int→Option Bool) (A:Int):Option Bool:=
 bif (decide (A<(l.length:Int))) then
  ck ((0:Int)≤(IntKind.wrap .i64 (A - 1))∧(IntKind.wrap .i64 (A - 1))<(l.length:Int))<|
  ck ((0:Int)≤A∧A<(l.length:Int))<|
  (less (⟨(⟨(l.getD (IntKind.wrap .i64 (A - 1)).toNat default).cell,(l.getD (IntKind.wrap .i64 (A - 1)).toNat default).places⟩:Bv).cell,(⟨(l.getD (IntKind.wrap .i64 (A - 1)).toNat default).cell,(l.getD (IntKind.wrap .i64 (A - 1)).toNat default).places⟩:Bv).places⟩:Bv) (⟨(⟨(l.getD A.toNat default).cell,(l.getD A.toNat default).places⟩:Bv).cell,(⟨(l.getD A.toNat default).cell,(l.getD A.toNat default).places⟩:Bv).places⟩:Bv)).bind fun G=>
  bif (decide (0≤G)) then
   some false
  else
   F (IntKind.wrap .i64 (A+1))
 else
  some true

def HL (l:List Bv) (less:Bv→Bv→Option Int):Option Bool:=
 B1 (GJ l less) (((l.length:Int) - 1).toNat+1) 1

theorem OX {w:World} {O:List Nat} {l:List Bv} {less:Bv→Bv→Option Int} {Aa:Option Addr} {Ca:Nat} {v_less:Value} (hO:∀k∈O,k<w.heap.size) (Fa:CA FO w O Aa Ca l) (F_less:EB Try.prog w O v_less (vA FO) (vA FO) (vI .i64) less) {x:Bool} (F:HL l less=some x):
 Ok Try.prog 40 [Sl Aa l Ca,v_less] w O vB x:=by
 unfold HL at F
 refine Bt (n:=24) (xs:=[.tmp 4]) Try.func40 Av Try.ntmps40 Try.results40 Av ?_
 have hs:=St.start hO
 refine Ax<|Aw<|Bn (Bo false) Av<|Ay<|Ax<|Ax<|Aw<|Bn (Iv 1) Av<|Ay<|AE<|Wr [] [(0,Sl Aa l Ca),(1,v_less),(5,Iv 1)] fun a9=>Bh Wt (fun m fr w'=>∃(A:Int) (aC:Bi),aC=[]∧fr [] [(5,Iv A)]∧hs.S (ks aC O) w'∧St ⟨w,[],[]⟩ O w' aC∧BR .i64 A∧B1 (GJ l less) m A=some x) (((l.length:Int) - 1).toNat+1) ⟨1,_,Av,BB.of ⟨Av,trivial⟩,AB.refl _ _,hs,MC,F⟩ ?_ ?_
 rintro _ _ ⟨_,_,_,_,_,_,_,F⟩;exact Dg F
 rintro m6 K5 aP a1 w7 ⟨A,_,rfl,J,M,W,Ra,F⟩
 obtain⟨bA,aI,F⟩:=Dh F;unfold GJ at F
 rw [J.eq];clear J
 have N:=M
 refine Ax<|Ax<|Aw<|Be (Iv A) Av<|Be (Sl Aa l Ca) Av<|AA<|Bd Try.underlying56 Av ?_
 replace Fa:=Fa.step M
 have a2:=Bb Fa
 refine AA<|Bu Av Av<|Ay<|AF F Av (fun aJ F=>?_) (fun aJ F=>?_)
 refine AH<|Ax<|AE<|Ax<|B9 (g0:=[]) (m:=10) (fl:=[]) (Dc W) Av (.inl Av) Av (by decide+kernel) ?_  -- 4
 refine Ba v_less (fun _ _ _ hi G=>AD (v:=v_less) (G 1 Av)<|Gz hi)<|Ba (Sl Aa l Ca) (fun _ _ _ hi G=>AD (v:=Sl Aa l Ca) (G 0 Av)<|Gz hi)<|Ba (Iv A) (fun _ _ _ hi G=>AD (v:=Iv A) (G 5 Av)<|Gz hi)<|Ba (Iv (wq (A - 1))) (fun _ _ _ hi G=>FC (G 14 Av) Av<|Gz hi) ?_
 obtain⟨Z,F⟩:=AG F
 refine Bc (VP _ _ FO (gt l (wq (A - 1)))) (VP.stab _ _) (fun a3 bB g Q hi G=>?_) ?_
 obtain⟨-,aD,-⟩:=Q
 replace Fa:=Fa.step aD
 refine Az<|AC (q:=FO) HK GU (G 13 Av) (G 15 Av) Fa Av Z.1 Z.2 ?_
 intro bC aQ
 exact Bs.same hi ⟨_,Av,aQ⟩
 refine Bc (VD _ _ (vA FO) (⟨(gt l (wq (A - 1))).cell,(gt l (wq (A - 1))).places⟩:Bv)) (VD.stab _ _) (fun a4 bD g Q hi G=>?_) ?_
 obtain⟨bE,aR,aS⟩:=G 16 Av
 refine Az<|BF GU aR aS Av ?_
 intro a5 aT
 obtain⟨_,_,rfl,⟨_,_,rfl,rfl,⟨_,_,rfl,⟨rfl,Rb⟩,⟨rfl,Rc⟩⟩⟩,⟨rfl,Rd⟩⟩:=aT
 exact Bs.same hi (show Vr.vd (vA FO) _ _ _ _ from(Jn (Cz (AU (Cz (AU GQ (AU (AW Rb) (AW Rc)))) (AW Rd)))))
 refine Ba (Sl Aa l Ca) (fun _ _ _ hi G=>AD (v:=Sl Aa l Ca) (G 0 Av)<|Gz hi)<|Ba (Iv A) (fun _ _ _ hi G=>AD (v:=Iv A) (G 5 Av)<|Gz hi) ?_
 obtain⟨aA,F⟩:=AG F
 refine Bc (VP _ _ FO (gt l A)) (VP.stab _ _) (fun a6 bF g Q hi G=>?_) ?_
 obtain⟨-,aD,-⟩:=Q
 replace Fa:=Fa.step aD
 refine Az<|AC (q:=FO) HK GU (G 18 Av) (G 19 Av) Fa Av aA.1 aA.2 ?_
 intro bG aU
 exact Bs.same hi ⟨_,Av,aU⟩
 refine Bc (VD _ _ (vA FO) (⟨(gt l A).cell,(gt l A).places⟩:Bv)) (VD.stab _ _) (fun a7 bH g Q hi G=>?_) ?_
 obtain⟨bI,aV,aW⟩:=G 20 Av
 refine Az<|BF GU aV aW Av ?_
 intro a8 aX
 obtain⟨_,_,rfl,⟨_,_,rfl,rfl,⟨_,_,rfl,⟨rfl,Re⟩,⟨rfl,Rf⟩⟩⟩,⟨rfl,Rg⟩⟩:=aX
 exact Bs.same hi (show Vr.vd (vA FO) _ _ _ _ from(Jn (Cz (AU (Cz (AU GQ (AU (AW Re) (AW Rf)))) (AW Rg)))))
 refine BA fun bJ bK aK aL=>?_
 obtain⟨-,aE,-⟩:=aK
 obtain⟨I,aF⟩:=AB.nx aL
 rintro bL aG
 replace aG:Vr.vd (vA FO) _ _ _ _:=aG
 obtain⟨_,rfl,⟨_,_,rfl,⟨_,_,rfl,rfl,⟨_,_,rfl,⟨rfl,Rh⟩,⟨rfl,Ri⟩⟩⟩,⟨rfl,Rj⟩⟩⟩:=aG
 rintro _ ⟨bM,rfl,X⟩ _ rfl _ rfl bN aH
 replace aH:Vr.vd (vA FO) _ _ _ _:=aH
 obtain⟨_,rfl,⟨_,_,rfl,⟨_,_,rfl,rfl,⟨_,_,rfl,⟨rfl,Rk⟩,⟨rfl,Rl⟩⟩⟩,⟨rfl,Rm⟩⟩⟩:=aH
 rintro _ ⟨bO,rfl,Y⟩ _ rfl _ rfl _ rfl _ rfl
 have aM:=W.to I (aE.trans aF)
 replace X:=X.step aF;replace Y:=Y.step aF;clear W
 obtain⟨bP,aN,F⟩:=bd F
 replace F_less:=F_less.step (M.trans aM)
 refine AA<|Io Av (F_less.call I.ltw (Jn (Cz (AU (Cz (AU GQ (AU (AW Rk) (AW Rl)))) (AW Rm)))) (Jn (Cz (AU (Cz (AU GQ (AU (AW Rh) (AW Ri)))) (AW Rj)))) aN) Av ?_
 rintro bQ bR ⟨U,aY⟩
 have aB:=I.call U
 have aZ:=I.stepE U
 clear U
 clear I
 obtain⟨rfl,Rn⟩:=aY
 refine AA<|Hk Av Av<|Ay<|AF F Av (fun aO F=>?_) (fun aO F=>?_)
 refine Ax ?_
 clear Fa F_less X Y
 refine Aw<|Bn (Bo false) Av<|Ay<|AY<|⟨_,En,[Bo false],⟨Av,trivial⟩,aB.ext,?_⟩
 exact Vr.eq (a:=vB) (x:=false) Av (oi F)
 refine AH ?_
 clear X Y
 refine Aw<|Be (Iv A) Av<|AA<|Bm Av Av<|Bn (Iv (wq (A+1))) Av<|Ay ?_
 have a0:=(aM.trans aZ)
 replace N:=N.trans a0
 exact aP _ _ ⟨(wq (A+1)),_,Av,BB.of ⟨Av,trivial⟩,N,aB,(AZ .i64 _),Ed aI F⟩
 refine Br<|Ax ?_
 clear Fa F_less
 refine Aw<|Bn (Bo true) Av<|Ay<|AY<|⟨_,En,[Bo true],⟨Av,trivial⟩,W.ext,?_⟩
 exact Vr.eq (a:=vB) (x:=true) Av (oi F)

def DB (a:Bv) (b:Bv):Option Int:=
 (CL a.cell b.cell).bind fun A=>
 some A

theorem Ho {w:World} {O:List Nat} {a:Bv} {b:Bv} (hO:∀k∈O,k<w.heap.size) (Ra:BR .i64 a.cell.index) (Rb:BR .i64 a.cell.minute) (Rc:BR .i64 a.places) (Rd:BR .i64 b.cell.index) (Re:BR .i64 b.cell.minute) (Rf:BR .i64 b.places) {x:Int} (M:DB a b=some x):
 Ok Try.prog 41 [Value.agg [Bo a.cell.airport,Iv a.cell.index,Iv a.cell.minute,Iv a.places].toArray,Value.agg [Bo b.cell.airport,Iv b.cell.index,Iv b.cell.minute,Iv b.places].toArray] w O (vI .i64) x:=by
 unfold DB at M
 refine Bt (n:=10) (xs:=[.tmp 4]) Try.func41 Av Try.ntmps41 Try.results41 Av ?_
 have hs:=St.start hO
 refine Ax<|Aw<|AA<|BV (cs:=[Bo a.cell.airport,Iv a.cell.index,Iv a.cell.minute,Iv a.places]) hs Av Av ?_
 intro X Y _ Z G
 refine AA<|BV (cs:=[Bo b.cell.airport,Iv b.cell.index,Iv b.cell.minute,Iv b.places]) G Av Av ?_
 intro b6 w7 _ p8 F
 clear G
 refine Bn (Iv 0) Av<|Ay<|Ax<|Aw<|AA<|AP 0 GU Av Eo Av Av<|AA<|GI (vs:=[Bo a.cell.airport,Iv a.cell.index,Iv a.cell.minute]) (i:=1) Eo F Av Av Av Av<|AA<|AP 0 GU Av Eo Av Av<|AA<|GI (vs:=[Bo b.cell.airport,Iv b.cell.index,Iv b.cell.minute]) (i:=0) Eo F Av Av Av Av ?_
 obtain⟨A,I,M⟩:=bd M
 refine AA<|Bj F Try.call35 (G2 (a:=a.cell) (b:=b.cell) F.ltw Ra Rb Rd Re I) Av ?_
 rintro Q U W J N
 clear F
 obtain⟨rfl,Rg⟩:=N
 refine Bn (Iv A) Av<|Ay<|AY<|⟨_,En,[Iv A],⟨Av,trivial⟩,J.ext,?_⟩
 exact Vr.eq (a:=(vI .i64)) (x:=A) ⟨Av,Rg⟩ (oi M)

abbrev Wu:List Nat:=[159,160,161,162,163,164,165,166,167,168,169]

abbrev Us:List Nat:=[2,14,155,156,157,158,159,160,161,162,163,164,165,166,167,168,169,170]

abbrev Wv:List Nat:=[127,128,129,130,131,132,133,134,135,136,137,138,139,140,141,142,143,144,145,146,147,148,149,150,151]

abbrev QR:List Nat:=[2,11,12,14,123,124,125,126,127,128,129,130,131,132,133,134,135,136,137,138,139,140,141,142,143,144,145,146,147,148,149,150,151,152,153,154,155,156,157,158,159,160,161,162,163,164,165,166,167,168,169,170,171]

abbrev Ww:List Nat:=[82,83,84,85,86,87,88,89,90,91,92,93,94,95,96,97,98,99,100,101,102,103,104,105,106,107,108,109,110,111,112,113,114,115,116,117,118,119]

abbrev Mc:List Nat:=[2,9,11,12,14,78,79,80,81,82,83,84,85,86,87,88,89,90,91,92,93,94,95,96,97,98,99,100,101,102,103,104,105,106,107,108,109,110,111,112,113,114,115,116,117,118,119,120,121,122,123,124,125,126,127,128,129,130,131,132,133,134,135,136,137,138,139,140,141,142,143,144,145,146,147,148,149,150,151,152,153,154,155,156,157,158,159,160,161,162,163,164,165,166,167,168,169,170,171,172]

abbrev Wx:List Nat:=[64,65,66,67,68,69,70,71,72,73]

abbrev Ut:List Nat:=[2,7,60,61,62,63,64,65,66,67,68,69,70,71,72,73,74]

abbrev Wy:List Nat:=[46,47,48,49,50,51,52,53]

abbrev Uu:List Nat:=[2,5,42,43,44,45,46,47,48,49,50,51,52,53,54,55,56]

abbrev Wz:List Nat:=[15,16,17,18,19,20,21,22,23,24,25,26,27,28,29,30,31,32,33,34,35,36,37]

def EI (p:A9) (M:List (AK × Bool)) (I:Int) (G:Int) (N:Int→Option Int) (Q:Int→Option Int) (A:Int):Option Int:=
 bif (decide (A<(((((p.variables.getD I.toNat default).choices).getD G.toNat default).uses).length:Int))) then
  ck ((0:Int)≤A∧A<(((((p.variables.getD I.toNat default).choices).getD G.toNat default).uses).length:Int))<|
  jn (fun(U:Bool)=>
   bif U then
    some 270
   else
    Q (IntKind.wrap .i64 (A+1)))
  (fun J=>
   bif (!((B0 M ((((((p.variables.getD I.toNat default).choices).getD G.toNat default).uses).getD A.toNat default).cell)).getD false)) then
    J true
   else
    (Dd ((((((p.variables.getD I.toNat default).choices).getD G.toNat default).uses).getD A.toNat default).places) 1 8).bind fun F=>
    J (!F))
 else
  N (IntKind.wrap .i64 (G+1))

def EJ (p:A9) (N:List (AK × Bool)) (A:Int) (Q:Int→Option Int) (U:Int→Option Int) (F:Int):Option Int:=
 bif (decide (F<(((p.variables.getD A.toNat default).choices).length:Int))) then
  ck ((0:Int)≤F∧F<(((p.variables.getD A.toNat default).choices).length:Int))<|
  jn (fun(Z:Bool)=>
   bif Z then
    some 270
   else
    B1 (EI p N A F U) (((((((p.variables.getD A.toNat default).choices).getD F.toNat default).uses).length:Int) - 0).toNat+1) 0)
  (fun G=>
   (Dd ((((p.variables.getD A.toNat default).choices).getD F.toNat default).delay) 0 1048576).bind fun I=>
   bif (!I) then
    G true
   else
    (Dd ((((p.variables.getD A.toNat default).choices).getD F.toNat default).cost) 0 1048576).bind fun J=>
    bif (!J) then
     G true
    else
     (Dd ((((p.variables.getD A.toNat default).choices).getD F.toNat default).changes) 0 1048576).bind fun M=>
     bif (!M) then
      G true
     else
      (HL ((((p.variables.getD A.toNat default).choices).getD F.toNat default).uses) (fun X Y=>DB X Y)).bind fun W=>
      G (!W))
 else
  Q (IntKind.wrap .i64 (A+1))

def EK (p:A9) (J:List (AK × Bool)) (M:Int→Option Int) (A:Int):Option Int:=
 bif (decide (A<(p.variables.length:Int))) then
  ck ((0:Int)≤A∧A<(p.variables.length:Int))<|
  jn (fun(U:Bool)=>
   bif U then
    some 270
   else
    B1 (EJ p J A M) (((((p.variables.getD A.toNat default).choices).length:Int) - 0).toNat+1) 0)
  (fun G=>
   bif (decide ((((p.variables.getD A.toNat default).leaves).length:Int)=0)) then
    G true
   else
    (Dd (((p.variables.getD A.toNat default).choices).length:Int) 1 96).bind fun I=>
    bif (!I) then
     G true
    else
     (F2 ((p.variables.getD A.toNat default).leaves) (fun N Q=>Db N Q)).bind fun F=>
     bif (!F) then
      G true
     else
      ck ((0:Int)≤0∧0<(((p.variables.getD A.toNat default).leaves).length:Int))<|
      bif (decide ((((p.variables.getD A.toNat default).leaves).getD 0 default)<0)) then
       G true
      else
       ck ((0:Int)≤(IntKind.wrap .i64 ((((p.variables.getD A.toNat default).leaves).length:Int) - 1))∧(IntKind.wrap .i64 ((((p.variables.getD A.toNat default).leaves).length:Int) - 1))<(((p.variables.getD A.toNat default).leaves).length:Int))<|
       G (decide ((p.capacity.length:Int)≤(((p.variables.getD A.toNat default).leaves).getD (IntKind.wrap .i64 ((((p.variables.getD A.toNat default).leaves).length:Int) - 1)).toNat default))))
 else
  some 0

def EL (p:A9) (G:List (AK × Bool)) (I:Int→Option Int) (F:Int):Option Int:=
 bif (decide (F<(p.capacity.length:Int))) then
  ck ((0:Int)≤F∧F<(p.capacity.length:Int))<|
  jn (fun(N:Bool)=>
   bif N then
    some 270
   else
    I (IntKind.wrap .i64 (F+1)))
  (fun J=>
   bif (decide (((p.capacity.getD F.toNat default).length:Int)≠(p.cells.length:Int))) then
    J true
   else
    (D5 (p.capacity.getD F.toNat default) (fun M=>CM M)).bind fun A=>
    J A)
 else
  B1 (EK p G) (((p.variables.length:Int) - 0).toNat+1) 0

def EM (p:A9) (G:Int→(List (AK × Bool))→Option Int) (A:Int) (F:List (AK × Bool)):Option Int:=
 bif (decide (A<(p.cells.length:Int))) then
  ck ((0:Int)≤A∧A<(p.cells.length:Int))<|
  jn (fun(J:Bool)=>
   bif J then
    some 270
   else
    G (IntKind.wrap .i64 (A+1)) (DJ F (p.cells.getD A.toNat default) true))
  (fun I=>
   bif (decide (((p.cells.getD A.toNat default).index)<0)) then
    I true
   else
    I (decide (((p.cells.getD A.toNat default).minute)<0)))
 else
  B1 (EL p F) (((p.capacity.length:Int) - 0).toNat+1) 0

def FU (p:A9):Option Int:=
 jn (fun(M:Bool)=>
  bif M then
   some 270
  else
   B8 (EM p) (((p.cells.length:Int) - 0).toNat+1) 0 ([]:List (AK × Bool)))
 (fun J=>
  bif (decide (4096<(p.cells.length:Int))) then
   J true
  else
   (Dd (p.capacity.length:Int) 1 32).bind fun A=>
   bif (!A) then
    J true
   else
    bif (decide (64<(p.variables.length:Int))) then
     J true
    else
     (Hw p.cells (fun G I=>CL G I)).bind fun F=>
     J (!F))

theorem Jj {w:World} {O:List Nat} {p:A9} {Aa:Option Addr} {Ca:Nat} {Ab:Option Addr} {Cb:Nat} {Ac:Option Addr} {Cc:Nat} (hO:∀k∈O,k<w.heap.size) (Fa:CA B2 w O Aa Ca p.cells) (Fb:CA (BE (AM .i64)) w O Ab Cb p.capacity) (Fc:CA AT w O Ac Cc p.variables) {x:Int} (F:FU p=some x):
 Ok Try.prog 12 [Value.agg (C0 p Aa Ca Ab Cb Ac Cc).toArray] w O (vI .i64) x:=by
 unfold FU at F
 refine Bt (n:=173) (xs:=[.tmp 2]) Try.func12 Av Try.ntmps12 Try.results12 Av ?_
 have hs:=St.start hO
 refine Ax<|Aw<|AA<|BV (cs:=(C0 p Aa Ca Ab Cb Ac Cc)) hs Av Av ?_
 intro b1 w2 _ p3 bJ
 refine Bn (Iv 0) Av<|Ay<|Ax<|Wr [] [(1,Pt b1 0)] fun p4=>?_
 obtain⟨k8,jS,F⟩:=Dp F
 refine D8 Wz (fun fr w'=>∃(eQ:Bool) (M:Bi),M=[(some b1,Oc (C0 p Aa Ca Ab Cb Ac Cc) 26)]∧fr [] [(37,Bo eQ)]∧bJ.S (ks M O) w'∧St ⟨w,[],[]⟩ O w' M∧k8 eQ=some x) ?_ ?_
 rintro l9 p6 ⟨eQ,_,rfl,cB,eR,bU,F⟩
 replace F:=Ed jS F
 rw [cB.eq];clear cB
 refine AF F Av (fun hA F=>?_) (fun hA F=>?_)
 refine Ax ?_
 obtain⟨hB,p7⟩:=bU.sub (bs':=[]) (.cons _ List.Sublist.slnil)
 clear Fa Fb Fc
 clear bU
 refine Aw<|Bn (Iv 270) Av<|Ay<|AY<|⟨_,En,[Iv 270],⟨Av,trivial⟩,hB.ext,?_⟩
 exact Vr.eq (a:=(vI .i64)) (x:=270) ⟨Av,(show BR .i64 270 from by decide)⟩ (oi F)
 refine AH<|Ax<|Aw<|AA<|H6 bU ?_
 intro Q p8 jT cC
 clear bU
 have jU:Mo Jp H5 (Obj.map #[] 0) ([]:List (AK × Bool)):=Mo.nil_
 refine Bn (Value.map (some Q)) Av<|Ay<|Ax<|Ax<|Aw<|AA<|AP 0 Bw Av F1 Av Av<|AA<|AQ 1 F1 cC Av Av Av<|AA<|Bd Try.underlying22 Av ?_
 have hC:=(p3.trans (eR.trans jT))
 replace Fa:=Fa.step hC
 have mA:=Bb Fa
 refine Be (Iv 0) Av<|Ay<|AE<|Wr [] [(1,Pt b1 0),(3,Value.map (some Q)),(40,Sl Aa p.cells Ca),(41,Iv (p.cells.length:Int)),(42,Iv 0)] fun hD=>Bh Uu (fun m fr w'=>∃(aG:Int) (aB:List (AK × Bool)) (J:Obj) (M:Bi),M=[(some Q,J),(some b1,Oc (C0 p Aa Ca Ab Cb Ac Cc) 26)]∧fr [] [(42,Iv aG)]∧cC.S (ks M O) w'∧St ⟨w,[],[]⟩ O w' M∧BR .i64 aG∧Mo Jp H5 J aB∧B8 (EM p) m aG aB=some x) (((p.cells.length:Int) - 0).toNat+1) ⟨0,([]:List (AK × Bool)),Obj.map #[] 0,_,Av,BB.of ⟨Av,trivial⟩,AB.refl _ _,cC,EG,jU,F⟩ ?_ ?_
 rintro _ _ ⟨_,_,_,_,_,_,_,_,_,_,F⟩;exact D9 F
 rintro p9 qA hE mB qB ⟨aG,aB,J,_,rfl,cD,aY,a9,Ra,cE,F⟩
 obtain⟨mC,eS,F⟩:=DA F;unfold EM at F
 rw [cD.eq];clear cD
 have cF:=aY
 refine Ax<|Aw<|AA<|Bu Av Av<|Ay<|Ax<|AF F Av (fun hF F=>?_) (fun hF F=>?_)
 refine AH<|Ax<|AE<|Ax<|Aw ?_
 obtain⟨d8,F⟩:=AG F
 replace Fa:=Fa.step aY
 refine AA<|AC (q:=B2) F1 Eo Av Av Fa Av d8.1 d8.2 ?_
 intro qC dU
 refine AA<|BF Eo Av dU Av ?_
 intro mD jV
 obtain⟨_,_,rfl,rfl,⟨_,_,rfl,⟨rfl,Rb⟩,⟨rfl,Rc⟩⟩⟩:=jV
 refine AA<|Bx Eo a9 ?_
 intro hG qD _ jW d9
 clear a9
 refine Bk<|Cx .z Eo d9 Av Av Av Av Av ?_
 intro qE jX aT
 clear d9
 refine Ay<|Ax<|Ip Uu [] (CK ⟨hD,[]⟩ [(1,Pt b1 0),(3,Value.map (some Q)),(40,Sl Aa p.cells Ca),(41,Iv (p.cells.length:Int)),(42,Iv 0)]) [(5,Pt hG 0),(42,Iv aG)] fun mE=>?_
 obtain⟨jY,hH,F⟩:=Dp F
 refine D8 Wy (fun fr w'=>∃(eT:Bool) (M:Bi),M=[(some hG,Oc [Bo ((gt p.cells aG).airport),Iv ((gt p.cells aG).index),Iv ((gt p.cells aG).minute)] 67),(some Q,J),(some b1,Oc (C0 p Aa Ca Ab Cb Ac Cc) 26)]∧fr [] [(53,Bo eT)]∧aT.S (ks M O) w'∧St ⟨w,[],[]⟩ O w' M∧jY eT=some x) ?_ ?_
 rintro mF qF ⟨eT,_,rfl,cG,eU,bV,F⟩
 replace F:=Ed hH F
 rw [cG.eq];clear cG
 refine AF F Av (fun hI F=>?_) (fun hI F=>?_)
 refine Ax ?_
 clear dU
 refine Aw<|Bn (Iv 270) Av<|Ay<|AY<|⟨_,En,[Iv 270],⟨Av,trivial⟩,bV.ext,?_⟩
 exact Vr.eq (a:=(vI .i64)) (x:=270) ⟨Av,(show BR .i64 270 from by decide)⟩ (oi F)
 refine AH ?_
 clear dU
 refine Aw<|Be (Value.map (some Q)) Av<|AA<|Bz 0 Eo bV Av Av Av<|Bk<|Hh (q:=Jp) (m:=H5) (n:=gt p.cells aG) (v:=true) (i:=1) Try.underlying69 QQ bV Av cE Av Av Av Av (And.intro Rb Rc) trivial ?_
 intro jZ qG j0 cH j1
 clear bV
 refine Ay<|Aw<|AA<|Bm Av Av<|Be (Iv (wq (aG+1))) Av<|Ay ?_
 have hJ:=cH.drop 0
 have j2:=(cH.dropS 0)
 clear cH
 have j3:=(jW.trans (jX.trans (eU.trans (j0.trans j2))))
 replace cF:=cF.trans j3
 exact hE _ _ ⟨(wq (aG+1)),DJ aB (gt p.cells aG) true,jZ,_,Av,BB.of ⟨Av,trivial⟩,cF,hJ,(AZ .i64 _),j1,GD eS F⟩
 intro qH eA
 have eB:=aT.stepR
 clear dU
 refine Aw<|AA<|AP 1 Eo Av BD Av Av<|AA<|AQ 0 BD aT Av Av Av<|AA<|Bu Av Av<|Be (Bo (decide (((gt p.cells aG).index)<0))) Av<|B4 F (fun hK F=>?_) (fun hK F=>?_)
 iterate 3 refine AI Av (AJ Av Av) Av ?_
 exact FR (Bo true) Av Av<|Ay<|eA _ _ ⟨true,_,Av,BB.of ⟨Av,trivial⟩,eB,aT,F⟩
 exact BN Av Av<|AP 2 Eo Av BD Av Av<|BN Av Av<|AQ 0 BD aT Av Av Av<|BN Av Av<|Bu Av Av<|FF (Bo (decide (((gt p.cells aG).minute)<0))) Av Av<|Ay<|eA _ _ ⟨decide (((gt p.cells aG).minute)<0),_,Av,BB.of ⟨Av,trivial⟩,eB,aT,F⟩
 refine Br<|Ax<|Ax<|Aw<|AA<|AP 1 Bw Av CB Av Av<|AA<|AQ 1 CB a9 Av Av Av<|AA<|Bd Try.underlying23 Av ?_
 have hL:=(hC.trans aY)
 replace Fb:=Fb.step hL
 have mG:=Bb Fb
 refine Be (Iv 0) Av<|Ay<|AE<|Wr [] [(1,Pt b1 0),(3,Value.map (some Q)),(58,Sl Ab p.capacity Cb),(59,Iv (p.capacity.length:Int)),(60,Iv 0)] fun hM=>Bh Ut (fun m fr w'=>∃(aJ:Int) (M:Bi),M=[(some Q,J),(some b1,Oc (C0 p Aa Ca Ab Cb Ac Cc) 26)]∧fr [] [(60,Iv aJ)]∧a9.S (ks M O) w'∧St ⟨w,[],[]⟩ O w' M∧BR .i64 aJ∧B1 (EL p aB) m aJ=some x) (((p.capacity.length:Int) - 0).toNat+1) ⟨0,_,Av,BB.of ⟨Av,trivial⟩,AB.refl _ _,a9,EG,F⟩ ?_ ?_
 rintro _ _ ⟨_,_,_,_,_,_,_,F⟩;exact Dg F
 rintro qI qJ hN mH eV ⟨aJ,_,rfl,cI,aZ,aI,Rd,F⟩
 obtain⟨mI,eW,F⟩:=Dh F;unfold EL at F
 rw [cI.eq];clear cI
 have cJ:=aZ
 refine Ax<|Aw<|AA<|Bu Av Av<|Ay<|Ax<|AF F Av (fun hP F=>?_) (fun hP F=>?_)
 refine AH<|Ax<|AE<|Ax<|Aw ?_
 obtain⟨eC,F⟩:=AG F
 replace Fb:=Fb.step aZ
 refine AA<|AC (q:=BE (AM .i64)) CB Bp Av Av Fb Av eC.1 eC.2 ?_
 intro qK dV
 refine AA<|AX Bp Av dV Av ?_
 intro qL j4
 obtain⟨Ad,Cd,rfl,Fd⟩:=BH j4
 refine Bn (Sl Ad (gt p.capacity aJ) Cd) Av<|Ay<|Ip Ut [] (CK ⟨hM,[]⟩ [(1,Pt b1 0),(3,Value.map (some Q)),(58,Sl Ab p.capacity Cb),(59,Iv (p.capacity.length:Int)),(60,Iv 0)]) [(7,Sl Ad (gt p.capacity aJ) Cd),(60,Iv aJ)] fun mJ=>?_
 obtain⟨j5,eX,F⟩:=Dp F
 refine D8 Wx (fun fr w'=>∃(eY:Bool) (M:Bi),M=[(some Q,J),(some b1,Oc (C0 p Aa Ca Ab Cb Ac Cc) 26)]∧fr [] [(73,Bo eY)]∧aI.S (ks M O) w'∧St ⟨w,[],[]⟩ O w' M∧j5 eY=some x) ?_ ?_
 rintro j6 mK ⟨eY,_,rfl,bW,dW,cK,F⟩
 replace F:=Ed eX F
 rw [bW.eq];clear bW
 refine AF F Av (fun eZ F=>?_) (fun eZ F=>?_)
 refine Ax ?_
 clear dV Fd
 refine Aw<|Bn (Iv 270) Av<|Ay<|AY<|⟨_,En,[Iv 270],⟨Av,trivial⟩,cK.ext,?_⟩
 exact Vr.eq (a:=(vI .i64)) (x:=270) ⟨Av,(show BR .i64 270 from by decide)⟩ (oi F)
 refine AH ?_
 clear dV Fd
 refine Aw<|AA<|Bm Av Av<|Be (Iv (wq (aJ+1))) Av<|Ay ?_
 replace cJ:=cJ.trans dW
 exact hN _ _ ⟨(wq (aJ+1)),_,Av,BB.of ⟨Av,trivial⟩,cJ,cK,(AZ .i64 _),Ed eW F⟩
 intro mL cL
 have a0:=aI.stepR
 clear dV
 refine Aw<|Be (Sl Ad (gt p.capacity aJ) Cd) Av<|AA<|Bd Try.underlying31 Av ?_
 have j7:=Bb Fd
 refine AA<|AP 0 Bw Av F1 Av Av<|AA<|AQ 1 F1 aI Av Av Av<|AA<|Bd Try.underlying22 Av ?_
 replace Fa:=Fa.step (aY.trans aZ)
 have j8:=Bb Fa
 refine AA<|FB Av Av<|Be (Bo (decide (((gt p.capacity aJ).length:Int)≠(p.cells.length:Int)))) Av<|B4 F (fun e0 F=>?_) (fun e0 F=>?_)
 exact AI Av (AJ Av Av) Av<|AI Av (AJ Av Av) Av<|FR (Bo true) Av Av<|Ay<|cL _ _ ⟨true,_,Av,BB.of ⟨Av,trivial⟩,a0,aI,F⟩
 refine BN Av Av<|AD (v:=Sl Ad (gt p.capacity aJ) Cd) Av ?_
 have F113:Gt Try.prog eV (ks [(some Q,J),(some b1,Oc (C0 p Aa Ca Ab Cb Ac Cc) 26)] O) (Value.func (.func 37) #[] #[]) (vI .i64) vB (fun cM=>CM cM):=by
  intro mM O115 j9 e1 mN cM mO hQ e2
  obtain⟨rfl,Re⟩:=hQ
  exact⟨37,#[],#[],Av,Try.call37,Hn (n:=cM) e1 Re e2⟩
 have F124:Gt Try.prog eV (ks [(some Q,J),(some b1,Oc (C0 p Aa Ca Ab Cb Ac Cc) 26)] O) (Value.func (.func 37) #[] #[]) (vI .i64) vB (fun bA=>CM bA):=by
  intro mP O126 kA e3 mQ bA mR hR e4
  obtain⟨rfl,Rf⟩:=hR
  exact⟨37,#[],#[],Av,Try.call37,Hn (n:=bA) e3 Rf e4⟩
 obtain⟨aC,e5,F⟩:=bd F
 have F141:Gt Try.prog eV (ks [(some Q,J),(some b1,Oc (C0 p Aa Ca Ab Cb Ac Cc) 26)] O) (Value.func (.func 37) #[] #[]) (vI .i64) vB (fun cN=>CM cN):=by
  intro mS O143 kB e6 mT cN mU hS e7
  obtain⟨rfl,Rg⟩:=hS
  exact⟨37,#[],#[],Av,Try.call37,Hn (n:=cN) e6 Rg e7⟩
 refine BN Av Av<|Bj aI Try.call36 (HU (s:=gt p.capacity aJ) (f:=(fun bA=>CM bA)) aI.ltw Fd F124 e5) Av ?_
 rintro mV mW hT e8 hU
 obtain rfl:=hU
 refine FF (Bo aC) Av Av<|Ay ?_
 replace a0:=a0.trans hT
 exact cL _ _ ⟨aC,_,Av,BB.of ⟨Av,trivial⟩,a0,e8,F⟩
 refine Br<|Ax<|Ax<|Aw<|AA<|AP 2 Bw Av CI Av Av<|AA<|AQ 1 CI aI Av Av Av<|AA<|Bd Try.underlying24 Av ?_
 replace Fc:=Fc.step (hL.trans aZ)
 have kC:=Bb Fc
 refine Be (Iv 0) Av<|Ay<|AE<|Wr [] [(1,Pt b1 0),(3,Value.map (some Q)),(76,Sl Ac p.variables Cc),(77,Iv (p.variables.length:Int)),(78,Iv 0)] fun aL=>Bh Mc (fun m fr w'=>∃(A:Int) (M:Bi),M=[(some Q,J),(some b1,Oc (C0 p Aa Ca Ab Cb Ac Cc) 26)]∧fr [] [(78,Iv A)]∧aI.S (ks M O) w'∧St ⟨w,[],[]⟩ O w' M∧BR .i64 A∧B1 (EK p aB) m A=some x) (((p.variables.length:Int) - 0).toNat+1) ⟨0,_,Av,BB.of ⟨Av,trivial⟩,AB.refl _ _,aI,EG,F⟩ ?_ ?_
 rintro _ _ ⟨_,_,_,_,_,_,_,F⟩;exact Dg F
 rintro mX mY e9 kD mZ ⟨A,_,rfl,bX,bY,a1,Rh,F⟩
 obtain⟨fA,dX,F⟩:=Dh F;unfold EK at F
 rw [bX.eq];clear bX
 have bK:=bY
 refine Ax<|Aw<|AA<|Bu Av Av<|Ay<|Ax<|AF F Av (fun fB F=>?_) (fun fB F=>?_)
 refine AH<|Ax<|AE<|Ax<|Aw ?_
 obtain⟨cO,F⟩:=AG F
 replace Fc:=Fc.step bY
 refine AA<|AC (q:=AT) CI Ex Av Av Fc Av cO.1 cO.2 ?_
 intro m0 bZ
 refine AA<|BF Ex Av bZ Av ?_
 intro kE hV
 obtain⟨_,_,rfl,⟨rfl,Ri⟩,⟨_,_,rfl,⟨rfl,Rj⟩,⟨_,_,rfl,⟨Ae,Ce,rfl,Fe⟩,⟨Af,Cf,rfl,Ff⟩⟩⟩⟩:=hV
 refine AA<|Bx Ex a1 ?_
 intro W m1 _ eD cP
 clear a1
 refine Bk<|Cx .z Ex cP Av Av Av Av Av ?_
 intro m2 eE aE
 clear cP
 refine Ay<|Ax<|Ip Mc [] (CK ⟨aL,[]⟩ [(1,Pt b1 0),(3,Value.map (some Q)),(76,Sl Ac p.variables Cc),(77,Iv (p.variables.length:Int)),(78,Iv 0)]) [(9,Pt W 0),(78,Iv A)] fun kF=>?_
 obtain⟨hW,fC,F⟩:=Dp F
 refine D8 Ww (fun fr w'=>∃(fD:Bool) (M:Bi),M=[(some W,Oc [Iv ((gt p.variables A).flight),Iv ((gt p.variables A).node),Sl Ae ((gt p.variables A).leaves) Ce,Sl Af ((gt p.variables A).choices) Cf] 61),(some Q,J),(some b1,Oc (C0 p Aa Ca Ab Cb Ac Cc) 26)]∧fr [] [(119,Bo fD)]∧aE.S (ks M O) w'∧St ⟨w,[],[]⟩ O w' M∧hW fD=some x) ?_ ?_
 rintro kG m3 ⟨fD,_,rfl,b0,dY,a2,F⟩
 replace F:=Ed fC F
 rw [b0.eq];clear b0
 refine AF F Av (fun fE F=>?_) (fun fE F=>?_)
 refine Ax ?_
 clear bZ
 refine Aw<|Bn (Iv 270) Av<|Ay<|AY<|⟨_,En,[Iv 270],⟨Av,trivial⟩,a2.ext,?_⟩
 exact Vr.eq (a:=(vI .i64)) (x:=270) ⟨Av,(show BR .i64 270 from by decide)⟩ (oi F)
 refine AH<|Ax ?_
 clear bZ
 refine Aw<|AA<|AP 3 Ex Av G0 Av Av<|AA<|AQ 0 G0 a2 Av Av Av<|AA<|Bd Try.underlying59 Av ?_
 have eF:=(eD.trans (eE.trans dY))
 replace Ff:=Ff.step eF
 have kH:=Bb Ff
 refine Be (Iv 0) Av<|Ay<|AE<|Ip Mc [] (CK ⟨aL,[]⟩ [(1,Pt b1 0),(3,Value.map (some Q)),(76,Sl Ac p.variables Cc),(77,Iv (p.variables.length:Int)),(78,Iv 0)]) [(78,Iv A),(121,Sl Af ((gt p.variables A).choices) Cf),(122,Iv (((gt p.variables A).choices).length:Int)),(123,Iv 0)] fun bL=>Bh QR (fun m fr w'=>∃(I:Int) (M:Bi),M=[(some W,Oc [Iv ((gt p.variables A).flight),Iv ((gt p.variables A).node),Sl Ae ((gt p.variables A).leaves) Ce,Sl Af ((gt p.variables A).choices) Cf] 61),(some Q,J),(some b1,Oc (C0 p Aa Ca Ab Cb Ac Cc) 26)]∧fr [] [(123,Iv I)]∧a2.S (ks M O) w'∧St ⟨w,[],[]⟩ O w' M∧BR .i64 I∧B1 (EJ p aB A fA) m I=some x) (((((gt p.variables A).choices).length:Int) - 0).toNat+1) ⟨0,_,Av,BB.of ⟨Av,trivial⟩,AB.refl _ _,a2,EG,F⟩ ?_ ?_
 rintro _ _ ⟨_,_,_,_,_,_,_,F⟩;exact Dg F
 rintro m4 m5 fF kJ m6 ⟨I,_,rfl,b2,a3,aM,Rk,F⟩
 obtain⟨fG,dZ,F⟩:=Dh F;unfold EJ at F
 rw [b2.eq];clear b2
 have bM:=a3
 refine Ax<|Aw<|AA<|Bu Av Av<|Ay<|Ax<|AF F Av (fun fH F=>?_) (fun fH F=>?_)
 refine AH<|Ax<|AE<|Ax<|Aw ?_
 obtain⟨cQ,F⟩:=AG F
 replace Ff:=Ff.step a3
 refine AA<|AC (q:=BL) G0 Gy Av Av Ff Av cQ.1 cQ.2 ?_
 intro m7 eG
 refine AA<|BF Gy Av eG Av ?_
 intro kK hX
 obtain⟨_,_,rfl,⟨rfl,Rl⟩,⟨_,_,rfl,⟨rfl,Rm⟩,⟨_,_,rfl,⟨rfl,Rn⟩,⟨Ag,Cg,rfl,Fg⟩⟩⟩⟩:=hX
 refine AA<|Bx Gy aM ?_
 intro aN m8 _ eH fI
 clear aM
 refine Bk<|Cx .z Gy fI Av Av Av Av Av ?_
 intro m9 eI aO
 refine Ay<|Ax ?_
 clear eG
 refine Aw<|Bn (Iv 1048576) Av<|Ay<|Ax<|Ip QR [] (CK (IT Mc [] bL (CK ⟨aL,[]⟩ [(1,Pt b1 0),(3,Value.map (some Q)),(76,Sl Ac p.variables Cc),(77,Iv (p.variables.length:Int)),(78,Iv 0)])) [(78,Iv A),(121,Sl Af ((gt p.variables A).choices) Cf),(122,Iv (((gt p.variables A).choices).length:Int)),(123,Iv 0)]) [(11,Pt aN 0),(12,Iv 1048576),(123,Iv I)] fun kL=>?_
 obtain⟨hY,fJ,F⟩:=Dp F
 refine D8 Wv (fun fr w'=>∃(fK:Bool) (M:Bi),M=[(some aN,Oc [Iv ((gt ((gt p.variables A).choices) I).delay),Iv ((gt ((gt p.variables A).choices) I).cost),Iv ((gt ((gt p.variables A).choices) I).changes),Sl Ag ((gt ((gt p.variables A).choices) I).uses) Cg] 58),(some W,Oc [Iv ((gt p.variables A).flight),Iv ((gt p.variables A).node),Sl Ae ((gt p.variables A).leaves) Ce,Sl Af ((gt p.variables A).choices) Cf] 61),(some Q,J),(some b1,Oc (C0 p Aa Ca Ab Cb Ac Cc) 26)]∧fr [] [(151,Bo fK)]∧aO.S (ks M O) w'∧St ⟨w,[],[]⟩ O w' M∧hY fK=some x) ?_ ?_
 rintro kM nA ⟨fK,_,rfl,b3,d0,a4,F⟩
 replace F:=Ed fJ F
 rw [b3.eq];clear b3
 refine AF F Av (fun fL F=>?_) (fun fL F=>?_)
 refine Ax<|Aw<|Bn (Iv 270) Av<|Ay<|AY<|⟨_,En,[Iv 270],⟨Av,trivial⟩,a4.ext,?_⟩
 exact Vr.eq (a:=(vI .i64)) (x:=270) ⟨Av,(show BR .i64 270 from by decide)⟩ (oi F)
 refine AH<|Ax<|Aw<|AA<|AP 3 Gy Av HK Av Av<|AA<|AQ 0 HK a4 Av Av Av<|AA<|Bd Try.underlying56 Av ?_
 have eJ:=(eH.trans (eI.trans d0))
 replace Fg:=Fg.step eJ
 have kN:=Bb Fg
 refine Be (Iv 0) Av<|Ay<|AE<|Ip QR [] (CK (IT Mc [] bL (CK ⟨aL,[]⟩ [(1,Pt b1 0),(3,Value.map (some Q)),(76,Sl Ac p.variables Cc),(77,Iv (p.variables.length:Int)),(78,Iv 0)])) [(78,Iv A),(121,Sl Af ((gt p.variables A).choices) Cf),(122,Iv (((gt p.variables A).choices).length:Int)),(123,Iv 0)]) [(123,Iv I),(153,Sl Ag ((gt ((gt p.variables A).choices) I).uses) Cg),(154,Iv (((gt ((gt p.variables A).choices) I).uses).length:Int)),(155,Iv 0)] fun fM=>Bh Us (fun m fr w'=>∃(Y:Int) (M:Bi),M=[(some aN,Oc [Iv ((gt ((gt p.variables A).choices) I).delay),Iv ((gt ((gt p.variables A).choices) I).cost),Iv ((gt ((gt p.variables A).choices) I).changes),Sl Ag ((gt ((gt p.variables A).choices) I).uses) Cg] 58),(some W,Oc [Iv ((gt p.variables A).flight),Iv ((gt p.variables A).node),Sl Ae ((gt p.variables A).leaves) Ce,Sl Af ((gt p.variables A).choices) Cf] 61),(some Q,J),(some b1,Oc (C0 p Aa Ca Ab Cb Ac Cc) 26)]∧fr [] [(155,Iv Y)]∧a4.S (ks M O) w'∧St ⟨w,[],[]⟩ O w' M∧BR .i64 Y∧B1 (EI p aB A I fG) m Y=some x) (((((gt ((gt p.variables A).choices) I).uses).length:Int) - 0).toNat+1) ⟨0,_,Av,BB.of ⟨Av,trivial⟩,AB.refl _ _,a4,EG,F⟩ ?_ ?_
 rintro _ _ ⟨_,_,_,_,_,_,_,F⟩;exact Dg F
 rintro nB nC fN kO nD ⟨Y,_,rfl,b4,a5,bN,Ro,F⟩
 obtain⟨kP,d1,F⟩:=Dh F;unfold EI at F
 rw [b4.eq];clear b4
 have bO:=a5
 refine Ax<|Aw<|AA<|Bu Av Av<|Ay<|Ax<|AF F Av (fun fO F=>?_) (fun fO F=>?_)
 refine AH<|Ax<|AE<|Ax<|Aw ?_
 obtain⟨cR,F⟩:=AG F
 replace Fg:=Fg.step a5
 refine AA<|AC (q:=FO) HK GU Av Av Fg Av cR.1 cR.2 ?_
 intro nE b5
 refine AA<|BF GU Av b5 Av ?_
 intro kQ hZ
 obtain⟨_,_,rfl,⟨_,_,rfl,rfl,⟨_,_,rfl,⟨rfl,Rp⟩,⟨rfl,Rq⟩⟩⟩,⟨rfl,Rr⟩⟩:=hZ
 refine AA<|Bx GU bN ?_
 intro eK nF _ h0 cS
 refine Bk<|Cx .z GU cS Av Av Av Av Av ?_
 intro nG h1 aF
 clear cS
 refine Ay<|Ip Us [] (CK (IT QR [] fM (CK (IT Mc [] bL (CK ⟨aL,[]⟩ [(1,Pt b1 0),(3,Value.map (some Q)),(76,Sl Ac p.variables Cc),(77,Iv (p.variables.length:Int)),(78,Iv 0)])) [(78,Iv A),(121,Sl Af ((gt p.variables A).choices) Cf),(122,Iv (((gt p.variables A).choices).length:Int)),(123,Iv 0)])) [(123,Iv I),(153,Sl Ag ((gt ((gt p.variables A).choices) I).uses) Cg),(154,Iv (((gt ((gt p.variables A).choices) I).uses).length:Int)),(155,Iv 0)]) [(14,Pt eK 0),(155,Iv Y)] fun kR=>?_
 obtain⟨h2,fP,F⟩:=Dp F
 refine D8 Wu (fun fr w'=>∃(cT:Bool) (M:Bi),M=[(some eK,Oc [Bo (((gt ((gt ((gt p.variables A).choices) I).uses) Y).cell).airport),Iv (((gt ((gt ((gt p.variables A).choices) I).uses) Y).cell).index),Iv (((gt ((gt ((gt p.variables A).choices) I).uses) Y).cell).minute),Iv ((gt ((gt ((gt p.variables A).choices) I).uses) Y).places)] 76),(some aN,Oc [Iv ((gt ((gt p.variables A).choices) I).delay),Iv ((gt ((gt p.variables A).choices) I).cost),Iv ((gt ((gt p.variables A).choices) I).changes),Sl Ag ((gt ((gt p.variables A).choices) I).uses) Cg] 58),(some W,Oc [Iv ((gt p.variables A).flight),Iv ((gt p.variables A).node),Sl Ae ((gt p.variables A).leaves) Ce,Sl Af ((gt p.variables A).choices) Cf] 61),(some Q,J),(some b1,Oc (C0 p Aa Ca Ab Cb Ac Cc) 26)]∧fr [] [(169,Bo cT)]∧aF.S (ks M O) w'∧St ⟨w,[],[]⟩ O w' M∧h2 cT=some x) ?_ ?_
 rintro kS nH ⟨cT,_,rfl,b6,d2,a6,F⟩
 replace F:=Ed fP F
 rw [b6.eq];clear b6
 refine AF F Av (fun fQ F=>?_) (fun fQ F=>?_)
 refine Ax ?_
 clear b5
 refine Aw<|Bn (Iv 270) Av<|Ay<|AY<|⟨_,En,[Iv 270],⟨Av,trivial⟩,a6.ext,?_⟩
 exact Vr.eq (a:=(vI .i64)) (x:=270) ⟨Av,(show BR .i64 270 from by decide)⟩ (oi F)
 refine AH ?_
 clear b5
 refine Aw<|AA<|Bm Av Av<|Be (Iv (wq (Y+1))) Av<|Ay ?_
 have fR:=a6.drop 0
 have h3:=(a6.dropS 0)
 clear a6
 have h4:=(h0.trans (h1.trans (d2.trans h3)))
 replace bO:=bO.trans h4
 exact fN _ _ ⟨(wq (Y+1)),_,Av,BB.of ⟨Av,trivial⟩,bO,fR,(AZ .i64 _),Ed d1 F⟩
 intro nI cU
 have a7:=aF.stepR
 clear b5
 refine Aw<|Be (Value.map (some Q)) Av<|AA<|AP 0 GU Av Eo Av Av<|AA<|GI (vs:=[Bo (((gt ((gt ((gt p.variables A).choices) I).uses) Y).cell).airport),Iv (((gt ((gt ((gt p.variables A).choices) I).uses) Y).cell).index),Iv (((gt ((gt ((gt p.variables A).choices) I).uses) Y).cell).minute)]) (i:=0) Eo aF Av Av Av Av<|AA<|Hg (q:=Jp) (m:=H5) (n:=(gt ((gt ((gt p.variables A).choices) I).uses) Y).cell) (z:=false) Try.underlying69 QQ Try.zeroValue4 (aF.get (i:=3) Av) cE (And.intro Rp Rq) Av Av<|AA<|Es Av<|Be (Bo (!((B0 aB ((gt ((gt ((gt p.variables A).choices) I).uses) Y).cell)).getD false))) Av<|B4 F (fun fS F=>?_) (fun fS F=>?_)
 iterate 4 refine AI Av (AJ Av Av) Av ?_
 exact FR (Bo true) Av Av<|Ay<|cU _ _ ⟨true,_,Av,BB.of ⟨Av,trivial⟩,a7,aF,F⟩
 refine BN Av Av<|AP 3 GU Av BD Av Av<|BN Av Av<|AQ 0 BD aF Av Av Av ?_
 obtain⟨aU,fT,F⟩:=bd F
 refine BN Av Av<|Bj aF Try.call33 (EH (n:=(gt ((gt ((gt p.variables A).choices) I).uses) Y).places) (lo:=1) (hi:=8) aF.ltw Rr MC (show BR .i64 8 from by decide) fT) Av ?_
 rintro nJ nK h5 fU h6
 obtain rfl:=h6
 refine BN Av Av<|Es Av<|FF (Bo (!aU)) Av Av<|Ay ?_
 replace a7:=a7.trans h5
 exact cU _ _ ⟨!aU,_,Av,BB.of ⟨Av,trivial⟩,a7,fU,F⟩
 refine Br<|Aw<|AA<|Bm Av Av<|Be (Iv (wq (I+1))) Av<|Ay ?_
 have fV:=bN.drop 0
 have h7:=(bN.dropS 0)
 have h8:=(eJ.trans (a5.trans h7))
 replace bM:=bM.trans h8
 exact fF _ _ ⟨(wq (I+1)),_,Av,BB.of ⟨Av,trivial⟩,bM,fV,(AZ .i64 _),Ed dZ F⟩
 intro nL a8
 have Z:=aO.stepR
 refine Aw<|AA<|AP 0 Gy Av BD Av Av<|AA<|AQ 0 BD aO Av Av Av<|Be (Iv 1048576) Av ?_
 obtain⟨cA,fW,F⟩:=bd F
 refine AA<|Bj aO Try.call33 (EH (n:=(gt ((gt p.variables A).choices) I).delay) (lo:=0) (hi:=1048576) aO.ltw Rl EG (show BR .i64 1048576 from by decide) fW) Av ?_
 rintro nM nN bB aP h9
 obtain rfl:=h9
 refine AA<|Es Av<|Be (Bo (!cA)) Av<|B4 F (fun fX F=>?_) (fun fX F=>?_)
 iterate 5 refine AI Av (AJ Av Av) Av ?_
 refine FR (Bo true) Av Av<|Be (Bo true) Av ?_
 iterate 5 refine AI Av (AJ Av Av) Av ?_
 refine FR (Bo true) Av Av<|Be (Bo true) Av ?_
 iterate 4 refine AI Av (AJ Av Av) Av ?_
 refine FR (Bo true) Av Av<|Ay ?_
 replace Z:=Z.trans bB
 exact a8 _ _ ⟨true,_,Av,BB.of ⟨Av,trivial⟩,Z,aP,F⟩
 refine BN Av Av<|AP 1 Gy Av BD Av Av<|BN Av Av<|AQ 0 BD aP Av Av Av<|BN Av Av<|AD (v:=Iv 1048576) Av ?_
 obtain⟨aV,fY,F⟩:=bd F
 refine BN Av Av<|Bj aP Try.call33 (EH (n:=(gt ((gt p.variables A).choices) I).cost) (lo:=0) (hi:=1048576) aP.ltw Rm EG (show BR .i64 1048576 from by decide) fY) Av ?_
 rintro nO nP b7 aQ iA
 clear aP
 obtain rfl:=iA
 refine BN Av Av<|Es Av<|FF (Bo (!aV)) Av Av<|Be (Bo (!aV)) Av<|B4 F (fun fZ F=>?_) (fun fZ F=>?_)
 iterate 5 refine AI Av (AJ Av Av) Av ?_
 refine FR (Bo true) Av Av<|Be (Bo true) Av ?_
 iterate 4 refine AI Av (AJ Av Av) Av ?_
 refine FR (Bo true) Av Av<|Ay ?_
 replace Z:=Z.trans (bB.trans b7)
 exact a8 _ _ ⟨true,_,Av,BB.of ⟨Av,trivial⟩,Z,aQ,F⟩
 refine BN Av Av<|AP 2 Gy Av BD Av Av<|BN Av Av<|AQ 0 BD aQ Av Av Av<|BN Av Av<|AD (v:=Iv 1048576) Av ?_
 obtain⟨aW,f0,F⟩:=bd F
 refine BN Av Av<|Bj aQ Try.call33 (EH (n:=(gt ((gt p.variables A).choices) I).changes) (lo:=0) (hi:=1048576) aQ.ltw Rn EG (show BR .i64 1048576 from by decide) f0) Av ?_
 rintro nQ cV cW aR iB
 clear aQ
 obtain rfl:=iB
 refine BN Av Av<|Es Av<|FF (Bo (!aW)) Av Av<|Be (Bo (!aW)) Av<|B4 F (fun f1 F=>?_) (fun f1 F=>?_)
 iterate 4 refine AI Av (AJ Av Av) Av ?_
 refine FR (Bo true) Av Av<|Ay ?_
 replace Z:=Z.trans (bB.trans (b7.trans cW))
 exact a8 _ _ ⟨true,_,Av,BB.of ⟨Av,trivial⟩,Z,aR,F⟩
 refine BN Av Av<|AP 3 Gy Av HK Av Av<|BN Av Av<|AQ 0 HK aR Av Av Av ?_
 have F318:EB Try.prog cV (ks [(some aN,Oc [Iv ((gt ((gt p.variables A).choices) I).delay),Iv ((gt ((gt p.variables A).choices) I).cost),Iv ((gt ((gt p.variables A).choices) I).changes),Sl Ag ((gt ((gt p.variables A).choices) I).uses) Cg] 58),(some W,Oc [Iv ((gt p.variables A).flight),Iv ((gt p.variables A).node),Sl Ae ((gt p.variables A).leaves) Ce,Sl Af ((gt p.variables A).choices) Cf] 61),(some Q,J),(some b1,Oc (C0 p Aa Ca Ab Cb Ac Cc) 26)] O) (Value.func (.func 41) #[] #[]) (vA FO) (vA FO) (vI .i64) (fun cX cY=>DB cX cY):=by
  intro nR O320 kT f2 nS nT cX cY nU iC iD f3
  obtain⟨_,rfl,⟨_,_,rfl,⟨_,_,rfl,rfl,⟨_,_,rfl,⟨rfl,Rs⟩,⟨rfl,Rt⟩⟩⟩,⟨rfl,Ru⟩⟩⟩:=iC
  obtain⟨_,rfl,⟨_,_,rfl,⟨_,_,rfl,rfl,⟨_,_,rfl,⟨rfl,Rv⟩,⟨rfl,Rw⟩⟩⟩,⟨rfl,Rx⟩⟩⟩:=iD
  exact⟨41,#[],#[],Av,Try.call41,Ho (a:=cX) (b:=cY) f2 Rs Rt Ru Rv Rw Rx f3⟩
 have F333:EB Try.prog cV (ks [(some aN,Oc [Iv ((gt ((gt p.variables A).choices) I).delay),Iv ((gt ((gt p.variables A).choices) I).cost),Iv ((gt ((gt p.variables A).choices) I).changes),Sl Ag ((gt ((gt p.variables A).choices) I).uses) Cg] 58),(some W,Oc [Iv ((gt p.variables A).flight),Iv ((gt p.variables A).node),Sl Ae ((gt p.variables A).leaves) Ce,Sl Af ((gt p.variables A).choices) Cf] 61),(some Q,J),(some b1,Oc (C0 p Aa Ca Ab Cb Ac Cc) 26)] O) (Value.func (.func 41) #[] #[]) (vA FO) (vA FO) (vI .i64) (fun bC bD=>DB bC bD):=by
  intro nV O335 kU f4 nW nX bC bD nY iE iF f5
  obtain⟨_,rfl,⟨_,_,rfl,⟨_,_,rfl,rfl,⟨_,_,rfl,⟨rfl,Ry⟩,⟨rfl,Rz⟩⟩⟩,⟨rfl,kV⟩⟩⟩:=iE
  obtain⟨_,rfl,⟨_,_,rfl,⟨_,_,rfl,rfl,⟨_,_,rfl,⟨rfl,kW⟩,⟨rfl,kX⟩⟩⟩,⟨rfl,kY⟩⟩⟩:=iF
  exact⟨41,#[],#[],Av,Try.call41,Ho (a:=bC) (b:=bD) f4 Ry Rz kV kW kX kY f5⟩
 obtain⟨cZ,f6,F⟩:=bd F
 have F354:EB Try.prog cV (ks [(some aN,Oc [Iv ((gt ((gt p.variables A).choices) I).delay),Iv ((gt ((gt p.variables A).choices) I).cost),Iv ((gt ((gt p.variables A).choices) I).changes),Sl Ag ((gt ((gt p.variables A).choices) I).uses) Cg] 58),(some W,Oc [Iv ((gt p.variables A).flight),Iv ((gt p.variables A).node),Sl Ae ((gt p.variables A).leaves) Ce,Sl Af ((gt p.variables A).choices) Cf] 61),(some Q,J),(some b1,Oc (C0 p Aa Ca Ab Cb Ac Cc) 26)] O) (Value.func (.func 41) #[] #[]) (vA FO) (vA FO) (vI .i64) (fun c0 c1=>DB c0 c1):=by
  intro nZ O356 kZ f7 n0 n1 c0 c1 n2 iG iH f8
  obtain⟨_,rfl,⟨_,_,rfl,⟨_,_,rfl,rfl,⟨_,_,rfl,⟨rfl,k0⟩,⟨rfl,k1⟩⟩⟩,⟨rfl,k2⟩⟩⟩:=iG
  obtain⟨_,rfl,⟨_,_,rfl,⟨_,_,rfl,rfl,⟨_,_,rfl,⟨rfl,k3⟩,⟨rfl,k4⟩⟩⟩,⟨rfl,k5⟩⟩⟩:=iH
  exact⟨41,#[],#[],Av,Try.call41,Ho (a:=c0) (b:=c1) f7 k0 k1 k2 k3 k4 k5 f8⟩
 have iI:=(eH.trans (eI.trans (bB.trans (b7.trans cW))))
 replace Fg:=Fg.step iI
 refine BN Av Av<|Bj aR Try.call40 (OX (l:=(gt ((gt p.variables A).choices) I).uses) (less:=(fun bC bD=>DB bC bD)) aR.ltw Fg F333 f6) Av ?_
 rintro n3 n4 iJ f9 iK
 clear aR
 obtain rfl:=iK
 refine BN Av Av<|Es Av<|FF (Bo (!cZ)) Av Av<|Ay ?_
 replace Z:=Z.trans (bB.trans (b7.trans (cW.trans iJ)))
 exact a8 _ _ ⟨!cZ,_,Av,BB.of ⟨Av,trivial⟩,Z,f9,F⟩
 refine Br<|Aw<|AA<|Bm Av Av<|Be (Iv (wq (A+1))) Av<|Ay ?_
 have gA:=aM.drop 0
 have iL:=(aM.dropS 0)
 clear aM
 have iM:=(eF.trans (a3.trans iL))
 replace bK:=bK.trans iM
 exact e9 _ _ ⟨(wq (A+1)),_,Av,BB.of ⟨Av,trivial⟩,bK,gA,(AZ .i64 _),Ed dX F⟩
 intro n5 aS
 have U:=aE.stepR
 clear bZ
 refine B9 (g0:=[]) (m:=36) (fl:=[]) (Dc aE) Av (.inl Av) Av (by decide+kernel) ?_  -- 20
 refine Ba (Pt W 2) (fun _ _ _ hi G=>AP 2 Ex Av Bp (G 9 Av) Av<|Gz hi)<|Ba (Sl Ae ((gt p.variables A).leaves) Ce) (fun _ _ _ hi G=>AQ 0 Bp (AB.nx hi).1 (G 82 Av) Av Av<|Gz hi)<|Ba (Iv (((gt p.variables A).leaves).length:Int)) (fun _ _ _ hi G=>Bd Try.underlying31 (G 83 Av)<|Gz hi)<|Ba (Bo (decide ((((gt p.variables A).leaves).length:Int)=0))) (fun _ _ _ hi G=>GV (G 84 Av) Av<|Gz hi)<|Gf (decide ((((gt p.variables A).leaves).length:Int)=0)) (fun _ _ _ _ hi G=>Az<|AD (v:=Bo (decide ((((gt p.variables A).leaves).length:Int)=0))) (G 85 Av)<|Gz hi) (fun bP=>?_) (fun bP=>?_)
 replace F:=GA F bP
 iterate 5 refine E7 Av Av (fun _ _ _ h=>h) Av ?_
 refine Ba (Bo true) (fun _ _ _ hi G=>C6 (v:=Bo true) (G 86 Av) Av<|Gz hi)<|Ba (Bo true) (fun _ _ _ hi G=>AD (v:=Bo true) (G 92 Av)<|Gz hi) ?_
 iterate 4 refine E7 Av Av (fun _ _ _ h=>h) Av ?_
 refine Ba (Bo true) (fun _ _ _ hi G=>C6 (v:=Bo true) (G 93 Av) Av<|Gz hi)<|Ba (Bo true) (fun _ _ _ hi G=>AD (v:=Bo true) (G 98 Av)<|Gz hi) ?_
 iterate 5 refine E7 Av Av (fun _ _ _ h=>h) Av ?_
 refine Ba (Bo true) (fun _ _ _ hi G=>C6 (v:=Bo true) (G 99 Av) Av<|Gz hi)<|Ba (Bo true) (fun _ _ _ hi G=>AD (v:=Bo true) (G 105 Av)<|Gz hi) ?_
 iterate 11 refine E7 Av Av (fun _ _ _ h=>h) Av ?_
 refine BA fun n6 n7 gB gC=>?_
 obtain⟨-,d3,-⟩:=gB
 obtain⟨c2,iN⟩:=AB.nx gC
 rintro _ rfl _ rfl _ rfl _ rfl _ rfl _ rfl _ rfl _ rfl _ rfl _ rfl _ rfl _ rfl _ rfl _ rfl _ rfl _ rfl _ rfl _ rfl _ rfl _ rfl _ rfl _ rfl _ rfl _ rfl _ rfl _ rfl _ rfl _ rfl _ rfl _ rfl _ rfl _ rfl _ rfl _ rfl _ rfl _ rfl
 have iO:=aE.to c2 (d3.trans iN)
 refine AI Av (AJ Av Av) Av<|FR (Bo true) Av Av<|Ay ?_
 replace U:=U.trans iO
 exact aS _ _ ⟨true,_,Av,BB.of ⟨Av,trivial⟩,U,c2,F⟩
 replace F:=GB F bP
 refine CV (Pt W 3) Av Av (fun _ _ _ h=>h) (fun _ _ _ hi G=>AP 3 Ex Av G0 (G 9 Av) Av<|Gz hi)<|CV (Sl Af ((gt p.variables A).choices) Cf) Av Av (fun _ _ _ h=>h) (fun _ _ _ hi G=>AQ 0 G0 (AB.nx hi).1 (G 87 Av) Av Av<|Gz hi)<|CV (Iv (((gt p.variables A).choices).length:Int)) Av Av (fun _ _ _ h=>h) (fun _ _ _ hi G=>Bd Try.underlying59 (G 88 Av)<|Gz hi) ?_
 obtain⟨X,gD,F⟩:=bd F
 have eL:=(eD.trans eE)
 replace Ff:=Ff.step eL
 refine Bc (VD _ _ vB X) (VD.stab _ _) (fun k6 n8 g aK hi G=>?_) ?_
 obtain⟨-,bQ,-⟩:=aK
 replace Ff:=Ff.step bQ
 refine BI Av (G 86 Av) (FT Try.call33 (EH (O:=ks (Em g++[(some W,Oc [Iv ((gt p.variables A).flight),Iv ((gt p.variables A).node),Sl Ae ((gt p.variables A).leaves) Ce,Sl Af ((gt p.variables A).choices) Cf] 61),(some Q,J),(some b1,Oc (C0 p Aa Ca Ab Cb Ac Cc) 26)]) O) (n:=(((gt p.variables A).choices).length:Int)) (lo:=1) (hi:=96) hi.ltw (Bb Ff) MC (show BR .i64 96 from by decide) gD) (by simp only [List.map,Array.toList,(show ev _ (.tmp 89)=_ from(G 89 Av)),(show ev _ (.const (.int .i64 1))=.int .i64 1 from Av),(show ev _ (.const (.int .i64 96))=.int .i64 96 from Av)]<;> rfl) ?_)
 rintro n9 oA ⟨gE,iP⟩
 exact Bs.call hi gE iP
 refine Do (Bo (!X)) (fun k7 oB g aK hi G=>?_) ?_
 have iQ:Vr.vd vB _ _ _ _:=G 90 Av
 have iR:_=(Bo X):=iQ
 exact BI Av (G 86 Av)<|Es iR<|Gz hi
 refine Ba (Bo (!X)) (fun _ _ _ hi G=>Ek (v:=Bo (!X)) (G 86 Av) (G 91 Av)<|Gz hi)<|Gf (!X) (fun _ _ _ _ hi G=>Az<|AD (v:=Bo (!X)) (G 92 Av)<|Gz hi) (fun bR=>?_) (fun bR=>?_)
 replace F:=GA F bR
 iterate 4 refine E7 Av Av (fun _ _ _ h=>h) Av ?_
 refine Ba (Bo true) (fun _ _ _ hi G=>C6 (v:=Bo true) (G 93 Av) Av<|Gz hi)<|Ba (Bo true) (fun _ _ _ hi G=>AD (v:=Bo true) (G 98 Av)<|Gz hi) ?_
 iterate 5 refine E7 Av Av (fun _ _ _ h=>h) Av ?_
 refine Ba (Bo true) (fun _ _ _ hi G=>C6 (v:=Bo true) (G 99 Av) Av<|Gz hi)<|Ba (Bo true) (fun _ _ _ hi G=>AD (v:=Bo true) (G 105 Av)<|Gz hi) ?_
 iterate 11 refine E7 Av Av (fun _ _ _ h=>h) Av ?_
 refine BA fun oC oD gF gG=>?_
 obtain⟨-,d4,-⟩:=gF
 obtain⟨c3,iS⟩:=AB.nx gG
 rintro _ rfl _ rfl _ rfl _ rfl _ rfl _ rfl _ rfl _ rfl _ rfl _ rfl _ rfl _ rfl _ rfl _ rfl _ rfl _ rfl _ rfl _ rfl _ rfl _ rfl _ rfl _ rfl _ rfl _ rfl _ rfl _ rfl _ rfl oE c4
 replace c4:Vr.vd vB _ _ _ _:=c4
 obtain rfl:=c4
 rintro _ rfl _ rfl _ rfl _ rfl _ rfl _ rfl _ rfl _ rfl
 have iT:=aE.to c3 (d4.trans iS)
 refine AI Av (AJ Av Av) Av<|FR (Bo true) Av Av<|Ay ?_
 replace U:=U.trans iT
 exact aS _ _ ⟨true,_,Av,BB.of ⟨Av,trivial⟩,U,c3,F⟩
 replace F:=GB F bR
 refine CV (Pt W 2) Av Av (fun _ _ _ h=>h) (fun _ _ _ hi G=>AP 2 Ex Av Bp (G 9 Av) Av<|Gz hi)<|CV (Sl Ae ((gt p.variables A).leaves) Ce) Av Av (fun _ _ _ h=>h) (fun _ _ _ hi G=>AQ 0 Bp (AB.nx hi).1 (G 94 Av) Av Av<|Gz hi) ?_
 obtain⟨N,gH,F⟩:=bd F
 replace Fe:=Fe.step eL
 refine Bc (VD _ _ vB N) (VD.stab _ _) (fun k9 c5 g aK hi G=>?_) ?_
 obtain⟨-,bQ,-⟩:=aK
 replace Fe:=Fe.step bQ
 have F490:EB Try.prog c5 (ks (Em g++[(some W,Oc [Iv ((gt p.variables A).flight),Iv ((gt p.variables A).node),Sl Ae ((gt p.variables A).leaves) Ce,Sl Af ((gt p.variables A).choices) Cf] 61),(some Q,J),(some b1,Oc (C0 p Aa Ca Ab Cb Ac Cc) 26)]) O) (Value.func (.func 39) #[] #[]) (vI .i64) (vI .i64) (vI .i64) (fun c6 c7=>Db c6 c7):=by
  intro oF O492 lA gI oG oH c6 c7 oI iU iV gJ
  obtain⟨rfl,lB⟩:=iU
  obtain⟨rfl,lC⟩:=iV
  exact⟨39,#[],#[],Av,Try.call39,Ga (x_:=c6) (y:=c7) gI lB lC gJ⟩
 have F505:EB Try.prog c5 (ks (Em g++[(some W,Oc [Iv ((gt p.variables A).flight),Iv ((gt p.variables A).node),Sl Ae ((gt p.variables A).leaves) Ce,Sl Af ((gt p.variables A).choices) Cf] 61),(some Q,J),(some b1,Oc (C0 p Aa Ca Ab Cb Ac Cc) 26)]) O) (Value.func (.func 39) #[] #[]) (vI .i64) (vI .i64) (vI .i64) (fun c8 c9=>Db c8 c9):=by
  intro oJ O507 lD gK oK oL c8 c9 oM iW iX gL
  obtain⟨rfl,lE⟩:=iW
  obtain⟨rfl,lF⟩:=iX
  exact⟨39,#[],#[],Av,Try.call39,Ga (x_:=c8) (y:=c9) gK lE lF gL⟩
 have F520:EB Try.prog c5 (ks (Em g++[(some W,Oc [Iv ((gt p.variables A).flight),Iv ((gt p.variables A).node),Sl Ae ((gt p.variables A).leaves) Ce,Sl Af ((gt p.variables A).choices) Cf] 61),(some Q,J),(some b1,Oc (C0 p Aa Ca Ab Cb Ac Cc) 26)]) O) (Value.func (.func 39) #[] #[]) (vI .i64) (vI .i64) (vI .i64) (fun bE bF=>Db bE bF):=by
  intro oN O522 lG gM oO oP bE bF oQ iY iZ gN
  obtain⟨rfl,lH⟩:=iY
  obtain⟨rfl,lI⟩:=iZ
  exact⟨39,#[],#[],Av,Try.call39,Ga (x_:=bE) (y:=bF) gM lH lI gN⟩
 refine BI Av (G 93 Av) (FT Try.call38 (JT (O:=ks (Em g++[(some W,Oc [Iv ((gt p.variables A).flight),Iv ((gt p.variables A).node),Sl Ae ((gt p.variables A).leaves) Ce,Sl Af ((gt p.variables A).choices) Cf] 61),(some Q,J),(some b1,Oc (C0 p Aa Ca Ab Cb Ac Cc) 26)]) O) (l:=(gt p.variables A).leaves) (less:=(fun bE bF=>Db bE bF)) hi.ltw Fe F520 gH) (by simp only [List.map,Array.toList,(show ev _ (.tmp 95)=_ from(G 95 Av)),(show ev _ (.func 39)=_ from Av)]<;> rfl) ?_)
 rintro oR oS ⟨gO,i0⟩
 exact Bs.call hi gO i0
 refine Do (Bo (!N)) (fun lJ oT g aK hi G=>?_) ?_
 have i1:Vr.vd vB _ _ _ _:=G 96 Av
 have i2:_=(Bo N):=i1
 exact BI Av (G 93 Av)<|Es i2<|Gz hi
 refine Ba (Bo (!N)) (fun _ _ _ hi G=>Ek (v:=Bo (!N)) (G 93 Av) (G 97 Av)<|Gz hi)<|Gf (!N) (fun _ _ _ _ hi G=>Az<|AD (v:=Bo (!N)) (G 98 Av)<|Gz hi) (fun bS=>?_) (fun bS=>?_)
 replace F:=GA F bS
 iterate 5 refine E7 Av Av (fun _ _ _ h=>h) Av ?_
 refine Ba (Bo true) (fun _ _ _ hi G=>C6 (v:=Bo true) (G 99 Av) Av<|Gz hi)<|Ba (Bo true) (fun _ _ _ hi G=>AD (v:=Bo true) (G 105 Av)<|Gz hi) ?_
 iterate 11 refine E7 Av Av (fun _ _ _ h=>h) Av ?_
 refine BA fun oU oV gP gQ=>?_
 obtain⟨-,d5,-⟩:=gP
 obtain⟨dA,i3⟩:=AB.nx gQ
 rintro _ rfl _ rfl _ rfl _ rfl _ rfl _ rfl _ rfl _ rfl _ rfl _ rfl _ rfl _ rfl _ rfl _ rfl _ rfl _ rfl _ rfl _ rfl _ rfl _ rfl _ rfl oW dB
 replace dB:Vr.vd vB _ _ _ _:=dB
 obtain rfl:=dB
 rintro _ rfl _ rfl _ rfl _ rfl _ rfl oX dC
 replace dC:Vr.vd vB _ _ _ _:=dC
 obtain rfl:=dC
 rintro _ rfl _ rfl _ rfl _ rfl _ rfl _ rfl _ rfl _ rfl
 have i4:=aE.to dA (d5.trans i3)
 refine AI Av (AJ Av Av) Av<|FR (Bo true) Av Av<|Ay ?_
 replace U:=U.trans i4
 exact aS _ _ ⟨true,_,Av,BB.of ⟨Av,trivial⟩,U,dA,F⟩
 replace F:=GB F bS
 refine CV (Pt W 2) Av Av (fun _ _ _ h=>h) (fun _ _ _ hi G=>AP 2 Ex Av Bp (G 9 Av) Av<|Gz hi)<|CV (Sl Ae ((gt p.variables A).leaves) Ce) Av Av (fun _ _ _ h=>h) (fun _ _ _ hi G=>AQ 0 Bp (AB.nx hi).1 (G 100 Av) Av Av<|Gz hi) ?_
 obtain⟨dD,F⟩:=AG F
 refine Bc (VP _ _ (AM .i64) (((gt p.variables A).leaves).getD 0 default)) (VP.stab _ _) (fun lK oY g aK hi G=>?_) ?_
 obtain⟨-,bQ,-⟩:=aK
 replace Fe:=Fe.step bQ
 refine BI Av (G 99 Av)<|AC (q:=(AM .i64)) Bp BD (G 101 Av) Av Fe Av dD.1 dD.2 ?_
 intro oZ i5
 exact Bs.same hi ⟨_,Av,i5⟩
 refine Bc (VD _ _ (vI .i64) (((gt p.variables A).leaves).getD 0 default)) (VD.stab _ _) (fun lL o0 g aK hi G=>?_) ?_
 obtain⟨o1,i6,i7⟩:=G 102 Av
 refine BI Av (G 99 Av)<|AX BD i6 i7 Av ?_
 intro o2 i8
 obtain⟨rfl,lM⟩:=C3 i8
 exact Bs.same hi (show Vr.vd (vI .i64) _ _ _ _ from⟨Av,lM⟩)
 refine Do (Bo (decide ((((gt p.variables A).leaves).getD 0 default)<0))) (fun lN o3 g aK hi G=>?_) ?_
 have i9:Vr.vd (vI .i64) _ _ _ _:=G 103 Av
 obtain⟨jA,qM⟩:=i9
 exact BI Av (G 99 Av)<|Bu jA Av<|Gz hi
 refine Ba (Bo (decide ((((gt p.variables A).leaves).getD 0 default)<0))) (fun _ _ _ hi G=>Ek (v:=Bo (decide ((((gt p.variables A).leaves).getD 0 default)<0))) (G 99 Av) (G 104 Av)<|Gz hi)<|Gf (decide ((((gt p.variables A).leaves).getD 0 default)<0)) (fun _ _ _ _ hi G=>Az<|AD (v:=Bo (decide ((((gt p.variables A).leaves).getD 0 default)<0))) (G 105 Av)<|Gz hi) (fun bT=>?_) (fun bT=>?_)
 replace F:=GA F bT
 iterate 11 refine E7 Av Av (fun _ _ _ h=>h) Av ?_
 refine BA fun o4 o5 gR gS=>?_
 obtain⟨-,d6,-⟩:=gR
 obtain⟨dE,eM⟩:=AB.nx gS
 rintro _ rfl _ rfl _ rfl _ rfl _ rfl _ rfl _ rfl _ rfl _ rfl _ rfl _ rfl _ rfl _ rfl _ rfl o6 dF
 replace dF:Vr.vd (vI .i64) _ _ _ _:=dF
 obtain⟨rfl,qN⟩:=dF
 rintro _ ⟨o7,rfl,eN⟩ _ rfl _ rfl _ rfl _ rfl _ rfl o8 dG
 replace dG:Vr.vd vB _ _ _ _:=dG
 obtain rfl:=dG
 rintro _ rfl _ rfl _ rfl _ rfl _ rfl o9 dH
 replace dH:Vr.vd vB _ _ _ _:=dH
 obtain rfl:=dH
 rintro _ rfl _ rfl _ rfl _ rfl _ rfl _ rfl _ rfl _ rfl
 have jB:=aE.to dE (d6.trans eM)
 replace eN:=eN.step eM
 refine AI Av (AJ Av Av) Av<|FR (Bo true) Av Av<|Ay ?_
 replace U:=U.trans jB
 exact aS _ _ ⟨true,_,Av,BB.of ⟨Av,trivial⟩,U,dE,F⟩
 replace F:=GB F bT
 refine CV (Pt W 2) Av Av (fun _ _ _ h=>h) (fun _ _ _ hi G=>AP 2 Ex Av Bp (G 9 Av) Av<|Gz hi)<|CV (Sl Ae ((gt p.variables A).leaves) Ce) Av Av (fun _ _ _ h=>h) (fun _ _ _ hi G=>AQ 0 Bp (AB.nx hi).1 (G 107 Av) Av Av<|Gz hi)<|CV (Pt W 2) Av Av (fun _ _ _ h=>h) (fun _ _ _ hi G=>AP 2 Ex Av Bp (G 9 Av) Av<|Gz hi)<|CV (Sl Ae ((gt p.variables A).leaves) Ce) Av Av (fun _ _ _ h=>h) (fun _ _ _ hi G=>AQ 0 Bp (AB.nx hi).1 (G 109 Av) Av Av<|Gz hi)<|CV (Iv (((gt p.variables A).leaves).length:Int)) Av Av (fun _ _ _ h=>h) (fun _ _ _ hi G=>Bd Try.underlying31 (G 110 Av)<|Gz hi)<|CV (Iv (wq ((((gt p.variables A).leaves).length:Int) - 1))) Av Av (fun _ _ _ h=>h) (fun _ _ _ hi G=>FC (G 111 Av) Av<|Gz hi) ?_
 obtain⟨dI,F⟩:=AG F
 refine Bc (VP _ _ (AM .i64) (gt ((gt p.variables A).leaves) (wq ((((gt p.variables A).leaves).length:Int) - 1)))) (VP.stab _ _) (fun lO pA g aK hi G=>?_) ?_
 obtain⟨-,bQ,-⟩:=aK
 replace Fe:=Fe.step bQ
 refine BI Av (G 106 Av)<|AC (q:=(AM .i64)) Bp BD (G 108 Av) (G 112 Av) Fe Av dI.1 dI.2 ?_
 intro pB jC
 exact Bs.same hi ⟨_,Av,jC⟩
 refine Bc (VD _ _ (vI .i64) (gt ((gt p.variables A).leaves) (wq ((((gt p.variables A).leaves).length:Int) - 1)))) (VD.stab _ _) (fun lP pC g aK hi G=>?_) ?_
 obtain⟨pD,jD,jE⟩:=G 113 Av
 refine BI Av (G 106 Av)<|AX BD jD jE Av ?_
 intro pE jF
 obtain⟨rfl,lQ⟩:=C3 jF
 exact Bs.same hi (show Vr.vd (vI .i64) _ _ _ _ from⟨Av,lQ⟩)
 refine CV (Pt b1 1) Av Av (fun _ _ _ h=>h) (fun _ _ _ hi G=>AP 1 Bw Av CB (G 1 Av) Av<|Gz hi)<|CV (Sl Ab p.capacity Cb) Av Av (fun _ _ _ h=>h) (fun _ _ _ hi G=>AQ 2 CB (AB.nx hi).1 (G 115 Av) Av Av<|Gz hi)<|CV (Iv (p.capacity.length:Int)) Av Av (fun _ _ _ h=>h) (fun _ _ _ hi G=>Bd Try.underlying23 (G 116 Av)<|Gz hi)<|BA fun pF pG gT gU=>?_
 obtain⟨-,d7,-⟩:=gT
 obtain⟨dJ,dK⟩:=AB.nx gU
 rintro _ rfl _ rfl _ rfl pH dL
 replace dL:Vr.vd (vI .i64) _ _ _ _:=dL
 obtain⟨rfl,qO⟩:=dL
 rintro _ ⟨pI,rfl,eO⟩ _ rfl _ rfl _ rfl _ rfl _ rfl _ rfl _ rfl _ rfl _ rfl pJ dM
 replace dM:Vr.vd (vI .i64) _ _ _ _:=dM
 obtain⟨rfl,qP⟩:=dM
 rintro _ ⟨pK,rfl,eP⟩ _ rfl _ rfl _ rfl _ rfl _ rfl pL dN
 replace dN:Vr.vd vB _ _ _ _:=dN
 obtain rfl:=dN
 rintro _ rfl _ rfl _ rfl _ rfl _ rfl pM dO
 replace dO:Vr.vd vB _ _ _ _:=dO
 obtain rfl:=dO
 rintro _ rfl _ rfl _ rfl _ rfl _ rfl _ rfl _ rfl _ rfl
 have jG:=aE.to dJ (d7.trans dK)
 replace eO:=eO.step dK;replace eP:=eP.step dK
 refine BN Av Av<|Hk Av Av<|FF (Bo (decide ((p.capacity.length:Int)≤(gt ((gt p.variables A).leaves) (wq ((((gt p.variables A).leaves).length:Int) - 1)))))) Av Av<|Ay ?_
 replace U:=U.trans jG
 exact aS _ _ ⟨decide ((p.capacity.length:Int)≤(gt ((gt p.variables A).leaves) (wq ((((gt p.variables A).leaves).length:Int) - 1)))),_,Av,BB.of ⟨Av,trivial⟩,U,dJ,F⟩
 refine Br<|Ax ?_
 obtain⟨gV,pN⟩:=a1.sub (bs':=[]) (.cons _ (.cons _ List.Sublist.slnil))
 clear Fa Fb Fc
 clear a1
 refine Aw<|Bn (Iv 0) Av<|Ay<|AY<|⟨_,En,[Iv 0],⟨Av,trivial⟩,gV.ext,?_⟩
 exact Vr.eq (a:=(vI .i64)) (x:=0) ⟨Av,EG⟩ (oi F)
 intro qQ b8
 have aA:=bJ.stepR
 refine Aw<|AA<|AP 0 Bw Av F1 Av Av<|AA<|AQ 0 F1 bJ Av Av Av<|AA<|Bd Try.underlying22 Av ?_
 replace Fa:=Fa.step p3
 have lR:=Bb Fa
 refine AA<|EY Av Av<|Be (Bo (decide (4096<(p.cells.length:Int)))) Av<|B4 F (fun gW F=>?_) (fun gW F=>?_)
 iterate 5 refine AI Av (AJ Av Av) Av ?_
 refine FR (Bo true) Av Av<|Be (Bo true) Av ?_
 iterate 4 refine AI Av (AJ Av Av) Av ?_
 refine FR (Bo true) Av Av<|Be (Bo true) Av ?_
 iterate 4 refine AI Av (AJ Av Av) Av ?_
 exact FR (Bo true) Av Av<|Ay<|b8 _ _ ⟨true,_,Av,BB.of ⟨Av,trivial⟩,aA,bJ,F⟩
 refine BN Av Av<|AP 1 Bw Av CB Av Av<|BN Av Av<|AQ 0 CB bJ Av Av Av<|BN Av Av<|Bd Try.underlying23 Av ?_
 replace Fb:=Fb.step p3
 have gX:=Bb Fb
 obtain⟨aX,gY,F⟩:=bd F
 refine BN Av Av<|Bj bJ Try.call33 (EH (n:=(p.capacity.length:Int)) (lo:=1) (hi:=32) bJ.ltw gX MC (show BR .i64 32 from by decide) gY) Av ?_
 rintro pO dP bG aH jH
 obtain rfl:=jH
 refine BN Av Av<|Es Av<|FF (Bo (!aX)) Av Av<|Be (Bo (!aX)) Av<|B4 F (fun gZ F=>?_) (fun gZ F=>?_)
 iterate 4 refine AI Av (AJ Av Av) Av ?_
 refine FR (Bo true) Av Av<|Be (Bo true) Av ?_
 iterate 4 refine AI Av (AJ Av Av) Av ?_
 refine FR (Bo true) Av Av<|Ay ?_
 replace aA:=aA.trans bG
 exact b8 _ _ ⟨true,_,Av,BB.of ⟨Av,trivial⟩,aA,aH,F⟩
 refine BN Av Av<|AP 2 Bw Av CI Av Av<|BN Av Av<|AQ 0 CI aH Av Av Av<|BN Av Av<|Bd Try.underlying24 Av ?_
 replace Fc:=Fc.step (p3.trans bG)
 have lS:=Bb Fc
 refine BN Av Av<|EY Av Av<|FF (Bo (decide (64<(p.variables.length:Int)))) Av Av<|Be (Bo (decide (64<(p.variables.length:Int)))) Av<|B4 F (fun g1 F=>?_) (fun g1 F=>?_)
 iterate 4 refine AI Av (AJ Av Av) Av ?_
 refine FR (Bo true) Av Av<|Ay ?_
 replace aA:=aA.trans bG
 exact b8 _ _ ⟨true,_,Av,BB.of ⟨Av,trivial⟩,aA,aH,F⟩
 refine BN Av Av<|AP 0 Bw Av F1 Av Av<|BN Av Av<|AQ 0 F1 aH Av Av Av ?_
 have F722:EB Try.prog dP (ks [(some b1,Oc (C0 p Aa Ca Ab Cb Ac Cc) 26)] O) (Value.func (.func 35) #[] #[]) (vA B2) (vA B2) (vI .i64) (fun dQ dR=>CL dQ dR):=by
  intro pP O724 lT g2 pQ pR dQ dR pS jI jJ g3
  obtain⟨_,rfl,⟨_,_,rfl,rfl,⟨_,_,rfl,⟨rfl,lU⟩,⟨rfl,lV⟩⟩⟩⟩:=jI
  obtain⟨_,rfl,⟨_,_,rfl,rfl,⟨_,_,rfl,⟨rfl,lW⟩,⟨rfl,lX⟩⟩⟩⟩:=jJ
  exact⟨35,#[],#[],Av,Try.call35,G2 (a:=dQ) (b:=dR) g2 lU lV lW lX g3⟩
 have F737:EB Try.prog dP (ks [(some b1,Oc (C0 p Aa Ca Ab Cb Ac Cc) 26)] O) (Value.func (.func 35) #[] #[]) (vA B2) (vA B2) (vI .i64) (fun bH bI=>CL bH bI):=by
  intro pT O739 lY g4 pU pV bH bI pW jK jL g5
  obtain⟨_,rfl,⟨_,_,rfl,rfl,⟨_,_,rfl,⟨rfl,lZ⟩,⟨rfl,l1⟩⟩⟩⟩:=jK
  obtain⟨_,rfl,⟨_,_,rfl,rfl,⟨_,_,rfl,⟨rfl,l2⟩,⟨rfl,l3⟩⟩⟩⟩:=jL
  exact⟨35,#[],#[],Av,Try.call35,G2 (a:=bH) (b:=bI) g4 lZ l1 l2 l3 g5⟩
 obtain⟨b9,g6,F⟩:=bd F
 have F758:EB Try.prog dP (ks [(some b1,Oc (C0 p Aa Ca Ab Cb Ac Cc) 26)] O) (Value.func (.func 35) #[] #[]) (vA B2) (vA B2) (vI .i64) (fun dS dT=>CL dS dT):=by
  intro pX O760 l4 g7 pY pZ dS dT p0 jM jN g8
  obtain⟨_,rfl,⟨_,_,rfl,rfl,⟨_,_,rfl,⟨rfl,l5⟩,⟨rfl,l6⟩⟩⟩⟩:=jM
  obtain⟨_,rfl,⟨_,_,rfl,rfl,⟨_,_,rfl,⟨rfl,l7⟩,⟨rfl,l8⟩⟩⟩⟩:=jN
  exact⟨35,#[],#[],Av,Try.call35,G2 (a:=dS) (b:=dT) g7 l5 l6 l7 l8 g8⟩
 replace Fa:=Fa.step bG
 refine BN Av Av<|Bj aH Try.call34 (NF (l:=p.cells) (less:=(fun bH bI=>CL bH bI)) aH.ltw Fa F737 g6) Av ?_
 rintro p1 p2 jO g9 jP
 clear aH
 obtain rfl:=jP
 refine BN Av Av<|Es Av<|FF (Bo (!b9)) Av Av<|Ay ?_
 have jQ:=(bG.trans jO)
 replace aA:=aA.trans jQ
 exact b8 _ _ ⟨!b9,_,Av,BB.of ⟨Av,trivial⟩,aA,g9,F⟩

end Go.Fx
