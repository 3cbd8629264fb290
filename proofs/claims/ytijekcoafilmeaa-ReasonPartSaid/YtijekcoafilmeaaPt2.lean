/- Part 2 of the proof: a reason is a problem without a solution that keeps its capacities. -/
import Derived.Test.YtijekcoafilmeaaPt1
import Derived.Maps.RangeRun
import Derived.Laws.StructEq
import Derived.Shelf.SlSortCmp.NoneTotal
import Derived.Shelf.SlGeneric
import Derived.Ground.SlsfProg
import Derived.Test.YtijekcoafilmeaaChecked
import Derived.Test.YtijekcoafilmeaaRows
import Derived.WalkKit
import Derived.ShutString
/- Maps with keys that are numbers or structs of numbers, and scalar elements: models (sorted lists of pairs), what stands in memory, one lemma an operation. No program in sight. -/
set_option linter.unusedSimpArgs false
set_option linter.unusedVariables false
set_option linter.unusedSectionVars false
namespace Go.Fx
open Go Go.RowKit

/-! keys -/
def lexLt:List Int→List Int→Bool
  |[],[] =>false
  |[],_::_=>true
  |_::_,[] =>false
  |x::s,y::t=>decide (x<y)||(decide (x=y)&&lexLt s t)
theorem lexLt_irr:∀a,lexLt a a=false
  |[] =>rfl
  |x::s=>by unfold lexLt;rw [decide_eq_false (Int.lt_irrefl x),lexLt_irr s];simp
theorem lexLt_trans:∀{a b c},lexLt a b=true→lexLt b c=true→lexLt a c=true
  |[],[],_,h,_=>by cases h
  |[],_::_,[],_,h=>by cases h
  |[],_::_,_::_,_,_=>rfl
  |_::_,[],_,h,_=>by cases h
  |_::_,_::_,[],_,h=>by cases h
  |x::s,y::t,z::u,h1,h2=>by
    unfold lexLt at*
    simp only [Bool.or_eq_true,Bool.and_eq_true,decide_eq_true_eq] at*
    rcases h1 with h1 |⟨h1,h1'⟩<;> rcases h2 with h2 |⟨h2,h2'⟩
    · exact .inl (by omega)
    · exact .inl (by omega)
    · exact .inl (by omega)
    · exact .inr ⟨by omega,lexLt_trans h1' h2'⟩
theorem lexLt_tri:∀{a b},lexLt a b=false→lexLt b a=false→a=b
  |[],[],_,_=>rfl
  |[],_::_,h,_=>by cases h
  |_::_,[],_,h=>by cases h
  |x::s,y::t,h1,h2=>by
    unfold lexLt at*
    simp only [Bool.or_eq_false_iff,Bool.and_eq_false_iff,decide_eq_false_iff_not] at*
    have e:x=y:=by omega
    subst e
    obtain⟨_,h1⟩:=h1
    obtain⟨_,h2⟩:=h2
    rw [lexLt_tri (h1.resolve_left fun h=>h rfl) (h2.resolve_left fun h=>h rfl)]
class Kord (K:Type) where
  ord:K→List Int
  inj:∀{a b:K},ord a=ord b→a=b
instance:Kord Int:=⟨fun x=>[x],fun h=>by simpa using h⟩
def klt {K:Type} [Kord K] (a b:K):Bool:=lexLt (Kord.ord a) (Kord.ord b)
section
variable {K : Type} [Kord K]
theorem klt_irr (a:K):klt a a=false:=lexLt_irr _
theorem klt_ne {a b:K} (h:klt a b=true):a≠b:=fun e=>by subst e;rw [klt_irr] at h;cases h
theorem klt_trans {a b c:K} (h1:klt a b=true) (h2:klt b c=true):klt a c=true:=lexLt_trans h1 h2
theorem klt_asym {a b:K} (h:klt a b=true):klt b a=false:=by
  cases h2:klt b a
  · rfl
  · have:=klt_trans h h2;rw [klt_irr] at this;cases this
theorem klt_tri {a b:K} (h1:klt a b=false) (h2:a≠b):klt b a=true:=by
  cases h:klt b a
  · exact absurd (Kord.inj (lexLt_tri h1 h)) h2
  · rfl
end
/-! models -/
section model
variable {K V : Type} [DecidableEq K]
def mget:List (K × V)→K→Option V
  |[],_=>none
  |(k,v)::t,n=>if k=n then some v else mget t n
def mput [Kord K]:List (K × V)→K→V→List (K × V)
  |[],n,x=>[(n,x)]
  |(k,v)::t,n,x=>if klt n k=true then (n,x)::(k,v)::t else if n=k then (n,x)::t else (k,v)::mput t n x
def mdel (l:List (K × V)) (n:K):List (K × V):=l.filter fun p=>!decide (p.1=n)
def Ris [Kord K] (l:List (K × V)):Prop:=l.Pairwise fun p q=>klt p.1 q.1=true
theorem mget_put [Kord K] (l:List (K × V)) (n m:K) (x:V):mget (mput l n x) m=if n=m then some x else mget l m:=by
  induction l with
  |nil=>simp [mput,mget]
  |cons p t ih=>
    obtain⟨k,v⟩:=p
    unfold mput
    by_cases h1:klt n k=true
    · simp only [h1,if_true,mget]
    · by_cases h2 : n = k
      · subst h2;simp only [klt_irr,Bool.false_eq_true,if_false,if_true,mget];split<;> rfl
      · simp only [h1, h2, Bool.false_eq_true, if_false, mget, ih]
        by_cases h3:k=m
        · have : ¬ n = m := fun e => h2 (e.trans h3.symm)
          simp [h3,this]
        · simp [h3]
theorem mget_none {l:List (K × V)} {n:K} (h:mget l n=none):∀p∈l,p.1≠n:=by
  induction l with
  |nil=>intro p hp;cases hp
  |cons q t ih=>
    obtain⟨k,v⟩:=q
    unfold mget at h
    split at h
    · cases h
    · rename_i hk
      intro p hp
      rcases List.mem_cons.1 hp with e |hp
      · subst e;exact hk
      · exact ih h p hp
theorem mget_some {l:List (K × V)} {n:K} {x:V} (h:mget l n=some x):(n,x)∈l:=by
  induction l with
  |nil=>cases h
  |cons q t ih=>
    obtain⟨k,v⟩:=q
    unfold mget at h
    split at h
    · rename_i hk;subst hk;cases h;simp
    · exact List.mem_cons_of_mem _ (ih h)
theorem mget_of [Kord K] {l:List (K × V)} (hr:Ris l) {n:K} {x:V} (h:(n,x)∈l):mget l n=some x:=by
  induction l with
  |nil=>cases h
  |cons q t ih=>
    obtain⟨k,v⟩:=q
    have hr':=List.pairwise_cons.1 hr
    unfold mget
    rcases List.mem_cons.1 h with e |h
    · cases e;simp
    · have := hr'.1 _ h
      simp only at this
      rw [if_neg (klt_ne this)];exact ih hr'.2 h
theorem mput_mem [Kord K] {l:List (K × V)} (hr:Ris l) (n:K) (x:V) (p:K × V):p∈mput l n x ↔ p=(n,x)∨(p∈l∧p.1≠n):=by
  induction l with
  |nil=>simp [mput]
  |cons q t ih=>
    obtain⟨k,v⟩:=q
    have hr':=List.pairwise_cons.1 hr
    unfold mput
    by_cases h1:klt n k=true
    · simp only [h1, if_true, List.mem_cons]
      constructor
      · rintro (h | h | h)
        · exact .inl h
        · subst h;exact .inr ⟨.inl rfl,(klt_ne h1).symm⟩
        · exact .inr ⟨.inr h,by have:=hr'.1 p h;simp only at this;exact(klt_ne (klt_trans h1 this)).symm⟩
      · rintro (h | ⟨h | h, _⟩)
        · exact .inl h
        · exact .inr (.inl h)
        · exact .inr (.inr h)
    · by_cases h2 : n = k
      · subst h2
        simp only [klt_irr,Bool.false_eq_true,if_false,if_true,List.mem_cons]
        constructor
        · rintro (h | h)
          · exact .inl h
          · exact .inr ⟨.inr h,by have:=hr'.1 p h;simp only at this;exact(klt_ne this).symm⟩
        · rintro (h | ⟨h | h, h'⟩)
          · exact .inl h
          · subst h;exact absurd rfl h'
          · exact .inr h
      · simp only [h1, h2, Bool.false_eq_true, if_false, List.mem_cons, ih hr'.2]
        constructor
        · rintro (h | h | ⟨h, h'⟩)
          · subst h;exact .inr ⟨.inl rfl,fun e=>h2 e.symm⟩
          · exact .inl h
          · exact .inr ⟨.inr h,h'⟩
        · rintro (h | ⟨h | h, h'⟩)
          · exact .inr (.inl h)
          · exact .inl h
          · exact .inr (.inr ⟨h,h'⟩)
theorem mput_ris [Kord K] {l:List (K × V)} (hr:Ris l) (n:K) (x:V):Ris (mput l n x):=by
  induction l with
  |nil=>simp [mput,Ris]
  |cons q t ih=>
    obtain⟨k,v⟩:=q
    have hr':=List.pairwise_cons.1 hr
    unfold mput
    by_cases h1:klt n k=true
    · simp only [h1, if_true]
      refine List.pairwise_cons.2 ⟨fun p hp=>?_,hr⟩
      rcases List.mem_cons.1 hp with e |hp
      · subst e;exact h1
      · have:=hr'.1 p hp;exact klt_trans h1 this
    · by_cases h2 : n = k
      · subst h2
        simp only [klt_irr,Bool.false_eq_true,if_false,if_true]
        exact List.pairwise_cons.2 ⟨fun p hp=>hr'.1 p hp,hr'.2⟩
      · simp only [h1, h2, Bool.false_eq_true, if_false]
        refine List.pairwise_cons.2 ⟨fun p hp=>?_,ih hr'.2⟩
        rcases (mput_mem hr'.2 n x p).1 hp with e |⟨hp,_⟩
        · subst e;exact klt_tri (by simpa using h1) h2
        · exact hr'.1 p hp
theorem ris_nodup [Kord K] {l:List (K × V)} (hr:Ris l):l.Nodup:=List.Pairwise.imp (fun {a b} h (e:a=b)=>klt_ne h (by rw [e])) hr
theorem mdel_ris [Kord K] {l:List (K × V)} (hr:Ris l) (n:K):Ris (mdel l n):=List.Pairwise.filter _ hr
theorem mget_del {l:List (K × V)} (n m:K):mget (mdel l n) m=if n=m then none else mget l m:=by
  induction l with
  |nil=>simp [mdel,mget]
  |cons q t ih=>
    obtain⟨k,v⟩:=q
    unfold mdel at ih ⊢
    by_cases h:k=n
    · subst h
      rw [List.filter_cons_of_neg (by simp),ih,mget]
      by_cases h2:k=m<;> simp [h2]
    · rw [List.filter_cons_of_pos (by simp [h]), mget, ih, mget]
      by_cases h2:k=m
      · have : ¬ n = m := fun e => h (h2.trans e.symm)
        simp [h2,this]
      · simp [h2]
theorem mget_ext [Kord K] {l m:List (K × V)} (hl:Ris l) (hm:Ris m) (h:∀n,mget l n=mget m n):l=m:=by
  refine List.Perm.eq_of_pairwise (le:=fun p q=>klt p.1 q.1=true) ?_ (show l.Pairwise (fun p q=>klt p.1 q.1=true) from hl) (show m.Pairwise (fun p q=>klt p.1 q.1=true) from hm) ((List.perm_ext_iff_of_nodup (ris_nodup hl) (ris_nodup hm)).2 fun p=>?_)
  · intro a b _ _ h1 h2;rw [klt_asym h1] at h2;cases h2
  · constructor
    · intro hp;exact mget_some ((h p.1).symm.trans (mget_of hl hp))
    · intro hp;exact mget_some ((h p.1).trans (mget_of hm hp))
end model

/-! what stands in memory -/
structure Mv (V:Type) where
  enc:V→Value
  ok:V→Prop
def mvI (q:IntKind):Mv Int:=⟨Value.int q,InK q⟩
def mvB:Mv Bool:=⟨Value.bool,fun _=>True⟩
structure Kk (K:Type) where
  enc:K→Value
  ok:K→Prop
def kI (q:IntKind):Kk Int:=⟨Value.int q,InK q⟩
structure KOk {K:Type} (P:Program) (kt:TypeId) (q:Kk K):Prop where
  check:∀(w:World) (e:Bool) (n:K),q.ok n→(Instr.checkKey e 10000 kt (q.enc n)).run P w=.ok () w
  none_:∀{V:Type} (m:Mv V) (w:World) (n:K) (l:List (K × V × Nat)),q.ok n→(∀e∈l,q.ok e.1∧e.1≠n)→(Instr.findKey kt (q.enc n) (l.map fun e=>(⟨q.enc e.1,m.enc e.2.1,e.2.2⟩:MapEntry))).run P w=.ok none w
  some_:∀{V:Type} (m:Mv V) (w:World) (n:K) (x:V) (b:Nat) (l1 l2:List (K × V × Nat)),q.ok n→(∀e∈l1,q.ok e.1∧e.1≠n)→(Instr.findKey kt (q.enc n) ((l1++(n,x,b)::l2).map fun e=>(⟨q.enc e.1,m.enc e.2.1,e.2.2⟩:MapEntry))).run P w=.ok (some (l1.length,m.enc x)) w
  stays:∀(w:World) (n:K),(Instr.keyThatStays (q.enc n) (q.enc n)).run P w=.ok (q.enc n) w
  inj:∀{a b:K},q.enc a=q.enc b→a=b
section keys
variable {P : Program}
theorem findNow_none {V:Type} {q:IntKind} (m:Mv V) (l:List (Int × V × Nat)) {n:Int} (h:∀e∈l,e.1≠n):∀i,Instr.findNow (.int q) (.int q n) (l.map fun e=>(⟨.int q e.1,m.enc e.2.1,e.2.2⟩:MapEntry)) i=some none:=by
  induction l with
  |nil=>intro i;rfl
  |cons e t ih=>
    intro i
    have: ¬n=e.1:=fun h'=>h e (by simp) h'.symm
    simp only [List.map_cons,Instr.findNow,Instr.sameNow,if_true]
    rw [show(n == e.1)=false from by simpa using this]
    exact ih (fun f hf=>h f (by simp [hf])) (i+1)
theorem findNow_some {V:Type} {q:IntKind} (m:Mv V) (l1 l2:List (Int × V × Nat)) {n:Int} {x:V} {b:Nat} (h:∀e∈l1,e.1≠n):∀i,Instr.findNow (.int q) (.int q n) ((l1++(n,x,b)::l2).map fun e=>(⟨.int q e.1,m.enc e.2.1,e.2.2⟩:MapEntry)) i=some (some (i+l1.length,m.enc x)):=by
  induction l1 with
  |nil=>intro i;simp [Instr.findNow,Instr.sameNow]
  |cons e t ih=>
    intro i
    have: ¬n=e.1:=fun h'=>h e (by simp) h'.symm
    simp only [List.cons_append,List.map_cons,Instr.findNow,Instr.sameNow,if_true]
    rw [show(n == e.1)=false from by simpa using this]
    simp only
    rw [ih (fun f hf=>h f (by simp [hf])) (i+1)]
    simp;omega
theorem KOk.int {kt:TypeId} {q:IntKind} (hk:P.underlying kt=some (.int q)):KOk P kt (kI q) where
  check w e n _:=by
    have:∀d,(Instr.checkKey e (d+1) kt (.int q n)).run P w=.ok () w:=fun d=>by simp [Instr.checkKey,run_underlying hk]
    exact this 9999
  none_ m w n l _ h:=by
    have:=findNow_none (q:=q) m l (n:=n) (fun e he=>(h e he).2) 0
    show(Instr.findKey kt (.int q n) (l.map fun e=>(⟨.int q e.1,m.enc e.2.1,e.2.2⟩:MapEntry))).run P w=_
    simp [Instr.findKey,run_underlying hk,this]
  some_ m w n x b l1 l2 _ h:=by
    have:=findNow_some (q:=q) m l1 l2 (n:=n) (x:=x) (b:=b) (fun e he=>(h e he).2) 0
    show(Instr.findKey kt (.int q n) ((l1++(n,x,b)::l2).map fun e=>(⟨.int q e.1,m.enc e.2.1,e.2.2⟩:MapEntry))).run P w=_
    simp only [Instr.findKey,Sem.run_bind,run_underlying hk,Result.andThen_ok,this,Sem.run_pure,Nat.zero_add]
  stays w n:=by
    have h:Instr.sameBits 10000 (.int q n) (.int q n)=true:=by
      have:∀d,Instr.sameBits (d+1) (.int q n) (.int q n)=true:=fun d=>by simp [Instr.sameBits]
      exact this 9999
    show(Instr.keyThatStays (.int q n) (.int q n)).run P w=_
    simp [Instr.keyThatStays,h]
    rfl
  inj h:=by injection h
theorem KOk.agg {K:Type} [DecidableEq K] {kt:TypeId} {q:Kk K} {fs:Array Field} (hu:P.underlying kt=some (.struct fs)) (hagg:∀n,∃cs,q.enc n=.agg cs) (hc:∀(w:World) (e:Bool) (n:K),(Instr.checkKey e 10000 kt (q.enc n)).run P w=.ok () w)
    (he:∀(w:World) (a b:K),(Op.equal kt (q.enc a) (q.enc b)).run P w=.ok (decide (a=b)) w) (hs:∀n:K,Instr.sameBits 10000 (q.enc n) (q.enc n)=true) (hi:∀{a b:K},q.enc a=q.enc b→a=b):KOk P kt q where
  check w e n _:=hc w e n
  none_ {V} m w n l _ h:=by
    have ask:∀i,(Instr.findAsking kt (q.enc n) (l.map fun e=>(⟨q.enc e.1,m.enc e.2.1,e.2.2⟩:MapEntry)) i).run P w=.ok none w:=by
      induction l with
      |nil=>intro i;simp [Instr.findAsking]
      |cons e t ih=>
        intro i
        have hne: ¬n=e.1:=fun e'=>(h e (by simp)).2 e'.symm
        simp only [List.map_cons,Instr.findAsking,Sem.run_bind,he,Result.andThen_ok,decide_eq_false hne,Bool.false_eq_true,if_false]
        exact ih (fun f hf=>h f (by simp [hf])) (i+1)
    cases l with
    |nil=>simp [Instr.findKey,run_underlying hu,Instr.findNow]
    |cons e t=>
      obtain⟨cs,hcs⟩:=hagg n
      have:Instr.findNow (.struct fs) (q.enc n) ((e::t).map fun e=>(⟨q.enc e.1,m.enc e.2.1,e.2.2⟩:MapEntry)) 0=none:=by
        rw [hcs];simp [Instr.findNow,Instr.sameNow]
      simp only [Instr.findKey,Sem.run_bind,run_underlying hu,Result.andThen_ok,this]
      exact ask 0
  some_ {V} m w n x b l1 l2 _ h:=by
    have ask:∀i,(Instr.findAsking kt (q.enc n) ((l1++(n,x,b)::l2).map fun e=>(⟨q.enc e.1,m.enc e.2.1,e.2.2⟩:MapEntry)) i).run P w=.ok (some (i+l1.length,m.enc x)) w:=by
      induction l1 with
      |nil=>intro i;simp [Instr.findAsking,he]
      |cons e t ih=>
        intro i
        have hne: ¬n=e.1:=fun e'=>(h e (by simp)).2 e'.symm
        simp only [List.cons_append,List.map_cons,Instr.findAsking,Sem.run_bind,he,Result.andThen_ok,decide_eq_false hne,Bool.false_eq_true,if_false]
        rw [ih (fun f hf=>h f (by simp [hf])) (i+1)]
        simp;omega
    obtain⟨cs,hcs⟩:=hagg n
    have:Instr.findNow (.struct fs) (q.enc n) ((l1++(n,x,b)::l2).map fun e=>(⟨q.enc e.1,m.enc e.2.1,e.2.2⟩:MapEntry)) 0=none:=by
      rw [hcs];cases l1<;> simp [Instr.findNow,Instr.sameNow]
    simp only [Instr.findKey,Sem.run_bind,run_underlying hu,Result.andThen_ok,this]
    simpa using ask 0
  stays w n:=by simp [Instr.keyThatStays,hs n]
  inj:=hi
end keys
structure MapIs {K V:Type} (q:Kk K) (m:Mv V) (es:Array MapEntry) (clock:Nat) (l:List (K × V × Nat)):Prop where
  eq:es.toList=l.map fun e=>(⟨q.enc e.1,m.enc e.2.1,e.2.2⟩:MapEntry)
  born:l.Pairwise fun e f=>e.2.2<f.2.2
  lt:∀e∈l,e.2.2<clock
  ok:∀e∈l,q.ok e.1∧m.ok e.2.1
def Mo {K V:Type} [DecidableEq K] [Kord K] (q:Kk K) (m:Mv V) (o:Obj) (xs:List (K × V)):Prop:=
  ∃es clock l,o=.map es clock∧MapIs q m es clock l∧(l.Pairwise fun e f=>e.1≠f.1)∧(∀n x,(∃b,(n,x,b)∈l) ↔ (n,x)∈xs)∧Ris xs
section mem
variable {K V : Type} [DecidableEq K] [Kord K] {q : Kk K} {m : Mv V} {o : Obj} {xs : List (K × V)}
theorem Mo.nil_:Mo q m (.map #[] 0) ([]:List (K × V)):=⟨#[],0,[],rfl,⟨rfl,List.Pairwise.nil,by simp,by simp⟩,List.Pairwise.nil,by simp,List.Pairwise.nil⟩
theorem Mo.ris (h:Mo q m o xs):Ris xs:=by obtain⟨_,_,_,_,_,_,_,h⟩:=h;exact h
theorem Mo.okOf (h:Mo q m o xs) {n:K} {x:V} (hx:mget xs n=some x):q.ok n∧m.ok x:=by
  obtain⟨es,clock,l,_,hM,_,hp,hr⟩:=h
  obtain⟨b,hb⟩:=(hp n x).2 (mget_some hx)
  exact hM.ok _ hb
theorem Mo.ok (h:Mo q m o xs) {n:K} {z:V} (hz:m.ok z):m.ok ((mget xs n).getD z):=by
  cases hg:mget xs n with
  |none=>exact hz
  |some x=>exact(h.okOf hg).2
theorem split_key {l:List (K × V × Nat)} (hd:l.Pairwise fun e f=>e.1≠f.1) {n:K} {x:V} {b:Nat} (h:(n,x,b)∈l):∃l1 l2,l=l1++(n,x,b)::l2∧(∀e∈l1,e.1≠n)∧∀e∈l2,e.1≠n:=by
  obtain⟨l1,l2,rfl⟩:=List.append_of_mem h
  rw [List.pairwise_append] at hd
  refine⟨l1,l2,rfl,fun e he=>hd.2.2 e he (n,x,b) (by simp),fun e he=>?_⟩
  exact fun h'=>(List.pairwise_cons.1 hd.2.1).1 e he h'.symm
variable {P : Program} {w : World}
theorem run_goM {r:Nat} {es:Array MapEntry} {clock:Nat} (h:w.heap[r]?=some (.map es clock)):(getObj r).run P w=.ok (.map es clock) w:=by simp [getObj,Sem.run,h]
theorem run_soM {r:Nat} {es:Array MapEntry} {clock:Nat} (o:Obj) (h:w.heap[r]?=some (.map es clock)):(setObj r o).run P w=.ok () (w.putObj r o):=by simp [setObj,Sem.run,h,World.putObj]
theorem modify_mid {α:Type} (f:α→α) (a:α) (l2:List α):∀l1:List α,(l1++a::l2).modify l1.length f=l1++f a::l2
  |[] =>rfl
  |x::l1=>by simp [modify_mid f a l2 l1]
theorem Mo.turn {es:Array MapEntry} {clock:Nat} {l1 l2:List (K × V × Nat)} {n:K} {x v:V} {b:Nat} (hM:MapIs q m es clock (l1++(n,x,b)::l2)) (hd:(l1++(n,x,b)::l2).Pairwise fun e f=>e.1≠f.1)
    (hp:∀k y,(∃b',(k,y,b')∈l1++(n,x,b)::l2) ↔ (k,y)∈xs) (hr:Ris xs) (hv:m.ok v) {es':Array MapEntry} (he:es'.toList=(l1++(n,v,b)::l2).map fun e=>(⟨q.enc e.1,m.enc e.2.1,e.2.2⟩:MapEntry)):Mo q m (.map es' clock) (mput xs n v):=by
  have h1:=hM.born
  have h2:=hM.lt
  have h3:=hM.ok
  have hd':=hd
  rw [List.pairwise_append] at h1 hd
  refine⟨es',clock,l1++(n,v,b)::l2,rfl,⟨he,?_,?_,?_⟩,?_,?_,mput_ris hr n v⟩
  · rw [List.pairwise_append]
    refine⟨h1.1,?_,fun e he f hf=>?_⟩
    · have := List.pairwise_cons.1 h1.2.1
      exact List.pairwise_cons.2 ⟨fun f hf=>this.1 f hf,this.2⟩
    · rcases List.mem_cons.1 hf with e1 | hf
      · subst e1;exact h1.2.2 e he (n,x,b) (by simp)
      · exact h1.2.2 e he f (by simp [hf])
  · intro e he
    rcases List.mem_append.1 he with h |h
    · exact h2 e (by simp [h])
    · rcases List.mem_cons.1 h with e1 | h
      · subst e1;exact h2 (n,x,b) (by simp)
      · exact h2 e (by simp [h])
  · intro e he
    rcases List.mem_append.1 he with h |h
    · exact h3 e (by simp [h])
    · rcases List.mem_cons.1 h with e1 | h
      · subst e1;exact⟨(h3 (n,x,b) (by simp)).1,hv⟩
      · exact h3 e (by simp [h])
  · rw [List.pairwise_append]
    refine⟨hd.1,?_,fun e he f hf=>?_⟩
    · have := List.pairwise_cons.1 hd.2.1
      exact List.pairwise_cons.2 ⟨fun f hf=>this.1 f hf,this.2⟩
    · rcases List.mem_cons.1 hf with e1 | hf
      · subst e1;exact hd.2.2 e he (n,x,b) (by simp)
      · exact hd.2.2 e he f (by simp [hf])
  · intro k y
    rw [mput_mem hr]
    have hn1:∀e∈l1,e.1≠n:=fun e he=>hd.2.2 e he (n,x,b) (by simp)
    have hn2:∀e∈l2,e.1≠n:=fun e he h'=>(List.pairwise_cons.1 hd.2.1).1 e he h'.symm
    constructor
    · rintro ⟨b', hb'⟩
      rcases List.mem_append.1 hb' with h |h
      · exact .inr ⟨(hp k y).1 ⟨b',by simp [h]⟩,hn1 _ h⟩
      · rcases List.mem_cons.1 h with e1 | h
        · cases e1;exact .inl rfl
        · exact .inr ⟨(hp k y).1 ⟨b',by simp [h]⟩,hn2 _ h⟩
    · rintro (e1 | ⟨h, hk⟩)
      · cases e1;exact⟨b,by simp⟩
      · obtain ⟨b', hb'⟩ := (hp k y).2 h
        rcases List.mem_append.1 hb' with h |h
        · exact⟨b',by simp [h]⟩
        · rcases List.mem_cons.1 h with e1 | h
          · cases e1;exact absurd rfl hk
          · exact⟨b',by simp [h]⟩
theorem Mo.push {es:Array MapEntry} {clock:Nat} {l:List (K × V × Nat)} {n:K} {v:V} (hM:MapIs q m es clock l) (hd:l.Pairwise fun e f=>e.1≠f.1)
    (hp:∀k y,(∃b',(k,y,b')∈l) ↔ (k,y)∈xs) (hr:Ris xs) (hg:mget xs n=none) (hn:q.ok n) (hv:m.ok v):Mo q m (.map (es.push ⟨q.enc n,m.enc v,clock⟩) (clock+1)) (mput xs n v):=by
  have hno:∀e∈l,e.1≠n:=fun e he=>mget_none hg (e.1,e.2.1) ((hp e.1 e.2.1).1 ⟨e.2.2,he⟩)
  refine⟨_,_,l++[(n,v,clock)],rfl,⟨by simp [hM.eq],?_,?_,?_⟩,?_,?_,mput_ris hr n v⟩
  · rw [List.pairwise_append];exact⟨hM.born,by simp,fun e he f hf=>by simp at hf;subst hf;exact hM.lt e he⟩
  · intro e he; simp at he; rcases he with h | h
    · have:=hM.lt e h;omega
    · subst h;simp
  · intro e he; simp at he; rcases he with h | h
    · exact hM.ok e h
    · subst h;exact⟨hn,hv⟩
  · rw [List.pairwise_append];exact⟨hd,by simp,fun e he f hf=>by simp at hf;subst hf;exact hno e he⟩
  · intro k y
    rw [mput_mem hr]
    constructor
    · rintro ⟨b', hb'⟩
      simp at hb'
      rcases hb' with h |⟨h1,h2,_⟩
      · exact .inr ⟨(hp k y).1 ⟨b',h⟩,hno _ h⟩
      · exact .inl (by rw [h1,h2])
    · rintro (e1 | ⟨h, hk⟩)
      · cases e1;exact⟨clock,by simp⟩
      · obtain⟨b',hb'⟩:=(hp k y).2 h;exact⟨b',by simp [hb']⟩
variable {t kt e : TypeId}
theorem MapIs.findN {es:Array MapEntry} {clock:Nat} {l:List (K × V × Nat)} (hM:MapIs q m es clock l) (hk:KOk P kt q) {n:K} (hn:q.ok n) (h:∀e∈l,e.1≠n):(Instr.findKey kt (q.enc n) es.toList).run P w=.ok none w:=by
  rw [hM.eq];exact hk.none_ m w n l hn fun e he=>⟨(hM.ok e he).1,h e he⟩
theorem MapIs.findS {es:Array MapEntry} {clock:Nat} {l1 l2:List (K × V × Nat)} {n:K} {x:V} {b:Nat} (hM:MapIs q m es clock (l1++(n,x,b)::l2)) (hk:KOk P kt q) (h:∀e∈l1,e.1≠n):(Instr.findKey kt (q.enc n) es.toList).run P w=.ok (some (l1.length,m.enc x)) w:=by
  rw [hM.eq];exact hk.some_ m w n x b l1 l2 (hM.ok (n,x,b) (by simp)).1 fun e he=>⟨(hM.ok e (by simp [he])).1,h e he⟩
theorem run_lookup {r:Nat} {n:K} {z:V} (hu:P.underlying t=some (.map kt e)) (hk:KOk P kt q) (hz:∀w,(zeroValue e).run P w=.ok (m.enc z) w) (hr:w.heap[r]?=some o) (h:Mo q m o xs) (hn:q.ok n) (c:Bool):
    (Instr.lookup t (.map (some r)) (q.enc n) c).run P w=.ok (if c then .tuple #[m.enc ((mget xs n).getD z),.bool (mget xs n).isSome] else m.enc ((mget xs n).getD z)) w:=by
  obtain⟨es,clock,l,rfl,hM,hd,hp,hris⟩:=h
  have hfk:(Instr.findKey kt (q.enc n) es.toList).run P w=.ok ((mget xs n).map fun x=>((l.findIdx? fun e=>decide (e.1=n)).getD 0,m.enc x)) w:=by
    cases hg:mget xs n with
    |none=>exact hM.findN hk hn fun e he=>mget_none hg (e.1,e.2.1) ((hp e.1 e.2.1).1 ⟨e.2.2,he⟩)
    |some x=>
      obtain⟨b,hb⟩:=(hp n x).2 (mget_some hg)
      obtain⟨l1,l2,rfl,h1,h2⟩:=split_key hd hb
      rw [hM.findS hk h1]
      have:(l1++(n,x,b)::l2).findIdx? (fun e=>decide (e.1=n))=some l1.length:=by
        rw [List.findIdx?_append,List.findIdx?_eq_none_iff.2 (fun e he=>by simpa using h1 e he)]
        simp [List.findIdx?_cons]
      rw [this];simp
  simp only [Instr.lookup,Sem.run_bind,run_underlying hu,Result.andThen_ok,run_goM hr,hk.check _ _ _ hn,hfk]
  cases hg:mget xs n with
  |none=>rw [hg] at hfk;cases c<;> simp [hz,hfk]
  |some x=>rw [hg] at hfk;cases c<;> simp [hfk]
theorem run_mapUpdate {r:Nat} {n:K} {v:V} (hu:P.underlying t=some (.map kt e)) (hk:KOk P kt q) (hr:w.heap[r]?=some o) (h:Mo q m o xs) (hn:q.ok n) (hv:m.ok v):
    ∃o',(Instr.mapUpdate t (.map (some r)) (q.enc n) (m.enc v)).run P w=.ok () (w.putObj r o')∧Mo q m o' (mput xs n v):=by
  obtain⟨es,clock,l,rfl,hM,hd,hp,hris⟩:=h
  cases hg:mget xs n with
  |none=>
    have hf:=hM.findN (P:=P) (w:=w) hk hn (fun e he=>mget_none hg (e.1,e.2.1) ((hp e.1 e.2.1).1 ⟨e.2.2,he⟩))
    refine⟨_,?_,Mo.push hM hd hp hris hg hn hv⟩
    simp only [Instr.mapUpdate,Sem.run_bind,run_underlying hu,Result.andThen_ok,run_goM hr,hk.check _ _ _ hn,hf]
    rw [run_soM _ hr]
  |some x=>
    obtain⟨b,hb⟩:=(hp n x).2 (mget_some hg)
    obtain⟨l1,l2,rfl,h1,h2⟩:=split_key hd hb
    have hf:=hM.findS (P:=P) (w:=w) hk h1
    have hl:l1.length<es.size:=by
      have:=congrArg List.length hM.eq;simp at this;omega
    have hge:es[l1.length]?=some ⟨q.enc n,m.enc x,b⟩:=by
      have:es.toList[l1.length]?=some ⟨q.enc n,m.enc x,b⟩:=by rw [hM.eq];simp
      simpa using this
    refine⟨.map (es.modify l1.length fun e=>{e with key:=q.enc n,val:=m.enc v}) clock,?_,Mo.turn hM hd hp hris hv ?_⟩
    · simp only [Instr.mapUpdate, Sem.run_bind, run_underlying hu, Result.andThen_ok, run_goM hr, hk.check _ _ _ hn, hf, hge, Option.map_some, Option.getD_some, hk.stays]
      rw [run_soM _ hr]
    · rw [Array.toList_modify, hM.eq]
      simp only [List.map_append,List.map_cons]
      have:=modify_mid (fun e:MapEntry=>{e with key:=q.enc n,val:=m.enc v}) (⟨q.enc n,m.enc x,b⟩:MapEntry) (l2.map fun e=>(⟨q.enc e.1,m.enc e.2.1,e.2.2⟩:MapEntry)) (l1.map fun e=>(⟨q.enc e.1,m.enc e.2.1,e.2.2⟩:MapEntry))
      rw [List.length_map] at this
      exact this
def Stm {K:Type} (o:Obj) (q:Kk K) (n:K) (b:Int):Prop:=∃es clock i,o=.map es clock∧es.toList.findIdx? (fun e=>(e.born:Int) == b)=some i∧∃v bb,es[i]?=some ⟨q.enc n,v,bb⟩
theorem run_mapEntry {r:Nat} {n:K} {z:V} (hu:P.underlying t=some (.map kt e)) (hk:KOk P kt q) (hz:∀w,(zeroValue e).run P w=.ok (m.enc z) w) (hzo:m.ok z) (hr:w.heap[r]?=some o) (h:Mo q m o xs) (hn:q.ok n):
    ∃o' b,(Instr.mapEntry t (.map (some r)) (q.enc n)).run P w=.ok (.tuple #[m.enc ((mget xs n).getD z),.int .i64 b]) (w.putObj r o')∧Mo q m o' (mput xs n ((mget xs n).getD z))∧Stm o' q n b:=by
  obtain⟨es,clock,l,rfl,hM,hd,hp,hris⟩:=h
  have hbx:∀(l1 l2:List (K × V × Nat)) (y:V) (b:Nat),(l1++(n,y,b)::l2).Pairwise (fun e f=>e.2.2<f.2.2)→
      ((l1++(n,y,b)::l2).map fun e=>(⟨q.enc e.1,m.enc e.2.1,e.2.2⟩:MapEntry)).findIdx? (fun e=>(e.born:Int) == (b:Int))=some l1.length:=by
    intro l1 l2 y b hb
    rw [List.pairwise_append] at hb
    rw [List.map_append,List.findIdx?_append,List.findIdx?_eq_none_iff.2]
    · simp [List.findIdx?_cons]
    · intro e he
      simp only [List.mem_map] at he
      obtain⟨e',he',rfl⟩:=he
      have:e'.2.2<b:=hb.2.2 e' he' (n,y,b) (by simp)
      simp;omega
  cases hg:mget xs n with
  |none=>
    have hf:=hM.findN (P:=P) (w:=w) hk hn (fun e he=>mget_none hg (e.1,e.2.1) ((hp e.1 e.2.1).1 ⟨e.2.2,he⟩))
    refine⟨_,clock,?_,Mo.push hM hd hp hris hg hn hzo,_,_,es.size,rfl,?_,?_⟩
    · simp [Instr.mapEntry,run_underlying hu,run_goM hr,hk.check _ _ _ hn,hf,hz,run_soM _ hr,goInt]
    · have hb := hbx l [] z clock (by rw [List.pairwise_append]; exact ⟨hM.born, by simp, fun e he f hf => by simp at hf; subst hf; exact hM.lt e he⟩)
      have hl:es.size=l.length:=by have:=congrArg List.length hM.eq;simpa using this
      rw [hl];simpa [hM.eq] using hb
    · exact⟨_,_,by simp;exact⟨rfl,rfl⟩⟩
  |some x=>
    obtain⟨b,hb⟩:=(hp n x).2 (mget_some hg)
    obtain⟨l1,l2,rfl,h1,h2⟩:=split_key hd hb
    have hf:=hM.findS (P:=P) (w:=w) hk h1
    have hge:es[l1.length]?=some ⟨q.enc n,m.enc x,b⟩:=by
      have:es.toList[l1.length]?=some ⟨q.enc n,m.enc x,b⟩:=by rw [hM.eq];simp
      simpa using this
    have hes:(es.modify l1.length fun e=>{e with key:=q.enc n}).toList=(l1++(n,x,b)::l2).map fun e=>(⟨q.enc e.1,m.enc e.2.1,e.2.2⟩:MapEntry):=by
      rw [Array.toList_modify,hM.eq]
      simp only [List.map_append,List.map_cons]
      have:=modify_mid (fun e:MapEntry=>{e with key:=q.enc n}) (⟨q.enc n,m.enc x,b⟩:MapEntry) (l2.map fun e=>(⟨q.enc e.1,m.enc e.2.1,e.2.2⟩:MapEntry)) (l1.map fun e=>(⟨q.enc e.1,m.enc e.2.1,e.2.2⟩:MapEntry))
      rw [List.length_map] at this
      exact this
    refine⟨.map (es.modify l1.length fun e=>{e with key:=q.enc n}) clock,b,?_,Mo.turn hM hd hp hris (hM.ok (n,x,b) (by simp)).2 hes,_,_,l1.length,rfl,?_,?_⟩
    · simp [Instr.mapEntry,run_underlying hu,run_goM hr,hk.check _ _ _ hn,hf,hge,hk.stays,run_soM _ hr,goInt]
    · rw [hes];exact hbx l1 l2 x b hM.born
    · refine ⟨m.enc x, b, ?_⟩
      have:(es.modify l1.length fun e=>{e with key:=q.enc n}).toList[l1.length]?=some ⟨q.enc n,m.enc x,b⟩:=by rw [hes];simp
      rw [← Array.getElem?_toList];exact this
theorem run_entryStore {r:Nat} {n:K} {b:Int} {v:V} (hq:∀{a b:K},q.enc a=q.enc b→a=b) (hr:w.heap[r]?=some o) (h:Mo q m o xs) (hs:Stm o q n b) (hv:m.ok v):
    ∃o',(Instr.entryStore t (.map (some r)) (.int .i64 b) (m.enc v)).run P w=.ok () (w.putObj r o')∧Mo q m o' (mput xs n v):=by
  obtain⟨es,clock,l,rfl,hM,hd,hp,hris⟩:=h
  obtain⟨es',clock',i,heq,hi,y,bb,hy⟩:=hs
  cases heq
  have hil:i<l.length:=by
    have h1:i<es.size:=(Array.getElem?_eq_some_iff.1 hy).1
    have:=congrArg List.length hM.eq;simp at this;omega
  obtain⟨l1,e,l2,hl,hl1⟩:∃l1 e l2,l=l1++e::l2∧l1.length=i:=⟨l.take i,l[i],l.drop (i+1),by rw [← List.drop_eq_getElem_cons hil,List.take_append_drop],by simp;omega⟩
  obtain⟨n',x,b'⟩:=e
  subst hl;subst hl1
  have hge:es[l1.length]?=some ⟨q.enc n',m.enc x,b'⟩:=by
    have:es.toList[l1.length]?=some ⟨q.enc n',m.enc x,b'⟩:=by rw [hM.eq];simp
    simpa using this
  rw [hge] at hy
  have hy':=Option.some.inj hy
  have hnn:n'=n:=by injection hy' with h1 _ _;exact hq h1
  subst hnn
  have hfi:es.findIdx? (fun e=>(e.born:Int) == b)=some l1.length:=by rw [← hi];cases es;simp
  refine⟨.map (es.modify l1.length fun e=>{e with val:=m.enc v}) clock,?_,Mo.turn hM hd hp hris hv ?_⟩
  · simp only [Instr.entryStore, Sem.run_bind, Result.andThen_ok, run_goM hr, asInt, asIntOf, Sem.run_pure, hfi]
    rw [run_soM _ hr]
  · rw [Array.toList_modify, hM.eq]
    simp only [List.map_append,List.map_cons]
    have:=modify_mid (fun e:MapEntry=>{e with val:=m.enc v}) (⟨q.enc n',m.enc x,b'⟩:MapEntry) (l2.map fun e=>(⟨q.enc e.1,m.enc e.2.1,e.2.2⟩:MapEntry)) (l1.map fun e=>(⟨q.enc e.1,m.enc e.2.1,e.2.2⟩:MapEntry))
    rw [List.length_map] at this
    exact this
end mem
section own
variable {K V : Type} [DecidableEq K] [Kord K] {q : Kk K} {m : Mv V} {o : Obj} {xs : List (K × V)} {P : Program} {r : Option Nat} {ρ : Env} {w w' : World} {d : Option Nat} {ty : TypeId} {pos : String} {aft : Array Edge} {g : Option (Nat × Bool)} {Vv : Value → World → Prop}
variable {z0 : Zx} {O0 O O' : List Nat} {bs : Ents} {x y u : Operand} {t kt e : TypeId}
theorem St.putObj (hs:St z0 O0 w bs) {i b:Nat} (hi:bs[i]?=some (some b,o)) (o':Obj):St z0 O0 (w.putObj b o') (bs.set i (some b,o'))∧Step (ks bs O0) w (ks (bs.set i (some b,o')) O0) (w.putObj b o'):=by
  have hb:=(hs.own _ (List.mem_of_getElem? hi) b rfl).1
  have hlt:b<w.heap.size:=hs.lt (List.mem_of_getElem? hi) rfl
  have hsz:(w.putObj b o').heap.size=w.heap.size:=by simp
  have ho:∀j,j<w.heap.size→some b≠some j→(w.putObj b o').heap[j]?=w.heap[j]?:=fun j _ hj=>World.putObj_heap_other (fun e=>hj (by rw [e]))
  have hl:Loc [b] w (w.putObj b o'):=⟨rfl,rfl,rfl,by rw [hsz];exact Nat.le_refl _,fun k hk hn=>ho k hk (by simp at hn;intro e;cases e;exact hn rfl),Nat.le_refl _⟩
  refine⟨hs.put hi (hs.below.trans' hl (by rintro k hk;simp at hk;subst hk;exact hb)) (by rw [hsz];exact Nat.le_refl _) (fun j hj=>?_) ho,Step.put hi (by rw [hsz];exact Nat.le_refl _) (fun j hj=>.inl hj) ho⟩
  cases hj;exact⟨.inl rfl,World.putObj_heap_same hlt⟩
theorem op_makeMap (hs:St z0 O0 w bs) (k:∀bl w',Step (ks bs O0) w (ks ((some bl,.map #[] 0)::bs) O0) w'→St z0 O0 w' ((some bl,.map #[] 0)::bs)→Vv (.map (some bl)) w'):
    Run1 P r ρ w ⟨d,.makeMap t none,ty,pos,aft,g⟩ Vv:=by
  refine run1_value (v:=.map (some w.heap.size)) (w':=w.alloc (.map #[] 0)) (by simp) ?_ (k _ _ (Step.alloc w O0 bs _) (hs.alloc _))
  simp [execOp,Instr.makeMap]
def MpR (q:Kk K) (m:Mv V) (w:World) (O:List Nat) (v:Value) (xs:List (K × V)):Prop:=∃b o,v=.map (some b)∧Sh w O b∧w.heap[b]?=some o∧Mo q m o xs
theorem MpR.one1 {v:Value} (h:MpR q m w O v xs):v.oneCell'=true:=by obtain⟨b,o,rfl,_⟩:=h;simp [Value.oneCell']
theorem MpR.cells1 {v:Value} (h:MpR q m w O v xs):v.cells=[v].toArray:=by obtain⟨b,o,rfl,_⟩:=h;rfl
theorem MpR.step {v:Value} (h:MpR q m w O v xs) (s:Step O w O' w'):MpR q m w' O' v xs:=by
  obtain⟨b,o,h1,h2,h3,h4⟩:=h
  exact⟨b,o,h1,h2.step s,by rw [(s.keep b h2.lt h2.no).2];exact h3,h4⟩
def rMp (q:Kk K) (m:Mv V):Rp (List (K × V)) where
  n:=1
  rd w O cs x:=∃v,cs=[v]∧MpR q m w O v x
  len:=fun⟨_,h,_⟩=>by rw [h];rfl
  one:=fun⟨v,h,b,o,h2,_⟩=>by subst h;subst h2;simp [Value.oneCell']
  step:=fun s ⟨v,h,h2⟩=>⟨v,h,h2.step s⟩
theorem mk_mp {v:Value} (h:MpR q m w O v xs):(rMp q m).rd w O [v] xs:=⟨v,rfl,h⟩
theorem un_mp {v:Value} (h:(rMp q m).rd w O [v] xs):MpR q m w O v xs:=by obtain⟨v',h1,h2⟩:=h;cases h1;exact h2
theorem St.publishM (hs:St z0 O0 w bs) {i b:Nat} (hi:bs[i]?=some (some b,o)) (h:Mo q m o xs):
    St z0 O0 w (bs.eraseIdx i)∧Step (ks bs O0) w (ks (bs.eraseIdx i) O0) w∧MpR q m w (ks (bs.eraseIdx i) O0) (.map (some b)) xs:=
  ⟨hs.drop i,Step.drop w O0 bs i,b,o,rfl,⟨hs.lt (List.mem_of_getElem? hi) rfl,not_ks_erase hs hi⟩,hs.get hi,h⟩
theorem op_lookup {b:Nat} {n:K} {z:V} (hu:P.underlying t=some (.map kt e)) (hk:KOk P kt q) (hz:∀w,(zeroValue e).run P w=.ok (m.enc z) w) (hb:w.heap[b]?=some o) (h:Mo q m o xs) (hn:q.ok n) (hx:ev ρ x=.map (some b)) (hy:ev ρ y=q.enc n)
    (k:Vv (m.enc ((mget xs n).getD z)) w):Run1 P r ρ w ⟨d,.lookup t x y false,ty,pos,aft,g⟩ Vv:=by
  refine run1_value (by simp) ?_ k
  simp [execOp,hx,hy,run_lookup hu hk hz hb h hn false]
theorem op_lookupR {v:Value} {n:K} {z:V} (hu:P.underlying t=some (.map kt e)) (hk:KOk P kt q) (hz:∀w,(zeroValue e).run P w=.ok (m.enc z) w) (h:MpR q m w O v xs) (hn:q.ok n) (hx:ev ρ x=v) (hy:ev ρ y=q.enc n)
    (k:Vv (m.enc ((mget xs n).getD z)) w):Run1 P r ρ w ⟨d,.lookup t x y false,ty,pos,aft,g⟩ Vv:=by
  obtain⟨b,o,rfl,_,hb,hM⟩:=h
  exact op_lookup hu hk hz hb hM hn hx hy k
theorem MpR.ok {v:Value} (h:MpR q m w O v xs) {n:K} {z:V} (hz:m.ok z):m.ok ((mget xs n).getD z):=by obtain⟨_,_,_,_,_,hM⟩:=h;exact hM.ok hz
theorem op_mapUpdate {b i:Nat} {n:K} {v:V} {vv:Value} (hu:P.underlying t=some (.map kt e)) (hk:KOk P kt q) (hs:St z0 O0 w bs) (hi:bs[i]?=some (some b,o)) (h:Mo q m o xs) (hx:ev ρ x=.map (some b)) (hy:ev ρ y=q.enc n) (hv:ev ρ u=vv) (hvv:vv=m.enc v) (hn:q.ok n) (hvo:m.ok v)
    (k:∀o' w',Step (ks bs O0) w (ks (bs.set i (some b,o')) O0) w'→St z0 O0 w' (bs.set i (some b,o'))→Mo q m o' (mput xs n v)→Vv undef w'):Run1 P r ρ w ⟨d,.mapUpdate t x y u,ty,pos,aft,g⟩ Vv:=by
  obtain⟨o',h1,h2⟩:=run_mapUpdate (P:=P) hu hk (hs.get hi) h hn hvo
  obtain⟨h3,h4⟩:=hs.putObj hi o'
  subst hvv
  refine run1_skip (by simp) ?_ (k o' _ h4 h3 h2)
  simp [execOp,hx,hy,hv,h1]
theorem op_mapEntry {b i:Nat} {n:K} {z:V} (hu:P.underlying t=some (.map kt e)) (hk:KOk P kt q) (hz:∀w,(zeroValue e).run P w=.ok (m.enc z) w) (hzo:m.ok z) (hs:St z0 O0 w bs) (hi:bs[i]?=some (some b,o)) (h:Mo q m o xs) (hx:ev ρ x=.map (some b)) (hy:ev ρ y=q.enc n) (hn:q.ok n)
    (k:∀o' s w',Step (ks bs O0) w (ks (bs.set i (some b,o')) O0) w'→St z0 O0 w' (bs.set i (some b,o'))→Mo q m o' (mput xs n ((mget xs n).getD z))→Stm o' q n s→Vv (.tuple [m.enc ((mget xs n).getD z),.int .i64 s].toArray) w'):Run1 P r ρ w ⟨d,.mapEntry t x y,ty,pos,aft,g⟩ Vv:=by
  obtain⟨o',s,h1,h2,h5⟩:=run_mapEntry (P:=P) hu hk hz hzo (hs.get hi) h hn
  obtain⟨h3,h4⟩:=hs.putObj hi o'
  refine run1_value (by simp) ?_ (k o' s _ h4 h3 h2 h5)
  simp [execOp,hx,hy,h1]
theorem op_entryStore {b i:Nat} {n:K} {s:Int} {v:V} {vv:Value} (hq:∀{a b:K},q.enc a=q.enc b→a=b) (hs:St z0 O0 w bs) (hi:bs[i]?=some (some b,o)) (h:Mo q m o xs) (hS:Stm o q n s) (hx:ev ρ x=.map (some b)) (hy:ev ρ y=.int .i64 s) (hv:ev ρ u=vv) (hvv:vv=m.enc v) (hvo:m.ok v)
    (k:∀o' w',Step (ks bs O0) w (ks (bs.set i (some b,o')) O0) w'→St z0 O0 w' (bs.set i (some b,o'))→Mo q m o' (mput xs n v)→Vv undef w'):Run1 P r ρ w ⟨d,.entryStore t x y u,ty,pos,aft,g⟩ Vv:=by
  obtain⟨o',h1,h2⟩:=run_entryStore (P:=P) (t:=t) hq (hs.get hi) h hS hvo
  obtain⟨h3,h4⟩:=hs.putObj hi o'
  subst hvv
  refine run1_skip (by simp) ?_ (k o' _ h4 h3 h2)
  simp [execOp,hx,hy,hv,h1]
theorem Mo.size (h:Mo q m o xs):∃es clock,o=.map es clock∧es.size=xs.length:=by
  obtain⟨es,clock,l,rfl,hM,hd,hp,hris⟩:=h
  refine⟨es,clock,rfl,?_⟩
  have hl:es.size=l.length:=by have:=congrArg List.length hM.eq;simpa using this
  rw [hl]
  have:(l.map fun e=>(e.1,e.2.1)).Perm xs:=by
    refine(List.perm_ext_iff_of_nodup ?_ (ris_nodup hris)).2 fun p=>?_
    · rw [List.nodup_iff_pairwise_ne,List.pairwise_map];exact hd.imp fun h e=>h (Prod.mk.inj e).1
    · rw [← hp p.1 p.2]; simp only [List.mem_map]
      constructor
      · rintro⟨e,he,rfl⟩;exact⟨e.2.2,he⟩
      · rintro⟨b,hb⟩;exact⟨(p.1,p.2,b),hb,rfl⟩
  simpa using this.length_eq
end own
end Go.Fx
/- Functions that hand out a list by way of the yield of the iterator that they are within, and that may call themselves. No program in sight. -/
set_option linter.unusedSimpArgs false
set_option linter.unusedVariables false
namespace Go.Fx
open Go Go.RowKit

def rVal (v:Value) (h:v.oneCell'=true):Rp Unit where
  n:=1
  rd _ _ cs _:=cs=[v]
  len:=fun h=>by rw [h];rfl
  one:=fun e u hu=>by rw [e] at hu;simp at hu;subst hu;exact h
  step:=fun _ h=>h
theorem un_val {v u:Value} {h1:v.oneCell'=true} {w:World} {O:List Nat} {x:Unit} (h:(rVal v h1).rd w O [u] x):u=v:=by
  have: [u] =[v]:=h
  simpa using this
def SubIt1 {α γ:Type} (P:Program) (enc:γ→World→List Nat→List Value→Prop) (l:Nat) (w:World) (O:List Nat) (fv:Value) (A:Vr α) (f:α→Option (List γ)):Prop:=
  (∃k caps,fv=.func k #[] caps)∧∀w1 O1,Step O w O1 w1→(∀k∈O1,k<w1.heap.size)→∀(J Jx:JP γ),Abides J→Abides Jx→∀v x Lx,A.vd w1 O1 v x→f x=some Lx→YieldsTo P enc Lx l J Jx→J [] w1 O1 []→
    FvTo P fv [v] w1 fun u w2=>∃O2,(u=.bool true∧J Lx w2 O2 [])∨(u=.bool false∧∃pre,Jx pre w2 O2 [])
theorem SubIt1.step {α γ:Type} {P:Program} {enc:γ→World→List Nat→List Value→Prop} {l:Nat} {w w':World} {O O':List Nat} {fv:Value} {A:Vr α} {f:α→Option (List γ)} (h:SubIt1 P enc l w O fv A f) (s:Step O w O' w'):SubIt1 P enc l w' O' fv A f:=
  ⟨h.1,fun w1 O1 s1=>h.2 w1 O1 (s.trans s1)⟩
def fixO {α β:Type} (Φ:(α→Option β)→α→Option β):Nat→α→Option β
  |0=>fun _=>none
  |n+1=>Φ (fixO Φ n)
theorem SubIt1.fix {α γ:Type} {P:Program} {enc:γ→World→List Nat→List Value→Prop} {l:Nat} {w:World} {O:List Nat} {A:Vr α} {k:Go.Fn} {caps:Array Value} {Φ:(α→Option (List γ))→α→Option (List γ)}
    (h:∀f,SubIt1 P enc l w O (.func k #[] caps) A f→SubIt1 P enc l w O (.func k #[] caps) A (Φ f)):∀n,SubIt1 P enc l w O (.func k #[] caps) A (fixO Φ n)
  |0=>⟨⟨k,caps,rfl⟩,fun _ _ _ _ _ _ _ _ _ _ _ _ hf=>by cases hf⟩
  |n+1=>h _ (SubIt1.fix h n)
section call
variable {P : Program} {ρ : Env} {w : World} {z : Zx} {O : List Nat} {bs : Ents} {α γ : Type} {J Jx : JP γ} {L pre Lx : List γ} {l : Nat} {enc : γ → World → List Nat → List Value → Prop}
def Jin (J:JP γ) (pre:List γ) (w:World) (O:List Nat) (bs:Ents):JP γ:=fun pre' w' O' K'=>
  ∃Oc,O'=ks bs Oc∧J (pre++pre') w' Oc (K'++bs.filterMap Prod.fst)∧(∀p∈bs,∀b,p.1=some b→w'.heap[b]?=some p.2)∧(∀k∈Oc,k ∉ bs.filterMap Prod.fst∧k<w'.heap.size)∧Step (ks bs O) w O' w'∧∀k∈K',w.heap.size≤k
theorem Jin.lt {pre':List γ} {w':World} {O' K':List Nat} (hs:St z O w bs) (h:Jin J pre w O bs pre' w' O' K'):∀k∈bs.filterMap Prod.fst,k<w'.heap.size:=fun k hk=>by
  obtain⟨Oc,_,_,_,_,h5,_⟩:=h
  obtain⟨p,hp,e⟩:=mem_keys.1 hk
  exact Nat.lt_of_lt_of_le (hs.lt hp e) h5.size
theorem Jin.abides (hJ:Abides J) (hs:St z O w bs):Abides (Jin J pre w O bs):=by
  refine⟨fun {pre' w1 w2 O' K' K''} h hd hl hg=>?_⟩
  have hlt:=h.lt hs
  obtain⟨Oc,rfl,h2,h3,h4,h5,h6⟩:=h
  have hkO:∀k∈K',k ∉ bs.filterMap Prod.fst∧k ∉ Oc:=fun k hk=>⟨fun hm=>hd k hk (mem_ks.2 (.inl hm)),fun hm=>hd k hk (mem_ks.2 (.inr hm))⟩
  refine⟨Oc,rfl,hJ.loc h2 ?_ ?_ ?_,fun p hp b hb=>?_,fun k hk=>⟨(h4 k hk).1,Nat.lt_of_lt_of_le (h4 k hk).2 hl.size⟩,⟨Nat.le_trans h5.size hl.size,fun k hk hn=>?_⟩,fun k hk=>?_⟩
  · intro k hk
    rcases List.mem_append.1 hk with hk |hk
    · exact(hkO k hk).2
    · exact fun hm=>(h4 k hm).1 hk
  · exact hl.sub fun k hk=>.inl (List.mem_append_left _ hk)
  · refine ⟨fun k hk => ?_, fun k hk => ?_⟩
    · rcases List.mem_append.1 hk with hk | hk
      · exact(hg.new k hk).imp (List.mem_append_left _) id
      · exact .inl (List.mem_append_right _ hk)
    · rcases List.mem_append.1 hk with hk | hk
      · exact hg.lt k hk
      · exact Nat.lt_of_lt_of_le (hlt k hk) hl.size
  · rw [hl.block b (hlt b (mem_keys.2 ⟨p,hp,hb⟩)) fun hm=>(hkO b hm).1 (mem_keys.2 ⟨p,hp,hb⟩)];exact h3 p hp b hb
  · obtain ⟨k1, k2⟩ := h5.keep k hk hn
    exact⟨k1,by rw [hl.block k (Nat.lt_of_lt_of_le hk h5.size) fun hm=>by have:=h6 k hm;omega];exact k2⟩
  · rcases hg.new k hk with h | h
    · exact h6 k h
    · exact Nat.le_trans h5.size h
theorem Jin.yields (hs:St z O w bs) (hL:pre++Lx<+:L) (hY:YieldsTo P enc L l J Jx):YieldsTo P enc Lx l (Jin J pre w O bs) (Jin Jx pre w O bs):=by
  intro pre' a w' O' K' vs hp h hK hO hen
  have hlt:=h.lt hs
  obtain⟨Oc,rfl,h2,h3,h4,h5,h6⟩:=h
  have hkO:∀k∈K',k ∉ bs.filterMap Prod.fst∧k ∉ Oc:=fun k hk=>⟨fun hm=>(hK k hk).2 (mem_ks.2 (.inl hm)),fun hm=>(hK k hk).2 (mem_ks.2 (.inr hm))⟩
  have hp':pre++pre'++[a]<+:L:=by
    rw [List.append_assoc]
    exact List.IsPrefix.trans ((List.prefix_append_right_inj pre).2 hp) hL
  obtain⟨fn,tmps,assign,body,hy,hR⟩:=hY (pre++pre') a w' Oc (K'++bs.filterMap Prod.fst) vs hp' h2 (fun k hk=>by
    rcases List.mem_append.1 hk with hk |hk
    · exact⟨(hK k hk).1,(hkO k hk).2⟩
    · exact⟨hlt k hk,fun hm=>(h4 k hm).1 hk⟩) (fun k hk=>(h4 k hk).2) (by rw [List.append_assoc];exact hen)
  refine⟨fn,tmps,assign,body,hy,hR.mono ?_⟩
  · rintro e w'' ⟨O'', hl, hg, hor⟩
    have hkeep:∀b∈bs.filterMap Prod.fst,w''.heap[b]?=w'.heap[b]?:=fun b hb=>hl.block b (hlt b hb) fun hm=>(h4 b hm).1 hb
    have hnew:∀k∈O'',k ∉ bs.filterMap Prod.fst∧k<w''.heap.size:=fun k hk=>⟨fun hm=>by
      rcases hg.new k hk with h |h
      · exact(h4 k h).1 hm
      · have:=hlt k hm;omega,hg.lt k hk⟩
    have hst:Step (ks bs Oc) w' (ks bs O'') w'':=Step.of_loc hl (fun k hk=>mem_ks.2 (.inr hk)) fun k hk=>by
      rcases mem_ks.1 hk with hk |hk
      · exact .inl (mem_ks.2 (.inl hk))
      · exact(hg.new k hk).imp (fun h=>mem_ks.2 (.inr h)) id
    have mk:∀J':JP γ,J' (pre++pre'++[a]) w'' O'' (K'++bs.filterMap Prod.fst)→Jin J' pre w O bs (pre'++[a]) w'' (ks bs O'') K':=fun J' hj=>
      ⟨O'',rfl,by rw [← List.append_assoc];exact hj,fun p hp b hb=>by rw [hkeep b (mem_keys.2 ⟨p,hp,hb⟩)];exact h3 p hp b hb,hnew,h5.trans hst,h6⟩
    refine⟨ks bs O'',hl.sub fun k hk=>.inl (mem_ks.2 (.inr hk)),⟨fun k hk=>?_,fun k hk=>?_⟩,?_⟩
    · rcases mem_ks.1 hk with hk | hk
      · exact .inl (mem_ks.2 (.inl hk))
      · exact(hg.new k hk).imp (fun h=>mem_ks.2 (.inr h)) id
    · rcases mem_ks.1 hk with hk | hk
      · exact Nat.lt_of_lt_of_le (hlt k hk) hl.size
      · exact hg.lt k hk
    · rcases hor with ⟨he, h⟩ | ⟨he, h⟩
      · exact .inl ⟨he,mk J h⟩
      · exact .inr ⟨he,mk Jx h⟩
end call
end Go.Fx
/- Windows: a slice of an array of one's own is handed to a function that writes into it. No program in sight. -/
set_option linter.unusedSimpArgs false
set_option linter.unusedVariables false
namespace Go.Fx
open Go Go.RowKit
theorem cons2 {α:Type} {a b:α} {l m:List α} (h1:a=b) (h2:l=m):a::l=b::m:=by rw [h1,h2]
theorem Els.rep {α:Type} {p:Rp α} {w:World} {O:List Nat} {v:Value} {x:α} (h:p.rd w O [v] x):∀n,Els p w O (List.replicate n v) (List.replicate n x)
  |0=>rfl
  |n+1=>⟨[v],List.replicate n v,rfl,h,Els.rep h n⟩
theorem inK_lenW {α:Type} {q:Rp α} {e:TypeId} {w:World} {O:List Nat} {a:Option Addr} {c:Nat} {pre xs post:List α} {kk:Option Nat} {o:Obj} (h:Gs q e w O a c (pre++xs++post) kk o):InK .i64 (xs.length:Int):=by
  have:=h.le
  have:maxLen=9223372036854775807:=rfl
  simp only [List.length_append] at*
  constructor<;> simp [IntKind.min,IntKind.max,IntKind.bits,IntKind.signed]<;> omega
section
variable {α : Type} {q : Rp α} {e : TypeId} {w w' : World} {O O0 : List Nat} {c bl i : Nat} {xs xs' : List α} {o : Obj} {bs : Ents} {z : Zx}
theorem ents_perm (hi:bs[i]?=some (some bl,o)):(bl::(bs.eraseIdx i).filterMap Prod.fst).Perm (bs.filterMap Prod.fst):=by
  obtain⟨h,e1⟩:=List.getElem?_eq_some_iff.1 hi
  have e2:bs=bs.take i++(some bl,o)::bs.drop (i+1):=by
    rw [← e1,← List.drop_eq_getElem_cons h,List.take_append_drop]
  have e3:bs.filterMap Prod.fst=(bs.take i).filterMap Prod.fst++bl::(bs.drop (i+1)).filterMap Prod.fst:=by
    conv=>lhs;rw [e2]
    rw [List.filterMap_append];rfl
  rw [e3,List.eraseIdx_eq_take_drop_succ,List.filterMap_append]
  exact List.perm_middle.symm
theorem St.startW {w0:World} (h:∀k∈O,k<w0.heap.size) (hb:bl ∉ O) (ho:w0.heap[bl]?=some o):St ⟨w0,[bl],[]⟩ O w0 [(some bl,o)]:=by
  refine⟨Loc.refl _ _,fun p hp b hb'=>?_,by simp,fun k hk=>⟨h k hk,fun hm=>?_⟩,List.nodup_nil,fun _ h=>by cases h⟩
  · rcases List.mem_cons.1 hp with rfl | hp
    · cases hb';exact⟨.inl (by simp),ho⟩
    · cases hp
  · simp at hm;subst hm;exact hb hk
end
theorem SlR.win {α:Type} {q:Rp α} {w:World} {O:List Nat} {bl c l h:Nat} {xs:List α} (hq:q.n=1) (hS:SlR q w O (some ⟨bl,0,none⟩) c xs) (h1:l<h) (h2:h≤xs.length):
    SlR q w O (some ⟨bl,if c=l then 0 else 0+l*1,none⟩) (c - l) ((xs.drop l).take (h - l)):=by
  have:=hS.sub (l:=l) (hi:=h) (mx:=c) (by omega) h2 (by have:=hS.le;omega) (Nat.le_refl _)
  have hc:=hS.le
  have hne: ¬c=l:=by omega
  rw [if_neg hne] at this ⊢
  rw [hq] at this
  simpa [Addr.add_lit] using this
section ops
variable {P : Program} {r : Option Nat} {ρ : Env} {w : World} {O0 : List Nat} {bs : Ents} {w0 : Zx} {d : Option Nat} {ty : TypeId} {pos : String} {aft : Array Edge} {g : Option (Nat × Bool)} {V : Value → World → Prop} {t : TypeId} {x y : Operand} {td : TypeDesc} {n b : Nat} {z : List Value} {ag : Bool} {m : Int}
theorem op_storeW {α:Type} {p:Rp α} {pre xs post:List α} {e:TypeId} {a:Option Addr} {c bl i:Nat} {o:Obj} {v:Value} {vs:List Value} {yv:α} (T:Ty P t td 1 b z ag) (hp:p.n=1) (hs:St w0 O0 w bs) (hi:bs[i]?=some (some bl,o))
    (hx:ev ρ x=.pointer (some ⟨bl,pre.length+m.toNat*1,none⟩)) (hy:ev ρ y=v) (hv:v.cells=vs.toArray) (h:Gs p e w (ks bs O0) a c (pre++xs++post) (some bl) o) (h0:0≤m∧m<xs.length) (hr:p.rd w (ks bs O0) vs yv)
    (k:∀w' o',Step (ks bs O0) w (ks (bs.set i (some bl,o')) O0) w'→St w0 O0 w' (bs.set i (some bl,o'))→Gs p e w' (ks (bs.set i (some bl,o')) O0) a c (pre++xs.set m.toNat yv++post) (some bl) o'→V undef w'):
    Run1 P r ρ w ⟨d,.store t x y,ty,pos,aft,g⟩ V:=by
  have em:((pre.length+m.toNat:Nat):Int).toNat=pre.length+m.toNat:=Int.toNat_natCast _
  refine op_storeG (m:=((pre.length+m.toNat:Nat):Int)) T hp hs hi (by rw [em,Nat.mul_one];rw [Nat.mul_one] at hx;exact hx) hy hv h (by simp only [List.length_append];omega) hr ?_
  intro w' o' h1 h2 h3
  refine k w' o' h1 h2 ?_
  rw [em,List.append_assoc,List.set_append_right _ _ (by omega),show pre.length+m.toNat - pre.length=m.toNat by omega,List.set_append_left _ _ (by omega),← List.append_assoc] at h3
  exact h3
end ops
end Go.Fx
/- Maps of one's own that function values write into; slices that may be nil; functions that call themselves. No program in sight. -/
set_option linter.unusedSimpArgs false
set_option linter.unusedVariables false
set_option linter.unusedSectionVars false
namespace Go.Fx
open Go Go.RowKit

/-! slices that may be nil -/
section
variable {P : Program} {r : Option Nat} {ρ : Env} {w : World} {d : Option Nat} {ty : TypeId} {pos : String} {aft : Array Edge} {g : Option (Nat × Bool)} {V : Value → World → Prop} {t : TypeId} {x y : Operand} {u : TypeId}
end
/-! maps lent to a call -/
section
variable {K V β : Type} [DecidableEq K] [Kord K] {q : Kk K} {m : Mv V} {w w' : World} {O O0 : List Nat} {bl i : Nat} {o o' : Obj} {bs : Ents} {z : Zx} {mp mp' : List (K × V)}
theorem ks_erase (hi:bs[i]?=some (some bl,o)) {k:Nat} :k∈bl::ks (bs.eraseIdx i) O0 ↔ k∈ks bs O0:=by
  have hp:=ents_perm hi
  constructor
  · intro h
    rcases List.mem_cons.1 h with rfl |h
    · exact mem_ks.2 (.inl (hp.mem_iff.1 List.mem_cons_self))
    · exact(mem_ks.1 h).elim (fun h=>mem_ks.2 (.inl (hp.mem_iff.1 (List.mem_cons_of_mem _ h)))) fun h=>mem_ks.2 (.inr h)
  · intro h
    rcases mem_ks.1 h with h |h
    · rcases List.mem_cons.1 (hp.mem_iff.2 h) with rfl | h
      · exact List.mem_cons_self
      · exact List.mem_cons_of_mem _ (mem_ks.2 (.inl h))
    · exact List.mem_cons_of_mem _ (mem_ks.2 (.inr h))
theorem St.lendM (hs:St z O0 w bs) (hi:bs[i]?=some (some bl,o)):
    (∀k∈ks (bs.eraseIdx i) O0,k<w.heap.size)∧bl ∉ ks (bs.eraseIdx i) O0∧w.heap[bl]?=some o∧Step (ks bs O0) w (bl::ks (bs.eraseIdx i) O0) w:=by
  refine⟨(hs.drop i).ltw,fun hm=>?_,hs.get hi,Step.sub fun k hk=>(ks_erase hi).1 hk⟩
  have hnd:=(ents_perm hi).nodup_iff.2 hs.nd
  rcases List.mem_append.1 hm with hm |hm
  · exact(List.nodup_cons.1 hnd).1 hm
  · exact(hs.dj bl hm).2 (mem_keys.2 ⟨_,List.mem_of_getElem? hi,rfl⟩)
theorem set_get (hi:bs[i]?=some (some bl,o)):(bs.set i (some bl,o'))[i]?=some (some bl,o'):=by
  have:=(List.getElem?_eq_some_iff.1 hi).1
  simp [this]
end
/-! functions within an iterator that write into a map of it -/
def SubItM {α γ K V:Type} [DecidableEq K] [Kord K] (P:Program) (enc:γ→World→List Nat→List Value→Prop) (l:Nat) (q:Kk K) (m:Mv V) (bm:Nat) (w:World) (O:List Nat) (fv:Value) (A:Vr α) (f:α × List (K × V)→Option (List γ × List (K × V))):Prop:=
  (∃k caps,fv=.func k #[] caps)∧∀w1 O1 o1 mp,Step O w (bm::O1) w1→bm ∉ O1→w1.heap[bm]?=some o1→Mo q m o1 mp→(∀k∈O1,k<w1.heap.size)→∀(J Jx:JP γ),Abides J→Abides Jx→∀v x Lx mz,A.vd w1 (bm::O1) v x→f (x,mp)=some (Lx,mz)→YieldsTo P enc Lx l J Jx→J [] w1 O1 [bm]→
    FvTo P fv [v] w1 fun u w2=>∃O2 o2 m2,bm ∉ O2∧w2.heap[bm]?=some o2∧Mo q m o2 m2∧((u=.bool true∧m2=mz∧J Lx w2 O2 [bm])∨(u=.bool false∧∃pre,Jx pre w2 O2 [bm]))
section sub
variable {α γ K V : Type} [DecidableEq K] [Kord K] {P : Program} {enc : γ → World → List Nat → List Value → Prop} {l : Nat} {q : Kk K} {m : Mv V} {bm : Nat} {w w' : World} {O O' : List Nat} {A : Vr α} {f : α × List (K × V) → Option (List γ × List (K × V))}
theorem SubItM.step {fv:Value} (h:SubItM P enc l q m bm w O fv A f) (s:Step O w O' w'):SubItM P enc l q m bm w' O' fv A f:=
  ⟨h.1,fun w1 O1 o1 mp s1=>h.2 w1 O1 o1 mp (s.trans s1)⟩
theorem SubItM.fix {k:Go.Fn} {caps:Array Value} {Φ:(α × List (K × V)→Option (List γ × List (K × V)))→α × List (K × V)→Option (List γ × List (K × V))}
    (h:∀f,SubItM P enc l q m bm w O (.func k #[] caps) A f→SubItM P enc l q m bm w O (.func k #[] caps) A (Φ f)):∀n,SubItM P enc l q m bm w O (.func k #[] caps) A (fixO Φ n)
  |0=>⟨⟨k,caps,rfl⟩,fun _ _ _ _ _ _ _ _ _ _ _ _ _ _ _ _ _ _ hf=>by cases hf⟩
  |n+1=>h _ (SubItM.fix h n)
def aplM {M:Type} (a:Option (List γ × M)) (k:M→Option (List γ × M)):Option (List γ × M):=a.bind fun p=>(k p.2).map fun r=>(p.1++r.1,r.2)
theorem aplM_elim {M:Type} {a:Option (List γ × M)} {k:M→Option (List γ × M)} {L:List γ} {mz:M} (h:aplM a k=some (L,mz)):∃A m1 B,a=some (A,m1)∧k m1=some (B,mz)∧L=A++B:=by
  cases a with
  |none=>cases h
  |some p=>
    obtain⟨A,m1⟩:=p
    cases hk:k m1 with
    |none=>simp [aplM,hk] at h
    |some r=>
      obtain⟨B,m2⟩:=r
      simp [aplM,hk] at h
      obtain⟨h1,h2⟩:=h
      subst h1;subst h2
      exact⟨A,m1,B,rfl,hk,rfl⟩
def aplI {M:Type} (a:Option (List γ × M)) (k:M→Option (List γ)):Option (List γ):=a.bind fun p=>(k p.2).map (p.1++·)
theorem aplI_elim {M:Type} {a:Option (List γ × M)} {k:M→Option (List γ)} {L:List γ} (h:aplI a k=some L):∃A m1 B,a=some (A,m1)∧k m1=some B∧L=A++B:=by
  cases a with
  |none=>cases h
  |some p=>
    obtain⟨A,m1⟩:=p
    cases hk:k m1 with
    |none=>simp [aplI,hk] at h
    |some B=>simp [aplI,hk] at h;exact⟨A,m1,B,rfl,hk,h.symm⟩
def ylM {M:Type} (x:γ) (m:Option (List γ × M)):Option (List γ × M):=m.map fun r=>(x::r.1,r.2)
theorem ylM_elim {M:Type} {x:γ} {m:Option (List γ × M)} {L:List γ} {mz:M} (h:ylM x m=some (L,mz)):∃L',m=some (L',mz)∧L=x::L':=by
  cases m with
  |none=>cases h
  |some r=>
    obtain⟨L',m2⟩:=r
    simp [ylM] at h
    obtain⟨h1,h2⟩:=h
    subst h1;subst h2;exact⟨L',rfl,rfl⟩
end sub
section call
variable {P : Program} {ρ : Env} {w : World} {z : Zx} {O : List Nat} {bs : Ents} {α γ K V : Type} [DecidableEq K] [Kord K] {J Jx : JP γ} {L pre Lx : List γ} {l : Nat} {enc : γ → World → List Nat → List Value → Prop} {q : Kk K} {m : Mv V} {bm : Nat}
def JinM (J:JP γ) (pre:List γ) (w:World) (O:List Nat) (bs:Ents) (bm:Nat):JP γ:=fun pre' w' O' K'=>
  ∃Oc,O'=ks bs Oc∧J (pre++pre') w' Oc (K'++bs.filterMap Prod.fst)∧(∀p∈bs,∀b,p.1=some b→w'.heap[b]?=some p.2)∧(∀k∈Oc,k ∉ bs.filterMap Prod.fst∧k<w'.heap.size)∧Step (bm::ks bs O) w (bm::O') w'∧∀k∈K',k=bm∨w.heap.size≤k
theorem JinM.lt {pre':List γ} {w':World} {O' K':List Nat} (hb:∀k∈bs.filterMap Prod.fst,k<w.heap.size) (h:JinM J pre w O bs bm pre' w' O' K'):∀k∈bs.filterMap Prod.fst,k<w'.heap.size:=fun k hk=>by
  obtain⟨Oc,_,_,_,_,h5,_⟩:=h
  exact Nat.lt_of_lt_of_le (hb k hk) h5.size
theorem JinM.abides (hJ:Abides J) (hb:∀k∈bs.filterMap Prod.fst,k<w.heap.size):Abides (JinM J pre w O bs bm):=by
  refine⟨fun {pre' w1 w2 O' K' K''} h hd hl hg=>?_⟩
  have hlt:=h.lt hb
  obtain⟨Oc,rfl,h2,h3,h4,h5,h6⟩:=h
  have hkO:∀k∈K',k ∉ bs.filterMap Prod.fst∧k ∉ Oc:=fun k hk=>⟨fun hm=>hd k hk (mem_ks.2 (.inl hm)),fun hm=>hd k hk (mem_ks.2 (.inr hm))⟩
  refine⟨Oc,rfl,hJ.loc h2 ?_ ?_ ?_,fun p hp b hb=>?_,fun k hk=>⟨(h4 k hk).1,Nat.lt_of_lt_of_le (h4 k hk).2 hl.size⟩,⟨Nat.le_trans h5.size hl.size,fun k hk hn=>?_⟩,fun k hk=>?_⟩
  · intro k hk
    rcases List.mem_append.1 hk with hk |hk
    · exact(hkO k hk).2
    · exact fun hm=>(h4 k hm).1 hk
  · exact hl.sub fun k hk=>.inl (List.mem_append_left _ hk)
  · refine ⟨fun k hk => ?_, fun k hk => ?_⟩
    · rcases List.mem_append.1 hk with hk | hk
      · exact(hg.new k hk).imp (List.mem_append_left _) id
      · exact .inl (List.mem_append_right _ hk)
    · rcases List.mem_append.1 hk with hk | hk
      · exact hg.lt k hk
      · exact Nat.lt_of_lt_of_le (hlt k hk) hl.size
  · rw [hl.block b (hlt b (mem_keys.2 ⟨p,hp,hb⟩)) fun hm=>(hkO b hm).1 (mem_keys.2 ⟨p,hp,hb⟩)];exact h3 p hp b hb
  · obtain ⟨k1, k2⟩ := h5.keep k hk hn
    exact⟨k1,by rw [hl.block k (Nat.lt_of_lt_of_le hk h5.size) fun hm=>(h6 k hm).elim (fun e=>hn (by rw [e];exact List.mem_cons_self)) fun h=>by omega];exact k2⟩
  · rcases hg.new k hk with h | h
    · exact h6 k h
    · exact .inr (Nat.le_trans h5.size h)
theorem JinM.yields (hb:∀k∈bs.filterMap Prod.fst,k<w.heap.size) (hL:pre++Lx<+:L) (hY:YieldsTo P enc L l J Jx):YieldsTo P enc Lx l (JinM J pre w O bs bm) (JinM Jx pre w O bs bm):=by
  intro pre' a w' O' K' vs hp h hK hO hen
  have hlt:=h.lt hb
  obtain⟨Oc,rfl,h2,h3,h4,h5,h6⟩:=h
  have hkO:∀k∈K',k ∉ bs.filterMap Prod.fst∧k ∉ Oc:=fun k hk=>⟨fun hm=>(hK k hk).2 (mem_ks.2 (.inl hm)),fun hm=>(hK k hk).2 (mem_ks.2 (.inr hm))⟩
  have hp':pre++pre'++[a]<+:L:=by
    rw [List.append_assoc]
    exact List.IsPrefix.trans ((List.prefix_append_right_inj pre).2 hp) hL
  obtain⟨fn,tmps,assign,body,hy,hR⟩:=hY (pre++pre') a w' Oc (K'++bs.filterMap Prod.fst) vs hp' h2 (fun k hk=>by
    rcases List.mem_append.1 hk with hk |hk
    · exact⟨(hK k hk).1,(hkO k hk).2⟩
    · exact⟨hlt k hk,fun hm=>(h4 k hm).1 hk⟩) (fun k hk=>(h4 k hk).2) (by rw [List.append_assoc];exact hen)
  refine⟨fn,tmps,assign,body,hy,hR.mono ?_⟩
  · rintro e w'' ⟨O'', hl, hg, hor⟩
    have hkeep:∀b∈bs.filterMap Prod.fst,w''.heap[b]?=w'.heap[b]?:=fun b hb=>hl.block b (hlt b hb) fun hm=>(h4 b hm).1 hb
    have hnew:∀k∈O'',k ∉ bs.filterMap Prod.fst∧k<w''.heap.size:=fun k hk=>⟨fun hm=>by
      rcases hg.new k hk with h |h
      · exact(h4 k h).1 hm
      · have:=hlt k hm;omega,hg.lt k hk⟩
    have hst:Step (bm::ks bs Oc) w' (bm::ks bs O'') w'':=Step.of_loc hl (fun k hk=>List.mem_cons_of_mem _ (mem_ks.2 (.inr hk))) fun k hk=>by
      rcases List.mem_cons.1 hk with rfl |hk
      · exact .inl List.mem_cons_self
      · rcases mem_ks.1 hk with hk | hk
        · exact .inl (List.mem_cons_of_mem _ (mem_ks.2 (.inl hk)))
        · exact(hg.new k hk).imp (fun h=>List.mem_cons_of_mem _ (mem_ks.2 (.inr h))) id
    have mk:∀J':JP γ,J' (pre++pre'++[a]) w'' O'' (K'++bs.filterMap Prod.fst)→JinM J' pre w O bs bm (pre'++[a]) w'' (ks bs O'') K':=fun J' hj=>
      ⟨O'',rfl,by rw [← List.append_assoc];exact hj,fun p hp b hb=>by rw [hkeep b (mem_keys.2 ⟨p,hp,hb⟩)];exact h3 p hp b hb,hnew,h5.trans hst,h6⟩
    refine⟨ks bs O'',hl.sub fun k hk=>.inl (mem_ks.2 (.inr hk)),⟨fun k hk=>?_,fun k hk=>?_⟩,?_⟩
    · rcases mem_ks.1 hk with hk | hk
      · exact .inl (mem_ks.2 (.inl hk))
      · exact(hg.new k hk).imp (fun h=>mem_ks.2 (.inr h)) id
    · rcases mem_ks.1 hk with hk | hk
      · exact Nat.lt_of_lt_of_le (hlt k hk) hl.size
      · exact hg.lt k hk
    · rcases hor with ⟨he, h⟩ | ⟨he, h⟩
      · exact .inl ⟨he,mk J h⟩
      · exact .inr ⟨he,mk Jx h⟩
theorem op_yieldS {d:Option Nat} {ty:TypeId} {pos:String} {aft:Array Edge} {g:Option (Nat × Bool)} {Vv:Value→World→Prop} {x:Operand} {args:List Operand} {us:Array TypeId} {vs:List Value} {a:γ}
    (hx:ev ρ x=.func (.yield l) #[] #[]) (ha:args.map (ev ρ)=vs) (hY:YieldsTo P enc L l J Jx) (hJ:Abides J) (hI:Itr J pre z O) (hs:St z O w bs) (hL:pre++[a]<+:L) (hen:enc a w (ks bs O) vs)
    (kt:∀w' O',St ⟨w',bs.filterMap Prod.fst,[]⟩ O' w' bs→Step (ks bs O) w (ks bs O') w'→Itr J (pre++[a]) ⟨w',bs.filterMap Prod.fst,[]⟩ O'→Vv (.bool true) w')
    (kf:∀w' O',St ⟨w',bs.filterMap Prod.fst,[]⟩ O' w' bs→Step (ks bs O) w (ks bs O') w'→Itr Jx (pre++[a]) ⟨w',bs.filterMap Prod.fst,[]⟩ O'→Vv (.bool false) w'):
    Run1 P none ρ w ⟨d,.call ⟨.value x,args.toArray,us⟩,ty,pos,aft,g⟩ Vv:=by
  obtain⟨fn,tmps,assign,body,hy,hR⟩:=hY pre a w O (bs.filterMap Prod.fst) vs hL (hI.now hJ hs) (fun k hk=>⟨hs.ltw k (mem_ks.2 (.inl hk)),fun hm=>(hs.dj k hm).2 hk⟩) hs.lt0 hen
  unfold Run1
  rw [Oper.semAt_eq _ _ _ (by simp)]
  have hrun:(execOp (ev ρ) ⟨d,.call ⟨.value x,args.toArray,us⟩,ty,pos,aft,g⟩).run P w=.ok (.round l fn tmps assign body) w:=by
    simp only [execOp,resolve,hx]
    subst ha
    simpa [go_sem,invoke] using hy
  rw [hrun]
  simp only
  refine RoundIn.mono hR ?_
  rintro e w' ⟨O',hl,hg,h⟩
  have hS:St ⟨w',bs.filterMap Prod.fst,[]⟩ O' w' bs:=by
    refine⟨Loc.refl _ _,fun p hp b hb=>⟨.inl (mem_keys.2 ⟨p,hp,hb⟩),?_⟩,hs.nd,fun k hk=>⟨hg.lt k hk,fun hm=>?_⟩,List.nodup_nil,fun _ h=>by cases h⟩
    · rw [hl.block b (hs.lt hp hb) fun hm=>(hs.dj b hm).2 (mem_keys.2 ⟨p,hp,hb⟩)];exact(hs.own p hp b hb).2
    · rcases hg.new k hk with h1 | h1
      · exact(hs.dj k h1).2 hm
      · obtain ⟨p, hp, e⟩ := mem_keys.1 hm
        have:=hs.lt hp e;omega
  have hP:Step (ks bs O) w (ks bs O') w':=Step.of_loc hl (fun k hk=>mem_ks.2 (.inr hk)) fun k hk=>by
    rcases mem_ks.1 hk with hk |hk
    · exact .inl (mem_ks.2 (.inl hk))
    · exact(hg.new k hk).imp (fun h=>mem_ks.2 (.inr h)) id
  have hdj:∀k∈bs.filterMap Prod.fst,k ∉ O':=fun k hk hm=>(hS.dj k hm).2 hk
  rcases h with ⟨rfl,h⟩ |⟨rfl,h⟩
  · exact⟨_,rfl,kt w' O' hS hP ⟨h,hdj⟩⟩
  · exact⟨_,rfl,kf w' O' hS hP ⟨h,hdj⟩⟩
theorem Itr.startM {w:World} {bm:Nat} (h:J [] w O [bm]) (hb:bm ∉ O):Itr J [] ⟨w,[bm],[]⟩ O:=⟨h,fun k hk=>by simp at hk;subst hk;exact hb⟩
theorem Itr.finM {o:Obj} (h:Itr J pre z O) (hJ:Abides J) (hs:St z O w [(some bm,o)]):J pre w O [bm]∧bm ∉ O∧w.heap[bm]?=some o:=
  ⟨h.now hJ hs,fun hm=>(hs.dj bm hm).2 (by simp),hs.get (i:=0) rfl⟩
end call
end Go.Fx
/- Ranges over maps: whatever the order, the same comes out. No program in sight. -/
set_option linter.unusedSimpArgs false
set_option linter.unusedVariables false
set_option linter.unusedSectionVars false
namespace Go.Fx
open Go Go.RowKit
/-! models -/
section model
variable {α β σ R : Type}
def picks:List α→List (α × List α)
  |[] =>[]
  |x::t=>(x,t)::(picks t).map fun p=>(p.1,x::p.2)
theorem mem_picks {xs:List α} {p:α × List α} :p∈picks xs ↔ ∃r1 r2,xs=r1++p.1::r2∧p.2=r1++r2:=by
  induction xs generalizing p with
  |nil=>simp [picks]
  |cons x t ih=>
    simp only [picks,List.mem_cons,List.mem_map]
    constructor
    · rintro (rfl | ⟨q, hq, rfl⟩)
      · exact⟨[],t,rfl,rfl⟩
      · obtain ⟨r1, r2, e1, e2⟩ := ih.1 hq
        exact⟨x::r1,r2,by simp [e1],by simp [e2]⟩
    · rintro ⟨r1, r2, e1, e2⟩
      cases r1 with
      |nil=>
        left
        have:=List.cons.inj e1
        obtain⟨a,b⟩:=p
        simp at e2 this
        rw [this.1,this.2,e2]
      |cons y r1=>
        right
        have:=List.cons.inj e1
        refine⟨(p.1,r1++r2),ih.2 ⟨r1,r2,this.2,rfl⟩,?_⟩
        obtain⟨a,b⟩:=p
        simp at e2 this ⊢
        rw [this.1,e2]
theorem mem_picks_length {xs:List α} {p:α × List α} (h:p∈picks xs):xs.length=p.2.length+1:=by
  obtain⟨r1,r2,e1,e2⟩:=mem_picks.1 h
  rw [e1,e2];simp;omega
def allSame [DecidableEq R]:List (Option R)→Option R
  |[] =>none
  |r::t=>r.bind fun a=>bif t.all (fun u=>decide (u=some a)) then some a else none
theorem allSame_iff [DecidableEq R] {L:List (Option R)} {a:R} :allSame L=some a ↔ L≠[]∧∀u∈L,u=some a:=by
  cases L with
  |nil=>simp [allSame]
  |cons r t=>
    cases r with
    |none=>simp [allSame]
    |some b=>
      simp only [allSame,Option.bind_some]
      cases h:t.all (fun u=>decide (u=some b))
      · simp only [cond_false, reduceCtorEq, false_iff]
        rintro⟨_,h2⟩
        have e:b=a:=Option.some.inj (h2 (some b) (by simp))
        subst e
        have:t.all (fun u=>decide (u=some b))=true:=List.all_eq_true.2 fun u hu=>by simpa using h2 u (by simp [hu])
        rw [h] at this;cases this
      · simp only [cond_true, Option.some.injEq]
        have h':∀u∈t,u=some b:=fun u hu=>by simpa using List.all_eq_true.1 h u hu
        constructor
        · rintro rfl;exact⟨by simp,fun u hu=>(List.mem_cons.1 hu).elim id (h' u)⟩
        · rintro⟨_,h2⟩;exact Option.some.inj (h2 (some b) (by simp))
def mrngN [DecidableEq R] (b:(σ→Option R)→α→σ→Option R) (k:σ→Option R):Nat→List α→σ→Option R
  |0,_,s=>k s
  |n+1,xs,s=>allSame ((picks xs).map fun p=>b (mrngN b k n p.2) p.1 s)
def mrng [DecidableEq R] (b:(σ→Option R)→α→σ→Option R) (k:σ→Option R) (xs:List α):σ→Option R:=mrngN b k xs.length xs
theorem mrng_s [DecidableEq R] {b:(σ→Option R)→α→σ→Option R} {k:σ→Option R} {s:σ} {x:R} {r1 r2:List α} {p:α} (h:mrng b k (r1++p::r2) s=some x):∃sf,sf=mrng b k (r1++r2)∧b sf p s=some x:=by
  refine⟨_,rfl,?_⟩
  unfold mrng at h
  rw [show(r1++p::r2).length=(r1++r2).length+1 by simp;omega] at h
  exact(allSame_iff.1 h).2 _ (List.mem_map.2 ⟨(p,r1++r2),mem_picks.2 ⟨r1,r2,rfl,rfl⟩,rfl⟩)
theorem mrngN_perm [DecidableEq R] (b:(σ→Option R)→α→σ→Option R) (k:σ→Option R):∀(n:Nat) {l xs:List α},l.length=n→l.Perm xs→mrngN b k n l=mrngN b k n xs:=by
  intro n
  induction n with
  |zero=>intro l xs hl h;rfl
  |succ n ih=>
    intro l xs hl h
    have one:∀{l xs:List α},l.length=n+1→l.Perm xs→∀s a,mrngN b k (n+1) l s=some a→mrngN b k (n+1) xs s=some a:=by
      intro l xs hl h s a ha
      have:=allSame_iff.1 ha
      refine allSame_iff.2 ⟨?_,fun u hu=>?_⟩
      · intro e
        have e2:picks xs=[]:=List.map_eq_nil_iff.1 e
        cases xs with
        |nil=>rw [h.length_eq] at hl;cases hl
        |cons x t=>simp [picks] at e2
      · obtain ⟨p, hp, rfl⟩ := List.mem_map.1 hu
        obtain⟨r1,r2,e1,e2⟩:=mem_picks.1 hp
        have hm:p.1∈l:=h.mem_iff.2 (by rw [e1];simp)
        obtain⟨l1,l2,e3⟩:=List.append_of_mem hm
        have hp2:(l1++l2).Perm (r1++r2):=by
          have:(p.1::(l1++l2)).Perm (p.1::(r1++r2)):=by
            have h3:=h
            rw [e1,e3] at h3
            exact List.perm_middle.symm.trans (h3.trans List.perm_middle)
          exact List.Perm.cons_inv this
        have hn:(l1++l2).length=n:=by rw [e3] at hl;simp at hl ⊢;omega
        rw [e2,← ih hn hp2]
        exact this.2 _ (List.mem_map.2 ⟨(p.1,l1++l2),mem_picks.2 ⟨l1,l2,e3,rfl⟩,rfl⟩)
    funext s
    have h2:=one hl h s
    have h3:=one (h.symm.length_eq.trans hl) h.symm s
    cases e:mrngN b k (n+1) l s with
    |some a=>exact(h2 a e).symm
    |none=>cases e':mrngN b k (n+1) xs s with
      |none=>rfl
      |some a=>rw [h3 a e'] at e;cases e
theorem mrng_perm [DecidableEq R] {b:(σ→Option R)→α→σ→Option R} {k:σ→Option R} {l xs:List α} (h:l.Perm xs):mrng b k l=mrng b k xs:=by
  unfold mrng;rw [h.length_eq];exact mrngN_perm b k _ h.length_eq h
section curry
variable [DecidableEq R] {A0 A1 A2 A3 : Type}
def mrng1 (b:(A0→Option R)→α→A0→Option R) (k:A0→Option R) (xs:List α):A0→Option R:=mrng b k xs
def mrng2 (b:(A0→A1→Option R)→α→A0→A1→Option R) (k:A0→A1→Option R) (xs:List α) (a0:A0) (a1:A1):Option R:=mrng (fun sf p (s:A0 × A1)=>b (fun a0 a1=>sf (a0,a1)) p s.1 s.2) (fun s=>k s.1 s.2) xs (a0,a1)
variable {x : R} {a0 : A0} {a1 : A1} {a2 : A2} {a3 : A3} {r1 r2 : List α} {p : α}
theorem mrng1_z {b:(A0→Option R)→α→A0→Option R} {k:A0→Option R} (h:mrng1 b k [] a0=some x):k a0=some x:=h
theorem mrng2_z {b:(A0→A1→Option R)→α→A0→A1→Option R} {k:A0→A1→Option R} (h:mrng2 b k [] a0 a1=some x):k a0 a1=some x:=h
theorem mrng1_s {b:(A0→Option R)→α→A0→Option R} {k:A0→Option R} (h:mrng1 b k (r1++p::r2) a0=some x):∃sf,sf=mrng1 b k (r1++r2)∧b sf p a0=some x:=mrng_s h
theorem mrng2_s {b:(A0→A1→Option R)→α→A0→A1→Option R} {k:A0→A1→Option R} (h:mrng2 b k (r1++p::r2) a0 a1=some x):∃sf,sf=mrng2 b k (r1++r2)∧b sf p a0 a1=some x:=by
  obtain⟨_,rfl,h⟩:=mrng_s h;exact⟨_,rfl,h⟩
theorem mrng1_perm {b:(A0→Option R)→α→A0→Option R} {k:A0→Option R} {l xs:List α} (h:l.Perm xs):mrng1 b k l=mrng1 b k xs:=mrng_perm h
theorem mrng2_perm {b:(A0→A1→Option R)→α→A0→A1→Option R} {k:A0→A1→Option R} {l xs:List α} (h:l.Perm xs):mrng2 b k l=mrng2 b k xs:=by unfold mrng2;rw [mrng_perm h]
end curry
end model
/-! what stands in memory -/
section mem
variable {K V : Type} [DecidableEq K] [Kord K] {q : Kk K} {m : Mv V} {om oi : Obj} {xs rem : List (K × V)}
def Mit (q:Kk K) (m:Mv V) (om oi:Obj) (b:Nat) (last:Option (K × V)) (rem:List (K × V)):Prop:=
  ∃es clock l since seen c0,om=.map es clock∧MapIs q m es clock l∧(l.Pairwise fun e f=>e.1≠f.1)∧oi=.mapIter (some b) since seen c0∧(∀e∈l,e.2.2<since)∧since≤c0∧since≤clock∧
    rem=((l.filter fun e=>!seen.contains e.2.2).map fun e=>(e.1,e.2.1))∧(last=none∨∃e∈l,∃seen',seen=Array.push seen' e.2.2∧last=some (e.1,e.2.1)∧c0=clock)
theorem Mo.perm {es:Array MapEntry} {clock:Nat} {l:List (K × V × Nat)} (hd:l.Pairwise fun e f=>e.1≠f.1) (hp:∀n x,(∃b,(n,x,b)∈l) ↔ (n,x)∈xs) (hr:Ris xs):(l.map fun e=>(e.1,e.2.1)).Perm xs:=by
  refine(List.perm_ext_iff_of_nodup ?_ (ris_nodup hr)).2 fun p=>?_
  · rw [List.nodup_iff_pairwise_ne,List.pairwise_map];exact hd.imp fun h e=>h (Prod.mk.inj e).1
  · rw [← hp p.1 p.2]; simp only [List.mem_map]
    constructor
    · rintro⟨e,he,rfl⟩;exact⟨e.2.2,he⟩
    · rintro⟨b,hb⟩;exact⟨(p.1,p.2,b),hb,rfl⟩
theorem Mit.start {b:Nat} (h:Mo q m om xs):∃es clock rem,om=.map es clock∧Mit q m om (.mapIter (some b) clock #[] clock) b none rem∧rem.Perm xs:=by
  obtain⟨es,clock,l,rfl,hM,hd,hp,hr⟩:=h
  refine⟨es,clock,l.map fun e=>(e.1,e.2.1),rfl,⟨es,clock,l,clock,#[],clock,rfl,hM,hd,rfl,hM.lt,Nat.le_refl _,Nat.le_refl _,?_,.inl rfl⟩,Mo.perm (es:=es) (clock:=clock) hd hp hr⟩
  congr 1
  exact(List.filter_eq_self.2 fun e _=>by simp).symm
variable {P : Program} {w : World} {b r : Nat} {last : Option (K × V)} {ty : TypeId}
theorem run_nextM (h:Mit q m om oi b last rem) (hm:w.heap[b]?=some om) (hi:w.heap[r]?=some oi):
    (rem=[]∧(Instr.next (.pointer (some ⟨r,0,none⟩)) false ty).run P w=.ok (.tuple #[.bool false]) w)∨
    ∃p r1 r2 oi' w1,rem=r1++p::r2∧(w1=w∨w1=w.drew)∧(Instr.next (.pointer (some ⟨r,0,none⟩)) false ty).run P w=.ok (.tuple #[.bool true,q.enc p.1,m.enc p.2]) (w1.putObj r oi')∧Mit q m om oi' b (some p) (r1++r2)∧q.ok p.1∧m.ok p.2:=by
  obtain⟨es,clock,l,since,seen,c0,rfl,hM,hd,rfl,hs,hsc,hcl,hrem,_⟩:=h
  have hold:∀x∈es.toList,x.born<since:=fun x hx=>by
    rw [hM.eq] at hx
    obtain⟨e,he,rfl⟩:=List.mem_map.1 hx
    exact hs e he
  have hleft:(leftOf es seen).toList=(l.filter fun e=>!seen.contains e.2.2).map fun e=>(⟨q.enc e.1,m.enc e.2.1,e.2.2⟩:MapEntry):=by
    unfold leftOf
    rw [Array.toList_filter,hM.eq,List.filter_map]
    rfl
  rcases run_next_at (P:=P) w ty r b since c0 seen es clock hi hm hold hsc with ⟨h1,h2⟩ |⟨e,he,w1,hw1,h2⟩
  · left
    refine⟨?_,h2⟩
    have:(leftOf es seen).toList=[]:=by rw [List.eq_nil_iff_length_eq_zero,Array.length_toList];exact h1
    rw [hleft] at this
    rw [hrem]
    simpa using this
  · right
    rw [hleft] at he
    obtain⟨e',he',rfl⟩:=List.mem_map.1 he
    have hel:e'∈l:=(List.mem_filter.1 he').1
    have hes:seen.contains e'.2.2=false:=by have:=(List.mem_filter.1 he').2;simpa using this
    obtain⟨l1,l2,hl⟩:=List.append_of_mem hel
    have hb:=hM.born
    rw [hl,List.pairwise_append] at hb
    have hn1:∀f∈l1,¬f.2.2=e'.2.2:=fun f hf=>by have:=hb.2.2 f hf e' (by simp);omega
    have hn2:∀f∈l2,¬f.2.2=e'.2.2:=fun f hf=>by have:=(List.pairwise_cons.1 hb.2.1).1 f hf;omega
    have fpush:∀f:K × V × Nat,(!(seen.push e'.2.2).contains f.2.2)=(!seen.contains f.2.2&&!decide (f.2.2=e'.2.2)):=fun f=>by
      simp only [Array.contains_push]
      by_cases h:f.2.2=e'.2.2<;> simp [h]
    have hfil:∀t:List (K × V × Nat),(∀f∈t,¬f.2.2=e'.2.2)→t.filter (fun f=>!(seen.push e'.2.2).contains f.2.2)=t.filter (fun f=>!seen.contains f.2.2):=fun t ht=>by
      apply List.filter_congr
      intro f hf
      rw [fpush];simp [ht f hf]
    have hw1b:∀k:Nat,w1.heap[k]?=w.heap[k]?:=fun k=>by rcases hw1 with rfl |rfl<;> rfl
    refine⟨(e'.1,e'.2.1),(l1.filter fun f=>!seen.contains f.2.2).map fun e=>(e.1,e.2.1),(l2.filter fun f=>!seen.contains f.2.2).map fun e=>(e.1,e.2.1),.mapIter (some b) since (seen.push e'.2.2) clock,w1,?_,hw1,?_,?_,hM.ok e' hel⟩
    · rw [hrem, hl]
      rw [List.filter_append,List.filter_cons_of_pos (by simpa using hes),List.map_append,List.map_cons]
    · exact h2
    · refine ⟨es, clock, l, since, seen.push e'.2.2, clock, rfl, hM, hd, rfl, hs, hcl, hcl, ?_, .inr ⟨e', hel, seen, rfl, rfl, rfl⟩⟩
      rw [hl,List.filter_append,List.filter_cons_of_neg (by rw [fpush];simp),hfil l1 hn1,hfil l2 hn2,List.map_append]
theorem run_entryM {p:K × V} (h:Mit q m om oi b (some p) rem) (hm:w.heap[b]?=some om) (hi:w.heap[r]?=some oi):
    (Instr.entry (.pointer (some ⟨r,0,none⟩))).run P w=.ok (.tuple #[q.enc p.1,m.enc p.2]) w:=by
  obtain⟨es,clock,l,since,seen,c0,rfl,hM,hd,rfl,hs,hsc,hcl,hrem,hl⟩:=h
  rcases hl with hl |⟨e,he,seen',rfl,hl,rfl⟩
  · cases hl
  cases hl
  have hmem:(⟨q.enc e.1,m.enc e.2.1,e.2.2⟩:MapEntry)∈es.toList:=by rw [hM.eq];exact List.mem_map.2 ⟨e,he,rfl⟩
  have hnd:(es.toList.map (·.born)).Nodup:=by
    rw [hM.eq,List.map_map,List.nodup_iff_pairwise_ne,List.pairwise_map]
    exact hM.born.imp fun h=>Nat.ne_of_lt h
  have hf:es.find? (·.born == e.2.2)=some ⟨q.enc e.1,m.enc e.2.1,e.2.2⟩:=by rw [← Array.find?_toList];exact find_born _ es.toList hnd hmem
  simp only [Instr.entry,getObj,Sem.run_bind,Sem.run,hi,hm,Result.andThen,Array.back?_push,hf]
  simp
end mem
section own
variable {K V : Type} [DecidableEq K] [Kord K] {q : Kk K} {m : Mv V} {P : Program} {r : Option Nat} {ρ : Env} {w w' : World} {d : Option Nat} {ty : TypeId} {pos : String} {aft : Array Edge} {g : Option (Nat × Bool)} {Vv : Value → World → Prop}
variable {z0 : Zx} {O0 O O' : List Nat} {bs : Ents} {x : Operand} {t kt e : TypeId} {v : Value} {oi : Obj} {last : Option (K × V)} {xs rem : List (K × V)}
def MitR (q:Kk K) (m:Mv V) (w:World) (O:List Nat) (v:Value) (oi:Obj) (last:Option (K × V)) (rem:List (K × V)):Prop:=
  ∃b om,v=.map (some b)∧Sh w O b∧w.heap[b]?=some om∧Mit q m om oi b last rem
theorem MitR.step (h:MitR q m w O v oi last rem) (s:Step O w O' w'):MitR q m w' O' v oi last rem:=by
  obtain⟨b,o,h1,h2,h3,h4⟩:=h
  exact⟨b,o,h1,h2.step s,by rw [(s.keep b h2.lt h2.no).2];exact h3,h4⟩
theorem Mit.any {om:Obj} {b:Nat} (h:Mit q m om oi b last rem):Mit q m om oi b none rem:=by
  obtain⟨es,clock,l,since,seen,c0,h1,h2,h3,h4,h5,h6,h7,h8,_⟩:=h
  exact⟨es,clock,l,since,seen,c0,h1,h2,h3,h4,h5,h6,h7,h8,.inl rfl⟩
theorem MitR.any (h:MitR q m w O v oi last rem):MitR q m w O v oi none rem:=by
  obtain⟨b,o,h1,h2,h3,h4⟩:=h
  exact⟨b,o,h1,h2,h3,h4.any⟩
theorem op_rangeM (hu:P.underlying t=some (.map kt e)) (hs:St z0 O0 w bs) (h:MpR q m w (ks bs O0) v xs) (hx:ev ρ x=v)
    (k:∀bl oi rem w',Step (ks bs O0) w (ks ((some bl,oi)::bs) O0) w'→St z0 O0 w' ((some bl,oi)::bs)→MitR q m w' (ks ((some bl,oi)::bs) O0) v oi none rem→rem.Perm xs→Vv (.pointer (some ⟨bl,0,none⟩)) w'):
    Run1 P r ρ w ⟨d,.range t x,ty,pos,aft,g⟩ Vv:=by
  obtain⟨b,o,rfl,hsh,hb,hM⟩:=h
  obtain⟨es,clock,rem,rfl,hit,hp⟩:=Mit.start (b:=b) hM
  have hs':=Step.alloc w O0 bs (.mapIter (some b) clock #[] clock)
  refine run1_value (v:=.pointer (some ⟨w.heap.size,0,none⟩)) (w':=w.alloc (.mapIter (some b) clock #[] clock)) (by simp) ?_ (k _ _ rem _ hs' (hs.alloc _) (MitR.step ⟨b,_,rfl,hsh,hb,hit⟩ hs') hp)
  simp [execOp,hx,Instr.range,run_underlying hu,run_goM hb]
theorem op_nextM {i b:Nat} (hs:St z0 O0 w bs) (hi:bs[i]?=some (some b,oi)) (h:MitR q m w (ks bs O0) v oi last rem) (hx:ev ρ x=.pointer (some ⟨b,0,none⟩))
    (k0:rem=[]→Vv (.tuple [Value.bool false].toArray) w)
    (k1:∀p r1 r2 oi' w',rem=r1++p::r2→Step (ks bs O0) w (ks (bs.set i (some b,oi')) O0) w'→St z0 O0 w' (bs.set i (some b,oi'))→MitR q m w' (ks (bs.set i (some b,oi')) O0) v oi' (some p) (r1++r2)→q.ok p.1→m.ok p.2→Vv (.tuple [Value.bool true,q.enc p.1,m.enc p.2].toArray) w'):
    Run1 P r ρ w ⟨d,.next x false,ty,pos,aft,g⟩ Vv:=by
  obtain⟨bm,om,rfl,hsh,hb,hit⟩:=h
  rcases run_nextM (P:=P) (w:=w) (r:=b) (ty:=ty) hit hb (hs.get hi) with ⟨h0,h1⟩ |⟨p,r1,r2,oi',w1,hr,hw1,h1,h2,h3,h4⟩
  · refine run1_value (by simp) ?_ (k0 h0)
    simp [execOp,hx,h1]
  · have he : Ext w w1 := by rcases hw1 with rfl | rfl; exact Ext.refl _; exact Ext.drew _
    have hs1:=hs.call he
    obtain⟨h5,h6⟩:=hs1.putObj hi oi'
    have h7:=(Step.ext (O:=ks bs O0) he).trans h6
    have hsh':=hsh.step h7
    refine run1_value (by simp) ?_ (k1 p r1 r2 oi' _ hr h7 h5 ⟨bm,om,rfl,hsh',?_,h2⟩ h3 h4)
    · simp [execOp,hx,h1]
    · rw [(h7.keep bm hsh.lt hsh.no).2];exact hb
theorem op_entryM {i b:Nat} {p:K × V} (hs:St z0 O0 w bs) (hi:bs[i]?=some (some b,oi)) (h:MitR q m w (ks bs O0) v oi (some p) rem) (hx:ev ρ x=.pointer (some ⟨b,0,none⟩))
    (k:Vv (.tuple [q.enc p.1,m.enc p.2].toArray) w):Run1 P r ρ w ⟨d,.entry x,ty,pos,aft,g⟩ Vv:=by
  obtain⟨bm,om,rfl,hsh,hb,hit⟩:=h
  refine run1_value (by simp) ?_ k
  simp [execOp,hx,run_entryM hit hb (hs.get hi)]
end own
end Go.Fx
/- Blocks of one's own lent to a function that is called: variables, arrays, maps that it writes. No program in sight. -/
set_option linter.unusedSimpArgs false
set_option linter.unusedVariables false
set_option linter.unusedSectionVars false
namespace Go.Fx
open Go Go.RowKit
section
variable {w w' : World} {O O0 : List Nat} {L L' rest bs : Ents} {z : Zx}
theorem ks_app (L rest:Ents) (O:List Nat):ks (L++rest) O=ks L (ks rest O):=by simp [ks,List.filterMap_append,List.append_assoc]
def Lend (w:World) (O:List Nat) (L:Ents):Prop:=St ⟨w,L.filterMap Prod.fst,[]⟩ O w L
theorem St.lendL (hs:St z O0 w (L++rest)):Lend w (ks rest O0) L:=by
  have hnd:=hs.nd
  rw [List.filterMap_append] at hnd
  have hdis:=(List.nodup_append.1 hnd).2.2
  refine⟨Loc.refl _ _,fun p hp b hb=>⟨.inl (mem_keys.2 ⟨p,hp,hb⟩),(hs.own p (List.mem_append_left _ hp) b hb).2⟩,(List.nodup_append.1 hnd).1,fun k hk=>?_,List.nodup_nil,fun _ h=>by cases h⟩
  rcases mem_ks.1 hk with hk |hk
  · obtain ⟨p, hp, hb⟩ := mem_keys.1 hk
    exact⟨hs.lt (List.mem_append_right _ hp) hb,fun hm=>hdis _ hm _ hk rfl⟩
  · exact⟨(hs.dj k hk).1,fun hm=>(hs.dj k hk).2 (by rw [List.filterMap_append];exact List.mem_append_left _ hm)⟩
structure Back (w:World) (L:Ents) (w':World) (O:List Nat) (L':Ents):Prop where
  loc:Loc (L.filterMap Prod.fst) w w'
  st:Lend w' O L'
  new:∀k∈L'.filterMap Prod.fst,k∈L.filterMap Prod.fst∨w.heap.size≤k
theorem St.backB (hs:St ⟨w,L.filterMap Prod.fst,[]⟩ O w' L'):Back w L w' O L':=
  ⟨hs.below,⟨Loc.refl _ _,fun p hp b hb=>⟨.inl (mem_keys.2 ⟨p,hp,hb⟩),(hs.own p hp b hb).2⟩,hs.nd,hs.dj,List.nodup_nil,fun _ h=>by cases h⟩,fun k hk=>by
    obtain⟨p,hp,hb⟩:=mem_keys.1 hk
    exact(hs.own p hp k hb).1⟩
theorem Back.refl (h:Lend w O L):Back w L w O L:=⟨Loc.refl _ _,h,fun k hk=>.inl hk⟩
theorem Back.trans {w1 w2:World} {L1 L2:Ents} (h:Back w L w1 O L1) (k:Back w1 L1 w2 O L2):Back w L w2 O L2:=
  ⟨h.loc.trans' k.loc h.new,k.st,fun b hb=>by
    rcases k.new b hb with h1 |h1
    · exact h.new b h1
    · exact .inr (Nat.le_trans h.loc.size h1)⟩
theorem Back.step (h:Back w L w' O L'):Step (ks L O) w (ks L' O) w':=by
  refine⟨h.loc.size,fun k hk hn=>⟨fun hm=>?_,h.loc.block k hk fun hm=>hn (mem_ks.2 (.inl hm))⟩⟩
  rcases mem_ks.1 hm with hm |hm
  · rcases h.new k hm with h1 | h1
    · exact hn (mem_ks.2 (.inl h1))
    · omega
  · exact hn (mem_ks.2 (.inr hm))
theorem St.backL (hs:St z O0 w (L++rest)) (h:Back w L w' (ks rest O0) L'):St z O0 w' (L'++rest)∧Step (ks (L++rest) O0) w (ks (L'++rest) O0) w':=by
  have hnd:=hs.nd
  rw [List.filterMap_append] at hnd
  have hdis:=(List.nodup_append.1 hnd).2.2
  have hz:z.w.heap.size≤w.heap.size:=hs.below.size
  have hold:∀k∈L.filterMap Prod.fst,k∈z.K∨z.w.heap.size≤k:=fun k hk=>by
    obtain⟨p,hp,hb⟩:=mem_keys.1 hk
    exact(hs.own p (List.mem_append_left _ hp) k hb).1
  refine⟨⟨hs.below.trans' h.loc hold,fun p hp b hb=>?_,?_,fun k hk=>⟨Nat.lt_of_lt_of_le (hs.dj k hk).1 h.loc.size,fun hm=>?_⟩,hs.dsn,fun D hD=>?_⟩,?_⟩
  · rcases List.mem_append.1 hp with hp | hp
    · refine ⟨?_, (h.st.own p hp b hb).2⟩
      rcases h.new b (mem_keys.2 ⟨p,hp,hb⟩) with h1 |h1
      · exact hold b h1
      · exact .inr (Nat.le_trans hz h1)
    · have h1 := hs.own p (List.mem_append_right _ hp) b hb
      refine⟨h1.1,?_⟩
      rw [h.loc.block b (hs.lt (List.mem_append_right _ hp) hb) fun hm=>hdis _ hm _ (mem_keys.2 ⟨p,hp,hb⟩) rfl]
      exact h1.2
  · rw [List.filterMap_append]
    refine List.nodup_append.2 ⟨h.st.nd,(List.nodup_append.1 hnd).2.1,fun a ha b hb e=>?_⟩
    subst e
    exact(h.st.dj a (mem_ks.2 (.inl hb))).2 ha
  · rw [List.filterMap_append] at hm
    rcases List.mem_append.1 hm with hm |hm
    · exact(h.st.dj k (mem_ks.2 (.inr hk))).2 hm
    · exact(hs.dj k hk).2 (by rw [List.filterMap_append];exact List.mem_append_right _ hm)
  · obtain ⟨h1, h2, h3⟩ := hs.dfs D hD
    refine⟨h1,h2,?_⟩
    rw [h.loc.block D (hs.dj D h1).1 fun hm=>(hs.dj D h1).2 (by rw [List.filterMap_append];exact List.mem_append_left _ hm)]
    exact h3
  · have := h.step
    rwa [ks_app,ks_app]
def OkL {β:Type} (P:Program) (f:FuncId) (args:List Value) (w:World) (O:List Nat) (L:Ents) (R:Vr β) (y:β) (Post:World→Ents→Prop):Prop:=
  Fn P f args w fun v w'=>∃L',Back w L w' O L'∧Post w' L'∧R.vd w' (ks L' O) v y
theorem op_callL {β:Type} {P:Program} {r:Option Nat} {ρ:Env} {d:Option Nat} {ty:TypeId} {pos:String} {aft:Array Edge} {g:Option (Nat × Bool)} {Vv:Value→World→Prop} {f:FuncId} {args:Array Operand} {us:Array TypeId} {vs:List Value} {R:Vr β} {y:β} {Post:World→Ents→Prop}
    (hc:∀(args:Array Value) (w:World),(callFunc f args).run P w=.ok (.enter f args) w) (L:Ents) (hs:St z O0 w (L++rest)) (h:OkL P f vs w (ks rest O0) L R y Post) (ha:args.toList.map (ev ρ)=vs)
    (k:∀v w' L',Step (ks (L++rest) O0) w (ks (L'++rest) O0) w'→St z O0 w' (L'++rest)→Post w' L'→R.vd w' (ks (L'++rest) O0) v y→Vv v w'):Run1 P r ρ w ⟨d,.call ⟨.value (.func f),args,us⟩,ty,pos,aft,g⟩ Vv:=by
  refine op_call hc h ha ?_
  rintro v w' ⟨L',hB,hP,hR⟩
  obtain⟨h1,h2⟩:=hs.backL hB
  exact k v w' L' h2 h1 hP (by rw [ks_app];exact hR)
section load
variable {P : Program} {r : Option Nat} {ρ : Env} {d : Option Nat} {ty : TypeId} {pos : String} {aft : Array Edge} {g : Option (Nat × Bool)} {V : Value → World → Prop} {t : TypeId} {td : TypeDesc} {b : Nat} {zs : List Value} {x : Operand} {m : Int}
theorem op_loadW {α:Type} [Inhabited α] {p:Rp α} {pre xs post:List α} {e:TypeId} {a:Option Addr} {c bl i:Nat} {o:Obj} (T:Ty P t td 1 b zs false) (hp:p.n=1) (hs:St z O0 w bs) (hi:bs[i]?=some (some bl,o))
    (hx:ev ρ x=.pointer (some ⟨bl,pre.length+m.toNat*1,none⟩)) (h:Gs p e w O a c (pre++xs++post) (some bl) o) (h0:0≤m∧m<xs.length)
    (k:∀v,p.rd w O [v] (xs.getD m.toNat default)→V v w):Run1 P r ρ w ⟨d,.load t x,ty,pos,aft,g⟩ V:=by
  have em:((pre.length+m.toNat:Nat):Int).toNat=pre.length+m.toNat:=Int.toNat_natCast _
  refine op_loadG (m:=((pre.length+m.toNat:Nat):Int)) T hp hs hi (by rw [em,Nat.mul_one];rw [Nat.mul_one] at hx;exact hx) h (by simp only [List.length_append];omega) ?_
  intro v hv
  refine k v ?_
  rw [em] at hv
  have:(pre++xs++post).getD (pre.length+m.toNat) default=xs.getD m.toNat default:=by
    rw [List.getD_eq_getElem?_getD,List.getD_eq_getElem?_getD,List.append_assoc,List.getElem?_append_right (by omega),show pre.length+m.toNat - pre.length=m.toNat by omega,List.getElem?_append_left (by omega)]
  rwa [this] at hv
theorem setL_row {cs:List Value} {o n off:Nat} {u:Value} (h:o+n≤cs.length) (ho:off<n):setL cs o (((cs.drop o).take n).set off u)=setL cs (o+off) [u]:=by
  have hl:(((cs.drop o).take n).set off u).length=n:=by simp;omega
  apply List.ext_getElem?
  intro j
  rw [setL_getAll (by rw [hl];exact h),setL_getAll (by simp;omega),hl]
  by_cases h1:o≤j∧j<o+n
  · rw [if_pos h1, List.getElem?_set]
    by_cases h2:off=j - o
    · rw [if_pos h2, if_pos (by simp; omega), if_pos (by simp; omega)]
      rw [show j - (o+off)=0 by omega];rfl
    · rw [if_neg h2,if_neg (by simp;omega),List.getElem?_take,if_pos (by omega),List.getElem?_drop,show o+(j - o)=j by omega]
  · rw [if_neg h1,if_neg (by simp;omega)]
theorem op_storeGF {α:Type} [Inhabited α] {p:Rp α} {xs:List α} {e:TypeId} {a:Option Addr} {c bl i nn off:Nat} {o:Obj} {v u:Value} {yv:α} {y:Operand} (T:Ty P t td 1 b zs false) (hp:p.n=nn) (hs:St z O0 w bs) (hi:bs[i]?=some (some bl,o))
    (hx:ev ρ x=.pointer (some ⟨bl,m.toNat*nn+off,none⟩)) (hy:ev ρ y=v) (hv:v.cells=[u].toArray) (hu:u.oneCell'=true) (h:Gs p e w (ks bs O0) a c xs (some bl) o) (h0:0≤m∧m<xs.length) (hoff:off<nn)
    (hr:∀vs,p.rd w (ks bs O0) vs (xs.getD m.toNat default)→p.rd w (ks bs O0) (vs.set off u) yv)
    (k:∀w' o',Step (ks bs O0) w (ks (bs.set i (some bl,o')) O0) w'→St z O0 w' (bs.set i (some bl,o'))→Gs p e w' (ks (bs.set i (some bl,o')) O0) a c (xs.set m.toNat yv) (some bl) o'→V undef w'):
    Run1 P r ρ w ⟨d,.store t x y,ty,pos,aft,g⟩ V:=by
  have hm:m.toNat<xs.length:=by omega
  rcases h with ⟨_,_,rfl,_⟩ |⟨b2,cur,h1,h2,h3,h4,h5,h6,h7⟩
  · simp at hm
  · cases h2
    subst h3 hp
    have e1:(m.toNat+1)*p.n≤xs.length*p.n:=Nat.mul_le_mul_right _ hm
    have e2:xs.length*p.n≤c*p.n:=Nat.mul_le_mul_right _ h5
    rw [Nat.add_mul,Nat.one_mul] at e1
    have hg:=h7.get m.toNat hm
    have erow:((cur.toList.take (xs.length*p.n)).drop (m.toNat*p.n)).take p.n=(cur.toList.drop (m.toNat*p.n)).take p.n:=by
      rw [List.drop_take,List.take_take,Nat.min_eq_left (by omega)]
    rw [erow] at hg
    have hgd:xs.getD m.toNat default=xs[m.toNat]:=by simp [List.getD_eq_getElem?_getD,List.getElem?_eq_getElem hm]
    have hr':=hr _ (by rw [hgd];exact hg)
    have hn:=p.len hr'
    refine op_store (cs:=cur.toList) (vs:=[u]) T hs hx hy (by rw [hi]) hv rfl (by simp;omega) (by simp [hu]) (setL_row (u:=u) (o:=m.toNat*p.n) (n:=p.n) (by simp;omega) hoff).symm rfl fun w' h8 h9=>?_
    refine k w' _ h8 h9 ?_
    generalize hvs:((cur.toList.drop (m.toNat*p.n)).take p.n).set off u=vs at hr' hn h8 h9 ⊢
    refine .inr ⟨bl,_,h1,rfl,rfl,?_,by simpa using h5,h6,?_⟩
    · rw [List.size_toArray,setL_length (by simp;omega)];simpa using h4
    · have e3 := (h7.set m.toNat hm hr').step h8
      simp only [List.length_set]
      have e4:(setL cur.toList (m.toNat*p.n) vs).take (xs.length*p.n)=((cur.toList.take (xs.length*p.n)).take (m.toNat*p.n))++vs++(cur.toList.take (xs.length*p.n)).drop (m.toNat*p.n+p.n):=by
        apply List.ext_getElem?
        intro j
        rw [List.getElem?_take,setL_getAll (by simp;omega)]
        simp only [List.getElem?_append,List.length_append,List.length_take,Array.length_toList,List.getElem?_take,List.getElem?_drop,hn]
        rw [Nat.min_eq_left (show xs.length*p.n≤cur.size by omega),Nat.min_eq_left (show m.toNat*p.n≤xs.length*p.n by omega)]
        by_cases c1:j<m.toNat*p.n
        · simp [c1,show j<m.toNat*p.n+p.n by omega,show j<xs.length*p.n by omega,show ¬m.toNat*p.n≤j by omega]
        · by_cases c2 : j < m.toNat * p.n + p.n
          · simp [c1,c2,show j<xs.length*p.n by omega,show m.toNat*p.n≤j by omega]
          · simp only [c1, c2, if_false, and_false]
            have:m.toNat*p.n+p.n+(j - (m.toNat*p.n+p.n))=j:=by omega
            rw [this]
      rw [e4];exact e3
theorem op_lenM {K V':Type} [DecidableEq K] [Kord K] {q:Kk K} {m:Mv V'} {kt e:TypeId} {v:Value} {xs:List (K × V')} (hu:P.underlying t=some (.map kt e)) (hx:ev ρ x=v) (h:MpR q m w O v xs) (k:V (.int .i64 xs.length) w):
    Run1 P r ρ w ⟨d,.call ⟨.builtin .len,#[x],#[t]⟩,ty,pos,aft,g⟩ V:=by
  obtain⟨bb,o,rfl,_,hb,hM⟩:=h
  obtain⟨es,clock,rfl,hsz⟩:=hM.size
  refine run1_value (v:=.int .i64 xs.length) (by simp) ?_ k
  simp [execOp,resolve,invoke,builtin,Builtin.len_,hx,run_underlying hu,goInt,run_goM hb,hsz]
end load
end
end Go.Fx
/- Structs that are compared, structs as keys of maps. No program in sight. -/
set_option linter.unusedSimpArgs false
set_option linter.unusedVariables false
set_option linter.unusedSectionVars false
namespace Go.Fx
open Go Go.RowKit
inductive EqF (P:Program) (d:Nat) (xs ys:List Value):List Field→List Bool→Prop
  |nil:EqF P d xs ys [] []
  | cons {f : Field} {fs : List Field} {c : Bool} {cs : List Bool} {a b : Value} (hn : f.name ≠ "_") (ha : ∀ w, (part f.type xs.toArray f.offset).run P w = .ok a w) (hb : ∀ w, (part f.type ys.toArray f.offset).run P w = .ok b w)
      (he:∀w,(Op.equalIn d f.type a b).run P w=.ok c w) (h:EqF P d xs ys fs cs):EqF P d xs ys (f::fs) (c::cs)
inductive CkF (P:Program) (e:Bool) (d:Nat) (xs:List Value):List Field→Prop
  |nil:CkF P e d xs []
  | cons {f : Field} {fs : List Field} {a : Value} (hn : f.name ≠ "_") (ha : ∀ w, (part f.type xs.toArray f.offset).run P w = .ok a w) (hc : ∀ w, (Instr.checkKey e d f.type a).run P w = .ok () w) (h : CkF P e d xs fs) : CkF P e d xs (f :: fs)
section
variable {P : Program} {t : TypeId} {td : TypeDesc} {n b : Nat} {z : List Value} {ag : Bool}
theorem part_1 (T:Ty P t td 1 b z false) {cs:List Value} {off:Nat} {v:Value} (h:cs[off]?=some v):∀w,(part t cs.toArray off).run P w=.ok v w:=fun w=>by simp [part,T.agg,h]
theorem EqF.run {d:Nat} {xs ys:List Value} {fs:List Field} {cs:List Bool} (h:EqF P d xs ys fs cs):∀w,(Op.eqFields d xs.toArray ys.toArray fs).run P w=.ok (cs.all id) w:=by
  induction h with
  |nil=>intro w;simp [Op.eqFields]
  |@cons f fs c cs a b hn ha hb he _ ih=>
    intro w
    simp only [Op.eqFields,hn,ne_eq,not_false_eq_true,if_true,Sem.run_bind,ha,hb,he,Result.andThen_ok]
    cases c<;> simp [ih]
theorem eq_struct {d:Nat} {xs ys:List Value} {fs:Array Field} {cs:List Bool} (hu:P.underlying t=some (.struct fs)) (hp:P.stoodInHeld t=false) (h:EqF P d xs ys fs.toList cs):∀w,(Op.equalIn (d+1) t (.agg xs.toArray) (.agg ys.toArray)).run P w=.ok (cs.all id) w:=fun w=>by
  have hf:P.fieldsOf t=fs:=by unfold Program.fieldsOf;rw [hu]
  rw [run_equalIn_struct w d t _ _ (by rw [hf];exact hu) hp,hf]
  exact h.run w
theorem eq_int {d:Nat} {t:TypeId} {q:IntKind} (h:P.underlying t=some (.int q)) (x y:Int):∀w,(Op.equalIn (d+1) t (.int q x) (.int q y)).run P w=.ok (x == y) w:=fun w=>run_equalIn_int w d t q q x y h
theorem eq_bool {d:Nat} {t:TypeId} (h:P.underlying t=some .bool) (x y:Bool):∀w,(Op.equalIn (d+1) t (.bool x) (.bool y)).run P w=.ok (x == y) w:=fun w=>run_equalIn_bool' w d t x y h
theorem ck_struct {e:Bool} {d:Nat} {xs:List Value} {fs:Array Field} (hu:P.underlying t=some (.struct fs)) (h:CkF P e d xs fs.toList):∀w,(Instr.checkKey e (d+1) t (.agg xs.toArray)).run P w=.ok () w:=fun w=>by
  simp only [Instr.checkKey,Sem.run_bind,run_underlying hu,Result.andThen_ok]
  rw [← Array.forIn_toList]
  generalize fs.toList=L at h
  induction h with
  |nil=>simp
  |@cons f fs' a hn ha hc _ ih=>
    simp only [List.forIn_cons,Sem.run_bind,hn,ne_eq,not_false_eq_true,if_true,Result.andThen_ok,ha,hc,Sem.run_pure]
    exact ih
theorem ck_int {e:Bool} {d:Nat} {t:TypeId} {q:IntKind} (h:P.underlying t=some (.int q)) (x:Int):∀w,(Instr.checkKey e (d+1) t (.int q x)).run P w=.ok () w:=fun w=>by simp [Instr.checkKey,run_underlying h]
theorem ck_bool {e:Bool} {d:Nat} {t:TypeId} (h:P.underlying t=some .bool) (x:Bool):∀w,(Instr.checkKey e (d+1) t (.bool x)).run P w=.ok () w:=fun w=>by simp [Instr.checkKey,run_underlying h]
variable {r : Option Nat} {ρ : Env} {w : World} {d : Option Nat} {ty : TypeId} {pos : String} {aft : Array Edge} {g : Option (Nat × Bool)} {V : Value → World → Prop} {x y : Operand} {u : TypeId}
theorem op_eqlA {xs ys:List Value} {c:Bool} (hx:ev ρ x=.agg xs.toArray) (hy:ev ρ y=.agg ys.toArray) (hg:P.eqGuardType P.depth t=false) (he:(Op.equalIn 10000 t (.agg xs.toArray) (.agg ys.toArray)).run P w=.ok c w) (k:V (.bool c) w):Run1 P r ρ w ⟨d,.binOp .eql t x y u,ty,pos,aft,g⟩ V:=by
  refine run1_value (v:=.bool c) (by simp) ?_ k
  simp only [execOp,hx,hy,Sem.run_bind,run_eqGuard_agg w .eql t x y xs.toArray ys.toArray hg,Result.andThen_ok,run_eql_struct,he,Sem.run_pure]
theorem op_neqA {xs ys:List Value} {c:Bool} (hx:ev ρ x=.agg xs.toArray) (hy:ev ρ y=.agg ys.toArray) (hg:P.eqGuardType P.depth t=false) (he:(Op.equalIn 10000 t (.agg xs.toArray) (.agg ys.toArray)).run P w=.ok c w) (k:V (.bool (!c)) w):Run1 P r ρ w ⟨d,.binOp .neq t x y u,ty,pos,aft,g⟩ V:=by
  refine run1_value (v:=.bool (!c)) (by simp) ?_ k
  simp only [execOp,hx,hy,Sem.run_bind,run_eqGuard_agg w .neq t x y xs.toArray ys.toArray hg,Result.andThen_ok,run_neq_struct,he,Sem.run_pure]
end
end Go.Fx
/- Regions whose order is drawn, in which a slice that grows is handed from one append to the next. No program in sight. -/
set_option linter.unusedSimpArgs false
set_option linter.unusedVariables false
namespace Go.Fx
open Go Go.RowKit
abbrev Gx:=List (Nat × Option Nat × Obj) × List Nat
def entx (g:Gx):Ents:=g.1.map fun p=>(p.2.1,p.2.2)
section
variable {w w' w'' : World} {w0 : Zx} {O0 : List Nat} {bs : Ents} {eat : Nat → Nat} {g : Gx} {v : Value} {k : Nat}
def TX (w0:Zx) (O0:List Nat) (bs:Ents) (eat:Nat→Nat):Go1 Gx where
  inv w g:=St w0 O0 w (entx g++bs)∧∀k∈g.2,k<1000
  le w g w' g':=((∀p∈g.1,p∈g'.1∨eat p.1∈g'.2)∧∀k∈g.2,k∈g'.2)∧Step (ks (entx g++bs) O0) w (ks (entx g'++bs) O0) w'∧True
  refl w g:=⟨⟨fun _ h=>.inl h,fun _ h=>h⟩,Step.refl _ _,trivial⟩
  trans:=fun⟨⟨a,b⟩,h,_⟩ ⟨⟨a',b'⟩,h',_⟩=>⟨⟨fun p hp=>(a p hp).elim (a' p) fun h=>.inr (b' _ h),fun k hk=>b' _ (b _ hk)⟩,h.trans h',trivial⟩
  drew w g h:=⟨⟨h.1.call (Ext.drew w),h.2⟩,⟨fun _ h=>.inl h,fun _ h=>h⟩,Step.ext (Ext.drew w),trivial⟩
  dn g:=g.2
abbrev XD {α:Type} (O0:List Nat) (bs:Ents) (R:Vr α) (x:α):VR Gx:=fun v w g=>R.vd w (ks (entx g++bs) O0) v x
theorem XD.stab {α:Type} (R:Vr α) (x:α):Stab (TX w0 O0 bs eat) (XD O0 bs R x):=fun _ _ _ _ _ h hv=>R.step h.2.1 hv
abbrev XP {α:Type} (O0:List Nat) (bs:Ents) (q:Rp α) (x:α):VR Gx:=fun v w g=>∃p,v=.pointer (some p)∧PtR q w (ks (entx g++bs) O0) p x
theorem XP.stab {α:Type} (q:Rp α) (x:α):Stab (TX w0 O0 bs eat) (XP O0 bs q x):=fun _ _ _ _ _ h ⟨p,h1,h2⟩=>⟨p,h1,h2.step h.2.1⟩
def XG {α:Type} (O0:List Nat) (bs:Ents) (eat:Nat→Nat) (tag:Nat) (q:Rp α) (e:TypeId) (xs:List α):VR Gx:=fun v w g=>eat tag∈g.2∨∃a c kk o,v=.slice a xs.length c∧(tag,kk,o)∈g.1∧Gs q e w (ks (entx g++bs) O0) a c xs kk o
theorem XG.stab {α:Type} (tag:Nat) (q:Rp α) (e:TypeId) (xs:List α):Stab (TX w0 O0 bs eat) (XG O0 bs eat tag q e xs):=by
  rintro v w g w' g' ⟨⟨h1,h2⟩,h3,_⟩ (hv |⟨a,c,kk,o,e1,e2,e3⟩)
  · exact .inl (h2 _ hv)
  · rcases h1 _ e2 with h | h
    · exact .inr ⟨a,c,kk,o,e1,h,e3.step h3⟩
    · exact .inl h
theorem GoesX.same {V:VR Gx} (hi:St w0 O0 w' (entx g++bs)) (hi2:∀k∈g.2,k<1000) (hv:V v w' g):Goes (TX w0 O0 bs eat) w' g V k v w':=⟨g,⟨hi,hi2⟩,(TX w0 O0 bs eat).refl _ _,hv,fun _ h=>.inl h⟩
theorem GoesX.call {V:VR Gx} (hi:St w0 O0 w' (entx g++bs)) (hi2:∀k∈g.2,k<1000) (hx:Ext w' w'') (hv:V v w'' g):Goes (TX w0 O0 bs eat) w' g V k v w'':=
  ⟨g,⟨hi.call hx,hi2⟩,⟨⟨fun _ h=>.inl h,fun _ h=>h⟩,Step.ext hx,trivial⟩,hv,fun _ h=>.inl h⟩
theorem GoesX.pub {V:VR Gx} (hi:St w0 O0 w' (entx g++bs)) (hi2:∀k∈g.2,k<1000) (hs:St w0 O0 w'' (entx g++bs)) (p:Step (ks (entx g++bs) O0) w' (ks (entx g++bs) O0) w'') (hx:Ext w' w'') (hv:V v w'' g):
    Goes (TX w0 O0 bs eat) w' g V k v w'':=⟨g,⟨hs,hi2⟩,⟨⟨fun _ h=>.inl h,fun _ h=>h⟩,p,trivial⟩,hv,fun _ h=>.inl h⟩
theorem GoesX.own {α:Type} {q:Rp α} {e:TypeId} {xs:List α} {a:Option Addr} {c len tag:Nat} {kk:Option Nat} {o:Obj} (hi2:∀k∈g.2,k<1000) (p:Step (ks (entx g++bs) O0) w' (ks ((kk,o)::(entx g++bs)) O0) w'') (hs:St w0 O0 w'' ((kk,o)::(entx g++bs)))
    (f:Gs q e w'' (ks ((kk,o)::(entx g++bs)) O0) a c xs kk o) (hl:len=xs.length):Goes (TX w0 O0 bs eat) w' g (XG O0 bs eat tag q e xs) k (.slice a len c) w'':=by
  subst hl
  exact⟨((tag,kk,o)::g.1,g.2),⟨hs,hi2⟩,⟨⟨fun _ h=>.inl (List.mem_cons_of_mem _ h),fun _ h=>h⟩,p,trivial⟩,.inr ⟨a,c,kk,o,rfl,List.mem_cons_self,f⟩,fun _ h=>.inl h⟩
theorem GoesX.take {V:VR Gx} {g':Gx} (hl:(TX w0 O0 bs eat).le w g w g') (hd:∀i∈g'.2,i∈g.2∨i=k) (h:Goes (TX w0 O0 bs eat) w g' V k v w''):Goes (TX w0 O0 bs eat) w g V k v w'':=by
  obtain⟨g'',h1,h2,h3,h4⟩:=h
  exact⟨g'',h1,(TX w0 O0 bs eat).trans hl h2,h3,fun i hi=>(h4 i hi).elim (hd i) .inr⟩
end
section ops
variable {P : Program} {r : Option Nat} {ρ : Env} {w : World} {O0 : List Nat} {bs : Ents} {w0 : Zx} {d : Option Nat} {ty : TypeId} {pos : String} {aft : Array Edge} {gd : Option (Nat × Bool)} {t : TypeId} {x y : Operand} {td : TypeDesc} {n b : Nat} {z : List Value} {ag : Bool} {eat : Nat → Nat} {g : Gx}
end ops
end Go.Fx
/- Lists of lists of one's own, whose rows are written: headers in the outer list, an entry for each row behind the others. No program in sight. -/
set_option linter.unusedSimpArgs false
set_option linter.unusedVariables false
set_option linter.unusedSectionVars false
namespace Go.Fx
open Go Go.RowKit
abbrev Hd:=Option Addr × Nat × Nat
def rHd:Rp Hd where
  n:=1
  rd _ _ cs x:=cs=[Value.slice x.1 x.2.1 x.2.2]
  len:=fun h=>by rw [h];rfl
  one:=fun e v hv=>by rw [e] at hv;simp at hv;subst hv;rfl
  step:=fun _ h=>h
section
variable {α : Type} {q : Rp α} {e : TypeId} {w w' : World} {O O' O0 : List Nat} {z : Zx} {bs R : Ents}
def Rows (q:Rp α) (e:TypeId) (w:World) (O:List Nat):List Hd→Ents→List (List α)→Prop
  |[],[],[] =>True
  |h::hs,p::R,x::xs=>(Gs q e w O h.1 h.2.2 x p.1 p.2∧h.2.1=x.length)∧Rows q e w O hs R xs
  |_,_,_=>False
theorem Rows.lens:∀{hs:List Hd} {R:Ents} {xs:List (List α)},Rows q e w O hs R xs→hs.length=xs.length∧R.length=xs.length
  |[],[],[],_=>⟨rfl,rfl⟩
  |h::hs,k::kk,x::xs,⟨_,h2⟩=>by have:=Rows.lens h2;simp [this]
  |[],[],_::_,h=>h.elim
  |[],_::_,_,h=>h.elim
  |_::_,[],_,h=>h.elim
  |_::_,_::_,[],h=>h.elim
theorem Rows.get:∀{hs:List Hd} {R:Ents} {xs:List (List α)},Rows q e w O hs R xs→∀i (h:i<xs.length),∃hd p,hs[i]?=some hd∧R[i]?=some p∧Gs q e w O hd.1 hd.2.2 xs[i] p.1 p.2∧hd.2.1=xs[i].length
  |[],[],[],_,i,h=>by simp at h
  |hd::hs,k::kk,x::xs,⟨h1,h2⟩,0,_=>⟨hd,k,rfl,rfl,h1⟩
  |hd::hs,k::kk,x::xs,⟨h1,h2⟩,i+1,h=>by
    obtain⟨a,b,e1,e2,e3⟩:=Rows.get h2 i (by simpa using h)
    exact⟨a,b,by simpa using e1,by simpa using e2,by simpa using e3⟩
  |[],[],_::_,h,_,_=>h.elim
  |[],_::_,_,h,_,_=>h.elim
  |_::_,[],_,h,_,_=>h.elim
  |_::_,_::_,[],h,_,_=>h.elim
theorem Rows.append:∀{hs:List Hd} {R:Ents} {xs:List (List α)} {hd:Hd} {p:Option Nat × Obj} {x:List α},Rows q e w O hs R xs→Gs q e w O hd.1 hd.2.2 x p.1 p.2→hd.2.1=x.length→Rows q e w O (hs++[hd]) (R++[p]) (xs++[x])
  |[],[],[],_,_,_,_,h,h'=>⟨⟨h,h'⟩,trivial⟩
  |h::hs,k::kk,x::xs,_,_,_,⟨h1,h2⟩,h3,h4=>⟨h1,Rows.append h2 h3 h4⟩
  |[],[],_::_,_,_,_,h,_,_=>h.elim
  |[],_::_,_,_,_,_,h,_,_=>h.elim
  |_::_,[],_,_,_,_,h,_,_=>h.elim
  |_::_,_::_,[],_,_,_,h,_,_=>h.elim
theorem Rows.set:∀{hs:List Hd} {R:Ents} {xs:List (List α)} {hd:Hd} {p:Option Nat × Obj} {x:List α} (i:Nat),Rows q e w O hs R xs→Gs q e w O hd.1 hd.2.2 x p.1 p.2→hd.2.1=x.length→Rows q e w O (hs.set i hd) (R.set i p) (xs.set i x)
  |[],[],[],_,_,_,_,h,_,_=>h
  |h::hs,k::kk,x::xs,_,_,_,0,⟨h1,h2⟩,h3,h4=>⟨⟨h3,h4⟩,h2⟩
  |h::hs,k::kk,x::xs,_,_,_,i+1,⟨h1,h2⟩,h3,h4=>⟨h1,Rows.set i h2 h3 h4⟩
  |[],[],_::_,_,_,_,_,h,_,_=>h.elim
  |[],_::_,_,_,_,_,_,h,_,_=>h.elim
  |_::_,[],_,_,_,_,_,h,_,_=>h.elim
  |_::_,_::_,[],_,_,_,_,h,_,_=>h.elim
theorem Rows.nil_:Rows q e w O [] [] ([]:List (List α)):=trivial
theorem Rows.nils (o:Obj):∀n,Rows q e w O (List.replicate n (none,0,0)) (List.replicate n (none,o)) (List.replicate n ([]:List α))
  |0=>trivial
  |n+1=>⟨⟨Gs.nil_,rfl⟩,Rows.nils o n⟩
theorem Rows.step (s:Step O w O' w'):∀{hs:List Hd} {R:Ents} {xs:List (List α)},Rows q e w O hs R xs→Rows q e w' O' hs R xs
  |[],[],[],_=>trivial
  |h::hs,k::kk,x::xs,⟨h1,h2⟩=>⟨⟨h1.1.step s,h1.2⟩,Rows.step s h2⟩
  |[],[],_::_,h=>h.elim
  |[],_::_,_,h=>h.elim
  |_::_,[],_,h=>h.elim
  |_::_,_::_,[],h=>h.elim
theorem St.nones {o:Obj} (h:St z O0 w bs):∀n,St z O0 w (bs++List.replicate n (none,o)):=fun n=>by
  have e1:(bs++List.replicate n ((none:Option Nat),o)).filterMap Prod.fst=bs.filterMap Prod.fst:=by
    rw [List.filterMap_append]
    have:(List.replicate n ((none:Option Nat),o)).filterMap Prod.fst=[]:=by
      rw [List.filterMap_eq_nil_iff];intro p hp;rw [(List.mem_replicate.1 hp).2]
    rw [this,List.append_nil]
  refine⟨h.below,fun p hp b hb=>?_,by rw [e1];exact h.nd,fun k hk=>by rw [e1];exact h.dj k hk,h.dsn,h.dfs⟩
  rcases List.mem_append.1 hp with hp |hp
  · exact h.own p hp b hb
  · rw [(List.mem_replicate.1 hp).2] at hb;cases hb
theorem un_hd {v:Value} {x:Hd} {w:World} {O:List Nat} (h:rHd.rd w O [v] x):v=.slice x.1 x.2.1 x.2.2:=by
  have h': [v] =[Value.slice x.1 x.2.1 x.2.2]:=h
  simpa using h'
theorem ks_nones {o:Obj} (bs:Ents) (O:List Nat) (n:Nat):ks (bs++List.replicate n ((none:Option Nat),o)) O=ks bs O:=by
  unfold ks
  rw [List.filterMap_append]
  have:(List.replicate n ((none:Option Nat),o)).filterMap Prod.fst=[]:=by
    rw [List.filterMap_eq_nil_iff];intro p hp;rw [(List.mem_replicate.1 hp).2]
  rw [this,List.append_nil]
theorem St.nones2 {o:Obj} (h:St z O0 w bs) (n:Nat):St z O0 w (bs++List.replicate n (none,o))∧Step (ks bs O0) w (ks (bs++List.replicate n (none,o)) O0) w:=
  ⟨h.nones n,by rw [ks_nones];exact Step.refl _ _⟩
theorem St.toback {p:Option Nat × Obj} {i:Nat} (h:St z O0 w bs) (hi:bs[i]?=some p):St z O0 w (bs.eraseIdx i++[p])∧Step (ks bs O0) w (ks (bs.eraseIdx i++[p]) O0) w:=by
  obtain⟨h1,h2⟩:=h.front hi
  obtain⟨h3,h4⟩:=h1.perm (bs':=bs.eraseIdx i++[p]) (List.perm_append_singleton _ _)
  exact⟨h3,h2.trans h4⟩
theorem app_get {i:Nat} {p:Option Nat × Obj} (h:R[i]?=some p):(bs++R)[bs.length+i]?=some p:=by
  rw [List.getElem?_append_right (by omega),show bs.length+i - bs.length=i by omega];exact h
theorem app_set {i:Nat} {p:Option Nat × Obj} :(bs++R).set (bs.length+i) p=bs++R.set i p:=by
  rw [List.set_append_right _ _ (by omega),show bs.length+i - bs.length=i by omega]
theorem Rows.turn:∀{hs:List Hd} {R:Ents} {xs:List (List α)} {hd:Hd} {p:Option Nat × Obj} {x:List α} (i:Nat),Rows q e w O hs R xs→hs[i]?=some hd→Gs q e w O hd.1 hd.2.2 x p.1 p.2→hd.2.1=x.length→Rows q e w O hs (R.set i p) (xs.set i x):=by
  intro hs R xs hd p x i h hh hg hl
  have:=Rows.set i h hg hl
  have e1:hs.set i hd=hs:=by
    obtain⟨h1,h2⟩:=List.getElem?_eq_some_iff.1 hh
    rw [← h2,List.set_getElem_self]
  rwa [e1] at this
def RowsS (q:Rp α) (w:World) (O:List Nat):List Hd→List (List α)→Prop
  |[],[] =>True
  |h::hs,x::xs=>(SlR q w O h.1 h.2.2 x∧h.2.1=x.length)∧RowsS q w O hs xs
  |_,_=>False
theorem RowsS.step (s:Step O w O' w'):∀{hs:List Hd} {xs:List (List α)},RowsS q w O hs xs→RowsS q w' O' hs xs
  |[],[],_=>trivial
  |h::hs,x::xs,⟨h1,h2⟩=>⟨⟨h1.1.step s,h1.2⟩,RowsS.step s h2⟩
  |[],_::_,h=>h.elim
  |_::_,[],h=>h.elim
theorem els_rows:∀{cs:List Value} {hs:List Hd} {xs:List (List α)},Els rHd w O cs hs→RowsS q w O hs xs→Els (rSl q) w O cs xs
  |cs,[],[],h,_=>h
  |cs,h::hs,x::xs,⟨v1,v2,e1,e2,e3⟩,⟨h1,h2⟩=>⟨v1,v2,e1,⟨h.1,h.2.2,by rw [← h1.2];exact e2,h1.1⟩,els_rows e3 h2⟩
  |_,[],_::_,_,h=>h.elim
  |_,_::_,[],_,h=>h.elim
theorem RowsS.lens:∀{hs:List Hd} {xs:List (List α)},RowsS q w O hs xs→hs.length=xs.length
  |[],[],_=>rfl
  |h::hs,x::xs,⟨_,h2⟩=>by simp [RowsS.lens h2]
  |[],_::_,h=>h.elim
  |_::_,[],h=>h.elim
theorem Rows.pubs:∀{hs:List Hd} {R:Ents} {xs:List (List α)},St z O0 w (bs++R)→Rows q e w (ks (bs++R) O0) hs R xs→St z O0 w bs∧Step (ks (bs++R) O0) w (ks bs O0) w∧RowsS q w (ks bs O0) hs xs
  |[],[],[],h,_=>by rw [List.append_nil] at h ⊢;exact⟨h,Step.refl _ _,trivial⟩
  |hd::hs,p::R,x::xs,h,⟨h1,h2⟩=>by
    obtain⟨k1,k2,k3⟩:=Gs.publish (i:=bs.length) h (by rw [List.getElem?_append_right (Nat.le_refl _)];simp) h1.1
    have e1:(bs++p::R).eraseIdx bs.length=bs++R:=by rw [List.eraseIdx_append_of_length_le (Nat.le_refl _)];simp
    rw [e1] at k1 k2 k3
    obtain⟨j1,j2,j3⟩:=Rows.pubs k1 (h2.step k2)
    exact⟨j1,k2.trans j2,⟨k3.step j2,h1.2⟩,j3⟩
  |[],[],_::_,_,h=>h.elim
  |[],_::_,_,_,h=>h.elim
  |_::_,[],_,_,h=>h.elim
  |_::_,_::_,[],_,h=>h.elim
theorem Rows.publish {hds:List Hd} {xss:List (List α)} {j c:Nat} {kk:Option Nat} {o:Obj} {a:Option Addr} {e2:TypeId} (hs:St z O0 w (bs++R)) (fR:Rows q e w (ks (bs++R) O0) hds R xss) (hj:bs[j]?=some (kk,o)) (hG:Gs rHd e2 w (ks (bs++R) O0) a c hds kk o):
    St z O0 w (bs.eraseIdx j)∧Step (ks (bs++R) O0) w (ks (bs.eraseIdx j) O0) w∧SlR (rSl q) w (ks (bs.eraseIdx j) O0) a c xss:=by
  obtain⟨h1,h2,h3⟩:=fR.pubs hs
  have hl:=h3.lens
  have hG2:Gs (rSl q) e2 w (ks bs O0) a c xss kk o:=by
    rcases hG.step h2 with ⟨k1,k2,k3,k4⟩ |⟨bl,cur,k1,k2,k3,k4,k5,k6,k7⟩
    · subst k3
      have:xss=[]:=List.length_eq_zero_iff.1 hl.symm
      exact .inl ⟨k1,k2,this,k4⟩
    · refine .inr ⟨bl, cur, k1, k2, k3, k4, by omega, k6, ?_⟩
      rw [← hl];exact els_rows k7 h3
  obtain⟨j1,j2,j3⟩:=Gs.publish (i:=j) h1 hj hG2
  exact⟨j1,h2.trans j2,j3⟩
section ops
variable {P : Program} {r : Option Nat} {ρ : Env} {d : Option Nat} {ty : TypeId} {pos : String} {aft : Array Edge} {g : Option (Nat × Bool)} {V : Value → World → Prop} {t : TypeId} {td : TypeDesc} {n b : Nat} {zs : List Value} {ag : Bool} {x y : Operand} {m : Int}
theorem op_storeRow {hds:List Hd} {xss:List (List α)} {i bl:Nat} {hd:Hd} {v:Value} {vs:List Value} {yv:α} (T:Ty P t td n b zs ag) (hp:q.n=n) (hs:St z O0 w (bs++R)) (fR:Rows q e w (ks (bs++R) O0) hds R xss) (hi:i<xss.length) (hh:hds[i]?=some hd) (ha:hd.1=some ⟨bl,0,none⟩)
    (hx:ev ρ x=.pointer (some ⟨bl,m.toNat*n,none⟩)) (hy:ev ρ y=v) (hv:v.cells=vs.toArray) (h0:0≤m∧m<(xss.getD i default).length) (hr:q.rd w (ks (bs++R) O0) vs yv)
    (k:∀w' R',Step (ks (bs++R) O0) w (ks (bs++R') O0) w'→St z O0 w' (bs++R')→Rows q e w' (ks (bs++R') O0) hds R' (xss.set i ((xss.getD i default).set m.toNat yv))→V undef w'):
    Run1 P r ρ w ⟨d,.store t x y,ty,pos,aft,g⟩ V:=by
  obtain⟨hd',p,h1,h2,h3,h4⟩:=fR.get i hi
  rw [hh] at h1
  cases h1
  have hgd:xss.getD i default=xss[i]:=by simp [List.getD_eq_getElem?_getD,List.getElem?_eq_getElem hi]
  rw [hgd] at h0
  have hpk:p.1=some bl:=by
    obtain⟨bl',e1,e2⟩:=h3.at_ (by omega)
    rw [ha] at e1;cases e1;exact e2
  obtain⟨pk,po⟩:=p
  simp only at hpk h3
  subst hpk
  refine op_storeG T hp hs (app_get h2) hx hy hv h3 h0 hr fun w' o' h5 h6 h7=>?_
  rw [app_set] at h5 h6 h7
  refine k w' _ h5 h6 ?_
  rw [hgd]
  exact(fR.step h5).turn i hh h7 (by rw [h4,List.length_set])
theorem Rows.at_ {hds:List Hd} {xss:List (List α)} (fR:Rows q e w O hds R xss) {i:Nat} (hi:i<xss.length):
    hds[i]?=some (hds.getD i default)∧(hds.getD i default).2.1=(xss.getD i default).length∧(0<(xss.getD i default).length→∃bl,(hds.getD i default).1=some ⟨bl,0,none⟩):=by
  obtain⟨hd,p,h1,h2,h3,h4⟩:=fR.get i hi
  have e1:hds.getD i default=hd:=by simp [List.getD_eq_getElem?_getD,h1]
  have e2:xss.getD i default=xss[i]:=by simp [List.getD_eq_getElem?_getD,List.getElem?_eq_getElem hi]
  rw [e1,e2]
  exact⟨h1,h4,fun h=>by obtain⟨bl,h5,_⟩:=h3.at_ h;exact⟨bl,h5⟩⟩
theorem op_loadRow [Inhabited α] {hds:List Hd} {xss:List (List α)} {i bl:Nat} {OO:List Nat} (bs R:Ents) (T:Ty P t td 1 b zs false) (hp:q.n=1) (hs:St z O0 w (bs++R)) (fR:Rows q e w OO hds R xss) (hi:i<xss.length) (ha:(hds.getD i default).1=some ⟨bl,0,none⟩)
    (hx:ev ρ x=.pointer (some ⟨bl,m.toNat*1,none⟩)) (h0:0≤m∧m<(xss.getD i default).length)
    (k:∀v,q.rd w OO [v] ((xss.getD i default).getD m.toNat default)→V v w):Run1 P r ρ w ⟨d,.load t x,ty,pos,aft,g⟩ V:=by
  obtain⟨hd,p,h1,h2,h3,h4⟩:=fR.get i hi
  have e1:hds.getD i default=hd:=by simp [List.getD_eq_getElem?_getD,h1]
  have e2:xss.getD i default=xss[i]:=by simp [List.getD_eq_getElem?_getD,List.getElem?_eq_getElem hi]
  rw [e1] at ha
  rw [e2] at h0 k
  obtain⟨pk,po⟩:=p
  obtain⟨bl',e3,e4⟩:=h3.at_ (by omega)
  rw [ha] at e3
  cases e3
  simp only at e4
  subst e4
  exact op_loadG T hp hs (app_get h2) hx h3 h0 k
theorem op_indexRow {H:Hd} {row:List α} {bl:Nat} {dt:TypeDesc} {kd:IntKind} {bt b':Nat} {tz:List Value} {ta:Bool} (T:Ty P t (.slice e) 1 bt tz ta) (E:Ty P e dt n b' zs ag)
    (hx:ev ρ x=.slice H.1 H.2.1 H.2.2) (hy:ev ρ y=.int kd m) (hb:H.1=some ⟨bl,0,none⟩) (hl:H.2.1=row.length) (h0:0≤m∧m<row.length)
    (k:V (.pointer (some ⟨bl,m.toNat*n,none⟩)) w):Run1 P r ρ w ⟨d,.indexAddr t x y,ty,pos,aft,g⟩ V:=by
  rw [hb,hl] at hx
  refine op_indexAddrO T E hx hy h0.1 h0.2 ?_
  simpa using k
theorem set_perm {γ:Type} {y:γ} :∀{R:List γ} {i:Nat},i<R.length→(R.set i y).Perm (y::R.eraseIdx i)
  |[],i,h=>by simp at h
  |a::R,0,h=>by simp
  |a::R,i+1,h=>by
    simp only [List.set_cons_succ,List.eraseIdx_cons_succ]
    exact((set_perm (by simpa using h)).cons a).trans (List.Perm.swap _ _ _)
theorem St.intoR {p:Option Nat × Obj} {i j:Nat} (h:St z O0 w (bs++R)) (hj:bs[j]?=some p) (hi:i<R.length):
    St z O0 w (bs.eraseIdx j++R.set i p)∧Step (ks (bs++R) O0) w (ks (bs.eraseIdx j++R.set i p) O0) w:=by
  have hlt:j<bs.length:=(List.getElem?_eq_some_iff.1 hj).1
  have h1:=h.drop (bs.length+i)
  have s1:=h.dropS (bs.length+i)
  have e1:(bs++R).eraseIdx (bs.length+i)=bs++R.eraseIdx i:=by
    rw [List.eraseIdx_append_of_length_le (by omega),show bs.length+i - bs.length=i by omega]
  rw [e1] at h1 s1
  have hp:(bs.eraseIdx j++R.set i p).Perm (bs++R.eraseIdx i):=by
    refine((set_perm hi).append_left _).trans ?_
    refine List.perm_middle.trans ?_
    have:=perm_front bs j p hj
    exact(this.append_right (R.eraseIdx i))
  obtain⟨h2,s2⟩:=h1.perm hp
  exact⟨h2,s1.trans s2⟩
end ops
section dw
abbrev VGr {α:Type} (O0:List Nat) (bs:Ents) (tag:Nat) (q:Rp α) (e:TypeId) (x:List α):VR Nx:=fun v w nx=>
  ∃a c kk o,v=.slice a x.length c∧(∀b,kk=some b→(tag,b,o)∈nx)∧Gs q e w (ks (ents nx++bs) O0) a c x kk o
theorem VGr.stab {α:Type} {w0:Zx} {tag:Nat} {q:Rp α} {e:TypeId} {x:List α} :Stab (TS w0 O0 bs) (VGr O0 bs tag q e x):=fun _ _ _ _ _ ⟨⟨l,h1⟩,h2,_⟩ ⟨a,c,kk,o,g1,g2,g3⟩=>
  ⟨a,c,kk,o,g1,fun b hb=>h1 ▸ List.mem_append_right _ (g2 b hb),g3.step h2⟩
theorem GoesG.call {α:Type} {w0:Zx} {nx:Nx} {tag:Nat} {q:Rp α} {e:TypeId} {x:List α} {a:Option Addr} {c k:Nat} {kk:Option Nat} {o:Obj} (hi:St w0 O0 w (ents nx++bs)) (hx:Ext w w') (hk:∀b,kk=some b→w.heap.size≤b∧w'.heap[b]?=some o)
    (f:Gs q e w' (kk.toList++ks (ents nx++bs) O0) a c x kk o):Goes (TS w0 O0 bs) w nx (VGr O0 bs tag q e x) k (.slice a x.length c) w':=by
  obtain⟨h1,h2⟩:=hi.callG hx hk
  cases kk with
  |none=>exact⟨nx,hi.call hx,⟨⟨[],rfl⟩,Step.ext hx,hx⟩,⟨a,c,none,o,rfl,(fun _ h=>by cases h),f⟩,fun _ h=>by cases h⟩
  |some b=>exact⟨(tag,b,o)::nx,h1,⟨⟨[_],rfl⟩,h2,hx⟩,⟨a,c,some b,o,rfl,(fun j hj=>by cases hj;exact List.mem_cons_self),f⟩,fun _ h=>by cases h⟩
theorem GoesG.new {α:Type} {w0:Zx} {nx:Nx} {tag:Nat} {q:Rp α} {e:TypeId} {x:List α} {b c k:Nat} {o:Obj} (hx:Ext w w') (p:Step (ks (ents nx++bs) O0) w (ks ((some b,o)::(ents nx++bs)) O0) w') (h:St w0 O0 w' ((some b,o)::(ents nx++bs)))
    (f:Gs q e w' (ks ((some b,o)::(ents nx++bs)) O0) (some ⟨b,0,none⟩) c x (some b) o):Goes (TS w0 O0 bs) w nx (VGr O0 bs tag q e x) k (.slice (some ⟨b,0,none⟩) x.length c) w':=
  ⟨(tag,b,o)::nx,h,⟨⟨[_],rfl⟩,p,hx⟩,⟨_,c,some b,o,rfl,(fun j hj=>by cases hj;exact List.mem_cons_self),f⟩,fun _ h=>by cases h⟩
abbrev VHd {α:Type} (O0:List Nat) (bs:Ents) (tag tag2:Nat) (q:Rp α) (e e2:TypeId) (x:List α):VR Nx:=fun v w nx=>
  ∃b a c kk o,v=.slice (some ⟨b,0,none⟩) 1 1∧(tag2,b,.cells #[Value.slice a x.length c] e2)∈nx∧(∀b,kk=some b→(tag,b,o)∈nx)∧Gs q e w (ks (ents nx++bs) O0) a c x kk o
theorem VHd.stab {α:Type} {w0:Zx} {tag tag2:Nat} {q:Rp α} {e e2:TypeId} {x:List α} :Stab (TS w0 O0 bs) (VHd O0 bs tag tag2 q e e2 x):=fun _ _ _ _ _ ⟨⟨l,h1⟩,h2,_⟩ ⟨b,a,c,kk,o,g1,g0,g2,g3⟩=>
  ⟨b,a,c,kk,o,g1,h1 ▸ List.mem_append_right _ g0,fun b hb=>h1 ▸ List.mem_append_right _ (g2 b hb),g3.step h2⟩
theorem GoesG.hd {α:Type} {w0:Zx} {nx:Nx} {tag tag2:Nat} {q:Rp α} {e e2:TypeId} {x:List α} {a:Option Addr} {b c k:Nat} {kk:Option Nat} {o:Obj} (hx:Ext w w') (p:Step (ks (ents nx++bs) O0) w (ks ((some b,.cells #[Value.slice a x.length c] e2)::(ents nx++bs)) O0) w') (h:St w0 O0 w' ((some b,.cells #[Value.slice a x.length c] e2)::(ents nx++bs)))
    (hk:∀b,kk=some b→(tag,b,o)∈nx) (f:Gs q e w (ks (ents nx++bs) O0) a c x kk o):Goes (TS w0 O0 bs) w nx (VHd O0 bs tag tag2 q e e2 x) k (.slice (some ⟨b,0,none⟩) 1 1) w':=
  ⟨(tag2,b,_)::nx,h,⟨⟨[_],rfl⟩,p,hx⟩,⟨b,a,c,kk,o,rfl,List.mem_cons_self,(fun j hj=>List.mem_cons_of_mem _ (hk j hj)),f.step p⟩,fun _ h=>by cases h⟩
theorem Step.nxK1 {w0:Zx} {nx:Nx} {tag:Nat} {kk:Option Nat} {o:Obj} (hi:St w0 O0 w (ents nx++bs)) (hk:∀b,kk=some b→(tag,b,o)∈nx):St w0 O0 w ((kk,o)::bs)∧Step (ks (ents nx++bs) O0) w (ks ((kk,o)::bs) O0) w:=by
  cases kk with
  |none=>obtain⟨h1,h2⟩:=Step.nx hi;exact⟨h1.ghost o,h2⟩
  |some b=>exact Step.nx1 hi (hk b rfl)
theorem Step.nxK2 {w0:Zx} {nx:Nx} {tag tag2 b:Nat} {kk:Option Nat} {o o2:Obj} (hi:St w0 O0 w (ents nx++bs)) (h2:(tag2,b,o2)∈nx) (hk:∀b,kk=some b→(tag,b,o)∈nx) (ht:tag2≠tag):St w0 O0 w ((some b,o2)::(kk,o)::bs)∧Step (ks (ents nx++bs) O0) w (ks ((some b,o2)::(kk,o)::bs) O0) w:=by
  cases kk with
  |none=>
    obtain⟨h1,h3⟩:=Step.nx1 hi h2
    obtain⟨h4,h5⟩:=(h1.ghost o).perm (bs':=(some b,o2)::(none,o)::bs) (List.Perm.swap _ _ _)
    exact⟨h4,h3.trans h5⟩
  |some j=>exact Step.nx2 hi h2 (hk j rfl) ht
end dw
end
end Go.Fx
/- An allocation beside slices that are handed on, where the order is drawn. No program in sight. -/
set_option linter.unusedSimpArgs false
set_option linter.unusedVariables false
namespace Go.Fx
open Go Go.RowKit
section
variable {w w' w'' : World} {w0 : Zx} {O0 : List Nat} {bs : Ents} {eat : Nat → Nat} {g : Gx} {v : Value} {k : Nat}
def XN (eat:Nat→Nat) (tag:Nat) (o:Obj):VR Gx:=fun v _ g=>eat tag∈g.2∨∃b,v=.pointer (some ⟨b,0,none⟩)∧(tag,some b,o)∈g.1
theorem XN.stab (tag:Nat) (o:Obj):Stab (TX w0 O0 bs eat) (XN eat tag o):=by
  rintro v w g w' g' ⟨⟨h1,h2⟩,h3,_⟩ (hv |⟨b,e1,e2⟩)
  · exact .inl (h2 _ hv)
  · rcases h1 _ e2 with h | h
    · exact .inr ⟨b,e1,h⟩
    · exact .inl h
theorem GoesX.new {b tag:Nat} {o:Obj} (hi2:∀k∈g.2,k<1000) (p:Step (ks (entx g++bs) O0) w' (ks ((some b,o)::(entx g++bs)) O0) w'') (hs:St w0 O0 w'' ((some b,o)::(entx g++bs))):
    Goes (TX w0 O0 bs eat) w' g (XN eat tag o) k (.pointer (some ⟨b,0,none⟩)) w'':=
  ⟨((tag,some b,o)::g.1,g.2),⟨hs,hi2⟩,⟨⟨fun _ h=>.inl (List.mem_cons_of_mem _ h),fun _ h=>h⟩,p,trivial⟩,.inr ⟨b,rfl,List.mem_cons_self⟩,fun _ h=>.inl h⟩
end
end Go.Fx
/- Lists that are handed out by calling a function value with each element until it says no. No program in sight. -/
set_option linter.unusedSimpArgs false
set_option linter.unusedVariables false
set_option linter.unusedSectionVars false
namespace Go.Fx
open Go Go.RowKit
section call
variable {P : Program} {ρ : Env} {w : World} {z : Zx} {O : List Nat} {bs : Ents} {γ : Type} {J Jx : JP γ} {L pre : List γ}
end call
end Go.Fx
/- Regions whose order is drawn, with a store among what is drawn. No program in sight. -/
set_option linter.unusedSimpArgs false
set_option linter.unusedVariables false
set_option linter.unusedSectionVars false
namespace Go.Fx
open Go Go.RowKit
theorem IsAct.out {n:Nat} {ρ:Env} {a:Act} (h:IsAct n ρ a) {t:Nat} (ht:n≤t):ρ t=undef:=by
  rw [← h.get t,Array.getD_eq_getD_getElem?,Array.getElem?_eq_none (by rw [h.size];exact ht)];rfl
def storeB (ops:List Oper) (i:Nat):Bool:=match ops[i]? with
  |some ⟨none,.store _ _ _,_,_,_,none⟩=>true
  |_=>false
structure DrawOkA (n:Nat) (ops:List Oper) (m:Nat):Prop where
  dst:∀j<m,(dstOf ops j).all (·<n)=true∧∀i<j,dstOf ops i=none∨dstOf ops i≠dstOf ops j
  st:∀j<m,(dstOf ops j).isSome=true∨storeB ops j=true
  up:∀j<ops.length,∀i∈depsOf ops j,i<j
  look:∀j<m,∀t∈looksOf ops j,∀i<m,dstOf ops i=some t→i∈depsOf ops j
  look2:∀j<m,∀t∈looksOf ops j,t<n
  tail:∀k<ops.length,m≤k→(∀i<m,i∈clo ops k)∧(m<k→k - 1∈depsOf ops k)
  sel:Region.noSelect ops.toArray=true
  le:m≤ops.length
def drawAB (n:Nat) (ops:List Oper) (m:Nat):Bool:=
  allLt m (fun j=>(dstOf ops j).all (·<n)&&allLt j fun i=>dstOf ops i == none||dstOf ops i !=dstOf ops j)&&
  (allLt m (fun j=>(dstOf ops j).isSome||storeB ops j)&&
  (allLt ops.length (fun j=>(depsOf ops j).all (·<j))&&
  (allLt m (fun j=>(looksOf ops j).all fun t=>allLt m fun i=>dstOf ops i !=some t||(depsOf ops j).contains i)&&
  (allLt m (fun j=>(looksOf ops j).all (·<n))&&
  (allLt ops.length (fun k=>k<m||(allLt m (fun i=>(clo ops k).contains i)&&(k≤m||(depsOf ops k).contains (k - 1))))&&
  (Region.noSelect ops.toArray&&m≤ops.length))))))
theorem DrawOkA.of {n:Nat} {ops:List Oper} {m:Nat} (h:drawAB n ops m=true):DrawOkA n ops m:=by
  simp only [drawAB,Bool.and_eq_true] at h
  obtain⟨h1,h8,h2,h3,h9,h4,h6,h7⟩:=h
  refine⟨fun j hj=>?_,fun j hj=>?_,fun j hj i hi=>?_,fun j hj t ht i hi hd=>?_,fun j hj t ht=>?_,fun k hk hm=>?_,h6,by simpa using h7⟩
  · have := allLt_spec h1 j hj
    simp only [Bool.and_eq_true] at this
    exact⟨this.1,fun i hi=>by simpa using allLt_spec this.2 i hi⟩
  · simpa using allLt_spec h8 j hj
  · have := List.all_eq_true.1 (allLt_spec h2 j hj) i hi
    simpa using this
  · have := allLt_spec (List.all_eq_true.1 (allLt_spec h3 j hj) t ht) i hi
    simp only [Bool.or_eq_true,bne_iff_ne,ne_eq,List.contains_eq_mem,decide_eq_true_eq] at this
    exact this.resolve_left (fun h=>h hd)
  · simpa using List.all_eq_true.1 (allLt_spec h9 j hj) t ht
  · have := allLt_spec h4 k hk
    simp only [Bool.or_eq_true,decide_eq_true_eq,Bool.and_eq_true,List.contains_eq_mem] at this
    rcases this with h |⟨h,h'⟩
    · omega
    · refine ⟨fun i hi => ?_, fun hmk => h'.resolve_left (by omega)⟩
      have:=allLt_spec h i hi
      simpa using this
section
variable {Γ : Type} {P : Program} {r : Option Nat} {n m : Nat} {l : List Oper} {Q : Post}
end
/-! a block that is made and stored into where the order is drawn -/
abbrev Gq:=Nx × Option (Nat × Obj × Bool)
def entq (g:Gq):Ents:=(match g.2 with |none=>[] |some p=>[(some p.1,p.2.1)])++ents g.1
section
variable {w w' w'' : World} {w0 : Zx} {O0 : List Nat} {bs : Ents} {zo : Obj} {ka kst : Nat} {g : Gq} {v : Value} {k : Nat}
def TQ (zo:Obj) (w0:Zx) (O0:List Nat) (bs:Ents) (ka kst:Nat):Go1 Gq where
  inv w g:=St w0 O0 w (entq g++bs)∧∀b o,g.2=some (b,o,false)→o=zo
  le w g w' g':=((∃l,g'.1=l++g.1)∧∀b o f,g.2=some (b,o,f)→∃o' f',g'.2=some (b,o',f')∧(f=true→o'=o∧f'=true))∧Step (ks (entq g++bs) O0) w (ks (entq g'++bs) O0) w'∧True
  refl w g:=⟨⟨⟨[],rfl⟩,fun b o f h=>⟨o,f,h,fun h=>⟨rfl,h⟩⟩⟩,Step.refl _ _,trivial⟩
  trans:=fun⟨⟨⟨l,a⟩,b⟩,h,_⟩ ⟨⟨⟨l',a'⟩,b'⟩,h',_⟩=>⟨⟨⟨l'++l,by rw [a',a,List.append_assoc]⟩,fun bb o f hg=>by
    obtain⟨o1,f1,e1,e2⟩:=b bb o f hg
    obtain⟨o2,f2,e3,e4⟩:=b' bb o1 f1 e1
    exact⟨o2,f2,e3,fun h=>by obtain⟨e5,e6⟩:=e2 h;obtain⟨e7,e8⟩:=e4 e6;exact⟨e7.trans e5,e8⟩⟩⟩,h.trans h',trivial⟩
  drew w g h:=⟨⟨h.1.call (Ext.drew w),h.2⟩,⟨⟨[],rfl⟩,fun b o f h=>⟨o,f,h,fun h=>⟨rfl,h⟩⟩⟩,Step.ext (Ext.drew w),trivial⟩
  dn g:=match g.2 with |none=>[] |some p=>if p.2.2 then [ka,kst] else [ka]
abbrev QD {α:Type} (O0:List Nat) (bs:Ents) (R:Vr α) (x:α):VR Gq:=fun v w g=>R.vd w (ks (entq g++bs) O0) v x
theorem QD.stab {α:Type} (R:Vr α) (x:α):Stab (TQ zo w0 O0 bs ka kst) (QD O0 bs R x):=fun _ _ _ _ _ h hv=>R.step h.2.1 hv
abbrev QP {α:Type} (O0:List Nat) (bs:Ents) (q:Rp α) (x:α):VR Gq:=fun v w g=>∃p,v=.pointer (some p)∧PtR q w (ks (entq g++bs) O0) p x
theorem QP.stab {α:Type} (q:Rp α) (x:α):Stab (TQ zo w0 O0 bs ka kst) (QP O0 bs q x):=fun _ _ _ _ _ h ⟨p,h1,h2⟩=>⟨p,h1,h2.step h.2.1⟩
abbrev QA:VR Gq:=fun v _ g=>∃b o f,v=.pointer (some ⟨b,0,none⟩)∧g.2=some (b,o,f)
theorem QA.stab:Stab (TQ zo w0 O0 bs ka kst) QA:=fun _ _ _ _ _ h ⟨b,o,f,h1,h2⟩=>by obtain⟨o',f',e,_⟩:=h.1.2 b o f h2;exact⟨b,o',f',h1,e⟩
abbrev QS {α:Type} (O0:List Nat) (bs:Ents) (q:Rp α) (t:TypeId) (x:α):VR Gq:=fun _ w g=>∃b vs,g.2=some (b,.cells vs.toArray t,true)∧q.rd w (ks (entq g++bs) O0) vs x
theorem QS.stab {α:Type} {q:Rp α} {t:TypeId} {x:α} :Stab (TQ zo w0 O0 bs ka kst) (QS O0 bs q t x):=fun _ _ _ _ _ h ⟨b,vs,h1,h2⟩=>by
  obtain⟨o',f',e,e2⟩:=h.1.2 b _ _ h1
  obtain⟨rfl,rfl⟩:=e2 rfl
  exact⟨b,vs,e,q.step h.2.1 h2⟩
theorem GoesQ.same {V:VR Gq} (hi:St w0 O0 w' (entq g++bs)) (hi2:∀b o,g.2=some (b,o,false)→o=zo) (hv:V v w' g):Goes (TQ zo w0 O0 bs ka kst) w' g V k v w':=⟨g,⟨hi,hi2⟩,(TQ zo w0 O0 bs ka kst).refl _ _,hv,fun _ h=>.inl h⟩
theorem GoesQ.call {V:VR Gq} (hi:St w0 O0 w' (entq g++bs)) (hi2:∀b o,g.2=some (b,o,false)→o=zo) (hx:Ext w' w'') (hv:V v w'' g):Goes (TQ zo w0 O0 bs ka kst) w' g V k v w'':=
  ⟨g,⟨hi.call hx,hi2⟩,⟨⟨⟨[],rfl⟩,fun b o f h=>⟨o,f,h,fun h=>⟨rfl,h⟩⟩⟩,Step.ext hx,trivial⟩,hv,fun _ h=>.inl h⟩
section ops
variable {P : Program} {r : Option Nat} {ρ : Env} {d : Option Nat} {ty : TypeId} {pos : String} {aft : Array Edge} {gd : Option (Nat × Bool)} {t : TypeId} {td : TypeDesc} {n b : Nat} {zs : List Value} {ag : Bool} {x y : Operand}
end ops
end
/-! what is new altogether -/
section fresh
def Flat {α:Type} (p:Rp α):Prop:=∀w O w' O' vs x,p.rd w O vs x→p.rd w' O' vs x
theorem Flat.int {k:IntKind} :Flat (rInt k):=fun _ _ _ _ _ _ h=>h
theorem Flat.bool:Flat rBool:=fun _ _ _ _ _ _ h=>h
theorem Flat.pair {α β:Type} {r:Rp α} {s:Rp β} (h1:Flat r) (h2:Flat s):Flat (rPair r s):=fun w O w' O' _ _ ⟨v1,v2,e,a,b⟩=>⟨v1,v2,e,h1 w O w' O' _ _ a,h2 w O w' O' _ _ b⟩
theorem Flat.via {α β:Type} {f:β→α} {r:Rp α} (h:Flat r):Flat (rVia f r):=fun w O w' O' _ _ a=>h w O w' O' _ _ a
theorem Gs.flat {α:Type} {p:Rp α} (hp:Flat p) {e:TypeId} {w:World} {O:List Nat} {a:Option Addr} {c:Nat} {kk:Option Nat} {o:Obj} {xs:List α} (h:Gs p e w O a c xs kk o) (w':World) (O':List Nat):Gs p e w' O' a c xs kk o:=by
  rcases h with h |⟨bl,cur,h1,h2,h3,h4,h5,h6,h7⟩
  · exact .inl h
  · refine .inr ⟨bl, cur, h1, h2, h3, h4, h5, h6, ?_⟩
    revert h7
    generalize cur.toList.take (xs.length*p.n)=cs
    clear h5
    induction xs generalizing cs with
    |nil=>exact id
    |cons x t ih=>rintro⟨v1,v2,e1,e2,e3⟩;exact⟨v1,v2,e1,hp _ _ _ _ _ _ e2,ih _ e3⟩
theorem St.fresh {w0 w:World} {ds O O':List Nat} {bs:Ents} (h:St ⟨w0,[],ds⟩ O' w bs) (hO:∀k∈O,k∈O') (hd:ds=[]:=by rfl):St ⟨w0,[],ds⟩ (List.range w0.heap.size++O) w bs:=by
  subst hd
  refine St.others h (fun k hk=>?_) (fun D hD=>by cases hD)
  rcases List.mem_append.1 hk with hk |hk
  · have hk := List.mem_range.1 hk
    refine⟨Nat.lt_of_lt_of_le hk h.below.size,fun hm=>?_⟩
    obtain⟨p,hp,e⟩:=mem_keys.1 hm
    rcases (h.own p hp k e).1 with h1 |h1
    · cases h1
    · simp only at h1;omega
  · exact h.dj k (hO k hk)
def OkF {α:Type} (P:Program) (f:FuncId) (args:List Value) (w:World) (O:List Nat) (R:Vr α) (x:α):Prop:=Fn P f args w fun v w'=>Ext w w'∧R.vd w' (List.range w.heap.size++O) v x
theorem OkF.ok {α:Type} {P:Program} {f:FuncId} {args:List Value} {w:World} {O:List Nat} {R:Vr α} {x:α} (h:OkF P f args w O R x):Ok P f args w O R x:=
  Fn.mono h fun _ _ ⟨h1,h2⟩=>⟨h1,R.step (Step.sub fun k hk=>List.mem_append_right _ hk) h2⟩
end fresh
end Go.Fx
/- Functions within an iterator that call themselves and turn one block that is lent to them; maps of one's own read in order. No program in sight. -/
set_option linter.unusedSimpArgs false
set_option linter.unusedVariables false
set_option linter.unusedSectionVars false
namespace Go.Fx
open Go Go.RowKit
def SubItX {α γ σ:Type} (P:Program) (enc:γ→World→List Nat→List Value→Prop) (l:Nat) (M:Obj→σ→Prop) (bm:Nat) (w:World) (O:List Nat) (fv:Value) (A:α→World→List Nat→List Value→Prop) (f:α × σ→Option (List γ × σ)):Prop:=
  (∃k caps,fv=.func k #[] caps)∧∀w1 O1 o1 s,Step O w (bm::O1) w1→bm ∉ O1→w1.heap[bm]?=some o1→M o1 s→(∀k∈O1,k<w1.heap.size)→∀(J Jx:JP γ),Abides J→Abides Jx→∀vs x Lx sz,A x w1 (bm::O1) vs→f (x,s)=some (Lx,sz)→YieldsTo P enc Lx l J Jx→J [] w1 O1 [bm]→
    FvTo P fv vs w1 fun u w2=>∃O2 o2 s2,bm ∉ O2∧w2.heap[bm]?=some o2∧M o2 s2∧((u=.bool true∧s2=sz∧J Lx w2 O2 [bm])∨(u=.bool false∧∃pre,Jx pre w2 O2 [bm]))
section sub
variable {α γ σ : Type} {P : Program} {enc : γ → World → List Nat → List Value → Prop} {l : Nat} {M : Obj → σ → Prop} {bm : Nat} {w w' : World} {O O' : List Nat} {A : α → World → List Nat → List Value → Prop} {f : α × σ → Option (List γ × σ)}
theorem SubItX.step {fv:Value} (h:SubItX P enc l M bm w O fv A f) (s:Step O w O' w'):SubItX P enc l M bm w' O' fv A f:=
  ⟨h.1,fun w1 O1 o1 mp s1=>h.2 w1 O1 o1 mp (s.trans s1)⟩
def rSbX (P:Program) (enc:γ→World→List Nat→List Value→Prop) (l:Nat) (M:Obj→σ→Prop) (bm:Nat) (A:α→World→List Nat→List Value→Prop):Rp (α × σ→Option (List γ × σ)) where
  n:=1
  rd w O cs f:=∃v,cs=[v]∧SubItX P enc l M bm w O v A f
  len:=fun⟨_,h,_⟩=>by rw [h];rfl
  one:=fun⟨v,h,⟨k,caps,h2⟩,_⟩=>by subst h;subst h2;simp [Value.oneCell']
  step:=fun s ⟨v,h,h2⟩=>⟨v,h,h2.step s⟩
def vSbX (P:Program) (enc:γ→World→List Nat→List Value→Prop) (l:Nat) (M:Obj→σ→Prop) (bm:Nat) (A:α→World→List Nat→List Value→Prop):Vr (α × σ→Option (List γ × σ)):=⟨fun w O v f=>SubItX P enc l M bm w O v A f,fun s h=>h.step s⟩
theorem un_sbX {v:Value} (h:(rSbX P enc l M bm A).rd w O [v] f):SubItX P enc l M bm w O v A f:=by
  obtain⟨v',h1,h2⟩:=h;cases h1;exact h2
theorem PtR.sbX {v:Value} {h1:v.oneCell'=true} {p:Addr} (h:PtR (rVal v h1) w O p ()) (hf:SubItX P enc l M bm w O v A f):PtR (rSbX P enc l M bm A) w O p f:=by
  refine⟨h.spot,h.sh,?_⟩
  obtain⟨cs,e,fz,k1,k2,k3⟩:=h.cells
  exact⟨cs,e,fz,k1,k2,v,k3,hf⟩
theorem SubItX.fix {k:Go.Fn} {caps:Array Value} {Φ:(α × σ→Option (List γ × σ))→α × σ→Option (List γ × σ)}
    (h:∀f,SubItX P enc l M bm w O (.func k #[] caps) A f→SubItX P enc l M bm w O (.func k #[] caps) A (Φ f)):∀n,SubItX P enc l M bm w O (.func k #[] caps) A (fixO Φ n)
  |0=>⟨⟨k,caps,rfl⟩,fun _ _ _ _ _ _ _ _ _ _ _ _ _ _ _ _ _ _ hf=>by cases hf⟩
  |n+1=>h _ (SubItX.fix h n)
def Ar (ik:IntKind) (e:TypeId) (c bm n:Nat) (o:Obj) (xs:List Int):Prop:=xs.length=n∧∀w O,Gs (rInt ik) e w O (some ⟨bm,0,none⟩) c xs (some bm) o
theorem Gs.int {ik:IntKind} {e:TypeId} {a:Option Addr} {c:Nat} {kk:Option Nat} {o:Obj} {xs:List Int} (h:Gs (rInt ik) e w O a c xs kk o) (w':World) (O':List Nat):Gs (rInt ik) e w' O' a c xs kk o:=by
  rcases h with h |⟨bl,cur,h1,h2,h3,h4,h5,h6,h7⟩
  · exact .inl h
  · refine .inr ⟨bl, cur, h1, h2, h3, h4, h5, h6, ?_⟩
    revert h7
    generalize cur.toList.take (xs.length*(rInt ik).n)=cs
    clear h5
    induction xs generalizing cs with
    |nil=>exact id
    |cons x t ih=>rintro⟨v1,v2,e1,e2,e3⟩;exact⟨v1,v2,e1,e2,ih _ e3⟩
theorem Ar.of {ik:IntKind} {e:TypeId} {c n:Nat} {o:Obj} {xs:List Int} (h:Gs (rInt ik) e w O (some ⟨bm,0,none⟩) c xs (some bm) o) (hl:xs.length=n):Ar ik e c bm n o xs:=⟨hl,h.int⟩
end sub
section call
variable {P : Program} {ρ : Env} {w : World} {z : Zx} {O : List Nat} {bs : Ents} {α γ σ : Type} {J Jx : JP γ} {L pre Lx : List γ} {l : Nat} {enc : γ → World → List Nat → List Value → Prop} {bm : Nat}
theorem op_subcallX {r:Option Nat} {d:Option Nat} {ty:TypeId} {pos:String} {aft:Array Edge} {g:Option (Nat × Bool)} {Vv:Value→World→Prop} {x:Operand} {args:Array Operand} {us:Array TypeId} {fv:Value} {vs:List Value} {M:Obj→σ→Prop} {A:α→World→List Nat→List Value→Prop} {f:α × σ→Option (List γ × σ)} {a:α} {i:Nat} {o:Obj} {mp mz:σ}
    (hx:ev ρ x=fv) (hf:SubItX P enc l M bm w (ks bs O) fv A f) (ha:args.toList.map (ev ρ)=vs) (hA:∀{x:α} {w w':World} {O O':List Nat} {vs:List Value},Step O w O' w'→A x w O vs→A x w' O' vs) (hv:A a w (ks bs O) vs) (hfa:f (a,mp)=some (Lx,mz)) (hY:YieldsTo P enc L l J Jx) (hJ:Abides J) (hJx:Abides Jx) (hI:Itr J pre z O) (hs:St z O w bs) (hi:bs[i]?=some (some bm,o)) (hM:M o mp) (hL:pre++Lx<+:L)
    (kt:∀w' O' o',St ⟨w',(bs.set i (some bm,o')).filterMap Prod.fst,[]⟩ O' w' (bs.set i (some bm,o'))→Step (ks bs O) w (ks (bs.set i (some bm,o')) O') w'→Itr J (pre++Lx) ⟨w',(bs.set i (some bm,o')).filterMap Prod.fst,[]⟩ O'→M o' mz→Vv (.bool true) w')
    (kf:∀w' O' o' (m2:σ) pre',St ⟨w',(bs.set i (some bm,o')).filterMap Prod.fst,[]⟩ O' w' (bs.set i (some bm,o'))→Step (ks bs O) w (ks (bs.set i (some bm,o')) O') w'→Itr Jx pre' ⟨w',(bs.set i (some bm,o')).filterMap Prod.fst,[]⟩ O'→M o' m2→Vv (.bool false) w'):
    Run1 P r ρ w ⟨d,.call ⟨.value x,args,us⟩,ty,pos,aft,g⟩ Vv:=by
  obtain⟨e1,e2,e3,e4⟩:=hs.lendM hi
  have hp:=ents_perm hi
  have hlt:∀k∈(bs.eraseIdx i).filterMap Prod.fst,k<w.heap.size:=fun k hk=>e1 k (mem_ks.2 (.inl hk))
  have hdj:∀k∈O,k ∉ (bs.eraseIdx i).filterMap Prod.fst:=fun k hk hm=>(hs.dj k hk).2 (hp.mem_iff.1 (List.mem_cons_of_mem _ hm))
  have hnow:=hI.now hJ hs
  have hbmlt:bm<w.heap.size:=hs.lt (List.mem_of_getElem? hi) rfl
  have h0:JinM J pre w O (bs.eraseIdx i) bm [] w (ks (bs.eraseIdx i) O) [bm]:=
    ⟨O,rfl,by
      rw [List.append_nil]
      exact hJ.loc hnow (fun k hk hm=>(hs.dj k hm).2 hk) (Loc.refl _ _) ⟨fun k hk=>.inl (hp.mem_iff.1 (by simpa using hk)),fun k hk=>by
        rcases List.mem_append.1 hk with hk |hk
        · simp at hk;subst hk;exact hbmlt
        · exact hlt k hk⟩,fun p hp' b hb=>(hs.own p (List.mem_of_mem_eraseIdx hp') b hb).2,fun k hk=>⟨hdj k hk,(hs.dj k hk).1⟩,Step.refl _ _,fun k hk=>by simp at hk;exact .inl hk⟩
  have hc:=hf.2 w (ks (bs.eraseIdx i) O) o mp e4 e2 e3 hM e1 (JinM J pre w O (bs.eraseIdx i) bm) (JinM Jx pre w O (bs.eraseIdx i) bm) (JinM.abides hJ hlt) (JinM.abides hJx hlt) vs a Lx mz (hA e4 hv) hfa (JinM.yields hlt hL hY) h0
  refine op_callF hx hc ha ?_
  rintro u w2 ⟨O2,o2,m2,k1,k2,k3,h⟩
  have done:∀(J':JP γ) (pre':List γ),Abides J'→JinM J' pre w O (bs.eraseIdx i) bm pre' w2 O2 [bm]→∃Oc,St ⟨w2,(bs.set i (some bm,o2)).filterMap Prod.fst,[]⟩ Oc w2 (bs.set i (some bm,o2))∧Step (ks bs O) w (ks (bs.set i (some bm,o2)) Oc) w2∧Itr J' (pre++pre') ⟨w2,(bs.set i (some bm,o2)).filterMap Prod.fst,[]⟩ Oc:=by
    rintro J' pre' hJ' ⟨Oc,rfl,h2,h3,h4,h5,_⟩
    have hi':=set_get (o':=o2) hi
    have he:(bs.set i (some bm,o2)).eraseIdx i=bs.eraseIdx i:=by rw [List.eraseIdx_set_eq]
    have hp':=ents_perm hi'
    rw [he] at hp'
    have hbO:bm ∉ Oc:=fun hm=>k1 (mem_ks.2 (.inr hm))
    have hnd:((bs.set i (some bm,o2)).filterMap Prod.fst).Nodup:=hp'.nodup_iff.1 (hp.nodup_iff.2 hs.nd)
    have hsz:bm<w2.heap.size:=(Array.getElem?_eq_some_iff.1 k2).1
    have hkeys:∀k,k∈(bs.set i (some bm,o2)).filterMap Prod.fst→k<w2.heap.size∧k ∉ Oc:=fun k hk=>by
      rcases List.mem_cons.1 (hp'.mem_iff.2 hk) with rfl |hk
      · exact⟨hsz,hbO⟩
      · exact⟨Nat.lt_of_lt_of_le (hlt k hk) h5.size,fun hm=>(h4 k hm).1 hk⟩
    refine⟨Oc,⟨Loc.refl _ _,fun p hp1 b hb=>⟨.inl (mem_keys.2 ⟨p,hp1,hb⟩),?_⟩,hnd,fun k hk=>⟨(h4 k hk).2,fun hm=>(hkeys k hm).2 hk⟩,List.nodup_nil,fun _ h=>by cases h⟩,?_,?_,fun k hk=>(hkeys k hk).2⟩
    · obtain ⟨j, hj⟩ := List.mem_iff_getElem?.1 hp1
      rw [List.getElem?_set] at hj
      split at hj
      · split at hj
        · cases hj;cases hb;exact k2
        · cases hj
      · rename_i hne
        refine h3 p ?_ b hb
        rw [List.eraseIdx_eq_take_drop_succ]
        by_cases hlt':j<i
        · exact List.mem_append_left _ (List.mem_of_getElem? (i:=j) (by rw [List.getElem?_take,if_pos hlt'];exact hj))
        · exact List.mem_append_right _ (List.mem_of_getElem? (i:=j - (i+1)) (by rw [List.getElem?_drop,show i+1+(j - (i+1))=j by omega];exact hj))
    · refine e4.trans (h5.trans (Step.sub fun k hk => ?_))
      have:=(ks_erase (O0:=Oc) hi' (k:=k)).2 hk
      rwa [he] at this
    · refine hJ'.loc h2 (fun k hk => ?_) (Loc.refl _ _) ⟨fun k hk => .inl ?_, fun k hk => (hkeys k hk).1⟩
      · rcases List.mem_append.1 hk with hk | hk
        · simp at hk;subst hk;exact hbO
        · exact fun hm=>(h4 k hm).1 hk
      · rcases List.mem_cons.1 (hp'.mem_iff.2 hk) with rfl | hk
        · simp
        · exact List.mem_append_right _ hk
  rcases h with ⟨rfl,rfl,h⟩ |⟨rfl,pre',h⟩
  · obtain ⟨Oc, g1, g2, g3⟩ := done J Lx hJ h
    exact kt w2 Oc o2 g1 g2 g3 k3
  · obtain ⟨Oc, g1, g2, g3⟩ := done Jx pre' hJx h
    exact kf w2 Oc o2 m2 _ g1 g2 g3 k3
end call
section own
variable {K V : Type} [DecidableEq K] [Kord K] {q : Kk K} {m : Mv V} {P : Program} {r : Option Nat} {ρ : Env} {w w' : World} {d : Option Nat} {ty : TypeId} {pos : String} {aft : Array Edge} {g : Option (Nat × Bool)} {Vv : Value → World → Prop}
variable {z0 : Zx} {O0 O O' : List Nat} {bs : Ents} {x : Operand} {t kt e : TypeId} {v : Value} {oi om : Obj} {last : Option (K × V)} {xs rem : List (K × V)}
theorem op_rangeO {b i:Nat} (hu:P.underlying t=some (.map kt e)) (hs:St z0 O0 w bs) (hi:bs[i]?=some (some b,om)) (hM:Mo q m om xs) (hx:ev ρ x=.map (some b))
    (k:∀bl oi rem w',Step (ks bs O0) w (ks ((some bl,oi)::bs) O0) w'→St z0 O0 w' ((some bl,oi)::bs)→Mit q m om oi b none rem→rem.Perm xs→Vv (.pointer (some ⟨bl,0,none⟩)) w'):
    Run1 P r ρ w ⟨d,.range t x,ty,pos,aft,g⟩ Vv:=by
  have hb:=hs.get hi
  obtain⟨es,clock,rem,rfl,hit,hp⟩:=Mit.start (b:=b) hM
  have hs':=Step.alloc w O0 bs (.mapIter (some b) clock #[] clock)
  refine run1_value (v:=.pointer (some ⟨w.heap.size,0,none⟩)) (w':=w.alloc (.mapIter (some b) clock #[] clock)) (by simp) ?_ (k _ _ rem _ hs' (hs.alloc _) hit hp)
  simp [execOp,hx,Instr.range,run_underlying hu,run_goM hb]
theorem op_nextO {i j b bm:Nat} (hs:St z0 O0 w bs) (hi:bs[i]?=some (some b,oi)) (hj:bs[j]?=some (some bm,om)) (hit:Mit q m om oi bm last rem) (hx:ev ρ x=.pointer (some ⟨b,0,none⟩))
    (k0:rem=[]→Vv (.tuple [Value.bool false].toArray) w)
    (k1:∀p r1 r2 oi' w',rem=r1++p::r2→Step (ks bs O0) w (ks (bs.set i (some b,oi')) O0) w'→St z0 O0 w' (bs.set i (some b,oi'))→Mit q m om oi' bm (some p) (r1++r2)→q.ok p.1→m.ok p.2→Vv (.tuple [Value.bool true,q.enc p.1,m.enc p.2].toArray) w'):
    Run1 P r ρ w ⟨d,.next x false,ty,pos,aft,g⟩ Vv:=by
  rcases run_nextM (P:=P) (w:=w) (r:=b) (ty:=ty) hit (hs.get hj) (hs.get hi) with ⟨h0,h1⟩ |⟨p,r1,r2,oi',w1,hr,hw1,h1,h2,h3,h4⟩
  · refine run1_value (by simp) ?_ (k0 h0)
    simp [execOp,hx,h1]
  · have he : Ext w w1 := by rcases hw1 with rfl | rfl; exact Ext.refl _; exact Ext.drew _
    have hs1:=hs.call he
    obtain⟨h5,h6⟩:=hs1.putObj hi oi'
    have h7:=(Step.ext (O:=ks bs O0) he).trans h6
    refine run1_value (by simp) ?_ (k1 p r1 r2 oi' _ hr h7 h5 h2 h3 h4)
    simp [execOp,hx,h1]
theorem op_entryO {i j b bm:Nat} {p:K × V} (hs:St z0 O0 w bs) (hi:bs[i]?=some (some b,oi)) (hj:bs[j]?=some (some bm,om)) (hit:Mit q m om oi bm (some p) rem) (hx:ev ρ x=.pointer (some ⟨b,0,none⟩))
    (k:Vv (.tuple [q.enc p.1,m.enc p.2].toArray) w):Run1 P r ρ w ⟨d,.entry x,ty,pos,aft,g⟩ Vv:=by
  refine run1_value (by simp) ?_ k
  simp [execOp,hx,run_entryM hit (hs.get hj) (hs.get hi)]
theorem op_lenO {i b:Nat} (hu:P.underlying t=some (.map kt e)) (hs:St z0 O0 w bs) (hi:bs[i]?=some (some b,om)) (hM:Mo q m om xs) (hx:ev ρ x=.map (some b)) (k:Vv (.int .i64 xs.length) w):
    Run1 P r ρ w ⟨d,.call ⟨.builtin .len,#[x],#[t]⟩,ty,pos,aft,g⟩ Vv:=by
  refine op_lenM (O:=[]) (v:=.map (some b)) hu hx ⟨b,om,rfl,⟨(Array.getElem?_eq_some_iff.1 (hs.get hi)).1,by simp⟩,hs.get hi,hM⟩ k
theorem op_callI {ik ik':IntKind} {f:FuncId} {args:Array Operand} {us:Array TypeId} {e':TypeId} {a:Option Addr} {c b i:Nat} {o:Obj} {xs ys:List Int} {nx:Nx} {OO:List Nat}
    (hc:∀(args:Array Value) (w:World),(callFunc f args).run P w=.ok (.enter f args) w) (hi:St z0 O0 w (ents nx++bs)) (hsn:St z0 O0 w bs) (hb:bs[i]?=some (some b,o)) (hG:Gs (rInt ik) e w OO a c xs (some b) o)
    (h:SlR (rInt ik) w [] a c xs→OkG P f [.slice a xs.length c] w [] (rInt ik') e' ys) (ha:args.toList.map (ev ρ)=[.slice a xs.length c])
    (k:∀v w',Ext w w'→(vC (rSl (rInt ik'))).vd w' (ks (ents nx++bs) O0) v ys→Vv v w'):Run1 P r ρ w ⟨d,.call ⟨.value (.func f),args,us⟩,ty,pos,aft,g⟩ Vv:=by
  have h1:St ⟨w,[b],[]⟩ [] w [(some b,o)]:=St.startW (by simp) (by simp) (hsn.get hb)
  obtain⟨_,_,h2⟩:=Gs.publish (i:=0) h1 rfl (hG.int w (ks [(some b,o)] []))
  refine op_call hc (h h2) ha ?_
  rintro v w' ⟨hx,a',c',kk,o',rfl,hk,hG'⟩
  obtain⟨h3,_⟩:=hi.callG (o:=o') hx hk
  obtain⟨_,_,h4⟩:=Gs.publish (i:=0) h3 rfl (hG'.int w' (ks ((kk,o')::(ents nx++bs)) O0))
  exact k _ w' hx ⟨a',c',rfl,h4⟩
end own
end Go.Fx
/- Function values that turn what is lent to them, called within functions that lend maps on; delete; m[k] += x where the order is drawn. No program in sight. -/
set_option linter.unusedSimpArgs false
set_option linter.unusedVariables false
set_option linter.unusedSectionVars false
namespace Go.Fx
open Go Go.RowKit
/-! delete -/
section del
variable {K V : Type} [DecidableEq K] [Kord K] {q : Kk K} {m : Mv V} {o : Obj} {xs : List (K × V)} {P : Program} {w : World} {t kt e : TypeId}
theorem mdel_mem {l:List (K × V)} {n k:K} {y:V} :(k,y)∈mdel l n ↔ (k,y)∈l∧k≠n:=by simp [mdel]
theorem Mo.del {es es':Array MapEntry} {clock:Nat} {l1 l2:List (K × V × Nat)} {n:K} {x:V} {b:Nat} (hM:MapIs q m es clock (l1++(n,x,b)::l2)) (hd:(l1++(n,x,b)::l2).Pairwise fun e f=>e.1≠f.1)
    (hp:∀k y,(∃b',(k,y,b')∈l1++(n,x,b)::l2) ↔ (k,y)∈xs) (hr:Ris xs) (he:es'.toList=(l1++l2).map fun e=>(⟨q.enc e.1,m.enc e.2.1,e.2.2⟩:MapEntry)):Mo q m (.map es' clock) (mdel xs n):=by
  have hsub:(l1++l2).Sublist (l1++(n,x,b)::l2):=(List.Sublist.refl l1).append (List.sublist_cons_self _ _)
  rw [List.pairwise_append] at hd
  have hn1:∀e∈l1,e.1≠n:=fun e he=>hd.2.2 e he (n,x,b) (by simp)
  have hn2:∀e∈l2,e.1≠n:=fun e he h'=>(List.pairwise_cons.1 hd.2.1).1 e he h'.symm
  refine⟨es',clock,l1++l2,rfl,⟨he,hM.born.sublist hsub,fun e he=>hM.lt e (hsub.subset he),fun e he=>hM.ok e (hsub.subset he)⟩,?_,fun k y=>?_,mdel_ris hr n⟩
  · exact(List.pairwise_append.2 hd).sublist hsub
  · rw [mdel_mem, ← hp k y]
    constructor
    · rintro ⟨b', hb'⟩
      exact⟨⟨b',hsub.subset hb'⟩,(List.mem_append.1 hb').elim (hn1 _) (hn2 _)⟩
    · rintro ⟨⟨b', hb'⟩, hk⟩
      refine⟨b',?_⟩
      rcases List.mem_append.1 hb' with h |h
      · exact List.mem_append_left _ h
      · rcases List.mem_cons.1 h with e1 | h
        · cases e1;exact absurd rfl hk
        · exact List.mem_append_right _ h
theorem run_delete {r:Nat} {n:K} {ty:TypeId} (hu:P.underlying t=some (.map kt e)) (hk:KOk P kt q) (hr:w.heap[r]?=some o) (h:Mo q m o xs) (hn:q.ok n):
    ∃o',(Builtin.delete_ #[t,kt] ty #[.map (some r),q.enc n]).run P w=.ok (.tuple #[]) (w.putObj r o')∧Mo q m o' (mdel xs n):=by
  obtain⟨es,clock,l,rfl,hM,hd,hp,hris⟩:=h
  cases hg:mget xs n with
  |none=>
    have hf:=hM.findN (P:=P) (w:=w) hk hn (fun e he=>mget_none hg (e.1,e.2.1) ((hp e.1 e.2.1).1 ⟨e.2.2,he⟩))
    refine⟨.map es clock,?_,⟨es,clock,l,rfl,hM,hd,fun k y=>?_,mdel_ris hris n⟩⟩
    · simp [Builtin.delete_,run_underlying hu,Result.andThen,run_goM hr,hk.check _ _ _ hn,hf,run_soM _ hr]
    · rw [mdel_mem, hp k y]
      exact⟨fun h=>⟨h,fun e=>mget_none hg _ h e⟩,fun h=>h.1⟩
  |some x=>
    obtain⟨b,hb⟩:=(hp n x).2 (mget_some hg)
    obtain⟨l1,l2,rfl,h1,h2⟩:=split_key hd hb
    have hf:=hM.findS (P:=P) (w:=w) hk h1
    refine⟨.map (es.eraseIdxIfInBounds l1.length) clock,?_,Mo.del hM hd hp hris ?_⟩
    · simp [Builtin.delete_,run_underlying hu,Result.andThen,run_goM hr,hk.check _ _ _ hn,hf,run_soM _ hr]
    · have hl:l1.length<es.size:=by
        have:=congrArg List.length hM.eq;simp at this;omega
      have h3:(es.eraseIdxIfInBounds l1.length).toList=es.toList.eraseIdx l1.length:=by simp [Array.eraseIdxIfInBounds,hl]
      rw [h3,hM.eq]
      simp only [List.map_append,List.map_cons]
      rw [List.eraseIdx_append_of_length_le (by simp)]
      simp
end del
section
variable {K V : Type} [DecidableEq K] [Kord K] {q : Kk K} {m : Mv V} {o : Obj} {xs : List (K × V)} {P : Program} {r : Option Nat} {ρ : Env} {w w' : World} {d : Option Nat} {ty : TypeId} {pos : String} {aft : Array Edge} {g : Option (Nat × Bool)} {Vv : Value → World → Prop}
variable {z0 : Zx} {O0 O O' : List Nat} {bs : Ents} {x y u : Operand} {t kt e : TypeId}
theorem op_delete {b i:Nat} {n:K} {v:V} (hu:P.underlying t=some (.map kt e)) (hk:KOk P kt q) (hs:St z0 O0 w bs) (hi:bs[i]?=some (some b,o)) (h:Mo q m o xs) (hx:ev ρ x=.map (some b)) (hy:ev ρ y=q.enc n) (hn:q.ok n)
    (k:∀o' w',Step (ks bs O0) w (ks (bs.set i (some b,o')) O0) w'→St z0 O0 w' (bs.set i (some b,o'))→Mo q m o' (mdel xs n)→Vv (.tuple #[]) w'):
    Run1 P r ρ w ⟨d,.call ⟨.builtin .delete,#[x,y],#[t,kt]⟩,ty,pos,aft,g⟩ Vv:=by
  obtain⟨o',h1,h2⟩:=run_delete (P:=P) (ty:=ty) hu hk (hs.get hi) h hn
  obtain⟨h3,h4⟩:=hs.putObj hi o'
  refine run1_value (v:=.tuple #[]) (by simp) ?_ (k o' _ h4 h3 h2)
  simp [execOp,resolve,invoke,builtin,hx,hy,h1]
end
/-! what is lent, as a state -/
structure Sx (σ:Type) where
  rd:World→List Nat→Ents→σ→Prop
  step:∀{w O w' O' E s},Step O w O' w'→rd w O E s→rd w' O' E s
def SxR {σ:Type} (S:Sx σ) (w:World) (O:List Nat) (E:Ents) (s:σ):Prop:=S.rd w O E s
theorem SxR.step {σ:Type} {S:Sx σ} {w w':World} {O O':List Nat} {E:Ents} {s:σ} (h:SxR S w O E s) (p:Step O w O' w'):SxR S w' O' E s:=S.step p h
def DoneS {K V σ:Type} [DecidableEq K] [Kord K] (P:Program) (q:Kk K) (m:Mv V) (S:Sx σ) (w:World) (O:List Nat) (fd:Value) (D:List (K × V)→σ→Option (Bool × σ)):Prop:=
  (∃k caps,fd=.func k #[] caps)∧∀(w1:World) (O1:List Nat) (L1:Ents) (b:Nat) (o:Obj) (xs:List (K × V)) (s:σ) (r:Bool) (s':σ),Step O w (ks L1 O1) w1→Lend w1 O1 L1→b∈O1→w1.heap[b]?=some o→Mo q m o xs→SxR S w1 (ks L1 O1) L1 s→D xs s=some (r,s')→
    FvTo P fd [.map (some b)] w1 fun u w2=>∃L2,Back w1 L1 w2 O1 L2∧SxR S w2 (ks L2 O1) L2 s'∧u=.bool r
section done
variable {K V σ : Type} [DecidableEq K] [Kord K] {P : Program} {q : Kk K} {m : Mv V} {S : Sx σ} {w w' : World} {O O' O0 : List Nat} {D : List (K × V) → σ → Option (Bool × σ)} {fd : Value} {z : Zx} {L1 own bs : Ents}
theorem DoneS.step (h:DoneS P q m S w O fd D) (p:Step O w O' w'):DoneS P q m S w' O' fd D:=
  ⟨h.1,fun w1 O1 L1 b o xs s r s' p1=>h.2 w1 O1 L1 b o xs s r s' (p.trans p1)⟩
theorem DoneS.cells (h:DoneS P q m S w O fd D):fd.cells=[fd].toArray:=by obtain⟨k,c,rfl⟩:=h.1;rfl
theorem DoneS.one (h:DoneS P q m S w O fd D):fd.oneCell'=true:=by obtain⟨k,c,rfl⟩:=h.1;simp [Value.oneCell']
def rDn (P:Program) (q:Kk K) (m:Mv V) (S:Sx σ):Rp (List (K × V)→σ→Option (Bool × σ)) where
  n:=1
  rd w O cs D:=∃v,cs=[v]∧DoneS P q m S w O v D
  len:=fun⟨_,h,_⟩=>by rw [h];rfl
  one:=fun⟨v,h,h2⟩=>by subst h;intro u hu;simp at hu;subst hu;exact h2.one
  step:=fun s ⟨v,h,h2⟩=>⟨v,h,h2.step s⟩
theorem un_dn {v:Value} (h:(rDn P q m S).rd w O [v] D):DoneS P q m S w O v D:=by obtain⟨v',h1,h2⟩:=h;cases h1;exact h2
theorem mk_dn {v:Value} (h:DoneS P q m S w O v D):(rDn P q m S).rd w O [v] D:=⟨v,rfl,h⟩
theorem ks_comm {k:Nat} :k∈ks L1 (ks own O0) ↔ k∈ks (own++L1) O0:=by
  simp only [ks,List.filterMap_append,List.mem_append]
  constructor
  · rintro (h | h | h)
    · exact .inl (.inr h)
    · exact .inl (.inl h)
    · exact .inr h
  · rintro ((h | h) | h)
    · exact .inr (.inl h)
    · exact .inl h
    · exact .inr (.inr h)
theorem St.swap (h:St z O0 w (own++L1)):St z O0 w (L1++own)∧Step (ks (own++L1) O0) w (ks (L1++own) O0) w:=h.perm List.perm_append_comm
theorem Step.comm1:Step (ks (own++L1) O0) w (ks L1 (ks own O0)) w:=Step.sub fun k hk=>ks_comm.1 hk
theorem Step.comm2:Step (ks L1 (ks own O0)) w (ks (own++L1) O0) w:=Step.sub fun k hk=>ks_comm.2 hk
theorem St.lendT (h:St z O0 w (own++L1)):Lend w (ks own O0) L1:=(h.swap.1).lendL
theorem St.backT {L2:Ents} {w2:World} (h:St z O0 w (own++L1)) (hB:Back w L1 w2 (ks own O0) L2):St z O0 w2 (own++L2)∧Step (ks (own++L1) O0) w (ks (own++L2) O0) w2:=by
  obtain⟨h1,h2⟩:=h.swap
  obtain⟨h3,h4⟩:=h1.backL hB
  obtain⟨h5,h6⟩:=h3.swap
  exact⟨h5,(h2.trans h4).trans h6⟩
theorem op_doneS {r:Option Nat} {ρ:Env} {d:Option Nat} {ty:TypeId} {pos:String} {aft:Array Edge} {g:Option (Nat × Bool)} {Vv:Value→World→Prop} {x:Operand} {args:Array Operand} {us:Array TypeId} {i b:Nat} {o:Obj} {xs:List (K × V)} {s s':σ} {rr:Bool}
    (own L1:Ents) (hs:St z O0 w (own++L1)) (hx:ev ρ x=fd) (ha:args.toList.map (ev ρ)=[.map (some b)]) (hD:DoneS P q m S w (ks (own++L1) O0) fd D) (hi:own[i]?=some (some b,o)) (hM:Mo q m o xs) (hS:SxR S w (ks (own++L1) O0) L1 s) (hm:D xs s=some (rr,s'))
    (k:∀w' L2,Step (ks (own++L1) O0) w (ks (own++L2) O0) w'→St z O0 w' (own++L2)→SxR S w' (ks (own++L2) O0) L2 s'→Vv (.bool rr) w'):Run1 P r ρ w ⟨d,.call ⟨.value x,args,us⟩,ty,pos,aft,g⟩ Vv:=by
  have hi':(own++L1)[i]?=some (some b,o):=by
    rw [List.getElem?_append_left (List.getElem?_eq_some_iff.1 hi).1];exact hi
  refine op_callF hx (hD.2 w (ks own O0) L1 b o xs s rr s' Step.comm1 hs.lendT (mem_ks.2 (.inl (mem_keys.2 ⟨_,List.mem_of_getElem? hi,rfl⟩))) (hs.get hi') hM (hS.step Step.comm1) hm) ha ?_
  rintro u w' ⟨L2,hB,hS2,rfl⟩
  obtain⟨h1,h2⟩:=hs.backT hB
  exact k w' L2 h2 h1 (hS2.step Step.comm2)
end done
/-! the map that is read is among what others own; or it is lent too -/
section less
variable {w w' : World} {O : List Nat} {L L' : Ents} {b : Nat} {o : Obj}
abbrev less (O:List Nat) (b:Nat):List Nat:=O.filter fun k=>!decide (k=b)
theorem mem_less {k:Nat} :k∈less O b ↔ k∈O∧k≠b:=by simp [less]
theorem Lend.lt0 (h:Lend w O L):∀k∈O,k<w.heap.size:=St.lt0 h
theorem Lend.less (h:Lend w O L):Lend w (less O b) L:=⟨h.below,h.own,h.nd,fun k hk=>h.dj k (mem_less.1 hk).1,h.dsn,fun _ h=>by cases h⟩
theorem Lend.stepless (L:Ents) (O:List Nat) (w:World):Step (ks L O) w (ks L (Fx.less O b)) w:=Step.sub fun k hk=>by
  rcases mem_ks.1 hk with hk |hk
  · exact mem_ks.2 (.inl hk)
  · exact mem_ks.2 (.inr (mem_less.1 hk).1)
theorem Lend.readM {K V:Type} [DecidableEq K] [Kord K] {q:Kk K} {m:Mv V} {xs:List (K × V)} (h:Lend w O L) (hb:b∈O) (ho:w.heap[b]?=some o) (hM:Mo q m o xs):MpR q m w (ks L (Fx.less O b)) (.map (some b)) xs:=
  ⟨b,o,rfl,⟨h.lt0 b hb,fun hm=>(mem_ks.1 hm).elim (h.dj b hb).2 fun hm=>(mem_less.1 hm).2 rfl⟩,ho,hM⟩
theorem Back.more (hB:Back w L w' (Fx.less O b) L') (h:Lend w O L) (hb:b∈O):Back w L w' O L':=by
  refine⟨hB.loc,⟨hB.st.below,hB.st.own,hB.st.nd,fun k hk=>?_,hB.st.dsn,fun _ h=>by cases h⟩,hB.new⟩
  by_cases e:k=b
  · subst e
    refine⟨Nat.lt_of_lt_of_le (h.lt0 k hb) hB.loc.size,fun hm=>?_⟩
    rcases hB.new k hm with h1 |h1
    · exact(h.dj k hb).2 h1
    · have:=h.lt0 k hb;omega
  · exact hB.st.dj k (mem_less.2 ⟨hk,e⟩)
theorem Lend.join (h:Lend w O L) (hb:b∈O) (ho:w.heap[b]?=some o):Lend w (Fx.less O b) (L++[(some b,o)]):=by
  have hk:(L++[(some b,o)]).filterMap Prod.fst=L.filterMap Prod.fst++[b]:=by simp
  refine⟨Loc.refl _ _,fun p hp j hj=>⟨.inl (mem_keys.2 ⟨p,hp,hj⟩),?_⟩,?_,fun k hk'=>⟨(h.dj k (mem_less.1 hk').1).1,?_⟩,List.nodup_nil,fun _ h=>by cases h⟩
  · rcases List.mem_append.1 hp with hp | hp
    · exact(h.own p hp j hj).2
    · simp at hp;subst hp;cases hj;exact ho
  · rw [hk]
    exact List.nodup_append.2 ⟨h.nd,by simp,fun a ha c hc e=>by simp at hc;subst hc;subst e;exact(h.dj a hb).2 ha⟩
  · rw [hk]
    intro hm
    rcases List.mem_append.1 hm with hm |hm
    · exact(h.dj k (mem_less.1 hk').1).2 hm
    · simp at hm;exact(mem_less.1 hk').2 hm
theorem mem_join {k:Nat} (hb:b∈O):k∈ks (L++[(some b,o)]) (Fx.less O b) ↔ k∈ks L O:=by
  simp only [ks,List.filterMap_append,List.mem_append,mem_less]
  constructor
  · rintro ((h | h) | h)
    · exact .inl h
    · simp at h;subst h;exact .inr hb
    · exact .inr h.1
  · rintro (h | h)
    · exact .inl (.inl h)
    · by_cases e : k = b
      · subst e;exact .inl (.inr (by simp))
      · exact .inr ⟨h,e⟩
theorem Step.join (L:Ents) (w:World) (o:Obj) (hb:b∈O):Step (ks L O) w (ks (L++[(some b,o)]) (Fx.less O b)) w:=Step.sub fun k hk=>(mem_join hb).1 hk
theorem Step.unjoin (L:Ents) (w:World) (o:Obj) (hb:b∈O):Step (ks (L++[(some b,o)]) (Fx.less O b)) w (ks L O) w:=Step.sub fun k hk=>(mem_join hb).2 hk
theorem Back.unjoin (hB:Back w (L++[(some b,o)]) w' (Fx.less O b) (L'++[(some b,o)])) (h:Lend w O L) (hb:b∈O) (ho:w.heap[b]?=some o):Back w L w' O L':=by
  have hk:∀L:Ents,(L++[(some b,o)]).filterMap Prod.fst=L.filterMap Prod.fst++[b]:=fun L=>by simp
  have hnd:=hB.st.nd
  rw [hk] at hnd
  have hdis:=(List.nodup_append.1 hnd).2.2
  have hbl:b<w.heap.size:=h.lt0 b hb
  refine⟨⟨hB.loc.os,hB.loc.tape,hB.loc.output,hB.loc.size,fun k hk1 hk2=>?_,hB.loc.drawn⟩,⟨Loc.refl _ _,fun p hp j hj=>⟨.inl (mem_keys.2 ⟨p,hp,hj⟩),(hB.st.own p (List.mem_append_left _ hp) j hj).2⟩,(List.nodup_append.1 hnd).1,fun k hk1=>?_,List.nodup_nil,fun _ h=>by cases h⟩,fun k hk1=>?_⟩
  · by_cases e : k = b
    · subst e
      rw [(hB.st.own (some k,o) (by simp) k rfl).2,ho]
    · exact hB.loc.block k hk1 fun hm=>by
        rw [hk] at hm
        rcases List.mem_append.1 hm with hm |hm
        · exact hk2 hm
        · simp at hm;exact e hm
  · refine ⟨Nat.lt_of_lt_of_le (h.lt0 k hk1) hB.loc.size, fun hm => ?_⟩
    by_cases e:k=b
    · subst e;exact hdis k hm k (by simp) rfl
    · exact(hB.st.dj k (mem_less.2 ⟨hk1,e⟩)).2 (by rw [hk];exact List.mem_append_left _ hm)
  · have := hB.new k (by rw [hk]; exact List.mem_append_left _ hk1)
    rw [hk] at this
    rcases this with h1 |h1
    · rcases List.mem_append.1 h1 with h1 | h1
      · exact .inl h1
      · simp at h1;subst h1;exact absurd rfl (hdis k hk1 k (by simp))
    · exact .inr h1
end less
/-! a function that calls itself, with two maps and what is behind them lent on -/
section sub
variable {α K1 V1 K2 V2 σ : Type} [DecidableEq K1] [Kord K1] [DecidableEq K2] [Kord K2] {P : Program} {q1 : Kk K1} {m1 : Mv V1} {q2 : Kk K2} {m2 : Mv V2} {S : Sx σ} {b1 b2 : Nat} {w w' : World} {O O' O0 : List Nat} {A : Vr α}
variable {f : α → List (K1 × V1) → List (K2 × V2) → σ → Option (Bool × List (K1 × V1) × List (K2 × V2) × σ)} {z : Zx} {L1 own bs : Ents} {fv : Value}
def SubS (P:Program) (q1:Kk K1) (m1:Mv V1) (q2:Kk K2) (m2:Mv V2) (S:Sx σ) (b1 b2:Nat) (w:World) (O:List Nat) (fv:Value) (A:Vr α) (f:α→List (K1 × V1)→List (K2 × V2)→σ→Option (Bool × List (K1 × V1) × List (K2 × V2) × σ)):Prop:=
  (∃k caps,fv=.func k #[] caps)∧∀(w1:World) (O1:List Nat) (o1 o2:Obj) (L1:Ents) (v:Value) (x:α) (d1:List (K1 × V1)) (d2:List (K2 × V2)) (s:σ) (r:Bool) (d1':List (K1 × V1)) (d2':List (K2 × V2)) (s':σ),
    Step O w (ks ((some b1,o1)::(some b2,o2)::L1) O1) w1→Lend w1 O1 ((some b1,o1)::(some b2,o2)::L1)→Mo q1 m1 o1 d1→Mo q2 m2 o2 d2→SxR S w1 (ks ((some b1,o1)::(some b2,o2)::L1) O1) L1 s→A.vd w1 (ks ((some b1,o1)::(some b2,o2)::L1) O1) v x→f x d1 d2 s=some (r,d1',d2',s')→
    FvTo P fv [v] w1 fun u w2=>∃o1' o2' L2,Back w1 ((some b1,o1)::(some b2,o2)::L1) w2 O1 ((some b1,o1')::(some b2,o2')::L2)∧Mo q1 m1 o1' d1'∧Mo q2 m2 o2' d2'∧SxR S w2 (ks ((some b1,o1')::(some b2,o2')::L2) O1) L2 s'∧u=.bool r
theorem SubS.step (h:SubS P q1 m1 q2 m2 S b1 b2 w O fv A f) (p:Step O w O' w'):SubS P q1 m1 q2 m2 S b1 b2 w' O' fv A f:=
  ⟨h.1,fun w1 O1 o1 o2 L1 v x d1 d2 s r d1' d2' s' p1=>h.2 w1 O1 o1 o2 L1 v x d1 d2 s r d1' d2' s' (p.trans p1)⟩
def rSbS (P:Program) (q1:Kk K1) (m1:Mv V1) (q2:Kk K2) (m2:Mv V2) (S:Sx σ) (b1 b2:Nat) (A:Vr α):Rp (α→List (K1 × V1)→List (K2 × V2)→σ→Option (Bool × List (K1 × V1) × List (K2 × V2) × σ)) where
  n:=1
  rd w O cs f:=∃v,cs=[v]∧SubS P q1 m1 q2 m2 S b1 b2 w O v A f
  len:=fun⟨_,h,_⟩=>by rw [h];rfl
  one:=fun⟨v,h,⟨k,caps,h2⟩,_⟩=>by subst h;subst h2;simp [Value.oneCell']
  step:=fun s ⟨v,h,h2⟩=>⟨v,h,h2.step s⟩
def vSbS (P:Program) (q1:Kk K1) (m1:Mv V1) (q2:Kk K2) (m2:Mv V2) (S:Sx σ) (b1 b2:Nat) (A:Vr α):Vr (α→List (K1 × V1)→List (K2 × V2)→σ→Option (Bool × List (K1 × V1) × List (K2 × V2) × σ)):=
  ⟨fun w O v f=>SubS P q1 m1 q2 m2 S b1 b2 w O v A f,fun s h=>h.step s⟩
theorem un_sbS {v:Value} (h:(rSbS P q1 m1 q2 m2 S b1 b2 A).rd w O [v] f):SubS P q1 m1 q2 m2 S b1 b2 w O v A f:=by obtain⟨v',h1,h2⟩:=h;cases h1;exact h2
theorem PtR.sbS {v:Value} {h1:v.oneCell'=true} {p:Addr} (h:PtR (rVal v h1) w O p ()) (hf:SubS P q1 m1 q2 m2 S b1 b2 w O v A f):PtR (rSbS P q1 m1 q2 m2 S b1 b2 A) w O p f:=by
  refine⟨h.spot,h.sh,?_⟩
  obtain⟨cs,e,fz,k1,k2,k3⟩:=h.cells
  exact⟨cs,e,fz,k1,k2,v,k3,hf⟩
def fix4 {α β γ δ ε:Type} (Φ:(α→β→γ→δ→Option ε)→α→β→γ→δ→Option ε):Nat→α→β→γ→δ→Option ε
  |0=>fun _ _ _ _=>none
  |n+1=>Φ (fix4 Φ n)
theorem SubS.fix {k:Go.Fn} {caps:Array Value} {Φ:(α→List (K1 × V1)→List (K2 × V2)→σ→Option (Bool × List (K1 × V1) × List (K2 × V2) × σ))→α→List (K1 × V1)→List (K2 × V2)→σ→Option (Bool × List (K1 × V1) × List (K2 × V2) × σ)}
    (h:∀f,SubS P q1 m1 q2 m2 S b1 b2 w O (.func k #[] caps) A f→SubS P q1 m1 q2 m2 S b1 b2 w O (.func k #[] caps) A (Φ f)):∀n,SubS P q1 m1 q2 m2 S b1 b2 w O (.func k #[] caps) A (fix4 Φ n)
  |0=>⟨⟨k,caps,rfl⟩,fun _ _ _ _ _ _ _ _ _ _ _ _ _ _ _ _ _ _ _ _ hf=>by cases hf⟩
  |n+1=>h _ (SubS.fix h n)
theorem op_callS {r:Option Nat} {ρ:Env} {d:Option Nat} {ty:TypeId} {pos:String} {aft:Array Edge} {g:Option (Nat × Bool)} {Vv:Value→World→Prop} {x:Operand} {args:Array Operand} {us:Array TypeId} {o1 o2:Obj} {v:Value} {a:α} {d1 d1':List (K1 × V1)} {d2 d2':List (K2 × V2)} {s s':σ} {rr:Bool}
    (own L1:Ents) (hs:St z O0 w (own++((some b1,o1)::(some b2,o2)::L1))) (hx:ev ρ x=fv) (ha:args.toList.map (ev ρ)=[v]) (hf:SubS P q1 m1 q2 m2 S b1 b2 w (ks (own++((some b1,o1)::(some b2,o2)::L1)) O0) fv A f) (hM1:Mo q1 m1 o1 d1) (hM2:Mo q2 m2 o2 d2)
    (hS:SxR S w (ks (own++((some b1,o1)::(some b2,o2)::L1)) O0) L1 s) (hv:A.vd w (ks (own++((some b1,o1)::(some b2,o2)::L1)) O0) v a) (hm:f a d1 d2 s=some (rr,d1',d2',s'))
    (k:∀w' o1' o2' L2,Step (ks (own++((some b1,o1)::(some b2,o2)::L1)) O0) w (ks (own++((some b1,o1')::(some b2,o2')::L2)) O0) w'→St z O0 w' (own++((some b1,o1')::(some b2,o2')::L2))→Mo q1 m1 o1' d1'→Mo q2 m2 o2' d2'→SxR S w' (ks (own++((some b1,o1')::(some b2,o2')::L2)) O0) L2 s'→Vv (.bool rr) w'):
    Run1 P r ρ w ⟨d,.call ⟨.value x,args,us⟩,ty,pos,aft,g⟩ Vv:=by
  refine op_callF hx (hf.2 w (ks own O0) o1 o2 L1 v a d1 d2 s rr d1' d2' s' Step.comm1 hs.lendT hM1 hM2 (hS.step Step.comm1) (A.step Step.comm1 hv) hm) ha ?_
  rintro u w' ⟨o1',o2',L2,hB,k1,k2,k3,rfl⟩
  obtain⟨h1,h2⟩:=hs.backT hB
  exact k w' o1' o2' L2 h2 h1 k1 k2 (k3.step Step.comm2)
end sub
/-! m[k] += x where the order is drawn: the entry may be made before the element is looked up -/
section dw
variable {K V : Type} [DecidableEq K] [Kord K]
def TM (q:Kk K) (m:Mv V) (n:K) (mp':List (K × V)) (z0:Zx) (O0:List Nat) (bs:Ents) (i b kx:Nat):Go1 (Option (Obj × Int)) where
  dn g:=match g with |none=>[] |some _=>[kx]
  inv w g:=match g with
    |none=>St z0 O0 w bs
    |some p=>St z0 O0 w (bs.set i (some b,p.1))∧Mo q m p.1 mp'∧Stm p.1 q n p.2
  le w g w' g':=(∀p,g=some p→g'=some p)∧Step (ks (match g with |none=>bs |some p=>bs.set i (some b,p.1)) O0) w (ks (match g' with |none=>bs |some p=>bs.set i (some b,p.1)) O0) w'
  refl w g:=⟨fun _ h=>h,Step.refl _ _⟩
  trans:=fun⟨h1,h2⟩ ⟨h1',h2'⟩=>⟨fun p h=>h1' p (h1 p h),h2.trans h2'⟩
  drew w g h:=by
    cases g with
    |none=>exact⟨h.call (Ext.drew w),fun _ h=>h,Step.ext (Ext.drew w)⟩
    |some p=>exact⟨⟨h.1.call (Ext.drew w),h.2⟩,fun _ h=>h,Step.ext (Ext.drew w)⟩
variable {q : Kk K} {m : Mv V} {n : K} {mp' : List (K × V)} {z0 : Zx} {O0 : List Nat} {bs : Ents} {i b kx : Nat} {w : World}
theorem TM_inv (h:St z0 O0 w bs):(TM q m n mp' z0 O0 bs i b kx).inv w none:=h
abbrev VE (m:Mv V) (v0:V):VR (Option (Obj × Int)):=fun v w g=>∃p,g=some p∧v=.tuple [m.enc v0,.int .i64 p.2].toArray
abbrev VE1:VR (Option (Obj × Int)):=fun v w g=>∃p:Obj × Int,g=some p∧v=.int .i64 p.2
theorem VE.stab (v0:V):Stab (TM q m n mp' z0 O0 bs i b kx) (VE m v0):=fun _ _ _ _ _ h ⟨p,h1,h2⟩=>⟨p,h.1 p h1,h2⟩
theorem VE1.stab:Stab (TM q m n mp' z0 O0 bs i b kx) VE1:=fun _ _ _ _ _ h ⟨p,h1,h2⟩=>⟨p,h.1 p h1,h2⟩
theorem GoesM.made {V:VR (Option (Obj × Int))} {w':World} {o':Obj} {s:Int} {v:Value} (h1:Step (ks bs O0) w (ks (bs.set i (some b,o')) O0) w') (h2:St z0 O0 w' (bs.set i (some b,o'))) (h3:Mo q m o' mp') (h4:Stm o' q n s) (hv:V v w' (some (o',s))):
    Goes (TM q m n mp' z0 O0 bs i b kx) w none V kx v w':=⟨some (o',s),⟨h2,h3,h4⟩,⟨(fun _ h=>by cases h),h1⟩,hv,fun k h=>.inr (by have h':k∈[kx]:=h;simpa using h')⟩
theorem GoesM.same {V:VR (Option (Obj × Int))} {g:Option (Obj × Int)} {v:Value} {k:Nat} (hi:(TM q m n mp' z0 O0 bs i b kx).inv w g) (hv:V v w g):Goes (TM q m n mp' z0 O0 bs i b kx) w g V k v w:=⟨g,hi,(TM q m n mp' z0 O0 bs i b kx).refl _ _,hv,fun _ h=>.inl h⟩
theorem mput_again {l:List (K × V)} {n:K} {v0:V} (z:V):(mget (mput l n v0) n).getD z=v0:=by rw [mget_put];simp
end dw
end Go.Fx
/- Sorting a slice of one's own by a function value (the kit's contract of slices.SortFunc, over my facts). No program in sight. -/
set_option linter.unusedSimpArgs false
set_option linter.unusedVariables false
namespace Go.Fx
open Go Go.RowKit Go.Shelf Go.Proofs
section sortm
variable {α : Type}
def ltM (cmp:α→α→Option Int) (x y:α):Bool:=match cmp x y with |some n=>decide (n<0) |none=>false
def okSort [DecidableEq α] (cmp:α→α→Option Int) (xs:List α):Bool:=
  xs.all fun x=>!ltM cmp x x&&xs.all fun y=>(cmp x y).isSome&&(ltM cmp x y||ltM cmp y x||decide (x=y))&&xs.all fun z=>!(ltM cmp x y&&ltM cmp y z)||ltM cmp x z
def insM (lt:α→α→Bool) (x:α):List α→List α
  |[] =>[x]
  |y::t=>bif lt x y then x::y::t else y::insM lt x t
def isortM (lt:α→α→Bool) (xs:List α):List α:=xs.foldr (insM lt) []
def sortM [DecidableEq α] (cmp:α→α→Option Int) (xs:List α):Option (List α):=bif okSort cmp xs then some (isortM (ltM cmp) xs) else none
theorem insM_perm (lt:α→α→Bool) (x:α):∀l,(insM lt x l).Perm (x::l)
  |[] =>List.Perm.refl _
  |y::t=>by
    unfold insM
    cases lt x y
    · exact((insM_perm lt x t).cons y).trans (List.Perm.swap x y t)
    · exact List.Perm.refl _
theorem isortM_perm (lt:α→α→Bool):∀l:List α,(isortM lt l).Perm l
  |[] =>List.Perm.refl _
  |x::t=>(insM_perm lt x _).trans ((isortM_perm lt t).cons x)
structure TotalOn (lt:α→α→Bool) (xs:List α):Prop where
  irr:∀x∈xs,lt x x=false
  tot:∀x∈xs,∀y∈xs,lt x y=false→lt y x=false→x=y
  tr:∀x∈xs,∀y∈xs,∀z∈xs,lt x y=true→lt y z=true→lt x z=true
theorem okSort_iff [DecidableEq α] {cmp:α→α→Option Int} {xs:List α} :okSort cmp xs=true ↔ TotalOn (ltM cmp) xs∧∀x∈xs,∀y∈xs,∃n,cmp x y=some n:=by
  unfold okSort
  simp only [List.all_eq_true,Bool.and_eq_true,Bool.or_eq_true,Bool.not_eq_true',decide_eq_true_eq,Option.isSome_iff_exists]
  constructor
  · intro h
    refine⟨⟨fun x hx=>(h x hx).1,fun x hx y hy h1 h2=>?_,fun x hx y hy z hz h1 h2=>?_⟩,fun x hx y hy=>((h x hx).2 y hy).1.1⟩
    · rcases ((h x hx).2 y hy).1.2 with (h3 | h3) | h3
      · rw [h1] at h3;cases h3
      · rw [h2] at h3;cases h3
      · exact h3
    · rcases ((h x hx).2 y hy).2 z hz with h3 | h3
      · rw [h1,h2] at h3;cases h3
      · exact h3
  · rintro ⟨⟨h1, h2, h3⟩, h4⟩ x hx
    refine⟨h1 x hx,fun y hy=>⟨⟨h4 x hx y hy,?_⟩,fun z hz=>?_⟩⟩
    · cases h5 : ltM cmp x y
      · cases h6 : ltM cmp y x
        · exact .inr (h2 x hx y hy h5 h6)
        · exact .inl (.inr rfl)
      · exact .inl (.inl rfl)
    · cases h5 : ltM cmp x y
      · exact .inl rfl
      · cases h6 : ltM cmp y z
        · exact .inl rfl
        · exact .inr (h3 x hx y hy z hz h5 h6)
theorem TotalOn.ntrans {lt:α→α→Bool} {xs:List α} (T:TotalOn lt xs) {x y z:α} (hx:x∈xs) (hy:y∈xs) (hz:z∈xs) (h1:lt x y=false) (h2:lt y z=false):lt x z=false:=by
  cases h3:lt x z
  · rfl
  · cases h4 : lt y x
    · have:=T.tot x hx y hy h1 h4;subst this;rw [h3] at h2;cases h2
    · have:=T.tr y hy x hx z hz h4 h3;rw [this] at h2;cases h2
theorem insM_sorted {lt:α→α→Bool} {xs:List α} (T:TotalOn lt xs) {x:α} (hx:x∈xs):∀l:List α,(∀y∈l,y∈xs)→l.Pairwise (fun a b=>lt b a=false)→(insM lt x l).Pairwise (fun a b=>lt b a=false)
  |[],_,_=>by simp [insM]
  |y::t,hl,hp=>by
    unfold insM
    have hy:=hl y (by simp)
    cases h:lt x y
    · rw [cond_false, List.pairwise_cons]
      have hp':=List.pairwise_cons.1 hp
      refine⟨fun z hz=>?_,insM_sorted T hx t (fun z hz=>hl z (by simp [hz])) hp'.2⟩
      rcases List.mem_cons.1 ((insM_perm lt x t).mem_iff.1 hz) with e |hz
      · subst e;exact h
      · exact hp'.1 z hz
    · rw [cond_true, List.pairwise_cons]
      refine⟨fun z hz=>?_,hp⟩
      have hyx:lt y x=false:=by
        cases h':lt y x
        · rfl
        · have:=T.tr x hx y hy x hx h h';rw [T.irr x hx] at this;cases this
      rcases List.mem_cons.1 hz with e |hz'
      · subst e;exact hyx
      · exact T.ntrans (hl z (by simp [hz'])) hy hx ((List.pairwise_cons.1 hp).1 z hz') hyx
theorem isortM_sorted {lt:α→α→Bool} {xs:List α} (T:TotalOn lt xs):∀l:List α,(∀y∈l,y∈xs)→(isortM lt l).Pairwise (fun a b=>lt b a=false)
  |[],_=>by simp [isortM]
  |x::t,hl=>insM_sorted T (hl x (by simp)) _ (fun y hy=>hl y (by simp [(isortM_perm lt t).mem_iff.1 hy])) (isortM_sorted T t fun y hy=>hl y (by simp [hy]))
theorem isortM_unique {lt:α→α→Bool} {xs ys:List α} (T:TotalOn lt xs) (hp:ys.Perm xs) (hs:ys.Pairwise (fun a b=>lt b a=false)):ys=isortM lt xs:=by
  refine List.Perm.eq_of_pairwise (le:=fun x y=>(!lt y x)=true) ?_ ?_ ?_ (hp.trans (isortM_perm lt xs).symm)
  · intro a b ha hb h1 h2
    simp only [Bool.not_eq_true'] at h1 h2
    exact T.tot a (hp.mem_iff.1 ha) b (by simpa [(isortM_perm lt xs).mem_iff] using hb) h2 h1
  · exact hs.imp (by simp)
  · exact(isortM_sorted T xs fun _ h=>h).imp (by simp)
theorem sortM_len [DecidableEq α] {cmp:α→α→Option Int} {xs ys:List α} (h:sortM cmp xs=some ys):ys.length=xs.length:=by
  unfold sortM at h
  cases he:okSort cmp xs
  · rw [he] at h;cases h
  · rw [he] at h;rw [← Option.some.inj h];exact(isortM_perm _ _).length_eq
end sortm

theorem Ext.grow {w w':World} (h:Ext w w'):∃q os,w'=Go.Sort.grow (w.drewN q) os:=by
  refine⟨w'.drawn - w.drawn,w'.heap.extract w.heap.size w'.heap.size,?_⟩
  obtain⟨h1,h2,h3,h4,h5,h6⟩:=h
  cases w with |mk heap tape drawn os output=>cases w' with |mk heap' tape' drawn' os' output'=>
  simp only at h1 h2 h3 h4 h5 h6
  subst h1;subst h2;subst h3
  simp only [Go.Sort.grow,World.drewN,World.mk.injEq,true_and,and_true]
  refine⟨?_,by omega⟩
  apply Array.ext_getElem?
  intro k
  by_cases hk:k<heap.size
  · rw [Array.getElem?_append_left hk,h5 k hk]
  · rw [Array.getElem?_append_right (by omega), Array.getElem?_extract]
    by_cases hk':k<heap'.size
    · rw [if_pos (by omega)];congr 1;omega
    · rw [if_neg (by omega),Array.getElem?_eq_none (by omega)]

section
variable {α : Type} {q : Rp α} {w w' : World} {O : List Nat}
theorem Els.one1 (hq:q.n=1):∀{cs:List Value} {xs:List α},Els q w O cs xs→cs.length=xs.length∧∀j (h1:j<cs.length) (h2:j<xs.length),q.rd w O [cs[j]] xs[j]:=by
  intro cs xs h
  have hl:cs.length=xs.length:=by rw [h.len,hq,Nat.mul_one]
  refine⟨hl,fun j h1 h2=>?_⟩
  have:=h.get j h2
  rw [hq,Nat.mul_one] at this
  rw [show [cs[j]] =(cs.drop j).take 1 from by rw [List.drop_eq_getElem_cons h1];rfl]
  exact this
end

theorem Fn.of_calls {P:Program} {f:FuncId} {args:List Value} {w:World} {R:Value→World→Prop} (h:Calls P f args.toArray w fun e w'=>∃v,e=.returned v∧R v w'):Fn P f args w R:=by
  unfold Fn;rw [FW_none];exact callsIn_wide.2 h
section op
variable {P : Program} {r : Option Nat} {ρ : Env} {w : World} {z : Zx} {O0 : List Nat} {bs : Ents} {V : Value → World → Prop} {d : Option Nat} {ty : TypeId} {pos : String} {aft : Array Edge} {g : Option (Nat × Bool)}
variable {α : Type} [DecidableEq α] {q : Rp α}
end op
end Go.Fx
/-
  DERIVED: THE SHELF's CONTRACTS AT THIS DUMP, IN PLAIN WORDS (tools/lay-plain.mjs out of 'FxYtijekcoafilmeaaSort.lean', which tools/lay-shelf.mjs wrote): THE SAME DECLARATIONS UNDER THE SAME NAMES: 'import', 'namespace', 'open', 'def', 'theorem' AND NOTHING ELSE: no command of the shelf's: FOR A HAND-IN. Each laying: the table of numbers ('.._ren') and one theorem, a field a fact of the dump's own or the kernel's comparison; each contract: ONE APPLICATION.
-/
namespace Go.Proofs
open Go.Shelf
def sortL68_ren : Go.Shelf.Ren := ⟨fun | 6 => 68 | 15 => 83 | 14 => 82 | 28 => 98 | 29 => 99 | 20 => 90 | 21 => 91 | 22 => 92 | 23 => 93 | 24 => 94 | 25 => 95 | 26 => 96 | 27 => 97 | 46 => 101 | 47 => 102 | 48 => 103 | 49 => 104 | 50 => 105 | 57 => 106 | n => n, fun | 22 => 32 | 24 => 45 | 25 => 104 | 3 => 3 | 39 => 123 | 0 => 0 | 53 => 133 | 55 => 136 | 4 => 4 | 46 => 143 | 45 => 142 | 50 => 147 | 5 => 5 | 9 => 9 | 66 => 152 | 70 => 156 | 76 => 158 | 77 => 159 | n => n, fun | n => n⟩
theorem sortL68 : Go.Proofs.SlLaysF0.n6 Try.prog sortL68_ren := {
  mixed := by kernel_rfl
  f6 := ⟨Try.f68.name, by decide, Try.func68.trans (congrArg some (by kernel_rfl))⟩
  f14 := ⟨Try.f82.name, by decide, Try.func82.trans (congrArg some (by kernel_rfl))⟩
  f15 := Try.func83.trans (congrArg some (by kernel_rfl))
  f20 := ⟨Try.f90.name, by decide, Try.func90.trans (congrArg some (by kernel_rfl))⟩
  f21 := ⟨Try.f91.name, by decide, Try.func91.trans (congrArg some (by kernel_rfl))⟩
  f22 := ⟨Try.f92.name, by decide, Try.func92.trans (congrArg some (by kernel_rfl))⟩
  f23 := ⟨Try.f93.name, by decide, Try.func93.trans (congrArg some (by kernel_rfl))⟩
  f24 := ⟨Try.f94.name, by decide, Try.func94.trans (congrArg some (by kernel_rfl))⟩
  f25 := ⟨Try.f95.name, by decide, Try.func95.trans (congrArg some (by kernel_rfl))⟩
  f26 := ⟨Try.f96.name, by decide, Try.func96.trans (congrArg some (by kernel_rfl))⟩
  f27 := ⟨Try.f97.name, by decide, Try.func97.trans (congrArg some (by kernel_rfl))⟩
  f28 := Try.func98.trans (congrArg some (by kernel_rfl))
  f29 := Try.func99.trans (congrArg some (by kernel_rfl))
  f46 := ⟨Try.f101.name, by decide, Try.func101.trans (congrArg some (by kernel_rfl))⟩
  f47 := Try.func102.trans (congrArg some (by kernel_rfl))
  f48 := Try.func103.trans (congrArg some (by kernel_rfl))
  f49 := ⟨Try.f104.name, by decide, Try.func104.trans (congrArg some (by kernel_rfl))⟩
  f50 := ⟨Try.f105.name, by decide, Try.func105.trans (congrArg some (by kernel_rfl))⟩
  f57 := ⟨Try.f106.name, by decide, Try.func106.trans (congrArg some (by kernel_rfl))⟩
  t0 := Try.underlying0
  a0 := Try.isAgg0
  z0 := Try.sizeOf0
  v0 := Try.zeroValue0
  t3 := Try.underlying3
  a3 := Try.isAgg3
  z3 := Try.sizeOf3
  v3 := Try.zeroValue3
  t4 := Try.underlying4
  a4 := Try.isAgg4
  z4 := Try.sizeOf4
  v4 := Try.zeroValue4
  t5 := Try.underlying5
  a5 := Try.isAgg5
  z5 := Try.sizeOf5
  v5 := Try.zeroValue5
  t9 := Try.underlying9
  a9 := Try.isAgg9
  z9 := Try.sizeOf9
  v9 := Try.zeroValue9
  t22 := Try.underlying32
  a22 := Try.isAgg32
  z22 := Try.sizeOf32
  v22 := Try.zeroValue32
  t25 := Try.underlying104
  a25 := Try.isAgg104
  z25 := Try.sizeOf104
  v25 := Try.zeroValue104
  t39 := Try.underlying123
  a39 := Try.isAgg123
  z39 := Try.sizeOf123
  v39 := Try.zeroValue123
  t45 := Try.underlying142
  a45 := Try.isAgg142
  z45 := Try.sizeOf142
  v45 := Try.zeroValue142
  t46 := Try.underlying143
  a46 := Try.isAgg143
  z46 := Try.sizeOf143
  v46 := Try.zeroValue143
  t50 := Try.underlying147
  a50 := Try.isAgg147
  z50 := Try.sizeOf147
  v50 := Try.zeroValue147
  t53 := Try.underlying133
  a53 := Try.isAgg133
  z53 := Try.sizeOf133
  v53 := Try.zeroValue133
  t55 := Try.underlying136
  a55 := Try.isAgg136
  z55 := Try.sizeOf136
  v55 := Try.zeroValue136
  t66 := Try.underlying152
  a66 := Try.isAgg152
  z66 := Try.sizeOf152
  v66 := Try.zeroValue152
  t70 := Try.underlying156
  a70 := Try.isAgg156
  z70 := Try.sizeOf156
  v70 := Try.zeroValue156
  t76 := Try.underlying158
  a76 := Try.isAgg158
  z76 := Try.sizeOf158
  v76 := Try.zeroValue158
  t77 := Try.underlying159
  a77 := Try.isAgg159
  z77 := Try.sizeOf159
  v77 := Try.zeroValue159 }
end Go.Proofs
/- Sorting a slice of one's own of structs by a function value (the kit's contract of slices.SortFunc at elements of several cells, over my facts). No program in sight. -/
set_option linter.unusedSimpArgs false
set_option linter.unusedVariables false
namespace Go.Fx
open Go Go.RowKit Go.Shelf Go.Proofs Go.Sort
theorem flatMap_get {β:Type} {enc:β→List Value} {k:Nat} (hk:∀x,(enc x).length=k):∀(l:List β) (t:Nat),t<l.length*k→(l.flatMap enc)[t]?=(l[t / k]?).bind fun x=>(enc x)[t % k]?
  |[],t,h=>by simp at h
  |x::l,t,h=>by
    have k0 : 0 < k := by rcases Nat.eq_zero_or_pos k with e | e; · subst e; simp at h
                          · exact e
    rw [List.flatMap_cons]
    by_cases ht:t<k
    · rw [List.getElem?_append_left (by rw [hk];exact ht),Nat.div_eq_of_lt ht,Nat.mod_eq_of_lt ht];rfl
    · have e1 : t / k = (t - k) / k + 1 := by rw [← Nat.add_div_right _ k0]; congr 1; omega
      have e2:t % k=(t - k) % k:=by rw [Nat.mod_eq_sub_mod (by omega)]
      rw [List.getElem?_append_right (by rw [hk];omega),hk,e1,e2,List.getElem?_cons_succ]
      refine flatMap_get hk l (t - k) ?_
      rw [List.length_cons,Nat.add_mul,Nat.one_mul] at h;omega
theorem flatMap_len {β:Type} {enc:β→List Value} {k:Nat} (hk:∀x,(enc x).length=k):∀(l:List β),(l.flatMap enc).length=l.length*k
  |[] =>by simp
  |x::l=>by rw [List.flatMap_cons,List.length_append,hk,flatMap_len hk l,List.length_cons,Nat.add_mul,Nat.one_mul,Nat.add_comm]
theorem flatK_list {β:Type} [Inhabited β] {enc:β→List Value} {k:Nat} (hk:∀x,(enc x).length=k) (d:Array β):(flatK enc k d).toList=d.toList.flatMap enc:=by
  apply List.ext_getElem?
  intro t
  by_cases h:t<d.size*k
  · have k0 : 0 < k := by rcases Nat.eq_zero_or_pos k with e | e; · subst e; simp at h
                          · exact e
    rw [flatMap_get hk _ t (by simpa using h)]
    have hq:t / k<d.size:=Nat.div_lt_of_lt_mul (by rwa [Nat.mul_comm] at h)
    have hm:t % k<k:=Nat.mod_lt _ k0
    have e1:d.toList[t / k]?=some d[t / k]:=by simp [hq]
    have e2:(enc d[t / k])[t % k]?=some ((enc d[t / k])[t % k]'(by rw [hk];exact hm)):=List.getElem?_eq_getElem _
    rw [e1,Option.bind_some,e2,Array.getElem?_toList,Array.getElem?_eq_getElem (by rw [size_flatK];exact h)]
    have:=get_flatK enc k d t h
    rw [getElem!_pos (flatK enc k d) t (by simpa using h),getElem!_pos d (t / k) hq,getElem!_pos (enc d[t / k]) (t % k) (by rw [hk];exact hm)] at this
    rw [this]
  · rw [List.getElem?_eq_none (by simpa using h),List.getElem?_eq_none (by rw [flatMap_len hk];simpa using h)]
section
variable {α : Type} {q : Rp α} {w w' : World} {O : List Nat}
abbrev SdK (q:Rp α) (w:World) (O:List Nat) (xs:List α):={p:List Value × α // q.rd w O p.1 p.2∧p.2∈xs}
theorem els_pairs {xs0:List α} :∀{cs:List Value} {xs:List α},Els q w O cs xs→(∀x∈xs,x∈xs0)→∃D:List (SdK q w O xs0),D.flatMap (fun p=>p.1.1)=cs∧D.map (fun p=>p.1.2)=xs
  |cs,[],h,_=>⟨[],h.symm,rfl⟩
  |cs,x::xs,⟨v1,v2,h1,h2,h3⟩,hx=>by
    obtain⟨D,e1,e2⟩:=els_pairs h3 fun y hy=>hx y (List.mem_cons_of_mem _ hy)
    exact⟨⟨(v1,x),h2,hx x List.mem_cons_self⟩::D,by rw [List.flatMap_cons,e1,h1],by rw [List.map_cons,e2]⟩
theorem pairs_els {xs0:List α} {O':List Nat} (s:∀cs x,q.rd w O cs x→q.rd w' O' cs x):∀D:List (SdK q w O xs0),Els q w' O' (D.flatMap fun p=>p.1.1) (D.map fun p=>p.1.2)
  |[] =>rfl
  |p::D=>⟨p.1.1,D.flatMap fun p=>p.1.1,by rw [List.flatMap_cons],s _ _ p.2.1,pairs_els s D⟩
end
section op
variable {P : Program} {r : Option Nat} {ρ : Env} {w : World} {z : Zx} {O0 : List Nat} {bs : Ents} {V : Value → World → Prop} {d : Option Nat} {ty : TypeId} {pos : String} {aft : Array Edge} {g : Option (Nat × Bool)}
variable {α : Type} [DecidableEq α] {q : Rp α}
theorem putCells_take {F cur:Array Value} {m:Nat} (hF:F.size=m) (hm:m≤cur.size):(Go.Sort.putCells id 0 F cur).toList.take m=F.toList:=by
  subst hF
  apply List.ext_getElem
  · simp [Go.Sort.putCells];omega
  · intro j h1 h2
    have hj:j<F.size:=by simpa using h2
    simp only [List.getElem_take,Array.getElem_toList,Go.Sort.putCells,Array.getElem_mapIdx,Nat.zero_le,Nat.zero_add,true_and,Nat.sub_zero]
    rw [if_pos hj,getElem!_pos F j hj];rfl
theorem sort_fnK {ρs:Ren} (L:SlLaysF0.n6 P ρs) {k:Nat} (hq:q.n=k) (aE:∀w,(isAgg (ρs.t 24)).run P w=.ok true w) (zE:∀w,(Go.sizeOf (ρs.t 24)).run P w=.ok k w) {e:TypeId} {f:Nat} {caps:Array Value}
    (hf:∀(args:Array Value) (w:World),(callFunc f args).run P w=.ok (.enter f args) w) (hs:St z O0 w bs) {i c:Nat} {kk:Option Nat} {o:Obj} {a:Option Addr} {xs ys:List α} (hi:bs[i]?=some (kk,o)) (gs:Gs q e w (ks bs O0) a c xs kk o)
    {cmp:α→α→Option Int} (hF:CallsTo2 P w (ks bs O0) (.func (.func f) #[] caps) (vA q) (vA q) (vI .i64) cmp) (hm:sortM cmp xs=some ys) (hsz:xs.length<4611686018427387904):
    Fn P (ρs.f 6) [.slice a xs.length c,.func (.func f) #[] caps] w fun v w'=>v=.tuple #[]∧∃o',St z O0 w' (bs.set i (kk,o'))∧Step (ks bs O0) w (ks (bs.set i (kk,o')) O0) w'∧Gs q e w' (ks (bs.set i (kk,o')) O0) a c ys kk o':=by
  subst hq
  have hok:okSort cmp xs=true:=by
    unfold sortM at hm;cases h:okSort cmp xs
    · rw [h] at hm;cases hm
    · rfl
  have hys:ys=isortM (ltM cmp) xs:=by unfold sortM at hm;rw [hok] at hm;exact(Option.some.inj hm).symm
  obtain⟨T,htot⟩:=okSort_iff.1 hok
  have hset:bs.set i (kk,o)=bs:=by
    obtain⟨h,e⟩:=List.getElem?_eq_some_iff.1 hi
    rw [← e,List.set_getElem_self]
  by_cases hx0:xs=[]
  · subst hx0
    have he:ys=[]:=hys
    subst he
    have:=AnyF.slices_SortFunc_none (P:=P) (ρ:=ρs) L a c (.func (.func f) #[] caps) w
    refine Fn.mono (R:=fun v w'=>v=.tuple #[]∧w'=w) (Fn.of_calls (Calls.mono this ?_)) ?_
    · rintro e w' ⟨rfl,rfl⟩;exact⟨_,rfl,rfl,rfl⟩
    · rintro v w' ⟨rfl, rfl⟩
      exact⟨rfl,o,by rw [hset];exact⟨hs,Step.refl _ _,gs⟩⟩
  · rcases gs with ⟨_, _, h, _⟩ | ⟨bl, cur, rfl, rfl, rfl, g4, g5, g6, g7⟩
    · exact absurd h hx0
    obtain⟨Dl,hD1,hD2⟩:=els_pairs g7 (xs0:=xs) fun x hx=>hx
    have hDlen:Dl.length=xs.length:=by have:=congrArg List.length hD2;simpa using this
    have hne:Dl≠[]:=fun e=>hx0 (by have:=hDlen;rw [e] at this;exact List.length_eq_zero_iff.1 this.symm)
    letI:Inhabited (SdK q w (ks bs O0) xs):=⟨Dl.head hne⟩
    obtain⟨D,hD⟩:∃D:Array (SdK q w (ks bs O0) xs),D=Dl.toArray:=⟨_,rfl⟩
    have hDs:D.size=xs.length:=by rw [hD];simpa using hDlen
    obtain⟨enc,henc⟩:∃enc:SdK q w (ks bs O0) xs→List Value,enc=fun p=>p.1.1:=⟨_,rfl⟩
    have hkl:∀p,(enc p).length=q.n:=fun p=>by rw [henc];exact q.len p.2.1
    obtain⟨cf,hcf⟩:∃cf:SdK q w (ks bs O0) xs→SdK q w (ks bs O0) xs→Int,cf=fun p p'=>(cmp p.1.2 p'.1.2).getD 0:=⟨_,rfl⟩
    have hlt:∀p p',ltOf cf p p'=ltM cmp p.1.2 p'.1.2:=fun p p'=>by
      unfold ltOf ltM;rw [hcf]
      obtain⟨n,hn⟩:=htot p.1.2 p.2.2 p'.1.2 p'.2.2
      simp [hn]
    have hO:Go.Sort.SWO (ltOf cf):=⟨fun p=>by rw [hlt];exact T.irr _ p.2.2,fun p p' p'' k1 k2=>by rw [hlt] at*;exact T.tr _ p.2.2 _ p'.2.2 _ p''.2.2 k1 k2,fun p p' p'' k1 k2=>by rw [hlt] at*;exact T.ntrans p.2.2 p'.2.2 p''.2.2 k1 k2⟩
    have hbl:=hs.get hi
    have hblk:bl<w.heap.size:=hs.lt (List.mem_of_getElem? hi) rfl
    have hmul:xs.length*q.n≤cur.size:=by rw [g4];exact Nat.mul_le_mul_right _ g5
    have hfl:(flatK enc q.n D).toList=cur.toList.take (xs.length*q.n):=by rw [flatK_list hkl,hD,henc];exact hD1
    have hH:HoldsK enc q.n w bl 0 D:=by
      intro j hj
      rw [size_flatK,hDs] at hj
      have e0:(flatK enc q.n D).toList[j]?=(cur.toList.take (xs.length*q.n))[j]?:=by rw [hfl]
      have e1:(flatK enc q.n D)[j]! =cur[j]'(by omega):=by
        rw [getElem!_pos (flatK enc q.n D) j (by rw [size_flatK,hDs];exact hj)]
        rw [Array.getElem?_toList,Array.getElem?_eq_getElem (by rw [size_flatK,hDs];exact hj),List.getElem?_take,if_pos hj,Array.getElem?_toList,Array.getElem?_eq_getElem (by omega)] at e0
        exact Option.some.inj e0
      rw [e1]
      constructor
      · simp only [World.cell?,hbl,Nat.zero_add,id];simp [show j<cur.size by omega]
      · simp only [World.frozen?,hbl];simp
    have hrow:∀(m:Nat) (os:Array Obj) (dk:Array (SdK q w (ks bs O0) xs)),dk.size=D.size→
        Loc [bl] w (sortWorldK enc q.n w bl 0 m dk os)∧(sortWorldK enc q.n w bl 0 m dk os).heap[bl]?=some (.cells (Go.Sort.putCells id 0 (flatK enc q.n dk) cur) e (0,0)):=by
      intro m os dk hdk
      have hsz':(Go.Sort.mapBlock (Go.Sort.ahead w m) bl (Go.Sort.putCells id 0 (flatK enc q.n dk))).heap.size=w.heap.size:=by simp [Go.Sort.mapBlock,Go.Sort.ahead]
      constructor
      · refine ⟨rfl, rfl, rfl, ?_, fun k hk hn => ?_, ?_⟩
        · simp only [sortWorldK,putRowK,Go.Sort.grow,Go.Sort.putRow,Array.size_append,hsz'];omega
        · simp only [sortWorldK, putRowK, Go.Sort.grow, Go.Sort.putRow]
          rw [Array.getElem?_append_left (by rw [hsz'];exact hk)]
          simp only [Go.Sort.mapBlock,Go.Sort.ahead,Array.getElem?_modify]
          have: ¬bl=k:=fun e=>hn (by simp [e])
          simp [this]
        · simp only [sortWorldK,putRowK,Go.Sort.grow,Go.Sort.putRow,Go.Sort.mapBlock,Go.Sort.ahead];omega
      · simp only [sortWorldK, putRowK, Go.Sort.grow, Go.Sort.putRow]
        rw [Array.getElem?_append_left (by rw [hsz'];exact hblk)]
        simp only [Go.Sort.mapBlock,Go.Sort.ahead,Array.getElem?_modify,if_true,hbl,Option.map_some,Go.Sort.onCells]
    have hkey:bl∈ks bs O0:=mem_ks.2 (.inl (mem_keys.2 ⟨_,List.mem_of_getElem? hi,rfl⟩))
    have hcmp:CmpLays P f caps enc q.n cf bl 0 D.size w:=by
      intro m os dk hdk p p'
      obtain⟨hl1,hl2⟩:=hrow m os dk hdk
      have hst:Step (ks bs O0) w (ks bs O0) (sortWorldK enc q.n w bl 0 m dk os):=Step.of_loc hl1 (by rintro k hk;simp at hk;subst hk;exact hkey) fun k hk=>.inl hk
      obtain⟨n,hn⟩:=htot p.1.2 p.2.2 p'.1.2 p'.2.2
      have:=hF _ _ hst (fun k hk=>Nat.lt_of_lt_of_le (hs.ltw k hk) hl1.size) (.agg p.1.1.toArray) (.agg p'.1.1.toArray) p.1.2 p'.1.2 n ⟨_,rfl,q.step hst p.2.1⟩ ⟨_,rfl,q.step hst p'.2.1⟩ hn
      obtain⟨f',first,cap,hv,_,hfn⟩:=this
      cases hv
      have hc:=hfn.calls
      refine Calls.mono ?_ ?_ (R:=fun e w'=>∃v,e=.returned v∧Ext (sortWorldK enc q.n w bl 0 m dk os) w'∧(vI .i64).vd w' (ks bs O0) v n)
      · have e1 : ((#[] : Array Value).toList ++ [Value.agg p.1.1.toArray, Value.agg p'.1.1.toArray] ++ caps.toList).toArray = #[Value.agg (enc p).toArray, Value.agg (enc p').toArray] ++ caps := by rw [henc]; apply Array.ext'; simp
        rw [e1] at hc;exact hc
      · rintro e w' ⟨v, rfl, hx, hv⟩
        refine⟨?_,hx.grow⟩
        have hv':v=.int .i64 n:=hv.1
        rw [hv',hcf];simp [hn]
    have:=AnyQ.slices_SortFunc (P:=P) (ρ:=ρs) L q.n aE zE enc hkl (fun p v hv=>by rw [henc] at hv;exact q.one p.2.1 v hv) cf hO f caps bl 0 c D w hf hcmp hH hblk (by rw [hDs];exact hsz)
    rw [hDs] at this
    refine Fn.of_calls (Calls.mono this ?_)
    rintro e' w' ⟨rfl,d',n,os,hp,hso,rfl⟩
    refine⟨_,rfl,rfl,.cells (Go.Sort.putCells id 0 (flatK enc q.n d') cur) e (0,0),?_⟩
    obtain⟨hd1,_,hd3⟩:=hp
    rw [hDs] at hd1
    obtain⟨hl1,hl2⟩:=hrow n os d' (by rw [hDs];exact hd1)
    have ho:∀j,j<w.heap.size→some bl≠some j→(sortWorldK enc q.n w bl 0 n d' os).heap[j]?=w.heap[j]?:=fun j hj hn=>hl1.block j hj (by simp;rintro rfl;exact hn rfl)
    have hb:=(hs.own _ (List.mem_of_getElem? hi) bl rfl).1
    have hst:Step (ks bs O0) w (ks (bs.set i (some bl,.cells (Go.Sort.putCells id 0 (flatK enc q.n d') cur) e (0,0))) O0) (sortWorldK enc q.n w bl 0 n d' os):=Step.put hi hl1.size (fun j hj=>.inl hj) ho
    refine⟨hs.put hi (hs.below.trans' hl1 (by rintro k hk;simp at hk;subst hk;exact hb)) hl1.size (fun j hj=>by cases hj;exact⟨.inl rfl,hl2⟩) ho,hst,?_⟩
    have hex:d'.extract 0 xs.length=d':=by rw [← hd1];exact Array.extract_size
    have hexD:D.extract 0 xs.length=D:=by rw [← hDs];exact Array.extract_size
    rw [hex,hexD] at hd3
    have hDl:D.toList.map (fun p=>p.1.2)=xs:=by rw [hD];exact hD2
    have hyl:d'.toList.map (fun p=>p.1.2)=ys:=by
      rw [hys]
      refine isortM_unique T ?_ ?_
      · have:=hd3.map (fun p:SdK q w (ks bs O0) xs=>p.1.2);rwa [hDl] at this
      · rw [List.pairwise_map, List.pairwise_iff_getElem]
        intro j k hj hk hjk
        have hj':j<d'.size:=by simpa using hj
        have hk':k<d'.size:=by simpa using hk
        have:=hso j k (Nat.zero_le _) hjk (by omega)
        rw [hlt,getElem!_pos d' k hk',getElem!_pos d' j hj'] at this
        simpa using this
    have hylen:ys.length=xs.length:=by rw [← hyl];simp [hd1]
    refine .inr ⟨bl,Go.Sort.putCells id 0 (flatK enc q.n d') cur,rfl,rfl,rfl,by simp [Go.Sort.putCells,g4],by omega,g6,?_⟩
    rw [hylen,putCells_take (by rw [size_flatK,hd1]) hmul,flatK_list hkl,← hyl]
    have:=pairs_els (fun cs x h=>q.step hst h) d'.toList
    have e9:d'.toList.flatMap enc=d'.toList.flatMap fun p=>p.1.1:=by rw [henc]
    rw [e9];exact this
theorem op_sortGK {ρs:Ren} {k:FuncId} (L:SlLaysF0.n6 P ρs) (hk:ρs.f 6=k) (hcall:∀(args:Array Value) (w:World),(callFunc k args).run P w=.ok (.enter k args) w) {n:Nat} (hq:q.n=n) (aE:∀w,(isAgg (ρs.t 24)).run P w=.ok true w) (zE:∀w,(Go.sizeOf (ρs.t 24)).run P w=.ok n w) {e:TypeId} {f:Nat} {caps:Array Value}
    (hf:∀(args:Array Value) (w:World),(callFunc f args).run P w=.ok (.enter f args) w) (hs:St z O0 w bs) {i c:Nat} {kk:Option Nat} {o:Obj} {a:Option Addr} {xs ys:List α} (hi:bs[i]?=some (kk,o)) (gs:Gs q e w (ks bs O0) a c xs kk o)
    {cmp:α→α→Option Int} (hF:CallsTo2 P w (ks bs O0) (.func (.func f) #[] caps) (vA q) (vA q) (vI .i64) cmp) (hm:sortM cmp xs=some ys) (hsz:xs.length<4611686018427387904)
    {args:Array Operand} {us:Array TypeId} (ha:args.toList.map (ev ρ)=[.slice a xs.length c,.func (.func f) #[] caps])
    (kont:∀w' o',St z O0 w' (bs.set i (kk,o'))→Step (ks bs O0) w (ks (bs.set i (kk,o')) O0) w'→Gs q e w' (ks (bs.set i (kk,o')) O0) a c ys kk o'→V (.tuple #[]) w'):
    Run1 P r ρ w ⟨d,.call ⟨.value (.func k),args,us⟩,ty,pos,aft,g⟩ V:=by
  refine op_call hcall (by rw [← hk];exact sort_fnK L hq aE zE hf hs hi gs hF hm hsz) ha ?_
  rintro v w' ⟨rfl,o',h2,h3,h4⟩
  exact kont w' o' h2 h3 h4
end op
end Go.Fx
set_option linter.unusedVariables false
set_option linter.unusedSimpArgs false
set_option maxRecDepth 100000
set_option maxHeartbeats 0
namespace Go.Fx
open Go Go.RowKit Go.Proofs
structure XCell where
  airport : Bool
  index : Int
  minute : Int
  deriving Inhabited, DecidableEq
def rXCell : Rp XCell := rVia (fun d => (d.airport, d.index, d.minute)) (rPair rBool (rPair (rInt .i64) (rInt .i64)))
instance : Kord XCell := ⟨fun d => [cond d.airport 1 0, d.index, d.minute], fun {a b} h => by
  obtain ⟨a0, a1, a2⟩ := a
  obtain ⟨b0, b1, b2⟩ := b
  cases a0 <;> cases b0 <;> simp at h ⊢ <;> omega⟩
def kXCell : Kk XCell := ⟨fun d => Value.agg [(Value.bool d.airport), (Value.int .i64 d.index), (Value.int .i64 d.minute)].toArray, fun d => InK .i64 d.index ∧ InK .i64 d.minute⟩
structure XUse where
  cell : XCell
  places : Int
  deriving Inhabited, DecidableEq
def rXUse : Rp XUse := rVia (fun d => (d.cell, d.places)) (rPair rXCell (rInt .i64))
structure XChoice where
  delay : Int
  cost : Int
  changes : Int
  uses : List XUse
  deriving Inhabited, DecidableEq
def rXChoice : Rp XChoice := rVia (fun d => (d.delay, d.cost, d.changes, d.uses)) (rPair (rInt .i64) (rPair (rInt .i64) (rPair (rInt .i64) (rSl rXUse))))
structure XVariable where
  flight : Int
  node : Int
  leaves : List Int
  choices : List XChoice
  deriving Inhabited, DecidableEq
def rXVariable : Rp XVariable := rVia (fun d => (d.flight, d.node, d.leaves, d.choices)) (rPair (rInt .i64) (rPair (rInt .i64) (rPair (rSl (rInt .i64)) (rSl rXChoice))))
structure XProblem where
  cells : List XCell
  capacity : List (List Int)
  variables : List XVariable
  deriving Inhabited, DecidableEq
def rXProblem : Rp XProblem := rVia (fun d => (d.cells, d.capacity, d.variables)) (rPair (rSl rXCell) (rPair (rSl (rSl (rInt .i64))) (rSl rXVariable)))
structure XPlace where
  leaf : Int
  cell : Int
  deriving Inhabited, DecidableEq
def rXPlace : Rp XPlace := rVia (fun d => (d.leaf, d.cell)) (rPair (rInt .i64) (rInt .i64))
instance : Kord XPlace := ⟨fun d => [d.leaf, d.cell], fun {a b} h => by
  obtain ⟨a0, a1⟩ := a
  obtain ⟨b0, b1⟩ := b
  simp at h ⊢ <;> omega⟩
def kXPlace : Kk XPlace := ⟨fun d => Value.agg [(Value.int .i64 d.leaf), (Value.int .i64 d.cell)].toArray, fun d => InK .i64 d.leaf ∧ InK .i64 d.cell⟩
structure XTable where
  p : XProblem
  uses : List (List (List (XPlace × Int)))
  deriving Inhabited, DecidableEq
def rXTable : Rp XTable := rVia (fun d => (d.p, d.uses)) (rPair rXProblem (rSl (rSl (rMp kXPlace (mvI .i64)))))
structure XProof where
  variables : List Int
  bad : List (List (XPlace × Bool))
  deriving Inhabited, DecidableEq
def rXProof : Rp XProof := rVia (fun d => (d.variables, d.bad)) (rPair (rSl (rInt .i64)) (rSl (rMp kXPlace mvB)))
structure XReason where
  variables : List Int
  places : List XPlace
  deriving Inhabited, DecidableEq
def rXReason : Rp XReason := rVia (fun d => (d.variables, d.places)) (rPair (rSl (rInt .i64)) (rSl rXPlace))
theorem ty26 : Ty Try.prog 26 (.struct #[{ name := "Cells", type := 22, offset := 0, embedded := false, tag := "", pkgPath := "", byteOffset := 0 }, { name := "Capacity", type := 23, offset := 1, embedded := false, tag := "", pkgPath := "", byteOffset := 24 }, { name := "Variables", type := 24, offset := 2, embedded := false, tag := "", pkgPath := "", byteOffset := 48 }]) 3 72 [(.slice none 0 0), (.slice none 0 0), (.slice none 0 0)] true :=
  ⟨Try.underlying26, ⟨Try.t26, info_of Try.type26, rfl, rfl, _, rfl, rfl⟩, Try.isAgg26, rfl⟩
theorem ty67 : Ty Try.prog 67 (.struct #[{ name := "Airport", type := 4, offset := 0, embedded := false, tag := "", pkgPath := "", byteOffset := 0 }, { name := "Index", type := 3, offset := 1, embedded := false, tag := "", pkgPath := "", byteOffset := 8 }, { name := "Minute", type := 3, offset := 2, embedded := false, tag := "", pkgPath := "", byteOffset := 16 }]) 3 24 [(.bool false), (.int .i64 0), (.int .i64 0)] true :=
  ⟨Try.underlying67, ⟨Try.t67, info_of Try.type67, rfl, rfl, _, rfl, rfl⟩, Try.isAgg67, rfl⟩
theorem ty76 : Ty Try.prog 76 (.struct #[{ name := "Cell", type := 67, offset := 0, embedded := false, tag := "", pkgPath := "", byteOffset := 0 }, { name := "Places", type := 3, offset := 3, embedded := false, tag := "", pkgPath := "", byteOffset := 24 }]) 4 32 [(.bool false), (.int .i64 0), (.int .i64 0), (.int .i64 0)] true :=
  ⟨Try.underlying76, ⟨Try.t76, info_of Try.type76, rfl, rfl, _, rfl, rfl⟩, Try.isAgg76, rfl⟩
theorem ty56 : Ty Try.prog 56 (.slice 76) 1 24 [(.slice none 0 0)] false :=
  ⟨Try.underlying56, ⟨Try.t56, info_of Try.type56, rfl, rfl, _, rfl, rfl⟩, Try.isAgg56, rfl⟩
theorem ty22 : Ty Try.prog 22 (.slice 67) 1 24 [(.slice none 0 0)] false :=
  ⟨Try.underlying22, ⟨Try.t22, info_of Try.type22, rfl, rfl, _, rfl, rfl⟩, Try.isAgg22, rfl⟩
theorem ty31 : Ty Try.prog 31 (.slice 3) 1 24 [(.slice none 0 0)] false :=
  ⟨Try.underlying31, ⟨Try.t31, info_of Try.type31, rfl, rfl, _, rfl, rfl⟩, Try.isAgg31, rfl⟩
theorem ty3 : Ty Try.prog 3 (.int .i64) 1 8 [(.int .i64 0)] false :=
  ⟨Try.underlying3, ⟨Try.t3, info_of Try.type3, rfl, rfl, _, rfl, rfl⟩, Try.isAgg3, rfl⟩
theorem ty23 : Ty Try.prog 23 (.slice 31) 1 24 [(.slice none 0 0)] false :=
  ⟨Try.underlying23, ⟨Try.t23, info_of Try.type23, rfl, rfl, _, rfl, rfl⟩, Try.isAgg23, rfl⟩
theorem ty58 : Ty Try.prog 58 (.struct #[{ name := "Delay", type := 3, offset := 0, embedded := false, tag := "", pkgPath := "", byteOffset := 0 }, { name := "Cost", type := 3, offset := 1, embedded := false, tag := "", pkgPath := "", byteOffset := 8 }, { name := "Changes", type := 3, offset := 2, embedded := false, tag := "", pkgPath := "", byteOffset := 16 }, { name := "Uses", type := 56, offset := 3, embedded := false, tag := "", pkgPath := "", byteOffset := 24 }]) 4 48 [(.int .i64 0), (.int .i64 0), (.int .i64 0), (.slice none 0 0)] true :=
  ⟨Try.underlying58, ⟨Try.t58, info_of Try.type58, rfl, rfl, _, rfl, rfl⟩, Try.isAgg58, rfl⟩
theorem ty59 : Ty Try.prog 59 (.slice 58) 1 24 [(.slice none 0 0)] false :=
  ⟨Try.underlying59, ⟨Try.t59, info_of Try.type59, rfl, rfl, _, rfl, rfl⟩, Try.isAgg59, rfl⟩
theorem ty61 : Ty Try.prog 61 (.struct #[{ name := "Flight", type := 3, offset := 0, embedded := false, tag := "", pkgPath := "", byteOffset := 0 }, { name := "Node", type := 3, offset := 1, embedded := false, tag := "", pkgPath := "", byteOffset := 8 }, { name := "Leaves", type := 31, offset := 2, embedded := false, tag := "", pkgPath := "", byteOffset := 16 }, { name := "Choices", type := 59, offset := 3, embedded := false, tag := "", pkgPath := "", byteOffset := 40 }]) 4 64 [(.int .i64 0), (.int .i64 0), (.slice none 0 0), (.slice none 0 0)] true :=
  ⟨Try.underlying61, ⟨Try.t61, info_of Try.type61, rfl, rfl, _, rfl, rfl⟩, Try.isAgg61, rfl⟩
theorem ty24 : Ty Try.prog 24 (.slice 61) 1 24 [(.slice none 0 0)] false :=
  ⟨Try.underlying24, ⟨Try.t24, info_of Try.type24, rfl, rfl, _, rfl, rfl⟩, Try.isAgg24, rfl⟩
theorem ty4 : Ty Try.prog 4 .bool 1 1 [(.bool false)] false :=
  ⟨Try.underlying4, ⟨Try.t4, info_of Try.type4, rfl, rfl, _, rfl, rfl⟩, Try.isAgg4, rfl⟩
theorem ty45 : Ty Try.prog 45 (.struct #[{ name := "Leaf", type := 3, offset := 0, embedded := false, tag := "", pkgPath := "", byteOffset := 0 }, { name := "Cell", type := 3, offset := 1, embedded := false, tag := "", pkgPath := "", byteOffset := 8 }]) 2 16 [(.int .i64 0), (.int .i64 0)] true :=
  ⟨Try.underlying45, ⟨Try.t45, info_of Try.type45, rfl, rfl, _, rfl, rfl⟩, Try.isAgg45, rfl⟩
theorem exPk80 : ∃ s : String, Ty Try.prog 80 (.struct #[{ name := "p", type := 26, offset := 0, embedded := false, tag := "", pkgPath := s, byteOffset := 0 }, { name := "uses", type := 78, offset := 3, embedded := false, tag := "", pkgPath := s, byteOffset := 72 }]) 4 96 [(.slice none 0 0), (.slice none 0 0), (.slice none 0 0), (.slice none 0 0)] true := ⟨_,⟨Try.underlying80, ⟨Try.t80, info_of Try.type80, rfl, rfl, _, rfl, rfl⟩, Try.isAgg80, rfl⟩⟩
noncomputable def pathPk80 : String := exPk80.choose
theorem ty80 : Ty Try.prog 80 (.struct #[{ name := "p", type := 26, offset := 0, embedded := false, tag := "", pkgPath := pathPk80, byteOffset := 0 }, { name := "uses", type := 78, offset := 3, embedded := false, tag := "", pkgPath := pathPk80, byteOffset := 72 }]) 4 96 [(.slice none 0 0), (.slice none 0 0), (.slice none 0 0), (.slice none 0 0)] true := exPk80.choose_spec
theorem ty114 : Ty Try.prog 114 (.slice 115) 1 24 [(.slice none 0 0)] false :=
  ⟨Try.underlying114, ⟨Try.t114, info_of Try.type114, rfl, rfl, _, rfl, rfl⟩, Try.isAgg114, rfl⟩
theorem ty115 : Ty Try.prog 115 (.map 45 3) 1 8 [(.map none)] false :=
  ⟨Try.underlying115, ⟨Try.t115, info_of Try.type115, rfl, rfl, _, rfl, rfl⟩, Try.isAgg115, rfl⟩
theorem ty78 : Ty Try.prog 78 (.slice 114) 1 24 [(.slice none 0 0)] false :=
  ⟨Try.underlying78, ⟨Try.t78, info_of Try.type78, rfl, rfl, _, rfl, rfl⟩, Try.isAgg78, rfl⟩
theorem ty117 : Ty Try.prog 117 (.func #[31] #[4] false) 1 8 [.nilFunc] false :=
  ⟨Try.underlying117, ⟨Try.t117, info_of Try.type117, rfl, rfl, _, rfl, rfl⟩, Try.isAgg117, rfl⟩
theorem ty118 : Ty Try.prog 118 (.func #[3, 3] #[4] false) 1 8 [.nilFunc] false :=
  ⟨Try.underlying118, ⟨Try.t118, info_of Try.type118, rfl, rfl, _, rfl, rfl⟩, Try.isAgg118, rfl⟩
theorem exPk86 : ∃ s : String, Ty Try.prog 86 (.struct #[{ name := "variables", type := 31, offset := 0, embedded := false, tag := "", pkgPath := s, byteOffset := 0 }, { name := "bad", type := 84, offset := 1, embedded := false, tag := "", pkgPath := s, byteOffset := 24 }]) 2 48 [(.slice none 0 0), (.slice none 0 0)] true := ⟨_,⟨Try.underlying86, ⟨Try.t86, info_of Try.type86, rfl, rfl, _, rfl, rfl⟩, Try.isAgg86, rfl⟩⟩
noncomputable def pathPk86 : String := exPk86.choose
theorem ty86 : Ty Try.prog 86 (.struct #[{ name := "variables", type := 31, offset := 0, embedded := false, tag := "", pkgPath := pathPk86, byteOffset := 0 }, { name := "bad", type := 84, offset := 1, embedded := false, tag := "", pkgPath := pathPk86, byteOffset := 24 }]) 2 48 [(.slice none 0 0), (.slice none 0 0)] true := exPk86.choose_spec
theorem ty84 : Ty Try.prog 84 (.slice 98) 1 24 [(.slice none 0 0)] false :=
  ⟨Try.underlying84, ⟨Try.t84, info_of Try.type84, rfl, rfl, _, rfl, rfl⟩, Try.isAgg84, rfl⟩
theorem ty98 : Ty Try.prog 98 (.map 45 4) 1 8 [(.map none)] false :=
  ⟨Try.underlying98, ⟨Try.t98, info_of Try.type98, rfl, rfl, _, rfl, rfl⟩, Try.isAgg98, rfl⟩
theorem ty101 : Ty Try.prog 101 (.func #[98] #[4] false) 1 8 [.nilFunc] false :=
  ⟨Try.underlying101, ⟨Try.t101, info_of Try.type101, rfl, rfl, _, rfl, rfl⟩, Try.isAgg101, rfl⟩
theorem ty82 : Ty Try.prog 82 (.slice 86) 1 24 [(.slice none 0 0)] false :=
  ⟨Try.underlying82, ⟨Try.t82, info_of Try.type82, rfl, rfl, _, rfl, rfl⟩, Try.isAgg82, rfl⟩
theorem ty32 : Ty Try.prog 32 (.slice 45) 1 24 [(.slice none 0 0)] false :=
  ⟨Try.underlying32, ⟨Try.t32, info_of Try.type32, rfl, rfl, _, rfl, rfl⟩, Try.isAgg32, rfl⟩
theorem ty34 : Ty Try.prog 34 (.struct #[{ name := "Variables", type := 31, offset := 0, embedded := false, tag := "", pkgPath := "", byteOffset := 0 }, { name := "Places", type := 32, offset := 1, embedded := false, tag := "", pkgPath := "", byteOffset := 24 }]) 2 48 [(.slice none 0 0), (.slice none 0 0)] true :=
  ⟨Try.underlying34, ⟨Try.t34, info_of Try.type34, rfl, rfl, _, rfl, rfl⟩, Try.isAgg34, rfl⟩
theorem ty29 : Ty Try.prog 29 (.int .i64) 1 8 [(.int .i64 0)] false :=
  ⟨Try.underlying29, ⟨Try.t29, info_of Try.type29, rfl, rfl, _, rfl, rfl⟩, Try.isAgg29, rfl⟩
theorem ty113 : Ty Try.prog 113 (.map 67 3) 1 8 [(.map none)] false :=
  ⟨Try.underlying113, ⟨Try.t113, info_of Try.type113, rfl, rfl, _, rfl, rfl⟩, Try.isAgg113, rfl⟩
theorem pl67 : Places Try.prog #[{ name := "Airport", type := 4, offset := 0, embedded := false, tag := "", pkgPath := "", byteOffset := 0 }, { name := "Index", type := 3, offset := 1, embedded := false, tag := "", pkgPath := "", byteOffset := 8 }, { name := "Minute", type := 3, offset := 2, embedded := false, tag := "", pkgPath := "", byteOffset := 16 }] [(0, 1), (1, 1), (2, 1)] := fun w => by simp [ty4.runSize, ty3.runSize, ty3.runSize]
theorem pl76 : Places Try.prog #[{ name := "Cell", type := 67, offset := 0, embedded := false, tag := "", pkgPath := "", byteOffset := 0 }, { name := "Places", type := 3, offset := 3, embedded := false, tag := "", pkgPath := "", byteOffset := 24 }] [(0, 3), (3, 1)] := fun w => by simp [ty67.runSize, ty3.runSize]
theorem pl26 : Places Try.prog #[{ name := "Cells", type := 22, offset := 0, embedded := false, tag := "", pkgPath := "", byteOffset := 0 }, { name := "Capacity", type := 23, offset := 1, embedded := false, tag := "", pkgPath := "", byteOffset := 24 }, { name := "Variables", type := 24, offset := 2, embedded := false, tag := "", pkgPath := "", byteOffset := 48 }] [(0, 1), (1, 1), (2, 1)] := fun w => by simp [ty22.runSize, ty23.runSize, ty24.runSize]
theorem pl58 : Places Try.prog #[{ name := "Delay", type := 3, offset := 0, embedded := false, tag := "", pkgPath := "", byteOffset := 0 }, { name := "Cost", type := 3, offset := 1, embedded := false, tag := "", pkgPath := "", byteOffset := 8 }, { name := "Changes", type := 3, offset := 2, embedded := false, tag := "", pkgPath := "", byteOffset := 16 }, { name := "Uses", type := 56, offset := 3, embedded := false, tag := "", pkgPath := "", byteOffset := 24 }] [(0, 1), (1, 1), (2, 1), (3, 1)] := fun w => by simp [ty3.runSize, ty3.runSize, ty3.runSize, ty56.runSize]
theorem pl61 : Places Try.prog #[{ name := "Flight", type := 3, offset := 0, embedded := false, tag := "", pkgPath := "", byteOffset := 0 }, { name := "Node", type := 3, offset := 1, embedded := false, tag := "", pkgPath := "", byteOffset := 8 }, { name := "Leaves", type := 31, offset := 2, embedded := false, tag := "", pkgPath := "", byteOffset := 16 }, { name := "Choices", type := 59, offset := 3, embedded := false, tag := "", pkgPath := "", byteOffset := 40 }] [(0, 1), (1, 1), (2, 1), (3, 1)] := fun w => by simp [ty3.runSize, ty3.runSize, ty31.runSize, ty59.runSize]
theorem pl45 : Places Try.prog #[{ name := "Leaf", type := 3, offset := 0, embedded := false, tag := "", pkgPath := "", byteOffset := 0 }, { name := "Cell", type := 3, offset := 1, embedded := false, tag := "", pkgPath := "", byteOffset := 8 }] [(0, 1), (1, 1)] := fun w => by simp [ty3.runSize, ty3.runSize]
theorem pl86 : Places Try.prog #[{ name := "variables", type := 31, offset := 0, embedded := false, tag := "", pkgPath := pathPk86, byteOffset := 0 }, { name := "bad", type := 84, offset := 1, embedded := false, tag := "", pkgPath := pathPk86, byteOffset := 24 }] [(0, 1), (1, 1)] := fun w => by simp [ty31.runSize, ty84.runSize]
theorem pl34 : Places Try.prog #[{ name := "Variables", type := 31, offset := 0, embedded := false, tag := "", pkgPath := "", byteOffset := 0 }, { name := "Places", type := 32, offset := 1, embedded := false, tag := "", pkgPath := "", byteOffset := 24 }] [(0, 1), (1, 1)] := fun w => by simp [ty31.runSize, ty32.runSize]
theorem eqv67 (d : Nat) (a b : XCell) : ∀ w, (Op.equalIn (d + 2) 67 (.agg [(Value.bool a.airport), (Value.int .i64 a.index), (Value.int .i64 a.minute)].toArray) (.agg [(Value.bool b.airport), (Value.int .i64 b.index), (Value.int .i64 b.minute)].toArray)).run Try.prog w = .ok (decide (a = b)) w := fun w => by
  refine (eq_struct (d := d + 1) Try.underlying67 (by kernel_rfl) (EqF.cons (by decide) (part_1 ty4 rfl) (part_1 ty4 rfl) (eq_bool (d := d + 0) Try.underlying4 a.airport b.airport) (EqF.cons (by decide) (part_1 ty3 rfl) (part_1 ty3 rfl) (eq_int (d := d + 0) Try.underlying3 a.index b.index) (EqF.cons (by decide) (part_1 ty3 rfl) (part_1 ty3 rfl) (eq_int (d := d + 0) Try.underlying3 a.minute b.minute) EqF.nil))) w).trans ?_
  congr 1
  rw [Bool.eq_iff_iff]
  obtain ⟨a0, a1, a2⟩ := a
  obtain ⟨b0, b1, b2⟩ := b
  simp [List.all_cons, and_assoc]
theorem eqv45 (d : Nat) (a b : XPlace) : ∀ w, (Op.equalIn (d + 2) 45 (.agg [(Value.int .i64 a.leaf), (Value.int .i64 a.cell)].toArray) (.agg [(Value.int .i64 b.leaf), (Value.int .i64 b.cell)].toArray)).run Try.prog w = .ok (decide (a = b)) w := fun w => by
  refine (eq_struct (d := d + 1) Try.underlying45 (by kernel_rfl) (EqF.cons (by decide) (part_1 ty3 rfl) (part_1 ty3 rfl) (eq_int (d := d + 0) Try.underlying3 a.leaf b.leaf) (EqF.cons (by decide) (part_1 ty3 rfl) (part_1 ty3 rfl) (eq_int (d := d + 0) Try.underlying3 a.cell b.cell) EqF.nil)) w).trans ?_
  congr 1
  rw [Bool.eq_iff_iff]
  obtain ⟨a0, a1⟩ := a
  obtain ⟨b0, b1⟩ := b
  simp [List.all_cons, and_assoc]
theorem eqg45 : Try.prog.eqGuardType Try.prog.depth 45 = false := by kernel_rfl
theorem kok67 : KOk Try.prog 67 kXCell := KOk.agg Try.underlying67 (fun _ => ⟨_, rfl⟩) (fun w e a => ck_struct (d := 9999) Try.underlying67 (CkF.cons (by decide) (part_1 ty4 rfl) (ck_bool (d := 9998) Try.underlying4 a.airport) (CkF.cons (by decide) (part_1 ty3 rfl) (ck_int (d := 9998) Try.underlying3 a.index) (CkF.cons (by decide) (part_1 ty3 rfl) (ck_int (d := 9998) Try.underlying3 a.minute) CkF.nil))) w) (fun w a b => eqv67 9998 a b w)
  (fun a => by show Instr.sameBits (9999 + 1) (Value.agg _) (Value.agg _) = true; simp [Instr.sameBits]) (fun {a b} h => by
  obtain ⟨a0, a1, a2⟩ := a
  obtain ⟨b0, b1, b2⟩ := b
  simpa [kXCell] using h)
theorem kok45 : KOk Try.prog 45 kXPlace := KOk.agg Try.underlying45 (fun _ => ⟨_, rfl⟩) (fun w e a => ck_struct (d := 9999) Try.underlying45 (CkF.cons (by decide) (part_1 ty3 rfl) (ck_int (d := 9998) Try.underlying3 a.leaf) (CkF.cons (by decide) (part_1 ty3 rfl) (ck_int (d := 9998) Try.underlying3 a.cell) CkF.nil)) w) (fun w a b => eqv45 9998 a b w)
  (fun a => by show Instr.sameBits (9999 + 1) (Value.agg _) (Value.agg _) = true; simp [Instr.sameBits]) (fun {a b} h => by
  obtain ⟨a0, a1⟩ := a
  obtain ⟨b0, b1⟩ := b
  simpa [kXPlace] using h)

end Go.Fx
/- What the arguments read as. -/
namespace Go.Fx
open Go Go.Proofs Go.ChangeShapes Go.WideShapes Go.ChangeAt Go.RowKit Go.Fx
open Go.ChangeMaps (open_string shut_string)
set_option linter.unusedVariables false
set_option maxRecDepth 100000
theorem rd4 {H : Type} {enc : TypeId × Value → H} {w : World} {base : Nat} {spare : Nat → Bool} {held : Bool} : Rd enc Try.prog w base spare held 4 rBool SmT := Rd_bool Try.underlying4 (by kernel_rfl)
theorem rd3 {H : Type} {enc : TypeId × Value → H} {w : World} {base : Nat} {spare : Nat → Bool} {held : Bool} : Rd enc Try.prog w base spare held 3 (rInt .i64) (InK .i64) := Rd_int Try.underlying3 (by kernel_rfl)
def smXCell (d : XCell) : Prop := SmT d.airport ∧ (InK .i64) d.index ∧ (InK .i64) d.minute
theorem rd67 {H : Type} {enc : TypeId × Value → H} {w : World} {base : Nat} {spare : Nat → Bool} {held : Bool} : Rd enc Try.prog w base spare held 67 rXCell smXCell := by
  refine ⟨by kernel_rfl, fun fuel cs y h => ?_⟩
  obtain ⟨xs, n, _, hy, hl, hlen, hf⟩ := DataW.trod_struct Try.underlying67 h
  obtain ⟨x0, h0, s0⟩ := fld Try.underlying67 hf hlen hy (i := 0) rfl rd4
  obtain ⟨x1, h1, s1⟩ := fld Try.underlying67 hf hlen hy (i := 1) rfl rd3
  obtain ⟨x2, h2, s2⟩ := fld Try.underlying67 hf hlen hy (i := 2) rfl rd3
  have hc : Try.prog.cellsOf 67 = 3 := by kernel_rfl
  refine ⟨⟨x0, x1, x2⟩, ?_, fun hw => ⟨s0 hw, s1 hw, s2 hw⟩⟩
  exact rd_all (q := (rPair rBool (rPair (rInt .i64) (rInt .i64)))) (rd_pair h0 (rd_pair h1 h2)) (hl.trans hc)
theorem rd22 {H : Type} {enc : TypeId × Value → H} {w : World} {base : Nat} {spare : Nat → Bool} {held : Bool} : Rd enc Try.prog w base spare held 22 (rSl rXCell) (SmL smXCell) := Rd_slice Try.underlying22 (by kernel_rfl) (by decide) (of_decide_eq_true (by kernel_rfl)) rd67
theorem rd31 {H : Type} {enc : TypeId × Value → H} {w : World} {base : Nat} {spare : Nat → Bool} {held : Bool} : Rd enc Try.prog w base spare held 31 (rSl (rInt .i64)) (SmL (InK .i64)) := Rd_slice Try.underlying31 (by kernel_rfl) (by decide) (of_decide_eq_true (by kernel_rfl)) rd3
theorem rd23 {H : Type} {enc : TypeId × Value → H} {w : World} {base : Nat} {spare : Nat → Bool} {held : Bool} : Rd enc Try.prog w base spare held 23 (rSl (rSl (rInt .i64))) (SmL (SmL (InK .i64))) := Rd_slice Try.underlying23 (by kernel_rfl) (by decide) (of_decide_eq_true (by kernel_rfl)) rd31
def smXUse (d : XUse) : Prop := smXCell d.cell ∧ (InK .i64) d.places
theorem rd76 {H : Type} {enc : TypeId × Value → H} {w : World} {base : Nat} {spare : Nat → Bool} {held : Bool} : Rd enc Try.prog w base spare held 76 rXUse smXUse := by
  refine ⟨by kernel_rfl, fun fuel cs y h => ?_⟩
  obtain ⟨xs, n, _, hy, hl, hlen, hf⟩ := DataW.trod_struct Try.underlying76 h
  obtain ⟨x0, h0, s0⟩ := fld Try.underlying76 hf hlen hy (i := 0) rfl rd67
  obtain ⟨x1, h1, s1⟩ := fld Try.underlying76 hf hlen hy (i := 1) rfl rd3
  have hc : Try.prog.cellsOf 76 = 4 := by kernel_rfl
  refine ⟨⟨x0, x1⟩, ?_, fun hw => ⟨s0 hw, s1 hw⟩⟩
  exact rd_all (q := (rPair rXCell (rInt .i64))) (rd_pair h0 h1) (hl.trans hc)
theorem rd56 {H : Type} {enc : TypeId × Value → H} {w : World} {base : Nat} {spare : Nat → Bool} {held : Bool} : Rd enc Try.prog w base spare held 56 (rSl rXUse) (SmL smXUse) := Rd_slice Try.underlying56 (by kernel_rfl) (by decide) (of_decide_eq_true (by kernel_rfl)) rd76
def smXChoice (d : XChoice) : Prop := (InK .i64) d.delay ∧ (InK .i64) d.cost ∧ (InK .i64) d.changes ∧ (SmL smXUse) d.uses
theorem rd58 {H : Type} {enc : TypeId × Value → H} {w : World} {base : Nat} {spare : Nat → Bool} {held : Bool} : Rd enc Try.prog w base spare held 58 rXChoice smXChoice := by
  refine ⟨by kernel_rfl, fun fuel cs y h => ?_⟩
  obtain ⟨xs, n, _, hy, hl, hlen, hf⟩ := DataW.trod_struct Try.underlying58 h
  obtain ⟨x0, h0, s0⟩ := fld Try.underlying58 hf hlen hy (i := 0) rfl rd3
  obtain ⟨x1, h1, s1⟩ := fld Try.underlying58 hf hlen hy (i := 1) rfl rd3
  obtain ⟨x2, h2, s2⟩ := fld Try.underlying58 hf hlen hy (i := 2) rfl rd3
  obtain ⟨x3, h3, s3⟩ := fld Try.underlying58 hf hlen hy (i := 3) rfl rd56
  have hc : Try.prog.cellsOf 58 = 4 := by kernel_rfl
  refine ⟨⟨x0, x1, x2, x3⟩, ?_, fun hw => ⟨s0 hw, s1 hw, s2 hw, s3 hw⟩⟩
  exact rd_all (q := (rPair (rInt .i64) (rPair (rInt .i64) (rPair (rInt .i64) (rSl rXUse))))) (rd_pair h0 (rd_pair h1 (rd_pair h2 h3))) (hl.trans hc)
theorem rd59 {H : Type} {enc : TypeId × Value → H} {w : World} {base : Nat} {spare : Nat → Bool} {held : Bool} : Rd enc Try.prog w base spare held 59 (rSl rXChoice) (SmL smXChoice) := Rd_slice Try.underlying59 (by kernel_rfl) (by decide) (of_decide_eq_true (by kernel_rfl)) rd58
def smXVariable (d : XVariable) : Prop := (InK .i64) d.flight ∧ (InK .i64) d.node ∧ (SmL (InK .i64)) d.leaves ∧ (SmL smXChoice) d.choices
theorem rd61 {H : Type} {enc : TypeId × Value → H} {w : World} {base : Nat} {spare : Nat → Bool} {held : Bool} : Rd enc Try.prog w base spare held 61 rXVariable smXVariable := by
  refine ⟨by kernel_rfl, fun fuel cs y h => ?_⟩
  obtain ⟨xs, n, _, hy, hl, hlen, hf⟩ := DataW.trod_struct Try.underlying61 h
  obtain ⟨x0, h0, s0⟩ := fld Try.underlying61 hf hlen hy (i := 0) rfl rd3
  obtain ⟨x1, h1, s1⟩ := fld Try.underlying61 hf hlen hy (i := 1) rfl rd3
  obtain ⟨x2, h2, s2⟩ := fld Try.underlying61 hf hlen hy (i := 2) rfl rd31
  obtain ⟨x3, h3, s3⟩ := fld Try.underlying61 hf hlen hy (i := 3) rfl rd59
  have hc : Try.prog.cellsOf 61 = 4 := by kernel_rfl
  refine ⟨⟨x0, x1, x2, x3⟩, ?_, fun hw => ⟨s0 hw, s1 hw, s2 hw, s3 hw⟩⟩
  exact rd_all (q := (rPair (rInt .i64) (rPair (rInt .i64) (rPair (rSl (rInt .i64)) (rSl rXChoice))))) (rd_pair h0 (rd_pair h1 (rd_pair h2 h3))) (hl.trans hc)
theorem rd24 {H : Type} {enc : TypeId × Value → H} {w : World} {base : Nat} {spare : Nat → Bool} {held : Bool} : Rd enc Try.prog w base spare held 24 (rSl rXVariable) (SmL smXVariable) := Rd_slice Try.underlying24 (by kernel_rfl) (by decide) (of_decide_eq_true (by kernel_rfl)) rd61
def smXProblem (d : XProblem) : Prop := (SmL smXCell) d.cells ∧ (SmL (SmL (InK .i64))) d.capacity ∧ (SmL smXVariable) d.variables
theorem rd26 {H : Type} {enc : TypeId × Value → H} {w : World} {base : Nat} {spare : Nat → Bool} {held : Bool} : Rd enc Try.prog w base spare held 26 rXProblem smXProblem := by
  refine ⟨by kernel_rfl, fun fuel cs y h => ?_⟩
  obtain ⟨xs, n, _, hy, hl, hlen, hf⟩ := DataW.trod_struct Try.underlying26 h
  obtain ⟨x0, h0, s0⟩ := fld Try.underlying26 hf hlen hy (i := 0) rfl rd22
  obtain ⟨x1, h1, s1⟩ := fld Try.underlying26 hf hlen hy (i := 1) rfl rd23
  obtain ⟨x2, h2, s2⟩ := fld Try.underlying26 hf hlen hy (i := 2) rfl rd24
  have hc : Try.prog.cellsOf 26 = 3 := by kernel_rfl
  refine ⟨⟨x0, x1, x2⟩, ?_, fun hw => ⟨s0 hw, s1 hw, s2 hw⟩⟩
  exact rd_all (q := (rPair (rSl rXCell) (rPair (rSl (rSl (rInt .i64))) (rSl rXVariable)))) (rd_pair h0 (rd_pair h1 h2)) (hl.trans hc)
def smXPlace (d : XPlace) : Prop := (InK .i64) d.leaf ∧ (InK .i64) d.cell
theorem rd45 {H : Type} {enc : TypeId × Value → H} {w : World} {base : Nat} {spare : Nat → Bool} {held : Bool} : Rd enc Try.prog w base spare held 45 rXPlace smXPlace := by
  refine ⟨by kernel_rfl, fun fuel cs y h => ?_⟩
  obtain ⟨xs, n, _, hy, hl, hlen, hf⟩ := DataW.trod_struct Try.underlying45 h
  obtain ⟨x0, h0, s0⟩ := fld Try.underlying45 hf hlen hy (i := 0) rfl rd3
  obtain ⟨x1, h1, s1⟩ := fld Try.underlying45 hf hlen hy (i := 1) rfl rd3
  have hc : Try.prog.cellsOf 45 = 2 := by kernel_rfl
  refine ⟨⟨x0, x1⟩, ?_, fun hw => ⟨s0 hw, s1 hw⟩⟩
  exact rd_all (q := (rPair (rInt .i64) (rInt .i64))) (rd_pair h0 h1) (hl.trans hc)
theorem rd32 {H : Type} {enc : TypeId × Value → H} {w : World} {base : Nat} {spare : Nat → Bool} {held : Bool} : Rd enc Try.prog w base spare held 32 (rSl rXPlace) (SmL smXPlace) := Rd_slice Try.underlying32 (by kernel_rfl) (by decide) (of_decide_eq_true (by kernel_rfl)) rd45
def smXReason (d : XReason) : Prop := (SmL (InK .i64)) d.variables ∧ (SmL smXPlace) d.places
theorem rd34 {H : Type} {enc : TypeId × Value → H} {w : World} {base : Nat} {spare : Nat → Bool} {held : Bool} : Rd enc Try.prog w base spare held 34 rXReason smXReason := by
  refine ⟨by kernel_rfl, fun fuel cs y h => ?_⟩
  obtain ⟨xs, n, _, hy, hl, hlen, hf⟩ := DataW.trod_struct Try.underlying34 h
  obtain ⟨x0, h0, s0⟩ := fld Try.underlying34 hf hlen hy (i := 0) rfl rd31
  obtain ⟨x1, h1, s1⟩ := fld Try.underlying34 hf hlen hy (i := 1) rfl rd32
  have hc : Try.prog.cellsOf 34 = 2 := by kernel_rfl
  refine ⟨⟨x0, x1⟩, ?_, fun hw => ⟨s0 hw, s1 hw⟩⟩
  exact rd_all (q := (rPair (rSl (rInt .i64)) (rSl rXPlace))) (rd_pair h0 h1) (hl.trans hc)
end Go.Fx
set_option linter.unusedVariables false
set_option linter.unusedSimpArgs false
set_option maxRecDepth 100000
set_option maxHeartbeats 0
namespace Go.Fx
open Go Go.RowKit Go.Proofs
def m33_problem_within (n:Int) (lo:Int) (hi:Int):Option Bool:=
 bif (decide (lo≤n)) then
  some (decide (n≤hi))
 else
  some false

theorem c33_problem_within {w:World} {O:List Nat} {n:Int} {lo:Int} {hi:Int} (hO:∀k∈O,k<w.heap.size) (Ra:InK .i64 n) (Rb:InK .i64 lo) (Rc:InK .i64 hi) {x:Bool} (hm:m33_problem_within n lo hi=some x):
 Ok Try.prog 33 [Iv n,Iv lo,Iv hi] w O vB x:=by
 unfold m33_problem_within at hm
 refine Fn_of_Wp (n:=15) (xs:=[.tmp 6]) Try.func33 rfl Try.ntmps33 Try.results33 rfl ?_
 have hs:=St.start hO
 refine Wp_seq<|Wp_region<|Asg (Bo false) rfl<|Rg_nil<|Wp_seq<|Wp_region<|Mve (Iv lo) rfl<|Mve (Iv n) rfl<|Rop<|op_leq rfl rfl<|Mve (Bo (decide (lo≤n))) rfl<|Rg_caseM hm (fun hg1 hm=>?_) (fun hg1 hm=>?_)
 refine Rog rfl rfl<|op_move (v:=Iv n) rfl<|Rog rfl rfl<|op_move (v:=Iv hi) rfl<|Rog rfl rfl<|op_leq rfl rfl<|Pkt (Bo (decide (n≤hi))) rfl rfl<|Asg (Bo (decide (n≤hi))) rfl<|Rg_nil<|Wp_ret<|⟨_,Clo,[Bo (decide (n≤hi))],⟨rfl,trivial⟩,hs.ext,?_⟩
 exact Vr.eq (a:=vB) (x:=decide (n≤hi)) rfl (oi hm)
 iterate 3 refine Rg_opx rfl (asB_ne rfl rfl) rfl ?_
 refine Pkf (Bo false) rfl rfl<|Asg (Bo false) rfl<|Rg_nil<|Wp_ret<|⟨_,Clo,[Bo false],⟨rfl,trivial⟩,hs.ext,?_⟩
 exact Vr.eq (a:=vB) (x:=false) rfl (oi hm)

abbrev q34_0:List Nat:=[4,5,6,7,8,9,10,11,12,13,14,15,16,17,18,19,20,21,22,23]

def m34_api_Cell__B0 (l:List XCell) (less:XCell→XCell→Option Int) (sf3:Int→Option Bool) (i_1:Int):Option Bool:=
 bif (decide (i_1<(l.length:Int))) then
  ck ((0:Int)≤(IntKind.wrap .i64 (i_1 - 1))∧(IntKind.wrap .i64 (i_1 - 1))<(l.length:Int))<|
  ck ((0:Int)≤i_1∧i_1<(l.length:Int))<|
  (less (l.getD (IntKind.wrap .i64 (i_1 - 1)).toNat default) (l.getD i_1.toNat default)).bind fun r_1=>
  bif (decide (0≤r_1)) then
   some false
  else
   sf3 (IntKind.wrap .i64 (i_1+1))
 else
  some true

def m34_api_Cell_ (l:List XCell) (less:XCell→XCell→Option Int):Option Bool:=
 loop1 (m34_api_Cell__B0 l less) (((l.length:Int) - 1).toNat+1) 1

theorem c34_api_Cell_ {w:World} {O:List Nat} {l:List XCell} {less:XCell→XCell→Option Int} {Aa:Option Addr} {Ca:Nat} {v_less:Value} (hO:∀k∈O,k<w.heap.size) (Fa:SlR rXCell w O Aa Ca l) (F_less:CallsTo2 Try.prog w O v_less (vA rXCell) (vA rXCell) (vI .i64) less) {x:Bool} (hm:m34_api_Cell_ l less=some x):
 Ok Try.prog 34 [Sl Aa l Ca,v_less] w O vB x:=by
 unfold m34_api_Cell_ at hm
 refine Fn_of_Wp (n:=24) (xs:=[.tmp 4]) Try.func34 rfl Try.ntmps34 Try.results34 rfl ?_
 have hs:=St.start hO
 refine Wp_seq<|Wp_region<|Asg (Bo false) rfl<|Rg_nil<|Wp_seq<|Wp_seq<|Wp_region<|Asg (Iv 1) rfl<|Rg_nil<|Wp_block<|Wr [] [(0,Sl Aa l Ca),(1,v_less),(5,Iv 1)] fun ξ2=>Wp_loopM q34_0 (fun m fr w'=>∃(i_1:Int) (Ebs:Ents),Ebs=[]∧fr [] [(5,Iv i_1)]∧hs.S (ks Ebs O) w'∧St ⟨w,[],[]⟩ O w' Ebs∧InK .i64 i_1∧loop1 (m34_api_Cell__B0 l less) m i_1=some x) (((l.length:Int) - 1).toNat+1) ⟨1,_,rfl,Frm.of ⟨rfl,trivial⟩,Step.refl _ _,hs,(show InK .i64 1 from by decide),hm⟩ ?_ ?_
 rintro _ _ ⟨_,_,_,_,_,_,_,hm⟩;exact loop1_z hm
 rintro m6 K5 hK5 ρ11 w7 ⟨i_1,_,rfl,hfr10,hst9,hs8,Ra,hm⟩
 obtain⟨sf3,hsf4,hm⟩:=loop1_s hm;unfold m34_api_Cell__B0 at hm
 rw [hfr10.eq];clear hfr10
 have ch12:=hst9
 refine Wp_seq<|Wp_seq<|Wp_region<|Mve (Iv i_1) rfl<|Mve (Sl Aa l Ca) rfl<|Rop<|op_len Try.underlying22 rfl ?_
 replace Fa:=Fa.step hst9
 have rl13:=inK_len Fa
 refine Rop<|op_lss rfl rfl<|Rg_nil<|Wp_condM hm rfl (fun hc14 hm=>?_) (fun hc14 hm=>?_)
 refine Wp_skip<|Wp_seq<|Wp_block<|Wp_seq<|Wp_drawR (g0:=[]) (m:=10) (fl:=[]) (TS_inv hs8) rfl (.inl rfl) rfl (by decide+kernel) ?_  -- 4
 refine Dw_p v_less (fun _ _ _ hi ht=>op_move (v:=v_less) (ht 1 rfl)<|Gz hi)<|Dw_p (Sl Aa l Ca) (fun _ _ _ hi ht=>op_move (v:=Sl Aa l Ca) (ht 0 rfl)<|Gz hi)<|Dw_p (Iv i_1) (fun _ _ _ hi ht=>op_move (v:=Iv i_1) (ht 5 rfl)<|Gz hi)<|Dw_p (Iv (IntKind.wrap .i64 (i_1 - 1))) (fun _ _ _ hi ht=>op_subw (ht 14 rfl) rfl<|Gz hi) ?_
 obtain⟨hc30,hm⟩:=ck_some hm
 refine Dw_op (VP _ _ rXCell (l.getD (IntKind.wrap .i64 (i_1 - 1)).toNat default)) (VP.stab _ _) (fun ρ27 w28 g hle hi ht=>?_) ?_
 obtain⟨-,hst,-⟩:=hle
 replace Fa:=Fa.step hst
 refine StepOp_plain<|op_indexAddr (q:=rXCell) ty22 ty67 (ht 13 rfl) (ht 15 rfl) Fa rfl hc30.1 hc30.2 ?_
 intro p31 f32
 exact Goes.same hi ⟨_,rfl,f32⟩
 refine Dw_op (VD _ _ (vA rXCell) (l.getD (IntKind.wrap .i64 (i_1 - 1)).toNat default)) (VD.stab _ _) (fun ρ33 w34 g hle hi ht=>?_) ?_
 obtain⟨p36,q37,f38⟩:=ht 16 rfl
 refine StepOp_plain<|op_loadPA ty67 q37 f38 rfl ?_
 intro vs39 h40
 obtain⟨_,_,rfl,rfl,⟨_,_,rfl,⟨rfl,Rb⟩,⟨rfl,Rc⟩⟩⟩:=h40
 exact Goes.same hi (show Vr.vd (vA rXCell) _ _ _ _ from(mkA (mkVia (mk_pair mkBool (mk_pair (mk_int Rb) (mk_int Rc))))))
 refine Dw_p (Sl Aa l Ca) (fun _ _ _ hi ht=>op_move (v:=Sl Aa l Ca) (ht 0 rfl)<|Gz hi)<|Dw_p (Iv i_1) (fun _ _ _ hi ht=>op_move (v:=Iv i_1) (ht 5 rfl)<|Gz hi) ?_
 obtain⟨hc51,hm⟩:=ck_some hm
 refine Dw_op (VP _ _ rXCell (l.getD i_1.toNat default)) (VP.stab _ _) (fun ρ48 w49 g hle hi ht=>?_) ?_
 obtain⟨-,hst,-⟩:=hle
 replace Fa:=Fa.step hst
 refine StepOp_plain<|op_indexAddr (q:=rXCell) ty22 ty67 (ht 18 rfl) (ht 19 rfl) Fa rfl hc51.1 hc51.2 ?_
 intro p52 f53
 exact Goes.same hi ⟨_,rfl,f53⟩
 refine Dw_op (VD _ _ (vA rXCell) (l.getD i_1.toNat default)) (VD.stab _ _) (fun ρ54 w55 g hle hi ht=>?_) ?_
 obtain⟨p57,q58,f59⟩:=ht 20 rfl
 refine StepOp_plain<|op_loadPA ty67 q58 f59 rfl ?_
 intro vs60 h61
 obtain⟨_,_,rfl,rfl,⟨_,_,rfl,⟨rfl,Rd⟩,⟨rfl,Re⟩⟩⟩:=h61
 exact Goes.same hi (show Vr.vd (vA rXCell) _ _ _ _ from(mkA (mkVia (mk_pair mkBool (mk_pair (mk_int Rd) (mk_int Re))))))
 refine Dw_nil fun w67 g68 hl69 hi70=>?_
 obtain⟨-,hst71,-⟩:=hl69
 obtain⟨hs73,p72⟩:=Step.nx hi70
 rintro v74 h75
 replace h75:Vr.vd (vA rXCell) _ _ _ _:=h75
 obtain⟨_,rfl,⟨_,_,rfl,rfl,⟨_,_,rfl,⟨rfl,Rf⟩,⟨rfl,Rg⟩⟩⟩⟩:=h75
 rintro _ ⟨p77,rfl,f78⟩ _ rfl _ rfl v79 h80
 replace h80:Vr.vd (vA rXCell) _ _ _ _:=h80
 obtain⟨_,rfl,⟨_,_,rfl,rfl,⟨_,_,rfl,⟨rfl,Rh⟩,⟨rfl,Ri⟩⟩⟩⟩:=h80
 rintro _ ⟨p82,rfl,f83⟩ _ rfl _ rfl _ rfl _ rfl
 have p84:=hs8.to hs73 (hst71.trans p72)
 replace f78:=f78.step p72;replace f83:=f83.step p72;clear hs8
 obtain⟨r_1,hv85,hm⟩:=bd hm
 replace F_less:=F_less.step (hst9.trans p84)
 refine Rop<|op_callF rfl (F_less.call hs73.ltw (mkA (mkVia (mk_pair mkBool (mk_pair (mk_int Rh) (mk_int Ri))))) (mkA (mkVia (mk_pair mkBool (mk_pair (mk_int Rf) (mk_int Rg))))) hv85) rfl ?_
 rintro v86 w87 ⟨hx88,h89⟩
 have hs90:=hs73.call hx88
 have p91:=hs73.stepE hx88
 clear hx88
 clear hs73
 obtain⟨rfl,Rj⟩:=h89
 refine Rop<|op_geq rfl rfl<|Rg_nil<|Wp_condM hm rfl (fun hc93 hm=>?_) (fun hc93 hm=>?_)
 refine Wp_seq ?_
 clear Fa F_less f78 f83
 refine Wp_region<|Asg (Bo false) rfl<|Rg_nil<|Wp_ret<|⟨_,Clo,[Bo false],⟨rfl,trivial⟩,hs90.ext,?_⟩
 exact Vr.eq (a:=vB) (x:=false) rfl (oi hm)
 refine Wp_skip ?_
 clear f78 f83
 refine Wp_region<|Mve (Iv i_1) rfl<|Rop<|op_addw rfl rfl<|Asg (Iv (IntKind.wrap .i64 (i_1+1))) rfl<|Rg_nil ?_
 have p94:=(p84.trans p91)
 replace ch12:=ch12.trans p94
 exact hK5 _ _ ⟨(IntKind.wrap .i64 (i_1+1)),_,rfl,Frm.of ⟨rfl,trivial⟩,ch12,hs90,(inK_wrap .i64 _),jnE1 hsf4 hm⟩
 refine Wp_exit<|Wp_seq ?_
 clear Fa F_less
 refine Wp_region<|Asg (Bo true) rfl<|Rg_nil<|Wp_ret<|⟨_,Clo,[Bo true],⟨rfl,trivial⟩,hs8.ext,?_⟩
 exact Vr.eq (a:=vB) (x:=true) rfl (oi hm)

def m66_cmp_isNaN (x_:Int):Option Bool:=
 some (decide (x_≠x_))

theorem c66_cmp_isNaN {w:World} {O:List Nat} {x_:Int} (hO:∀k∈O,k<w.heap.size) (Ra:InK .i64 x_) {x:Bool} (hm:m66_cmp_isNaN x_=some x):
 Ok Try.prog 66 [Iv x_] w O vB x:=by
 unfold m66_cmp_isNaN at hm
 refine Fn_of_Wp (n:=6) (xs:=[.tmp 2]) Try.func66 rfl Try.ntmps66 Try.results66 rfl ?_
 have hs:=St.start hO
 refine Wp_seq<|Wp_region<|Asg (Bo false) rfl<|Rg_nil<|Wp_seq<|Wp_region<|Mve (Iv x_) rfl<|Mve (Iv x_) rfl<|Rop<|op_neq rfl rfl<|Asg (Bo (decide (x_≠x_))) rfl<|Rg_nil<|Wp_ret<|⟨_,Clo,[Bo (decide (x_≠x_))],⟨rfl,trivial⟩,hs.ext,?_⟩
 exact Vr.eq (a:=vB) (x:=decide (x_≠x_)) rfl (oi hm)

def m39_cmp_Compare (x_:Int) (y:Int):Option Int:=
 (m66_cmp_isNaN x_).bind fun isnan_1=>
 (m66_cmp_isNaN y).bind fun isnan_2=>
 bif isnan_1 then
  bif isnan_2 then
   some 0
  else
   some (-1)
 else
  bif isnan_2 then
   some 1
  else
   bif (decide (x_<y)) then
    some (-1)
   else
    bif (decide (y<x_)) then
     some 1
    else
     some 0

theorem c39_cmp_Compare {w:World} {O:List Nat} {x_:Int} {y:Int} (hO:∀k∈O,k<w.heap.size) (Ra:InK .i64 x_) (Rb:InK .i64 y) {x:Int} (hm:m39_cmp_Compare x_ y=some x):
 Ok Try.prog 39 [Iv x_,Iv y] w O (vI .i64) x:=by
 unfold m39_cmp_Compare at hm
 refine Fn_of_Wp (n:=20) (xs:=[.tmp 4]) Try.func39 rfl Try.ntmps39 Try.results39 rfl ?_
 have hs:=St.start hO
 refine Wp_seq<|Wp_region<|Asg (Iv 0) rfl<|Rg_nil<|Wp_seq<|Wp_region<|Mve (Iv x_) rfl ?_
 obtain⟨isnan_1,hv1,hm⟩:=bd hm
 refine Rop<|op_callE hs Try.call66 (c66_cmp_isNaN (x_:=x_) hs.ltw Ra hv1) rfl ?_
 rintro v2 w3 p7 hs6 h5
 obtain rfl:=h5
 refine Asg (Bo isnan_1) rfl<|Rg_nil<|Wp_seq<|Wp_region<|Mve (Iv y) rfl ?_
 obtain⟨isnan_2,hv9,hm⟩:=bd hm
 refine Rop<|op_callE hs6 Try.call66 (c66_cmp_isNaN (x_:=y) hs6.ltw Rb hv9) rfl ?_
 rintro v10 w11 p15 hs14 h13
 clear hs6
 obtain rfl:=h13
 refine Asg (Bo isnan_2) rfl<|Rg_nil<|Wp_seq<|Wp_seq<|Wp_region<|Mve (Bo isnan_1) rfl<|Rg_nil<|Wp_condM hm rfl (fun hc17 hm=>?_) (fun hc17 hm=>?_)
 refine Wp_seq<|Wp_seq<|Wp_region<|Mve (Bo isnan_2) rfl<|Rg_nil<|Wp_condM hm rfl (fun hc18 hm=>?_) (fun hc18 hm=>?_)
 refine Wp_seq<|Wp_region<|Asg (Iv 0) rfl<|Rg_nil<|Wp_ret<|⟨_,Clo,[Iv 0],⟨rfl,trivial⟩,hs14.ext,?_⟩
 exact Vr.eq (a:=(vI .i64)) (x:=0) ⟨rfl,(show InK .i64 0 from by decide)⟩ (oi hm)
 refine Wp_skip<|Wp_seq<|Wp_region<|Asg (Iv (-1)) rfl<|Rg_nil<|Wp_ret<|⟨_,Clo,[Iv (-1)],⟨rfl,trivial⟩,hs14.ext,?_⟩
 exact Vr.eq (a:=(vI .i64)) (x:=(-1)) ⟨rfl,(show InK .i64 (-1) from by decide)⟩ (oi hm)
 refine Wp_skip<|Wp_seq<|Wp_seq<|Wp_region<|Mve (Bo isnan_2) rfl<|Rg_nil<|Wp_condM hm rfl (fun hc19 hm=>?_) (fun hc19 hm=>?_)
 refine Wp_seq<|Wp_region<|Asg (Iv 1) rfl<|Rg_nil<|Wp_ret<|⟨_,Clo,[Iv 1],⟨rfl,trivial⟩,hs14.ext,?_⟩
 exact Vr.eq (a:=(vI .i64)) (x:=1) ⟨rfl,(show InK .i64 1 from by decide)⟩ (oi hm)
 refine Wp_skip<|Wp_seq<|Wp_seq<|Wp_region<|Mve (Iv x_) rfl<|Mve (Iv y) rfl<|Rop<|op_lss rfl rfl<|Rg_nil<|Wp_condM hm rfl (fun hc20 hm=>?_) (fun hc20 hm=>?_)
 refine Wp_seq<|Wp_region<|Asg (Iv (-1)) rfl<|Rg_nil<|Wp_ret<|⟨_,Clo,[Iv (-1)],⟨rfl,trivial⟩,hs14.ext,?_⟩
 exact Vr.eq (a:=(vI .i64)) (x:=(-1)) ⟨rfl,(show InK .i64 (-1) from by decide)⟩ (oi hm)
 refine Wp_skip<|Wp_seq<|Wp_seq<|Wp_region<|Mve (Iv x_) rfl<|Mve (Iv y) rfl<|Rop<|op_gtr rfl rfl<|Rg_nil<|Wp_condM hm rfl (fun hc21 hm=>?_) (fun hc21 hm=>?_)
 refine Wp_seq<|Wp_region<|Asg (Iv 1) rfl<|Rg_nil<|Wp_ret<|⟨_,Clo,[Iv 1],⟨rfl,trivial⟩,hs14.ext,?_⟩
 exact Vr.eq (a:=(vI .i64)) (x:=1) ⟨rfl,(show InK .i64 1 from by decide)⟩ (oi hm)
 refine Wp_skip<|Wp_seq<|Wp_region<|Asg (Iv 0) rfl<|Rg_nil<|Wp_ret<|⟨_,Clo,[Iv 0],⟨rfl,trivial⟩,hs14.ext,?_⟩
 exact Vr.eq (a:=(vI .i64)) (x:=0) ⟨rfl,(show InK .i64 0 from by decide)⟩ (oi hm)

abbrev q64_0:List Nat:=[2,5,8,9,10,11,12,13,14,15,16]

def m64_cmp_Or_B0 (vals:List Int) (sf4:Int→Option Int) (v_1:Int):Option Int:=
 bif (decide (v_1<(vals.length:Int))) then
  ck ((0:Int)≤v_1∧v_1<(vals.length:Int))<|
  bif (decide ((vals.getD v_1.toNat default)≠0)) then
   some (vals.getD v_1.toNat default)
  else
   sf4 (IntKind.wrap .i64 (v_1+1))
 else
  some 0

def m64_cmp_Or (vals:List Int):Option Int:=
 loop1 (m64_cmp_Or_B0 vals) (((vals.length:Int) - 0).toNat+1) 0

theorem c64_cmp_Or {w:World} {O:List Nat} {vals:List Int} {Aa:Option Addr} {Ca:Nat} (hO:∀k∈O,k<w.heap.size) (Fa:SlR (rInt .i64) w O Aa Ca vals) {x:Int} (hm:m64_cmp_Or vals=some x):
 Ok Try.prog 64 [Sl Aa vals Ca] w O (vI .i64) x:=by
 unfold m64_cmp_Or at hm
 refine Fn_of_Wp (n:=18) (xs:=[.tmp 2]) Try.func64 rfl Try.ntmps64 Try.results64 rfl ?_
 have hs:=St.start hO
 refine Wp_seq<|Wp_region<|Asg (Iv 0) rfl<|Rg_nil<|Wp_seq<|Wp_region<|Asg (Iv 0) rfl<|Rg_nil<|Wp_seq<|Wp_seq<|Wp_region<|Mve (Sl Aa vals Ca) rfl<|Rop<|op_len Try.underlying31 rfl ?_
 have rl1:=inK_len Fa
 refine Mve (Iv 0) rfl<|Rg_nil<|Wp_block<|Wr [] [(3,Iv 0),(6,Sl Aa vals Ca),(7,Iv (vals.length:Int)),(8,Iv 0)] fun ξ3=>Wp_loopM q64_0 (fun m fr w'=>∃(v_1:Int) (Ebs:Ents),Ebs=[]∧fr [] [(8,Iv v_1)]∧hs.S (ks Ebs O) w'∧St ⟨w,[],[]⟩ O w' Ebs∧InK .i64 v_1∧loop1 (m64_cmp_Or_B0 vals) m v_1=some x) (((vals.length:Int) - 0).toNat+1) ⟨0,_,rfl,Frm.of ⟨rfl,trivial⟩,Step.refl _ _,hs,(show InK .i64 0 from by decide),hm⟩ ?_ ?_
 rintro _ _ ⟨_,_,_,_,_,_,_,hm⟩;exact loop1_z hm
 rintro m7 K6 hK6 ρ12 w8 ⟨v_1,_,rfl,hfr11,hst10,hs9,Ra,hm⟩
 obtain⟨sf4,hsf5,hm⟩:=loop1_s hm;unfold m64_cmp_Or_B0 at hm
 rw [hfr11.eq];clear hfr11
 have ch13:=hst10
 refine Wp_seq<|Wp_region<|Rop<|op_lss rfl rfl<|Rg_nil<|Wp_seq<|Wp_condM hm rfl (fun hc14 hm=>?_) (fun hc14 hm=>?_)
 refine Wp_skip<|Wp_seq<|Wp_block<|Wp_seq<|Wp_region ?_
 obtain⟨hc15,hm⟩:=ck_some hm
 replace Fa:=Fa.step hst10
 refine Rop<|op_indexAddr (q:=(rInt .i64)) ty31 ty3 rfl rfl Fa rfl hc15.1 hc15.2 ?_
 intro p16 f17
 refine Rop<|op_loadP ty3 rfl f17 rfl ?_
 intro v18 h19
 obtain⟨rfl,Rb⟩:=un_int h19
 refine Asg (Iv (vals.getD v_1.toNat default)) rfl<|Rg_nil<|Wp_seq ?_
 clear f17
 refine Wp_region<|Mve (Iv (vals.getD v_1.toNat default)) rfl<|Mve (Iv 0) rfl<|Rop<|op_neq rfl rfl<|Rg_nil<|Wp_condM hm rfl (fun hc21 hm=>?_) (fun hc21 hm=>?_)
 refine Wp_seq ?_
 clear Fa
 refine Wp_region<|Mve (Iv (vals.getD v_1.toNat default)) rfl<|Asg (Iv (vals.getD v_1.toNat default)) rfl<|Rg_nil<|Wp_ret<|⟨_,Clo,[Iv (vals.getD v_1.toNat default)],⟨rfl,trivial⟩,hs9.ext,?_⟩
 exact Vr.eq (a:=(vI .i64)) (x:=vals.getD v_1.toNat default) ⟨rfl,Rb⟩ (oi hm)
 exact Wp_skip<|Wp_region<|Rop<|op_addw rfl rfl<|Mve (Iv (IntKind.wrap .i64 (v_1+1))) rfl<|Rg_nil<|hK6 _ _ ⟨(IntKind.wrap .i64 (v_1+1)),_,rfl,Frm.of ⟨rfl,trivial⟩,ch13,hs9,(inK_wrap .i64 _),jnE1 hsf5 hm⟩
 refine Wp_exit<|Wp_seq ?_
 clear Fa
 refine Wp_region<|Mve (Iv 0) rfl<|Asg (Iv 0) rfl<|Rg_nil<|Wp_ret<|⟨_,Clo,[Iv 0],⟨rfl,trivial⟩,hs9.ext,?_⟩
 exact Vr.eq (a:=(vI .i64)) (x:=0) ⟨rfl,(show InK .i64 0 from by decide)⟩ (oi hm)

def m35_problem_compare (a:XCell) (b:XCell):Option Int:=
 bif (!(a.airport == b.airport)) then
  bif b.airport then
   some (-1)
  else
   some 1
 else
  (m39_cmp_Compare a.index b.index).bind fun compare_1=>
  (m39_cmp_Compare a.minute b.minute).bind fun compare_2=>
  (m64_cmp_Or [compare_1,compare_2]).bind fun or_1=>
  some or_1

theorem c35_problem_compare {w:World} {O:List Nat} {a:XCell} {b:XCell} (hO:∀k∈O,k<w.heap.size) (Ra:InK .i64 a.index) (Rb:InK .i64 a.minute) (Rc:InK .i64 b.index) (Rd:InK .i64 b.minute) {x:Int} (hm:m35_problem_compare a b=some x):
 Ok Try.prog 35 [Value.agg [Bo a.airport,Iv a.index,Iv a.minute].toArray,Value.agg [Bo b.airport,Iv b.index,Iv b.minute].toArray] w O (vI .i64) x:=by
 unfold m35_problem_compare at hm
 refine Fn_of_Wp (n:=24) (xs:=[.tmp 4]) Try.func35 rfl Try.ntmps35 Try.results35 rfl ?_
 have hs:=St.start hO
 refine Wp_seq<|Wp_region<|Rop<|op_box (cs:=[Bo a.airport,Iv a.index,Iv a.minute]) hs rfl rfl ?_
 intro b1 w2 _ p3 hs4
 refine Rop<|op_box (cs:=[Bo b.airport,Iv b.index,Iv b.minute]) hs4 rfl rfl ?_
 intro b6 w7 _ p8 hs9
 clear hs4
 refine Asg (Iv 0) rfl<|Rg_nil<|Wp_seq<|Wp_seq<|Wp_region<|Rop<|op_fA 0 ty67 rfl ty4 rfl rfl<|Rop<|op_ld 1 ty4 hs9 rfl rfl rfl<|Rop<|op_fA 0 ty67 rfl ty4 rfl rfl<|Rop<|op_ld 0 ty4 hs9 rfl rfl rfl<|Rop<|op_neqb Try.underlying4 rfl rfl<|Rg_nil<|Wp_condM hm rfl (fun hc11 hm=>?_) (fun hc11 hm=>?_)
 refine Wp_seq<|Wp_seq ?_
 obtain⟨hs12,p13⟩:=hs9.sub (bs':=[(some b6,Oc [Bo b.airport,Iv b.index,Iv b.minute] 67)]) (.cons_cons _ (.cons _ List.Sublist.slnil))
 clear hs9
 refine Wp_region<|Rop<|op_fA 0 ty67 rfl ty4 rfl rfl<|Rop<|op_ld 0 ty4 hs12 rfl rfl rfl<|Rg_nil<|Wp_condM hm rfl (fun hc14 hm=>?_) (fun hc14 hm=>?_)
 refine Wp_seq ?_
 obtain⟨hs15,p16⟩:=hs12.sub (bs':=[]) (.cons _ List.Sublist.slnil)
 clear hs12
 refine Wp_region<|Asg (Iv (-1)) rfl<|Rg_nil<|Wp_ret<|⟨_,Clo,[Iv (-1)],⟨rfl,trivial⟩,hs15.ext,?_⟩
 exact Vr.eq (a:=(vI .i64)) (x:=(-1)) ⟨rfl,(show InK .i64 (-1) from by decide)⟩ (oi hm)
 refine Wp_skip<|Wp_seq ?_
 obtain⟨hs17,p18⟩:=hs12.sub (bs':=[]) (.cons _ List.Sublist.slnil)
 clear hs12
 refine Wp_region<|Asg (Iv 1) rfl<|Rg_nil<|Wp_ret<|⟨_,Clo,[Iv 1],⟨rfl,trivial⟩,hs17.ext,?_⟩
 exact Vr.eq (a:=(vI .i64)) (x:=1) ⟨rfl,(show InK .i64 1 from by decide)⟩ (oi hm)
 refine Wp_skip<|Wp_seq<|Wp_drawR (g0:=[]) (m:=9) (fl:=[]) (TS_inv hs9) rfl (.inl rfl) rfl (by decide+kernel) ?_  -- 5
 refine Dw_p (Pt b1 1) (fun _ _ _ hi ht=>op_fA 1 ty67 rfl ty3 (ht 2 rfl) rfl<|Gz hi)<|Dw_p (Iv a.index) (fun _ _ _ hi ht=>op_ld 1 ty3 (Step.nx hi).1 (ht 12 rfl) rfl rfl<|Gz hi)<|Dw_p (Pt b6 1) (fun _ _ _ hi ht=>op_fA 1 ty67 rfl ty3 (ht 3 rfl) rfl<|Gz hi)<|Dw_p (Iv b.index) (fun _ _ _ hi ht=>op_ld 0 ty3 (Step.nx hi).1 (ht 14 rfl) rfl rfl<|Gz hi) ?_
 obtain⟨compare_1,hv34,hm⟩:=bd hm
 refine Dw_op (VD _ _ (vI .i64) compare_1) (VD.stab _ _) (fun ρ31 w32 g hle hi ht=>?_) ?_
 refine StepOp_plain (op_call Try.call39 (c39_cmp_Compare (O:=ks (ents g++[(some b6,Oc [Bo b.airport,Iv b.index,Iv b.minute] 67),(some b1,Oc [Bo a.airport,Iv a.index,Iv a.minute] 67)]) O) (x_:=a.index) (y:=b.index) hi.ltw Ra Rc hv34) (by simp only [List.map,Array.toList,(show ev _ (.tmp 13)=_ from(ht 13 rfl)),(show ev _ (.tmp 15)=_ from(ht 15 rfl))]<;> rfl) ?_)
 rintro v35 w36 ⟨hx37,h38⟩
 exact Goes.call hi hx37 h38
 refine Dw_p (Pt b1 2) (fun _ _ _ hi ht=>op_fA 2 ty67 rfl ty3 (ht 2 rfl) rfl<|Gz hi)<|Dw_p (Iv a.minute) (fun _ _ _ hi ht=>op_ld 1 ty3 (Step.nx hi).1 (ht 17 rfl) rfl rfl<|Gz hi)<|Dw_p (Pt b6 2) (fun _ _ _ hi ht=>op_fA 2 ty67 rfl ty3 (ht 3 rfl) rfl<|Gz hi)<|Dw_p (Iv b.minute) (fun _ _ _ hi ht=>op_ld 0 ty3 (Step.nx hi).1 (ht 19 rfl) rfl rfl<|Gz hi)<|Dw_nil fun w56 g57 hl58 hi59=>?_
 obtain⟨-,hst60,-⟩:=hl58
 obtain⟨hs62,p61⟩:=Step.nx hi59
 rintro _ rfl _ rfl _ rfl _ rfl v63 h64
 replace h64:Vr.vd (vI .i64) _ _ _ _:=h64
 obtain⟨rfl,Re⟩:=h64
 rintro _ rfl _ rfl _ rfl _ rfl
 have p66:=hs9.to hs62 (hst60.trans p61)
 clear hs9
 obtain⟨compare_2,hv67,hm⟩:=bd hm
 refine Rop<|op_callE hs62 Try.call39 (c39_cmp_Compare (x_:=a.minute) (y:=b.minute) hs62.ltw Rb Rd hv67) rfl ?_
 rintro v68 w69 p73 hs72 h71
 clear hs62
 obtain⟨rfl,Rf⟩:=h71
 refine Rop<|op_buildSlice (cs:=[Iv compare_1,Iv compare_2]) (parts:=[(0,.tmp 16),(1,.tmp 21)]) ty31 ty3 hs72 (by decide) rfl ?_
 intro b75 w76 hx79 p77 hs78
 clear hs72
 obtain⟨hs82,p83,f81⟩:=St.publish (i:=0) (o:=0) (c:=2) (xs:=[compare_1,compare_2]) hs78 rfl (show Els (rInt .i64) _ _ [Iv compare_1,Iv compare_2] [compare_1,compare_2] from⟨_,_,rfl,mk_int Re,⟨_,_,rfl,mk_int Rf,Els.nil⟩⟩) (le_lit rfl) (le_lit rfl) (le_lit rfl)
 clear hs78
 obtain⟨or_1,hv84,hm⟩:=bd hm
 refine Rop<|op_callE hs82 Try.call64 (c64_cmp_Or (vals:=[compare_1,compare_2]) hs82.ltw f81 hv84) rfl ?_
 rintro v85 w86 p90 hs89 h88
 clear hs82
 obtain⟨rfl,Rg⟩:=h88
 refine Asg (Iv or_1) rfl<|Rg_nil<|Wp_ret<|⟨_,Clo,[Iv or_1],⟨rfl,trivial⟩,hs89.ext,?_⟩
 exact Vr.eq (a:=(vI .i64)) (x:=or_1) ⟨rfl,Rg⟩ (oi hm)

abbrev q65_0:List Nat:=[4,5,8,9,10,11,12,13,14,15,16,17,18]

def m65_slices_IndexFuncint_int__B0 (s:List Int) (f:Int→Option Bool) (sf4:Int→Option Int) (v_1:Int):Option Int:=
 bif (decide (v_1<(s.length:Int))) then
  ck ((0:Int)≤v_1∧v_1<(s.length:Int))<|
  (f (s.getD v_1.toNat default)).bind fun r_1=>
  bif r_1 then
   some v_1
  else
   sf4 (IntKind.wrap .i64 (v_1+1))
 else
  some (-1)

def m65_slices_IndexFuncint_int_ (s:List Int) (f:Int→Option Bool):Option Int:=
 loop1 (m65_slices_IndexFuncint_int__B0 s f) (((s.length:Int) - 0).toNat+1) 0

theorem c65_slices_IndexFuncint_int_ {w:World} {O:List Nat} {s:List Int} {f:Int→Option Bool} {Aa:Option Addr} {Ca:Nat} {v_f:Value} (hO:∀k∈O,k<w.heap.size) (Fa:SlR (rInt .i64) w O Aa Ca s) (F_f:CallsTo1 Try.prog w O v_f (vI .i64) vB f) {x:Int} (hm:m65_slices_IndexFuncint_int_ s f=some x):
 Ok Try.prog 65 [Sl Aa s Ca,v_f] w O (vI .i64) x:=by
 unfold m65_slices_IndexFuncint_int_ at hm
 refine Fn_of_Wp (n:=19) (xs:=[.tmp 4]) Try.func65 rfl Try.ntmps65 Try.results65 rfl ?_
 have hs:=St.start hO
 refine Wp_seq<|Wp_region<|Asg (Iv 0) rfl<|Rg_nil<|Wp_seq<|Wp_seq<|Wp_region<|Mve (Sl Aa s Ca) rfl<|Rop<|op_len Try.underlying31 rfl ?_
 have rl1:=inK_len Fa
 refine Mve (Iv 0) rfl<|Rg_nil<|Wp_block<|Wr [] [(0,Sl Aa s Ca),(1,v_f),(7,Iv (s.length:Int)),(8,Iv 0)] fun ξ3=>Wp_loopM q65_0 (fun m fr w'=>∃(v_1:Int) (Ebs:Ents),Ebs=[]∧fr [] [(8,Iv v_1)]∧hs.S (ks Ebs O) w'∧St ⟨w,[],[]⟩ O w' Ebs∧InK .i64 v_1∧loop1 (m65_slices_IndexFuncint_int__B0 s f) m v_1=some x) (((s.length:Int) - 0).toNat+1) ⟨0,_,rfl,Frm.of ⟨rfl,trivial⟩,Step.refl _ _,hs,(show InK .i64 0 from by decide),hm⟩ ?_ ?_
 rintro _ _ ⟨_,_,_,_,_,_,_,hm⟩;exact loop1_z hm
 rintro m7 K6 hK6 ρ12 w8 ⟨v_1,_,rfl,hfr11,hst10,hs9,Ra,hm⟩
 obtain⟨sf4,hsf5,hm⟩:=loop1_s hm;unfold m65_slices_IndexFuncint_int__B0 at hm
 rw [hfr11.eq];clear hfr11
 have ch13:=hst10
 refine Wp_seq<|Wp_region<|Rop<|op_lss rfl rfl<|Rg_nil<|Wp_seq<|Wp_condM hm rfl (fun hc14 hm=>?_) (fun hc14 hm=>?_)
 refine Wp_skip<|Wp_seq<|Wp_block<|Wp_seq<|Wp_region<|Mve (Iv v_1) rfl<|Asg (Iv v_1) rfl<|Rg_nil<|Wp_seq<|Wp_region<|Mve v_f rfl<|Mve (Sl Aa s Ca) rfl<|Mve (Iv v_1) rfl ?_
 obtain⟨hc15,hm⟩:=ck_some hm
 replace Fa:=Fa.step hst10
 refine Rop<|op_indexAddr (q:=(rInt .i64)) ty31 ty3 rfl rfl Fa rfl hc15.1 hc15.2 ?_
 intro p16 f17
 refine Rop<|op_loadP ty3 rfl f17 rfl ?_
 intro v18 h19
 obtain⟨rfl,Rb⟩:=un_int h19
 obtain⟨r_1,hv21,hm⟩:=bd hm
 replace F_f:=F_f.step hst10
 refine Rop<|op_callF rfl (F_f.call hs9.ltw ⟨rfl,Rb⟩ hv21) rfl ?_
 rintro v22 w23 ⟨hx24,h25⟩
 have hs26:=hs9.call hx24
 have p27:=hs9.stepE hx24
 clear hx24
 clear hs9
 obtain rfl:=h25
 refine Rg_nil<|Wp_condM hm rfl (fun hc29 hm=>?_) (fun hc29 hm=>?_)
 refine Wp_seq ?_
 clear Fa F_f f17
 refine Wp_region<|Mve (Iv v_1) rfl<|Asg (Iv v_1) rfl<|Rg_nil<|Wp_ret<|⟨_,Clo,[Iv v_1],⟨rfl,trivial⟩,hs26.ext,?_⟩
 exact Vr.eq (a:=(vI .i64)) (x:=v_1) ⟨rfl,Ra⟩ (oi hm)
 refine Wp_skip ?_
 clear f17
 refine Wp_region<|Rop<|op_addw rfl rfl<|Mve (Iv (IntKind.wrap .i64 (v_1+1))) rfl<|Rg_nil ?_
 replace ch13:=ch13.trans p27
 exact hK6 _ _ ⟨(IntKind.wrap .i64 (v_1+1)),_,rfl,Frm.of ⟨rfl,trivial⟩,ch13,hs26,(inK_wrap .i64 _),jnE1 hsf5 hm⟩
 refine Wp_exit<|Wp_seq ?_
 clear Fa F_f
 refine Wp_region<|Asg (Iv (-1)) rfl<|Rg_nil<|Wp_ret<|⟨_,Clo,[Iv (-1)],⟨rfl,trivial⟩,hs9.ext,?_⟩
 exact Vr.eq (a:=(vI .i64)) (x:=(-1)) ⟨rfl,(show InK .i64 (-1) from by decide)⟩ (oi hm)

def m36_slices_ContainsFuncint_int_ (s:List Int) (f:Int→Option Bool):Option Bool:=
 (m65_slices_IndexFuncint_int_ s f).bind fun indexfunc_1=>
 some (decide (0≤indexfunc_1))

theorem c36_slices_ContainsFuncint_int_ {w:World} {O:List Nat} {s:List Int} {f:Int→Option Bool} {Aa:Option Addr} {Ca:Nat} {v_f:Value} (hO:∀k∈O,k<w.heap.size) (Fa:SlR (rInt .i64) w O Aa Ca s) (F_f:CallsTo1 Try.prog w O v_f (vI .i64) vB f) {x:Bool} (hm:m36_slices_ContainsFuncint_int_ s f=some x):
 Ok Try.prog 36 [Sl Aa s Ca,v_f] w O vB x:=by
 unfold m36_slices_ContainsFuncint_int_ at hm
 refine Fn_of_Wp (n:=9) (xs:=[.tmp 4]) Try.func36 rfl Try.ntmps36 Try.results36 rfl ?_
 have hs:=St.start hO
 refine Wp_seq<|Wp_region<|Asg (Bo false) rfl<|Rg_nil<|Wp_seq<|Wp_region<|Mve (Sl Aa s Ca) rfl<|Mve v_f rfl ?_
 obtain⟨indexfunc_1,hv1,hm⟩:=bd hm
 refine Rop<|op_callE hs Try.call65 (c65_slices_IndexFuncint_int_ (s:=s) (f:=f) hs.ltw Fa F_f hv1) rfl ?_
 rintro v2 w3 p7 hs6 h5
 obtain⟨rfl,Ra⟩:=h5
 refine Rop<|op_geq rfl rfl<|Asg (Bo (decide (0≤indexfunc_1))) rfl<|Rg_nil<|Wp_ret<|⟨_,Clo,[Bo (decide (0≤indexfunc_1))],⟨rfl,trivial⟩,hs6.ext,?_⟩
 exact Vr.eq (a:=vB) (x:=decide (0≤indexfunc_1)) rfl (oi hm)

def m37_problem_Check_1 (n:Int):Option Bool:=
 (m33_problem_within n 0 4096).bind fun within_1=>
 some (!within_1)

theorem c37_problem_Check_1 {w:World} {O:List Nat} {n:Int} (hO:∀k∈O,k<w.heap.size) (Ra:InK .i64 n) {x:Bool} (hm:m37_problem_Check_1 n=some x):
 Ok Try.prog 37 [Iv n] w O vB x:=by
 unfold m37_problem_Check_1 at hm
 refine Fn_of_Wp (n:=6) (xs:=[.tmp 2]) Try.func37 rfl Try.ntmps37 Try.results37 rfl ?_
 have hs:=St.start hO
 refine Wp_seq<|Wp_region<|Asg (Bo false) rfl<|Rg_nil<|Wp_seq<|Wp_region<|Mve (Iv n) rfl ?_
 obtain⟨within_1,hv1,hm⟩:=bd hm
 refine Rop<|op_callE hs Try.call33 (c33_problem_within (n:=n) (lo:=0) (hi:=4096) hs.ltw Ra (show InK .i64 0 from by decide) (show InK .i64 4096 from by decide) hv1) rfl ?_
 rintro v2 w3 p7 hs6 h5
 obtain rfl:=h5
 refine Rop<|op_not rfl<|Asg (Bo (!within_1)) rfl<|Rg_nil<|Wp_ret<|⟨_,Clo,[Bo (!within_1)],⟨rfl,trivial⟩,hs6.ext,?_⟩
 exact Vr.eq (a:=vB) (x:=!within_1) rfl (oi hm)

abbrev q38_0:List Nat:=[4,5,6,7,8,9,10,11,12,13,14,15,16,17,18,19,20,21,22,23]

def m38_problem_increasing_B0 (l:List Int) (less:Int→Int→Option Int) (sf3:Int→Option Bool) (i_1:Int):Option Bool:=
 bif (decide (i_1<(l.length:Int))) then
  ck ((0:Int)≤(IntKind.wrap .i64 (i_1 - 1))∧(IntKind.wrap .i64 (i_1 - 1))<(l.length:Int))<|
  ck ((0:Int)≤i_1∧i_1<(l.length:Int))<|
  (less (l.getD (IntKind.wrap .i64 (i_1 - 1)).toNat default) (l.getD i_1.toNat default)).bind fun r_1=>
  bif (decide (0≤r_1)) then
   some false
  else
   sf3 (IntKind.wrap .i64 (i_1+1))
 else
  some true

def m38_problem_increasing (l:List Int) (less:Int→Int→Option Int):Option Bool:=
 loop1 (m38_problem_increasing_B0 l less) (((l.length:Int) - 1).toNat+1) 1

theorem c38_problem_increasing {w:World} {O:List Nat} {l:List Int} {less:Int→Int→Option Int} {Aa:Option Addr} {Ca:Nat} {v_less:Value} (hO:∀k∈O,k<w.heap.size) (Fa:SlR (rInt .i64) w O Aa Ca l) (F_less:CallsTo2 Try.prog w O v_less (vI .i64) (vI .i64) (vI .i64) less) {x:Bool} (hm:m38_problem_increasing l less=some x):
 Ok Try.prog 38 [Sl Aa l Ca,v_less] w O vB x:=by
 unfold m38_problem_increasing at hm
 refine Fn_of_Wp (n:=24) (xs:=[.tmp 4]) Try.func38 rfl Try.ntmps38 Try.results38 rfl ?_
 have hs:=St.start hO
 refine Wp_seq<|Wp_region<|Asg (Bo false) rfl<|Rg_nil<|Wp_seq<|Wp_seq<|Wp_region<|Asg (Iv 1) rfl<|Rg_nil<|Wp_block<|Wr [] [(0,Sl Aa l Ca),(1,v_less),(5,Iv 1)] fun ξ2=>Wp_loopM q38_0 (fun m fr w'=>∃(i_1:Int) (Ebs:Ents),Ebs=[]∧fr [] [(5,Iv i_1)]∧hs.S (ks Ebs O) w'∧St ⟨w,[],[]⟩ O w' Ebs∧InK .i64 i_1∧loop1 (m38_problem_increasing_B0 l less) m i_1=some x) (((l.length:Int) - 1).toNat+1) ⟨1,_,rfl,Frm.of ⟨rfl,trivial⟩,Step.refl _ _,hs,(show InK .i64 1 from by decide),hm⟩ ?_ ?_
 rintro _ _ ⟨_,_,_,_,_,_,_,hm⟩;exact loop1_z hm
 rintro m6 K5 hK5 ρ11 w7 ⟨i_1,_,rfl,hfr10,hst9,hs8,Ra,hm⟩
 obtain⟨sf3,hsf4,hm⟩:=loop1_s hm;unfold m38_problem_increasing_B0 at hm
 rw [hfr10.eq];clear hfr10
 have ch12:=hst9
 refine Wp_seq<|Wp_seq<|Wp_region<|Mve (Iv i_1) rfl<|Mve (Sl Aa l Ca) rfl<|Rop<|op_len Try.underlying31 rfl ?_
 replace Fa:=Fa.step hst9
 have rl13:=inK_len Fa
 refine Rop<|op_lss rfl rfl<|Rg_nil<|Wp_condM hm rfl (fun hc14 hm=>?_) (fun hc14 hm=>?_)
 refine Wp_skip<|Wp_seq<|Wp_block<|Wp_seq<|Wp_drawR (g0:=[]) (m:=10) (fl:=[]) (TS_inv hs8) rfl (.inl rfl) rfl (by decide+kernel) ?_  -- 4
 refine Dw_p v_less (fun _ _ _ hi ht=>op_move (v:=v_less) (ht 1 rfl)<|Gz hi)<|Dw_p (Sl Aa l Ca) (fun _ _ _ hi ht=>op_move (v:=Sl Aa l Ca) (ht 0 rfl)<|Gz hi)<|Dw_p (Iv i_1) (fun _ _ _ hi ht=>op_move (v:=Iv i_1) (ht 5 rfl)<|Gz hi)<|Dw_p (Iv (IntKind.wrap .i64 (i_1 - 1))) (fun _ _ _ hi ht=>op_subw (ht 14 rfl) rfl<|Gz hi) ?_
 obtain⟨hc30,hm⟩:=ck_some hm
 refine Dw_op (VP _ _ (rInt .i64) (l.getD (IntKind.wrap .i64 (i_1 - 1)).toNat default)) (VP.stab _ _) (fun ρ27 w28 g hle hi ht=>?_) ?_
 obtain⟨-,hst,-⟩:=hle
 replace Fa:=Fa.step hst
 refine StepOp_plain<|op_indexAddr (q:=(rInt .i64)) ty31 ty3 (ht 13 rfl) (ht 15 rfl) Fa rfl hc30.1 hc30.2 ?_
 intro p31 f32
 exact Goes.same hi ⟨_,rfl,f32⟩
 refine Dw_op (VD _ _ (vI .i64) (l.getD (IntKind.wrap .i64 (i_1 - 1)).toNat default)) (VD.stab _ _) (fun ρ33 w34 g hle hi ht=>?_) ?_
 obtain⟨p36,q37,f38⟩:=ht 16 rfl
 refine StepOp_plain<|op_loadP ty3 q37 f38 rfl ?_
 intro v39 h40
 obtain⟨rfl,Rb⟩:=un_int h40
 exact Goes.same hi (show Vr.vd (vI .i64) _ _ _ _ from⟨rfl,Rb⟩)
 refine Dw_p (Sl Aa l Ca) (fun _ _ _ hi ht=>op_move (v:=Sl Aa l Ca) (ht 0 rfl)<|Gz hi)<|Dw_p (Iv i_1) (fun _ _ _ hi ht=>op_move (v:=Iv i_1) (ht 5 rfl)<|Gz hi) ?_
 obtain⟨hc51,hm⟩:=ck_some hm
 refine Dw_op (VP _ _ (rInt .i64) (l.getD i_1.toNat default)) (VP.stab _ _) (fun ρ48 w49 g hle hi ht=>?_) ?_
 obtain⟨-,hst,-⟩:=hle
 replace Fa:=Fa.step hst
 refine StepOp_plain<|op_indexAddr (q:=(rInt .i64)) ty31 ty3 (ht 18 rfl) (ht 19 rfl) Fa rfl hc51.1 hc51.2 ?_
 intro p52 f53
 exact Goes.same hi ⟨_,rfl,f53⟩
 refine Dw_op (VD _ _ (vI .i64) (l.getD i_1.toNat default)) (VD.stab _ _) (fun ρ54 w55 g hle hi ht=>?_) ?_
 obtain⟨p57,q58,f59⟩:=ht 20 rfl
 refine StepOp_plain<|op_loadP ty3 q58 f59 rfl ?_
 intro v60 h61
 obtain⟨rfl,Rc⟩:=un_int h61
 exact Goes.same hi (show Vr.vd (vI .i64) _ _ _ _ from⟨rfl,Rc⟩)
 refine Dw_nil fun w67 g68 hl69 hi70=>?_
 obtain⟨-,hst71,-⟩:=hl69
 obtain⟨hs73,p72⟩:=Step.nx hi70
 rintro v74 h75
 replace h75:Vr.vd (vI .i64) _ _ _ _:=h75
 obtain⟨rfl,Rd⟩:=h75
 rintro _ ⟨p77,rfl,f78⟩ _ rfl _ rfl v79 h80
 replace h80:Vr.vd (vI .i64) _ _ _ _:=h80
 obtain⟨rfl,Re⟩:=h80
 rintro _ ⟨p82,rfl,f83⟩ _ rfl _ rfl _ rfl _ rfl
 have p84:=hs8.to hs73 (hst71.trans p72)
 replace f78:=f78.step p72;replace f83:=f83.step p72;clear hs8
 obtain⟨r_1,hv85,hm⟩:=bd hm
 replace F_less:=F_less.step (hst9.trans p84)
 refine Rop<|op_callF rfl (F_less.call hs73.ltw ⟨rfl,Re⟩ ⟨rfl,Rd⟩ hv85) rfl ?_
 rintro v86 w87 ⟨hx88,h89⟩
 have hs90:=hs73.call hx88
 have p91:=hs73.stepE hx88
 clear hx88
 clear hs73
 obtain⟨rfl,Rf⟩:=h89
 refine Rop<|op_geq rfl rfl<|Rg_nil<|Wp_condM hm rfl (fun hc93 hm=>?_) (fun hc93 hm=>?_)
 refine Wp_seq ?_
 clear Fa F_less f78 f83
 refine Wp_region<|Asg (Bo false) rfl<|Rg_nil<|Wp_ret<|⟨_,Clo,[Bo false],⟨rfl,trivial⟩,hs90.ext,?_⟩
 exact Vr.eq (a:=vB) (x:=false) rfl (oi hm)
 refine Wp_skip ?_
 clear f78 f83
 refine Wp_region<|Mve (Iv i_1) rfl<|Rop<|op_addw rfl rfl<|Asg (Iv (IntKind.wrap .i64 (i_1+1))) rfl<|Rg_nil ?_
 have p94:=(p84.trans p91)
 replace ch12:=ch12.trans p94
 exact hK5 _ _ ⟨(IntKind.wrap .i64 (i_1+1)),_,rfl,Frm.of ⟨rfl,trivial⟩,ch12,hs90,(inK_wrap .i64 _),jnE1 hsf4 hm⟩
 refine Wp_exit<|Wp_seq ?_
 clear Fa F_less
 refine Wp_region<|Asg (Bo true) rfl<|Rg_nil<|Wp_ret<|⟨_,Clo,[Bo true],⟨rfl,trivial⟩,hs8.ext,?_⟩
 exact Vr.eq (a:=vB) (x:=true) rfl (oi hm)

abbrev q40_0:List Nat:=[4,5,6,7,8,9,10,11,12,13,14,15,16,17,18,19,20,21,22,23]

def m40_api_Use__B0 (l:List XUse) (less:XUse→XUse→Option Int) (sf3:Int→Option Bool) (i_1:Int):Option Bool:=
 bif (decide (i_1<(l.length:Int))) then
  ck ((0:Int)≤(IntKind.wrap .i64 (i_1 - 1))∧(IntKind.wrap .i64 (i_1 - 1))<(l.length:Int))<|
  ck ((0:Int)≤i_1∧i_1<(l.length:Int))<|
  (less (⟨(⟨(l.getD (IntKind.wrap .i64 (i_1 - 1)).toNat default).cell,(l.getD (IntKind.wrap .i64 (i_1 - 1)).toNat default).places⟩:XUse).cell,(⟨(l.getD (IntKind.wrap .i64 (i_1 - 1)).toNat default).cell,(l.getD (IntKind.wrap .i64 (i_1 - 1)).toNat default).places⟩:XUse).places⟩:XUse) (⟨(⟨(l.getD i_1.toNat default).cell,(l.getD i_1.toNat default).places⟩:XUse).cell,(⟨(l.getD i_1.toNat default).cell,(l.getD i_1.toNat default).places⟩:XUse).places⟩:XUse)).bind fun r_1=>
  bif (decide (0≤r_1)) then
   some false
  else
   sf3 (IntKind.wrap .i64 (i_1+1))
 else
  some true

def m40_api_Use_ (l:List XUse) (less:XUse→XUse→Option Int):Option Bool:=
 loop1 (m40_api_Use__B0 l less) (((l.length:Int) - 1).toNat+1) 1

theorem c40_api_Use_ {w:World} {O:List Nat} {l:List XUse} {less:XUse→XUse→Option Int} {Aa:Option Addr} {Ca:Nat} {v_less:Value} (hO:∀k∈O,k<w.heap.size) (Fa:SlR rXUse w O Aa Ca l) (F_less:CallsTo2 Try.prog w O v_less (vA rXUse) (vA rXUse) (vI .i64) less) {x:Bool} (hm:m40_api_Use_ l less=some x):
 Ok Try.prog 40 [Sl Aa l Ca,v_less] w O vB x:=by
 unfold m40_api_Use_ at hm
 refine Fn_of_Wp (n:=24) (xs:=[.tmp 4]) Try.func40 rfl Try.ntmps40 Try.results40 rfl ?_
 have hs:=St.start hO
 refine Wp_seq<|Wp_region<|Asg (Bo false) rfl<|Rg_nil<|Wp_seq<|Wp_seq<|Wp_region<|Asg (Iv 1) rfl<|Rg_nil<|Wp_block<|Wr [] [(0,Sl Aa l Ca),(1,v_less),(5,Iv 1)] fun ξ2=>Wp_loopM q40_0 (fun m fr w'=>∃(i_1:Int) (Ebs:Ents),Ebs=[]∧fr [] [(5,Iv i_1)]∧hs.S (ks Ebs O) w'∧St ⟨w,[],[]⟩ O w' Ebs∧InK .i64 i_1∧loop1 (m40_api_Use__B0 l less) m i_1=some x) (((l.length:Int) - 1).toNat+1) ⟨1,_,rfl,Frm.of ⟨rfl,trivial⟩,Step.refl _ _,hs,(show InK .i64 1 from by decide),hm⟩ ?_ ?_
 rintro _ _ ⟨_,_,_,_,_,_,_,hm⟩;exact loop1_z hm
 rintro m6 K5 hK5 ρ11 w7 ⟨i_1,_,rfl,hfr10,hst9,hs8,Ra,hm⟩
 obtain⟨sf3,hsf4,hm⟩:=loop1_s hm;unfold m40_api_Use__B0 at hm
 rw [hfr10.eq];clear hfr10
 have ch12:=hst9
 refine Wp_seq<|Wp_seq<|Wp_region<|Mve (Iv i_1) rfl<|Mve (Sl Aa l Ca) rfl<|Rop<|op_len Try.underlying56 rfl ?_
 replace Fa:=Fa.step hst9
 have rl13:=inK_len Fa
 refine Rop<|op_lss rfl rfl<|Rg_nil<|Wp_condM hm rfl (fun hc14 hm=>?_) (fun hc14 hm=>?_)
 refine Wp_skip<|Wp_seq<|Wp_block<|Wp_seq<|Wp_drawR (g0:=[]) (m:=10) (fl:=[]) (TS_inv hs8) rfl (.inl rfl) rfl (by decide+kernel) ?_  -- 4
 refine Dw_p v_less (fun _ _ _ hi ht=>op_move (v:=v_less) (ht 1 rfl)<|Gz hi)<|Dw_p (Sl Aa l Ca) (fun _ _ _ hi ht=>op_move (v:=Sl Aa l Ca) (ht 0 rfl)<|Gz hi)<|Dw_p (Iv i_1) (fun _ _ _ hi ht=>op_move (v:=Iv i_1) (ht 5 rfl)<|Gz hi)<|Dw_p (Iv (IntKind.wrap .i64 (i_1 - 1))) (fun _ _ _ hi ht=>op_subw (ht 14 rfl) rfl<|Gz hi) ?_
 obtain⟨hc30,hm⟩:=ck_some hm
 refine Dw_op (VP _ _ rXUse (l.getD (IntKind.wrap .i64 (i_1 - 1)).toNat default)) (VP.stab _ _) (fun ρ27 w28 g hle hi ht=>?_) ?_
 obtain⟨-,hst,-⟩:=hle
 replace Fa:=Fa.step hst
 refine StepOp_plain<|op_indexAddr (q:=rXUse) ty56 ty76 (ht 13 rfl) (ht 15 rfl) Fa rfl hc30.1 hc30.2 ?_
 intro p31 f32
 exact Goes.same hi ⟨_,rfl,f32⟩
 refine Dw_op (VD _ _ (vA rXUse) (⟨(l.getD (IntKind.wrap .i64 (i_1 - 1)).toNat default).cell,(l.getD (IntKind.wrap .i64 (i_1 - 1)).toNat default).places⟩:XUse)) (VD.stab _ _) (fun ρ33 w34 g hle hi ht=>?_) ?_
 obtain⟨p36,q37,f38⟩:=ht 16 rfl
 refine StepOp_plain<|op_loadPA ty76 q37 f38 rfl ?_
 intro vs39 h40
 obtain⟨_,_,rfl,⟨_,_,rfl,rfl,⟨_,_,rfl,⟨rfl,Rb⟩,⟨rfl,Rc⟩⟩⟩,⟨rfl,Rd⟩⟩:=h40
 exact Goes.same hi (show Vr.vd (vA rXUse) _ _ _ _ from(mkA (mkVia (mk_pair (mkVia (mk_pair mkBool (mk_pair (mk_int Rb) (mk_int Rc)))) (mk_int Rd)))))
 refine Dw_p (Sl Aa l Ca) (fun _ _ _ hi ht=>op_move (v:=Sl Aa l Ca) (ht 0 rfl)<|Gz hi)<|Dw_p (Iv i_1) (fun _ _ _ hi ht=>op_move (v:=Iv i_1) (ht 5 rfl)<|Gz hi) ?_
 obtain⟨hc51,hm⟩:=ck_some hm
 refine Dw_op (VP _ _ rXUse (l.getD i_1.toNat default)) (VP.stab _ _) (fun ρ48 w49 g hle hi ht=>?_) ?_
 obtain⟨-,hst,-⟩:=hle
 replace Fa:=Fa.step hst
 refine StepOp_plain<|op_indexAddr (q:=rXUse) ty56 ty76 (ht 18 rfl) (ht 19 rfl) Fa rfl hc51.1 hc51.2 ?_
 intro p52 f53
 exact Goes.same hi ⟨_,rfl,f53⟩
 refine Dw_op (VD _ _ (vA rXUse) (⟨(l.getD i_1.toNat default).cell,(l.getD i_1.toNat default).places⟩:XUse)) (VD.stab _ _) (fun ρ54 w55 g hle hi ht=>?_) ?_
 obtain⟨p57,q58,f59⟩:=ht 20 rfl
 refine StepOp_plain<|op_loadPA ty76 q58 f59 rfl ?_
 intro vs60 h61
 obtain⟨_,_,rfl,⟨_,_,rfl,rfl,⟨_,_,rfl,⟨rfl,Re⟩,⟨rfl,Rf⟩⟩⟩,⟨rfl,Rg⟩⟩:=h61
 exact Goes.same hi (show Vr.vd (vA rXUse) _ _ _ _ from(mkA (mkVia (mk_pair (mkVia (mk_pair mkBool (mk_pair (mk_int Re) (mk_int Rf)))) (mk_int Rg)))))
 refine Dw_nil fun w67 g68 hl69 hi70=>?_
 obtain⟨-,hst71,-⟩:=hl69
 obtain⟨hs73,p72⟩:=Step.nx hi70
 rintro v74 h75
 replace h75:Vr.vd (vA rXUse) _ _ _ _:=h75
 obtain⟨_,rfl,⟨_,_,rfl,⟨_,_,rfl,rfl,⟨_,_,rfl,⟨rfl,Rh⟩,⟨rfl,Ri⟩⟩⟩,⟨rfl,Rj⟩⟩⟩:=h75
 rintro _ ⟨p77,rfl,f78⟩ _ rfl _ rfl v79 h80
 replace h80:Vr.vd (vA rXUse) _ _ _ _:=h80
 obtain⟨_,rfl,⟨_,_,rfl,⟨_,_,rfl,rfl,⟨_,_,rfl,⟨rfl,Rk⟩,⟨rfl,Rl⟩⟩⟩,⟨rfl,Rm⟩⟩⟩:=h80
 rintro _ ⟨p82,rfl,f83⟩ _ rfl _ rfl _ rfl _ rfl
 have p84:=hs8.to hs73 (hst71.trans p72)
 replace f78:=f78.step p72;replace f83:=f83.step p72;clear hs8
 obtain⟨r_1,hv85,hm⟩:=bd hm
 replace F_less:=F_less.step (hst9.trans p84)
 refine Rop<|op_callF rfl (F_less.call hs73.ltw (mkA (mkVia (mk_pair (mkVia (mk_pair mkBool (mk_pair (mk_int Rk) (mk_int Rl)))) (mk_int Rm)))) (mkA (mkVia (mk_pair (mkVia (mk_pair mkBool (mk_pair (mk_int Rh) (mk_int Ri)))) (mk_int Rj)))) hv85) rfl ?_
 rintro v86 w87 ⟨hx88,h89⟩
 have hs90:=hs73.call hx88
 have p91:=hs73.stepE hx88
 clear hx88
 clear hs73
 obtain⟨rfl,Rn⟩:=h89
 refine Rop<|op_geq rfl rfl<|Rg_nil<|Wp_condM hm rfl (fun hc93 hm=>?_) (fun hc93 hm=>?_)
 refine Wp_seq ?_
 clear Fa F_less f78 f83
 refine Wp_region<|Asg (Bo false) rfl<|Rg_nil<|Wp_ret<|⟨_,Clo,[Bo false],⟨rfl,trivial⟩,hs90.ext,?_⟩
 exact Vr.eq (a:=vB) (x:=false) rfl (oi hm)
 refine Wp_skip ?_
 clear f78 f83
 refine Wp_region<|Mve (Iv i_1) rfl<|Rop<|op_addw rfl rfl<|Asg (Iv (IntKind.wrap .i64 (i_1+1))) rfl<|Rg_nil ?_
 have p94:=(p84.trans p91)
 replace ch12:=ch12.trans p94
 exact hK5 _ _ ⟨(IntKind.wrap .i64 (i_1+1)),_,rfl,Frm.of ⟨rfl,trivial⟩,ch12,hs90,(inK_wrap .i64 _),jnE1 hsf4 hm⟩
 refine Wp_exit<|Wp_seq ?_
 clear Fa F_less
 refine Wp_region<|Asg (Bo true) rfl<|Rg_nil<|Wp_ret<|⟨_,Clo,[Bo true],⟨rfl,trivial⟩,hs8.ext,?_⟩
 exact Vr.eq (a:=vB) (x:=true) rfl (oi hm)

def m41_problem_Check_2 (a:XUse) (b:XUse):Option Int:=
 (m35_problem_compare a.cell b.cell).bind fun compare_1=>
 some compare_1

theorem c41_problem_Check_2 {w:World} {O:List Nat} {a:XUse} {b:XUse} (hO:∀k∈O,k<w.heap.size) (Ra:InK .i64 a.cell.index) (Rb:InK .i64 a.cell.minute) (Rc:InK .i64 a.places) (Rd:InK .i64 b.cell.index) (Re:InK .i64 b.cell.minute) (Rf:InK .i64 b.places) {x:Int} (hm:m41_problem_Check_2 a b=some x):
 Ok Try.prog 41 [Value.agg [Bo a.cell.airport,Iv a.cell.index,Iv a.cell.minute,Iv a.places].toArray,Value.agg [Bo b.cell.airport,Iv b.cell.index,Iv b.cell.minute,Iv b.places].toArray] w O (vI .i64) x:=by
 unfold m41_problem_Check_2 at hm
 refine Fn_of_Wp (n:=10) (xs:=[.tmp 4]) Try.func41 rfl Try.ntmps41 Try.results41 rfl ?_
 have hs:=St.start hO
 refine Wp_seq<|Wp_region<|Rop<|op_box (cs:=[Bo a.cell.airport,Iv a.cell.index,Iv a.cell.minute,Iv a.places]) hs rfl rfl ?_
 intro b1 w2 _ p3 hs4
 refine Rop<|op_box (cs:=[Bo b.cell.airport,Iv b.cell.index,Iv b.cell.minute,Iv b.places]) hs4 rfl rfl ?_
 intro b6 w7 _ p8 hs9
 clear hs4
 refine Asg (Iv 0) rfl<|Rg_nil<|Wp_seq<|Wp_region<|Rop<|op_fA 0 ty76 rfl ty67 rfl rfl<|Rop<|op_loadA (vs:=[Bo a.cell.airport,Iv a.cell.index,Iv a.cell.minute]) (i:=1) ty67 hs9 rfl rfl rfl rfl<|Rop<|op_fA 0 ty76 rfl ty67 rfl rfl<|Rop<|op_loadA (vs:=[Bo b.cell.airport,Iv b.cell.index,Iv b.cell.minute]) (i:=0) ty67 hs9 rfl rfl rfl rfl ?_
 obtain⟨compare_1,hv11,hm⟩:=bd hm
 refine Rop<|op_callE hs9 Try.call35 (c35_problem_compare (a:=a.cell) (b:=b.cell) hs9.ltw Ra Rb Rd Re hv11) rfl ?_
 rintro v12 w13 p17 hs16 h15
 clear hs9
 obtain⟨rfl,Rg⟩:=h15
 refine Asg (Iv compare_1) rfl<|Rg_nil<|Wp_ret<|⟨_,Clo,[Iv compare_1],⟨rfl,trivial⟩,hs16.ext,?_⟩
 exact Vr.eq (a:=(vI .i64)) (x:=compare_1) ⟨rfl,Rg⟩ (oi hm)

end Go.Fx
