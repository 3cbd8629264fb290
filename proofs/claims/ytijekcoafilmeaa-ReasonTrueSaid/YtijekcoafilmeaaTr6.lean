/- For every problem there is a smallest reason exactly if every solution has an overload. -/
import Derived.Test.YtijekcoafilmeaaTr5
import Derived.Test.YtijekcoafilmeaaRows
import Derived.WalkKit
import Derived.ShutString
set_option linter.unusedSimpArgs false
set_option linter.unusedVariables false
set_option maxRecDepth 100000
namespace Go.Fx
open Go Go.RowKit
abbrev W0 (n k:Nat) (ln:Nat):((Int × Int) × List Int→Option (List (List Int) × List Int))→(Int × Int) × List Int→Option (List (List Int) × List Int):=
 fun fx x=>CP x.1.1 x.1.2 (k:Int) ln x.2 (n:Int) fx
theorem Tb {l:List Int} {i:Nat} {c:Int} (h:l[i]?=some c):l.take (i+1)=l.take i++[c]:=by
 rw [List.take_add_one,h];rfl
theorem Tc (n k ln:Nat) (hn:n≤1000) (hk:k≤1000):∀(j fuel at_ c:Nat) (arr:List Int),j<fuel→at_+j=k→arr.length=k→c≤n→
  ∃arr',Ow (W0 n k ln) fuel (((at_:Int),(c:Int)),arr)=some ((ET j (II (c:Int) (n - c))).map (arr.take at_++·),arr')∧arr'.length=k∧arr'.take at_=arr.take at_:=by
 intro j
 induction j with
 |zero=>
  intro fuel at_ c arr hf ha hl hc
  obtain⟨f,rfl⟩:∃f,fuel=f+1:=⟨fuel - 1,by omega⟩
  refine⟨arr,?_,hl,rfl⟩
  show CP (at_:Int) (c:Int) (k:Int) ln arr (n:Int) _=_
  unfold CP FO
  rw [decide_eq_true (by omega),cond_true,BF (by simp;omega),Im]
  simp only [Option.bind_some,List.nil_append,Yr,Option.map_some,List.map_cons,List.map_nil,List.append_nil]
  rw [List.take_of_length_le (by omega)]
 |succ j ih=>
  intro fuel at_ c arr hf ha hl hc
  obtain⟨f,rfl⟩:∃f,fuel=f+1:=⟨fuel - 1,by omega⟩
  show ∃arr',CP (at_:Int) (c:Int) (k:Int) ln arr (n:Int) (Ow (W0 n k ln) f)=_∧_
  unfold CP
  rw [decide_eq_false (by omega),cond_false,BF (by omega),Int.toNat_natCast]
  obtain⟨fu,hfu⟩:∃fu:Nat,fu=1000000:=⟨_,rfl⟩
  rw [← hfu]
  have inner:∀(d c fl:Nat) (a:List Int),n - c=d→c≤n→a.length=k→a[at_]?=some (c:Int)→d<fl→
    ∃a',B0 (Eg (at_:Int) (k:Int) (n:Int) (Ow (W0 n k ln) f)) fl a=some ((ET (j+1) (II (c:Int) d)).map (a.take at_++·),a')∧a'.length=k∧a'.take at_=a.take at_:=by
   intro d
   induction d with
   |zero=>
    intro c fl a h1 h2 h3 h4 h5
    obtain⟨m,rfl⟩:∃m,fl=m+1:=⟨fl - 1,by omega⟩
    refine⟨a,?_,h3,rfl⟩
    rw [FG,Eg,BF (by omega),Int.toNat_natCast,AH h4]
    rw [show IntKind.wrap .i64 ((k:Int) - (at_:Int))=(k:Int) - (at_:Int) from Eb (by omega) (by omega),show IntKind.wrap .i64 ((n:Int) - ((k:Int) - (at_:Int)))=(n:Int) - ((k:Int) - (at_:Int)) from Eb (by omega) (by omega),decide_eq_false (by omega),cond_false]
    rfl
   |succ d ihd=>
    intro c fl a h1 h2 h3 h4 h5
    obtain⟨m,rfl⟩:∃m,fl=m+1:=⟨fl - 1,by omega⟩
    rw [FG,Eg,BF (by omega),Int.toNat_natCast,AH h4]
    rw [show IntKind.wrap .i64 ((k:Int) - (at_:Int))=(k:Int) - (at_:Int) from Eb (by omega) (by omega),show IntKind.wrap .i64 ((n:Int) - ((k:Int) - (at_:Int)))=(n:Int) - ((k:Int) - (at_:Int)) from Eb (by omega) (by omega)]
    by_cases hcn:(c:Int)≤(n:Int) - ((k:Int) - (at_:Int))
    ·
     rw [decide_eq_true hcn,cond_true,BF (by omega),KJ (by omega),KJ (by omega)]
     obtain⟨a2,e1,e2,e3⟩:=ih f (at_+1) (c+1) a (by omega) (by omega) h3 (by omega)
     rw [show((at_+1:Nat):Int)=(at_:Int)+1 by omega,show((c+1:Nat):Int)=(c:Int)+1 by omega] at e1
     rw [e1,T1,Option.bind_some]
     have ht:=Tb h4
     have ha2:a2[at_]?=some (c:Int):=by
      have:(a2.take (at_+1))[at_]?=some (c:Int):=by
       have hm:(a.take at_).length=at_:=by rw [List.length_take];omega
       rw [e3,ht,List.getElem?_append_right (by omega),hm];simp
      rwa [List.getElem?_take,if_pos (by omega)] at this
     have ht2:a2.take at_=a.take at_:=by
      have:=congrArg (List.take at_) e3
      rwa [List.take_take,List.take_take,Nat.min_eq_left (by omega)] at this
     simp only
     rw [BF (by omega),BF (by omega),AH ha2,KJ (by omega)]
     obtain⟨a3,g1,g2,g3⟩:=ihd (c+1) m (a2.set at_ ((c:Int)+1)) (by omega) (by omega) (by rw [List.length_set];exact e2) (by rw [List.getElem?_set_self (by omega)];rfl) (by omega)
     have hts:(a2.set at_ ((c:Int)+1)).take at_=a.take at_:=by rw [List.take_set_of_le (by omega),ht2]
     rw [g1,Option.map_some]
     refine⟨a3,?_,g2,by rw [g3,hts]⟩
     rw [hts,II,ET,List.map_append,List.map_map,show n - (c+1)=d by omega,show((c+1:Nat):Int)=(c:Int)+1 by omega,ht]
     simp [Function.comp_def]
    ·
     rw [decide_eq_false hcn,cond_false,KL (by rw [IN];omega)]
     exact⟨a,rfl,h3,rfl⟩
  obtain⟨a',g1,g2,g3⟩:=inner (n - c) c fu (arr.set at_ (c:Int)) rfl hc (by rw [List.length_set];exact hl) (by rw [List.getElem?_set_self (by omega)]) (by omega)
  have hts:(arr.set at_ (c:Int)).take at_=arr.take at_:=by rw [List.take_set_of_le (by omega)]
  exact⟨a',by rw [g1,hts],g2,by rw [g3,hts]⟩
theorem Uf (n k:Nat) (hn:n≤1000) (hk:k≤1000):Gv (n:Int) (k:Int)=some (ET k (II 0 n)):=by
 unfold Gv GQ
 rw [BF (by omega),Int.toNat_natCast]
 obtain⟨fu,hfu⟩:∃fu:Nat,fu=1000000:=⟨_,rfl⟩
 rw [← hfu]
 obtain⟨a,e,_,_⟩:=Tc n k ((List.replicate k (0:Int)).length) hn hk k fu 0 0 (List.replicate k 0) (by omega) (by omega) (by simp) (by omega)
 have e':Ow (fun fx43 x44=>CP x44.1.1 x44.1.2 (k:Int) ((List.replicate k (0:Int)).length) x44.2 (n:Int) fx43) fu ((0,0),List.replicate k (0:Int))=_:=e
 rw [e']
 simp [T2]
def Hj (vs:List AM):List Int:=vs.map fun v=>(v.choices.length:Int)
def zs (k:Nat):List Int:=List.replicate k 0
theorem QE {vs:List AM} {i:Nat} {v:AM} (h:vs[i]?=some v):(Hj (vs.take (i+1))).reverse=(v.choices.length:Int)::(Hj (vs.take i)).reverse:=by
 unfold Hj
 rw [List.take_add_one,h];simp
theorem PO {u z:List Int} {a:Int} :(u++a::z)[u.length]?=some a:=by simp
theorem Mk {u z:List Int} {a b:Int} {n:Nat} (h:n=u.length):(u++a::z).set n b=u++b::z:=by subst h;simp
def LI (p:A8) (c:List Int):Option (List Int):=(nr (Hj p.variables).reverse c.reverse).map List.reverse
theorem Ug {p:A8} (ch:List Int):∀(t:List Int) (k fuel:Nat),t.length≤p.variables.length→t.length≤1000→(∀a∈t,-1≤a∧a<1000000)→t.length<fuel→
  BC (Dk p ch) fuel (t.reverse++zs k) ((t.length:Int) - 1)=some (match nr (Hj (p.variables.take t.length)).reverse t with |some c=>(c.reverse++zs k,true) |none=>(zs (t.length+k),false)):=by
 intro t
 induction t with
 |nil=>
  intro k fuel _ _ _ hf
  obtain⟨n,rfl⟩:∃n,fuel=n+1:=⟨fuel - 1,by simp at hf;omega⟩
  rw [Ds];unfold Dk
  simp [Hj,nr]
 |cons a t ih=>
  intro k fuel h1 h2 h3 hf
  obtain⟨n,rfl⟩:∃n,fuel=n+1:=⟨fuel - 1,by simp at hf;omega⟩
  simp only [List.length_cons] at h1 h2 hf
  have hlt:t.length<p.variables.length:=by omega
  have hv:p.variables[t.length]?=some p.variables[t.length]:=List.getElem?_eq_getElem hlt
  have ha:=h3 a (List.mem_cons_self ..)
  have e0:(((a::t).length:Nat):Int) - 1=(t.length:Int):=by simp
  have er:(a::t).reverse++zs k=t.reverse++a::zs k:=by simp
  have el:t.length=t.reverse.length:=by simp
  rw [e0,er,Ds,Dk]
  have g1:(t.reverse++a::zs k).getD t.length default=a:=by exact AH (by rw [el];exact PO)
  have hw:IntKind.wrap .i64 (a+1)=a+1:=Eb (by omega) (by omega)
  have g2:(t.reverse++a::zs k).set t.length (a+1)=t.reverse++(a+1)::zs k:=Mk el
  have g3:(t.reverse++(a+1)::zs k).getD t.length default=a+1:=by exact AH (by rw [el];exact PO)
  have g4:(t.reverse++(a+1)::zs k).set t.length 0=t.reverse++0::zs k:=Mk el
  have b1:((0:Int)≤(t.length:Int)∧(t.length:Int)<((t.reverse++a::zs k).length:Int))=True:=by simp<;> omega
  have b2:((0:Int)≤(t.length:Int)∧(t.length:Int)<((t.reverse++(a+1)::zs k).length:Int))=True:=by simp<;> omega
  have c0:decide ((0:Int)≤(t.length:Int))=true:=by simp
  simp only [Int.toNat_natCast]
  simp only [g1,hw,g2,g3,g4,b1,b2,c0,BI,cond_true,Ey hlt,Int.toNat_natCast,AH hv]
  rw [show(a::t).length=t.length+1 from rfl,QE hv]
  simp only [nr]
  by_cases hn:a+1<(p.variables[t.length].choices.length:Int)
  · simp only [hn,decide_true,cond_true,if_true];simp
  ·
   simp only [hn,decide_false,cond_false,if_false]
   rw [show IntKind.wrap .i64 ((t.length:Int) - 1)=(t.length:Int) - 1 from Eb (by omega) (by omega)]
   rw [show t.reverse++0::zs k=t.reverse++zs (k+1) by rw [zs,zs,List.replicate_succ]]
   rw [ih (k+1) n (by omega) (by omega) (fun b hb=>h3 b (List.mem_cons_of_mem _ hb)) (by omega)]
   cases nr (Hj (p.variables.take t.length)).reverse t with
   |none=>simp only [Option.map_none];rw [show t.length+(k+1)=t.length+1+k by omega]
   |some c=>simp [zs,List.replicate_succ]
theorem Uh {p:A8} (ch:List Int) (hl:ch.length=p.variables.length) (hs:p.variables.length≤1000) (hb:∀a∈ch,-1≤a∧a<1000000):
  Di p ch=some (match LI p ch with |some c=>(c,true) |none=>(zs ch.length,false)):=by
 obtain⟨fu,hfu⟩:∃n:Nat,n=1000000:=⟨_,rfl⟩
 unfold Di
 rw [← hfu,BF (by simp;omega)]
 have:=Ug (p:=p) ch ch.reverse 0 fu (by simp;omega) (by simp;omega) (fun a ha=>hb a (by simpa using ha)) (by simp;omega)
 simp only [List.length_reverse,List.reverse_reverse,zs,List.replicate_zero,List.append_nil,Nat.add_zero] at this
 rw [List.nil_append,show IntKind.wrap .i64 ((ch.length:Int) - 1)=(ch.length:Int) - 1 from Eb (by omega) (by omega),this]
 unfold LI
 rw [hl,List.take_length]
 cases nr (Hj p.variables).reverse ch.reverse with
 |none=>simp [zs]
 |some c=>rfl
theorem Ui {p:A8} (ch:List Int):∀(t:List Int) (k fuel:Nat),t.length≤p.variables.length→t.length+k=ch.length→t.length≤1000→(∀a∈t,-1≤a∧a<1000000)→t.length<fuel→
  BC (Dm p ch) fuel ((t.length:Int) - 1) (t.reverse++zs k)=some (match nr (Hj (p.variables.take t.length)).reverse t with |some c=>(true,c.reverse++zs k) |none=>(false,zs (t.length+k))):=by
 intro t
 induction t with
 |nil=>
  intro k fuel _ _ _ _ hf
  obtain⟨n,rfl⟩:∃n,fuel=n+1:=⟨fuel - 1,by simp at hf;omega⟩
  rw [Ds];unfold Dm
  simp [Hj,nr]
 |cons a t ih=>
  intro k fuel h1 hk h2 h3 hf
  obtain⟨n,rfl⟩:∃n,fuel=n+1:=⟨fuel - 1,by simp at hf;omega⟩
  simp only [List.length_cons] at h1 h2 hf hk
  have hlt:t.length<p.variables.length:=by omega
  have hv:p.variables[t.length]?=some p.variables[t.length]:=List.getElem?_eq_getElem hlt
  have ha:=h3 a (List.mem_cons_self ..)
  have e0:(((a::t).length:Nat):Int) - 1=(t.length:Int):=by simp
  have er:(a::t).reverse++zs k=t.reverse++a::zs k:=by simp
  have el:t.length=t.reverse.length:=by simp
  rw [e0,er,Ds,Dm]
  have g1:(t.reverse++a::zs k).getD t.length default=a:=by exact AH (by rw [el];exact PO)
  have hw:IntKind.wrap .i64 (a+1)=a+1:=Eb (by omega) (by omega)
  have g2:(t.reverse++a::zs k).set t.length (a+1)=t.reverse++(a+1)::zs k:=Mk el
  have g3:(t.reverse++(a+1)::zs k).getD t.length default=a+1:=by exact AH (by rw [el];exact PO)
  have g4:(t.reverse++(a+1)::zs k).set t.length 0=t.reverse++0::zs k:=Mk el
  have b1:((0:Int)≤(t.length:Int)∧(t.length:Int)<(ch.length:Int)∧(t.length:Int)<((t.reverse++a::zs k).length:Int))=True:=by
   refine eq_true ⟨by omega,by omega,?_⟩;simp only [List.length_append,List.length_reverse,List.length_cons];omega
  have b2:((0:Int)≤(t.length:Int)∧(t.length:Int)<(ch.length:Int)∧(t.length:Int)<((t.reverse++(a+1)::zs k).length:Int))=True:=by
   refine eq_true ⟨by omega,by omega,?_⟩;simp only [List.length_append,List.length_reverse,List.length_cons];omega
  have c0:decide ((0:Int)≤(t.length:Int))=true:=by simp
  simp only [Int.toNat_natCast]
  simp only [g1,hw,g2,g3,g4,b1,b2,c0,BI,cond_true,Ey hlt,Int.toNat_natCast,AH hv]
  rw [show(a::t).length=t.length+1 from rfl,QE hv]
  simp only [nr]
  by_cases hn:a+1<(p.variables[t.length].choices.length:Int)
  · simp only [hn,decide_true,cond_true,if_true];simp
  ·
   simp only [hn,decide_false,cond_false,if_false]
   rw [show IntKind.wrap .i64 ((t.length:Int) - 1)=(t.length:Int) - 1 from Eb (by omega) (by omega)]
   rw [show t.reverse++0::zs k=t.reverse++zs (k+1) by rw [zs,zs,List.replicate_succ]]
   rw [ih (k+1) n (by omega) (by omega) (by omega) (fun b hb=>h3 b (List.mem_cons_of_mem _ hb)) (by omega)]
   cases nr (Hj (p.variables.take t.length)).reverse t with
   |none=>simp only [Option.map_none];rw [show t.length+(k+1)=t.length+1+k by omega]
   |some c=>simp [zs,List.replicate_succ]
theorem W1 {p:A8} (ch:List Int) (hl:ch.length=p.variables.length) (hs:p.variables.length≤1000) (hb:∀a∈ch,-1≤a∧a<1000000):
  DW p ch=some (match LI p ch with |some c=>(true,c) |none=>(false,zs ch.length)):=by
 obtain⟨fu,hfu⟩:∃n:Nat,n=1000000:=⟨_,rfl⟩
 unfold DW
 rw [← hfu]
 have:=Ui (p:=p) ch ch.reverse 0 fu (by simp;omega) (by simp) (by simp;omega) (fun a ha=>hb a (by simpa using ha)) (by simp;omega)
 simp only [List.length_reverse,List.reverse_reverse,zs,List.replicate_zero,List.append_nil,Nat.add_zero] at this
 rw [show IntKind.wrap .i64 ((ch.length:Int) - 1)=(ch.length:Int) - 1 from Eb (by omega) (by omega),this]
 unfold LI
 rw [hl,List.take_length]
 cases nr (Hj p.variables).reverse ch.reverse with
 |none=>simp [zs]
 |some c=>rfl
def CJ (p:A8) (ch:List Int):List (AM × AN):=List.zipWith (fun v a=>(v,v.choices.getD a.toNat default)) p.variables ch
theorem Jv:∀{vs:List AM} {ch:List Int},IQ ch (Hj vs)→∀{i:Nat} {v:AM},vs[i]?=some v→∃a,ch[i]?=some a∧0≤a∧a<(v.choices.length:Int)
 |[],_,_,i,v,h=>by simp at h
 |w::vs,[],hf,_,_,_=>by simp [Hj,IQ] at hf
 |w::vs,a::ch,hf,0,v,h=>by
  simp only [Hj,List.map_cons,IQ] at hf
  simp at h;subst h
  exact⟨a,rfl,hf.1.1,hf.1.2⟩
 |w::vs,a::ch,hf,i+1,v,h=>by
  simp only [Hj,List.map_cons,IQ] at hf
  obtain⟨b,h1,h2⟩:=Jv (vs:=vs) hf.2 (i:=i) (v:=v) (by simpa using h)
  exact⟨b,by simpa using h1,h2⟩
theorem PP {p:A8} {ch:List Int} (hf:IQ ch (Hj p.variables)) {i:Nat} {vc:AM × AN} (h:(CJ p ch)[i]?=some vc):
  p.variables[i]?=some vc.1∧∃a,ch[i]?=some a∧0≤a∧a<(vc.1.choices.length:Int)∧vc.1.choices.getD a.toNat default=vc.2∧vc.2∈vc.1.choices:=by
 unfold CJ at h
 rw [List.getElem?_zipWith] at h
 cases hv:p.variables[i]? with
 |none=>rw [hv] at h;simp at h
 |some v=>
  obtain⟨a,h1,h2,h3⟩:=Jv hf hv
  rw [hv,h1] at h
  simp at h
  subst h
  refine⟨rfl,a,h1,h2,h3,by simp [List.getD],?_⟩
  rw [← List.getD_eq_getElem?_getD,AH (List.getElem?_eq_getElem (show a.toNat<v.choices.length by omega))]
  exact List.getElem_mem _
theorem Hx {p:A8} {ch:List Int} (hf:IQ ch (Hj p.variables)):(CJ p ch).length=ch.length∧ch.length=p.variables.length:=by
 have:=hf.length
 simp [Hj] at this
 refine⟨?_,this⟩
 unfold CJ;simp;omega
theorem PQ {p:A8} {ch:List Int} (hf:IQ ch (Hj p.variables)) {vc:AM × AN} (h:vc∈CJ p ch):vc.1∈p.variables∧vc.2∈vc.1.choices:=by
 obtain⟨i,hi,e⟩:=List.getElem_of_mem h
 have:=PP hf (i:=i) (vc:=vc) (by rw [List.getElem?_eq_getElem hi,e])
 exact⟨LG this.1,by obtain⟨a,_,_,_,_,h⟩:=this.2;exact h⟩
theorem W2 (v:AM) (leaf:Int) (hl:v.leaves.length<9223372036854775807):Em v leaf=some (decide (leaf∈v.leaves)):=by
 unfold Em
 rw [GY (B:=CY v leaf) (fun t=>some (decide (leaf∈t))) v.leaves hl ?_ ?_ (by omega)]
 · intro sf;unfold CY;simp
 ·
  intro sf i x t h1 h2 h3 ih
  unfold CY
  simp only [EY h1,Ey h1,BI,Int.toNat_natCast,AH h2,h3,cond_true,ih]
  by_cases h:x=leaf
  · simp [h]
  ·
   have:leaf≠x:=fun e=>h e.symm
   simp [h,this]
theorem MN {p:A8} (us:List Bp) (k:Int) (hu:∀u∈us,1≤u.places∧u.places≤8):0≤(us.map fun u=>if ix p.cells u.cell=k then u.places else 0).sum∧(us.map fun u=>if ix p.cells u.cell=k then u.places else 0).sum≤8*(us.length:Int):=by
 induction us with
 |nil=>simp
 |cons u us ih=>
  have h1:=ih fun u h=>hu u (List.mem_cons_of_mem _ h)
  have h2:=hu u (List.mem_cons_self ..)
  simp only [List.map_cons,List.sum_cons,List.length_cons]
  split<;> omega
theorem KN {p:A8} (hk:FD p) (hs:Dg p) {vc:AM × AN} (h1:vc.1∈p.variables) (h2:vc.2∈vc.1.choices) (x:Az):0≤HV p x vc∧HV p x vc≤96:=by
 unfold HV Q6
 have h3:=MN (p:=p) vc.2.uses x.cell fun u hu=>(hk.use _ h1 _ h2 u hu).2
 have h4:=(hs.var _ h1).2.2 _ h2
 split<;> omega
theorem Ld {p:A8} (hk:FD p) (hs:Dg p) (x:Az):∀{w:List (AM × AN)},(∀vc∈w,vc.1∈p.variables∧vc.2∈vc.1.choices)→0≤Hs p w x∧Hs p w x≤96*(w.length:Int)
 |[],_=>by simp [Hs]
 |vc::w,h=>by
  have h1:=Ld hk hs x (w:=w) fun vc hvc=>h vc (List.mem_cons_of_mem _ hvc)
  obtain⟨a,b⟩:=h vc (List.mem_cons_self ..)
  have h2:=KN hk hs a b x
  simp only [Hs,List.map_cons,List.sum_cons,List.length_cons] at*
  omega
theorem RJ (p:A8) (w w':List (AM × AN)) (x:Az):Hs p (w++w') x=Hs p w x+Hs p w' x:=by simp [Hs,List.sum_append]
def NV (p:A8) (w:List (AM × AN)) (leaf:Int):List Int:=(List.range p.cells.length).map fun k:Nat=>Hs p w ⟨leaf,(k:Int)⟩
theorem Ls {l m:List Int} (h1:l.length=m.length) (h:∀k,k<l.length→l.getD k default=m.getD k default):l=m:=by
 refine List.ext_getElem h1 fun k a b=>?_
 have:=h k a
 rw [AH (List.getElem?_eq_getElem a),AH (List.getElem?_eq_getElem b)] at this
 exact this
theorem Ml {p:A8} {w:List (AM × AN)} {leaf:Int} {k:Nat} (h:k<p.cells.length):(NV p w leaf).getD k default=Hs p w ⟨leaf,(k:Int)⟩:=by
 refine AH ?_
 unfold NV
 rw [List.getElem?_map,List.getElem?_range h];rfl
theorem JR {l:List Int} {i j:Nat} {a:Int} (hi:i<l.length):(l.set i a).getD j default=if i=j then a else l.getD j default:=by
 by_cases h:i=j
 ·
  subst h
  rw [if_pos rfl];exact AH (by rw [List.getElem?_set_self hi])
 · rw [if_neg h,List.getD,List.getElem?_set_ne h];rfl
theorem W3 (l:List AK) (c:AK) (hl:l.length<9223372036854775807):DL l c=some (ix l c):=by
 rw [RG l c hl];unfold ix;cases l.findIdx? (fun x=>decide (x=c))<;> rfl
theorem Uj {p:A8} (hp:C3 p) (hk:FD p) (hs:Dg p) {ch:List Int} (hf:IQ ch (Hj p.variables)) (leaf:Int):D1 p ch leaf=some (NV p (CJ p ch) leaf):=by
 obtain⟨l1,l2⟩:=Hx hf
 have hc:=hs.cells
 have hvs:=hs.vars
 unfold D1
 rw [BF (by omega)]
 have hlen:((ch.length:Int) - 0).toNat+1=(((CJ p ch).length:Int) - 0).toNat+1:=by rw [l1]
 rw [hlen]
 refine HT (B:=Da p ch leaf) (fun i (s:List Int)=>s.length=p.cells.length∧∀k,k<p.cells.length→s.getD k default=Hs p ((CJ p ch).take i) ⟨leaf,(k:Int)⟩) (fun _ _ _=>some (NV p (CJ p ch) leaf)) (CJ p ch) (by omega) ?_ ?_ (by omega) ?_
 ·
  intro sf s ⟨h1,h2⟩
  unfold Da
  rw [l1];simp only [Jd,cond_false]
  rw [List.take_length] at h2
  congr 1
  exact Ls (by simp [NV,h1]) fun k hk=>by rw [h2 k (by omega),Ml (by omega)]
 ·
  intro sf i s vc t a1 a2 a3 ⟨h1,h2⟩ ih
  obtain⟨v1,a,v2,v3,v4,v5,v6⟩:=PP hf a2
  have hvm:=LG v1
  have hvl:i<p.variables.length:=(List.getElem?_eq_some_iff.1 v1).1
  have hchl:i<ch.length:=by omega
  have hsv:=hs.var _ hvm
  rw [Da]
  simp only [EY hchl,Ey hchl,Ey hvl,BI,cond_true,F9,Int.toNat_natCast,AH v1,AH v2,v5,W2 _ _ (EG (hp.2.2.2 _ hvm).2.2.1),Option.bind_some,a3]
  have htake:∀x,Hs p ((CJ p ch).take (i+1)) x=Hs p ((CJ p ch).take i) x+HV p x vc:=by
   intro x;rw [List.take_add_one,a2,RJ];simp [Hs]
  have hbd:∀x,0≤Hs p ((CJ p ch).take i) x∧Hs p ((CJ p ch).take i) x≤600:=by
   intro x
   have:=Ld hk hs x (w:=(CJ p ch).take i) fun vc h=>PQ hf (List.mem_of_mem_take h)
   have hl:((CJ p ch).take i).length≤6:=by rw [List.length_take];omega
   omega
  cases hcn:decide (leaf∈vc.1.leaves)
  ·
   simp only [Bool.not_false,cond_true]
   refine ih s ⟨h1,fun k hkk=>?_⟩
   rw [h2 k hkk,htake]
   have:leaf ∉ vc.1.leaves:=of_decide_eq_false hcn
   simp [HV,this]
  ·
   simp only [Bool.not_true,cond_false]
   have hlf:leaf∈vc.1.leaves:=of_decide_eq_true hcn
   rw [BF (by omega)]
   refine HT (B:=CZ p ch (i:Int) fun n_2=>sf n_2 ((i:Int)+1)) (fun j (s':List Int)=>s'.length=p.cells.length∧∀k,k<p.cells.length→s'.getD k default=Hs p ((CJ p ch).take i) ⟨leaf,(k:Int)⟩+((vc.2.uses.take j).map fun u=>if ix p.cells u.cell=(k:Int) then u.places else 0).sum) (fun _ _ _=>some (NV p (CJ p ch) leaf)) vc.2.uses (by have:=hsv.2.2 _ v6;omega) ?_ ?_ (by omega) ⟨h1,fun k hkk=>by rw [h2 k hkk];simp⟩
   ·
    intro sf' s' ⟨g1,g2⟩
    unfold CZ
    simp only [Int.toNat_natCast,AH v1,AH v2,v5,Jd,cond_false]
    rw [List.take_length] at g2
    refine ih s' ⟨g1,fun k hkk=>?_⟩
    rw [g2 k hkk,htake]
    simp [HV,hlf,Q6]
   ·
    intro sf' j s' u tu d1 d2 d3 ⟨g1,g2⟩ ih'
    have hu:=hk.use _ hvm _ v6 u (LG d2)
    obtain⟨q,q1,q2⟩:=Km hu.1
    have hq:q<p.cells.length:=(List.getElem?_eq_some_iff.1 q2).1
    unfold CZ
    simp only [Int.toNat_natCast,AH v1,AH v2,v5,AH d2,EY d1,Ey d1,BI,cond_true,W3 _ _ (EG hp.1),Option.bind_some,d3,q1]
    rw [BF (by omega),BF (by omega)]
    have hub:=MN (p:=p) (vc.2.uses.take j) (q:Int) fun u hu=>(hk.use _ hvm _ v6 u (List.mem_of_mem_take hu)).2
    have hjl:(vc.2.uses.take j).length≤12:=by rw [List.length_take];have:=hsv.2.2 _ v6;omega
    have hb:=hbd ⟨leaf,(q:Int)⟩
    have hw:IntKind.wrap .i64 (s'.getD q default+u.places)=s'.getD q default+u.places:=by
     rw [g2 q hq];exact Eb (by omega) (by omega)
    rw [hw]
    refine ih' _ ⟨by rw [List.length_set];exact g1,fun k hkk=>?_⟩
    rw [JR (by omega),List.take_add_one,d2]
    simp only [Option.toList_some,List.map_append,List.map_cons,List.map_nil,List.sum_append,List.sum_cons,List.sum_nil,q1]
    by_cases hqk:q=k
    ·
     subst hqk
     rw [if_pos rfl,g2 q hq];simp;omega
    ·
     have: ¬((q:Int)=(k:Int)):=by omega
     rw [if_neg hqk,g2 k hkk];simp [this]
 ·
  exact⟨by simp,fun k hkk=>by
   rw [AH (by rw [List.getElem?_replicate,if_pos hkk])];simp [Hs]⟩
section
variable {R α σ : Type}
theorem N1 {L:Nat→Int→σ→Option R} (I:Nat→σ→Prop) (N:Nat) (hN:N<9223372036854775807)
  (hE:∀n s,I N s→∃v,L (n+1) (N:Nat) s=some v)
  (hS:∀n (i:Nat) s,i<N→IntKind.i64.wrap ((i:Int)+1)=(i:Int)+1→I i s→(∀s,I (i+1) s→∃v,L n ((i:Int)+1) s=some v)→∃v,L (n+1) (i:Int) s=some v):
  ∀(fuel:Nat) s,N<fuel→I 0 s→∃v,L fuel 0 s=some v:=by
 have main:∀(d i fuel:Nat) s,N - i=d→i≤N→d<fuel→I i s→∃v,L fuel (i:Int) s=some v:=by
  intro d
  induction d with
  |zero=>
   intro i fuel s h1 h2 h3 hI
   obtain⟨n,rfl⟩:∃n,fuel=n+1:=⟨fuel - 1,by omega⟩
   have:i=N:=by omega
   subst this;exact hE n s hI
  |succ d ih=>
   intro i fuel s h1 h2 h3 hI
   obtain⟨n,rfl⟩:∃n,fuel=n+1:=⟨fuel - 1,by omega⟩
   exact hS n i s (by omega) (KJ (by omega)) hI fun s' hs'=>ih (i+1) n s' (by omega) (by omega) (by omega) hs'
 intro fuel s h1 h2
 exact main N 0 fuel s (by omega) (by omega) h1 h2
end
theorem W4 {p:A8} {ch:List Int} (hs:Dg p) (hf:IQ ch (Hj p.variables)):El p ch=some true:=by
 obtain⟨l1,l2⟩:=Hx hf
 have:=hs.vars
 unfold El
 have c0:decide ((p.variables.length:Int)<(ch.length:Int))=false:=by simp<;> omega
 rw [c0,cond_false]
 refine SY (by omega) ?_ ?_
 · intro sf;unfold DB;simp only [Jd,cond_false]
 ·
  intro sf i a h1 h2 h3
  have hlt:i<p.variables.length:=by omega
  obtain⟨b,b1,b2,b3⟩:=Jv hf (List.getElem?_eq_getElem hlt)
  rw [h2] at b1;obtain rfl:=Option.some.inj b1
  have hcl:=(hs.var _ (List.getElem_mem hlt)).2.1
  unfold DB
  simp only [EY h1,Ey h1,Ey hlt,BI,cond_true,Int.toNat_natCast,AH h2,AH (List.getElem?_eq_getElem hlt),LF,Option.bind_some,h3]
  rw [show IntKind.wrap .i64 ((p.variables[i].choices.length:Int) - 1)=(p.variables[i].choices.length:Int) - 1 from Eb (by omega) (by omega)]
  have:BY a 0 ((p.variables[i].choices.length:Int) - 1)=true:=by simp [BY];omega
  rw [this];rfl
theorem H9 (p:A8) (w:List (AM × AN)) (leaf:Int):(NV p w leaf).length=p.cells.length:=by simp [NV]
theorem PR {p:A8} (hk:FD p) {i:Nat} (hi:i<p.capacity.length):(p.capacity.getD i default).length=p.cells.length:=by
 rw [AH (List.getElem?_eq_getElem hi)];exact(hk.row _ (List.getElem_mem hi)).1
theorem Uk {p:A8} (hp:C3 p) (hk:FD p) (hs:Dg p) {ch:List Int} (hf:IQ ch (Hj p.variables)):∃v,DO p ch=some v:=by
 unfold DO
 have hc:=hs.cells;have hcap:=hs.caps
 refine N1 (L:=fun n i s=>BC (CM p ch) n s i) (fun _ _=>True) p.capacity.length (by omega) ?_ ?_ _ 0 (by omega) trivial
 ·
  intro n s _
  show ∃v,BC _ (n+1) _ _=_
  rw [Ds];unfold CM;simp
 ·
  intro n i s h1 h2 _ ih
  show ∃v,BC _ (n+1) _ _=_
  rw [Ds,CM]
  simp only [EY h1,cond_true,Uj hp hk hs hf,Option.bind_some]
  rw [H9]
  refine N1 (L:=fun n k s=>BC (CL p (i:Int) _ _) n s k) (fun _ _=>True) p.cells.length (by omega) ?_ ?_ _ s (by omega) trivial
  ·
   intro n s _
   show ∃v,BC _ (n+1) _ _=_
   rw [Ds,CL,H9,Jd,cond_false,h2]
   exact ih s trivial
  ·
   intro n k s g1 g2 _ ih'
   show ∃v,BC _ (n+1) _ _=_
   rw [Ds,CL,H9,EY g1,cond_true,BF (by omega),BF (by omega),BF (by rw [Int.toNat_natCast,PR hk h1];omega),g2]
   exact ih' _ trivial
theorem Ul {p:A8} (hp:C3 p) (ho:FA p=true) (hs:Dg p) {ch:List Int} (hf:IQ ch (Hj p.variables)):∃v,Ew p ch=some (v,0):=by
 have hk:=FD.of ho
 obtain⟨l1,l2⟩:=Hx hf
 have hv:=hs.vars
 obtain⟨ov,hov⟩:=Uk hp hk hs hf
 unfold Ew
 have c0:decide ((ch.length:Int)≠(p.variables.length:Int))=false:=by simp<;> omega
 rw [Ua hp,ho,W4 hs hf]
 simp only [cond_true,Option.bind_some,ne_eq,not_true_eq_false,decide_false,cond_false,F9,Bool.not_true]
 rw [show decide (¬((ch.length:Int)=(p.variables.length:Int)))=false from c0,cond_false,hov,Option.bind_some]
 have:=N1 (R:={q:List Int × Int // q.2=0}) (L:=fun n i s=>(BC (CD p ch) n s i).bind fun q=>if h:q.2=0 then some ⟨q,h⟩ else none) (fun _ s=>s.length=4) ch.length (by omega) ?_ ?_ (((ch.length:Int) - 0).toNat+1) [ov,0,0,0] (by omega) rfl
 ·
  obtain⟨⟨q,hq⟩,h⟩:=this
  cases hl:BC (CD p ch) (((ch.length:Int) - 0).toNat+1) [ov,0,0,0] 0 with
  |none=>simp only [hl] at h;cases h
  |some q'=>
   simp only [hl,Option.bind_some] at h
   split at h
   · rename_i hz;obtain⟨a,b⟩:=q';simp only at hz;subst hz;exact⟨a,rfl⟩
   · cases h
 ·
  intro n s _
  refine⟨⟨(s,0),rfl⟩,?_⟩
  simp only [Ds];unfold CD;simp only [Jd,cond_false];rfl
 ·
  intro n i s h1 h2 hI ih
  have hlt:i<p.variables.length:=by omega
  obtain⟨b,b1,b2,b3⟩:=Jv hf (List.getElem?_eq_getElem hlt)
  simp only [Ds]
  rw [CD]
  simp only [EY h1,Ey h1,Ey hlt,BI,cond_true,Int.toNat_natCast,AH b1,AH (List.getElem?_eq_getElem hlt),List.length_set,h2]
  rw [BF ⟨b2,b3⟩,BF (by rw [hI];decide),BF (by rw [hI];decide),BF (by rw [hI];decide),BF (by rw [hI];decide),BF (by rw [hI];decide),BF (by rw [hI];decide)]
  exact ih _ (by simpa using hI)
def Mm (p:A8) (w:List (AM × AN)) (leaf:Nat) (ks:List Nat):List Az:=(ks.filter fun k:Nat=>decide (FL p ⟨(leaf:Int),(k:Int)⟩<Hs p w ⟨(leaf:Int),(k:Int)⟩)).map fun k:Nat=>(⟨(leaf:Int),(k:Int)⟩:Az)
def Gt (p:A8) (w:List (AM × AN)):List Az:=(List.range p.capacity.length).flatMap fun leaf=>Mm p w leaf (List.range p.cells.length)
theorem Um {p:A8} (hp:C3 p) (ho:FA p=true) (hs:Dg p) {ch:List Int} (hf:IQ ch (Hj p.variables)):DC p ch=some (Gt p (CJ p ch),0):=by
 have hk:=FD.of ho
 have hc:=hs.cells;have hcap:=hs.caps
 obtain⟨vv,hvv⟩:=Ul hp ho hs hf
 unfold DC
 rw [hvv]
 simp only [Option.bind_some,ne_eq,not_true_eq_false,decide_false,cond_false]
 have hl:(List.range p.capacity.length).length=p.capacity.length:=List.length_range
 have hfu:((p.capacity.length:Int) - 0).toNat+1=(((List.range p.capacity.length).length:Int) - 0).toNat+1:=by rw [hl]
 rw [hfu]
 refine HT (B:=C8 p ch) (fun i (s:List Az)=>s.length≤12*i) (fun _ (t:List Nat) s=>some (s++t.flatMap fun leaf=>Mm p (CJ p ch) leaf (List.range p.cells.length),(0:Int))) (List.range p.capacity.length) (by omega) ?_ ?_ (by omega) (by simp)
 · intro sf s _;unfold C8;rw [hl];simp
 ·
  intro sf i s x t a1 a2 a3 hI ih
  rw [hl] at a1
  have hx:x=i:=by rw [List.getElem?_range a1] at a2;exact(Option.some.inj a2).symm
  subst hx
  rw [C8]
  simp only [EY a1,cond_true,Uj hp hk hs hf,Option.bind_some]
  have hl2:(List.range p.cells.length).length=p.cells.length:=List.length_range
  rw [H9,show(((p.cells.length:Int) - 0).toNat+1)=(((List.range p.cells.length).length:Int) - 0).toNat+1 by rw [hl2]]
  refine(HT (B:=C7 p (x:Int) sf (NV p (CJ p ch) (x:Int))) (s:=s) (fuel:=(((List.range p.cells.length).length:Int) - 0).toNat+1) (fun j (s':List Az)=>s'.length≤12*x+j) (fun _ (tk:List Nat) s'=>some (s'++Mm p (CJ p ch) x tk++t.flatMap fun leaf=>Mm p (CJ p ch) leaf (List.range p.cells.length),(0:Int))) (List.range p.cells.length) (by omega) ?_ ?_ (by omega) (by omega)).trans (by simp)
  ·
   intro sf' s' hJ
   rw [C7,H9,hl2,Jd,cond_false,a3,ih s' (by rw [hl2] at hJ;omega)]
   simp [Mm]
  ·
   intro sf' j s' k tk b1 b2 b3 hJ ih'
   rw [hl2] at b1
   have hkj:k=j:=by rw [List.getElem?_range b1] at b2;exact(Option.some.inj b2).symm
   subst hkj
   rw [C7,H9,EY b1,cond_true,BF (by omega),BF (by omega),BF (by rw [Int.toNat_natCast,PR hk a1];omega)]
   have hcp:(p.capacity.getD x default).getD k default=FL p ⟨(x:Int),(k:Int)⟩:=by simp [FL]
   simp only [Int.toNat_natCast,Ml b1,b3,hcp]
   cases hd:decide (FL p ⟨(x:Int),(k:Int)⟩<Hs p (CJ p ch) ⟨(x:Int),(k:Int)⟩)
   ·
    rw [cond_false,ih' s' (by omega)]
    simp [Mm,hd]
   ·
    rw [cond_true,BF (by simp;omega),ih' _ (by simp;omega)]
    simp [Mm,hd]
end Go.Fx
set_option maxHeartbeats 0
namespace Go.Fx
open Go Go.RowKit Go.Proofs
end Go.Fx
namespace Go.Fx
open Go Go.RowKit
theorem HW:∀{vs:List AM} {w:List (AM × AN)},w∈Ez (vs.map fun v=>v.choices.map fun c=>(v,c)) ↔ ∃ch,IQ ch (Hj vs)∧w=List.zipWith (fun v a=>(v,v.choices.getD a.toNat default)) vs ch
 |[],w=>by
  simp only [List.map_nil,Ez,List.mem_singleton,Hj]
  constructor
  · rintro rfl;exact⟨[],trivial,rfl⟩
  · rintro⟨ch,h,rfl⟩;rfl
 |v::vs,w=>by
  simp only [List.map_cons,Ez,List.mem_flatMap,List.mem_map,Hj]
  constructor
  ·
   rintro⟨_,⟨c,hc,rfl⟩,t,ht,rfl⟩
   obtain⟨ch,h1,rfl⟩:=HW.1 ht
   obtain⟨i,hi,e⟩:=List.getElem_of_mem hc
   refine⟨(i:Int)::ch,⟨⟨by omega,by omega⟩,h1⟩,?_⟩
   rw [List.zipWith_cons_cons,Int.toNat_natCast,AH (List.getElem?_eq_getElem hi),e]
  ·
   rintro⟨ch,h,rfl⟩
   cases ch with
   |nil=>exact h.elim
   |cons a ch=>
    refine⟨(v,v.choices.getD a.toNat default),⟨v.choices.getD a.toNat default,?_,rfl⟩,_,HW.2 ⟨ch,h.2,rfl⟩,rfl⟩
    have:=h.1
    rw [AH (List.getElem?_eq_getElem (show a.toNat<v.choices.length by omega))]
    exact List.getElem_mem _
theorem Kt:∀{a b c d:List Int},IQ a b→IQ c d→IQ (a++c) (b++d)
 |[],[],_,_,_,h=>h
 |x::a,y::b,_,_,h1,h2=>⟨h1.1,Kt h1.2 h2⟩
 |[],_::_,_,_,h,_=>h.elim
 |_::_,[],_,_,h,_=>h.elim
theorem GB:∀{a b:List Int},IQ a b→IQ a.reverse b.reverse
 |[],[],_=>trivial
 |x::a,y::b,h=>by
  rw [List.reverse_cons,List.reverse_cons]
  exact Kt (GB h.2) ⟨h.1,trivial⟩
 |[],_::_,h=>h.elim
 |_::_,[],h=>h.elim
theorem Un {vs:List AM} (P:List (AM × AN)→Bool):
  ((LH (Hj vs).reverse).all fun c=>P (List.zipWith (fun v a=>(v,v.choices.getD a.toNat default)) vs c.reverse))=(Ez (vs.map fun v=>v.choices.map fun c=>(v,c))).all P:=by
 rw [Bool.eq_iff_iff,List.all_eq_true,List.all_eq_true]
 constructor
 ·
  intro h w hw
  obtain⟨ch,h1,rfl⟩:=HW.1 hw
  have:=h ch.reverse (I4.2 (GB h1))
  rwa [List.reverse_reverse] at this
 ·
  intro h c hc
  have h1:=GB (I4.1 hc)
  rw [List.reverse_reverse] at h1
  exact h _ (HW.2 ⟨c.reverse,h1,rfl⟩)
theorem NW:∀{ns:List Int},(∀n∈ns,n≤8)→(LH ns).length≤8 ^ ns.length
 |[],_=>by simp [LH]
 |n::ns,h=>by
  have ih:=NW (ns:=ns) fun m hm=>h m (List.mem_cons_of_mem _ hm)
  have hn:=h n (List.mem_cons_self ..)
  have hu:(Jk n).length≤8:=by unfold Jk;simp;omega
  have:∀L:List (List Int),(L.flatMap fun t=>(Jk n).map (·::t)).length≤8*L.length:=by
   intro L
   induction L with
   |nil=>simp
   |cons a L ih=>simp only [List.flatMap_cons,List.length_append,List.length_map,List.length_cons];omega
  have:=this (LH ns)
  rw [LH,List.length_cons,Nat.pow_succ]
  omega
/-! the part of a problem -/
structure PartOk (p:A8) (r:Ba):Prop where
 sm:C3 (NS p r)
 small:Dg (NS p r)
 ok:FA (NS p r)=true
 cap:∀x:Az,(0≤x.leaf∧x.leaf<(p.capacity.length:Int))→(0≤x.cell∧x.cell<(p.cells.length:Int))→FL (NS p r) x=if x∈r.places then FL p x else 4096
 capl:(NS p r).capacity.length=p.capacity.length
end Go.Fx
namespace Go.Fx
open Go Go.RowKit Go.Proofs
end Go.Fx
namespace Go.Fx
open Go Go.RowKit
def IJ (w:List (AM × AN)):List (Int × Bp):=w.flatMap fun vc=>vc.1.leaves.flatMap fun k=>vc.2.uses.map fun u=>(k,u)
theorem W5 {p:A8} (hs:Dg p) {ch:List Int} (hf:IQ ch (Hj p.variables)):GN p ch=some (IJ (CJ p ch)):=by
 obtain⟨l1,l2⟩:=Hx hf
 have hv6:=hs.vars
 have main:Gh ch p=some (IJ (CJ p ch)):=by
  unfold Gh
  rw [show(((ch.length:Int) - 0).toNat+1)=((((CJ p ch).length:Int) - 0).toNat+1) by rw [l1]]
  refine GY (B:=Eu ch p) (fun t=>some (IJ t)) (CJ p ch) (by omega) ?_ ?_ (by omega)
  · intro sf;unfold Eu;rw [l1];simp [IJ]
  ·
   intro sf i vc t a1 a2 a3 ih
   obtain⟨v1,a,v2,v3,v4,v5,v6⟩:=PP hf a2
   have hvm:=LG v1
   have hvl:i<p.variables.length:=(List.getElem?_eq_some_iff.1 v1).1
   have hchl:i<ch.length:=by omega
   have hsv:=hs.var _ hvm
   rw [Eu]
   simp only [EY hchl,Ey hchl,Ey hvl,BI,cond_true,Int.toNat_natCast,AH v1]
   refine(GY (B:=Et ch p (i:Int) sf) (fuel:=((vc.1.leaves.length:Int) - 0).toNat+1) (fun tl=>some ((tl.flatMap fun k=>vc.2.uses.map fun u=>(k,u))++IJ t)) vc.1.leaves (by omega) ?_ ?_ (by omega)).trans (by simp [IJ])
   · intro sf';unfold Et;simp only [Int.toNat_natCast,AH v1,Jd,cond_false,a3,ih];simp
   ·
    intro sf' j k tl b1 b2 b3 ih'
    rw [Et]
    simp only [Int.toNat_natCast,AH v1,AH v2,v5,EY b1,Ey b1,Ey hvl,BI,cond_true]
    rw [BF ⟨v3,v4⟩]
    refine(GY (B:=Es ch p (i:Int) (j:Int) sf') (fuel:=((vc.2.uses.length:Int) - 0).toNat+1) (fun tu=>some ((tu.map fun u=>(k,u))++((tl.flatMap fun k=>vc.2.uses.map fun u=>(k,u))++IJ t))) vc.2.uses (by have:=hsv.2.2 _ v6;omega) ?_ ?_ (by omega)).trans (by simp)
    · intro sf'';unfold Es;simp only [Int.toNat_natCast,AH v1,AH v2,v5,Jd,cond_false,b3,ih'];simp
    ·
     intro sf'' q u tu c1 c2 c3 ih''
     rw [Es]
     simp only [Int.toNat_natCast,AH v1,AH v2,AH b2,v5,AH c2,EY c1,Ey c1,BI,cond_true,c3,ih'']
     rfl
 unfold GN
 rw [main];rfl
def IE (p:A8) (L:List (Int × Bp)) (x:Az):Int:=(L.map fun e=>if e.1=x.leaf∧ix p.cells e.2.cell=x.cell then e.2.places else 0).sum
theorem Jw (p:A8) (L M:List (Int × Bp)) (x:Az):IE p (L++M) x=IE p L x+IE p M x:=by simp [IE,List.sum_append]
theorem Uo (p:A8) (us:List Bp) (k:Int) (x:Az):IE p (us.map fun u=>(k,u)) x=if k=x.leaf then (us.map fun u=>if ix p.cells u.cell=x.cell then u.places else 0).sum else 0:=by
 unfold IE
 rw [List.map_map]
 by_cases h:k=x.leaf
 · simp only [h,true_and,if_true,Function.comp_def]
 ·
  simp only [h,false_and,if_false,Function.comp_def]
  induction us with
  |nil=>rfl
  |cons u us ih=>simp only [List.map_cons,List.sum_cons,ih];rfl
theorem Nk (p:A8) (us:List Bp) (x:Az):∀ls:List Int,ls.Nodup→IE p (ls.flatMap fun k=>us.map fun u=>(k,u)) x=if x.leaf∈ls then (us.map fun u=>if ix p.cells u.cell=x.cell then u.places else 0).sum else 0
 |[],_=>by simp [IE]
 |k::ls,h=>by
  have hn:=List.nodup_cons.1 h
  rw [List.flatMap_cons,Jw,Uo,Nk p us x ls hn.2]
  by_cases hk:k=x.leaf
  · subst hk;simp [hn.1]
  ·
   have: ¬x.leaf=k:=fun e=>hk e.symm
   simp [hk,this]
theorem Pd {p:A8} :∀{w:List (AM × AN)},(∀vc∈w,vc.1.leaves.Nodup)→∀x,IE p (IJ w) x=Hs p w x
 |[],_,x=>by simp [IJ,IE,Hs]
 |vc::w,h,x=>by
  have e:IJ (vc::w)=(vc.1.leaves.flatMap fun k=>vc.2.uses.map fun u=>(k,u))++IJ w:=by simp [IJ]
  rw [e,Jw,Nk _ _ _ _ (h vc (List.mem_cons_self ..)),Pd (fun vc hvc=>h vc (List.mem_cons_of_mem _ hvc)) x]
  simp [Hs,HV,Q6]
theorem Nl {p:A8} {L:List (Int × Bp)} (h:∀e∈L,0≤e.2.places) (x:Az):0≤IE p L x:=by
 induction L with
 |nil=>simp [IE]
 |cons e L ih=>
  have h1:=ih fun e he=>h e (List.mem_cons_of_mem _ he)
  have h2:=h e (List.mem_cons_self ..)
  simp only [IE,List.map_cons,List.sum_cons] at*
  split<;> omega
theorem Td {w:List (AM × AN)} {e:Int × Bp} (h:e∈IJ w):∃vc∈w,e.1∈vc.1.leaves∧e.2∈vc.2.uses:=by
 obtain⟨vc,h1,h2⟩:=List.mem_flatMap.1 h
 obtain⟨k,h3,h4⟩:=List.mem_flatMap.1 h2
 obtain⟨u,h5,rfl⟩:=List.mem_map.1 h4
 exact⟨vc,h1,h3,h5⟩
def NX (p:A8) (w:List (AM × AN)):List (List Int):=(List.range p.capacity.length).map fun i:Nat=>NV p w (i:Int)
theorem Up {n m:Nat} {a b:List (List Int)} (ha:PJ n m a) (hb:PJ n m b) (h:∀i k,i<n→k<m→(a.getD i default).getD k default=(b.getD i default).getD k default):a=b:=by
 refine List.ext_getElem (ha.1.trans hb.1.symm) fun i h1 h2=>?_
 have e1:=ha.2 _ (List.getElem_mem h1)
 have e2:=hb.2 _ (List.getElem_mem h2)
 refine Ls (e1.trans e2.symm) fun k hk=>?_
 have:=h i k (by rw [← ha.1];exact h1) (by omega)
 rwa [AH (List.getElem?_eq_getElem h1),AH (List.getElem?_eq_getElem h2)] at this
theorem Pe (p:A8) (w:List (AM × AN)):PJ p.capacity.length p.cells.length (NX p w):=by
 refine⟨by simp [NX],fun r hr=>?_⟩
 obtain⟨i,_,rfl⟩:=List.mem_map.1 hr
 exact H9 _ _ _
theorem Mn {p:A8} {w:List (AM × AN)} {i:Nat} (h:i<p.capacity.length):(NX p w).getD i default=NV p w (i:Int):=
 AH (by unfold NX;rw [List.getElem?_map,List.getElem?_range h];rfl)
theorem Uq {α:Type} {u z:List α} {a b:α} {n:Nat} (h:n=u.length):(u++a::z).set n b=u++b::z:=by subst h;simp
theorem W6 {p:A8} (hp:C3 p) (hk:FD p) (hs:Dg p) {ch:List Int} (hf:IQ ch (Hj p.variables)):G0 p ch=some (NX p (CJ p ch)):=by
 have hc:=hs.cells;have hcap:=hs.caps
 have hway:=fun vc (h:vc∈CJ p ch)=>PQ hf h
 have hU:∀e∈IJ (CJ p ch),(0≤e.1∧e.1<(p.capacity.length:Int))∧e.2.cell∈p.cells∧1≤e.2.places∧e.2.places≤8:=by
  intro e he
  obtain⟨vc,h1,h2,h3⟩:=Td he
  obtain⟨a1,a2⟩:=hway vc h1
  exact⟨hk.leaf _ a1 _ h2,hk.use _ a1 _ a2 _ h3⟩
 have hsum:=Pd (p:=p) (w:=CJ p ch) fun vc h=>hk.lnd _ (hway vc h).1
 have hbd:∀x,IE p (IJ (CJ p ch)) x≤576:=by
  intro x
  rw [hsum]
  have:=Ld hk hs x (w:=CJ p ch) hway
  obtain⟨l1,l2⟩:=Hx hf
  have:=hs.vars
  omega
 -- the uses, one by one
 have adds:∀map_1:List (AK × Int),(∀c∈p.cells,(Bu map_1 c).getD 0=ix p.cells c)→∀(t done:List (Int × Bp)) (rows:List (List Int)),IJ (CJ p ch)=done++t→PJ p.capacity.length p.cells.length rows→
   (∀i k:Nat,i<p.capacity.length→k<p.cells.length→(rows.getD i default).getD k default=IE p done ⟨(i:Int),(k:Int)⟩)→
   IU (FB map_1) (fun rows_2=>some rows_2) t rows=some (NX p (CJ p ch)):=by
  intro map_1 hm t
  induction t with
  |nil=>
   intro done rows h1 h2 h3
   rw [List.append_nil] at h1
   rw [LS]
   congr 1
   refine Up h2 (Pe p _) fun i k hi hkk=>?_
   rw [h3 i k hi hkk,← h1,hsum,Mn hi,Ml hkk]
  |cons e t ih=>
   intro done rows h1 h2 h3
   obtain⟨b1,b2,b3,b4⟩:=hU e (by rw [h1];simp)
   obtain⟨q,q1,q2⟩:=Km b2
   have hq:q<p.cells.length:=(List.getElem?_eq_some_iff.1 q2).1
   have hlr:e.1.toNat<rows.length:=by rw [h2.1];omega
   have hrow:(rows.getD e.1.toNat default).length=p.cells.length:=by rw [AH (List.getElem?_eq_getElem hlr)];exact h2.2 _ (List.getElem_mem hlr)
   have hle:(((e.1.toNat:Nat):Int))=e.1:=by omega
   have hold:=h3 e.1.toNat q (by omega) hq
   have hnn:=Nl (p:=p) (L:=done) (fun e' he'=>by have:=(hU e' (by rw [h1];exact List.mem_append_left _ he')).2.2.1;omega) ⟨e.1,(q:Int)⟩
   have hub:IE p done ⟨e.1,(q:Int)⟩+e.2.places≤576:=by
    have h4:=hbd ⟨e.1,(q:Int)⟩
    rw [h1,Jw] at h4
    have h5:IE p (e::t) ⟨e.1,(q:Int)⟩=e.2.places+IE p t ⟨e.1,(q:Int)⟩:=by simp [IE,q1]
    have h6:=Nl (p:=p) (L:=t) (fun e' he'=>by have:=(hU e' (by rw [h1];simp [he'])).2.2.1;omega) ⟨e.1,(q:Int)⟩
    omega
   rw [KU,FB,hm _ b2,q1]
   rw [BF (by rw [h2.1];exact b1),BF (by rw [hrow];omega),BF (by rw [hrow];omega)]
   rw [Int.toNat_natCast,hold,hle,show IntKind.wrap .i64 (IE p done ⟨e.1,(q:Int)⟩+e.2.places)=IE p done ⟨e.1,(q:Int)⟩+e.2.places from Eb (by omega) (by omega)]
   refine ih (done++[e]) _ (by rw [h1];simp) ⟨by rw [List.length_set];exact h2.1,fun r hr=>?_⟩ fun i k hi hkk=>?_
   ·
    rcases List.mem_or_eq_of_mem_set hr with h |h
    · exact h2.2 r h
    · rw [h,List.length_set];exact hrow
   ·
    rw [Jw]
    have e1:IE p [e] ⟨(i:Int),(k:Int)⟩=if e.1=(i:Int)∧(q:Int)=(k:Int) then e.2.places else 0:=by simp [IE,q1]
    rw [e1]
    by_cases hi':e.1=(i:Int)
    ·
     have hin:e.1.toNat=i:=by omega
     rw [hin,AH (l:=rows.set i _) (by rw [List.getElem?_set_self (by omega)]),JR (by rw [← hin,hrow];exact hq)]
     by_cases hqk:q=k
     · subst hqk;simp [hi']
     ·
      have: ¬((q:Int)=(k:Int)):=by omega
      rw [if_neg hqk,h3 i k hi hkk];simp [this]
    ·
     have hin:e.1.toNat≠i:=by omega
     have e2:(rows.set e.1.toNat ((rows.getD e.1.toNat default).set q (IE p done ⟨e.1,(q:Int)⟩+e.2.places))).getD i default=rows.getD i default:=by
      rw [List.getD,List.getElem?_set_ne hin];rfl
     rw [e2,h3 i k hi hkk];simp [hi']
 have blank0:∀map_1:List (AK × Int),(∀c∈p.cells,(Bu map_1 c).getD 0=ix p.cells c)→
   BC (Ea p ch map_1) ((((List.replicate p.capacity.length ([]:List Int)).length:Int) - 0).toNat+1) 0 (List.replicate p.capacity.length ([]:List Int))=some (NX p (CJ p ch)):=by
  intro map_1 hm
  refine I2 (B:=Ea p ch map_1) (fun i (s:List (List Int))=>s=List.replicate i (List.replicate p.cells.length 0)++List.replicate (p.capacity.length - i) []) (fun _ _ _=>some (NX p (CJ p ch))) (List.replicate p.capacity.length ([]:List Int)) (by simp;omega) ?_ ?_ (by omega) (by simp)
  ·
   intro sf s hI
   rw [Ea,Jd,cond_false,W5 hs hf,Option.bind_some,F9]
   rw [List.length_replicate,Nat.sub_self,List.replicate_zero,List.append_nil] at hI
   subst hI
   refine adds map_1 hm _ [] _ rfl ⟨by simp,fun r hr=>by rw [List.eq_of_mem_replicate hr];simp⟩ fun i k hi hkk=>?_
   rw [AH (l:=List.replicate _ _) (by rw [List.getElem?_replicate,if_pos hi]),AH (by rw [List.getElem?_replicate,if_pos hkk])]
   simp [IE]
  ·
   intro sf i s x t a1 a2 a3 hI ih
   have hi:i<p.capacity.length:=by simpa using a1
   rw [Ea,EY a1,cond_true,BF (by omega),BF (by rw [hI];simp;omega),a3]
   refine ih _ ?_
   rw [hI,Int.toNat_natCast]
   obtain⟨d,hd⟩:∃d,p.capacity.length - i=d+1:=⟨p.capacity.length - i - 1,by omega⟩
   rw [hd,List.replicate_succ,Uq (by simp),show p.capacity.length - (i+1)=d by omega,List.replicate_succ']
   simp
 unfold G0
 refine I2 (B:=EA p ch) (fuel:=((p.cells.length:Int) - 0).toNat+1) (s:=([]:List (AK × Int))) (fun i s=>∀j c,j<i→p.cells[j]?=some c→Bu s c=some (j:Int)) (fun _ _ _=>some (NX p (CJ p ch))) p.cells (EG hp.1) ?_ ?_ (by omega) (fun j c h=>by omega)
 ·
  intro sf s hI
  rw [EA,Jd,cond_false,BF (by omega)]
  refine blank0 s fun c hcc=>?_
  obtain⟨k,e1,e2⟩:=Km hcc
  rw [hI k c (List.getElem?_eq_some_iff.1 e2).1 e2,e1];rfl
 ·
  intro sf i s c t e1 e2 e3 hI ih
  unfold EA
  simp only [Int.toNat_natCast,AH e2,EY e1,Ey e1,BI,cond_true]
  rw [e3]
  refine ih _ fun j c' hj hc'=>?_
  rw [G7]
  by_cases h:c=c'
  ·
   subst h
   rw [if_pos rfl]
   have:=Q5 hk.cells e2;have:=Q5 hk.cells hc'
   congr 1;omega
  ·
   rw [if_neg h]
   refine hI j c' ?_ hc'
   rcases Nat.lt_or_ge j i with hlt |hge
   · exact hlt
   ·
    have:j=i:=by omega
    subst this;rw [e2] at hc';exact absurd (Option.some.inj hc') h
theorem W7 {p:A8} (hp:C3 p) (ho:FA p=true) (hs:Dg p) {ch:List Int} (hf:IQ ch (Hj p.variables)):Gy p ch=some 0:=by
 obtain⟨l1,l2⟩:=Hx hf
 have:=hs.vars
 unfold Gy
 rw [PI hp,ho]
 have c0:decide ((p.variables.length:Int)<(ch.length:Int))=false:=by simp<;> omega
 simp only [cond_true,Option.bind_some,ne_eq,not_true_eq_false,decide_false,cond_false,c0]
 rw [Ik (l:=ch) (B:=E9 p ch) (fun _=>true) (some 270) (some 0) (by omega) ?_ ?_ (by omega)]
 ·
  cases hh:ch.all fun _=>true
  · rw [List.all_eq_false] at hh;obtain⟨x,_,h⟩:=hh;simp at h
  · rfl
 · intro sf;unfold E9;simp only [Jd,cond_false]
 ·
  intro sf i a h1 h2 h3
  have hlt:i<p.variables.length:=by omega
  obtain⟨b,b1,b2,b3⟩:=Jv hf (List.getElem?_eq_getElem hlt)
  rw [h2] at b1;obtain rfl:=Option.some.inj b1
  have hcl:=(hs.var _ (List.getElem_mem hlt)).2.1
  unfold E9
  simp only [EY h1,Ey h1,Ey hlt,BI,cond_true,Int.toNat_natCast,AH h2,AH (List.getElem?_eq_getElem hlt),MH,Option.bind_some,h3]
  rw [show IntKind.wrap .i64 ((p.variables[i].choices.length:Int) - 1)=(p.variables[i].choices.length:Int) - 1 from Eb (by omega) (by omega)]
  have:BY a 0 ((p.variables[i].choices.length:Int) - 1)=true:=by simp [BY];omega
  rw [this];rfl
theorem W8 {p:A8} (hp:C3 p) (ho:FA p=true) (hs:Dg p) {ch:List Int} (hf:IQ ch (Hj p.variables)):G9 p ch=some 0:=by
 obtain⟨l1,l2⟩:=Hx hf
 unfold G9
 rw [W7 hp ho hs hf]
 have c0:decide ((ch.length:Int)≠(p.variables.length:Int))=false:=by simp<;> omega
 simp only [Option.bind_some,ne_eq,not_true_eq_false,decide_false,cond_false]
 rw [show decide (¬((ch.length:Int)=(p.variables.length:Int)))=false from c0];rfl
def KO (p:A8) (w:List (AM × AN)) (leaf:Nat) (ks:List Nat):List (Az × Int):=
 (ks.filter fun k:Nat=>decide (FL p ⟨(leaf:Int),(k:Int)⟩<Hs p w ⟨(leaf:Int),(k:Int)⟩)).map fun k:Nat=>((⟨(leaf:Int),(k:Int)⟩:Az),Hs p w ⟨(leaf:Int),(k:Int)⟩ - FL p ⟨(leaf:Int),(k:Int)⟩)
def Nm (p:A8) (w:List (AM × AN)):List (Az × Int):=(List.range p.capacity.length).flatMap fun leaf=>KO p w leaf (List.range p.cells.length)
theorem W9 {p:A8} (hk:FD p) (x:Az):FL p x≤4096:=by
 unfold FL
 have:∀k∈p.capacity.getD x.leaf.toNat default,k≤4096:=N0 (S:=fun r:List Int=>∀k∈r,k≤4096) (fun r hr k hkk=>((hk.row r hr).2 k hkk).2) (by intro k h;cases h) _
 exact N0 (S:=fun k:Int=>k≤4096) this (by show(0:Int)≤4096;omega) _
theorem S6 {p:A8} (hk:FD p) (hs:Dg p) {ch:List Int} (hf:IQ ch (Hj p.variables)) (x:Az):0≤Hs p (CJ p ch) x∧Hs p (CJ p ch) x≤576:=by
 have:=Ld hk hs x (w:=CJ p ch) fun vc h=>PQ hf h
 obtain⟨l1,l2⟩:=Hx hf
 have:=hs.vars
 omega
theorem WA {p:A8} (hp:C3 p) (ho:FA p=true) (hs:Dg p) {ch:List Int} (hf:IQ ch (Hj p.variables)):FC p ch=some (Nm p (CJ p ch)):=by
 have hk:=FD.of ho
 have hc:=hs.cells;have hcap:=hs.caps
 have hR:=Pe p (CJ p ch)
 have main:ES p ch=some (Nm p (CJ p ch)):=by
  unfold ES
  rw [W6 hp hk hs hf,Option.bind_some,hR.1]
  have hl:(List.range p.capacity.length).length=p.capacity.length:=List.length_range
  rw [show(((p.capacity.length:Int) - 0).toNat+1)=(((List.range p.capacity.length).length:Int) - 0).toNat+1 by rw [hl]]
  refine GY (B:=D3 p (NX p (CJ p ch))) (fun t=>some (t.flatMap fun leaf=>KO p (CJ p ch) leaf (List.range p.cells.length))) (List.range p.capacity.length) (by omega) ?_ ?_ (by omega)
  · intro sf;unfold D3;rw [hl,hR.1];simp
  ·
   intro sf i x t a1 a2 a3 ih
   rw [hl] at a1
   have hx:x=i:=by rw [List.getElem?_range a1] at a2;exact(Option.some.inj a2).symm
   subst hx
   have hl2:(List.range p.cells.length).length=p.cells.length:=List.length_range
   rw [D3,hR.1,EY a1,cond_true,BF (by omega),Int.toNat_natCast,Mn a1,H9]
   rw [show(((p.cells.length:Int) - 0).toNat+1)=(((List.range p.cells.length).length:Int) - 0).toNat+1 by rw [hl2]]
   refine(GY (B:=D2 p (NX p (CJ p ch)) (x:Int) sf) (fuel:=(((List.range p.cells.length).length:Int) - 0).toNat+1) (fun tk=>some (KO p (CJ p ch) x tk++t.flatMap fun leaf=>KO p (CJ p ch) leaf (List.range p.cells.length))) (List.range p.cells.length) (by omega) ?_ ?_ (by omega)).trans (by simp)
   · intro sf';rw [D2,Int.toNat_natCast,Mn a1,H9,hl2,Jd,cond_false,a3,ih];simp [KO]
   ·
    intro sf' j k tk b1 b2 b3 ih'
    rw [hl2] at b1
    have hkj:k=j:=by rw [List.getElem?_range b1] at b2;exact(Option.some.inj b2).symm
    subst hkj
    rw [D2]
    simp only [Int.toNat_natCast,Mn a1,H9,Ml b1,EY b1,Ey b1,Ey a1,BI,cond_true,PR hk a1,b3]
    have hcp:(p.capacity.getD x default).getD k default=FL p ⟨(x:Int),(k:Int)⟩:=by simp [FL]
    have hd:=S6 hk hs hf ⟨(x:Int),(k:Int)⟩
    have h0:=GR hk ⟨(x:Int),(k:Int)⟩
    have h1:=W9 hk ⟨(x:Int),(k:Int)⟩
    rw [hcp,show IntKind.wrap .i64 (Hs p (CJ p ch) ⟨(x:Int),(k:Int)⟩ - FL p ⟨(x:Int),(k:Int)⟩)=Hs p (CJ p ch) ⟨(x:Int),(k:Int)⟩ - FL p ⟨(x:Int),(k:Int)⟩ from Eb (by omega) (by omega),ih']
    by_cases hlt:FL p ⟨(x:Int),(k:Int)⟩<Hs p (CJ p ch) ⟨(x:Int),(k:Int)⟩
    ·
     rw [decide_eq_true (show(0:Int)<Hs p (CJ p ch) ⟨(x:Int),(k:Int)⟩ - FL p ⟨(x:Int),(k:Int)⟩ by omega),cond_true]
     simp [KO,hlt,yl]
    ·
     rw [decide_eq_false (show ¬(0:Int)<Hs p (CJ p ch) ⟨(x:Int),(k:Int)⟩ - FL p ⟨(x:Int),(k:Int)⟩ by omega),cond_false]
     simp [KO,hlt]
 unfold FC
 rw [main];rfl
theorem MO (p:A8) (w:List (AM × AN)):(Nm p w).map (·.1)=Gt p w:=by
 unfold Nm Gt
 rw [List.map_flatMap]
 congr 1;funext leaf
 unfold KO Mm;rw [List.map_map];rfl
theorem MP {p:A8} (hs:Dg p) (w:List (AM × AN)):(Nm p w).length≤48:=by
 have h1:=hs.cells;have h2:=hs.caps
 have:∀t:List Nat,(t.flatMap fun leaf=>KO p w leaf (List.range p.cells.length)).length≤12*t.length:=by
  intro t
  induction t with
  |nil=>simp
  |cons a t ih=>
   have:(KO p w a (List.range p.cells.length)).length≤12:=by
    unfold KO;rw [List.length_map]
    have:=List.length_filter_le (fun k:Nat=>decide (FL p ⟨(a:Int),(k:Int)⟩<Hs p w ⟨(a:Int),(k:Int)⟩)) (List.range p.cells.length)
    rw [List.length_range] at this;omega
   simp only [List.flatMap_cons,List.length_append,List.length_cons];omega
 have:=this (List.range p.capacity.length)
 rw [List.length_range] at this
 unfold Nm;omega
theorem UY {p:A8} (hp:C3 p) (ho:FA p=true) (hs:Dg p) {ch:List Int} (hf:IQ ch (Hj p.variables)):
  ∃v:List Int,GA p ch=some (v,0)∧v.length=4∧decide (0<v.getD 0 default)=!(decide (Gt p (CJ p ch)=[])):=by
 have hk:=FD.of ho
 obtain⟨l1,l2⟩:=Hx hf
 have hv6:=hs.vars
 unfold GA
 rw [W8 hp ho hs hf,WA hp ho hs hf]
 simp only [Option.bind_some,ne_eq,not_true_eq_false,decide_false,cond_false,F9]
 have hW:∀e∈Nm p (CJ p ch),1≤e.2∧e.2≤576:=by
  intro e he
  obtain⟨i,_,h2⟩:=List.mem_flatMap.1 he
  obtain⟨k,h3,rfl⟩:=List.mem_map.1 h2
  have h4:=of_decide_eq_true (List.mem_filter.1 h3).2
  have h5:=S6 hk hs hf ⟨(i:Int),(k:Int)⟩
  have h6:=GR hk ⟨(i:Int),(k:Int)⟩
  simp only;omega
 have tail:∀(t:List (Az × Int)) (s:List Int),s.length=4→(∀e∈t,1≤e.2∧e.2≤576)→0≤s.getD 0 default→s.getD 0 default+576*(t.length:Int)≤1000000→
   ∃v:List Int,IU FV (fun arr_1=>BC (DD p ch) (((ch.length:Int) - 0).toNat+1) 0 arr_1) t s=some (v,0)∧v.length=4∧(0<v.getD 0 default ↔ 0<s.getD 0 default∨t≠[]):=by
  intro t
  induction t with
  |nil=>
   intro s h4 _ h0 _
   rw [LS]
   have:=N1 (R:={q:List Int × Int // q.2=0∧q.1.length=4∧q.1.getD 0 default=s.getD 0 default}) (L:=fun n i s'=>(BC (DD p ch) n i s').bind fun q=>if h:q.2=0∧q.1.length=4∧q.1.getD 0 default=s.getD 0 default then some ⟨q,h⟩ else none) (fun _ s'=>s'.length=4∧s'.getD 0 default=s.getD 0 default) ch.length (by omega) ?_ ?_ (((ch.length:Int) - 0).toNat+1) s (by omega) ⟨h4,rfl⟩
   ·
    obtain⟨⟨q,hq⟩,h⟩:=this
    cases hl:BC (DD p ch) (((ch.length:Int) - 0).toNat+1) 0 s with
    |none=>simp only [hl] at h;cases h
    |some q'=>
     simp only [hl,Option.bind_some] at h
     split at h
     ·
      rename_i hz
      obtain⟨a,b⟩:=q'
      obtain⟨z1,z2,z3⟩:=hz
      simp only at z1 z2 z3
      subst z1
      exact⟨a,rfl,z2,by rw [z3];simp⟩
     · cases h
   ·
    intro n s' hI
    refine⟨⟨(s',0),rfl,hI.1,hI.2⟩,?_⟩
    simp only [Ds];unfold DD;simp only [Jd,cond_false]
    rw [BF hI.1];simp only [Option.bind_some,hI.1,hI.2,and_self,dite_true]
   ·
    intro n i s' h1 h2 hI ih
    have hlt:i<p.variables.length:=by omega
    obtain⟨b,b1,b2,b3⟩:=Jv hf (List.getElem?_eq_getElem hlt)
    simp only [Ds]
    rw [DD]
    simp only [EY h1,Ey h1,Ey hlt,BI,cond_true,Int.toNat_natCast,AH b1,AH (List.getElem?_eq_getElem hlt),List.length_set,h2]
    rw [BF ⟨b2,b3⟩,BF (by rw [hI.1];decide),BF (by rw [hI.1];decide),BF (by rw [hI.1];decide),BF (by rw [hI.1];decide),BF (by rw [hI.1];decide),BF (by rw [hI.1];decide)]
    refine ih _ ⟨by simpa using hI.1,?_⟩
    rw [JR (by simp [hI.1]),if_neg (by omega),JR (by simp [hI.1]),if_neg (by omega),JR (by simp [hI.1]),if_neg (by omega)]
    exact hI.2
  |cons e t ih=>
   intro s h4 hb h0 hM
   have he:=hb e (List.mem_cons_self ..)
   simp only [List.length_cons] at hM
   rw [KU,FV,BF (by rw [h4];decide),BF (by rw [h4];decide)]
   rw [show IntKind.wrap .i64 (s.getD 0 default+e.2)=s.getD 0 default+e.2 from Eb (by omega) (by omega)]
   have hg:(s.set 0 (s.getD 0 default+e.2)).getD 0 default=s.getD 0 default+e.2:=by rw [JR (by omega),if_pos rfl]
   obtain⟨v,v1,v2,v3⟩:=ih (s.set 0 (s.getD 0 default+e.2)) (by simpa using h4) (fun e' h'=>hb e' (List.mem_cons_of_mem _ h')) (by rw [hg];omega) (by rw [hg];omega)
   refine⟨v,v1,v2,v3.trans ?_⟩
   rw [hg]
   constructor
   · intro _;right;simp
   · intro _;left;omega
 have hwl:=MP hs (CJ p ch)
 obtain⟨v,v1,v2,v3⟩:=tail (Nm p (CJ p ch)) [0,0,0,0] rfl hW (by decide) (by show(0:Int)+_≤_;omega)
 refine⟨v,v1,v2,?_⟩
 rw [Bool.eq_iff_iff]
 simp only [decide_eq_true_eq,Bool.not_eq_true',decide_eq_false_iff_not]
 rw [v3,← MO]
 have: ¬(0:Int)<([0,0,0,0]:List Int).getD 0 default:=by decide
 simp [this]
end Go.Fx
namespace Go.Fx
open Go Go.RowKit Go.Proofs
end Go.Fx
namespace Go.Fx
open Go Go.RowKit
theorem Nn {p:A8} (hk:FD p) (hs:Dg p) {f:Int→AN} {i:Int} (hi:0≤i∧i<(p.variables.length:Int)) (hf:f i∈(GO p i).choices) (x:Az):0≤HV p x (GO p i,f i):=by
 have:GO p i∈p.variables:=by
  unfold GO
  rw [AH (List.getElem?_eq_getElem (show i.toNat<p.variables.length by omega))]
  exact List.getElem_mem _
 exact(KN hk hs this hf x).1
theorem QF {p:A8} (hk:FD p) (hs:Dg p) {r r':Ba} (hsub:r.variables.Sublist r'.variables) (hi:∀i∈r'.variables,0≤i∧i<(p.variables.length:Int)) (hn:r'.variables.Nodup) (hpl:∀x∈r.places,x∈r'.places) (h:C4 p r=true):C4 p r'=true:=by
 rw [KK (hn.sublist hsub)] at h
 rw [KK hn]
 intro f hf
 obtain⟨x,hx,hlt⟩:=h f fun i hi=>hf i (hsub.subset hi)
 have:=QB (p:=p) (f:=f) (x:=x) hsub fun i hh=>Nn hk hs (hi i hh) (hf i hh) x
 exact⟨x,hpl x hx,by omega⟩
def Yt (a b:List Int):Prop:=a.length=b.length∧∀k,k<b.length→0≤a.getD k default∧a.getD k default≤b.getD k default
def Yp (rows cap:List (List Int)):Prop:=rows.length=cap.length∧∀i,i<cap.length→Yt (rows.getD i default) (cap.getD i default)
theorem Yt.mem {a b:List Int} (h:Yt a b) (hb:∀k∈b,k≤4096):∀k∈a,0≤k∧k≤4096:=by
 intro k hk
 obtain⟨j,hj,rfl⟩:=List.getElem_of_mem hk
 have hj2:j<b.length:=by rw [← h.1];exact hj
 have:=h.2 j hj2
 rw [AH (List.getElem?_eq_getElem hj),AH (List.getElem?_eq_getElem hj2)] at this
 have:=hb _ (List.getElem_mem hj2)
 omega
theorem Yp.row {rows cap:List (List Int)} (h:Yp rows cap):∀r∈rows,∃c∈cap,Yt r c:=by
 intro r hr
 obtain⟨j,hj,rfl⟩:=List.getElem_of_mem hr
 have hj2:j<cap.length:=by rw [← h.1];exact hj
 have:=h.2 j hj2
 rw [AH (List.getElem?_eq_getElem hj),AH (List.getElem?_eq_getElem hj2)] at this
 exact⟨_,List.getElem_mem hj2,this⟩
theorem In {α:Type} {lt:α→α→Prop} (ht:∀a b c,lt a b→lt b c→lt a c) (hi:∀a,¬lt a a):∀{m l:List α},m.Pairwise lt→l.Pairwise lt→(∀x∈l,x∈m)→l.Sublist m
 |[],l,_,_,h=>by
  cases l with
  |nil=>exact List.Sublist.slnil
  |cons a l=>exact absurd (h a (List.mem_cons_self ..)) (by simp)
 |b::m,[],_,_,_=>List.nil_sublist _
 |b::m,a::l,hm,hl,h=>by
  rw [List.pairwise_cons] at hm hl
  rcases List.mem_cons.1 (h a (List.mem_cons_self ..)) with e |e
  ·
   subst e
   refine List.Sublist.cons_cons _ (In ht hi hm.2 hl.2 fun x hx=>?_)
   rcases List.mem_cons.1 (h x (List.mem_cons_of_mem _ hx)) with e |e
   · exact absurd (hl.1 x hx) (by rw [e];exact hi a)
   · exact e
  ·
   refine List.Sublist.cons _ (In ht hi hm.2 (List.pairwise_cons.2 hl) fun x hx=>?_)
   rcases List.mem_cons.1 (h x hx) with e2 |e2
   ·
    subst e2
    have h1:=hm.1 a e
    rcases List.mem_cons.1 hx with e3 |e3
    · subst e3;exact absurd h1 (hi _)
    · exact absurd (ht _ _ _ h1 (hl.1 _ e3)) (hi _)
   · exact e2
theorem Kp {α:Type} {lt:α→α→Bool} :∀{l:List α},l.Pairwise (fun a b=>lt a b=true)→JB lt l=true
 |[],_=>rfl
 |[a],_=>rfl
 |a::b::l,h=>by
  rw [List.pairwise_cons] at h
  simp only [JB,Bool.and_eq_true]
  exact⟨h.1 b (List.mem_cons_self ..),Kp h.2⟩
theorem NY (a b:Az):pb a b=true ↔ a.leaf<b.leaf∨(a.leaf=b.leaf∧a.cell<b.cell):=by
 unfold pb;simp
theorem Je (a b c:Az) (h1:pb a b=true) (h2:pb b c=true):pb a c=true:=by
 rw [NY] at*;omega
theorem IR (a:Az): ¬pb a a=true:=by rw [NY];omega
theorem Ur {a b:Az} (h1: ¬pb a b=true) (h2:a≠b):pb b a=true:=by
 rw [NY] at*
 obtain⟨a1,a2⟩:=a;obtain⟨b1,b2⟩:=b
 simp only at*
 by_cases e:a1=b1
 ·
  by_cases e2:a2=b2
  · subst e;subst e2;exact absurd rfl h2
  · omega
 · omega
theorem WB {α:Type} {l m:List α} (h1:l.Sublist m) (h2:m.Sublist l):l=m:=h1.eq_of_length (Nat.le_antisymm h1.length_le h2.length_le)
theorem PS {l m:List Az} (hl:l.Pairwise fun a b=>pb a b=true) (hm:m.Pairwise fun a b=>pb a b=true) (h:∀x,x∈l ↔ x∈m):l=m:=
 WB (In (lt:=fun a b=>pb a b=true) Je IR hm hl fun x hx=>(h x).1 hx) (In (lt:=fun a b=>pb a b=true) Je IR hl hm fun x hx=>(h x).2 hx)
def HE (p:A8):List Az:=(List.range p.capacity.length).flatMap fun leaf:Nat=>(List.range p.cells.length).map fun k:Nat=>(⟨(leaf:Int),(k:Int)⟩:Az)
theorem MQ {p:A8} {x:Az} :x∈HE p ↔ (0≤x.leaf∧x.leaf<(p.capacity.length:Int))∧0≤x.cell∧x.cell<(p.cells.length:Int):=by
 unfold HE
 simp only [List.mem_flatMap,List.mem_map,List.mem_range]
 constructor
 · rintro⟨i,hi,k,hk,rfl⟩;simp only;omega
 ·
  rintro⟨h1,h2⟩
  refine⟨x.leaf.toNat,by omega,x.cell.toNat,by omega,?_⟩
  obtain⟨a,b⟩:=x
  simp only at h1 h2 ⊢
  rw [Int.toNat_of_nonneg h1.1,Int.toNat_of_nonneg h2.1]
theorem LJ (p:A8):(HE p).Pairwise fun a b=>pb a b=true:=by
 unfold HE
 rw [List.pairwise_flatMap]
 refine⟨fun i _=>?_,?_⟩
 ·
  rw [List.pairwise_map]
  refine List.Pairwise.imp (R:=fun a b:Nat=>a<b) ?_ List.pairwise_lt_range
  intro a b h
  exact(NY _ _).2 (.inr ⟨rfl,(by show(a:Int)<(b:Int);omega)⟩)
 ·
  refine List.Pairwise.imp (R:=fun a b:Nat=>a<b) ?_ List.pairwise_lt_range
  intro a b h x hx y hy
  obtain⟨k,_,rfl⟩:=List.mem_map.1 hx
  obtain⟨j,_,rfl⟩:=List.mem_map.1 hy
  exact(NY _ _).2 (.inl (by show(a:Int)<(b:Int);omega))
theorem Pf {p:A8} (hs:Dg p):(HE p).length≤48:=by
 have h1:=hs.cells;have h2:=hs.caps
 unfold HE
 rw [List.length_flatMap]
 have:∀t:List Nat,(t.map fun leaf:Nat=>((List.range p.cells.length).map fun k:Nat=>(⟨(leaf:Int),(k:Int)⟩:Az)).length).sum≤12*t.length:=by
  intro t
  induction t with
  |nil=>simp
  |cons a t ih=>simp only [List.map_cons,List.sum_cons,List.length_map,List.length_range,List.length_cons] at ih ⊢;omega
 have:=this (List.range p.capacity.length)
 rw [List.length_range] at this;omega
theorem Mp (p:A8) (w:List (AM × AN)):Gt p w=(HE p).filter fun x=>decide (FL p x<Hs p w x):=by
 unfold Gt HE Mm
 rw [List.filter_flatMap]
 congr 1;funext leaf
 rw [List.filter_map];rfl
theorem HF {p:A8} {w:List (AM × AN)} {x:Az} :x∈Gt p w ↔ x∈HE p∧FL p x<Hs p w x:=by
 rw [Mp,List.mem_filter,decide_eq_true_eq]
def Mq (p:A8) (V:List Int):List Az:=(HE p).filter fun x=>(Ez (BP p V)).any fun w=>decide (FL p x<Hs p w x)
theorem Jf {p:A8} {V:List Int} {x:Az} :x∈Mq p V ↔ x∈HE p∧∃w∈Ez (BP p V),FL p x<Hs p w x:=by
 unfold Mq;rw [List.mem_filter,List.any_eq_true];simp only [decide_eq_true_eq]
theorem HG (p:A8) (V:List Int):(Mq p V).Pairwise fun a b=>pb a b=true:=(LJ p).filter _
abbrev Lh (p:A8):List Az:=Mq p (II 0 p.variables.length)
theorem MR:∀(a:Int) (n:Nat),II a n=(List.range n).map fun k:Nat=>a+(k:Int)
 |a,0=>rfl
 |a,n+1=>by
  rw [II,MR (a+1) n,List.range_succ_eq_map,List.map_cons,List.map_map]
  simp only [Int.natCast_zero,Int.add_zero]
  congr 1
  refine List.map_congr_left fun k _=>?_
  simp only [Function.comp];omega
theorem Pg (p:A8):BP p (II 0 p.variables.length)=p.variables.map fun v=>v.choices.map fun c=>(v,c):=by
 unfold BP
 rw [MR,List.map_map]
 refine List.ext_getElem (by simp) fun i h1 h2=>?_
 have hi:i<p.variables.length:=by simpa using h2
 simp only [List.getElem_map,List.getElem_range,Function.comp,Int.zero_add,Int.toNat_natCast,AH (List.getElem?_eq_getElem hi)]
def MS (x:Az):List Az→List Az
 |[] =>[x]
 |y::t=>if pb y x then y::MS x t else if y=x then y::t else x::y::t
theorem NZ {x y:Az} :∀{l:List Az},y∈MS x l ↔ y=x∨y∈l
 |[] =>by simp [MS]
 |z::t=>by
  unfold MS
  split
  ·
   rw [List.mem_cons,NZ,List.mem_cons]
   constructor
   ·
    rintro(h |h |h)
    · exact .inr (.inl h)
    · exact .inl h
    · exact .inr (.inr h)
   ·
    rintro(h |h |h)
    · exact .inr (.inl h)
    · exact .inl h
    · exact .inr (.inr h)
  ·
   split
   · rename_i h;subst h;simp
   · simp
theorem Ph {x:Az} :∀{l:List Az},l.Pairwise (fun a b=>pb a b=true)→(MS x l).Pairwise fun a b=>pb a b=true
 |[],_=>List.pairwise_singleton ..
 |y::t,h=>by
  have hc:=List.pairwise_cons.1 h
  unfold MS
  split
  ·
   rename_i hp
   refine List.pairwise_cons.2 ⟨fun z hz=>?_,Ph hc.2⟩
   rcases NZ.1 hz with rfl |hz
   · exact hp
   · exact hc.1 z hz
  ·
   rename_i hp
   split
   · exact h
   ·
    rename_i hne
    have hxy:=Ur hp hne
    refine List.pairwise_cons.2 ⟨fun z hz=>?_,h⟩
    rcases List.mem_cons.1 hz with rfl |hz
    · exact hxy
    · exact Je _ _ _ hxy (hc.1 z hz)
def Hb (x:Az) (l:List Az):Nat:=(l.takeWhile fun y=>pb y x).length
theorem UZ (x:Az) (l:List Az):Hb x l≤l.length:=(List.takeWhile_sublist _).length_le
theorem QG (x:Az):∀l:List Az,MS x l=if Hb x l=l.length∨l.getD (Hb x l) default≠x then l.take (Hb x l)++[x]++l.drop (Hb x l) else l
 |[] =>by simp [MS,Hb]
 |y::t=>by
  have ih:=QG x t
  unfold MS
  by_cases h:pb y x=true
  ·
   have e:Hb x (y::t)=Hb x t+1:=by unfold Hb;rw [List.takeWhile_cons,if_pos h];rfl
   rw [if_pos h,ih,e]
   simp only [List.length_cons,Nat.add_right_cancel_iff,List.getD_cons_succ,List.take_succ_cons,List.drop_succ_cons,List.cons_append]
   split<;> rfl
  ·
   have e:Hb x (y::t)=0:=by unfold Hb;rw [List.takeWhile_cons,if_neg h];rfl
   rw [if_neg h,e]
   simp only [List.length_cons,List.getD_cons_zero,List.take_zero,List.drop_zero,List.nil_append]
   by_cases hy:y=x
   · rw [if_pos hy,if_neg (by simp [hy])]
   · rw [if_neg hy,if_pos (.inr hy)];rfl
theorem Te {ov l0:List Az} {E:Int} {i:Nat} {x:Az} (hi:ov[i]?=some x) (k:Int→Option (List Az)):
  ∀(t pre:List Az) (fu:Nat),l0=pre++t→l0.length≤1000→t.length<fu→
   B0 (CN (ov,E) l0 (i:Int) k) fu (pre.length:Int)=k ((pre.length+Hb x t:Nat):Int):=by
 intro t
 have hlt:i<ov.length:=(List.getElem?_eq_some_iff.1 hi).1
 induction t with
 |nil=>
  intro pre fu h1 h2 h3
  obtain⟨n,rfl⟩:∃n,fu=n+1:=⟨fu - 1,by omega⟩
  rw [List.append_nil] at h1;subst h1
  rw [FG,CN]
  simp only [Jd,cond_false,F9];rfl
 |cons y t ih=>
  intro pre fu h1 h2 h3
  obtain⟨n,rfl⟩:∃n,fu=n+1:=⟨fu - 1,by omega⟩
  have hpl:pre.length<l0.length:=by rw [h1];simp
  have hy:l0[pre.length]?=some y:=by rw [h1];simp
  rw [FG,CN]
  simp only [EY hpl,Ey hpl,Ey hlt,BI,cond_true,F9,Int.toNat_natCast,AH hy,AH hi,Wn,Option.bind_some]
  by_cases h:pb y x=true
  ·
   rw [h,cond_true,KJ (by omega)]
   have:=ih (pre++[y]) n (by rw [h1];simp) h2 (by simp at h3;omega)
   rw [List.length_append,List.length_singleton] at this
   rw [show(pre.length:Int)+1=((pre.length+1:Nat):Int) by omega,this]
   have e:Hb x (y::t)=Hb x t+1:=by unfold Hb;rw [List.takeWhile_cons,if_pos h];rfl
   rw [e];congr 1;omega
  ·
   have e:Hb x (y::t)=0:=by unfold Hb;rw [List.takeWhile_cons,if_neg h];rfl
   have h':pb y x=false:=by simpa using h
   rw [h',cond_false,e,Nat.add_zero]
theorem Tf {p:A8} {ch:List Int} {sf20:List Az→List Int→Bool→Option (List Az)} {ov l:List Az} {E:Int} {i:Nat} {x:Az} (hi:ov[i]?=some x) (hl:l.length≤100) (hw:IntKind.i64.wrap ((i:Int)+1)=(i:Int)+1) (sf:List Az→Int→Option (List Az)):
  BM p ch sf20 (ov,E) sf l (i:Int)=sf (MS x l) ((i:Int)+1):=by
 have hlt:i<ov.length:=(List.getElem?_eq_some_iff.1 hi).1
 have hle:=UZ x l
 obtain⟨fu,hfu⟩:∃n:Nat,n=1000000:=⟨_,rfl⟩
 rw [BM,← hfu]
 simp only [EY hlt,cond_true,F9,hw]
 refine(Te (l0:=l) (E:=E) hi _ l [] fu rfl (by omega) (by omega)).trans ?_
 ·
  simp only [List.length_nil,Nat.zero_add,cond_true,Int.toNat_natCast,AH hi,List.nil_append,List.drop_zero,Nat.sub_zero]
  have e1:(l.drop (Hb x l)).take (l.length - Hb x l)=l.drop (Hb x l):=List.take_of_length_le (by simp)
  have ins:(if Hb x l=l.length∨l.getD (Hb x l) default≠x then l.take (Hb x l)++[x]++l.drop (Hb x l) else l)=MS x l:=(QG x l).symm
  have hcks:∀R:Option (List Az),(ck ((0:Int)≤(Hb x l:Int)∧(Hb x l:Int)≤(l.length:Int))<|ck (((l.take (Hb x l)).length)*16≤140737488355328)<|ck ((0:Int)≤(i:Int)∧(i:Int)<(ov.length:Int))<|ck (((l.take (Hb x l)).length+[x].length)*16≤140737488355328)<|ck ((0:Int)≤(Hb x l:Int)∧(Hb x l:Int)≤(l.length:Int))<|ck (((l.take (Hb x l)++[x]).length+((l.drop (Hb x l)).take (l.length - Hb x l)).length)*16≤140737488355328) R)=R:=by
   intro R
   have t1:(l.take (Hb x l)).length≤100:=by rw [List.length_take];omega
   have t2:((l.drop (Hb x l)).take (l.length - Hb x l)).length≤100:=by rw [e1,List.length_drop];omega
   rw [BF (by omega),BF (by omega),BF (by omega),BF (by simp only [List.length_singleton];omega),BF (by omega),BF (by simp only [List.length_append,List.length_singleton];omega)]
  rw [hcks,e1]
  by_cases hp:Hb x l=l.length
  ·
   rw [if_pos (.inl hp)] at ins
   rw [decide_eq_true (by omega),cond_true,ins]
  ·
   rw [decide_eq_false (by omega),cond_false,BF (by omega),BF (by omega)]
   by_cases hx:l.getD (Hb x l) default=x
   ·
    rw [if_neg (fun h=>h.elim hp fun h=>h hx)] at ins
    rw [decide_eq_true hx,Bool.not_true,cond_false];rw [← ins]
   ·
    rw [if_pos (.inr hx)] at ins
    rw [decide_eq_false hx,Bool.not_false,cond_true,ins]
def Kq (l ov:List Az):List Az:=ov.foldl (fun l x=>MS x l) l
theorem LK {x:Az} :∀{ov l:List Az},x∈Kq l ov ↔ x∈l∨x∈ov
 |[],l=>by simp [Kq]
 |y::ov,l=>by
  show x∈Kq (MS y l) ov ↔ _
  rw [LK,NZ,List.mem_cons]
  constructor
  ·
   rintro((h |h) |h)
   · exact .inr (.inl h)
   · exact .inl h
   · exact .inr (.inr h)
  ·
   rintro(h |h |h)
   · exact .inl (.inr h)
   · exact .inl (.inl h)
   · exact .inr h
theorem KP:∀{ov l:List Az},l.Pairwise (fun a b=>pb a b=true)→(Kq l ov).Pairwise fun a b=>pb a b=true
 |[],l,h=>h
 |y::ov,l,h=>KP (ov:=ov) (Ph h)
def QH (p:A8) (l:List Az):Prop:=l.Pairwise (fun a b=>pb a b=true)∧∀x∈l,x∈HE p
theorem QH.len {p:A8} {l:List Az} (hs:Dg p) (h:QH p l):l.length≤48:=
 Nat.le_trans (In (lt:=fun a b=>pb a b=true) Je IR (LJ p) h.1 h.2).length_le (Pf hs)
theorem QH.ins {p:A8} {l ov:List Az} (h:QH p l) (ho:∀x∈ov,x∈HE p):QH p (Kq l ov):=
 ⟨KP h.1,fun x hx=>(LK.1 hx).elim (h.2 x) (ho x)⟩
theorem Pi {p:A8} (hs:Dg p) {ch:List Int} {sf20:List Az→List Int→Bool→Option (List Az)} {ov:List Az} {E:Int} (hov:∀x∈ov,x∈HE p) (hol:ov.length≤1000) {l:List Az} (hl:QH p l):
  BC (BM p ch sf20 (ov,E)) (((ov.length:Int) - 0).toNat+1) l 0=(Di p ch).bind fun nx=>sf20 (Kq l ov) nx.1 nx.2:=by
 refine HT (B:=BM p ch sf20 (ov,E)) (fun _ l=>QH p l) (fun _ t l=>(Di p ch).bind fun nx=>sf20 (Kq l t) nx.1 nx.2) ov (by omega) ?_ ?_ (by omega) hl
 ·
  intro sf s hI
  rw [BM,Jd,cond_false];rfl
 ·
  intro sf i s x t a1 a2 a3 hI ih
  have:=hI.len hs
  rw [Tf a2 (by omega) a3]
  exact ih _ (hI.ins (ov:=[x]) fun y hy=>by rw [List.mem_singleton] at hy;subst hy;exact hov _ (LG a2))
def Us (p:A8) (l:List Az) (L:List (List Int)):List Az:=L.foldl (fun l c=>Kq l (Gt p (CJ p c.reverse))) l
theorem QI {p:A8} {x:Az} :∀{L:List (List Int)} {l:List Az},x∈Us p l L ↔ x∈l∨∃c∈L,x∈Gt p (CJ p c.reverse)
 |[],l=>by simp [Us]
 |c::L,l=>by
  show x∈Us p (Kq l (Gt p (CJ p c.reverse))) L ↔ _
  rw [QI,LK]
  constructor
  ·
   rintro((h |h) |⟨d,hd,h⟩)
   · exact .inl h
   · exact .inr ⟨c,List.mem_cons_self ..,h⟩
   · exact .inr ⟨d,List.mem_cons_of_mem _ hd,h⟩
  ·
   rintro(h |⟨d,hd,h⟩)
   · exact .inl (.inl h)
   ·
    rcases List.mem_cons.1 hd with rfl |hd
    · exact .inl (.inr h)
    · exact .inr ⟨d,hd,h⟩
theorem Pj {p:A8} :∀{L:List (List Int)} {l:List Az},l.Pairwise (fun a b=>pb a b=true)→(Us p l L).Pairwise fun a b=>pb a b=true
 |[],l,h=>h
 |c::L,l,h=>Pj (L:=L) (KP h)
theorem No {p:A8} {w:List (AM × AN)} :w∈Ez (BP p (II 0 p.variables.length)) ↔ ∃ch,IQ ch (Hj p.variables)∧w=CJ p ch:=by
 rw [Pg];exact HW
theorem LL {p:A8} (hs:Dg p) {ch:List Int} (hf:IQ ch (Hj p.variables)):∀a∈ch,0≤a∧a<8:=by
 intro a ha
 obtain⟨l1,l2⟩:=Hx hf
 obtain⟨i,hi,e⟩:=List.getElem_of_mem ha
 obtain⟨b,b1,b2,b3⟩:=Jv hf (List.getElem?_eq_getElem (show i<p.variables.length by omega))
 rw [List.getElem?_eq_getElem hi,e] at b1;obtain rfl:=Option.some.inj b1
 have:=(hs.var _ (List.getElem_mem (show i<p.variables.length by omega))).2.1
 omega
theorem WC {p:A8} (hp:C3 p) (ho:FA p=true) (hs:Dg p):DP p=some (Lh p):=by
 obtain⟨fu,hfu⟩:∃n:Nat,n=1000000:=⟨_,rfl⟩
 have hk:=FD.of ho
 have hv6:=hs.vars
 unfold DP
 rw [← hfu,BF (by omega)]
 have hov:∀w,∀x∈Gt p w,x∈HE p:=fun w x hx=>(HF.1 hx).1
 have hol:∀w,(Gt p w).length≤1000:=fun w=>by rw [← MO,List.length_map];have:=MP hs w;omega
 have key:∀(L:List (List Int)) (c:List Int) (l:List Az) (fuel:Nat),PN (nr (Hj p.variables).reverse) (c::L)→(∀c'∈c::L,IQ c' (Hj p.variables).reverse)→QH p l→L.length+2<fuel→
   Is (Cw p) fuel l c.reverse true=some (Us p l (c::L)):=by
  intro L
  induction L with
  |nil=>
   intro c l fuel he hc hl hfl
   obtain⟨n,rfl⟩:∃n,fuel=n+1+1:=⟨fuel - 2,by omega⟩
   have hfc:IQ c.reverse (Hj p.variables):=by have:=GB (hc c (List.mem_cons_self ..));rwa [List.reverse_reverse] at this
   rw [Ie,Cw,cond_true,Um hp ho hs hfc,Option.bind_some,Pi hs (hov _) (hol _) hl]
   rw [Uh c.reverse (Hx hfc).2 (by omega) (fun a ha=>by have:=LL hs hfc a ha;omega)]
   unfold LI
   rw [List.reverse_reverse,show nr (Hj p.variables).reverse c=none from he]
   simp only [Option.map_none,Option.bind_some]
   rw [Ie,Cw];rfl
  |cons d L ih=>
   intro c l fuel he hc hl hfl
   obtain⟨n,rfl⟩:∃n,fuel=n+1:=⟨fuel - 1,by omega⟩
   have hfc:IQ c.reverse (Hj p.variables):=by have:=GB (hc c (List.mem_cons_self ..));rwa [List.reverse_reverse] at this
   rw [Ie,Cw,cond_true,Um hp ho hs hfc,Option.bind_some,Pi hs (hov _) (hol _) hl]
   rw [Uh c.reverse (Hx hfc).2 (by omega) (fun a ha=>by have:=LL hs hfc a ha;omega)]
   unfold LI
   rw [List.reverse_reverse,show nr (Hj p.variables).reverse c=some d from he.1]
   simp only [Option.map_some,Option.bind_some]
   exact ih d _ n he.2 (fun c' h=>hc c' (List.mem_cons_of_mem _ h)) (hl.ins (hov _)) (by simp at hfl;omega)
 have hn1:∀n∈(Hj p.variables).reverse,1≤n∧n≤8:=by
  intro n hn
  rw [List.mem_reverse] at hn
  obtain⟨v,hv,rfl⟩:=List.mem_map.1 hn
  have:=hk.ch v hv;have:=(hs.var v hv).2.1
  omega
 obtain⟨en,t,ht⟩:=ML (ns:=(Hj p.variables).reverse) fun n hn=>(hn1 n hn).1
 have hlen:=NW (ns:=(Hj p.variables).reverse) fun n hn=>(hn1 n hn).2
 have hz:(List.replicate p.variables.length (0:Int))=(((Hj p.variables).reverse.map fun _=>(0:Int)).reverse):=by
  rw [← List.map_reverse,List.reverse_reverse,Hj,List.map_map]
  exact(List.map_const' ..).symm
 rw [hz,key t _ [] fu (by rw [← ht];exact en) (fun c' h=>I4.1 (by rw [ht];exact h)) ⟨List.Pairwise.nil,by simp⟩ (by
  rw [ht] at hlen
  have h8:8 ^ ((Hj p.variables).reverse).length≤8 ^ 6:=Nat.pow_le_pow_right (by omega) (by simp [Hj];omega)
  simp only [List.length_cons] at hlen
  have:(8:Nat) ^ 6=262144:=by decide
  omega),← ht]
 congr 1
 refine PS (Pj List.Pairwise.nil) (HG _ _) fun x=>?_
 rw [QI,Jf]
 constructor
 ·
  rintro(h |⟨c,hc,hx⟩)
  · cases h
  ·
   obtain⟨h1,h2⟩:=HF.1 hx
   have hf:=GB (I4.1 hc)
   rw [List.reverse_reverse] at hf
   exact⟨h1,_,No.2 ⟨_,hf,rfl⟩,h2⟩
 ·
  rintro⟨h1,w,hw,h2⟩
  obtain⟨ch,hf,rfl⟩:=No.1 hw
  refine .inr ⟨ch.reverse,I4.2 (GB hf),?_⟩
  rw [List.reverse_reverse];exact HF.2 ⟨h1,h2⟩
theorem WD {p:A8} (hp:C3 p):∃b,Ex p=some b∧(b=true→Dg p∧(FA p=true→(Lh p).length≤6)):=by
 unfold Ex
 obtain⟨b,hb,hS⟩:=Ws hp
 rw [hb]
 simp only [Option.bind_some,F9]
 cases b
 · exact⟨false,rfl,by simp⟩
 have hs:=hS rfl
 obtain⟨mn,hmn⟩:=Q0 p 150 (by have:=hs.vars;omega)
 simp only [Bool.not_true,cond_false,hmn,Option.bind_some]
 cases decide (150≤mn)
 rotate_left
 · exact⟨false,rfl,by simp⟩
 simp only [cond_false]
 rw [Ua hp]
 cases ho:FA p
 · exact⟨true,rfl,fun _=>⟨hs,by simp⟩⟩
 simp only [cond_true,Option.bind_some,ne_eq,not_true_eq_false,decide_false,cond_false]
 rw [WC hp ho hs,Option.bind_some]
 refine⟨_,rfl,fun h=>⟨hs,fun _=>?_⟩⟩
 have:=of_decide_eq_true h;omega
theorem Ut (a b:Az):OJ a b=pb a b:=by
 show JH [a.leaf,a.cell] [b.leaf,b.cell] =_
 unfold pb
 simp [JH]
abbrev PB:=List (Az × Bool)
def IF (p:A8) (w:List (AM × AN)):PB:=(Gt p w).map fun x=>(x,true)
theorem Oa {p:A8} {w:List (AM × AN)} :(IF p w).map (·.1)=Gt p w:=by
 unfold IF;rw [List.map_map];exact List.map_id' _
theorem Ob (p:A8) (w:List (AM × AN)):Hh (IF p w):=by
 unfold IF Hh
 rw [List.pairwise_map,Mp]
 exact((LJ p).filter _).imp fun h=>by rw [Ut];exact h
theorem Od (p:A8) (w:List (AM × AN)) (x:Az):Bu (IF p w) x=if x∈Gt p w then some true else none:=by
 by_cases h:x∈Gt p w
 · rw [if_pos h];exact Jo (Ob p w) (List.mem_map.2 ⟨x,h,rfl⟩)
 ·
  rw [if_neg h]
  cases hg:Bu (IF p w) x with
  |none=>rfl
  |some b=>
   obtain⟨y,hy,e⟩:=List.mem_map.1 (FI hg)
   obtain⟨rfl,_⟩:=Prod.mk.inj e
   exact absurd hy h
theorem Pk {p:A8} (hk:FD p) {x:Az} (hx:x ∉ HE p):∀{w:List (AM × AN)},(∀vc∈w,vc.1∈p.variables∧vc.2∈vc.1.choices)→Hs p w x=0
 |[],_=>rfl
 |vc::w,h=>by
  have ih:=Pk hk hx (w:=w) fun vc hvc=>h vc (List.mem_cons_of_mem _ hvc)
  obtain⟨h1,h2⟩:=h vc (List.mem_cons_self ..)
  have:HV p x vc=0:=by
   unfold HV
   by_cases hl:x.leaf∈vc.1.leaves
   ·
    rw [if_pos hl]
    have hlf:=hk.leaf _ h1 _ hl
    unfold Q6
    have:∀us:List Bp,(∀u∈us,u.cell∈p.cells)→(us.map fun u=>if ix p.cells u.cell=x.cell then u.places else 0).sum=0:=by
     intro us
     induction us with
     |nil=>intro _;rfl
     |cons u us ihu=>
      intro hu
      rw [List.map_cons,List.sum_cons,ihu fun u' h'=>hu u' (List.mem_cons_of_mem _ h')]
      obtain⟨k,e1,e2⟩:=Km (hu u (List.mem_cons_self ..))
      have hkl:k<p.cells.length:=(List.getElem?_eq_some_iff.1 e2).1
      have: ¬ix p.cells u.cell=x.cell:=fun e=>hx (MQ.2 ⟨hlf,by omega,by omega⟩)
      rw [if_neg this];rfl
    exact this _ fun u hu=>(hk.use _ h1 _ h2 u hu).1
   · rw [if_neg hl]
  simp only [Hs,List.map_cons,List.sum_cons] at ih ⊢
  omega
theorem Mr {p:A8} (hk:FD p) {w:List (AM × AN)} (hw:∀vc∈w,vc.1∈p.variables∧vc.2∈vc.1.choices) (x:Az):x∈Gt p w ↔ FL p x<Hs p w x:=by
 rw [HF]
 refine⟨fun h=>h.2,fun h=>⟨?_,h⟩⟩
 by_cases hx:x∈HE p
 · exact hx
 · have:=Pk hk hx hw;have:=GR hk x;omega
theorem S7 {p:A8} (hk:FD p) {V:List Int} (hV:∀i∈V,0≤i∧i<(p.variables.length:Int)):∀w∈Ez (BP p V),∀e,Hh e→(∀x,vl e x=Hs p w x)→IF p w=Hw (FL p) e:=by
 intro w hw e he hx
 refine HM (Ob p w) (GZ _ he) fun x=>?_
 rw [Od,Ha _ (GR hk) he,hx]
 have:=Mr hk (Il hV hw) x
 by_cases h:x∈Gt p w
 · rw [if_pos h,if_pos (this.1 h)]
 · rw [if_neg h,if_neg fun h'=>h (this.2 h')]
section
variable {R : Type} [DecidableEq R]
theorem S8 {b:(PB→Option R)→Az × Bool→PB→Option R} {K:PB→Option R} (hb:∀sf q m,b sf q m=sf (Dp m q.1 true)) {bad m:PB} (hm:Hh m) {R0:Option R}
  (hK:∀m',Hh m'→(∀x,Bu m' x=if x∈bad.map (·.1) then some true else Bu m x)→K m'=R0):Jp b K bad m=R0:=by
 unfold Jp
 refine Me (fun rest m'=>Hh m'∧(∀q∈rest,q∈bad)∧∀x,(x∈bad.map (·.1)→x∈rest.map (·.1)∨Bu m' x=some true)∧(x ∉ bad.map (·.1)→Bu m' x=Bu m x)) R0 ?_ ?_ bad m ⟨hm,fun q h=>h,fun x=>⟨.inl,fun _=>rfl⟩⟩
 ·
  rintro m' ⟨h1,_,h3⟩
  refine hK m' h1 fun x=>?_
  by_cases hx:x∈bad.map (·.1)
  · rw [if_pos hx];exact((h3 x).1 hx).resolve_left (by simp)
  · rw [if_neg hx];exact(h3 x).2 hx
 ·
  rintro r1 r2 q m' sf ⟨h1,h2,h3⟩ ih
  rw [hb]
  refine ih _ ⟨H4 h1 _ _,fun q' hq=>h2 q' ?_,fun x=>⟨fun hx=>?_,fun hx=>?_⟩⟩
  ·
   rcases List.mem_append.1 hq with h |h
   · exact List.mem_append.2 (.inl h)
   · exact List.mem_append.2 (.inr (List.mem_cons_of_mem _ h))
  ·
   rw [G7]
   by_cases e:q.1=x
   · right;rw [if_pos e]
   ·
    rw [if_neg e]
    rcases (h3 x).1 hx with h |h
    ·
     left
     simp only [List.map_append,List.map_cons,List.mem_append,List.mem_cons] at h ⊢
     rcases h with h |h |h
     · exact .inl h
     · exact absurd h.symm e
     · exact .inr h
    · exact .inr h
  ·
   rw [G7]
   have:q.1≠x:=fun e=>hx (by rw [← e];exact List.mem_map.2 ⟨q,h2 q (by simp),rfl⟩)
   rw [if_neg this];exact(h3 x).2 hx
end
theorem Uu {p:A8} (hs:Dg p) (w:List (AM × AN)) (b:Bool) (V:List Int) (bs:List PB) (hb:bs.length≤1000000):
  BV (IF p w) b ⟨V,bs⟩=some (if Gt p w≠[] then (true,true,⟨V,bs++[IF p w]⟩) else (false,false,⟨V,bs⟩)):=by
 have hl:(IF p w).length=(Gt p w).length:=by unfold IF;rw [List.length_map]
 have hl2:(Gt p w).length≤48:=by rw [← MO,List.length_map];exact MP hs w
 unfold BV
 rw [BF (by omega)]
 by_cases h:Gt p w=[]
 ·
  have h0:(IF p w).length=0:=by rw [hl,h];rfl
  rw [if_neg (by simp [h]),h0];rfl
 ·
  have h0:0<(IF p w).length:=by rw [hl];exact List.length_pos_iff.2 h
  rw [if_pos h,decide_eq_true (show(0:Int)<((IF p w).length:Int) by omega),cond_true]
  refine S8 (fun sf q m=>rfl) List.Pairwise.nil fun m' h1 h2=>?_
  have e:m'=IF p w:=HM h1 (Ob p w) fun x=>by
   rw [h2,Od,Oa];rfl
  rw [E7,BF (by simp only [List.length_singleton];omega),decide_eq_true (show(0:Int)<((IF p w).length:Int) by omega),e]
def VM (p:A8) (V:List Int):Bool:=(Ez (BP p V)).all fun w=>decide (Gt p w≠[])
def Gb (p:A8) (V:List Int):D8:=⟨V,(Ez (BP p V)).map (IF p)⟩
theorem S9 {p:A8} (hs:Dg p) (V:List Int):∀(L:List (List (AM × AN))) (bs:List PB),bs.length+L.length≤1000000→(L.all fun w=>decide (Gt p w≠[]))=true→
  Kl (fun xs s=>BV xs s.1 s.2) (L.map (IF p)) (true,(⟨V,bs⟩:D8))=some (true,(true,⟨V,bs++L.map (IF p)⟩))
 |[],bs,_,_=>by simp [Kl]
 |w::L,bs,hl,h=>by
  rw [List.all_cons,Bool.and_eq_true] at h
  simp only [List.length_cons] at hl
  rw [List.map_cons,Kl]
  simp only
  rw [Uu hs w true V bs (by omega),if_pos (of_decide_eq_true h.1)]
  simp only [Option.bind_some,cond_true]
  rw [S9 hs V L _ (by simp;omega) h.2];simp
theorem SA {p:A8} (hs:Dg p) (V:List Int):∀(L:List (List (AM × AN))) (b:Bool) (bs:List PB),bs.length+L.length≤1000000→(L.all fun w=>decide (Gt p w≠[]))=false→
  ∃bs',Kl (fun xs s=>BV xs s.1 s.2) (L.map (IF p)) (b,(⟨V,bs⟩:D8))=some (false,(false,⟨V,bs'⟩))
 |[],b,bs,_,h=>by cases h
 |w::L,b,bs,hl,h=>by
  rw [List.all_cons] at h
  simp only [List.length_cons] at hl
  rw [List.map_cons,Kl]
  simp only
  rw [Uu hs w b V bs (by omega)]
  by_cases ho:Gt p w≠[]
  ·
   rw [if_pos ho,Option.bind_some]
   simp only [cond_true]
   rw [decide_eq_true ho,Bool.true_and] at h
   exact SA hs V L _ _ (by simp;omega) h
  ·
   rw [if_neg ho,Option.bind_some]
   exact⟨bs,rfl⟩
theorem Ms {p:A8} (hs:Dg p):∀(V:List Int),(∀i∈V,0≤i∧i<(p.variables.length:Int))→(Ez (BP p V)).length≤8 ^ V.length
 |[],_=>by simp [BP,Ez]
 |i::V,h=>by
  have ih:=Ms hs V fun j hj=>h j (List.mem_cons_of_mem _ hj)
  have hi:=h i (List.mem_cons_self ..)
  have hm:p.variables.getD i.toNat default∈p.variables:=by
   rw [AH (List.getElem?_eq_getElem (show i.toNat<p.variables.length by omega))];exact List.getElem_mem _
  have hc:=(hs.var _ hm).2.1
  simp only [BP,List.map_cons,Ez,List.length_flatMap,List.length_map,List.map_map] at ih ⊢
  have:∀t:List AN,(t.map fun _=>(Ez (V.map fun i=>(p.variables.getD i.toNat default).choices.map fun c=>(p.variables.getD i.toNat default,c))).length).sum≤t.length*8 ^ V.length:=by
   intro t
   induction t with
   |nil=>simp
   |cons c t iht=>simp only [List.map_cons,List.sum_cons,List.length_cons,Nat.add_mul,Nat.one_mul];omega
  have h8:=this (p.variables.getD i.toNat default).choices
  have h9:(p.variables.getD i.toNat default).choices.length*8 ^ V.length≤8*8 ^ V.length:=Nat.mul_le_mul_right _ hc
  rw [List.length_cons,Nat.pow_succ,Nat.mul_comm (8 ^ V.length) 8]
  exact Nat.le_trans h8 h9
theorem WE {p:A8} (hp:C3 p) (hk:FD p) (hs:Dg p) (k:Nat) (hk1:k≤16):
  ED ⟨p,Mh p⟩ (k:Int)=some (((ET k (II 0 p.variables.length)).filter (VM p)).map (Gb p)):=by
 have hv:=hs.vars
 unfold ED
 simp only
 rw [Uf p.variables.length k (by omega) (by omega),Option.bind_some]
 simp only [F9]
 have hcl:=Lc k (II 0 p.variables.length)
 rw [IN] at hcl
 have h6:2 ^ p.variables.length≤2 ^ 6:=Nat.pow_le_pow_right (by omega) hv
 have main:∀(L:List (List Int)) (s:List D8),(∀V∈L,V∈ET k (II 0 p.variables.length))→s.length+L.length≤1000→
   IU (Ee ⟨p,Mh p⟩) (fun v_1=>some v_1) L s=some (s++(L.filter (VM p)).map (Gb p)):=by
  intro L
  induction L with
  |nil=>intro s _ _;rw [LS];simp
  |cons V L ih=>
   intro s hL hsl
   simp only [List.length_cons] at hsl
   obtain⟨q1,q2⟩:=QC (hL V (List.mem_cons_self ..))
   have hVi:∀i∈V,0≤i∧i<(p.variables.length:Int):=fun i hi=>by have:=q2 i hi;omega
   have hVl:V.length≤6:=by
    have:=(G3.1 (hL V (List.mem_cons_self ..))).1.length_le
    rw [IN] at this;omega
   have hwl:(Ez (BP p V)).length≤262144:=by
    have h1:=Ms hs V hVi
    have h2:8 ^ V.length≤8 ^ 6:=Nat.pow_le_pow_right (by omega) hVl
    have:(8:Nat) ^ 6=262144:=by decide
    omega
   rw [KU,Ee,List.filter_cons]
   cases ho:VM p V
   ·
    obtain⟨bs',hr⟩:=SA hs V (Ez (BP p V)) true [] (by simp;omega) ho
    rw [MK hk hs (by omega) hVi _ (S7 hk hVi) hr,Option.bind_some]
    simp only [cond_false,Bool.false_eq_true,if_false]
    exact ih s (fun V h=>hL V (List.mem_cons_of_mem _ h)) (by omega)
   ·
    have hr:=S9 hs V (Ez (BP p V)) [] (by simp;omega) ho
    rw [MK hk hs (by omega) hVi _ (S7 hk hVi) hr,Option.bind_some]
    simp only [cond_true,if_true]
    rw [BF (by simp only [List.length_singleton];omega),ih _ (fun V h=>hL V (List.mem_cons_of_mem _ h)) (by simp;omega)]
    simp [Gb]
 rw [main _ [] (fun V h=>h) (by simp;omega)];simp
theorem Uv:Qt (fun x y=>Dv x y)=pb:=by
 funext a b
 unfold Qt
 simp only [RH]
 have:=S0 a b
 by_cases h:0≤Ub a b
 ·
  rw [decide_eq_true h] at this
  rw [decide_eq_false (by omega)]
  cases hb:pb a b
  · rfl
  · rw [hb] at this;cases this
 ·
  rw [decide_eq_false h] at this
  rw [decide_eq_true (by omega)]
  cases hb:pb a b
  · rw [hb] at this;cases this
  · rfl
theorem QJ (l:List Az):Kf pb l where
 irr:=fun x _=>by simpa using IR x
 tot:=fun x _ y _ h1 h2=>by
  by_cases e:x=y
  · exact e
  · have:=Ur (by simp [h1]) e;rw [h2] at this;cases this
 tr:=fun x _ y _ z _ h1 h2=>Je _ _ _ h1 h2
theorem Va {l R:List Az} (hp:l.Perm R) (hR:R.Pairwise fun a b=>pb a b=true):LY (fun x y=>Dv x y) l=some R:=by
 unfold LY
 have ho:L9 (fun x y=>Dv x y) l=true:=by
  rw [NK,Uv];exact⟨QJ l,fun x _ y _=>⟨_,RH x y⟩⟩
 rw [ho,cond_true,Uv,← Lo (QJ l) hp.symm]
 refine hR.imp fun {a b} h=>?_
 cases hb:pb b a
 · rfl
 · exact absurd (Je _ _ _ h hb) (IR a)
theorem Mt {p:A8} (hs:Dg p) (V:List Int):(Mq p V).length≤48:=by
 have:=List.length_filter_le (fun x=>(Ez (BP p V)).any fun w=>decide (FL p x<Hs p w x)) (HE p)
 have h2:=Pf hs
 unfold Mq;omega
theorem WF {p:A8} (hk:FD p) (hs:Dg p) {V:List Int} (hV:∀i∈V,0≤i∧i<(p.variables.length:Int)) (hVl:V.length≤6):EE (Gb p V)=some (Mq p V):=by
 unfold EE
 have hwl:((Gb p V).bad).length≤262144:=by
  show((Ez (BP p V)).map (IF p)).length≤_
  rw [List.length_map]
  have h1:=Ms hs V hV
  have h2:8 ^ V.length≤8 ^ 6:=Nat.pow_le_pow_right (by omega) hVl
  have:(8:Nat) ^ 6=262144:=by decide
  omega
 refine I2 (B:=Dj (Gb p V)) (fun i (m:PB)=>Hh m∧∀x,Bu m x=if (((Gb p V).bad.take i).any fun B=>decide (x∈B.map (·.1)))=true then some true else none) (fun _ _ _=>some (Mq p V)) (Gb p V).bad (by omega) ?_ ?_ (by omega) ⟨List.Pairwise.nil,fun x=>by simp [Bu]⟩
 ·
  rintro sf m ⟨h1,h2⟩
  rw [List.take_length] at h2
  have hkey:m.map (·.1)=Mq p V:=by
   refine PS ?_ (HG p V) fun x=>?_
   · rw [List.pairwise_map];exact h1.imp fun h=>by rw [← Ut];exact h
   ·
    have hx:=h2 x
    rw [Jf]
    constructor
    ·
     intro h
     obtain⟨q,hq,rfl⟩:=List.mem_map.1 h
     rw [Jo h1 (show(q.1,q.2)∈m from hq)] at hx
     split at hx
     ·
      rename_i ha
      obtain⟨B,hB,hx2⟩:=List.any_eq_true.1 ha
      obtain⟨w,hw,rfl⟩:=List.mem_map.1 hB
      have:=of_decide_eq_true hx2
      rw [Oa] at this
      have:=HF.1 this
      exact⟨this.1,w,hw,this.2⟩
     · cases hx
    ·
     rintro⟨h3,w,hw,h4⟩
     rw [if_pos] at hx
     · exact List.mem_map.2 ⟨_,FI hx,rfl⟩
     ·
      refine List.any_eq_true.2 ⟨IF p w,List.mem_map.2 ⟨w,hw,rfl⟩,decide_eq_true ?_⟩
      rw [Oa];exact HF.2 ⟨h3,h4⟩
  rw [Dj,Jd,cond_false]
  unfold Jp
  refine Me (fun rest l=>(l++rest.map (·.1)).Perm (Mq p V)) _ ?_ ?_ m [] (by rw [← hkey];exact List.Perm.refl _)
  ·
   intro l hl
   rw [List.map_nil,List.append_nil] at hl
   have:=hl.length_eq;have:=Mt hs V
   rw [EV,Va hl (HG p V),Option.bind_some,BF (by omega)]
  ·
   intro r1 r2 q l sf' hl ih
   have hll:=hl.length_eq;have:=Mt hs V
   rw [List.length_append] at hll
   rw [EW,BF (by simp only [List.length_singleton];omega)]
   refine ih _ (List.Perm.trans ?_ hl)
   rw [List.append_assoc,List.map_append,List.map_append,List.map_cons]
   refine List.Perm.append_left l ?_
   exact(List.perm_middle (a:=q.1) (l₁:=r1.map (·.1)) (l₂:=r2.map (·.1))).symm
 ·
  rintro sf i m B t a1 a2 a3 ⟨h1,h2⟩ ih
  rw [Dj,EY a1,cond_true,BF (by omega),Int.toNat_natCast,AH a2]
  refine S8 (fun sf q m=>rfl) h1 fun m' g1 g2=>?_
  rw [EU,a3]
  refine ih m' ⟨g1,fun x=>?_⟩
  rw [g2,h2,List.take_add_one,a2,List.any_append]
  by_cases hB:x∈B.map (·.1)
  · rw [if_pos hB,if_pos (by simp only [Option.toList_some,List.any_cons,decide_eq_true hB,Bool.true_or,Bool.or_true])]
  · rw [if_neg hB];simp only [Option.toList_some,List.any_cons,List.any_nil,decide_eq_false hB,Bool.or_false]
theorem WG {p:A8} (hk:FD p) (hs:Dg p) {V:List Int} (hV:∀i∈V,0≤i∧i<(p.variables.length:Int)) (hVl:V.length≤6) {P:List Az} (hP:P.length<9223372036854775807):F4 (Gb p V) P=some (C4 p ⟨V,P⟩):=by
 unfold F4
 have hwl:((Gb p V).bad).length≤262144:=by
  show((Ez (BP p V)).map (IF p)).length≤_
  rw [List.length_map]
  have h1:=Ms hs V hV
  have h2:8 ^ V.length≤8 ^ 6:=Nat.pow_le_pow_right (by omega) hVl
  have:(8:Nat) ^ 6=262144:=by decide
  omega
 refine(GY (B:=DF (Gb p V) P) (fun t=>some (t.all fun B=>P.any fun y=>(Bu B y).getD false)) (Gb p V).bad (by omega) ?_ ?_ (by omega)).trans ?_
 · intro sf;rw [DF,Jd,cond_false];rfl
 ·
  intro sf i B t a1 a2 a3 ih
  rw [DF,EY a1,cond_true,BF (by omega),Int.toNat_natCast,AH a2,S3 P hP (fun x37=>DU x37 B) (fun y=>(Bu B y).getD false) (fun x _=>rfl),Option.bind_some,a3,ih,List.all_cons]
  cases P.any fun y=>(Bu B y).getD false<;> rfl
 ·
  congr 1
  show(((Ez (BP p V)).map (IF p)).all fun B=>P.any fun y=>(Bu B y).getD false)=(Ez (BP p V)).all fun w=>P.any fun x=>decide (FL p x<Hs p w x)
  rw [List.all_map,Bool.eq_iff_iff,List.all_eq_true,List.all_eq_true]
  have key:∀w∈Ez (BP p V),(P.any fun y=>(Bu (IF p w) y).getD false)=P.any fun x=>decide (FL p x<Hs p w x):=by
   intro w hw
   congr 1;funext y
   rw [Od]
   have:=Mr hk (Il hV hw) y
   by_cases h:y∈Gt p w
   · rw [if_pos h,decide_eq_true (this.1 h)];rfl
   · rw [if_neg h,decide_eq_false fun h'=>h (this.2 h')];rfl
  constructor
  · intro h w hw;rw [← key w hw];exact h w hw
  · intro h w hw;simp only [Function.comp];rw [key w hw];exact h w hw
theorem N2 {p:A8} (hk:FD p) (hs:Dg p) {V:List Int} (hV:V.Sublist (II 0 p.variables.length)) {w:List (AM × AN)} (hw:w∈Ez (BP p V)) {x:Az} (hx:FL p x<Hs p w x):x∈Lh p:=by
 have hn:(II 0 p.variables.length).Nodup:=(KM 0 p.variables.length).imp fun h=>by omega
 have hin:∀i∈II 0 p.variables.length,0≤i∧i<(p.variables.length:Int):=fun i hi=>by have:=Ko.1 hi;omega
 have hVi:∀i∈V,0≤i∧i<(p.variables.length:Int):=fun i hi=>hin i (hV.subset hi)
 have hpl:x∈HE p:=(HF.1 ((Mr hk (Il hVi hw) x).2 hx)).1
 obtain⟨f,h1,rfl⟩:=(JQ (hn.sublist hV)).1 hw
 let g:Int→AN:=fun i=>if i∈V then f i else (GO p i).choices.getD 0 default
 have hg:∀i∈II 0 p.variables.length,g i∈(GO p i).choices:=by
  intro i hi
  show(if i∈V then f i else (GO p i).choices.getD 0 default)∈_
  by_cases h:i∈V
  · rw [if_pos h];exact h1 i h
  ·
   rw [if_neg h]
   have:=hin i hi
   have hm:GO p i∈p.variables:=by
    unfold GO;rw [AH (List.getElem?_eq_getElem (show i.toNat<p.variables.length by omega))];exact List.getElem_mem _
   have:=hk.ch _ hm
   rw [AH (List.getElem?_eq_getElem (show 0<(GO p i).choices.length by omega))];exact List.getElem_mem _
 have hd:=QB (p:=p) (f:=g) (x:=x) hV fun i hi=>Nn hk hs (hin i hi) (hg i hi) x
 have he:Jl p g V x=Hs p (V.map fun i=>(GO p i,f i)) x:=by
  rw [Mj];unfold Jl
  congr 1
  refine List.map_congr_left fun i hi=>?_
  show HV p x (GO p i,if i∈V then f i else _)=_
  rw [if_pos hi]
 refine Jf.2 ⟨hpl,_,(JQ hn).2 ⟨g,hg,rfl⟩,?_⟩
 rw [Mj];omega
theorem RK {p:A8} (hk:FD p) (hs:Dg p) {V:List Int} (hV:V.Sublist (II 0 p.variables.length)):VM p V=C4 p ⟨V,Lh p⟩:=by
 have hVi:∀i∈V,0≤i∧i<(p.variables.length:Int):=fun i hi=>by have:=Ko.1 (hV.subset hi);omega
 unfold VM C4
 rw [Bool.eq_iff_iff,List.all_eq_true,List.all_eq_true]
 have key:∀w∈Ez (BP p V),(Gt p w≠[] ↔ ∃x∈Lh p,FL p x<Hs p w x):=by
  intro w hw
  constructor
  ·
   intro h
   obtain⟨x,hx⟩:=List.exists_mem_of_ne_nil _ h
   have:=(HF.1 hx).2
   exact⟨x,N2 hk hs hV hw this,this⟩
  ·
   rintro⟨x,_,hx⟩ h
   have:=(Mr hk (Il hVi hw) x).2 hx
   rw [h] at this;cases this
 constructor
 ·
  intro h w hw
  obtain⟨x,h1,h2⟩:=(key w hw).1 (of_decide_eq_true (h w hw))
  exact List.any_eq_true.2 ⟨x,h1,decide_eq_true h2⟩
 ·
  intro h w hw
  obtain⟨x,h1,h2⟩:=List.any_eq_true.1 (h w hw)
  exact decide_eq_true ((key w hw).2 ⟨x,h1,of_decide_eq_true h2⟩)
theorem QK {p:A8} (hk:FD p) (hs:Dg p) {V:List Int} (hV:V.Sublist (II 0 p.variables.length)):Mq p V=(Lh p).filter fun x=>(Ez (BP p V)).any fun w=>decide (FL p x<Hs p w x):=by
 refine PS (HG p V) ((HG p _).filter _) fun x=>?_
 rw [Jf,List.mem_filter,List.any_eq_true]
 constructor
 ·
  rintro⟨h1,w,hw,h2⟩
  exact⟨N2 hk hs hV hw h2,w,hw,decide_eq_true h2⟩
 ·
  rintro⟨h1,w,hw,h2⟩
  exact⟨(Jf.1 h1).1,w,hw,of_decide_eq_true h2⟩
end Go.Fx
namespace Go.Fx
open Go Go.RowKit Go.Proofs
end Go.Fx
namespace Go.Fx
open Go Go.RowKit
def O6 (p:A8) (m:Nat) (V:List Int):Option Ba:=((ET m (Lh p)).find? fun P=>C4 p ⟨V,P⟩).map fun P=>⟨V,P⟩
def Gf (p:A8) (k:Nat):List (List Int):=(ET k (II 0 p.variables.length)).filter fun V=>C4 p ⟨V,Lh p⟩
def Nw (p:A8) (k m:Nat):Option Ba:=(Gf p k).findSome? (O6 p m)
def PT (p:A8) (k:Nat):Option Ba:=(List.range' 1 (Lh p).length).findSome? (Nw p k)
def Jg (p:A8):Option Ba:=(List.range' 1 p.variables.length).findSome? (PT p)
def Oe:Option Ba→Ba × Bool × Int
 |some r=>(r,true,0)
 |none=>(⟨[],[]⟩,false,0)
section
variable {R β : Type}
theorem Vb {B:(Int→Option R)→Int→Option R} (f:Nat→Option β) (g:β→R) (fin:Option R) (N:Nat) (hN:N<1000000000)
  (hE:∀sf,B sf ((N:Int)+1)=fin)
  (hS:∀sf (k:Nat),1≤k→k≤N→IntKind.i64.wrap ((k:Int)+1)=(k:Int)+1→B sf (k:Int)=match f k with |some b=>some (g b) |none=>sf ((k:Int)+1)):
  ∀fuel,N<fuel→B0 B fuel 1=match (List.range' 1 N).findSome? f with |some b=>some (g b) |none=>fin:=by
 have main:∀(d k fuel:Nat),k+d=N+1→1≤k→d<fuel→B0 B fuel (k:Int)=match (List.range' k d).findSome? f with |some b=>some (g b) |none=>fin:=by
  intro d
  induction d with
  |zero=>
   intro k fuel h1 h2 h3
   obtain⟨n,rfl⟩:∃n,fuel=n+1:=⟨fuel - 1,by omega⟩
   rw [FG,show(k:Int)=(N:Int)+1 by omega,hE];rfl
  |succ d ih=>
   intro k fuel h1 h2 h3
   obtain⟨n,rfl⟩:∃n,fuel=n+1:=⟨fuel - 1,by omega⟩
   rw [FG,hS _ k h2 (by omega) (KJ (by omega)),List.range'_succ,List.findSome?_cons]
   cases f k with
   |some b=>rfl
   |none=>
    simp only
    have:=ih (k+1) n (by omega) (by omega) (by omega)
    rw [show((k+1:Nat):Int)=(k:Int)+1 by omega] at this
    exact this
 intro fuel hf
 exact main N 1 fuel (by omega) (by omega) hf
end
theorem O7 {α:Type} [Inhabited α] (l:List α):(II 0 l.length).map (fun i=>l.getD i.toNat default)=l:=by
 rw [MR,List.map_map]
 refine List.ext_getElem (by simp) fun i h1 h2=>?_
 simp only [List.getElem_map,List.getElem_range,Function.comp,Int.zero_add,Int.toNat_natCast,AH (List.getElem?_eq_getElem h2)]
theorem Tg {α:Type} [Inhabited α] (m:Nat) (l:List α):ET m l=(ET m (II 0 l.length)).map (List.map fun i=>l.getD i.toNat default):=by
 rw [← MM,O7]
theorem Vc {p:A8} (hs:Dg p):(Lh p).length≤48:=Mt hs _
theorem SB {p:A8} (hs:Dg p) {V:List Int} {P:List Az} (hV:V.Sublist (II 0 p.variables.length)) (hP:P.Sublist (Lh p)):I3 p ⟨V,P⟩=true∧ME ⟨V,P⟩∧V.length≤6∧P.length≤48:=by
 have hVl:=hV.length_le
 rw [IN] at hVl
 have hPl:=hP.length_le
 have hrl:=Vc hs
 have hva:=hs.vars;have hca:=hs.caps;have hce:=hs.cells
 have hVi:∀i∈V,0≤i∧i<(p.variables.length:Int):=fun i hi=>by have:=Ko.1 (hV.subset hi);omega
 have hPi:∀x∈P,(0≤x.leaf∧x.leaf<(p.capacity.length:Int))∧0≤x.cell∧x.cell<(p.cells.length:Int):=fun x hx=>MQ.1 (Jf.1 (hP.subset hx)).1
 refine⟨?_,⟨⟨by show V.length≤_;omega,fun i hi=>?_⟩,⟨by show P.length≤_;omega,fun x hx=>?_⟩⟩,by omega,by omega⟩
 ·
  unfold I3
  simp only [Bool.and_eq_true,List.all_eq_true,IL,OY]
  exact⟨⟨hVi,Kp (((KM 0 p.variables.length).sublist hV).imp fun h=>decide_eq_true h)⟩,hPi,Kp ((HG p _).sublist hP)⟩
 ·
  have:=hVi i hi
  have e:i=((i.toNat:Nat):Int):=by omega
  rw [e];exact Pu (by omega)
 ·
  have h:=hPi x hx
  have e1:x.leaf=((x.leaf.toNat:Nat):Int):=by omega
  have e2:x.cell=((x.cell.toNat:Nat):Int):=by omega
  exact⟨by rw [e1];exact Pu (by omega),by rw [e2];exact Pu (by omega)⟩
theorem RL {p:A8} (hp:C3 p) (ho:FA p=true) (hs:Dg p) {V:List Int} {P:List Az} (hV:V.Sublist (II 0 p.variables.length)) (hP:P.Sublist (Lh p)):CT p ⟨V,P⟩=some (C4 p ⟨V,P⟩,0):=by
 obtain⟨h1,h2,h3,h4⟩:=SB hs hV hP
 rw [Wz hp h2 hs (show V.length≤20 by omega),ho,h1];rfl
theorem Of {α:Type} {f g:α→Bool} :∀{l:List α},(∀x∈l,f x=g x)→l.find? f=l.find? g
 |[],_=>rfl
 |a::l,h=>by
  rw [List.find?_cons,List.find?_cons,h a (List.mem_cons_self ..),Of fun x hx=>h x (List.mem_cons_of_mem _ hx)]
theorem PU {p:A8} (hk:FD p):∀{V:List Int},(∀i∈V,0≤i∧i<(p.variables.length:Int))→∃w,w∈Ez (BP p V)
 |[],_=>⟨[],by simp [BP,Ez]⟩
 |i::V,h=>by
  obtain⟨w,hw⟩:=PU hk (V:=V) fun j hj=>h j (List.mem_cons_of_mem _ hj)
  have hi:=h i (List.mem_cons_self ..)
  have hm:p.variables.getD i.toNat default∈p.variables:=by
   rw [AH (List.getElem?_eq_getElem (show i.toNat<p.variables.length by omega))];exact List.getElem_mem _
  have hc:=hk.ch _ hm
  have h0:(p.variables.getD i.toNat default).choices[0]∈(p.variables.getD i.toNat default).choices:=List.getElem_mem (by omega)
  exact⟨_::w,List.mem_flatMap.2 ⟨_,List.mem_map.2 ⟨_,h0,rfl⟩,List.mem_map.2 ⟨w,hw,rfl⟩⟩⟩
theorem Kr {p:A8} {V:List Int} (hV:V.Sublist (II 0 p.variables.length)):∀i∈V,0≤i∧i<(p.variables.length:Int):=fun i hi=>by have:=Ko.1 (hV.subset hi);omega
theorem Og {p:A8} (hk:FD p) (hs:Dg p) {V:List Int} (hV:V.Sublist (II 0 p.variables.length)) {P:List Az} (h:C4 p ⟨V,P⟩=true) (q:Az→Bool) (hq:∀w∈Ez (BP p V),∀x,FL p x<Hs p w x→q x=true):
  C4 p ⟨V,P.filter q⟩=true∧P.filter q≠[]:=by
 unfold C4 at h ⊢
 rw [List.all_eq_true] at h
 have key:∀w∈Ez (BP p V),∃x∈P.filter q,FL p x<Hs p w x:=by
  intro w hw
  obtain⟨x,h1,h2⟩:=List.any_eq_true.1 (h w hw)
  have h2:=of_decide_eq_true h2
  exact⟨x,List.mem_filter.2 ⟨h1,hq w hw x h2⟩,h2⟩
 refine⟨List.all_eq_true.2 fun w hw=>?_,fun e=>?_⟩
 ·
  obtain⟨x,h1,h2⟩:=key w hw
  exact List.any_eq_true.2 ⟨x,h1,decide_eq_true h2⟩
 ·
  obtain⟨w,hw⟩:=PU hk (Kr hV)
  obtain⟨x,h1,_⟩:=key w hw
  rw [e] at h1;cases h1
theorem MT {p:A8} {V:List Int} {P:List Az} (hP:P.Sublist (Lh p)) (h:C4 p ⟨V,P⟩=true):O6 p P.length V≠none:=by
 unfold O6
 intro e
 rw [Option.map_eq_none_iff,List.find?_eq_none] at e
 exact e P (G3.2 ⟨hP,rfl⟩) h
theorem Vd {p:A8} (hk:FD p) (hs:Dg p) {V:List Int} (hV:V.Sublist (II 0 p.variables.length)) {m:Nat} (h:∀m',1≤m'→m'<m→O6 p m' V=none):
  (ET m (Mq p V)).find? (fun P=>C4 p ⟨V,P⟩)=(ET m (Lh p)).find? fun P=>C4 p ⟨V,P⟩:=by
 rw [QK hk hs hV,Kn,List.find?_filter]
 refine Of fun P hP=>?_
 obtain⟨p1,p2⟩:=G3.1 hP
 cases hf:C4 p ⟨V,P⟩
 · simp
 ·
  have hall:(P.all fun x=>(Ez (BP p V)).any fun w=>decide (FL p x<Hs p w x))=true:=by
   obtain⟨g1,g2⟩:=Og hk hs hV hf (fun x=>(Ez (BP p V)).any fun w=>decide (FL p x<Hs p w x)) fun w hw x hx=>List.any_eq_true.2 ⟨w,hw,decide_eq_true hx⟩
   have hsub:=(List.filter_sublist (p:=fun x=>(Ez (BP p V)).any fun w=>decide (FL p x<Hs p w x)) (l:=P))
   have hlen:=hsub.length_le
   have hpos:=List.length_pos_iff.2 g2
   rcases Nat.lt_or_ge (P.filter fun x=>(Ez (BP p V)).any fun w=>decide (FL p x<Hs p w x)).length m with hlt |hge
   · exact absurd (h _ hpos hlt) (MT (hsub.trans p1) g1)
   ·
    have e:=hsub.eq_of_length (by omega)
    rw [List.all_eq_true]
    intro x hx
    rw [← e] at hx
    exact(List.mem_filter.1 hx).2
  rw [hall];rfl
theorem RM {p:A8} (hk:FD p) {V:List Int} (hV:V.Sublist (II 0 p.variables.length)) (h:C4 p ⟨V,Lh p⟩=true):1≤(Lh p).length:=by
 obtain⟨w,hw⟩:=PU hk (Kr hV)
 unfold C4 at h
 obtain⟨x,h1,_⟩:=List.any_eq_true.1 (List.all_eq_true.1 h w hw)
 exact List.length_pos_of_mem h1
theorem IS {p:A8} {k:Nat} {V:List Int} :V∈Gf p k ↔ V.Sublist (II 0 p.variables.length)∧V.length=k∧C4 p ⟨V,Lh p⟩=true:=by
 unfold Gf;rw [List.mem_filter,G3]
 exact⟨fun h=>⟨h.1.1,h.1.2,h.2⟩,fun h=>⟨⟨h.1,h.2.1⟩,h.2.2⟩⟩
theorem MU {p:A8} (hk:FD p) {k:Nat} (h:Gf p k≠[]):∃r,PT p k=some r:=by
 obtain⟨V,hV⟩:=List.exists_mem_of_ne_nil _ h
 obtain⟨h1,h2,h3⟩:=IS.1 hV
 have hl:=RM hk h1 h3
 cases hh:PT p k with
 |some r=>exact⟨r,rfl⟩
 |none=>
  unfold PT Nw at hh
  rw [List.findSome?_eq_none_iff] at hh
  have:=hh (Lh p).length (by rw [List.mem_range'_1];omega)
  rw [List.findSome?_eq_none_iff] at this
  exact absurd (this V hV) (MT (List.Sublist.refl _) h3)
abbrev WH:List Az→Int→Bool→List Int→List Az→Option (Ba × Bool × Int):=fun(v_10:List Az) (v_11:Int) (v_12:Bool) (v_13:List Int) (v_14:List Az)=>some ((⟨v_13,v_14⟩:Ba),v_12,v_11)
theorem Th {p:A8} (hk:FD p) (hs:Dg p) {pr:List D8} {i:Nat} {V:List Int} (hi:pr[i]?=some (Gb p V)) (hV:V.Sublist (II 0 p.variables.length)) {Q:List Az} (hQ:Q.length≤48) {t:List Int} (ht:∀x∈t,0≤x∧x<(Q.length:Int)) (htl:t.length≤48) (sf:List Az→Int→Bool→List Int→List Az→Option (Ba × Bool × Int)):
  Is (DK pr (i:Int) WH 0 false [] [] sf t) (((t.length:Int) - 0).toNat+1) ([]:List Az) 0 Q=bif C4 p ⟨V,t.map fun i=>Q.getD i.toNat default⟩ then some (Oe (some ⟨V,t.map fun i=>Q.getD i.toNat default⟩)) else sf Q 0 false [] []:=by
 have hVl:V.length≤6:=by have:=hV.length_le;rw [IN] at this;have:=hs.vars;omega
 refine Lb (L:=fun n i' s=>Is (DK pr (i:Int) WH 0 false [] [] sf t) n s i' Q) (fun n (s:List Az)=>s=(t.take n).map fun i=>Q.getD i.toNat default) (fun _ _ _=>bif C4 p ⟨V,t.map fun i=>Q.getD i.toNat default⟩ then some (Oe (some ⟨V,t.map fun i=>Q.getD i.toNat default⟩)) else sf Q 0 false [] []) t (by omega) ?_ ?_ (((t.length:Int) - 0).toNat+1) [] (by omega) rfl
 ·
  intro n s hI
  rw [List.take_length] at hI
  show Is _ (n+1) _ _ _=_
  rw [Ie,DK,Jd,cond_false,Int.toNat_natCast,AH hi,hI,WG hk hs (Kr hV) hVl (by rw [List.length_map];omega),Option.bind_some]
  rfl
 ·
  intro n j s x t' b1 b2 b3 hI ih
  have hx:=ht x (LG b2)
  have hsl:s.length≤48:=by rw [hI,List.length_map,List.length_take];omega
  show Is _ (n+1) _ _ _=_
  rw [Ie,DK]
  simp only [Int.toNat_natCast,AH b2,Ey b1,EY b1,BI,cond_true,b3]
  rw [BF (by omega),BF (by simp only [List.length_singleton];omega)]
  exact ih _ (by rw [hI,List.take_add_one,b2];simp)
theorem SC {p:A8} (hk:FD p) (hs:Dg p) {pr:List D8} {i:Nat} {V:List Int} (hi:pr[i]?=some (Gb p V)) (hV:V.Sublist (II 0 p.variables.length)) {Q:List Az} (hQ:Q.length≤48) (kE:List Az→Int→Bool→List Int→List Az→Option (Ba × Bool × Int)):
  ∀(T:List (List Int)),(∀t∈T,t.length≤48∧∀x∈t,0≤x∧x<(Q.length:Int))→
  M5 (F6 pr (i:Int) WH) kE T Q 0 false [] [] =match (T.map (List.map fun i=>Q.getD i.toNat default)).find? (fun P=>C4 p ⟨V,P⟩) with |some P=>some (Oe (some ⟨V,P⟩)) |none=>kE Q 0 false [] []
 |[],_=>by rw [Qh];rfl
 |t::T,h=>by
  obtain⟨h1,h2⟩:=h t (List.mem_cons_self ..)
  rw [OG,F6,Th hk hs hi hV hQ h2 h1,SC hk hs hi hV hQ kE T fun t' h'=>h t' (List.mem_cons_of_mem _ h'),List.map_cons,List.find?_cons]
  cases C4 p ⟨V,t.map fun i=>Q.getD i.toNat default⟩<;> rfl
theorem Ti {p:A8} (hk:FD p) (hs:Dg p) {k m:Nat} (hm1:1≤m) (hm:m≤48) (hno:∀m',1≤m'→m'<m→Nw p k m'=none) (sf:Int→Int→Bool→List Int→List Az→Option (Ba × Bool × Int)):
  Er ((Gf p k).map (Gb p)) sf (m:Int) 0 false [] [] =match Nw p k m with |some r=>some (Oe (some r)) |none=>sf ((m:Int)+1) 0 false [] []:=by
 have hv:=hs.vars
 have hFl:(Gf p k).length≤64:=by
  have hcl:=Lc k (II 0 p.variables.length)
  rw [IN] at hcl
  have h6:2 ^ p.variables.length≤2 ^ 6:=Nat.pow_le_pow_right (by omega) hv
  unfold Gf;have:=List.length_filter_le (fun V=>C4 p ⟨V,Lh p⟩) (ET k (II 0 p.variables.length));omega
 rw [Er]
 have hlen:((Gf p k).map (Gb p)).length=(Gf p k).length:=List.length_map ..
 rw [hlen]
 refine Eq.trans (Lb (L:=fun n i (_:Unit)=>IG (Ep ((Gf p k).map (Gb p)) (m:Int) sf) n i 0 false [] []) (fun _ _=>True) (fun _ t _=>match t.findSome? (O6 p m) with |some r=>some (Oe (some r)) |none=>sf ((m:Int)+1) 0 false [] []) (Gf p k) (by omega) ?_ ?_ (((Gf p k).length:Int) - 0).toNat.succ () (by omega) trivial) ?_
 ·
  intro n _ _
  show IG _ (n+1) _ _ _ _ _=_
  rw [JY,Ep,hlen,Jd,cond_false,KJ (by omega)];rfl
 ·
  intro n i _ V t a1 a2 a3 _ ih
  obtain⟨hV,hVk,hVp⟩:=IS.1 (LG a2)
  have hVl:V.length≤6:=by have:=hV.length_le;rw [IN] at this;omega
  have hpi:((Gf p k).map (Gb p))[i]?=some (Gb p V):=by rw [List.getElem?_map,a2];rfl
  have hrl:=Mt hs V
  show IG _ (n+1) _ _ _ _ _=_
  rw [JY,Ep,hlen,EY a1,cond_true,BF (by omega),Int.toNat_natCast,AH hpi,WF hk hs (Kr hV) hVl,Option.bind_some,Uf _ _ (by omega) (by omega),Option.bind_some]
  simp only [F9]
  have hT:∀t∈ET m (II 0 (Mq p V).length),t.length≤48∧∀x∈t,0≤x∧x<((Mq p V).length:Int):=by
   intro t ht
   obtain⟨q1,q2⟩:=QC ht
   exact⟨by omega,fun x hx=>by have:=q2 x hx;omega⟩
  refine Eq.trans (SC hk hs hpi hV hrl _ _ hT) ?_
  rw [← Tg,Vd hk hs hV (fun m' h1 h2=>by
   have:=hno m' h1 h2
   unfold Nw at this
   rw [List.findSome?_eq_none_iff] at this
   exact this V (LG a2)),List.findSome?_cons]
  unfold O6
  cases (ET m (Lh p)).find? (fun P=>C4 p ⟨V,P⟩) with
  |some P=>rfl
  |none=>
   simp only [Option.map_none,a3]
   exact ih () trivial
 ·
  unfold Nw
  cases (Gf p k).findSome? (O6 p m)<;> rfl
theorem WI {p:A8} (hp:C3 p) (hs:Dg p) (hL:FA p=true→(Lh p).length≤6):DY p=some (bif FA p then Oe (Jg p) else (⟨[],[]⟩,false,270)):=by
 obtain⟨fu,hfu⟩:∃n:Nat,n=1000000:=⟨_,rfl⟩
 have hv:=hs.vars
 unfold DY
 rw [PI hp]
 cases ho:FA p
 · rfl
 have hL:=hL ho
 have hk:=FD.of ho
 simp only [cond_true,Option.bind_some,ne_eq,not_true_eq_false,decide_false,cond_false]
 rw [decide_eq_false (by omega),cond_false,Ud hp hs hk,Option.bind_some,← hfu]
 refine(Vb (PT p) (fun r=>Oe (some r)) (some (Oe none)) p.variables.length (by omega) ?_ ?_ fu (by omega)).trans ?_
 · intro sf;rw [F7,decide_eq_false (by omega),cond_false];rfl
 ·
  intro sf k k1 k2 hw
  have hf:(ET k (II 0 p.variables.length)).filter (VM p)=Gf p k:=by
   unfold Gf
   refine List.filter_congr fun V hV=>?_
   exact RK hk hs (G3.1 hV).1
  rw [F7,decide_eq_true (by omega),cond_true,hw,WE hp hk hs k (by omega),Option.bind_some,hf,List.length_map]
  by_cases h0:Gf p k=[]
  ·
   have hn:PT p k=none:=by
    unfold PT
    rw [List.findSome?_eq_none_iff]
    intro m _
    unfold Nw;rw [h0];rfl
   rw [hn,h0];rfl
  ·
   have hpos:=List.length_pos_iff.2 h0
   rw [decide_eq_false (by omega),cond_false,← hfu]
   obtain⟨r,hr⟩:=MU hk h0
   rw [hr]
   have main:∀(d m fuel:Nat),m+d=(Lh p).length+1→1≤m→d<fuel→(∀m',1≤m'→m'<m→Nw p k m'=none)→(List.range' m d).findSome? (Nw p k)=some r→
     IG (Er ((Gf p k).map (Gb p))) fuel (m:Int) 0 false [] [] =some (Oe (some r)):=by
    intro d
    induction d with
    |zero=>intro m fuel _ _ _ _ h;cases h
    |succ d ih=>
     intro m fuel h1 h2 h3 h4 h5
     obtain⟨n,rfl⟩:∃n,fuel=n+1:=⟨fuel - 1,by omega⟩
     rw [JY,Ti hk hs h2 (by omega) h4]
     rw [List.range'_succ,List.findSome?_cons] at h5
     cases hm:Nw p k m with
     |some r'=>rw [hm] at h5;simp only [Option.some.injEq] at h5;subst h5;rfl
     |none=>
      rw [hm] at h5
      simp only at h5 ⊢
      have:=ih (m+1) n (by omega) (by omega) (by omega) (fun m' g1 g2=>by
       rcases Nat.lt_or_ge m' m with g |g
       · exact h4 m' g1 g
       ·
        have:m'=m:=by omega
        rw [this];exact hm) h5
      rw [show((m+1:Nat):Int)=(m:Int)+1 by omega] at this
      exact this
   exact main (Lh p).length 1 fu (by omega) (by omega) (by omega) (fun m' h1 h2=>by omega) hr
 ·
  unfold Jg
  cases (List.range' 1 p.variables.length).findSome? (PT p)<;> rfl
theorem KQ {β:Type} {f:Nat→Option β} {b:β} :∀{d s:Nat},(List.range' s d).findSome? f=some b→∃k,(s≤k∧k<s+d)∧f k=some b∧∀k',s≤k'→k'<k→f k'=none
 |0,s,h=>by cases h
 |d+1,s,h=>by
  rw [List.range'_succ,List.findSome?_cons] at h
  cases hf:f s with
  |some c=>
   rw [hf] at h
   exact⟨s,by omega,by rw [hf];exact h,fun k' h1 h2=>by omega⟩
  |none=>
   rw [hf] at h
   obtain⟨k,h1,h2,h3⟩:=KQ h
   refine⟨k,by omega,h2,fun k' g1 g2=>?_⟩
   rcases Nat.lt_or_ge s k' with g |g
   · exact h3 k' (by omega) g2
   ·
    have:k'=s:=by omega
    rw [this];exact hf
theorem Lt {α β:Type} {f:α→Option β} :∀{l:List α} {b:β},l.findSome? f=some b→∃a∈l,f a=some b
 |[],b,h=>by cases h
 |a::l,b,h=>by
  rw [List.findSome?_cons] at h
  cases hf:f a with
  |some c=>rw [hf] at h;exact⟨a,List.mem_cons_self ..,by rw [hf];exact h⟩
  |none=>
   rw [hf] at h
   obtain⟨x,h1,h2⟩:=Lt (l:=l) h
   exact⟨x,List.mem_cons_of_mem _ h1,h2⟩
theorem MV {p:A8} (hk:FD p) {s:Ba} (h:Jg p=some s):∃k m,(1≤k∧k≤p.variables.length)∧(1≤m∧m≤(Lh p).length)∧s.variables∈Gf p k∧s.places∈ET m (Lh p)∧C4 p s=true∧
  (∀k',1≤k'→k'<k→Gf p k'=[])∧∀m',1≤m'→m'<m→∀V∈Gf p k,O6 p m' V=none:=by
 obtain⟨k,hk1,h1,h2⟩:=KQ h
 unfold PT at h1
 obtain⟨m,hm1,h3,h4⟩:=KQ h1
 unfold Nw at h3
 obtain⟨V,hV,h5⟩:=Lt h3
 unfold O6 at h5
 cases hf:(ET m (Lh p)).find? fun P=>C4 p ⟨V,P⟩ with
 |none=>rw [hf] at h5;cases h5
 |some P=>
  rw [hf] at h5
  simp only [Option.map_some,Option.some.injEq] at h5
  subst h5
  refine⟨k,m,by omega,by omega,hV,List.mem_of_find?_eq_some hf,(by have:=List.find?_some hf;simpa using this),fun k' g1 g2=>?_,fun m' g1 g2 V' hV'=>?_⟩
  ·
   cases hc:Gf p k' with
   |nil=>rfl
   |cons a t=>
    obtain⟨r,hr⟩:=MU (p:=p) hk (k:=k') (by rw [hc];simp)
    rw [h2 k' g1 g2] at hr;cases hr
  ·
   have:=h4 m' g1 g2
   unfold Nw at this
   rw [List.findSome?_eq_none_iff] at this
   exact this V' hV'
theorem RN {p:A8} (hk:FD p) (h:Jg p=none) {k:Nat} (h1:1≤k) (h2:k≤p.variables.length):Gf p k=[]:=by
 cases hc:Gf p k with
 |nil=>rfl
 |cons a t=>
  obtain⟨r,hr⟩:=MU (p:=p) hk (k:=k) (by rw [hc];simp)
  unfold Jg at h
  rw [List.findSome?_eq_none_iff] at h
  have:=h k (by rw [List.mem_range'_1];omega)
  rw [hr] at this;cases this
theorem QL {p:A8} (hk:FD p) (P:List Az):C4 p ⟨[],P⟩=false:=by
 unfold C4
 simp only [BP,List.map_nil,Ez,List.all_cons,List.all_nil,Bool.and_true]
 rw [List.any_eq_false]
 intro x _
 have:=GR hk x
 simp [Hs];omega
theorem Mu {p:A8} (hk:FD p) (hs:Dg p) {V:List Int} {P:List Az} (hV:V.Sublist (II 0 p.variables.length)) (h:C4 p ⟨V,P⟩=true):V∈Gf p V.length∧1≤V.length∧V.length≤p.variables.length:=by
 have hl:=hV.length_le
 rw [IN] at hl
 refine⟨IS.2 ⟨hV,rfl,?_⟩,?_,hl⟩
 ·
  unfold C4 at h ⊢
  rw [List.all_eq_true] at h ⊢
  intro w hw
  obtain⟨x,h1,h2⟩:=List.any_eq_true.1 (h w hw)
  have h2':=of_decide_eq_true h2
  exact List.any_eq_true.2 ⟨x,N2 hk hs hV hw h2',h2⟩
 ·
  cases V with
  |nil=>rw [QL hk] at h;cases h
  |cons a t=>simp
theorem RO {p:A8} (hk:FD p) (hs:Dg p) {V:List Int} {P:List Az} (hV:V.Sublist (II 0 p.variables.length)) (hP:P.Pairwise fun a b=>pb a b=true) (h:C4 p ⟨V,P⟩=true):∃m,1≤m∧m≤P.length∧O6 p m V≠none:=by
 obtain⟨g1,g2⟩:=Og hk hs hV h (fun x=>decide (x∈Lh p)) fun w hw x hx=>decide_eq_true (N2 hk hs hV hw hx)
 have hsub:(P.filter fun x=>decide (x∈Lh p)).Sublist (Lh p):=
  In (lt:=fun a b=>pb a b=true) Je IR (HG p _) (hP.filter _) fun x hx=>of_decide_eq_true (List.mem_filter.1 hx).2
 exact⟨_,List.length_pos_iff.2 g2,List.length_filter_le _ _,MT hsub g1⟩
theorem Ve {p:A8} (hk:FD p) {c:AK} (hc:c∈p.cells) {k:Int} (h0:0≤k) (h1:k<(p.cells.length:Int)):decide (c=p.cells.getD k.toNat default)=decide (ix p.cells c=k):=by
 have hlt:k.toNat<p.cells.length:=by omega
 have hg:p.cells.getD k.toNat default=p.cells[k.toNat]:=AH (List.getElem?_eq_getElem hlt)
 have hix:=Q5 hk.cells (List.getElem?_eq_getElem hlt)
 rw [hg]
 by_cases h:c=p.cells[k.toNat]
 · rw [decide_eq_true h,decide_eq_true];rw [h,hix];omega
 ·
  rw [decide_eq_false h,decide_eq_false]
  intro e
  exact h (Uc hc (List.getElem_mem hlt) (by rw [e,hix];omega))
section
variable {p : A8} (hk : FD p) (hs : Dg p) {r : Ba} {ch : List Int} {i j : Nat} {x : Az} (hx : r.places[i]? = some x) (hxp : (0 ≤ x.leaf ∧ x.leaf < (p.capacity.length : Int)) ∧ 0 ≤ x.cell ∧ x.cell < (p.cells.length : Int))
include hk hs hx hxp
theorem WJ {vi a:Int} {v:AM} {c:AN} (hv:r.variables[j]?=some vi) (hpv:p.variables[vi.toNat]?=some v) (hca:ch[vi.toNat]?=some a) (hcc:v.choices[a.toNat]?=some c)
  (hj:IntKind.i64.wrap ((j:Int)+1)=(j:Int)+1) (sf:Int→Int→Option Bool) (b:Bool) (n:Int) (hn:0≤n∧n≤100000):
  BC (CV p r ch (i:Int) (j:Int) sf b) (((c.uses.length:Int) - 0).toNat+1) n 0=sf (n+if b=true then Q6 p c x.cell else 0) ((j:Int)+1):=by
 have hvm:=LG hpv
 have hcm:=LG hcc
 have hul:=(hs.var v hvm).2.2 c hcm
 refine Eq.trans (HT (B:=CV p r ch (i:Int) (j:Int) sf b) (fun k (s:Int)=>s=n+(if b=true then ((c.uses.take k).map fun u=>if ix p.cells u.cell=x.cell then u.places else 0).sum else 0)) (fun _ _ _=>sf (n+if b=true then Q6 p c x.cell else 0) ((j:Int)+1)) c.uses (by omega) ?_ ?_ (by omega) (by simp)) rfl
 ·
  intro sf' s hI
  rw [List.take_length] at hI
  rw [CV]
  simp only [Int.toNat_natCast,AH hv,AH hpv,AH hca,AH hcc,Jd,cond_false,hj]
  rw [hI];rfl
 ·
  intro sf' k s u t a1 a2 a3 hI ih
  have hu:=hk.use v hvm c hcm u (LG a2)
  have hub:=MN (p:=p) (c.uses.take k) x.cell fun u hu=>(hk.use v hvm c hcm u (List.mem_of_mem_take hu)).2
  have htl:(c.uses.take k).length≤12:=by rw [List.length_take];omega
  rw [CV]
  simp only [Int.toNat_natCast,AH hv,AH hpv,AH hca,AH hcc,AH hx,AH a2,EY a1,Ey a1,BI,cond_true,F9,a3]
  cases b
  ·
   rw [cond_false,cond_false]
   exact ih _ (by rw [hI];simp)
  ·
   rw [cond_true,BF hxp.2,Ve hk hu.1 hxp.2.1 hxp.2.2]
   simp only [if_true] at hI
   have hs1:0≤s∧s≤200000:=by omega
   by_cases he:ix p.cells u.cell=x.cell
   ·
    rw [decide_eq_true he,cond_true,show IntKind.wrap .i64 (s+u.places)=s+u.places from Eb (by omega) (by omega)]
    refine ih _ ?_
    rw [List.take_add_one,a2]
    simp only [if_true,Option.toList_some,List.map_append,List.map_cons,List.map_nil,List.sum_append,List.sum_cons,List.sum_nil,if_pos he]
    omega
   ·
    rw [decide_eq_false he,cond_false]
    refine ih _ ?_
    rw [List.take_add_one,a2]
    simp only [if_true,Option.toList_some,List.map_append,List.map_cons,List.map_nil,List.sum_append,List.sum_cons,List.sum_nil,if_neg he]
    omega
theorem WK {vi a:Int} {v:AM} {c:AN} (hv:r.variables[j]?=some vi) (hvi:0≤vi) (hpv:p.variables[vi.toNat]?=some v) (ha:0≤a) (hca:ch[vi.toNat]?=some a) (hcc:v.choices[a.toNat]?=some c)
  (hj:IntKind.i64.wrap ((j:Int)+1)=(j:Int)+1) (sf:Int→Int→Option Bool) (n:Int) (hn:0≤n∧n≤100000):
  BC (CW p r ch (i:Int) n (j:Int) sf) (((v.leaves.length:Int) - 0).toNat+1) false 0=sf (n+HV p x (v,c)) ((j:Int)+1):=by
 have hvm:=LG hpv
 have hll:=(hs.var v hvm).1
 have l1:vi.toNat<ch.length:=(List.getElem?_eq_some_iff.1 hca).1
 have l2:a.toNat<v.choices.length:=(List.getElem?_eq_some_iff.1 hcc).1
 refine Eq.trans (HT (B:=CW p r ch (i:Int) n (j:Int) sf) (fun k (s:Bool)=>s=decide (x.leaf∈v.leaves.take k)) (fun _ _ _=>sf (n+HV p x (v,c)) ((j:Int)+1)) v.leaves (by omega) ?_ ?_ (by omega) (by simp)) rfl
 ·
  intro sf' s hI
  rw [List.take_length] at hI
  rw [CW]
  simp only [Int.toNat_natCast,AH hv,AH hpv,AH hca,AH hcc,Jd,cond_false]
  rw [BF (by omega),BF (by omega),WJ hk hs hx hxp hv hpv hca hcc hj sf s n hn,hI]
  unfold HV
  by_cases h:x.leaf∈v.leaves
  · simp only [h,decide_true,if_true]
  · simp only [h,decide_false,if_false,Bool.false_eq_true]
 ·
  intro sf' k s lf t a1 a2 a3 hI ih
  rw [CW]
  simp only [Int.toNat_natCast,AH hv,AH hpv,AH hx,AH a2,EY a1,Ey a1,BI,cond_true,a3]
  have hstep:decide (x.leaf∈v.leaves.take (k+1))=(s||decide (lf=x.leaf)):=by
   rw [hI,List.take_add_one,a2]
   by_cases h1:x.leaf∈v.leaves.take k
   · simp [h1]
   ·
    by_cases h2:lf=x.leaf
    · simp [h2]
    ·
     have: ¬x.leaf=lf:=fun e=>h2 e.symm
     simp [h1,h2,this]
  cases s
  · rw [cond_false];exact ih _ (by rw [hstep,Bool.false_or])
  · rw [cond_true];exact ih _ (by rw [hstep,Bool.true_or])
end
def Tj (p:A8) (ch:List Int) (i:Int):AN:=(GO p i).choices.getD (ch.getD i.toNat default).toNat default
theorem PV {p:A8} {ch:List Int} (hf:IQ ch (Hj p.variables)) {vi:Int} (h:0≤vi∧vi<(p.variables.length:Int)):∃a,0≤a∧p.variables[vi.toNat]?=some (GO p vi)∧ch[vi.toNat]?=some a∧(GO p vi).choices[a.toNat]?=some (Tj p ch vi):=by
 have hlt:vi.toNat<p.variables.length:=by omega
 have hv:p.variables[vi.toNat]?=some (GO p vi):=by unfold GO;rw [AH (List.getElem?_eq_getElem hlt)];exact List.getElem?_eq_getElem hlt
 obtain⟨a,h1,h2,h3⟩:=Jv hf hv
 refine⟨a,h2,hv,h1,?_⟩
 have hal:a.toNat<(GO p vi).choices.length:=by omega
 unfold Tj
 rw [AH h1,AH (List.getElem?_eq_getElem hal)];exact List.getElem?_eq_getElem hal
theorem Oh {p:A8} (hk:FD p) (hs:Dg p) {ch:List Int} (hf:IQ ch (Hj p.variables)) (x:Az):∀{V:List Int},(∀i∈V,0≤i∧i<(p.variables.length:Int))→0≤Jl p (Tj p ch) V x∧Jl p (Tj p ch) V x≤96*(V.length:Int)
 |[],_=>by simp [Jl]
 |i::V,h=>by
  have ih:=Oh hk hs hf x (V:=V) fun j hj=>h j (List.mem_cons_of_mem _ hj)
  obtain⟨a,_,h1,_,h2⟩:=PV hf (h i (List.mem_cons_self ..))
  have:=KN hk hs (vc:=(GO p i,Tj p ch i)) (LG h1) (LG h2) x
  simp only [Jl,List.map_cons,List.sum_cons,List.length_cons] at ih ⊢
  omega
theorem WL {p:A8} (hk:FD p) (hs:Dg p) {r:Ba} {ch:List Int} (hf:IQ ch (Hj p.variables)) (hV:∀i∈r.variables,0≤i∧i<(p.variables.length:Int)) (hVl:r.variables.length≤6) (hP:∀x∈r.places,x∈HE p) (hPl:r.places.length≤48):
  D6 p r ch=some (r.places.any fun x=>decide (FL p x<Jl p (Tj p ch) r.variables x)):=by
 unfold D6
 refine GY (B:=D5 p r ch) (fun t=>some (t.any fun x=>decide (FL p x<Jl p (Tj p ch) r.variables x))) r.places (by omega) ?_ ?_ (by omega)
 · intro sf;rw [D5,Jd,cond_false];rfl
 ·
  intro sf i x t a1 a2 a3 ih
  have hxp:=MQ.1 (hP x (LG a2))
  rw [D5,EY a1,cond_true,BF (by omega)]
  refine Eq.trans (HT (B:=D4 p r ch (i:Int) sf) (s:=(0:Int)) (fuel:=((r.variables.length:Int) - 0).toNat+1) (fun k (s:Int)=>s=Jl p (Tj p ch) (r.variables.take k) x) (fun _ _ _=>some ((x::t).any fun x=>decide (FL p x<Jl p (Tj p ch) r.variables x))) r.variables (by omega) ?_ ?_ (by omega) (by simp [Jl])) rfl
  ·
   intro sf' s hI
   rw [List.take_length] at hI
   rw [D4]
   simp only [Int.toNat_natCast,AH a2,Jd,cond_false]
   rw [BF hxp.1,BF (by rw [S2 hk hxp.1.1 hxp.1.2];exact hxp.2),a3,ih,List.any_cons,hI]
   show(bif decide (FL p x<Jl p (Tj p ch) r.variables x) then _ else _)=_
   cases decide (FL p x<Jl p (Tj p ch) r.variables x)<;> rfl
  ·
   intro sf' j s vi t' b1 b2 b3 hI ih2
   have hvi:=hV vi (LG b2)
   obtain⟨a,ha,h1,h2,h3⟩:=PV hf hvi
   have hsb:=Oh hk hs hf x (V:=r.variables.take j) fun i hi=>hV i (List.mem_of_mem_take hi)
   have hjl:(r.variables.take j).length≤6:=by rw [List.length_take];omega
   rw [D4]
   simp only [Int.toNat_natCast,AH b2,EY b1,Ey b1,BI,cond_true,AH h1]
   rw [BF hvi,WK hk hs a2 hxp b2 hvi.1 h1 ha h2 h3 b3 sf' s (by omega)]
   refine ih2 _ ?_
   rw [hI,List.take_add_one,b2]
   simp [Jl,List.sum_append]
theorem Uw:∀{ns c d:List Int},nr ns c=some d→c.length=d.length
 |[],c,d,h=>by cases c<;> simp [nr] at h
 |n::ns,[],d,h=>by simp [nr] at h
 |n::ns,a::c,d,h=>by
  simp only [nr] at h
  split at h
  · obtain rfl:=Option.some.inj h;rfl
  ·
   cases hn:nr ns c with
   |none=>rw [hn] at h;cases h
   |some t=>rw [hn] at h;obtain rfl:=Option.some.inj h;simp [Uw hn]
theorem RP {p:A8} {V:List Int} {P:List Az} (hV:V.Sublist (II 0 p.variables.length)) (h:C4 p ⟨V,P⟩=true) {ch:List Int} (hf:IQ ch (Hj p.variables)):(P.any fun x=>decide (FL p x<Jl p (Tj p ch) V x))=true:=by
 have hn:V.Nodup:=(((KM 0 p.variables.length).sublist hV).imp fun h=>by omega)
 obtain⟨x,h1,h2⟩:=(KK (r:=⟨V,P⟩) hn).1 h (Tj p ch) fun i hi=>by
  obtain⟨a,_,_,_,e⟩:=PV hf (Kr hV i hi)
  exact LG e
 exact List.any_eq_true.2 ⟨x,h1,decide_eq_true h2⟩
theorem Vf {p:A8} (hk:FD p) (hs:Dg p) {s:Ba} (h:Jg p=some s) {i:Nat} (hi:i<s.variables.length):(s.variables.eraseIdx i).Sublist (II 0 p.variables.length)∧C4 p ⟨s.variables.eraseIdx i,s.places⟩=false:=by
 obtain⟨k,m,hk1,hm1,g1,g2,g3,g4,g5⟩:=MV hk h
 obtain⟨q1,q2,q3⟩:=IS.1 g1
 have hsub:=(List.eraseIdx_sublist s.variables i).trans q1
 refine⟨hsub,?_⟩
 cases hc:C4 p ⟨s.variables.eraseIdx i,s.places⟩
 · rfl
 ·
  obtain⟨f1,f2,f3⟩:=Mu hk hs hsub hc
  have hl:=List.length_eraseIdx_of_lt hi
  rw [g4 _ f2 (by omega)] at f1;cases f1
theorem Vg {p:A8} (hk:FD p) (hs:Dg p) {s:Ba} (h:Jg p=some s) {i:Nat} (hi:i<s.places.length):(s.places.eraseIdx i).Sublist (Lh p)∧C4 p ⟨s.variables,s.places.eraseIdx i⟩=false:=by
 obtain⟨k,m,hk1,hm1,g1,g2,g3,g4,g5⟩:=MV hk h
 obtain⟨q1,q2,q3⟩:=IS.1 g1
 obtain⟨r1,r2⟩:=G3.1 g2
 have hsub:=(List.eraseIdx_sublist s.places i).trans r1
 refine⟨hsub,?_⟩
 cases hc:C4 p ⟨s.variables,s.places.eraseIdx i⟩
 · rfl
 ·
  obtain⟨m',f1,f2,f3⟩:=RO hk hs q1 ((HG p _).sublist hsub) hc
  have hl:=List.length_eraseIdx_of_lt hi
  exact absurd (g5 m' f1 (by omega) _ g1) f3
structure Ux (p:A8) (sm:Ba × Bool × Int):Prop where
 err:sm.2.2=0
 vs:(sm.2.1 == decide (0<(sm.1.variables.length:Int)))=true
 ps:(sm.2.1 == decide (0<(sm.1.places.length:Int)))=true
 all:VM p (II 0 p.variables.length)=sm.2.1
 sub:sm.1.variables.Sublist (II 0 p.variables.length)∧sm.1.places.Sublist (Lh p)
 some:sm.2.1=true→Jg p=some sm.1∧C4 p sm.1=true
theorem Yq {p:A8} (hk:FD p) (hs:Dg p):Ux p (Oe (Jg p)):=by
 cases h:Jg p with
 |none=>
  refine⟨rfl,rfl,rfl,?_,⟨List.nil_sublist _,List.nil_sublist _⟩,fun h=>by cases h⟩
  show _=false
  rw [RK hk hs (List.Sublist.refl _)]
  cases hc:C4 p ⟨II 0 p.variables.length,Lh p⟩
  · rfl
  ·
   obtain⟨f1,f2,f3⟩:=Mu hk hs (List.Sublist.refl _) hc
   rw [RN hk h f2 f3] at f1;cases f1
 |some s=>
  obtain⟨k,m,hk1,hm1,g1,g2,g3,g4,g5⟩:=MV hk h
  obtain⟨q1,q2,q3⟩:=IS.1 g1
  obtain⟨r1,r2⟩:=G3.1 g2
  refine⟨rfl,?_,?_,?_,⟨q1,r1⟩,fun _=>⟨h,g3⟩⟩
  ·
   show(true == decide (0<(s.variables.length:Int)))=true
   rw [decide_eq_true (by omega)];rfl
  ·
   show(true == decide (0<(s.places.length:Int)))=true
   rw [decide_eq_true (by omega)];rfl
  ·
   show _=true
   rw [RK hk hs (List.Sublist.refl _)]
   exact QF (r:=s) (r':=⟨II 0 p.variables.length,Lh p⟩) hk hs q1 (Kr (List.Sublist.refl _)) ((KM 0 _).imp fun h=>by omega) (fun x hx=>r1.subset hx) g3
theorem QM {p:A8} (hp:C3 p) (ho:FA p=true) (hs:Dg p) {sm:Ba × Bool × Int} {k80:Bool→Option Bool} {c:List Int} (hc:IQ c (Hj p.variables).reverse) (hhit:sm.2.1=true→D6 p sm.1 c.reverse=some true) (all:Bool) (sf:Bool→List Int→Option Bool):
  C9 p sm k80 sf all c.reverse=match nr (Hj p.variables).reverse c with |some d=>sf (all&&decide (Gt p (CJ p c.reverse)≠[])) d.reverse |none=>k80 (all&&decide (Gt p (CJ p c.reverse)≠[])):=by
 have hfc:IQ c.reverse (Hj p.variables):=by have:=GB hc;rwa [List.reverse_reverse] at this
 obtain⟨v,v1,v2,v3⟩:=UY hp ho hs hfc
 have hv6:=hs.vars
 have v4:decide (0<v.getD 0 default)=decide (Gt p (CJ p c.reverse)≠[]):=by rw [v3];simp
 have hnx:=W1 c.reverse (Hx hfc).2 (by omega) (fun a ha=>by have:=LL hs hfc a ha;omega)
 unfold LI at hnx
 rw [List.reverse_reverse] at hnx
 have hck:ck (c.reverse.length=c.reverse.length)=fun m:Option Bool=>m:=by funext m;exact BF rfl
 have fin:∀a3:Bool,((DW p c.reverse).bind fun next_1=>
      ck (c.reverse.length=next_1.2.length)<|
      ck (c.reverse.length=next_1.2.length)<|
      bif (!next_1.1) then
       k80 a3
      else
       sf a3 next_1.2)=match nr (Hj p.variables).reverse c with |some d=>sf a3 d.reverse |none=>k80 a3:=by
  intro a3
  rw [hnx]
  cases hn:nr (Hj p.variables).reverse c with
  |none=>simp only [Option.map_none,Option.bind_some];rw [BF (by simp [zs]),BF (by simp [zs])];rfl
  |some d=>
   have:=Uw hn
   simp only [Option.map_some,Option.bind_some];rw [BF (by simp [this]),BF (by simp [this])];rfl
 rw [C9,v1]
 simp only [Option.bind_some,ne_eq,not_true_eq_false,decide_false,cond_false,F9,v2]
 rw [show decide (¬(((4:Nat):Int)=4))=false by decide,cond_false]
 cases hok:sm.2.1
 ·
  cases all
  · simp only [cond_false,Bool.false_and];exact fin false
  ·
   simp only [cond_false,cond_true,Bool.true_and]
   rw [BF (by decide),v4];exact fin _
 ·
  rw [hhit hok]
  cases all
  · simp only [cond_false,cond_true,Bool.false_and,Option.bind_some,Bool.not_true];exact fin false
  ·
   simp only [cond_false,cond_true,Bool.true_and,Option.bind_some,Bool.not_true]
   rw [BF (by decide),v4];exact fin _
theorem Uy {p:A8} (hp:C3 p) (ho:FA p=true) (hs:Dg p) {sm:Ba × Bool × Int} (hF:Ux p sm) (hok:sm.2.1=true):
  B0 (BW p sm) (((sm.1.places.length:Int) - 0).toNat+1) 0=some true:=by
 have hk:=FD.of ho
 obtain⟨hs1,hs2⟩:=hF.some hok
 have hP:=(SB hs hF.sub.1 hF.sub.2).2.2.2
 refine GY (B:=BW p sm) (fun _=>some true) sm.1.places (by omega) ?_ ?_ (by omega)
 · intro sf;rw [BW,Jd,cond_false]
 ·
  intro sf i x t a1 a2 a3 ih
  obtain⟨g1,g2⟩:=Vg hk hs hs1 a1
  have e1:(sm.1.places.drop (i+1)).take (sm.1.places.length - (i+1))=sm.1.places.drop (i+1):=List.take_of_length_le (by simp)
  rw [BW,EY a1,cond_true,a3]
  simp only [List.nil_append,List.drop_zero,Nat.sub_zero,Int.toNat_natCast,List.length_nil,Nat.zero_add]
  rw [show((i:Int)+1).toNat=i+1 by omega,e1,← List.eraseIdx_eq_take_drop_succ]
  rw [BF (by omega),BF (by rw [List.length_take];omega),BF (by omega),BF (by rw [List.length_take,List.length_drop];omega)]
  rw [RL hp ho hs hF.sub.1 g1,g2,Option.bind_some]
  simp only [F9,cond_false,ne_eq,not_true_eq_false,decide_false]
  exact ih
theorem Uz {p:A8} (hp:C3 p) (ho:FA p=true) (hs:Dg p) {sm:Ba × Bool × Int} (hF:Ux p sm) (hok:sm.2.1=true):
  B0 (BX p sm) (((sm.1.variables.length:Int) - 0).toNat+1) 0=some true:=by
 have hk:=FD.of ho
 obtain⟨hs1,hs2⟩:=hF.some hok
 have hV:=(SB hs hF.sub.1 hF.sub.2).2.2.1
 refine GY (B:=BX p sm) (fun _=>some true) sm.1.variables (by omega) ?_ ?_ (by omega)
 · intro sf;rw [BX,Jd,cond_false,Uy hp ho hs hF hok]
 ·
  intro sf i x t a1 a2 a3 ih
  obtain⟨g1,g2⟩:=Vf hk hs hs1 a1
  have e1:(sm.1.variables.drop (i+1)).take (sm.1.variables.length - (i+1))=sm.1.variables.drop (i+1):=List.take_of_length_le (by simp)
  rw [BX,EY a1,cond_true,a3]
  simp only [List.nil_append,List.drop_zero,Nat.sub_zero,Int.toNat_natCast,List.length_nil,Nat.zero_add]
  rw [show((i:Int)+1).toNat=i+1 by omega,e1,← List.eraseIdx_eq_take_drop_succ]
  rw [BF (by omega),BF (by rw [List.length_take];omega),BF (by omega),BF (by rw [List.length_take,List.length_drop];omega)]
  rw [RL hp ho hs g1 hF.sub.2,g2,Option.bind_some]
  simp only [F9,cond_false,ne_eq,not_true_eq_false,decide_false]
  exact ih
theorem Oi (p:A8) (hp:C3 p):DE p=some true:=by
 obtain⟨fu,hfu⟩:∃n:Nat,n=1000000:=⟨_,rfl⟩
 unfold DE
 obtain⟨b,hb,hS⟩:=WD hp
 rw [Wq,hb,← hfu,PI hp]
 simp only [Option.bind_some,Bool.not_true,cond_false,F9]
 cases b
 · rfl
 obtain⟨hs,hL⟩:=hS rfl
 have hm13:=WI hp hs hL
 cases h1:FA p
 · rfl
 rw [h1,cond_true] at hm13
 have hk:=FD.of h1
 have hF:=Yq hk hs
 rw [hm13]
 generalize Oe (Jg p)=sm at hF
 have hv6:=hs.vars
 simp only [cond_true,Bool.not_true,Option.bind_some,ne_eq,not_true_eq_false,decide_false,cond_false,hF.err,hF.vs,hF.ps]
 rw [BF (by omega)]
 obtain⟨q1,q2,q3,q4⟩:=SB hs hF.sub.1 hF.sub.2
 have hhit:∀c,IQ c (Hj p.variables).reverse→sm.2.1=true→D6 p sm.1 c.reverse=some true:=by
  intro c hc hok
  have hfc:IQ c.reverse (Hj p.variables):=by have:=GB hc;rwa [List.reverse_reverse] at this
  obtain⟨hs1,hs2⟩:=hF.some hok
  rw [WL hk hs hfc (Kr hF.sub.1) q3 (fun x hx=>(Jf.1 (hF.sub.2.subset hx)).1) q4,RP hF.sub.1 hs2 hfc]
 let P:List Int→Bool:=fun c=>decide (Gt p (CJ p c.reverse)≠[])
 have key:∀(k80:Bool→Option Bool) (L:List (List Int)) (c:List Int) (all:Bool) (fuel:Nat),PN (nr (Hj p.variables).reverse) (c::L)→(∀c'∈c::L,IQ c' (Hj p.variables).reverse)→L.length+2<fuel→
   BC (C9 p sm k80) fuel all c.reverse=k80 (all&&(c::L).all P):=by
  intro k80 L
  induction L with
  |nil=>
   intro c all fuel he hc hfl
   obtain⟨n,rfl⟩:∃n,fuel=n+1:=⟨fuel - 1,by omega⟩
   have hcf:=hc c (List.mem_cons_self ..)
   rw [Ds,QM hp h1 hs hcf (hhit c hcf),show nr (Hj p.variables).reverse c=none from he]
   simp [P]
  |cons d L ih=>
   intro c all fuel he hc hfl
   obtain⟨n,rfl⟩:∃n,fuel=n+1:=⟨fuel - 1,by omega⟩
   have hcf:=hc c (List.mem_cons_self ..)
   rw [Ds,QM hp h1 hs hcf (hhit c hcf),show nr (Hj p.variables).reverse c=some d from he.1]
   simp only
   rw [ih d _ n he.2 (fun c' h=>hc c' (List.mem_cons_of_mem _ h)) (by simp at hfl;omega)]
   simp [P,Bool.and_assoc]
 have hn1:∀n∈(Hj p.variables).reverse,1≤n∧n≤8:=by
  intro n hn
  rw [List.mem_reverse] at hn
  obtain⟨v,hv,rfl⟩:=List.mem_map.1 hn
  have:=hk.ch v hv;have:=(hs.var v hv).2.1
  omega
 obtain⟨en,t,ht⟩:=ML (ns:=(Hj p.variables).reverse) fun n hn=>(hn1 n hn).1
 have hlen2:=NW (ns:=(Hj p.variables).reverse) fun n hn=>(hn1 n hn).2
 have hz:(List.replicate p.variables.length (0:Int))=(((Hj p.variables).reverse.map fun _=>(0:Int)).reverse):=by
  rw [← List.map_reverse,List.reverse_reverse,Hj,List.map_map]
  exact(List.map_const' ..).symm
 rw [hz,key _ t _ true fu (by rw [← ht];exact en) (fun c' h=>I4.1 (by rw [ht];exact h)) (by
  rw [ht] at hlen2
  have h8:8 ^ ((Hj p.variables).reverse).length≤8 ^ 6:=Nat.pow_le_pow_right (by omega) (by simp [Hj];omega)
  simp only [List.length_cons] at hlen2
  have:(8:Nat) ^ 6=262144:=by decide
  omega),← ht,Bool.true_and]
 have hall:(LH (Hj p.variables).reverse).all P=sm.2.1:=by
  rw [← hF.all]
  unfold VM
  rw [Pg,← Un]
  rfl
 rw [hall]
 cases hok:sm.2.1
 · rfl
 ·
  have hm17:=RL hp h1 hs hF.sub.1 hF.sub.2
  have hm17:CT p sm.1=some (C4 p sm.1,0):=hm17
  rw [hm17,(hF.some hok).2]
  simp only [beq_self_eq_true,Bool.not_true,cond_false,Option.bind_some,ne_eq,not_true_eq_false,decide_false]
  exact Uz hp h1 hs hF hok
end Go.Fx
namespace Go.Proofs.Ytijekcoafilmeaa.lawReasonTrue
open Go Go.Proofs Go.ChangeShapes Go.WideShapes Go.ChangeAt Go.RowKit Go.Fx
open Go.ChangeMaps (open_string shut_string)
set_option linter.unusedVariables false
set_option maxRecDepth 100000
theorem own : ownKnob Try.prog.godebug = none := by kernel_rfl
theorem laidOut : laidOutB Try.prog = true := by kernel_rfl
set_option maxRecDepth 100000 in
set_option maxHeartbeats 1000000 in
theorem lifted (os : Os) (started : os.Started) (H : Type) (enc : TypeId × Value → H) :
    ReturnsInHanded {} Try.checked os 3 .any (Rows.reasonTrueSpec.pre6 enc Try.prog Try.f3 Rows.reasonTrueRow.domain false) (Rows.reasonTrueSpec.post enc Try.prog Try.f3 false true false false) := by
  refine returnsInHanded_of_change_sized (C := Try.checked) own started (by kernel_rfl) Try.func3
    (ChangeSpec.witness6 (enc := enc) (C := Try.checked) false ⟨#[], #[.agg #[(.slice none 0 0), (.slice none 0 0), (.slice none 0 0)]], []⟩ 8 (by kernel_rfl) (by kernel_rfl) (by kernel_rfl) (by kernel_rfl)) ?_
  intro W base args ds gs before hval0 hW hcnd hsz _
  have hval : ∀ (j : Nat) t v, Try.f3.params[j]? = some t → args[j]? = some v → Value.okWide Try.prog W .any base t v := hval0
  have hW' := hW
  obtain ⟨p, q, hA0, hV, rfl, hfz, hnd⟩ := hW
  have hA : DataW.TrodAll enc Try.prog W 0 (fun _ => true) true Try.f3.params.toList args.toList ds p := hA0
  rw [Try.params3] at hA hval
  obtain ⟨v0, vs0, d0, ds0, p0, q0, hargs, rfl, rfl, h0, r0⟩ := trodAll_cons hA
  obtain ⟨rfl, rfl, rfl⟩ := trodAll_nil r0
  obtain rfl : args = #[v0] := by cases args; simp_all
  obtain ⟨rfl, rfl⟩ := trodVars_none hV
  have k0 := h0
  have lt0 : ∀ x ∈ p0, x.block < W.heap.size := by obtain ⟨m, hm⟩ := k0; exact DataW.trod_lt m _ _ _ hm
  obtain ⟨fu0, hf0⟩ := h0
  obtain ⟨p, rr0, sm0⟩ := rd26.2 _ _ _ hf0
  replace sm0 := sm0 (fun n hn => by have := List.all_eq_true.1 hsz n (DataW.weights_mem_each (j := 0) (t := 26) rfl rfl n hn); simpa using this)
  obtain ⟨⟨cs0⟩, rfl, _⟩ := okWide_struct Try.underlying26 (hval 0 26 v0 rfl rfl)
  replace rr0 : FY.rd W [] cs0 p := rr0
  obtain ⟨_, _, rfl, ⟨a_p_cells, c_p_cells, rfl, f_p_cells⟩, ⟨_, _, rfl, ⟨a_p_capacity, c_p_capacity, rfl, f_p_capacity⟩, ⟨a_p_variables, c_p_variables, rfl, f_p_variables⟩⟩⟩ := rr0
  have hm : DE p = some true := Oi _ sm0
  have hc := Fn.calls (I1 (p := p) (w := W) (O := []) (by simp) f_p_cells f_p_capacity f_p_variables hm)
  clear hA0 hval0
  refine Calls.mono hc ?_
  rintro e W' ⟨v, rfl, bel, hv⟩
  replace bel := bel.below; obtain rfl : v = .bool true := hv
  exact ⟨_, rfl, _, _, _, [], _, [], hW', trodAll_mk1 (shut_bool Try.underlying4 _), (trodAll_cons_mk (Below.trod laidOut (by kernel_rfl) (of_decide_eq_true (by kernel_rfl)) k0 bel lt0) trodAll_mk0), rfl, bel.frame _, fun h => by cases h⟩
theorem over : Rows.reasonTrueRow.holds Try.pinned (OpenSpec.ofChange Rows.reasonTrueSpec) :=
  OpenClaim.holds_of_wide 3 Try.f3 rfl rfl rfl rfl rfl rfl rfl ⟨rfl, rfl, rfl, rfl, rfl⟩ rfl rfl rfl rfl rfl (by kernel_rfl) Try.func3 (by kernel_rfl)
    (of_decide_eq_true (by kernel_rfl)) (by unfold Func.isWrapper; first | (rw [if_pos (by decide +kernel)]; kernel_rfl) | (rw [if_neg (by decide +kernel)]; exact ⟨rfl, rfl⟩))
    (fun os started H enc _ => lifted os started H enc)
theorem proved : Rows.ReasonTrueSaid := over
end Go.Proofs.Ytijekcoafilmeaa.lawReasonTrue
