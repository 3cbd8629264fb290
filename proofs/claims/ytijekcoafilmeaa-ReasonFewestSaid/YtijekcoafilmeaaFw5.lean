/- Part 5 of the proof: no reason that proves has fewer variables than the smallest one, or as many and fewer places. -/
import Derived.Test.YtijekcoafilmeaaFw4
set_option linter.unusedVariables false
set_option linter.unusedSimpArgs false
set_option maxRecDepth 100000
set_option maxHeartbeats 0
namespace Go.Fx
open Go Go.RowKit Go.Proofs
abbrev q87_0:List Nat:=[4,5,12,13,14,15,16,17,18,19,20,21,22,23,24,25,26,27,28,29,30,31]

def m87_overflightref27_Branch_B0 (p:XProblem) (b:List Int) (sf13:Int→Option Bool) (i_1:Int):Option Bool:=
 bif (decide (i_1<(b.length:Int))) then
  ck ((0:Int)≤i_1∧i_1<(b.length:Int))<|
  ck ((0:Int)≤i_1∧i_1<(p.variables.length:Int))<|
  (m61_overflightref27_within (b.getD i_1.toNat default) 0 (IntKind.wrap .i64 ((((p.variables.getD i_1.toNat default).choices).length:Int) - 1))).bind fun within_1=>
  bif (!within_1) then
   some false
  else
   sf13 (IntKind.wrap .i64 (i_1+1))
 else
  some true

def m87_overflightref27_Branch (p:XProblem) (b:List Int):Option Bool:=
 bif (decide ((p.variables.length:Int)<(b.length:Int))) then
  some false
 else
  loop1 (m87_overflightref27_Branch_B0 p b) (((b.length:Int) - 0).toNat+1) 0

theorem c87_overflightref27_Branch {w:World} {O:List Nat} {p:XProblem} {b:List Int} {Aa:Option Addr} {Ca:Nat} {Ab:Option Addr} {Cb:Nat} {Ac:Option Addr} {Cc:Nat} {Ad:Option Addr} {Cd:Nat} (hO:∀k∈O,k<w.heap.size) (Fa:SlR rXCell w O Aa Ca p.cells) (Fb:SlR (rSl (rInt .i64)) w O Ab Cb p.capacity) (Fc:SlR rXVariable w O Ac Cc p.variables) (Fd:SlR (rInt .i64) w O Ad Cd b) {x:Bool} (hm:m87_overflightref27_Branch p b=some x):
 Ok Try.prog 87 [Value.agg [Sl Aa p.cells Ca,Sl Ab p.capacity Cb,Sl Ac p.variables Cc].toArray,Sl Ad b Cd] w O vB x:=by
 unfold m87_overflightref27_Branch at hm
 refine Fn_of_Wp (n:=32) (xs:=[.tmp 4]) Try.func87 rfl Try.ntmps87 Try.results87 rfl ?_
 have hs:=St.start hO
 refine Wb<|Wa<|Rop<|op_box (cs:=[Sl Aa p.cells Ca,Sl Ab p.capacity Cb,Sl Ac p.variables Cc]) hs rfl rfl ?_
 intro b1 w2 _ p3 hs4
 refine Asg (Bo false) rfl<|Ri2<|Wb<|Wb<|Wa<|Mve (Sl Ad b Cd) rfl<|Rop<|op_len Try.underlying31 rfl ?_
 replace Fd:=Fd.step p3
 have rl6:=inK_len Fd
 refine Rop<|op2 2 ty26 rfl ty24 rfl rfl<|Rop<|oq2 0 ty24 hs4 rfl rfl rfl<|Rop<|op_len Try.underlying24 rfl ?_
 replace Fc:=Fc.step p3
 have rl7:=inK_len Fc
 refine Rop<|op_gtr rfl rfl<|Ri2<|Wo2 hm rfl (fun hc8 hm=>?_) (fun hc8 hm=>?_)
 refine Wb ?_
 obtain⟨hs9,p10⟩:=hs4.sub (bs':=[]) (.cons _ List.Sublist.slnil)
 clear Fa Fb Fc Fd
 clear hs4
 refine Wa<|Asg (Bo false) rfl<|Ri2<|Wp_ret<|⟨_,Clo,[Bo false],⟨rfl,trivial⟩,hs9.ext,?_⟩
 exact Vr.eq (a:=vB) (x:=false) rfl (oi hm)
 refine Ws2<|Wb<|Wb<|Wa<|Asg (Iv 0) rfl<|Ri2<|Wn2<|Wr [] [(1,Sl Ad b Cd),(2,Pt b1 0),(5,Iv 0)] fun ξ12=>Wp_loopM q87_0 (fun m fr w'=>∃(i_1:Int) (Ebs:Ents),Ebs=[(some b1,Oc [Sl Aa p.cells Ca,Sl Ab p.capacity Cb,Sl Ac p.variables Cc] 26)]∧fr [] [(5,Iv i_1)]∧hs4.S (ks Ebs O) w'∧St ⟨w,[],[]⟩ O w' Ebs∧InK .i64 i_1∧loop1 (m87_overflightref27_Branch_B0 p b) m i_1=some x) (((b.length:Int) - 0).toNat+1) ⟨0,_,rfl,Frm.of ⟨rfl,trivial⟩,Step.refl _ _,hs4,(show InK .i64 0 from by decide),hm⟩ ?_ ?_
 rintro _ _ ⟨_,_,_,_,_,_,_,hm⟩;exact loop1_z hm
 rintro m16 K15 hK15 ρ21 w17 ⟨i_1,_,rfl,hfr20,hst19,hs18,Ra,hm⟩
 obtain⟨sf13,hsf14,hm⟩:=loop1_s hm;unfold m87_overflightref27_Branch_B0 at hm
 rw [hfr20.eq];clear hfr20
 have ch22:=hst19
 refine Wb<|Wb<|Wa<|Mve (Iv i_1) rfl<|Mve (Sl Ad b Cd) rfl<|Rop<|op_len Try.underlying31 rfl ?_
 replace Fd:=Fd.step hst19
 have rl23:=inK_len Fd
 refine Rop<|op_lss rfl rfl<|Ri2<|Wo2 hm rfl (fun hc24 hm=>?_) (fun hc24 hm=>?_)
 refine Ws2<|Wb<|Wn2<|Wb<|Wp_drawR (g0:=[]) (m:=12) (fl:=[]) (TS_inv hs18) rfl (.inl rfl) rfl (by decide+kernel) ?_  -- 6
 refine Dw_p (Sl Ad b Cd) (fun _ _ _ hi ht=>ok2 (v:=Sl Ad b Cd) (ht 1 rfl)<|Gz hi)<|Dw_p (Iv i_1) (fun _ _ _ hi ht=>ok2 (v:=Iv i_1) (ht 5 rfl)<|Gz hi) ?_
 obtain⟨hc34,hm⟩:=ck_some hm
 refine Dw_op (VP _ _ (rInt .i64) (b.getD i_1.toNat default)) (VP.stab _ _) (fun ρ31 w32 g hle hi ht=>?_) ?_
 obtain⟨-,hst,-⟩:=hle
 replace Fd:=Fd.step hst
 refine Sj2<|om2 (q:=(rInt .i64)) ty31 ty3 (ht 18 rfl) (ht 19 rfl) Fd rfl hc34.1 hc34.2 ?_
 intro p35 f36
 exact Goes.same hi ⟨_,rfl,f36⟩
 refine Dw_op (VD _ _ (vI .i64) (b.getD i_1.toNat default)) (VD.stab _ _) (fun ρ37 w38 g hle hi ht=>?_) ?_
 obtain⟨p40,q41,f42⟩:=ht 20 rfl
 refine Sj2<|ot2 ty3 q41 f42 rfl ?_
 intro v43 h44
 obtain⟨rfl,Rb⟩:=un_int h44
 exact Goes.same hi (show Vr.vd (vI .i64) _ _ _ _ from⟨rfl,Rb⟩)
 refine Dw_p (Pt b1 2) (fun _ _ _ hi ht=>op2 2 ty26 rfl ty24 (ht 2 rfl) rfl<|Gz hi)<|Dw_p (Sl Ac p.variables Cc) (fun _ _ _ hi ht=>oq2 0 ty24 (Step.nx hi).1 (ht 22 rfl) rfl rfl<|Gz hi)<|Dw_p (Iv i_1) (fun _ _ _ hi ht=>ok2 (v:=Iv i_1) (ht 5 rfl)<|Gz hi) ?_
 obtain⟨hc58,hm⟩:=ck_some hm
 replace Fc:=Fc.step hst19
 refine Dw_op (VP _ _ rXVariable (p.variables.getD i_1.toNat default)) (VP.stab _ _) (fun ρ55 w56 g hle hi ht=>?_) ?_
 obtain⟨-,hst,-⟩:=hle
 replace Fc:=Fc.step hst
 refine Sj2<|om2 (q:=rXVariable) ty24 ty61 (ht 23 rfl) (ht 24 rfl) Fc rfl hc58.1 hc58.2 ?_
 intro p59 f60
 exact Goes.same hi ⟨_,rfl,f60⟩
 refine Dw_op (VP _ _ (rSl rXChoice) ((p.variables.getD i_1.toNat default).choices)) (VP.stab _ _) (fun ρ61 w62 g hle hi ht=>?_) ?_
 obtain⟨p64,q65,f66⟩:=ht 25 rfl
 refine Sj2<|op_fieldAddr ty61 rfl ty59 (by decide) q65 rfl ?_
 have f67:=f66.via.snd.snd.snd
 exact Goes.same hi ⟨_,rfl,f67⟩
 refine Dw_op (VD _ _ (vC (rSl rXChoice)) ((p.variables.getD i_1.toNat default).choices)) (VD.stab _ _) (fun ρ68 w69 g hle hi ht=>?_) ?_
 obtain⟨p71,q72,f73⟩:=ht 26 rfl
 refine Sj2<|ot2 ty59 q72 f73 rfl ?_
 intro v74 h75
 obtain⟨Ae,Ce,rfl,Fe⟩:=un_sl h75
 exact Goes.same hi (show Vr.vd (vC (rSl rXChoice)) _ _ _ _ from(mkC (mk_sl Fe)))
 refine Dw_op (VD _ _ (vI .i64) (((p.variables.getD i_1.toNat default).choices).length:Int)) (VD.stab _ _) (fun ρ77 w78 g hle hi ht=>?_) ?_
 have h80:Vr.vd (vC (rSl rXChoice)) _ _ _ _:=ht 27 rfl
 obtain⟨Af,Cf,q81,Ff⟩:=un_sl h80
 exact Sj2<|op_len Try.underlying59 q81<|Goes.same hi (show Vr.vd (vI .i64) _ _ _ _ from⟨rfl,inK_len Ff⟩)
 refine Dw_eq (Iv (IntKind.wrap .i64 ((((p.variables.getD i_1.toNat default).choices).length:Int) - 1))) (fun ρ83 w84 g hle hi ht=>?_) ?_
 have h86:Vr.vd (vI .i64) _ _ _ _:=ht 28 rfl
 obtain⟨q87,Rc⟩:=h86
 exact Sj2<|op_subw q87 rfl<|Gz hi
 refine Dw_nil fun w93 g94 hl95 hi96=>?_
 obtain⟨-,hst97,-⟩:=hl95
 obtain⟨hs99,p98⟩:=Step.nx hi96
 rintro _ rfl v100 h101
 replace h101:Vr.vd (vI .i64) _ _ _ _:=h101
 obtain⟨rfl,Rd⟩:=h101
 rintro v103 h104
 replace h104:Vr.vd (vC (rSl rXChoice)) _ _ _ _:=h104
 obtain⟨Ag,Cg,rfl,Fg⟩:=un_sl h104
 rintro _ ⟨p106,rfl,f107⟩ _ ⟨p108,rfl,f109⟩ _ rfl _ rfl _ rfl v110 h111
 replace h111:Vr.vd (vI .i64) _ _ _ _:=h111
 obtain⟨rfl,Re⟩:=h111
 rintro _ ⟨p113,rfl,f114⟩ _ rfl _ rfl
 have p115:=hs18.to hs99 (hst97.trans p98)
 replace Fg:=Fg.step p98;replace f107:=f107.step p98;replace f109:=f109.step p98;replace f114:=f114.step p98;clear hs18
 obtain⟨within_1,hv116,hm⟩:=bd hm
 refine Rop<|op_callE hs99 Try.call61 (c61_overflightref27_within (n:=b.getD i_1.toNat default) (lo:=0) (hi:=(IntKind.wrap .i64 ((((p.variables.getD i_1.toNat default).choices).length:Int) - 1))) hs99.ltw Re (show InK .i64 0 from by decide) (inK_wrap .i64 _) hv116) rfl ?_
 rintro v117 w118 p122 hs121 h120
 clear hs99
 obtain rfl:=h120
 refine Rop<|op_not rfl<|Ri2<|Wo2 hm rfl (fun hc124 hm=>?_) (fun hc124 hm=>?_)
 refine Wb ?_
 clear Fd Fg f107 f109 f114
 refine Wa<|Asg (Bo false) rfl<|Ri2<|Wp_ret<|⟨_,Clo,[Bo false],⟨rfl,trivial⟩,hs121.ext,?_⟩
 exact Vr.eq (a:=vB) (x:=false) rfl (oi hm)
 refine Ws2 ?_
 clear Fg f107 f109 f114
 refine Wa<|Mve (Iv i_1) rfl<|Rop<|op_addw rfl rfl<|Asg (Iv (IntKind.wrap .i64 (i_1+1))) rfl<|Ri2 ?_
 have p125:=(p115.trans p122)
 replace ch22:=ch22.trans p125
 exact hK15 _ _ ⟨(IntKind.wrap .i64 (i_1+1)),_,rfl,Frm.of ⟨rfl,trivial⟩,ch22,hs121,(inK_wrap .i64 _),jnE1 hsf14 hm⟩
 refine Wp_exit<|Wb ?_
 obtain⟨hs126,p127⟩:=hs18.sub (bs':=[]) (.cons _ List.Sublist.slnil)
 clear Fa Fb Fc Fd
 clear hs18
 refine Wa<|Asg (Bo true) rfl<|Ri2<|Wp_ret<|⟨_,Clo,[Bo true],⟨rfl,trivial⟩,hs126.ext,?_⟩
 exact Vr.eq (a:=vB) (x:=true) rfl (oi hm)

abbrev q89_0:List Nat:=[4,5,6,7,8,9,10,11,12,13,14,15,16,17,18,19]

def m89_overflightref27_Counts_B0 (v:XVariable) (leaf:Int) (sf8:Int→Option Bool) (i_1:Int):Option Bool:=
 bif (decide (i_1<(v.leaves.length:Int))) then
  ck ((0:Int)≤i_1∧i_1<(v.leaves.length:Int))<|
  bif (decide ((v.leaves.getD i_1.toNat default)=leaf)) then
   some true
  else
   sf8 (IntKind.wrap .i64 (i_1+1))
 else
  some false

def m89_overflightref27_Counts (v:XVariable) (leaf:Int):Option Bool:=
 loop1 (m89_overflightref27_Counts_B0 v leaf) (((v.leaves.length:Int) - 0).toNat+1) 0

theorem c89_overflightref27_Counts {w:World} {O:List Nat} {v:XVariable} {leaf:Int} {Aa:Option Addr} {Ca:Nat} {Ab:Option Addr} {Cb:Nat} (hO:∀k∈O,k<w.heap.size) (Ra:InK .i64 v.flight) (Rb:InK .i64 v.node) (Fa:SlR (rInt .i64) w O Aa Ca v.leaves) (Fb:SlR rXChoice w O Ab Cb v.choices) (Rc:InK .i64 leaf) {x:Bool} (hm:m89_overflightref27_Counts v leaf=some x):
 Ok Try.prog 89 [Value.agg [Iv v.flight,Iv v.node,Sl Aa v.leaves Ca,Sl Ab v.choices Cb].toArray,Iv leaf] w O vB x:=by
 unfold m89_overflightref27_Counts at hm
 refine Fn_of_Wp (n:=20) (xs:=[.tmp 4]) Try.func89 rfl Try.ntmps89 Try.results89 rfl ?_
 have hs:=St.start hO
 refine Wb<|Wa<|Rop<|op_box (cs:=[Iv v.flight,Iv v.node,Sl Aa v.leaves Ca,Sl Ab v.choices Cb]) hs rfl rfl ?_
 intro b1 w2 _ p3 hs4
 refine Asg (Bo false) rfl<|Ri2<|Wb<|Wb<|Wa<|Asg (Iv 0) rfl<|Ri2<|Wn2<|Wr [] [(1,Iv leaf),(2,Pt b1 0),(5,Iv 0)] fun ξ7=>Wp_loopM q89_0 (fun m fr w'=>∃(i_1:Int) (Ebs:Ents),Ebs=[(some b1,Oc [Iv v.flight,Iv v.node,Sl Aa v.leaves Ca,Sl Ab v.choices Cb] 61)]∧fr [] [(5,Iv i_1)]∧hs4.S (ks Ebs O) w'∧St ⟨w,[],[]⟩ O w' Ebs∧InK .i64 i_1∧loop1 (m89_overflightref27_Counts_B0 v leaf) m i_1=some x) (((v.leaves.length:Int) - 0).toNat+1) ⟨0,_,rfl,Frm.of ⟨rfl,trivial⟩,Step.refl _ _,hs4,(show InK .i64 0 from by decide),hm⟩ ?_ ?_
 rintro _ _ ⟨_,_,_,_,_,_,_,hm⟩;exact loop1_z hm
 rintro m11 K10 hK10 ρ16 w12 ⟨i_1,_,rfl,hfr15,hst14,hs13,Rd,hm⟩
 obtain⟨sf8,hsf9,hm⟩:=loop1_s hm;unfold m89_overflightref27_Counts_B0 at hm
 rw [hfr15.eq];clear hfr15
 have ch17:=hst14
 refine Wb<|Wb<|Wa<|Mve (Iv i_1) rfl<|Rop<|op2 2 ty61 rfl ty31 rfl rfl<|Rop<|oq2 0 ty31 hs13 rfl rfl rfl<|Rop<|op_len Try.underlying31 rfl ?_
 have p19:=(p3.trans hst14)
 replace Fa:=Fa.step p19
 have rl18:=inK_len Fa
 refine Rop<|op_lss rfl rfl<|Ri2<|Wo2 hm rfl (fun hc20 hm=>?_) (fun hc20 hm=>?_)
 refine Ws2<|Wb<|Wn2<|Wb<|Wa<|Rop<|op2 2 ty61 rfl ty31 rfl rfl<|Rop<|oq2 0 ty31 hs13 rfl rfl rfl<|Mve (Iv i_1) rfl ?_
 obtain⟨hc21,hm⟩:=ck_some hm
 refine Rop<|om2 (q:=(rInt .i64)) ty31 ty3 rfl rfl Fa rfl hc21.1 hc21.2 ?_
 intro p22 f23
 refine Rop<|ot2 ty3 rfl f23 rfl ?_
 intro v24 h25
 obtain⟨rfl,Re⟩:=un_int h25
 refine Mve (Iv leaf) rfl<|Rop<|op_eql rfl rfl<|Ri2<|Wo2 hm rfl (fun hc27 hm=>?_) (fun hc27 hm=>?_)
 refine Wb ?_
 clear f23
 refine Wa<|Asg (Bo true) rfl<|Ri2<|Wp_ret<|⟨_,Clo,[Bo true],⟨rfl,trivial⟩,hs13.ext,?_⟩
 exact Vr.eq (a:=vB) (x:=true) rfl (oi hm)
 refine Ws2 ?_
 clear f23
 exact Wa<|Mve (Iv i_1) rfl<|Rop<|op_addw rfl rfl<|Asg (Iv (IntKind.wrap .i64 (i_1+1))) rfl<|Ri2<|hK10 _ _ ⟨(IntKind.wrap .i64 (i_1+1)),_,rfl,Frm.of ⟨rfl,trivial⟩,ch17,hs13,(inK_wrap .i64 _),jnE1 hsf9 hm⟩
 refine Wp_exit<|Wb ?_
 obtain⟨hs28,p29⟩:=hs13.sub (bs':=[]) (.cons _ List.Sublist.slnil)
 clear Fa Fb
 clear hs13
 refine Wa<|Asg (Bo false) rfl<|Ri2<|Wp_ret<|⟨_,Clo,[Bo false],⟨rfl,trivial⟩,hs28.ext,?_⟩
 exact Vr.eq (a:=vB) (x:=false) rfl (oi hm)

abbrev q80_0:List Nat:=[7,10,11,43,44,45,46,47,48,49,50,51,52,53,54,55,56,57,58,59,60,61,62,63,64,65,66,67,68,69]

abbrev q80_1:List Nat:=[7,9,10,11,22,23,24,25,26,27,28,29,30,31,32,33,34,35,36,37,38,39,40,41,42,43,44,45,46,47,48,49,50,51,52,53,54,55,56,57,58,59,60,61,62,63,64,65,66,67,68,69]

abbrev q80_2:List Nat:=[7,8,9,10,11,16,17,18,19,20,21,22,23,24,25,26,27,28,29,30,31,32,33,34,35,36,37,38,39,40,41,42,43,44,45,46,47,48,49,50,51,52,53,54,55,56,57,58,59,60,61,62,63,64,65,66,67,68,69]

def m80_overflightref27_demand_B1 (p:XProblem) (b:List Int) (i_1:Int) (k33:(List Int)→Option (List Int)) (sf143:(List Int)→Int→Option (List Int)) (n_3:List Int) (k_1:Int):Option (List Int):=
 bif (decide (k_1<(((((p.variables.getD i_1.toNat default).choices).getD (b.getD i_1.toNat default).toNat default).uses).length:Int))) then
  ck ((0:Int)≤k_1∧k_1<(((((p.variables.getD i_1.toNat default).choices).getD (b.getD i_1.toNat default).toNat default).uses).length:Int))<|
  (m81_overflightref27_at p.cells ((((((p.variables.getD i_1.toNat default).choices).getD (b.getD i_1.toNat default).toNat default).uses).getD k_1.toNat default).cell)).bind fun at_1=>
  ck ((0:Int)≤at_1∧at_1<(n_3.length:Int))<|
  ck ((0:Int)≤k_1∧k_1<(((((p.variables.getD i_1.toNat default).choices).getD (b.getD i_1.toNat default).toNat default).uses).length:Int))<|
  ck ((0:Int)≤at_1∧at_1<(n_3.length:Int))<|
  sf143 (n_3.set at_1.toNat (IntKind.wrap .i64 ((n_3.getD at_1.toNat default)+((((((p.variables.getD i_1.toNat default).choices).getD (b.getD i_1.toNat default).toNat default).uses).getD k_1.toNat default).places)))) (IntKind.wrap .i64 (k_1+1))
 else
  k33 n_3

def m80_overflightref27_demand_B0 (p:XProblem) (b:List Int) (leaf:Int) (sf18:(List Int)→Int→Option (List Int)) (n_1:List Int) (i_1:Int):Option (List Int):=
 bif (decide (i_1<(b.length:Int))) then
  jn (fun(n_2:List Int)=>
   sf18 n_2 (IntKind.wrap .i64 (i_1+1)))
  (fun k33=>
   ck ((0:Int)≤i_1∧i_1<(p.variables.length:Int))<|
   (m89_overflightref27_Counts (p.variables.getD i_1.toNat default) leaf).bind fun counts_1=>
   bif (!counts_1) then
    k33 n_1
   else
    ck ((0:Int)≤i_1∧i_1<(p.variables.length:Int))<|
    ck ((0:Int)≤i_1∧i_1<(b.length:Int))<|
    ck ((0:Int)≤(b.getD i_1.toNat default)∧(b.getD i_1.toNat default)<(((p.variables.getD i_1.toNat default).choices).length:Int))<|
    loop2 (m80_overflightref27_demand_B1 p b i_1 k33) (((((((p.variables.getD i_1.toNat default).choices).getD (b.getD i_1.toNat default).toNat default).uses).length:Int) - 0).toNat+1) n_1 0)
 else
  some n_1

def m80_overflightref27_demand (p:XProblem) (b:List Int) (leaf:Int):Option (List Int):=
 ck ((0:Int)≤(p.cells.length:Int)∧(p.cells.length:Int)≤(p.cells.length:Int)∧(8:Int)*(p.cells.length:Int)≤281474976710656∧(p.cells.length:Int)≤281474976710656)<|
 loop2 (m80_overflightref27_demand_B0 p b leaf) (((b.length:Int) - 0).toNat+1) (List.replicate p.cells.length (0:Int)) 0

theorem g80_overflightref27_demand {w:World} {O:List Nat} {p:XProblem} {b:List Int} {leaf:Int} {Aa:Option Addr} {Ca:Nat} {Ab:Option Addr} {Cb:Nat} {Ac:Option Addr} {Cc:Nat} {Ad:Option Addr} {Cd:Nat} (hO:∀k∈O,k<w.heap.size) (Fa:SlR rXCell w O Aa Ca p.cells) (Fb:SlR (rSl (rInt .i64)) w O Ab Cb p.capacity) (Fc:SlR rXVariable w O Ac Cc p.variables) (Fd:SlR (rInt .i64) w O Ad Cd b) (Ra:InK .i64 leaf) {x:(List Int)} (hm:m80_overflightref27_demand p b leaf=some x):
 OkG Try.prog 80 [Value.agg [Sl Aa p.cells Ca,Sl Ab p.capacity Cb,Sl Ac p.variables Cc].toArray,Sl Ad b Cd,Iv leaf] w O (rInt .i64) 3 x:=by
 unfold m80_overflightref27_demand at hm
 refine Fn_of_Wp (n:=71) (xs:=[.tmp 6]) Try.func80 rfl Try.ntmps80 Try.results80 rfl ?_
 have hs:=St.start hO
 refine Wb<|Wa<|Rop<|op_box (cs:=[Sl Aa p.cells Ca,Sl Ab p.capacity Cb,Sl Ac p.variables Cc]) hs rfl rfl ?_
 intro b1 w2 _ p3 hs4
 refine Asg (Value.slice none 0 0) rfl<|Ri2<|Wb<|Wa<|Rop<|op2 0 ty26 rfl ty22 rfl rfl<|Rop<|oq2 0 ty22 hs4 rfl rfl rfl<|Rop<|op_len Try.underlying22 rfl ?_
 replace Fa:=Fa.step p3
 have rl6:=inK_len Fa
 obtain⟨hc7,hm⟩:=ck_some hm
 refine Rop<|op_makeSliceI (q:=(rInt .i64)) (v:=Iv 0) (x0:=(0:Int)) ty31 ty3 hs4 rfl rfl hc7 rfl (fun _ _=>(mk_int (show InK .i64 0 from by decide))) ?_
 intro b8 w9 hx13 p10 hs11 f12
 clear hs4
 refine Asg (Sl (some ⟨b8,0,none⟩) (List.replicate p.cells.length (0:Int)) p.cells.length) rfl<|Ri2<|Wb<|Wb<|Wa<|Asg (Iv 0) rfl<|Ri2<|Wn2<|Wr [] [(1,Sl Ad b Cd),(2,Iv leaf),(3,Pt b1 0),(7,Sl (some ⟨b8,0,none⟩) (List.replicate p.cells.length (0:Int)) p.cells.length),(8,Iv 0)] fun ξ17=>Wp_loopM q80_2 (fun m fr w'=>∃(n_1:List Int) (i_1:Int) (Ae:Option Addr) (Ce:Nat) (k_g15:Option Nat) (o_g15:Obj) (Ebs:Ents),Ebs=[(k_g15,o_g15),(some b1,Oc [Sl Aa p.cells Ca,Sl Ab p.capacity Cb,Sl Ac p.variables Cc] 26)]∧fr [] [(7,Sl Ae n_1 Ce),(8,Iv i_1)]∧hs11.S (ks Ebs O) w'∧St ⟨w,[],[]⟩ O w' Ebs∧Gs (rInt .i64) 3 w' (ks Ebs O) Ae Ce n_1 k_g15 o_g15∧InK .i64 i_1∧loop2 (m80_overflightref27_demand_B0 p b leaf) m n_1 i_1=some x) (((b.length:Int) - 0).toNat+1) ⟨List.replicate p.cells.length (0:Int),0,some ⟨b8,0,none⟩,p.cells.length,some b8,Obj.cells (List.replicate p.cells.length (Iv 0)).toArray 3,_,rfl,Frm.of ⟨rfl,rfl,trivial⟩,Step.refl _ _,hs11,f12,(show InK .i64 0 from by decide),hm⟩ ?_ ?_
 rintro _ _ ⟨_,_,_,_,_,_,_,_,_,_,_,_,_,hm⟩;exact loop2_z hm
 rintro m21 K20 hK20 ρ26 w22 ⟨n_1,i_1,Ae,Ce,k_g15,o_g15,_,rfl,hfr25,hst24,hs23,Fe,Rb,hm⟩
 obtain⟨sf18,hsf19,hm⟩:=loop2_s hm;unfold m80_overflightref27_demand_B0 at hm
 rw [hfr25.eq];clear hfr25
 have ch27:=hst24
 refine Wb<|Wb ?_
 clear f12
 refine Wa<|Mve (Iv i_1) rfl<|Mve (Sl Ad b Cd) rfl<|Rop<|op_len Try.underlying31 rfl ?_
 have p29:=(p3.trans (p10.trans hst24))
 replace Fd:=Fd.step p29
 have rl28:=inK_len Fd
 refine Rop<|op_lss rfl rfl<|Ri2<|Wo2 hm rfl (fun hc30 hm=>?_) (fun hc30 hm=>?_)
 refine Ws2<|Wr2 q80_2 [] (updL ⟨ξ17,[]⟩ [(1,Sl Ad b Cd),(2,Iv leaf),(3,Pt b1 0),(7,Sl (some ⟨b8,0,none⟩) (List.replicate p.cells.length (0:Int)) p.cells.length),(8,Iv 0)]) [(7,Sl Ae n_1 Ce),(8,Iv i_1)] fun ξ31=>?_
 obtain⟨k33,hk34,hm⟩:=jn_elim hm
 refine Wp_seqJ q80_1 (fun fr w'=>∃(n_2:List Int) (Af:Option Addr) (Cf:Nat) (k_g32:Option Nat) (o_g32:Obj) (Ebs:Ents),Ebs=[(k_g32,o_g32),(some b1,Oc [Sl Aa p.cells Ca,Sl Ab p.capacity Cb,Sl Ac p.variables Cc] 26)]∧fr [] [(7,Sl Af n_2 Cf)]∧hs23.S (ks Ebs O) w'∧St ⟨w,[],[]⟩ O w' Ebs∧Gs (rInt .i64) 3 w' (ks Ebs O) Af Cf n_2 k_g32 o_g32∧k33 n_2=some x) ?_ ?_
 rintro ρ40 w36 ⟨n_2,Af,Cf,k_g32,o_g32,_,rfl,hfr39,hst38,hs37,Ff,hm⟩
 replace hm:=jnE1 hk34 hm
 rw [hfr39.eq];clear hfr39
 clear Fe
 refine Wa<|Mve (Iv i_1) rfl<|Rop<|op_addw rfl rfl<|Asg (Iv (IntKind.wrap .i64 (i_1+1))) rfl<|Ri2 ?_
 replace ch27:=ch27.trans hst38
 exact hK20 _ _ ⟨n_2,(IntKind.wrap .i64 (i_1+1)),Af,Cf,k_g32,o_g32,_,rfl,Frm.of ⟨rfl,rfl,trivial⟩,ch27,hs37,Ff,(inK_wrap .i64 _),jnE2 hsf19 hm⟩
 intro K35 hK35
 have ch41:=hs23.stepR
 refine Wn2<|Wb<|Wb<|Wa<|Rop<|op2 2 ty26 rfl ty24 rfl rfl<|Rop<|oq2 1 ty24 hs23 rfl rfl rfl<|Mve (Iv i_1) rfl ?_
 obtain⟨hc42,hm⟩:=ck_some hm
 replace Fc:=Fc.step p29
 refine Rop<|om2 (q:=rXVariable) ty24 ty61 rfl rfl Fc rfl hc42.1 hc42.2 ?_
 intro p43 f44
 refine Rop<|op_loadPA ty61 rfl f44 rfl ?_
 intro vs45 h46
 obtain⟨_,_,rfl,⟨rfl,Rc⟩,⟨_,_,rfl,⟨rfl,Rd⟩,⟨_,_,rfl,⟨Ag,Cg,rfl,Fg⟩,⟨Ah,Ch,rfl,Fh⟩⟩⟩⟩:=h46
 refine Mve (Iv leaf) rfl ?_
 obtain⟨counts_1,hv48,hm⟩:=bd hm
 refine Rop<|op_callE hs23 Try.call89 (c89_overflightref27_Counts (v:=p.variables.getD i_1.toNat default) (leaf:=leaf) hs23.ltw Rc Rd Fg Fh Ra hv48) rfl ?_
 rintro v49 w50 p54 hs53 h52
 obtain rfl:=h52
 refine Rop<|op_not rfl<|Ri2<|Wo2 hm rfl (fun hc56 hm=>?_) (fun hc56 hm=>?_)
 refine Wp_exit ?_
 replace ch41:=ch41.trans p54;replace Fe:=Fe.step p54
 exact hK35 _ _ ⟨n_1,Ae,Ce,k_g15,o_g15,_,rfl,Frm.of ⟨rfl,trivial⟩,ch41,hs53,Fe,hm⟩
 refine Ws2<|Wb ?_
 clear f44 Fg Fh
 refine Wp_drawR (g0:=[]) (m:=10) (fl:=[]) (TS_inv hs53) rfl (.inl rfl) rfl (by decide+kernel) ?_  -- 6
 refine Dw_p (Pt b1 2) (fun _ _ _ hi ht=>op2 2 ty26 rfl ty24 (ht 3 rfl) rfl<|Gz hi)<|Dw_p (Sl Ac p.variables Cc) (fun _ _ _ hi ht=>oq2 1 ty24 (Step.nx hi).1 (ht 30 rfl) rfl rfl<|Gz hi)<|Dw_p (Iv i_1) (fun _ _ _ hi ht=>ok2 (v:=Iv i_1) (ht 8 rfl)<|Gz hi) ?_
 obtain⟨hc69,hm⟩:=ck_some hm
 replace Fc:=Fc.step p54
 refine Dw_op (VP _ _ rXVariable (p.variables.getD i_1.toNat default)) (VP.stab _ _) (fun ρ66 w67 g hle hi ht=>?_) ?_
 obtain⟨-,hst,-⟩:=hle
 replace Fc:=Fc.step hst
 refine Sj2<|om2 (q:=rXVariable) ty24 ty61 (ht 31 rfl) (ht 32 rfl) Fc rfl hc69.1 hc69.2 ?_
 intro p70 f71
 exact Goes.same hi ⟨_,rfl,f71⟩
 refine Dw_op (VP _ _ (rSl rXChoice) ((p.variables.getD i_1.toNat default).choices)) (VP.stab _ _) (fun ρ72 w73 g hle hi ht=>?_) ?_
 obtain⟨p75,q76,f77⟩:=ht 33 rfl
 refine Sj2<|op_fieldAddr ty61 rfl ty59 (by decide) q76 rfl ?_
 have f78:=f77.via.snd.snd.snd
 exact Goes.same hi ⟨_,rfl,f78⟩
 refine Dw_op (VD _ _ (vC (rSl rXChoice)) ((p.variables.getD i_1.toNat default).choices)) (VD.stab _ _) (fun ρ79 w80 g hle hi ht=>?_) ?_
 obtain⟨p82,q83,f84⟩:=ht 34 rfl
 refine Sj2<|ot2 ty59 q83 f84 rfl ?_
 intro v85 h86
 obtain⟨Ai,Ci,rfl,Fi⟩:=un_sl h86
 exact Goes.same hi (show Vr.vd (vC (rSl rXChoice)) _ _ _ _ from(mkC (mk_sl Fi)))
 refine Dw_p (Sl Ad b Cd) (fun _ _ _ hi ht=>ok2 (v:=Sl Ad b Cd) (ht 1 rfl)<|Gz hi)<|Dw_p (Iv i_1) (fun _ _ _ hi ht=>ok2 (v:=Iv i_1) (ht 8 rfl)<|Gz hi) ?_
 obtain⟨hc97,hm⟩:=ck_some hm
 replace Fd:=Fd.step p54
 refine Dw_op (VP _ _ (rInt .i64) (b.getD i_1.toNat default)) (VP.stab _ _) (fun ρ94 w95 g hle hi ht=>?_) ?_
 obtain⟨-,hst,-⟩:=hle
 replace Fd:=Fd.step hst
 refine Sj2<|om2 (q:=(rInt .i64)) ty31 ty3 (ht 36 rfl) (ht 37 rfl) Fd rfl hc97.1 hc97.2 ?_
 intro p98 f99
 exact Goes.same hi ⟨_,rfl,f99⟩
 refine Dw_op (VD _ _ (vI .i64) (b.getD i_1.toNat default)) (VD.stab _ _) (fun ρ100 w101 g hle hi ht=>?_) ?_
 obtain⟨p103,q104,f105⟩:=ht 38 rfl
 refine Sj2<|ot2 ty3 q104 f105 rfl ?_
 intro v106 h107
 obtain⟨rfl,Re⟩:=un_int h107
 exact Goes.same hi (show Vr.vd (vI .i64) _ _ _ _ from⟨rfl,Re⟩)
 refine Dw_nil fun w113 g114 hl115 hi116=>?_
 obtain⟨-,hst117,-⟩:=hl115
 obtain⟨hs119,p118⟩:=Step.nx hi116
 rintro v120 h121
 replace h121:Vr.vd (vI .i64) _ _ _ _:=h121
 obtain⟨rfl,Rf⟩:=h121
 rintro _ ⟨p123,rfl,f124⟩ _ rfl _ rfl v125 h126
 replace h126:Vr.vd (vC (rSl rXChoice)) _ _ _ _:=h126
 obtain⟨Aj,Cj,rfl,Fj⟩:=un_sl h126
 rintro _ ⟨p128,rfl,f129⟩ _ ⟨p130,rfl,f131⟩ _ rfl _ rfl _ rfl
 have p132:=hs53.to hs119 (hst117.trans p118)
 replace f124:=f124.step p118;replace Fj:=Fj.step p118;replace f129:=f129.step p118;replace f131:=f131.step p118;clear hs53
 obtain⟨hc133,hm⟩:=ck_some hm
 refine Rop<|om2 (q:=rXChoice) ty59 ty58 rfl rfl Fj rfl hc133.1 hc133.2 ?_
 intro p134 f135
 refine Rop<|op_fieldAddr ty58 rfl ty56 (by decide) rfl rfl ?_
 have f136:=f135.via.snd.snd.snd
 refine Rop<|ot2 ty56 rfl f136 rfl ?_
 intro v137 h138
 obtain⟨Ak,Ck,rfl,Fk⟩:=un_sl h138
 refine Asg (Sl Ak ((((p.variables.getD i_1.toNat default).choices).getD (b.getD i_1.toNat default).toNat default).uses) Ck) rfl<|Ri2<|Wb ?_
 clear f124 Fj f129 f131 f135 f136
 refine Wa<|Asg (Iv 0) rfl<|Ri2<|Wn2<|Wr2 q80_1 [] (updL (mix q80_2 [] ξ31 (updL ⟨ξ17,[]⟩ [(1,Sl Ad b Cd),(2,Iv leaf),(3,Pt b1 0),(7,Sl (some ⟨b8,0,none⟩) (List.replicate p.cells.length (0:Int)) p.cells.length),(8,Iv 0)])) [(7,Sl Ae n_1 Ce),(8,Iv i_1)]) [(7,Sl Ae n_1 Ce),(9,Sl Ak ((((p.variables.getD i_1.toNat default).choices).getD (b.getD i_1.toNat default).toNat default).uses) Ck),(10,Iv 0)] fun ξ142=>?_
 have p147:=(p54.trans p132)
 replace Fe:=Fe.step p147
 refine Wp_loopM q80_0 (fun m fr w'=>∃(n_3:List Int) (k_1:Int) (Al:Option Addr) (Cl:Nat) (k_g140:Option Nat) (o_g140:Obj) (Ebs:Ents),Ebs=[(k_g140,o_g140),(some b1,Oc [Sl Aa p.cells Ca,Sl Ab p.capacity Cb,Sl Ac p.variables Cc] 26)]∧fr [] [(7,Sl Al n_3 Cl),(10,Iv k_1)]∧hs119.S (ks Ebs O) w'∧St ⟨w,[],[]⟩ O w' Ebs∧Gs (rInt .i64) 3 w' (ks Ebs O) Al Cl n_3 k_g140 o_g140∧InK .i64 k_1∧loop2 (m80_overflightref27_demand_B1 p b i_1 k33) m n_3 k_1=some x) (((((((p.variables.getD i_1.toNat default).choices).getD (b.getD i_1.toNat default).toNat default).uses).length:Int) - 0).toNat+1) ⟨n_1,0,Ae,Ce,k_g15,o_g15,_,rfl,Frm.of ⟨rfl,rfl,trivial⟩,Step.refl _ _,hs119,Fe,(show InK .i64 0 from by decide),hm⟩ ?_ ?_
 rintro _ _ ⟨_,_,_,_,_,_,_,_,_,_,_,_,_,hm⟩;exact loop2_z hm
 rintro m146 K145 hK145 ρ152 w148 ⟨n_3,k_1,Al,Cl,k_g140,o_g140,_,rfl,hfr151,hst150,hs149,Fl,Rg,hm⟩
 obtain⟨sf143,hsf144,hm⟩:=loop2_s hm;unfold m80_overflightref27_demand_B1 at hm
 rw [hfr151.eq];clear hfr151
 have ch153:=hst150
 refine Wb<|Wb ?_
 clear Fe
 refine Wa<|Mve (Iv k_1) rfl<|Mve (Sl Ak ((((p.variables.getD i_1.toNat default).choices).getD (b.getD i_1.toNat default).toNat default).uses) Ck) rfl<|Rop<|op_len Try.underlying56 rfl ?_
 replace Fk:=Fk.step hst150
 have rl154:=inK_len Fk
 refine Rop<|op_lss rfl rfl<|Ri2<|Wo2 hm rfl (fun hc155 hm=>?_) (fun hc155 hm=>?_)
 refine Ws2<|Wb<|Wn2<|Wb<|Wp_drawR (g0:=[]) (m:=7) (fl:=[]) (TS_inv hs149) rfl (.inl rfl) rfl (by decide+kernel) ?_  -- 10
 refine Dw_p (Pt b1 0) (fun _ _ _ hi ht=>op2 0 ty26 rfl ty22 (ht 3 rfl) rfl<|Gz hi)<|Dw_p (Sl Aa p.cells Ca) (fun _ _ _ hi ht=>oq2 1 ty22 (Step.nx hi).1 (ht 49 rfl) rfl rfl<|Gz hi)<|Dw_p (Sl Ak ((((p.variables.getD i_1.toNat default).choices).getD (b.getD i_1.toNat default).toNat default).uses) Ck) (fun _ _ _ hi ht=>ok2 (v:=Sl Ak ((((p.variables.getD i_1.toNat default).choices).getD (b.getD i_1.toNat default).toNat default).uses) Ck) (ht 9 rfl)<|Gz hi)<|Dw_p (Iv k_1) (fun _ _ _ hi ht=>ok2 (v:=Iv k_1) (ht 10 rfl)<|Gz hi) ?_
 obtain⟨hc171,hm⟩:=ck_some hm
 refine Dw_op (VP _ _ rXUse (((((p.variables.getD i_1.toNat default).choices).getD (b.getD i_1.toNat default).toNat default).uses).getD k_1.toNat default)) (VP.stab _ _) (fun ρ168 w169 g hle hi ht=>?_) ?_
 obtain⟨-,hst,-⟩:=hle
 replace Fk:=Fk.step hst
 refine Sj2<|om2 (q:=rXUse) ty56 ty76 (ht 51 rfl) (ht 52 rfl) Fk rfl hc171.1 hc171.2 ?_
 intro p172 f173
 exact Goes.same hi ⟨_,rfl,f173⟩
 refine Dw_op (VP _ _ rXCell ((((((p.variables.getD i_1.toNat default).choices).getD (b.getD i_1.toNat default).toNat default).uses).getD k_1.toNat default).cell)) (VP.stab _ _) (fun ρ174 w175 g hle hi ht=>?_) ?_
 obtain⟨p177,q178,f179⟩:=ht 53 rfl
 refine Sj2<|op_fieldAddr ty76 rfl ty67 (by decide) q178 rfl ?_
 have f180:=f179.via.fst
 exact Goes.same hi ⟨_,rfl,f180⟩
 refine Dw_op (VD _ _ (vA rXCell) ((((((p.variables.getD i_1.toNat default).choices).getD (b.getD i_1.toNat default).toNat default).uses).getD k_1.toNat default).cell)) (VD.stab _ _) (fun ρ181 w182 g hle hi ht=>?_) ?_
 obtain⟨p184,q185,f186⟩:=ht 54 rfl
 refine Sj2<|op_loadPA ty67 q185 f186 rfl ?_
 intro vs187 h188
 obtain⟨_,_,rfl,rfl,⟨_,_,rfl,⟨rfl,Rh⟩,⟨rfl,Ri⟩⟩⟩:=h188
 exact Goes.same hi (show Vr.vd (vA rXCell) _ _ _ _ from(mkA (mkVia (mk_pair mkBool (mk_pair (mk_int Rh) (mk_int Ri))))))
 refine Dw_nil fun w194 g195 hl196 hi197=>?_
 obtain⟨-,hst198,-⟩:=hl196
 obtain⟨hs200,p199⟩:=Step.nx hi197
 rintro v201 h202
 replace h202:Vr.vd (vA rXCell) _ _ _ _:=h202
 obtain⟨_,rfl,⟨_,_,rfl,rfl,⟨_,_,rfl,⟨rfl,Rj⟩,⟨rfl,Rk⟩⟩⟩⟩:=h202
 rintro _ ⟨p204,rfl,f205⟩ _ ⟨p206,rfl,f207⟩ _ rfl _ rfl _ rfl _ rfl
 have p208:=hs149.to hs200 (hst198.trans p199)
 replace f205:=f205.step p199;replace f207:=f207.step p199;clear hs149
 obtain⟨at_1,hv209,hm⟩:=bd hm
 replace Fa:=Fa.step (p10.trans (hst24.trans (p54.trans (p132.trans (hst150.trans p208)))))
 refine Rop<|op_callE hs200 Try.call81 (c81_overflightref27_at (l:=p.cells) (c:=(((((p.variables.getD i_1.toNat default).choices).getD (b.getD i_1.toNat default).toNat default).uses).getD k_1.toNat default).cell) hs200.ltw Fa Rj Rk hv209) rfl ?_
 rintro v210 w211 p215 hs214 h213
 clear hs200
 obtain⟨rfl,Rl⟩:=h213
 refine Asg (Iv at_1) rfl<|Ri2 ?_
 clear f205 f207
 refine Wp_drawR (g0:=[]) (m:=11) (fl:=[0,1]) (TS_inv hs214) rfl (.inl rfl) rfl (by decide+kernel) ?_  -- 11
 refine Dw_p (Sl Al n_3 Cl) (fun _ _ _ hi ht=>ok2 (v:=Sl Al n_3 Cl) (ht 7 rfl)<|Gz hi)<|Dw_p (Iv at_1) (fun _ _ _ hi ht=>ok2 (v:=Iv at_1) (ht 11 rfl)<|Gz hi)<|Dw_p (Sl Al n_3 Cl) (fun _ _ _ hi ht=>ok2 (v:=Sl Al n_3 Cl) (ht 7 rfl)<|Gz hi)<|Dw_p (Iv at_1) (fun _ _ _ hi ht=>ok2 (v:=Iv at_1) (ht 11 rfl)<|Gz hi) ?_
 obtain⟨hc232,hm⟩:=ck_some hm
 have p234:=(p208.trans p215)
 replace Fl:=Fl.step p234
 obtain⟨b233,rfl,rfl⟩:=Fl.at_ (by omega)
 refine Dw_eq (Value.pointer (some ⟨b233,at_1.toNat*1,none⟩)) (fun ρ229 w230 g hle hi ht=>?_) ?_
 obtain⟨-,hst,-⟩:=hle
 replace Fl:=Fl.step hst
 refine Sj2<|op_indexAddrG ty31 ty3 (ht 59 rfl) (ht 60 rfl) Fl hc232 ?_
 rintro _ ⟨⟩ -
 exact Gz hi
 refine Dw_op (VD _ _ (vI .i64) (n_3.getD at_1.toNat default)) (VD.stab _ _) (fun ρ235 w236 g hle hi ht=>?_) ?_
 obtain⟨-,hst,-⟩:=hle
 replace Fl:=Fl.step hst
 have hsn:=(Step.nx hi).1
 refine Sj2<|op_loadG (m:=at_1) (i:=0) ty3 rfl hsn rfl (ht 61 rfl) Fl hc232 ?_
 intro v238 h239
 obtain⟨rfl,Rm⟩:=un_int h239
 exact Goes.same hi (show Vr.vd (vI .i64) _ _ _ _ from⟨rfl,Rm⟩)
 refine Dw_p (Sl Ak ((((p.variables.getD i_1.toNat default).choices).getD (b.getD i_1.toNat default).toNat default).uses) Ck) (fun _ _ _ hi ht=>ok2 (v:=Sl Ak ((((p.variables.getD i_1.toNat default).choices).getD (b.getD i_1.toNat default).toNat default).uses) Ck) (ht 9 rfl)<|Gz hi)<|Dw_p (Iv k_1) (fun _ _ _ hi ht=>ok2 (v:=Iv k_1) (ht 10 rfl)<|Gz hi) ?_
 obtain⟨hc250,hm⟩:=ck_some hm
 replace Fk:=Fk.step p234
 refine Dw_op (VP _ _ rXUse (((((p.variables.getD i_1.toNat default).choices).getD (b.getD i_1.toNat default).toNat default).uses).getD k_1.toNat default)) (VP.stab _ _) (fun ρ247 w248 g hle hi ht=>?_) ?_
 obtain⟨-,hst,-⟩:=hle
 replace Fk:=Fk.step hst
 refine Sj2<|om2 (q:=rXUse) ty56 ty76 (ht 63 rfl) (ht 64 rfl) Fk rfl hc250.1 hc250.2 ?_
 intro p251 f252
 exact Goes.same hi ⟨_,rfl,f252⟩
 refine Dw_op (VP _ _ (rInt .i64) ((((((p.variables.getD i_1.toNat default).choices).getD (b.getD i_1.toNat default).toNat default).uses).getD k_1.toNat default).places)) (VP.stab _ _) (fun ρ253 w254 g hle hi ht=>?_) ?_
 obtain⟨p256,q257,f258⟩:=ht 65 rfl
 refine Sj2<|op_fieldAddr ty76 rfl ty3 (by decide) q257 rfl ?_
 have f259:=f258.via.snd
 exact Goes.same hi ⟨_,rfl,f259⟩
 refine Dw_op (VD _ _ (vI .i64) ((((((p.variables.getD i_1.toNat default).choices).getD (b.getD i_1.toNat default).toNat default).uses).getD k_1.toNat default).places)) (VD.stab _ _) (fun ρ260 w261 g hle hi ht=>?_) ?_
 obtain⟨p263,q264,f265⟩:=ht 66 rfl
 refine Sj2<|ot2 ty3 q264 f265 rfl ?_
 intro v266 h267
 obtain⟨rfl,Rn⟩:=un_int h267
 exact Goes.same hi (show Vr.vd (vI .i64) _ _ _ _ from⟨rfl,Rn⟩)
 refine Dw_nil fun w273 g274 hl275 hi276=>?_
 obtain⟨-,hst277,-⟩:=hl275
 obtain⟨hs279,p278⟩:=Step.nx hi276
 rintro v280 h281
 replace h281:Vr.vd (vI .i64) _ _ _ _:=h281
 obtain⟨rfl,Ro⟩:=h281
 rintro _ ⟨p283,rfl,f284⟩ _ ⟨p285,rfl,f286⟩ _ rfl _ rfl v287 h288
 replace h288:Vr.vd (vI .i64) _ _ _ _:=h288
 obtain⟨rfl,Rp⟩:=h288
 rintro _ rfl _ rfl _ rfl _ rfl _ rfl
 have p290:=hs214.to hs279 (hst277.trans p278)
 replace f284:=f284.step p278;replace f286:=f286.step p278;clear hs214
 refine Rop<|op_addw rfl rfl ?_
 obtain⟨hc291,hm⟩:=ck_some hm
 replace Fl:=Fl.step p290
 refine Rop<|op_indexAddrG ty31 ty3 rfl rfl Fl hc291 ?_
 rintro _ ⟨⟩ -
 refine Rg_op_<|op_storeG (vs:=[Iv (IntKind.wrap .i64 ((n_3.getD at_1.toNat default)+((((((p.variables.getD i_1.toNat default).choices).getD (b.getD i_1.toNat default).toNat default).uses).getD k_1.toNat default).places)))]) (i:=0) (m:=at_1) ty3 rfl hs279 rfl rfl rfl rfl Fl hc291 (mk_int (inK_wrap .i64 _)) ?_
 intro w293 o296 p294 hs295 f297
 clear hs279
 refine Ri2 ?_
 clear f284 f286
 refine Wa<|Mve (Iv k_1) rfl<|Rop<|op_addw rfl rfl<|Asg (Iv (IntKind.wrap .i64 (k_1+1))) rfl<|Ri2 ?_
 replace ch153:=ch153.trans (p234.trans (p290.trans p294))
 exact hK145 _ _ ⟨n_3.set at_1.toNat (IntKind.wrap .i64 ((n_3.getD at_1.toNat default)+((((((p.variables.getD i_1.toNat default).choices).getD (b.getD i_1.toNat default).toNat default).uses).getD k_1.toNat default).places))),(IntKind.wrap .i64 (k_1+1)),some ⟨b233,0,none⟩,Cl,some b233,o296,_,rfl,Frm.of ⟨eqlenV (show n_3.length=(n_3.set at_1.toNat (IntKind.wrap .i64 ((n_3.getD at_1.toNat default)+((((((p.variables.getD i_1.toNat default).choices).getD (b.getD i_1.toNat default).toNat default).uses).getD k_1.toNat default).places)))).length from by first |(simp;done) |(simp;omega)),rfl,trivial⟩,ch153,hs295,f297,(inK_wrap .i64 _),jnE2 hsf144 hm⟩
 refine Wp_exit ?_
 have p298:=(p147.trans hst150)
 replace ch41:=ch41.trans p298
 exact hK35 _ _ ⟨n_3,Al,Cl,k_g140,o_g140,_,rfl,Frm.of ⟨rfl,trivial⟩,ch41,hs149,Fl,hm⟩
 refine Wp_exit<|Wb ?_
 obtain⟨hs299,p300⟩:=hs23.sub (bs':=[(k_g15,o_g15)]) (.cons_cons _ (.cons _ List.Sublist.slnil))
 clear Fa Fb Fc Fd
 refine Wa<|Mve (Sl Ae n_1 Ce) rfl<|Asg (Sl Ae n_1 Ce) rfl<|Ri2<|Wp_ret<|⟨_,Clo,[Sl Ae n_1 Ce],⟨rfl,trivial⟩,hs299.ext,?_⟩
 replace Fe:=Fe.step p300
 exact OkG.mk (i:=0) hs299 rfl Fe (oi hm)
abbrev q88_0:List Nat:=[5,8,20,21,22,23,24,25,26,27,28,29,30,31,32,33,34,35,36,37,38,39,40,41]

abbrev q88_1:List Nat:=[5,6,7,8,9,10,11,12,13,14,15,16,17,18,19,20,21,22,23,24,25,26,27,28,29,30,31,32,33,34,35,36,37,38,39,40,41]

def m88_overflightref27_Overload_B1 (p:XProblem) (leaf_1:Int) (sf9:Int→Int→Option Int) (demand_1:(List Int)) (sf39:Int→Int→Option Int) (sum_2:Int) (k_1:Int):Option Int:=
 bif (decide (k_1<(demand_1.length:Int))) then
  ck ((0:Int)≤k_1∧k_1<(demand_1.length:Int))<|
  ck ((0:Int)≤leaf_1∧leaf_1<(p.capacity.length:Int))<|
  ck ((0:Int)≤k_1∧k_1<((p.capacity.getD leaf_1.toNat default).length:Int))<|
  sf39 (IntKind.wrap .i64 (sum_2+(max 0 (IntKind.wrap .i64 ((demand_1.getD k_1.toNat default) - ((p.capacity.getD leaf_1.toNat default).getD k_1.toNat default)))))) (IntKind.wrap .i64 (k_1+1))
 else
  sf9 sum_2 (IntKind.wrap .i64 (leaf_1+1))

def m88_overflightref27_Overload_B0 (p:XProblem) (b:List Int) (sf9:Int→Int→Option Int) (sum_1:Int) (leaf_1:Int):Option Int:=
 bif (decide (leaf_1<(p.capacity.length:Int))) then
  (m80_overflightref27_demand p b leaf_1).bind fun demand_1=>
  loop2 (m88_overflightref27_Overload_B1 p leaf_1 sf9 demand_1) (((demand_1.length:Int) - 0).toNat+1) sum_1 0
 else
  some sum_1

def m88_overflightref27_Overload (p:XProblem) (b:List Int):Option Int:=
 loop2 (m88_overflightref27_Overload_B0 p b) (((p.capacity.length:Int) - 0).toNat+1) 0 0

theorem c88_overflightref27_Overload {w:World} {O:List Nat} {p:XProblem} {b:List Int} {Aa:Option Addr} {Ca:Nat} {Ab:Option Addr} {Cb:Nat} {Ac:Option Addr} {Cc:Nat} {Ad:Option Addr} {Cd:Nat} (hO:∀k∈O,k<w.heap.size) (Fa:SlR rXCell w O Aa Ca p.cells) (Fb:SlR (rSl (rInt .i64)) w O Ab Cb p.capacity) (Fc:SlR rXVariable w O Ac Cc p.variables) (Fd:SlR (rInt .i64) w O Ad Cd b) {x:Int} (hm:m88_overflightref27_Overload p b=some x):
 Ok Try.prog 88 [Value.agg [Sl Aa p.cells Ca,Sl Ab p.capacity Cb,Sl Ac p.variables Cc].toArray,Sl Ad b Cd] w O (vI .i64) x:=by
 unfold m88_overflightref27_Overload at hm
 refine Fn_of_Wp (n:=43) (xs:=[.tmp 4]) Try.func88 rfl Try.ntmps88 Try.results88 rfl ?_
 have hs:=St.start hO
 refine Wb<|Wa<|Rop<|op_box (cs:=[Sl Aa p.cells Ca,Sl Ab p.capacity Cb,Sl Ac p.variables Cc]) hs rfl rfl ?_
 intro b1 w2 _ p3 hs4
 refine Asg (Iv 0) rfl<|Ri2<|Wb<|Wa<|Asg (Iv 0) rfl<|Ri2<|Wb<|Wb<|Wa<|Asg (Iv 0) rfl<|Ri2<|Wn2<|Wr [] [(1,Sl Ad b Cd),(2,Pt b1 0),(5,Iv 0),(6,Iv 0)] fun ξ8=>Wp_loopM q88_1 (fun m fr w'=>∃(sum_1:Int) (leaf_1:Int) (Ebs:Ents),Ebs=[(some b1,Oc [Sl Aa p.cells Ca,Sl Ab p.capacity Cb,Sl Ac p.variables Cc] 26)]∧fr [] [(5,Iv sum_1),(6,Iv leaf_1)]∧hs4.S (ks Ebs O) w'∧St ⟨w,[],[]⟩ O w' Ebs∧InK .i64 sum_1∧InK .i64 leaf_1∧loop2 (m88_overflightref27_Overload_B0 p b) m sum_1 leaf_1=some x) (((p.capacity.length:Int) - 0).toNat+1) ⟨0,0,_,rfl,Frm.of ⟨rfl,rfl,trivial⟩,Step.refl _ _,hs4,(show InK .i64 0 from by decide),(show InK .i64 0 from by decide),hm⟩ ?_ ?_
 rintro _ _ ⟨_,_,_,_,_,_,_,_,_,hm⟩;exact loop2_z hm
 rintro m12 K11 hK11 ρ17 w13 ⟨sum_1,leaf_1,_,rfl,hfr16,hst15,hs14,Ra,Rb,hm⟩
 obtain⟨sf9,hsf10,hm⟩:=loop2_s hm;unfold m88_overflightref27_Overload_B0 at hm
 rw [hfr16.eq];clear hfr16
 have ch18:=hst15
 refine Wb<|Wb<|Wa<|Mve (Iv leaf_1) rfl<|Rop<|op2 1 ty26 rfl ty23 rfl rfl<|Rop<|oq2 0 ty23 hs14 rfl rfl rfl<|Rop<|op_len Try.underlying23 rfl ?_
 have p20:=(p3.trans hst15)
 replace Fb:=Fb.step p20
 have rl19:=inK_len Fb
 refine Rop<|op_lss rfl rfl<|Ri2<|Wo2 hm rfl (fun hc21 hm=>?_) (fun hc21 hm=>?_)
 refine Ws2<|Wb<|Wn2<|Wb<|Wa<|Rop<|op_ldA 0 ty26 hs14 rfl rfl rfl<|Mve (Sl Ad b Cd) rfl<|Mve (Iv leaf_1) rfl ?_
 obtain⟨demand_1,hv22,hm⟩:=bd hm
 replace Fd:=Fd.step p20;replace Fa:=Fa.step p20;replace Fc:=Fc.step p20
 refine Rop<|op_call Try.call80 (g80_overflightref27_demand (p:=p) (b:=b) (leaf:=leaf_1) hs14.ltw Fa Fb Fc Fd Rb hv22) rfl ?_
 rintro _ w24 ⟨hx25,a28,c29,k30,o31,rfl,hk32,f33⟩
 obtain⟨hs27,p34⟩:=hs14.callG (o:=o31) hx25 hk32
 rw [← ks_cons (o:=o31)] at f33
 clear hs14
 refine Asg (Sl a28 demand_1 c29) rfl<|Ri2<|Wb<|Wa<|Asg (Iv 0) rfl<|Ri2<|Wn2<|Wr2 q88_1 [] (updL ⟨ξ8,[]⟩ [(1,Sl Ad b Cd),(2,Pt b1 0),(5,Iv 0),(6,Iv 0)]) [(5,Iv sum_1),(6,Iv leaf_1),(7,Sl a28 demand_1 c29),(8,Iv 0)] fun ξ38=>Wp_loopM q88_0 (fun m fr w'=>∃(sum_2:Int) (k_1:Int) (Ebs:Ents),Ebs=[(k30,o31),(some b1,Oc [Sl Aa p.cells Ca,Sl Ab p.capacity Cb,Sl Ac p.variables Cc] 26)]∧fr [] [(5,Iv sum_2),(8,Iv k_1)]∧hs27.S (ks Ebs O) w'∧St ⟨w,[],[]⟩ O w' Ebs∧InK .i64 sum_2∧InK .i64 k_1∧loop2 (m88_overflightref27_Overload_B1 p leaf_1 sf9 demand_1) m sum_2 k_1=some x) (((demand_1.length:Int) - 0).toNat+1) ⟨sum_1,0,_,rfl,Frm.of ⟨rfl,rfl,trivial⟩,Step.refl _ _,hs27,Ra,(show InK .i64 0 from by decide),hm⟩ ?_ ?_
 rintro _ _ ⟨_,_,_,_,_,_,_,_,_,hm⟩;exact loop2_z hm
 rintro m42 K41 hK41 ρ47 w43 ⟨sum_2,k_1,_,rfl,hfr46,hst45,hs44,Rc,Rd,hm⟩
 obtain⟨sf39,hsf40,hm⟩:=loop2_s hm;unfold m88_overflightref27_Overload_B1 at hm
 rw [hfr46.eq];clear hfr46
 have ch48:=hst45
 refine Wb<|Wb<|Wa<|Mve (Iv k_1) rfl<|Mve (Sl a28 demand_1 c29) rfl<|Rop<|op_len Try.underlying31 rfl ?_
 replace f33:=f33.step hst45
 have rl49:=inK_lenG f33
 refine Rop<|op_lss rfl rfl<|Ri2<|Wo2 hm rfl (fun hc50 hm=>?_) (fun hc50 hm=>?_)
 refine Ws2<|Wb<|Wn2<|Wp_drawR (g0:=[]) (m:=13) (fl:=[0]) (TS_inv hs44) rfl (.inl rfl) rfl (by decide+kernel) ?_  -- 9
 refine Dw_p (Iv sum_2) (fun _ _ _ hi ht=>ok2 (v:=Iv sum_2) (ht 5 rfl)<|Gz hi)<|Dw_p (Sl a28 demand_1 c29) (fun _ _ _ hi ht=>ok2 (v:=Sl a28 demand_1 c29) (ht 7 rfl)<|Gz hi)<|Dw_p (Iv k_1) (fun _ _ _ hi ht=>ok2 (v:=Iv k_1) (ht 8 rfl)<|Gz hi) ?_
 obtain⟨hc63,hm⟩:=ck_some hm
 obtain⟨b64,rfl,rfl⟩:=f33.at_ (by omega)
 refine Dw_eq (Value.pointer (some ⟨b64,k_1.toNat*1,none⟩)) (fun ρ60 w61 g hle hi ht=>?_) ?_
 obtain⟨-,hst,-⟩:=hle
 replace f33:=f33.step hst
 refine Sj2<|op_indexAddrG ty31 ty3 (ht 27 rfl) (ht 28 rfl) f33 hc63 ?_
 rintro _ ⟨⟩ -
 exact Gz hi
 refine Dw_op (VD _ _ (vI .i64) (demand_1.getD k_1.toNat default)) (VD.stab _ _) (fun ρ65 w66 g hle hi ht=>?_) ?_
 obtain⟨-,hst,-⟩:=hle
 replace f33:=f33.step hst
 have hsn:=(Step.nx hi).1
 refine Sj2<|op_loadG (m:=k_1) (i:=0) ty3 rfl hsn rfl (ht 29 rfl) f33 hc63 ?_
 intro v68 h69
 obtain⟨rfl,Re⟩:=un_int h69
 exact Goes.same hi (show Vr.vd (vI .i64) _ _ _ _ from⟨rfl,Re⟩)
 refine Dw_p (Pt b1 1) (fun _ _ _ hi ht=>op2 1 ty26 rfl ty23 (ht 2 rfl) rfl<|Gz hi)<|Dw_p (Sl Ab p.capacity Cb) (fun _ _ _ hi ht=>oq2 1 ty23 (Step.nx hi).1 (ht 31 rfl) rfl rfl<|Gz hi)<|Dw_p (Iv leaf_1) (fun _ _ _ hi ht=>ok2 (v:=Iv leaf_1) (ht 6 rfl)<|Gz hi) ?_
 obtain⟨hc83,hm⟩:=ck_some hm
 have p86:=(p34.trans hst45)
 replace Fb:=Fb.step p86
 refine Dw_op (VP _ _ (rSl (rInt .i64)) (p.capacity.getD leaf_1.toNat default)) (VP.stab _ _) (fun ρ80 w81 g hle hi ht=>?_) ?_
 obtain⟨-,hst,-⟩:=hle
 replace Fb:=Fb.step hst
 refine Sj2<|om2 (q:=rSl (rInt .i64)) ty23 ty31 (ht 32 rfl) (ht 33 rfl) Fb rfl hc83.1 hc83.2 ?_
 intro p84 f85
 exact Goes.same hi ⟨_,rfl,f85⟩
 refine Dw_op (VD _ _ (vC (rSl (rInt .i64))) (p.capacity.getD leaf_1.toNat default)) (VD.stab _ _) (fun ρ87 w88 g hle hi ht=>?_) ?_
 obtain⟨p90,q91,f92⟩:=ht 34 rfl
 refine Sj2<|ot2 ty31 q91 f92 rfl ?_
 intro v93 h94
 obtain⟨Ae,Ce,rfl,Fe⟩:=un_sl h94
 exact Goes.same hi (show Vr.vd (vC (rSl (rInt .i64))) _ _ _ _ from(mkC (mk_sl Fe)))
 refine Dw_p (Iv k_1) (fun _ _ _ hi ht=>ok2 (v:=Iv k_1) (ht 8 rfl)<|Gz hi) ?_
 obtain⟨hc105,hm⟩:=ck_some hm
 refine Dw_op (VP _ _ (rInt .i64) ((p.capacity.getD leaf_1.toNat default).getD k_1.toNat default)) (VP.stab _ _) (fun ρ99 w100 g hle hi ht=>?_) ?_
 have h102:Vr.vd (vC (rSl (rInt .i64))) _ _ _ _:=ht 35 rfl
 obtain⟨Af,Cf,q103,Ff⟩:=un_sl h102
 refine Sj2<|om2 (q:=(rInt .i64)) ty31 ty3 q103 (ht 36 rfl) Ff rfl hc105.1 hc105.2 ?_
 intro p106 f107
 exact Goes.same hi ⟨_,rfl,f107⟩
 refine Dw_op (VD _ _ (vI .i64) ((p.capacity.getD leaf_1.toNat default).getD k_1.toNat default)) (VD.stab _ _) (fun ρ108 w109 g hle hi ht=>?_) ?_
 obtain⟨p111,q112,f113⟩:=ht 37 rfl
 refine Sj2<|ot2 ty3 q112 f113 rfl ?_
 intro v114 h115
 obtain⟨rfl,Rf⟩:=un_int h115
 exact Goes.same hi (show Vr.vd (vI .i64) _ _ _ _ from⟨rfl,Rf⟩)
 refine Dw_nil fun w121 g122 hl123 hi124=>?_
 obtain⟨-,hst125,-⟩:=hl123
 obtain⟨hs127,p126⟩:=Step.nx hi124
 rintro v128 h129
 replace h129:Vr.vd (vI .i64) _ _ _ _:=h129
 obtain⟨rfl,Rg⟩:=h129
 rintro _ ⟨p131,rfl,f132⟩ _ rfl v133 h134
 replace h134:Vr.vd (vC (rSl (rInt .i64))) _ _ _ _:=h134
 obtain⟨Ag,Cg,rfl,Fg⟩:=un_sl h134
 rintro _ ⟨p136,rfl,f137⟩ _ rfl _ rfl _ rfl v138 h139
 replace h139:Vr.vd (vI .i64) _ _ _ _:=h139
 obtain⟨rfl,Rh⟩:=h139
 rintro _ rfl _ rfl _ rfl _ rfl
 have p141:=hs44.to hs127 (hst125.trans p126)
 replace f132:=f132.step p126;replace Fg:=Fg.step p126;replace f137:=f137.step p126;clear hs44
 refine Rop<|op_subw rfl rfl<|Rop<|op_max rfl rfl<|Rop<|op_addw rfl rfl<|Asg (Iv (IntKind.wrap .i64 (sum_2+(max 0 (IntKind.wrap .i64 ((demand_1.getD k_1.toNat default) - ((p.capacity.getD leaf_1.toNat default).getD k_1.toNat default))))))) rfl<|Ri2 ?_
 clear f132 Fg f137
 refine Wa<|Mve (Iv k_1) rfl<|Rop<|op_addw rfl rfl<|Asg (Iv (IntKind.wrap .i64 (k_1+1))) rfl<|Ri2 ?_
 replace ch48:=ch48.trans p141
 exact hK41 _ _ ⟨(IntKind.wrap .i64 (sum_2+(max 0 (IntKind.wrap .i64 ((demand_1.getD k_1.toNat default) - ((p.capacity.getD leaf_1.toNat default).getD k_1.toNat default)))))),(IntKind.wrap .i64 (k_1+1)),_,rfl,Frm.of ⟨rfl,rfl,trivial⟩,ch48,hs127,(inK_wrap .i64 _),(inK_wrap .i64 _),jnE2 hsf40 hm⟩
 refine Wp_exit ?_
 clear f33
 refine Wa<|Mve (Iv leaf_1) rfl<|Rop<|op_addw rfl rfl<|Asg (Iv (IntKind.wrap .i64 (leaf_1+1))) rfl<|Ri2 ?_
 have hs142:=hs44.drop 0
 have p143:=(hs44.dropS 0)
 clear hs44
 have p144:=(p34.trans (hst45.trans p143))
 replace ch18:=ch18.trans p144
 exact hK11 _ _ ⟨sum_2,(IntKind.wrap .i64 (leaf_1+1)),_,rfl,Frm.of ⟨rfl,rfl,trivial⟩,ch18,hs142,Rc,(inK_wrap .i64 _),jnE2 hsf10 hm⟩
 refine Wp_exit<|Wb ?_
 obtain⟨hs145,p146⟩:=hs14.sub (bs':=[]) (.cons _ List.Sublist.slnil)
 clear Fa Fb Fc Fd
 clear hs14
 refine Wa<|Mve (Iv sum_1) rfl<|Asg (Iv sum_1) rfl<|Ri2<|Wp_ret<|⟨_,Clo,[Iv sum_1],⟨rfl,trivial⟩,hs145.ext,?_⟩
 exact Vr.eq (a:=(vI .i64)) (x:=sum_1) ⟨rfl,Ra⟩ (oi hm)

abbrev q79_1:List Nat:=[7,8,9,10,32,33,34,35,36,37,38,39,40,41,42,43,44,45,46,47,48,49,50,51,52,53,54,55,56,57,58,59,60,61,62,63,64,65,66,67,68,69,70,71,72,73,74,75,76,77,78,79,80,81,82,83,84]

abbrev q79_0:List Nat:=[16,17,18,19,20,21,22,23,24,25,26,27]

def m79_overflightref27_Value_B0 (p:XProblem) (choices:List Int) (sf49:(List Int)→Int→Option ((List Int) × Int)) (v_2:List Int) (i_1:Int):Option ((List Int) × Int):=
 bif (decide (i_1<(choices.length:Int))) then
  ck ((0:Int)≤i_1∧i_1<(p.variables.length:Int))<|
  ck ((0:Int)≤i_1∧i_1<(choices.length:Int))<|
  ck ((0:Int)≤(choices.getD i_1.toNat default)∧(choices.getD i_1.toNat default)<(((p.variables.getD i_1.toNat default).choices).length:Int))<|
  ck ((0:Int)≤i_1∧i_1<(p.variables.length:Int))<|
  ck ((0:Int)≤1∧1<(v_2.length:Int))<|
  ck ((0:Int)≤1∧1<(v_2.length:Int))<|
  ck ((0:Int)≤2∧2<((v_2.set 1 (max (v_2.getD 1 default) ((((p.variables.getD i_1.toNat default).choices).getD (choices.getD i_1.toNat default).toNat default).delay))).length:Int))<|
  ck ((0:Int)≤2∧2<((v_2.set 1 (max (v_2.getD 1 default) ((((p.variables.getD i_1.toNat default).choices).getD (choices.getD i_1.toNat default).toNat default).delay))).length:Int))<|
  ck ((0:Int)≤3∧3<(((v_2.set 1 (max (v_2.getD 1 default) ((((p.variables.getD i_1.toNat default).choices).getD (choices.getD i_1.toNat default).toNat default).delay))).set 2 (IntKind.wrap .i64 (((v_2.set 1 (max (v_2.getD 1 default) ((((p.variables.getD i_1.toNat default).choices).getD (choices.getD i_1.toNat default).toNat default).delay))).getD 2 default)+(IntKind.wrap .i64 (((((p.variables.getD i_1.toNat default).choices).getD (choices.getD i_1.toNat default).toNat default).cost)*(((p.variables.getD i_1.toNat default).leaves).length:Int)))))).length:Int))<|
  ck ((0:Int)≤3∧3<(((v_2.set 1 (max (v_2.getD 1 default) ((((p.variables.getD i_1.toNat default).choices).getD (choices.getD i_1.toNat default).toNat default).delay))).set 2 (IntKind.wrap .i64 (((v_2.set 1 (max (v_2.getD 1 default) ((((p.variables.getD i_1.toNat default).choices).getD (choices.getD i_1.toNat default).toNat default).delay))).getD 2 default)+(IntKind.wrap .i64 (((((p.variables.getD i_1.toNat default).choices).getD (choices.getD i_1.toNat default).toNat default).cost)*(((p.variables.getD i_1.toNat default).leaves).length:Int)))))).length:Int))<|
  sf49 (((v_2.set 1 (max (v_2.getD 1 default) ((((p.variables.getD i_1.toNat default).choices).getD (choices.getD i_1.toNat default).toNat default).delay))).set 2 (IntKind.wrap .i64 (((v_2.set 1 (max (v_2.getD 1 default) ((((p.variables.getD i_1.toNat default).choices).getD (choices.getD i_1.toNat default).toNat default).delay))).getD 2 default)+(IntKind.wrap .i64 (((((p.variables.getD i_1.toNat default).choices).getD (choices.getD i_1.toNat default).toNat default).cost)*(((p.variables.getD i_1.toNat default).leaves).length:Int)))))).set 3 (IntKind.wrap .i64 ((((v_2.set 1 (max (v_2.getD 1 default) ((((p.variables.getD i_1.toNat default).choices).getD (choices.getD i_1.toNat default).toNat default).delay))).set 2 (IntKind.wrap .i64 (((v_2.set 1 (max (v_2.getD 1 default) ((((p.variables.getD i_1.toNat default).choices).getD (choices.getD i_1.toNat default).toNat default).delay))).getD 2 default)+(IntKind.wrap .i64 (((((p.variables.getD i_1.toNat default).choices).getD (choices.getD i_1.toNat default).toNat default).cost)*(((p.variables.getD i_1.toNat default).leaves).length:Int)))))).getD 3 default)+(IntKind.wrap .i64 (((((p.variables.getD i_1.toNat default).choices).getD (choices.getD i_1.toNat default).toNat default).changes)*(((p.variables.getD i_1.toNat default).leaves).length:Int)))))) (IntKind.wrap .i64 (i_1+1))
 else
  some (v_2,0)

def m79_overflightref27_Value (p:XProblem) (choices:List Int):Option ((List Int) × Int):=
 (m31_overflightref27_Check p).bind fun check_1=>
 bif (decide (check_1≠0)) then
  some (([]:List Int),check_1)
 else
  jn (fun(v_1:Bool)=>
   bif v_1 then
    some (([]:List Int),270)
   else
    (m88_overflightref27_Overload p choices).bind fun overload_1=>
    loop2 (m79_overflightref27_Value_B0 p choices) (((choices.length:Int) - 0).toNat+1) [overload_1,0,0,0] 0)
  (fun k19=>
   (m87_overflightref27_Branch p choices).bind fun branch_1=>
   bif (!branch_1) then
    k19 true
   else
    k19 (decide ((choices.length:Int)≠(p.variables.length:Int))))

theorem c79_overflightref27_Value {w:World} {O:List Nat} {p:XProblem} {choices:List Int} {Aa:Option Addr} {Ca:Nat} {Ab:Option Addr} {Cb:Nat} {Ac:Option Addr} {Cc:Nat} {Ad:Option Addr} {Cd:Nat} (hO:∀k∈O,k<w.heap.size) (Fa:SlR rXCell w O Aa Ca p.cells) (Fb:SlR (rSl (rInt .i64)) w O Ab Cb p.capacity) (Fc:SlR rXVariable w O Ac Cc p.variables) (Fd:SlR (rInt .i64) w O Ad Cd choices) {x:(List Int) × Int} (hm:m79_overflightref27_Value p choices=some x):
 Ok Try.prog 79 [Value.agg [Sl Aa p.cells Ca,Sl Ab p.capacity Cb,Sl Ac p.variables Cc].toArray,Sl Ad choices Cd] w O (vT2 (vC (rSl (rInt .i64))) (vI .i64)) x:=by
 unfold m79_overflightref27_Value at hm
 refine Fn_of_Wp (n:=86) (xs:=[.tmp 4,.tmp 5]) Try.func79 rfl Try.ntmps79 Try.results79 rfl ?_
 have hs:=St.start hO
 refine Wb<|Wa<|Rop<|op_box (cs:=[Sl Aa p.cells Ca,Sl Ab p.capacity Cb,Sl Ac p.variables Cc]) hs rfl rfl ?_
 intro b1 w2 _ p3 hs4
 refine Asg (Value.slice none 0 0) rfl<|Asg (Iv 0) rfl<|Ri2<|Wb<|Wa<|Rop<|op_ldA 0 ty26 hs4 rfl rfl rfl ?_
 obtain⟨check_1,hv6,hm⟩:=bd hm
 replace Fb:=Fb.step p3;replace Fa:=Fa.step p3;replace Fc:=Fc.step p3
 refine Rop<|op_callE hs4 Try.call31 (c31_overflightref27_Check (p:=p) hs4.ltw Fa Fb Fc hv6) rfl ?_
 rintro v7 w8 p12 hs11 h10
 clear hs4
 obtain⟨rfl,Ra⟩:=h10
 refine Asg (Iv check_1) rfl<|Ri2<|Wb<|Wb<|Wa<|Mve (Iv check_1) rfl<|Rop<|op_neq rfl rfl<|Ri2<|Wo2 hm rfl (fun hc14 hm=>?_) (fun hc14 hm=>?_)
 refine Wb ?_
 obtain⟨hs15,p16⟩:=hs11.sub (bs':=[]) (.cons _ List.Sublist.slnil)
 clear Fa Fb Fc Fd
 clear hs11
 refine Wa<|Mve (Iv check_1) rfl<|Asg (Value.slice none 0 0) rfl<|Asg (Iv check_1) rfl<|Ri2<|Wp_ret<|⟨_,Clo,[Value.slice none 0 0,Iv check_1],⟨rfl,rfl,trivial⟩,hs15.ext,?_⟩
 exact Vr.eq (a:=vT2 (vC (rSl (rInt .i64))) (vI .i64)) (x:=(([]:List Int),check_1)) (mkT2 (mkC (mk_sl SlR.nil_)) ⟨rfl,Ra⟩) (oi hm)
 refine Ws2<|Wb<|Wr [] [(1,Sl Ad choices Cd),(2,Pt b1 0)] fun ξ17=>?_
 obtain⟨k19,hk20,hm⟩:=jn_elim hm
 refine Wp_seqJ q79_0 (fun fr w'=>∃(v_1:Bool) (Ebs:Ents),Ebs=[(some b1,Oc [Sl Aa p.cells Ca,Sl Ab p.capacity Cb,Sl Ac p.variables Cc] 26)]∧fr [] [(27,Bo v_1)]∧hs11.S (ks Ebs O) w'∧St ⟨w,[],[]⟩ O w' Ebs∧k19 v_1=some x) ?_ ?_
 rintro ρ26 w22 ⟨v_1,_,rfl,hfr25,hst24,hs23,hm⟩
 replace hm:=jnE1 hk20 hm
 rw [hfr25.eq];clear hfr25
 refine Wo2 hm rfl (fun hc27 hm=>?_) (fun hc27 hm=>?_)
 refine Wb ?_
 obtain⟨hs28,p29⟩:=hs23.sub (bs':=[]) (.cons _ List.Sublist.slnil)
 clear Fa Fb Fc Fd
 clear hs23
 refine Wa<|Asg (Value.slice none 0 0) rfl<|Asg (Iv 270) rfl<|Ri2<|Wp_ret<|⟨_,Clo,[Value.slice none 0 0,Iv 270],⟨rfl,rfl,trivial⟩,hs28.ext,?_⟩
 exact Vr.eq (a:=vT2 (vC (rSl (rInt .i64))) (vI .i64)) (x:=(([]:List Int),270)) (mkT2 (mkC (mk_sl SlR.nil_)) ⟨rfl,(show InK .i64 270 from by decide)⟩) (oi hm)
 refine Ws2<|Wb<|Wa<|Rop<|op_ldA 0 ty26 hs23 rfl rfl rfl<|Mve (Sl Ad choices Cd) rfl ?_
 obtain⟨overload_1,hv30,hm⟩:=bd hm
 replace Fd:=Fd.step (p3.trans (p12.trans hst24))
 have p36:=(p12.trans hst24)
 replace Fb:=Fb.step p36;replace Fa:=Fa.step p36;replace Fc:=Fc.step p36
 refine Rop<|op_callE hs23 Try.call88 (c88_overflightref27_Overload (p:=p) (b:=choices) hs23.ltw Fa Fb Fc Fd hv30) rfl ?_
 rintro v31 w32 p37 hs35 h34
 clear hs23
 obtain⟨rfl,Rb⟩:=h34
 refine Rop<|op_buildSlice (cs:=[Iv overload_1,Iv 0,Iv 0,Iv 0]) (parts:=[(0,.tmp 30),(1,.const (.int .i64 0)),(2,.const (.int .i64 0)),(3,.const (.int .i64 0))]) ty31 ty3 hs35 (by decide) rfl ?_
 intro b39 w40 hx43 p41 hs42
 clear hs35
 have f45:=Gs.of_cells (p:=(rInt .i64)) (e:=3) (bl:=b39) (c:=4) (w:=w40) (O:=ks [(some b39,Oc [Iv overload_1,Iv 0,Iv 0,Iv 0] 3),(some b1,Oc [Sl Aa p.cells Ca,Sl Ab p.capacity Cb,Sl Ac p.variables Cc] 26)] O) (show Els (rInt .i64) _ _ [Iv overload_1,Iv 0,Iv 0,Iv 0] [overload_1,0,0,0] from⟨_,_,rfl,mk_int Rb,⟨_,_,rfl,mk_int (show InK .i64 0 from by decide),⟨_,_,rfl,mk_int (show InK .i64 0 from by decide),⟨_,_,rfl,mk_int (show InK .i64 0 from by decide),Els.nil⟩⟩⟩⟩) rfl (le_lit rfl)
 refine Asg (Sl (some ⟨b39,0,none⟩) [overload_1,0,0,0] 4) rfl<|Ri2<|Wb<|Wb<|Wa<|Asg (Iv 0) rfl<|Ri2<|Wn2<|Wr [] [(1,Sl Ad choices Cd),(2,Pt b1 0),(7,Sl (some ⟨b39,0,none⟩) [overload_1,0,0,0] 4),(8,Iv 0)] fun ξ48=>Wp_loopM q79_1 (fun m fr w'=>∃(v_2:List Int) (i_1:Int) (Ae:Option Addr) (Ce:Nat) (k_g46:Option Nat) (o_g46:Obj) (Ebs:Ents),Ebs=[(k_g46,o_g46),(some b1,Oc [Sl Aa p.cells Ca,Sl Ab p.capacity Cb,Sl Ac p.variables Cc] 26)]∧fr [] [(7,Sl Ae v_2 Ce),(8,Iv i_1)]∧hs42.S (ks Ebs O) w'∧St ⟨w,[],[]⟩ O w' Ebs∧Gs (rInt .i64) 3 w' (ks Ebs O) Ae Ce v_2 k_g46 o_g46∧InK .i64 i_1∧loop2 (m79_overflightref27_Value_B0 p choices) m v_2 i_1=some x) (((choices.length:Int) - 0).toNat+1) ⟨[overload_1,0,0,0],0,some ⟨b39,0,none⟩,4,some b39,Obj.cells [Iv overload_1,Iv 0,Iv 0,Iv 0].toArray 3,_,rfl,Frm.of ⟨rfl,rfl,trivial⟩,Step.refl _ _,hs42,f45,(show InK .i64 0 from by decide),hm⟩ ?_ ?_
 rintro _ _ ⟨_,_,_,_,_,_,_,_,_,_,_,_,_,hm⟩;exact loop2_z hm
 rintro m52 K51 hK51 ρ57 w53 ⟨v_2,i_1,Ae,Ce,k_g46,o_g46,_,rfl,hfr56,hst55,hs54,Fe,Rc,hm⟩
 obtain⟨sf49,hsf50,hm⟩:=loop2_s hm;unfold m79_overflightref27_Value_B0 at hm
 rw [hfr56.eq];clear hfr56
 have ch58:=hst55
 refine Wb<|Wb ?_
 clear f45
 refine Wa<|Mve (Iv i_1) rfl<|Mve (Sl Ad choices Cd) rfl<|Rop<|op_len Try.underlying31 rfl ?_
 have p60:=(p37.trans (p41.trans hst55))
 replace Fd:=Fd.step p60
 have rl59:=inK_len Fd
 refine Rop<|op_lss rfl rfl<|Ri2<|Wo2 hm rfl (fun hc61 hm=>?_) (fun hc61 hm=>?_)
 refine Ws2<|Wb<|Wn2<|Wb<|Wp_drawR (g0:=[]) (m:=13) (fl:=[]) (TS_inv hs54) rfl (.inl rfl) rfl (by decide+kernel) ?_  -- 10
 refine Dw_p (Pt b1 2) (fun _ _ _ hi ht=>op2 2 ty26 rfl ty24 (ht 2 rfl) rfl<|Gz hi)<|Dw_p (Sl Ac p.variables Cc) (fun _ _ _ hi ht=>oq2 1 ty24 (Step.nx hi).1 (ht 38 rfl) rfl rfl<|Gz hi)<|Dw_p (Iv i_1) (fun _ _ _ hi ht=>ok2 (v:=Iv i_1) (ht 8 rfl)<|Gz hi) ?_
 obtain⟨hc74,hm⟩:=ck_some hm
 replace Fc:=Fc.step p60
 refine Dw_op (VP _ _ rXVariable (p.variables.getD i_1.toNat default)) (VP.stab _ _) (fun ρ71 w72 g hle hi ht=>?_) ?_
 obtain⟨-,hst,-⟩:=hle
 replace Fc:=Fc.step hst
 refine Sj2<|om2 (q:=rXVariable) ty24 ty61 (ht 39 rfl) (ht 40 rfl) Fc rfl hc74.1 hc74.2 ?_
 intro p75 f76
 exact Goes.same hi ⟨_,rfl,f76⟩
 refine Dw_op (VP _ _ (rSl rXChoice) ((p.variables.getD i_1.toNat default).choices)) (VP.stab _ _) (fun ρ77 w78 g hle hi ht=>?_) ?_
 obtain⟨p80,q81,f82⟩:=ht 41 rfl
 refine Sj2<|op_fieldAddr ty61 rfl ty59 (by decide) q81 rfl ?_
 have f83:=f82.via.snd.snd.snd
 exact Goes.same hi ⟨_,rfl,f83⟩
 refine Dw_op (VD _ _ (vC (rSl rXChoice)) ((p.variables.getD i_1.toNat default).choices)) (VD.stab _ _) (fun ρ84 w85 g hle hi ht=>?_) ?_
 obtain⟨p87,q88,f89⟩:=ht 42 rfl
 refine Sj2<|ot2 ty59 q88 f89 rfl ?_
 intro v90 h91
 obtain⟨Af,Cf,rfl,Ff⟩:=un_sl h91
 exact Goes.same hi (show Vr.vd (vC (rSl rXChoice)) _ _ _ _ from(mkC (mk_sl Ff)))
 refine Dw_p (Sl Ad choices Cd) (fun _ _ _ hi ht=>ok2 (v:=Sl Ad choices Cd) (ht 1 rfl)<|Gz hi)<|Dw_p (Iv i_1) (fun _ _ _ hi ht=>ok2 (v:=Iv i_1) (ht 8 rfl)<|Gz hi) ?_
 obtain⟨hc102,hm⟩:=ck_some hm
 refine Dw_op (VP _ _ (rInt .i64) (choices.getD i_1.toNat default)) (VP.stab _ _) (fun ρ99 w100 g hle hi ht=>?_) ?_
 obtain⟨-,hst,-⟩:=hle
 replace Fd:=Fd.step hst
 refine Sj2<|om2 (q:=(rInt .i64)) ty31 ty3 (ht 44 rfl) (ht 45 rfl) Fd rfl hc102.1 hc102.2 ?_
 intro p103 f104
 exact Goes.same hi ⟨_,rfl,f104⟩
 refine Dw_op (VD _ _ (vI .i64) (choices.getD i_1.toNat default)) (VD.stab _ _) (fun ρ105 w106 g hle hi ht=>?_) ?_
 obtain⟨p108,q109,f110⟩:=ht 46 rfl
 refine Sj2<|ot2 ty3 q109 f110 rfl ?_
 intro v111 h112
 obtain⟨rfl,Rd⟩:=un_int h112
 exact Goes.same hi (show Vr.vd (vI .i64) _ _ _ _ from⟨rfl,Rd⟩)
 obtain⟨hc123,hm⟩:=ck_some hm
 refine Dw_op (VP _ _ rXChoice (((p.variables.getD i_1.toNat default).choices).getD (choices.getD i_1.toNat default).toNat default)) (VP.stab _ _) (fun ρ114 w115 g hle hi ht=>?_) ?_
 have h117:Vr.vd (vC (rSl rXChoice)) _ _ _ _:=ht 43 rfl
 obtain⟨Ag,Cg,q118,Fg⟩:=un_sl h117
 have h120:Vr.vd (vI .i64) _ _ _ _:=ht 47 rfl
 obtain⟨q121,Re⟩:=h120
 refine Sj2<|om2 (q:=rXChoice) ty59 ty58 q118 q121 Fg rfl hc123.1 hc123.2 ?_
 intro p124 f125
 exact Goes.same hi ⟨_,rfl,f125⟩
 refine Dw_op (VD _ _ (vA rXChoice) (((p.variables.getD i_1.toNat default).choices).getD (choices.getD i_1.toNat default).toNat default)) (VD.stab _ _) (fun ρ126 w127 g hle hi ht=>?_) ?_
 obtain⟨p129,q130,f131⟩:=ht 48 rfl
 refine Sj2<|op_loadPA ty58 q130 f131 rfl ?_
 intro vs132 h133
 obtain⟨_,_,rfl,⟨rfl,Rf⟩,⟨_,_,rfl,⟨rfl,Rg⟩,⟨_,_,rfl,⟨rfl,Rh⟩,⟨Ah,Ch,rfl,Fh⟩⟩⟩⟩:=h133
 exact Goes.same hi (show Vr.vd (vA rXChoice) _ _ _ _ from(mkA (mkVia (mk_pair (mk_int Rf) (mk_pair (mk_int Rg) (mk_pair (mk_int Rh) (mk_sl Fh)))))))
 refine Dw_op (VN 9 (Obj.cells [Iv 0,Iv 0,Iv 0,Value.slice none 0 0].toArray 58)) (VN.stab _ _) (fun ρ135 w136 g hle hi ht=>?_) ?_
 refine Sj2<|op_alloc ty58 hi ?_
 intro b138 w139 hx142 p140 hs141;exact Goes.new hi p140 hs141 hx142
 refine Dw_nil fun w147 g148 hl149 hi150=>?_
 obtain⟨-,hst151,-⟩:=hl149
 rintro _ ⟨b154,rfl,h155⟩ v157 h158
 replace h158:Vr.vd (vA rXChoice) _ _ _ _:=h158
 obtain⟨_,rfl,⟨_,_,rfl,⟨rfl,Ri⟩,⟨_,_,rfl,⟨rfl,Rj⟩,⟨_,_,rfl,⟨rfl,Rk⟩,⟨Ai,Ci,rfl,Fi⟩⟩⟩⟩⟩:=h158
 rintro _ ⟨p160,rfl,f161⟩ v162 h163
 replace h163:Vr.vd (vI .i64) _ _ _ _:=h163
 obtain⟨rfl,Rl⟩:=h163
 rintro _ ⟨p165,rfl,f166⟩ _ rfl _ rfl v167 h168
 replace h168:Vr.vd (vC (rSl rXChoice)) _ _ _ _:=h168
 obtain⟨Aj,Cj,rfl,Fj⟩:=un_sl h168
 rintro _ ⟨p170,rfl,f171⟩ _ ⟨p172,rfl,f173⟩ _ rfl _ rfl _ rfl
 obtain⟨hs153,p152⟩:=Step.nx1 hi150 h155
 have p174:=hs54.to hs153 (hst151.trans p152)
 replace Fi:=Fi.step p152;replace f161:=f161.step p152;replace f166:=f166.step p152;replace Fj:=Fj.step p152;replace f171:=f171.step p152;replace f173:=f173.step p152;clear hs54
 refine Rg_op_<|op_stA .z ty58 hs153 rfl rfl rfl rfl rfl ?_
 intro w175 p176 hs177
 clear hs153
 refine Ri2<|Wb ?_
 clear f161 f166 Fj f171 f173
 refine Wa<|Rop<|op2 2 ty26 rfl ty24 rfl rfl<|Rop<|oq2 2 ty24 hs177 rfl rfl rfl<|Mve (Iv i_1) rfl ?_
 obtain⟨hc178,hm⟩:=ck_some hm
 have p181:=(p174.trans p176)
 replace Fc:=Fc.step p181
 refine Rop<|om2 (q:=rXVariable) ty24 ty61 rfl rfl Fc rfl hc178.1 hc178.2 ?_
 intro p179 f180
 refine Rop<|op_fieldAddr ty61 rfl ty31 (by decide) rfl rfl ?_
 have f182:=f180.via.snd.snd.fst
 refine Rop<|ot2 ty31 rfl f182 rfl ?_
 intro v183 h184
 obtain⟨Ak,Ck,rfl,Fk⟩:=un_sl h184
 refine Rop<|op_len Try.underlying31 rfl ?_
 have rl186:=inK_len Fk
 refine Asg (Iv (((p.variables.getD i_1.toNat default).leaves).length:Int)) rfl<|Ri2<|Wb ?_
 clear f180 f182 Fk
 refine Wr2 q79_1 [] (updL ⟨ξ48,[]⟩ [(1,Sl Ad choices Cd),(2,Pt b1 0),(7,Sl (some ⟨b39,0,none⟩) [overload_1,0,0,0] 4),(8,Iv 0)]) [(7,Sl Ae v_2 Ce),(8,Iv i_1),(9,Pt b154 0),(10,Iv (((p.variables.getD i_1.toNat default).leaves).length:Int))] fun ξ187=>Wp_drawR (g0:=[]) (m:=6) (fl:=[0]) (TS_inv hs177) rfl (.inl rfl) rfl (by decide+kernel) ?_  -- 12
 refine Dw_p (Sl Ae v_2 Ce) (fun _ _ _ hi ht=>ok2 (v:=Sl Ae v_2 Ce) (ht 7 rfl)<|Gz hi)<|Dw_p (Sl Ae v_2 Ce) (fun _ _ _ hi ht=>ok2 (v:=Sl Ae v_2 Ce) (ht 7 rfl)<|Gz hi) ?_
 obtain⟨hc197,hm⟩:=ck_some hm
 replace Fe:=Fe.step p181
 obtain⟨b198,rfl,rfl⟩:=Fe.at_ (by omega)
 refine Dw_eq (Value.pointer (some ⟨b198,1*1,none⟩)) (fun ρ194 w195 g hle hi ht=>?_) ?_
 obtain⟨-,hst,-⟩:=hle
 replace Fe:=Fe.step hst
 refine Sj2<|op_indexAddrG ty31 ty3 (ht 58 rfl) rfl Fe hc197 ?_
 rintro _ ⟨⟩ -
 exact Gz hi
 refine Dw_op (VD _ _ (vI .i64) (v_2.getD 1 default)) (VD.stab _ _) (fun ρ199 w200 g hle hi ht=>?_) ?_
 obtain⟨-,hst,-⟩:=hle
 replace Fe:=Fe.step hst
 have hsn:=(Step.nx hi).1
 refine Sj2<|op_loadG (m:=1) (i:=1) ty3 rfl hsn rfl (ht 59 rfl) Fe hc197 ?_
 intro v202 h203
 obtain⟨rfl,Rm⟩:=un_int h203
 exact Goes.same hi (show Vr.vd (vI .i64) _ _ _ _ from⟨rfl,Rm⟩)
 refine Dw_p (Pt b154 0) (fun _ _ _ hi ht=>op2 0 ty58 rfl ty3 (ht 9 rfl) rfl<|Gz hi)<|Dw_p (Iv ((((p.variables.getD i_1.toNat default).choices).getD (choices.getD i_1.toNat default).toNat default).delay)) (fun _ _ _ hi ht=>oq2 0 ty3 (Step.nx hi).1 (ht 61 rfl) rfl rfl<|Gz hi)<|Dw_nil fun w215 g216 hl217 hi218=>?_
 obtain⟨-,hst219,-⟩:=hl217
 obtain⟨hs221,p220⟩:=Step.nx hi218
 rintro _ rfl _ rfl v222 h223
 replace h223:Vr.vd (vI .i64) _ _ _ _:=h223
 obtain⟨rfl,Rn⟩:=h223
 rintro _ rfl _ rfl _ rfl
 have p225:=hs177.to hs221 (hst219.trans p220)
 clear hs177
 refine Rop<|op_max rfl rfl ?_
 obtain⟨hc226,hm⟩:=ck_some hm
 replace Fe:=Fe.step p225
 refine Rop<|op_indexAddrG ty31 ty3 rfl rfl Fe hc226 ?_
 rintro _ ⟨⟩ -
 refine Rg_op_<|op_storeG (vs:=[Iv (max (v_2.getD 1 default) ((((p.variables.getD i_1.toNat default).choices).getD (choices.getD i_1.toNat default).toNat default).delay))]) (i:=1) (m:=1) ty3 rfl hs221 rfl rfl rfl rfl Fe hc226 (mk_int (inK_max Rn Ri)) ?_
 intro w228 o231 p229 hs230 f232
 clear hs221
 refine Ri2<|Wb<|Wp_drawR (g0:=[]) (m:=8) (fl:=[0]) (TS_inv hs230) rfl (.inl rfl) rfl (by decide+kernel) ?_  -- 13
 refine Dw_eq (Sl (some ⟨b198,0,none⟩) (v_2.set 1 (max (v_2.getD 1 default) ((((p.variables.getD i_1.toNat default).choices).getD (choices.getD i_1.toNat default).toNat default).delay))) Ce) (fun ρ233 w234 g hle hi ht=>?_) ?_
 refine Sj2 (ok2 (v:=Sl (some ⟨b198,0,none⟩) (v_2.set 1 (max (v_2.getD 1 default) ((((p.variables.getD i_1.toNat default).choices).getD (choices.getD i_1.toNat default).toNat default).delay))) Ce) (eqlen (ht 7 rfl) (show v_2.length=(v_2.set 1 (max (v_2.getD 1 default) ((((p.variables.getD i_1.toNat default).choices).getD (choices.getD i_1.toNat default).toNat default).delay))).length from by first |(simp;done) |(simp;omega))) ?_)
 exact Gz hi
 refine Dw_eq (Sl (some ⟨b198,0,none⟩) (v_2.set 1 (max (v_2.getD 1 default) ((((p.variables.getD i_1.toNat default).choices).getD (choices.getD i_1.toNat default).toNat default).delay))) Ce) (fun ρ236 w237 g hle hi ht=>?_) ?_
 refine Sj2 (ok2 (v:=Sl (some ⟨b198,0,none⟩) (v_2.set 1 (max (v_2.getD 1 default) ((((p.variables.getD i_1.toNat default).choices).getD (choices.getD i_1.toNat default).toNat default).delay))) Ce) (eqlen (ht 7 rfl) (show v_2.length=(v_2.set 1 (max (v_2.getD 1 default) ((((p.variables.getD i_1.toNat default).choices).getD (choices.getD i_1.toNat default).toNat default).delay))).length from by first |(simp;done) |(simp;omega))) ?_)
 exact Gz hi
 obtain⟨hc242,hm⟩:=ck_some hm
 refine Dw_eq (Value.pointer (some ⟨b198,2*1,none⟩)) (fun ρ239 w240 g hle hi ht=>?_) ?_
 obtain⟨-,hst,-⟩:=hle
 replace f232:=f232.step hst
 refine Sj2<|op_indexAddrG ty31 ty3 (ht 66 rfl) rfl f232 hc242 ?_
 rintro _ ⟨⟩ -
 exact Gz hi
 refine Dw_op (VD _ _ (vI .i64) ((v_2.set 1 (max (v_2.getD 1 default) ((((p.variables.getD i_1.toNat default).choices).getD (choices.getD i_1.toNat default).toNat default).delay))).getD 2 default)) (VD.stab _ _) (fun ρ244 w245 g hle hi ht=>?_) ?_
 obtain⟨-,hst,-⟩:=hle
 replace f232:=f232.step hst
 have hsn:=(Step.nx hi).1
 refine Sj2<|op_loadG (m:=2) (i:=1) ty3 rfl hsn rfl (ht 67 rfl) f232 hc242 ?_
 intro v247 h248
 obtain⟨rfl,Ro⟩:=un_int h248
 exact Goes.same hi (show Vr.vd (vI .i64) _ _ _ _ from⟨rfl,Ro⟩)
 refine Dw_p (Pt b154 1) (fun _ _ _ hi ht=>op2 1 ty58 rfl ty3 (ht 9 rfl) rfl<|Gz hi)<|Dw_p (Iv ((((p.variables.getD i_1.toNat default).choices).getD (choices.getD i_1.toNat default).toNat default).cost)) (fun _ _ _ hi ht=>oq2 0 ty3 (Step.nx hi).1 (ht 69 rfl) rfl rfl<|Gz hi)<|Dw_p (Iv (((p.variables.getD i_1.toNat default).leaves).length:Int)) (fun _ _ _ hi ht=>ok2 (v:=Iv (((p.variables.getD i_1.toNat default).leaves).length:Int)) (ht 10 rfl)<|Gz hi)<|Dw_p (Iv (IntKind.wrap .i64 (((((p.variables.getD i_1.toNat default).choices).getD (choices.getD i_1.toNat default).toNat default).cost)*(((p.variables.getD i_1.toNat default).leaves).length:Int)))) (fun _ _ _ hi ht=>op_mulw (ht 70 rfl) (ht 71 rfl)<|Gz hi)<|Dw_nil fun w266 g267 hl268 hi269=>?_
 obtain⟨-,hst270,-⟩:=hl268
 obtain⟨hs272,p271⟩:=Step.nx hi269
 rintro _ rfl _ rfl _ rfl _ rfl v273 h274
 replace h274:Vr.vd (vI .i64) _ _ _ _:=h274
 obtain⟨rfl,Rp⟩:=h274
 rintro _ rfl _ rfl _ rfl
 have p276:=hs230.to hs272 (hst270.trans p271)
 clear hs230
 refine Rop<|op_addw rfl rfl ?_
 obtain⟨hc277,hm⟩:=ck_some hm
 replace f232:=f232.step p276
 refine Rop<|op_indexAddrG ty31 ty3 rfl rfl f232 hc277 ?_
 rintro _ ⟨⟩ -
 refine Rg_op_<|op_storeG (vs:=[Iv (IntKind.wrap .i64 (((v_2.set 1 (max (v_2.getD 1 default) ((((p.variables.getD i_1.toNat default).choices).getD (choices.getD i_1.toNat default).toNat default).delay))).getD 2 default)+(IntKind.wrap .i64 (((((p.variables.getD i_1.toNat default).choices).getD (choices.getD i_1.toNat default).toNat default).cost)*(((p.variables.getD i_1.toNat default).leaves).length:Int)))))]) (i:=1) (m:=2) ty3 rfl hs272 rfl rfl rfl rfl f232 hc277 (mk_int (inK_wrap .i64 _)) ?_
 intro w279 o282 p280 hs281 f283
 clear hs272
 refine Ri2<|Wp_drawR (g0:=[]) (m:=8) (fl:=[0]) (TS_inv hs281) rfl (.inl rfl) rfl (by decide+kernel) ?_  -- 14
 refine Dw_eq (Sl (some ⟨b198,0,none⟩) ((v_2.set 1 (max (v_2.getD 1 default) ((((p.variables.getD i_1.toNat default).choices).getD (choices.getD i_1.toNat default).toNat default).delay))).set 2 (IntKind.wrap .i64 (((v_2.set 1 (max (v_2.getD 1 default) ((((p.variables.getD i_1.toNat default).choices).getD (choices.getD i_1.toNat default).toNat default).delay))).getD 2 default)+(IntKind.wrap .i64 (((((p.variables.getD i_1.toNat default).choices).getD (choices.getD i_1.toNat default).toNat default).cost)*(((p.variables.getD i_1.toNat default).leaves).length:Int)))))) Ce) (fun ρ284 w285 g hle hi ht=>?_) ?_
 refine Sj2 (ok2 (v:=Sl (some ⟨b198,0,none⟩) ((v_2.set 1 (max (v_2.getD 1 default) ((((p.variables.getD i_1.toNat default).choices).getD (choices.getD i_1.toNat default).toNat default).delay))).set 2 (IntKind.wrap .i64 (((v_2.set 1 (max (v_2.getD 1 default) ((((p.variables.getD i_1.toNat default).choices).getD (choices.getD i_1.toNat default).toNat default).delay))).getD 2 default)+(IntKind.wrap .i64 (((((p.variables.getD i_1.toNat default).choices).getD (choices.getD i_1.toNat default).toNat default).cost)*(((p.variables.getD i_1.toNat default).leaves).length:Int)))))) Ce) (eqlen (ht 7 rfl) (show v_2.length=((v_2.set 1 (max (v_2.getD 1 default) ((((p.variables.getD i_1.toNat default).choices).getD (choices.getD i_1.toNat default).toNat default).delay))).set 2 (IntKind.wrap .i64 (((v_2.set 1 (max (v_2.getD 1 default) ((((p.variables.getD i_1.toNat default).choices).getD (choices.getD i_1.toNat default).toNat default).delay))).getD 2 default)+(IntKind.wrap .i64 (((((p.variables.getD i_1.toNat default).choices).getD (choices.getD i_1.toNat default).toNat default).cost)*(((p.variables.getD i_1.toNat default).leaves).length:Int)))))).length from by first |(simp;done) |(simp;omega))) ?_)
 exact Gz hi
 refine Dw_eq (Sl (some ⟨b198,0,none⟩) ((v_2.set 1 (max (v_2.getD 1 default) ((((p.variables.getD i_1.toNat default).choices).getD (choices.getD i_1.toNat default).toNat default).delay))).set 2 (IntKind.wrap .i64 (((v_2.set 1 (max (v_2.getD 1 default) ((((p.variables.getD i_1.toNat default).choices).getD (choices.getD i_1.toNat default).toNat default).delay))).getD 2 default)+(IntKind.wrap .i64 (((((p.variables.getD i_1.toNat default).choices).getD (choices.getD i_1.toNat default).toNat default).cost)*(((p.variables.getD i_1.toNat default).leaves).length:Int)))))) Ce) (fun ρ287 w288 g hle hi ht=>?_) ?_
 refine Sj2 (ok2 (v:=Sl (some ⟨b198,0,none⟩) ((v_2.set 1 (max (v_2.getD 1 default) ((((p.variables.getD i_1.toNat default).choices).getD (choices.getD i_1.toNat default).toNat default).delay))).set 2 (IntKind.wrap .i64 (((v_2.set 1 (max (v_2.getD 1 default) ((((p.variables.getD i_1.toNat default).choices).getD (choices.getD i_1.toNat default).toNat default).delay))).getD 2 default)+(IntKind.wrap .i64 (((((p.variables.getD i_1.toNat default).choices).getD (choices.getD i_1.toNat default).toNat default).cost)*(((p.variables.getD i_1.toNat default).leaves).length:Int)))))) Ce) (eqlen (ht 7 rfl) (show v_2.length=((v_2.set 1 (max (v_2.getD 1 default) ((((p.variables.getD i_1.toNat default).choices).getD (choices.getD i_1.toNat default).toNat default).delay))).set 2 (IntKind.wrap .i64 (((v_2.set 1 (max (v_2.getD 1 default) ((((p.variables.getD i_1.toNat default).choices).getD (choices.getD i_1.toNat default).toNat default).delay))).getD 2 default)+(IntKind.wrap .i64 (((((p.variables.getD i_1.toNat default).choices).getD (choices.getD i_1.toNat default).toNat default).cost)*(((p.variables.getD i_1.toNat default).leaves).length:Int)))))).length from by first |(simp;done) |(simp;omega))) ?_)
 exact Gz hi
 obtain⟨hc293,hm⟩:=ck_some hm
 refine Dw_eq (Value.pointer (some ⟨b198,3*1,none⟩)) (fun ρ290 w291 g hle hi ht=>?_) ?_
 obtain⟨-,hst,-⟩:=hle
 replace f283:=f283.step hst
 refine Sj2<|op_indexAddrG ty31 ty3 (ht 76 rfl) rfl f283 hc293 ?_
 rintro _ ⟨⟩ -
 exact Gz hi
 refine Dw_op (VD _ _ (vI .i64) (((v_2.set 1 (max (v_2.getD 1 default) ((((p.variables.getD i_1.toNat default).choices).getD (choices.getD i_1.toNat default).toNat default).delay))).set 2 (IntKind.wrap .i64 (((v_2.set 1 (max (v_2.getD 1 default) ((((p.variables.getD i_1.toNat default).choices).getD (choices.getD i_1.toNat default).toNat default).delay))).getD 2 default)+(IntKind.wrap .i64 (((((p.variables.getD i_1.toNat default).choices).getD (choices.getD i_1.toNat default).toNat default).cost)*(((p.variables.getD i_1.toNat default).leaves).length:Int)))))).getD 3 default)) (VD.stab _ _) (fun ρ295 w296 g hle hi ht=>?_) ?_
 obtain⟨-,hst,-⟩:=hle
 replace f283:=f283.step hst
 have hsn:=(Step.nx hi).1
 refine Sj2<|op_loadG (m:=3) (i:=1) ty3 rfl hsn rfl (ht 77 rfl) f283 hc293 ?_
 intro v298 h299
 obtain⟨rfl,Rq⟩:=un_int h299
 exact Goes.same hi (show Vr.vd (vI .i64) _ _ _ _ from⟨rfl,Rq⟩)
 refine Dw_p (Pt b154 2) (fun _ _ _ hi ht=>op2 2 ty58 rfl ty3 (ht 9 rfl) rfl<|Gz hi)<|Dw_p (Iv ((((p.variables.getD i_1.toNat default).choices).getD (choices.getD i_1.toNat default).toNat default).changes)) (fun _ _ _ hi ht=>oq2 0 ty3 (Step.nx hi).1 (ht 79 rfl) rfl rfl<|Gz hi)<|Dw_p (Iv (((p.variables.getD i_1.toNat default).leaves).length:Int)) (fun _ _ _ hi ht=>ok2 (v:=Iv (((p.variables.getD i_1.toNat default).leaves).length:Int)) (ht 10 rfl)<|Gz hi)<|Dw_p (Iv (IntKind.wrap .i64 (((((p.variables.getD i_1.toNat default).choices).getD (choices.getD i_1.toNat default).toNat default).changes)*(((p.variables.getD i_1.toNat default).leaves).length:Int)))) (fun _ _ _ hi ht=>op_mulw (ht 80 rfl) (ht 81 rfl)<|Gz hi)<|Dw_nil fun w317 g318 hl319 hi320=>?_
 obtain⟨-,hst321,-⟩:=hl319
 obtain⟨hs323,p322⟩:=Step.nx hi320
 rintro _ rfl _ rfl _ rfl _ rfl v324 h325
 replace h325:Vr.vd (vI .i64) _ _ _ _:=h325
 obtain⟨rfl,Rr⟩:=h325
 rintro _ rfl _ rfl _ rfl
 have p327:=hs281.to hs323 (hst321.trans p322)
 clear hs281
 refine Rop<|op_addw rfl rfl ?_
 obtain⟨hc328,hm⟩:=ck_some hm
 replace f283:=f283.step p327
 refine Rop<|op_indexAddrG ty31 ty3 rfl rfl f283 hc328 ?_
 rintro _ ⟨⟩ -
 refine Rg_op_<|op_storeG (vs:=[Iv (IntKind.wrap .i64 ((((v_2.set 1 (max (v_2.getD 1 default) ((((p.variables.getD i_1.toNat default).choices).getD (choices.getD i_1.toNat default).toNat default).delay))).set 2 (IntKind.wrap .i64 (((v_2.set 1 (max (v_2.getD 1 default) ((((p.variables.getD i_1.toNat default).choices).getD (choices.getD i_1.toNat default).toNat default).delay))).getD 2 default)+(IntKind.wrap .i64 (((((p.variables.getD i_1.toNat default).choices).getD (choices.getD i_1.toNat default).toNat default).cost)*(((p.variables.getD i_1.toNat default).leaves).length:Int)))))).getD 3 default)+(IntKind.wrap .i64 (((((p.variables.getD i_1.toNat default).choices).getD (choices.getD i_1.toNat default).toNat default).changes)*(((p.variables.getD i_1.toNat default).leaves).length:Int)))))]) (i:=1) (m:=3) ty3 rfl hs323 rfl rfl rfl rfl f283 hc328 (mk_int (inK_wrap .i64 _)) ?_
 intro w330 o333 p331 hs332 f334
 clear hs323
 refine Ri2<|Wa<|Mve (Iv i_1) rfl<|Rop<|op_addw rfl rfl<|Asg (Iv (IntKind.wrap .i64 (i_1+1))) rfl<|Ri2 ?_
 have hs335:=hs332.drop 0
 have p336:=(hs332.dropS 0)
 clear hs332
 have p337:=(p181.trans (p225.trans (p229.trans (p276.trans (p280.trans (p327.trans (p331.trans p336)))))))
 replace ch58:=ch58.trans p337;replace f334:=f334.step p336
 exact hK51 _ _ ⟨((v_2.set 1 (max (v_2.getD 1 default) ((((p.variables.getD i_1.toNat default).choices).getD (choices.getD i_1.toNat default).toNat default).delay))).set 2 (IntKind.wrap .i64 (((v_2.set 1 (max (v_2.getD 1 default) ((((p.variables.getD i_1.toNat default).choices).getD (choices.getD i_1.toNat default).toNat default).delay))).getD 2 default)+(IntKind.wrap .i64 (((((p.variables.getD i_1.toNat default).choices).getD (choices.getD i_1.toNat default).toNat default).cost)*(((p.variables.getD i_1.toNat default).leaves).length:Int)))))).set 3 (IntKind.wrap .i64 ((((v_2.set 1 (max (v_2.getD 1 default) ((((p.variables.getD i_1.toNat default).choices).getD (choices.getD i_1.toNat default).toNat default).delay))).set 2 (IntKind.wrap .i64 (((v_2.set 1 (max (v_2.getD 1 default) ((((p.variables.getD i_1.toNat default).choices).getD (choices.getD i_1.toNat default).toNat default).delay))).getD 2 default)+(IntKind.wrap .i64 (((((p.variables.getD i_1.toNat default).choices).getD (choices.getD i_1.toNat default).toNat default).cost)*(((p.variables.getD i_1.toNat default).leaves).length:Int)))))).getD 3 default)+(IntKind.wrap .i64 (((((p.variables.getD i_1.toNat default).choices).getD (choices.getD i_1.toNat default).toNat default).changes)*(((p.variables.getD i_1.toNat default).leaves).length:Int))))),(IntKind.wrap .i64 (i_1+1)),some ⟨b198,0,none⟩,Ce,some b198,o333,_,rfl,Frm.of ⟨eqlenV (show v_2.length=(((v_2.set 1 (max (v_2.getD 1 default) ((((p.variables.getD i_1.toNat default).choices).getD (choices.getD i_1.toNat default).toNat default).delay))).set 2 (IntKind.wrap .i64 (((v_2.set 1 (max (v_2.getD 1 default) ((((p.variables.getD i_1.toNat default).choices).getD (choices.getD i_1.toNat default).toNat default).delay))).getD 2 default)+(IntKind.wrap .i64 (((((p.variables.getD i_1.toNat default).choices).getD (choices.getD i_1.toNat default).toNat default).cost)*(((p.variables.getD i_1.toNat default).leaves).length:Int)))))).set 3 (IntKind.wrap .i64 ((((v_2.set 1 (max (v_2.getD 1 default) ((((p.variables.getD i_1.toNat default).choices).getD (choices.getD i_1.toNat default).toNat default).delay))).set 2 (IntKind.wrap .i64 (((v_2.set 1 (max (v_2.getD 1 default) ((((p.variables.getD i_1.toNat default).choices).getD (choices.getD i_1.toNat default).toNat default).delay))).getD 2 default)+(IntKind.wrap .i64 (((((p.variables.getD i_1.toNat default).choices).getD (choices.getD i_1.toNat default).toNat default).cost)*(((p.variables.getD i_1.toNat default).leaves).length:Int)))))).getD 3 default)+(IntKind.wrap .i64 (((((p.variables.getD i_1.toNat default).choices).getD (choices.getD i_1.toNat default).toNat default).changes)*(((p.variables.getD i_1.toNat default).leaves).length:Int)))))).length from by first |(simp;done) |(simp;omega)),rfl,trivial⟩,ch58,hs335,f334,(inK_wrap .i64 _),jnE2 hsf50 hm⟩
 refine Wp_exit<|Wb ?_
 obtain⟨hs338,p339⟩:=hs54.sub (bs':=[(k_g46,o_g46)]) (.cons_cons _ (.cons _ List.Sublist.slnil))
 clear Fa Fb Fc Fd
 clear hs54
 refine Wa<|Mve (Sl Ae v_2 Ce) rfl<|Asg (Sl Ae v_2 Ce) rfl<|Asg (Iv 0) rfl<|Ri2<|Wp_ret ?_
 replace Fe:=Fe.step p339
 obtain⟨hs341,p342,f340⟩:=Gs.publish (i:=0) hs338 rfl Fe
 clear hs338
 have hz:=step_all hs341
 refine⟨_,Clo,[Sl Ae v_2 Ce,Iv 0],⟨rfl,rfl,trivial⟩,hs341.ext,?_⟩
 replace f340:=f340.step hz
 exact Vr.eq (a:=vT2 (vC (rSl (rInt .i64))) (vI .i64)) (x:=(v_2,0)) (mkT2 (mkC (mk_sl f340)) ⟨rfl,(show InK .i64 0 from by decide)⟩) (oi hm)
 intro K21 hK21
 have ch343:=hs11.stepR
 refine Wa<|Rop<|op_ldA 0 ty26 hs11 rfl rfl rfl<|Mve (Sl Ad choices Cd) rfl ?_
 obtain⟨branch_1,hv344,hm⟩:=bd hm
 replace Fd:=Fd.step (p3.trans p12);replace Fb:=Fb.step p12;replace Fa:=Fa.step p12;replace Fc:=Fc.step p12
 refine Rop<|op_callE hs11 Try.call87 (c87_overflightref27_Branch (p:=p) (b:=choices) hs11.ltw Fa Fb Fc Fd hv344) rfl ?_
 rintro v345 w346 p350 hs349 h348
 obtain rfl:=h348
 refine Rop<|op_not rfl<|Mve (Bo (!branch_1)) rfl<|Rg_caseM hm (fun hg352 hm=>?_) (fun hg352 hm=>?_)
 iterate 6 refine Rl2 rfl (asB_ne rfl rfl) rfl ?_
 refine Pkt (Bo true) rfl rfl<|Ri2 ?_
 replace ch343:=ch343.trans p350
 exact hK21 _ _ ⟨true,_,rfl,Frm.of ⟨rfl,trivial⟩,ch343,hs349,hm⟩
 refine Rog rfl rfl<|ok2 (v:=Sl Ad choices Cd) rfl<|Rog rfl rfl<|op_len Try.underlying31 rfl ?_
 replace Fd:=Fd.step p350
 have rl353:=inK_len Fd
 refine Rog rfl rfl<|op2 2 ty26 rfl ty24 rfl rfl<|Rog rfl rfl<|oq2 0 ty24 hs349 rfl rfl rfl<|Rog rfl rfl<|op_len Try.underlying24 rfl ?_
 replace Fc:=Fc.step p350
 have rl354:=inK_len Fc
 refine Rog rfl rfl<|op_neq rfl rfl<|Pkf (Bo (decide ((choices.length:Int)≠(p.variables.length:Int)))) rfl rfl<|Ri2 ?_
 replace ch343:=ch343.trans p350
 exact hK21 _ _ ⟨decide ((choices.length:Int)≠(p.variables.length:Int)),_,rfl,Frm.of ⟨rfl,trivial⟩,ch343,hs349,hm⟩

abbrev q57_0:List Nat:=[8,11,33,34,35,36,37,38,39,40,41,42,43,44,45,46,47,48,49,50,51,52,53,54,55,56,57]

abbrev q57_1:List Nat:=[8,9,10,11,22,23,24,25,26,27,28,29,30,31,32,33,34,35,36,37,38,39,40,41,42,43,44,45,46,47,48,49,50,51,52,53,54,55,56,57]

def m57_overflightref27_Overloads_B1 (p:XProblem) (leaf_1:Int) (sf31:(List XPlace)→Int→Option ((List XPlace) × Int)) (demand_1:(List Int)) (sf62:(List XPlace)→Int→Option ((List XPlace) × Int)) (l_2:List XPlace) (k_1:Int):Option ((List XPlace) × Int):=
 bif (decide (k_1<(demand_1.length:Int))) then
  ck ((0:Int)≤k_1∧k_1<(demand_1.length:Int))<|
  ck ((0:Int)≤leaf_1∧leaf_1<(p.capacity.length:Int))<|
  ck ((0:Int)≤k_1∧k_1<((p.capacity.getD leaf_1.toNat default).length:Int))<|
  bif (decide (((p.capacity.getD leaf_1.toNat default).getD k_1.toNat default)<(demand_1.getD k_1.toNat default))) then
   ck ((l_2.length+[(⟨leaf_1,k_1⟩:XPlace)].length)*16≤140737488355328)<|
   sf62 (l_2++[(⟨leaf_1,k_1⟩:XPlace)]) (IntKind.wrap .i64 (k_1+1))
  else
   sf62 l_2 (IntKind.wrap .i64 (k_1+1))
 else
  sf31 l_2 (IntKind.wrap .i64 (leaf_1+1))

def m57_overflightref27_Overloads_B0 (p:XProblem) (choices:List Int) (sf31:(List XPlace)→Int→Option ((List XPlace) × Int)) (l_1:List XPlace) (leaf_1:Int):Option ((List XPlace) × Int):=
 bif (decide (leaf_1<(p.capacity.length:Int))) then
  (m80_overflightref27_demand p choices leaf_1).bind fun demand_1=>
  loop2 (m57_overflightref27_Overloads_B1 p leaf_1 sf31 demand_1) (((demand_1.length:Int) - 0).toNat+1) l_1 0
 else
  some (l_1,0)

def m57_overflightref27_Overloads (p:XProblem) (choices:List Int):Option ((List XPlace) × Int):=
 (m79_overflightref27_Value p choices).bind fun value_1=>
 bif (decide (value_1.2≠0)) then
  some (([]:List XPlace),value_1.2)
 else
  loop2 (m57_overflightref27_Overloads_B0 p choices) (((p.capacity.length:Int) - 0).toNat+1) [] 0

theorem c57_overflightref27_Overloads {w:World} {O:List Nat} {p:XProblem} {choices:List Int} {Aa:Option Addr} {Ca:Nat} {Ab:Option Addr} {Cb:Nat} {Ac:Option Addr} {Cc:Nat} {Ad:Option Addr} {Cd:Nat} (hO:∀k∈O,k<w.heap.size) (Fa:SlR rXCell w O Aa Ca p.cells) (Fb:SlR (rSl (rInt .i64)) w O Ab Cb p.capacity) (Fc:SlR rXVariable w O Ac Cc p.variables) (Fd:SlR (rInt .i64) w O Ad Cd choices) {x:(List XPlace) × Int} (hm:m57_overflightref27_Overloads p choices=some x):
 Ok Try.prog 57 [Value.agg [Sl Aa p.cells Ca,Sl Ab p.capacity Cb,Sl Ac p.variables Cc].toArray,Sl Ad choices Cd] w O (vT2 (vC (rSl rXPlace)) (vI .i64)) x:=by
 unfold m57_overflightref27_Overloads at hm
 refine Fn_of_Wp (n:=59) (xs:=[.tmp 4,.tmp 5]) Try.func57 rfl Try.ntmps57 Try.results57 rfl ?_
 have hs:=St.start hO
 refine Wb<|Wa<|Rop<|op_box (cs:=[Sl Aa p.cells Ca,Sl Ab p.capacity Cb,Sl Ac p.variables Cc]) hs rfl rfl ?_
 intro b1 w2 _ p3 hs4
 refine Asg (Value.slice none 0 0) rfl<|Asg (Iv 0) rfl<|Ri2<|Wb<|Wa<|Rop<|op_ldA 0 ty26 hs4 rfl rfl rfl<|Mve (Sl Ad choices Cd) rfl ?_
 obtain⟨value_1,hv6,hm⟩:=bd hm
 replace Fd:=Fd.step p3;replace Fb:=Fb.step p3;replace Fa:=Fa.step p3;replace Fc:=Fc.step p3
 refine Rop<|op_callE hs4 Try.call79 (c79_overflightref27_Value (p:=p) (choices:=choices) hs4.ltw Fa Fb Fc Fd hv6) rfl ?_
 rintro v7 w8 p12 hs11 h10
 clear hs4
 obtain⟨v13,v14,rfl,h15,h16⟩:=h10
 obtain⟨Ae,Ce,rfl,Fe⟩:=un_sl h15
 obtain⟨rfl,Ra⟩:=h16
 refine Mve (Value.tuple [Sl Ae value_1.1 Ce,Iv value_1.2].toArray) rfl<|Rop<|op_extract (v:=Sl Ae value_1.1 Ce) rfl rfl<|Rop<|op_extract (v:=Iv value_1.2) rfl rfl<|Asg (Sl Ae value_1.1 Ce) rfl<|Asg (Iv value_1.2) rfl<|Ri2<|Wb<|Wb ?_
 clear Fe
 refine Wa<|Mve (Iv value_1.2) rfl<|Rop<|op_neq rfl rfl<|Ri2<|Wo2 hm rfl (fun hc19 hm=>?_) (fun hc19 hm=>?_)
 refine Wb ?_
 obtain⟨hs20,p21⟩:=hs11.sub (bs':=[]) (.cons _ List.Sublist.slnil)
 clear Fa Fb Fc Fd
 clear hs11
 refine Wa<|Mve (Iv value_1.2) rfl<|Asg (Value.slice none 0 0) rfl<|Asg (Iv value_1.2) rfl<|Ri2<|Wp_ret<|⟨_,Clo,[Value.slice none 0 0,Iv value_1.2],⟨rfl,rfl,trivial⟩,hs20.ext,?_⟩
 exact Vr.eq (a:=vT2 (vC (rSl rXPlace)) (vI .i64)) (x:=(([]:List XPlace),value_1.2)) (mkT2 (mkC (mk_sl SlR.nil_)) ⟨rfl,Ra⟩) (oi hm)
 refine Ws2<|Wb<|Wa<|Rop<|op_buildSlice (cs:=[]) (parts:=[]) ty32 ty45 hs11 (by decide) rfl ?_
 intro b22 w23 hx26 p24 hs25
 clear hs11
 refine Asg (Value.slice (some ⟨b22,0,none⟩) 0 0) rfl<|Ri2<|Wb<|Wb<|Wa<|Asg (Iv 0) rfl<|Ri2<|Wn2<|Wr [] [(1,Sl Ad choices Cd),(2,Pt b1 0),(8,Value.slice (some ⟨b22,0,none⟩) 0 0),(9,Iv 0)] fun ξ30=>?_
 have f35:=Gs.of_cells (p:=rXPlace) (e:=45) (bl:=b22) (c:=0) (w:=w23) (O:=ks [(some b22,Oc [] 45),(some b1,Oc [Sl Aa p.cells Ca,Sl Ab p.capacity Cb,Sl Ac p.variables Cc] 26)] O) (show Els rXPlace _ _ [] [] from Els.nil) rfl (le_lit rfl)
 refine Wp_loopM q57_1 (fun m fr w'=>∃(l_1:List XPlace) (leaf_1:Int) (Af:Option Addr) (Cf:Nat) (k_g28:Option Nat) (o_g28:Obj) (Ebs:Ents),Ebs=[(k_g28,o_g28),(some b1,Oc [Sl Aa p.cells Ca,Sl Ab p.capacity Cb,Sl Ac p.variables Cc] 26)]∧fr [] [(8,Sl Af l_1 Cf),(9,Iv leaf_1)]∧hs25.S (ks Ebs O) w'∧St ⟨w,[],[]⟩ O w' Ebs∧Gs rXPlace 45 w' (ks Ebs O) Af Cf l_1 k_g28 o_g28∧InK .i64 leaf_1∧loop2 (m57_overflightref27_Overloads_B0 p choices) m l_1 leaf_1=some x) (((p.capacity.length:Int) - 0).toNat+1) ⟨[],0,some ⟨b22,0,none⟩,0,some b22,Obj.cells [].toArray 45,_,rfl,Frm.of ⟨rfl,rfl,trivial⟩,Step.refl _ _,hs25,f35,(show InK .i64 0 from by decide),hm⟩ ?_ ?_
 rintro _ _ ⟨_,_,_,_,_,_,_,_,_,_,_,_,_,hm⟩;exact loop2_z hm
 rintro m34 K33 hK33 ρ40 w36 ⟨l_1,leaf_1,Af,Cf,k_g28,o_g28,_,rfl,hfr39,hst38,hs37,Ff,Rb,hm⟩
 obtain⟨sf31,hsf32,hm⟩:=loop2_s hm;unfold m57_overflightref27_Overloads_B0 at hm
 rw [hfr39.eq];clear hfr39
 have ch41:=hst38
 refine Wb<|Wb ?_
 clear f35
 refine Wa<|Mve (Iv leaf_1) rfl<|Rop<|op2 1 ty26 rfl ty23 rfl rfl<|Rop<|oq2 1 ty23 hs37 rfl rfl rfl<|Rop<|op_len Try.underlying23 rfl ?_
 have p43:=(p12.trans (p24.trans hst38))
 replace Fb:=Fb.step p43
 have rl42:=inK_len Fb
 refine Rop<|op_lss rfl rfl<|Ri2<|Wo2 hm rfl (fun hc44 hm=>?_) (fun hc44 hm=>?_)
 refine Ws2<|Wb<|Wn2<|Wb<|Wa<|Rop<|op_ldA 1 ty26 hs37 rfl rfl rfl<|Mve (Sl Ad choices Cd) rfl<|Mve (Iv leaf_1) rfl ?_
 obtain⟨demand_1,hv45,hm⟩:=bd hm
 replace Fd:=Fd.step p43;replace Fa:=Fa.step p43;replace Fc:=Fc.step p43
 refine Rop<|op_call Try.call80 (g80_overflightref27_demand (p:=p) (b:=choices) (leaf:=leaf_1) hs37.ltw Fa Fb Fc Fd Rb hv45) rfl ?_
 rintro _ w47 ⟨hx48,a51,c52,k53,o54,rfl,hk55,f56⟩
 obtain⟨hs50,p57⟩:=hs37.callG (o:=o54) hx48 hk55
 rw [← ks_cons (o:=o54)] at f56
 clear hs37
 refine Asg (Sl a51 demand_1 c52) rfl<|Ri2<|Wb<|Wa<|Asg (Iv 0) rfl<|Ri2<|Wn2<|Wr2 q57_1 [] (updL ⟨ξ30,[]⟩ [(1,Sl Ad choices Cd),(2,Pt b1 0),(8,Value.slice (some ⟨b22,0,none⟩) 0 0),(9,Iv 0)]) [(8,Sl Af l_1 Cf),(9,Iv leaf_1),(10,Sl a51 demand_1 c52),(11,Iv 0)] fun ξ61=>?_
 replace Ff:=Ff.step p57
 refine Wp_loopM q57_0 (fun m fr w'=>∃(l_2:List XPlace) (k_1:Int) (Ag:Option Addr) (Cg:Nat) (k_g59:Option Nat) (o_g59:Obj) (Ebs:Ents),Ebs=[(k53,o54),(k_g59,o_g59),(some b1,Oc [Sl Aa p.cells Ca,Sl Ab p.capacity Cb,Sl Ac p.variables Cc] 26)]∧fr [] [(8,Sl Ag l_2 Cg),(11,Iv k_1)]∧hs50.S (ks Ebs O) w'∧St ⟨w,[],[]⟩ O w' Ebs∧Gs rXPlace 45 w' (ks Ebs O) Ag Cg l_2 k_g59 o_g59∧InK .i64 k_1∧loop2 (m57_overflightref27_Overloads_B1 p leaf_1 sf31 demand_1) m l_2 k_1=some x) (((demand_1.length:Int) - 0).toNat+1) ⟨l_1,0,Af,Cf,k_g28,o_g28,_,rfl,Frm.of ⟨rfl,rfl,trivial⟩,Step.refl _ _,hs50,Ff,(show InK .i64 0 from by decide),hm⟩ ?_ ?_
 rintro _ _ ⟨_,_,_,_,_,_,_,_,_,_,_,_,_,hm⟩;exact loop2_z hm
 rintro m65 K64 hK64 ρ70 w66 ⟨l_2,k_1,Ag,Cg,k_g59,o_g59,_,rfl,hfr69,hst68,hs67,Fg,Rc,hm⟩
 obtain⟨sf62,hsf63,hm⟩:=loop2_s hm;unfold m57_overflightref27_Overloads_B1 at hm
 rw [hfr69.eq];clear hfr69
 have ch71:=hst68
 refine Wb<|Wb ?_
 clear Ff
 refine Wa<|Mve (Iv k_1) rfl<|Mve (Sl a51 demand_1 c52) rfl<|Rop<|op_len Try.underlying31 rfl ?_
 replace f56:=f56.step hst68
 have rl72:=inK_lenG f56
 refine Rop<|op_lss rfl rfl<|Ri2<|Wo2 hm rfl (fun hc73 hm=>?_) (fun hc73 hm=>?_)
 refine Ws2<|Wb<|Wn2<|Wb<|Wp_drawR (g0:=[]) (m:=12) (fl:=[]) (TS_inv hs67) rfl (.inl rfl) rfl (by decide+kernel) ?_  -- 12
 refine Dw_p (Sl a51 demand_1 c52) (fun _ _ _ hi ht=>ok2 (v:=Sl a51 demand_1 c52) (ht 10 rfl)<|Gz hi)<|Dw_p (Iv k_1) (fun _ _ _ hi ht=>ok2 (v:=Iv k_1) (ht 11 rfl)<|Gz hi) ?_
 obtain⟨hc83,hm⟩:=ck_some hm
 obtain⟨b84,rfl,rfl⟩:=f56.at_ (by omega)
 refine Dw_eq (Value.pointer (some ⟨b84,k_1.toNat*1,none⟩)) (fun ρ80 w81 g hle hi ht=>?_) ?_
 obtain⟨-,hst,-⟩:=hle
 replace f56:=f56.step hst
 refine Sj2<|op_indexAddrG ty31 ty3 (ht 39 rfl) (ht 40 rfl) f56 hc83 ?_
 rintro _ ⟨⟩ -
 exact Gz hi
 refine Dw_op (VD _ _ (vI .i64) (demand_1.getD k_1.toNat default)) (VD.stab _ _) (fun ρ85 w86 g hle hi ht=>?_) ?_
 obtain⟨-,hst,-⟩:=hle
 replace f56:=f56.step hst
 have hsn:=(Step.nx hi).1
 refine Sj2<|op_loadG (m:=k_1) (i:=0) ty3 rfl hsn rfl (ht 41 rfl) f56 hc83 ?_
 intro v88 h89
 obtain⟨rfl,Rd⟩:=un_int h89
 exact Goes.same hi (show Vr.vd (vI .i64) _ _ _ _ from⟨rfl,Rd⟩)
 refine Dw_p (Pt b1 1) (fun _ _ _ hi ht=>op2 1 ty26 rfl ty23 (ht 2 rfl) rfl<|Gz hi)<|Dw_p (Sl Ab p.capacity Cb) (fun _ _ _ hi ht=>oq2 2 ty23 (Step.nx hi).1 (ht 43 rfl) rfl rfl<|Gz hi)<|Dw_p (Iv leaf_1) (fun _ _ _ hi ht=>ok2 (v:=Iv leaf_1) (ht 9 rfl)<|Gz hi) ?_
 obtain⟨hc103,hm⟩:=ck_some hm
 have p106:=(p57.trans hst68)
 replace Fb:=Fb.step p106
 refine Dw_op (VP _ _ (rSl (rInt .i64)) (p.capacity.getD leaf_1.toNat default)) (VP.stab _ _) (fun ρ100 w101 g hle hi ht=>?_) ?_
 obtain⟨-,hst,-⟩:=hle
 replace Fb:=Fb.step hst
 refine Sj2<|om2 (q:=rSl (rInt .i64)) ty23 ty31 (ht 44 rfl) (ht 45 rfl) Fb rfl hc103.1 hc103.2 ?_
 intro p104 f105
 exact Goes.same hi ⟨_,rfl,f105⟩
 refine Dw_op (VD _ _ (vC (rSl (rInt .i64))) (p.capacity.getD leaf_1.toNat default)) (VD.stab _ _) (fun ρ107 w108 g hle hi ht=>?_) ?_
 obtain⟨p110,q111,f112⟩:=ht 46 rfl
 refine Sj2<|ot2 ty31 q111 f112 rfl ?_
 intro v113 h114
 obtain⟨Ah,Ch,rfl,Fh⟩:=un_sl h114
 exact Goes.same hi (show Vr.vd (vC (rSl (rInt .i64))) _ _ _ _ from(mkC (mk_sl Fh)))
 refine Dw_p (Iv k_1) (fun _ _ _ hi ht=>ok2 (v:=Iv k_1) (ht 11 rfl)<|Gz hi) ?_
 obtain⟨hc125,hm⟩:=ck_some hm
 refine Dw_op (VP _ _ (rInt .i64) ((p.capacity.getD leaf_1.toNat default).getD k_1.toNat default)) (VP.stab _ _) (fun ρ119 w120 g hle hi ht=>?_) ?_
 have h122:Vr.vd (vC (rSl (rInt .i64))) _ _ _ _:=ht 47 rfl
 obtain⟨Ai,Ci,q123,Fi⟩:=un_sl h122
 refine Sj2<|om2 (q:=(rInt .i64)) ty31 ty3 q123 (ht 48 rfl) Fi rfl hc125.1 hc125.2 ?_
 intro p126 f127
 exact Goes.same hi ⟨_,rfl,f127⟩
 refine Dw_op (VD _ _ (vI .i64) ((p.capacity.getD leaf_1.toNat default).getD k_1.toNat default)) (VD.stab _ _) (fun ρ128 w129 g hle hi ht=>?_) ?_
 obtain⟨p131,q132,f133⟩:=ht 49 rfl
 refine Sj2<|ot2 ty3 q132 f133 rfl ?_
 intro v134 h135
 obtain⟨rfl,Re⟩:=un_int h135
 exact Goes.same hi (show Vr.vd (vI .i64) _ _ _ _ from⟨rfl,Re⟩)
 refine Dw_nil fun w141 g142 hl143 hi144=>?_
 obtain⟨-,hst145,-⟩:=hl143
 obtain⟨hs147,p146⟩:=Step.nx hi144
 rintro v148 h149
 replace h149:Vr.vd (vI .i64) _ _ _ _:=h149
 obtain⟨rfl,Rf⟩:=h149
 rintro _ ⟨p151,rfl,f152⟩ _ rfl v153 h154
 replace h154:Vr.vd (vC (rSl (rInt .i64))) _ _ _ _:=h154
 obtain⟨Aj,Cj,rfl,Fj⟩:=un_sl h154
 rintro _ ⟨p156,rfl,f157⟩ _ rfl _ rfl _ rfl v158 h159
 replace h159:Vr.vd (vI .i64) _ _ _ _:=h159
 obtain⟨rfl,Rg⟩:=h159
 rintro _ rfl _ rfl _ rfl
 have p161:=hs67.to hs147 (hst145.trans p146)
 replace f152:=f152.step p146;replace Fj:=Fj.step p146;replace f157:=f157.step p146;clear hs67
 refine Rop<|op_gtr rfl rfl<|Ri2<|Wo2 hm rfl (fun hc162 hm=>?_) (fun hc162 hm=>?_)
 clear f152 Fj f157
 refine Wa<|Mve (Sl Ag l_2 Cg) rfl<|Mve (Iv leaf_1) rfl<|Mve (Iv k_1) rfl<|Rop<|op_build (vs:=[Iv leaf_1,Iv k_1]) (parts:=[(0,.tmp 53),(1,.tmp 54)]) ty45 pl45 rfl<|Rop<|op_buildSlice (cs:=[Iv leaf_1,Iv k_1]) (parts:=[(0,.tmp 55)]) ty32 ty45 hs147 (by decide) rfl ?_
 intro b163 w164 hx167 p165 hs166
 clear hs147
 obtain⟨hc169,hm⟩:=ck_some hm
 have p178:=(p161.trans p165)
 replace Fg:=Fg.step p178
 refine Rop (op_append (q:=rXPlace) (i:=2) (xs:=l_2) (ys:=[(⟨leaf_1,k_1⟩:XPlace)]) (news:=[Iv leaf_1,Iv k_1]) ty32 ty45 rfl (by decide) hs166 rfl rfl Fg rfl (Src.owned' (len:=2) (hs166.get (i:=0) rfl) rfl) (show Els rXPlace _ _ [Iv leaf_1,Iv k_1] [(⟨leaf_1,k_1⟩:XPlace)] from⟨_,_,rfl,mkVia (mk_pair (mk_int Rb) (mk_int Rc)),Els.nil⟩) hc169 (by have:=hc169;simp only [maxLen];omega) ?_)
 intro a173 c174 k175 o176 w170 p171 hs172 f177
 clear hs166
 have hs179:=hs172.drop 0
 have p180:=(hs172.dropS 0)
 clear hs172
 refine Asg (Sl a173 (l_2++[(⟨leaf_1,k_1⟩:XPlace)]) c174) rfl<|Ri2<|Wa<|Mve (Iv k_1) rfl<|Rop<|op_addw rfl rfl<|Asg (Iv (IntKind.wrap .i64 (k_1+1))) rfl<|Ri2 ?_
 have p181:=(p178.trans (p171.trans p180))
 replace ch71:=ch71.trans p181;replace f177:=f177.step p180
 exact hK64 _ _ ⟨l_2++[(⟨leaf_1,k_1⟩:XPlace)],(IntKind.wrap .i64 (k_1+1)),a173,c174,k175,o176,_,rfl,Frm.of ⟨rfl,rfl,trivial⟩,ch71,hs179,f177,(inK_wrap .i64 _),jnE2 hsf63 hm⟩
 refine Ws2 ?_
 clear f152 Fj f157
 refine Wa<|Mve (Iv k_1) rfl<|Rop<|op_addw rfl rfl<|Asg (Iv (IntKind.wrap .i64 (k_1+1))) rfl<|Ri2 ?_
 replace ch71:=ch71.trans p161;replace Fg:=Fg.step p161
 exact hK64 _ _ ⟨l_2,(IntKind.wrap .i64 (k_1+1)),Ag,Cg,k_g59,o_g59,_,rfl,Frm.of ⟨rfl,rfl,trivial⟩,ch71,hs147,Fg,(inK_wrap .i64 _),jnE2 hsf63 hm⟩
 refine Wp_exit ?_
 clear f56
 refine Wa<|Mve (Iv leaf_1) rfl<|Rop<|op_addw rfl rfl<|Asg (Iv (IntKind.wrap .i64 (leaf_1+1))) rfl<|Ri2 ?_
 have hs182:=hs67.drop 0
 have p183:=(hs67.dropS 0)
 clear hs67
 have p184:=(p57.trans (hst68.trans p183))
 replace ch41:=ch41.trans p184;replace Fg:=Fg.step p183
 exact hK33 _ _ ⟨l_2,(IntKind.wrap .i64 (leaf_1+1)),Ag,Cg,k_g59,o_g59,_,rfl,Frm.of ⟨rfl,rfl,trivial⟩,ch41,hs182,Fg,(inK_wrap .i64 _),jnE2 hsf32 hm⟩
 refine Wp_exit<|Wb ?_
 obtain⟨hs185,p186⟩:=hs37.sub (bs':=[(k_g28,o_g28)]) (.cons_cons _ (.cons _ List.Sublist.slnil))
 clear Fa Fb Fc Fd
 clear hs37
 refine Wa<|Mve (Sl Af l_1 Cf) rfl<|Asg (Sl Af l_1 Cf) rfl<|Asg (Iv 0) rfl<|Ri2<|Wp_ret ?_
 replace Ff:=Ff.step p186
 obtain⟨hs188,p189,f187⟩:=Gs.publish (i:=0) hs185 rfl Ff
 clear hs185
 have hz:=step_all hs188
 refine⟨_,Clo,[Sl Af l_1 Cf,Iv 0],⟨rfl,rfl,trivial⟩,hs188.ext,?_⟩
 replace f187:=f187.step hz
 exact Vr.eq (a:=vT2 (vC (rSl rXPlace)) (vI .i64)) (x:=(l_1,0)) (mkT2 (mkC (mk_sl f187)) ⟨rfl,(show InK .i64 0 from by decide)⟩) (oi hm)

abbrev q58_0:List Nat:=[4,5,6,7,14,15,16,17,18,19,20,21,22,23,24,25,26,27,28,29,30,31,32,33,34,35,36,37,38,39]

def m58_overflightref32_Next_B0 (p:XProblem) (choices:List Int) (sf30:(List Int)→Int→Option ((List Int) × Bool)) (x_1:List Int) (i_1:Int):Option ((List Int) × Bool):=
 bif (decide (0≤i_1)) then
  ck ((0:Int)≤i_1∧i_1<(x_1.length:Int))<|
  ck ((0:Int)≤i_1∧i_1<(x_1.length:Int))<|
  ck ((0:Int)≤i_1∧i_1<((x_1.set i_1.toNat (IntKind.wrap .i64 ((x_1.getD i_1.toNat default)+1))).length:Int))<|
  ck ((0:Int)≤i_1∧i_1<(p.variables.length:Int))<|
  bif (decide (((x_1.set i_1.toNat (IntKind.wrap .i64 ((x_1.getD i_1.toNat default)+1))).getD i_1.toNat default)<(((p.variables.getD i_1.toNat default).choices).length:Int))) then
   some (x_1.set i_1.toNat (IntKind.wrap .i64 ((x_1.getD i_1.toNat default)+1)),true)
  else
   ck ((0:Int)≤i_1∧i_1<((x_1.set i_1.toNat (IntKind.wrap .i64 ((x_1.getD i_1.toNat default)+1))).length:Int))<|
   sf30 ((x_1.set i_1.toNat (IntKind.wrap .i64 ((x_1.getD i_1.toNat default)+1))).set i_1.toNat 0) (IntKind.wrap .i64 (i_1 - 1))
 else
  some (x_1,false)

def m58_overflightref32_Next (p:XProblem) (choices:List Int):Option ((List Int) × Bool):=
 ck ((([]:List Int).length+choices.length)*8≤140737488355328)<|
 loop2 (m58_overflightref32_Next_B0 p choices) 1000000 (([]:List Int)++choices) (IntKind.wrap .i64 (((([]:List Int)++choices).length:Int) - 1))

theorem c58_overflightref32_Next {w:World} {O:List Nat} {p:XProblem} {choices:List Int} {Aa:Option Addr} {Ca:Nat} {Ab:Option Addr} {Cb:Nat} {Ac:Option Addr} {Cc:Nat} {Ad:Option Addr} {Cd:Nat} (hO:∀k∈O,k<w.heap.size) (Fa:SlR rXCell w O Aa Ca p.cells) (Fb:SlR (rSl (rInt .i64)) w O Ab Cb p.capacity) (Fc:SlR rXVariable w O Ac Cc p.variables) (Fd:SlR (rInt .i64) w O Ad Cd choices) {x:(List Int) × Bool} (hm:m58_overflightref32_Next p choices=some x):
 Ok Try.prog 58 [Value.agg [Sl Aa p.cells Ca,Sl Ab p.capacity Cb,Sl Ac p.variables Cc].toArray,Sl Ad choices Cd] w O (vT2 (vC (rSl (rInt .i64))) vB) x:=by
 unfold m58_overflightref32_Next at hm
 refine Fn_of_Wp (n:=41) (xs:=[.tmp 4,.tmp 5]) Try.func58 rfl Try.ntmps58 Try.results58 rfl ?_
 have hs:=St.start hO
 refine Wb<|Wa<|Rop<|op_box (cs:=[Sl Aa p.cells Ca,Sl Ab p.capacity Cb,Sl Ac p.variables Cc]) hs rfl rfl ?_
 intro b1 w2 _ p3 hs4
 refine Asg (Value.slice none 0 0) rfl<|Asg (Bo false) rfl<|Ri2<|Wb<|Wa<|Rop<|op_buildSlice (cs:=[]) (parts:=[]) ty31 ty3 hs4 (by decide) rfl ?_
 intro b6 w7 hx10 p8 hs9
 clear hs4
 refine Mve (Sl Ad choices Cd) rfl ?_
 have f12:=Gs.of_cells (p:=(rInt .i64)) (e:=3) (bl:=b6) (c:=0) (w:=w7) (O:=ks [(some b6,Oc [] 3),(some b1,Oc [Sl Aa p.cells Ca,Sl Ab p.capacity Cb,Sl Ac p.variables Cc] 26)] O) (show Els (rInt .i64) _ _ [] [] from Els.nil) rfl (le_lit rfl)
 obtain⟨hc13,hm⟩:=ck_some hm
 have p17:=(p3.trans p8)
 replace Fd:=Fd.step p17
 obtain⟨ns14,he15,hr16⟩:=Fd.src
 refine Rop (op_append (q:=(rInt .i64)) (i:=0) (xs:=([]:List Int)) (ys:=choices) (news:=ns14) ty31 ty3 rfl (by decide) hs9 rfl rfl f12 rfl hr16 he15 hc13 (by have:=hc13;simp only [maxLen];omega) ?_)
 intro a21 c22 k23 o24 w18 p19 hs20 f25
 clear hs9
 refine Asg (Sl a21 (([]:List Int)++choices) c22) rfl<|Ri2<|Wb<|Wb ?_
 clear Fd
 refine Wa<|Mve (Sl a21 (([]:List Int)++choices) c22) rfl<|Rop<|op_len Try.underlying31 rfl ?_
 have rl26:=inK_lenG f25
 refine Rop<|op_subw rfl rfl<|Asg (Iv (IntKind.wrap .i64 (((([]:List Int)++choices).length:Int) - 1))) rfl<|Ri2<|Wn2<|Wr [] [(2,Pt b1 0),(6,Sl a21 (([]:List Int)++choices) c22),(7,Iv (IntKind.wrap .i64 (((([]:List Int)++choices).length:Int) - 1)))] fun ξ29=>Wp_loopM q58_0 (fun m fr w'=>∃(x_1:List Int) (i_1:Int) (Ae:Option Addr) (Ce:Nat) (k_g27:Option Nat) (o_g27:Obj) (Ebs:Ents),Ebs=[(k_g27,o_g27),(some b1,Oc [Sl Aa p.cells Ca,Sl Ab p.capacity Cb,Sl Ac p.variables Cc] 26)]∧fr [] [(6,Sl Ae x_1 Ce),(7,Iv i_1)]∧hs20.S (ks Ebs O) w'∧St ⟨w,[],[]⟩ O w' Ebs∧Gs (rInt .i64) 3 w' (ks Ebs O) Ae Ce x_1 k_g27 o_g27∧InK .i64 i_1∧loop2 (m58_overflightref32_Next_B0 p choices) m x_1 i_1=some x) 1000000 ⟨([]:List Int)++choices,(IntKind.wrap .i64 (((([]:List Int)++choices).length:Int) - 1)),a21,c22,k23,o24,_,rfl,Frm.of ⟨rfl,rfl,trivial⟩,Step.refl _ _,hs20,f25,(inK_wrap .i64 _),hm⟩ ?_ ?_
 rintro _ _ ⟨_,_,_,_,_,_,_,_,_,_,_,_,_,hm⟩;exact loop2_z hm
 rintro m33 K32 hK32 ρ38 w34 ⟨x_1,i_1,Ae,Ce,k_g27,o_g27,_,rfl,hfr37,hst36,hs35,Fe,Ra,hm⟩
 obtain⟨sf30,hsf31,hm⟩:=loop2_s hm;unfold m58_overflightref32_Next_B0 at hm
 rw [hfr37.eq];clear hfr37
 have ch39:=hst36
 refine Wb<|Wb ?_
 clear f25
 refine Wa<|Mve (Iv i_1) rfl<|Rop<|op_geq rfl rfl<|Ri2<|Wo2 hm rfl (fun hc40 hm=>?_) (fun hc40 hm=>?_)
 refine Ws2<|Wb<|Wn2<|Wb<|Wa<|Mve (Sl Ae x_1 Ce) rfl<|Mve (Iv i_1) rfl ?_
 obtain⟨hc41,hm⟩:=ck_some hm
 refine Rop<|op_indexAddrG ty31 ty3 rfl rfl Fe hc41 ?_
 rintro b42 rfl rfl
 refine Rop<|op_loadG (m:=i_1) (i:=0) ty3 rfl hs35 rfl rfl Fe hc41 ?_
 intro v43 h44
 obtain⟨rfl,Rb⟩:=un_int h44
 refine Rop<|op_addw rfl rfl ?_
 obtain⟨hc46,hm⟩:=ck_some hm
 refine Rop<|op_indexAddrG ty31 ty3 rfl rfl Fe hc46 ?_
 rintro _ ⟨⟩ -
 refine Rg_op_<|op_storeG (vs:=[Iv (IntKind.wrap .i64 ((x_1.getD i_1.toNat default)+1))]) (i:=0) (m:=i_1) ty3 rfl hs35 rfl rfl rfl rfl Fe hc46 (mk_int (inK_wrap .i64 _)) ?_
 intro w48 o51 p49 hs50 f52
 clear hs35
 refine Ri2<|Wb<|Wb<|Wp_drawR (g0:=[]) (m:=11) (fl:=[]) (TS_inv hs50) rfl (.inl rfl) rfl (by decide+kernel) ?_  -- 6
 refine Dw_eq (Sl (some ⟨b42,0,none⟩) (x_1.set i_1.toNat (IntKind.wrap .i64 ((x_1.getD i_1.toNat default)+1))) Ce) (fun ρ53 w54 g hle hi ht=>?_) ?_
 refine Sj2 (ok2 (v:=Sl (some ⟨b42,0,none⟩) (x_1.set i_1.toNat (IntKind.wrap .i64 ((x_1.getD i_1.toNat default)+1))) Ce) (eqlen (ht 6 rfl) (show x_1.length=(x_1.set i_1.toNat (IntKind.wrap .i64 ((x_1.getD i_1.toNat default)+1))).length from by first |(simp;done) |(simp;omega))) ?_)
 exact Gz hi
 refine Dw_p (Iv i_1) (fun _ _ _ hi ht=>ok2 (v:=Iv i_1) (ht 7 rfl)<|Gz hi) ?_
 obtain⟨hc62,hm⟩:=ck_some hm
 refine Dw_eq (Value.pointer (some ⟨b42,i_1.toNat*1,none⟩)) (fun ρ59 w60 g hle hi ht=>?_) ?_
 obtain⟨-,hst,-⟩:=hle
 replace f52:=f52.step hst
 refine Sj2<|op_indexAddrG ty31 ty3 (ht 24 rfl) (ht 25 rfl) f52 hc62 ?_
 rintro _ ⟨⟩ -
 exact Gz hi
 refine Dw_op (VD _ _ (vI .i64) ((x_1.set i_1.toNat (IntKind.wrap .i64 ((x_1.getD i_1.toNat default)+1))).getD i_1.toNat default)) (VD.stab _ _) (fun ρ64 w65 g hle hi ht=>?_) ?_
 obtain⟨-,hst,-⟩:=hle
 replace f52:=f52.step hst
 have hsn:=(Step.nx hi).1
 refine Sj2<|op_loadG (m:=i_1) (i:=0) ty3 rfl hsn rfl (ht 26 rfl) f52 hc62 ?_
 intro v67 h68
 obtain⟨rfl,Rc⟩:=un_int h68
 exact Goes.same hi (show Vr.vd (vI .i64) _ _ _ _ from⟨rfl,Rc⟩)
 refine Dw_p (Pt b1 2) (fun _ _ _ hi ht=>op2 2 ty26 rfl ty24 (ht 2 rfl) rfl<|Gz hi)<|Dw_p (Sl Ac p.variables Cc) (fun _ _ _ hi ht=>oq2 1 ty24 (Step.nx hi).1 (ht 28 rfl) rfl rfl<|Gz hi)<|Dw_p (Iv i_1) (fun _ _ _ hi ht=>ok2 (v:=Iv i_1) (ht 7 rfl)<|Gz hi) ?_
 obtain⟨hc82,hm⟩:=ck_some hm
 have p85:=(p17.trans (p19.trans (hst36.trans p49)))
 replace Fc:=Fc.step p85
 refine Dw_op (VP _ _ rXVariable (p.variables.getD i_1.toNat default)) (VP.stab _ _) (fun ρ79 w80 g hle hi ht=>?_) ?_
 obtain⟨-,hst,-⟩:=hle
 replace Fc:=Fc.step hst
 refine Sj2<|om2 (q:=rXVariable) ty24 ty61 (ht 29 rfl) (ht 30 rfl) Fc rfl hc82.1 hc82.2 ?_
 intro p83 f84
 exact Goes.same hi ⟨_,rfl,f84⟩
 refine Dw_op (VP _ _ (rSl rXChoice) ((p.variables.getD i_1.toNat default).choices)) (VP.stab _ _) (fun ρ86 w87 g hle hi ht=>?_) ?_
 obtain⟨p89,q90,f91⟩:=ht 31 rfl
 refine Sj2<|op_fieldAddr ty61 rfl ty59 (by decide) q90 rfl ?_
 have f92:=f91.via.snd.snd.snd
 exact Goes.same hi ⟨_,rfl,f92⟩
 refine Dw_op (VD _ _ (vC (rSl rXChoice)) ((p.variables.getD i_1.toNat default).choices)) (VD.stab _ _) (fun ρ93 w94 g hle hi ht=>?_) ?_
 obtain⟨p96,q97,f98⟩:=ht 32 rfl
 refine Sj2<|ot2 ty59 q97 f98 rfl ?_
 intro v99 h100
 obtain⟨Af,Cf,rfl,Ff⟩:=un_sl h100
 exact Goes.same hi (show Vr.vd (vC (rSl rXChoice)) _ _ _ _ from(mkC (mk_sl Ff)))
 refine Dw_op (VD _ _ (vI .i64) (((p.variables.getD i_1.toNat default).choices).length:Int)) (VD.stab _ _) (fun ρ102 w103 g hle hi ht=>?_) ?_
 have h105:Vr.vd (vC (rSl rXChoice)) _ _ _ _:=ht 33 rfl
 obtain⟨Ag,Cg,q106,Fg⟩:=un_sl h105
 exact Sj2<|op_len Try.underlying59 q106<|Goes.same hi (show Vr.vd (vI .i64) _ _ _ _ from⟨rfl,inK_len Fg⟩)
 refine Dw_nil fun w112 g113 hl114 hi115=>?_
 obtain⟨-,hst116,-⟩:=hl114
 obtain⟨hs118,p117⟩:=Step.nx hi115
 rintro v119 h120
 replace h120:Vr.vd (vI .i64) _ _ _ _:=h120
 obtain⟨rfl,Rd⟩:=h120
 rintro v122 h123
 replace h123:Vr.vd (vC (rSl rXChoice)) _ _ _ _:=h123
 obtain⟨Ah,Ch,rfl,Fh⟩:=un_sl h123
 rintro _ ⟨p125,rfl,f126⟩ _ ⟨p127,rfl,f128⟩ _ rfl _ rfl _ rfl v129 h130
 replace h130:Vr.vd (vI .i64) _ _ _ _:=h130
 obtain⟨rfl,Re⟩:=h130
 rintro _ rfl _ rfl _ rfl
 have p132:=hs50.to hs118 (hst116.trans p117)
 replace Fh:=Fh.step p117;replace f126:=f126.step p117;replace f128:=f128.step p117;clear hs50
 refine Rop<|op_lss rfl rfl<|Ri2<|Wo2 hm rfl (fun hc133 hm=>?_) (fun hc133 hm=>?_)
 refine Wb ?_
 clear Fh f126 f128
 refine Wa ?_
 refine Rop (ok2 (v:=Sl (some ⟨b42,0,none⟩) (x_1.set i_1.toNat (IntKind.wrap .i64 ((x_1.getD i_1.toNat default)+1))) Ce) (eqlen rfl (show x_1.length=(x_1.set i_1.toNat (IntKind.wrap .i64 ((x_1.getD i_1.toNat default)+1))).length from by first |(simp;done) |(simp;omega))) ?_)
 refine Asg (Sl (some ⟨b42,0,none⟩) (x_1.set i_1.toNat (IntKind.wrap .i64 ((x_1.getD i_1.toNat default)+1))) Ce) rfl<|Asg (Bo true) rfl<|Ri2<|Wp_ret ?_
 replace f52:=f52.step p132
 obtain⟨hs135,p136,f134⟩:=Gs.publish (i:=0) hs118 rfl f52
 clear hs118
 have hz:=step_all hs135
 refine⟨_,Clo,[Sl (some ⟨b42,0,none⟩) (x_1.set i_1.toNat (IntKind.wrap .i64 ((x_1.getD i_1.toNat default)+1))) Ce,Bo true],⟨rfl,rfl,trivial⟩,hs135.ext,?_⟩
 replace f134:=f134.step hz
 exact Vr.eq (a:=vT2 (vC (rSl (rInt .i64))) vB) (x:=(x_1.set i_1.toNat (IntKind.wrap .i64 ((x_1.getD i_1.toNat default)+1)),true)) (mkT2 (mkC (mk_sl f134)) rfl) (oi hm)
 refine Ws2 ?_
 clear Fh f126 f128
 refine Wa ?_
 refine Rop (ok2 (v:=Sl (some ⟨b42,0,none⟩) (x_1.set i_1.toNat (IntKind.wrap .i64 ((x_1.getD i_1.toNat default)+1))) Ce) (eqlen rfl (show x_1.length=(x_1.set i_1.toNat (IntKind.wrap .i64 ((x_1.getD i_1.toNat default)+1))).length from by first |(simp;done) |(simp;omega))) ?_)
 refine Mve (Iv i_1) rfl ?_
 obtain⟨hc137,hm⟩:=ck_some hm
 replace f52:=f52.step p132
 refine Rop<|op_indexAddrG ty31 ty3 rfl rfl f52 hc137 ?_
 rintro _ ⟨⟩ -
 refine Rg_op_<|op_storeG (vs:=[Iv 0]) (i:=0) (m:=i_1) ty3 rfl hs118 rfl rfl rfl rfl f52 hc137 (mk_int (show InK .i64 0 from by decide)) ?_
 intro w139 o142 p140 hs141 f143
 clear hs118
 refine Ri2<|Wa<|Mve (Iv i_1) rfl<|Rop<|op_subw rfl rfl<|Asg (Iv (IntKind.wrap .i64 (i_1 - 1))) rfl<|Ri2 ?_
 replace ch39:=ch39.trans (p49.trans (p132.trans p140))
 exact hK32 _ _ ⟨(x_1.set i_1.toNat (IntKind.wrap .i64 ((x_1.getD i_1.toNat default)+1))).set i_1.toNat 0,(IntKind.wrap .i64 (i_1 - 1)),some ⟨b42,0,none⟩,Ce,some b42,o142,_,rfl,Frm.of ⟨eqlenV (show x_1.length=((x_1.set i_1.toNat (IntKind.wrap .i64 ((x_1.getD i_1.toNat default)+1))).set i_1.toNat 0).length from by first |(simp;done) |(simp;omega)),rfl,trivial⟩,ch39,hs141,f143,(inK_wrap .i64 _),jnE2 hsf31 hm⟩
 refine Wp_exit<|Wb ?_
 obtain⟨hs144,p145⟩:=hs35.sub (bs':=[(k_g27,o_g27)]) (.cons_cons _ (.cons _ List.Sublist.slnil))
 clear Fa Fb Fc
 clear hs35
 refine Wa<|Mve (Sl Ae x_1 Ce) rfl<|Asg (Sl Ae x_1 Ce) rfl<|Asg (Bo false) rfl<|Ri2<|Wp_ret ?_
 replace Fe:=Fe.step p145
 obtain⟨hs147,p148,f146⟩:=Gs.publish (i:=0) hs144 rfl Fe
 clear hs144
 have hz:=step_all hs147
 refine⟨_,Clo,[Sl Ae x_1 Ce,Bo false],⟨rfl,rfl,trivial⟩,hs147.ext,?_⟩
 replace f146:=f146.step hz
 exact Vr.eq (a:=vT2 (vC (rSl (rInt .i64))) vB) (x:=(x_1,false)) (mkT2 (mkC (mk_sl f146)) rfl) (oi hm)

def m63_overflightref32_Before (a:XPlace) (b:XPlace):Option Bool:=
 bif (decide (a.leaf<b.leaf)) then
  some true
 else
  bif (decide (a.leaf=b.leaf)) then
   some (decide (a.cell<b.cell))
  else
   some false

theorem c63_overflightref32_Before {w:World} {O:List Nat} {a:XPlace} {b:XPlace} (hO:∀k∈O,k<w.heap.size) (Ra:InK .i64 a.leaf) (Rb:InK .i64 a.cell) (Rc:InK .i64 b.leaf) (Rd:InK .i64 b.cell) {x:Bool} (hm:m63_overflightref32_Before a b=some x):
 Ok Try.prog 63 [Value.agg [Iv a.leaf,Iv a.cell].toArray,Value.agg [Iv b.leaf,Iv b.cell].toArray] w O vB x:=by
 unfold m63_overflightref32_Before at hm
 refine Fn_of_Wp (n:=24) (xs:=[.tmp 4]) Try.func63 rfl Try.ntmps63 Try.results63 rfl ?_
 have hs:=St.start hO
 refine Wb<|Wa<|Rop<|op_box (cs:=[Iv a.leaf,Iv a.cell]) hs rfl rfl ?_
 intro b1 w2 _ p3 hs4
 refine Rop<|op_box (cs:=[Iv b.leaf,Iv b.cell]) hs4 rfl rfl ?_
 intro b6 w7 _ p8 hs9
 clear hs4
 refine Asg (Bo false) rfl<|Ri2<|Wb<|Wa<|Rop<|op2 0 ty45 rfl ty3 rfl rfl<|Rop<|oq2 1 ty3 hs9 rfl rfl rfl<|Rop<|op2 0 ty45 rfl ty3 rfl rfl<|Rop<|oq2 0 ty3 hs9 rfl rfl rfl<|Rop<|op_lss rfl rfl<|Mve (Bo (decide (a.leaf<b.leaf))) rfl<|Rg_caseM hm (fun hg11 hm=>?_) (fun hg11 hm=>?_)
 iterate 12 refine Rl2 rfl (asB_ne rfl rfl) rfl ?_
 refine Pkt (Bo true) rfl rfl<|Asg (Bo true) rfl<|Ri2<|Wp_ret<|⟨_,Clo,[Bo true],⟨rfl,trivial⟩,hs9.ext,?_⟩
 exact Vr.eq (a:=vB) (x:=true) rfl (oi hm)
 refine Rog rfl rfl<|op2 0 ty45 rfl ty3 rfl rfl<|Rog rfl rfl<|oq2 1 ty3 hs9 rfl rfl rfl<|Rog rfl rfl<|op2 0 ty45 rfl ty3 rfl rfl<|Rog rfl rfl<|oq2 0 ty3 hs9 rfl rfl rfl<|Rog rfl rfl<|op_eql rfl rfl<|Rog rfl rfl<|ok2 (v:=Bo (decide (a.leaf=b.leaf))) rfl<|Rg_caseM hm (fun hg12 hm=>?_) (fun hg12 hm=>?_)
 refine Rog rfl rfl<|op2 1 ty45 rfl ty3 rfl rfl<|Rog rfl rfl<|oq2 1 ty3 hs9 rfl rfl rfl<|Rog rfl rfl<|op2 1 ty45 rfl ty3 rfl rfl<|Rog rfl rfl<|oq2 0 ty3 hs9 rfl rfl rfl<|Rog rfl rfl<|op_lss rfl rfl<|Rog rfl rfl<|op_pick_t (v:=Bo (decide (a.cell<b.cell))) rfl rfl<|Pkf (Bo (decide (a.cell<b.cell))) rfl rfl<|Asg (Bo (decide (a.cell<b.cell))) rfl<|Ri2<|Wp_ret<|⟨_,Clo,[Bo (decide (a.cell<b.cell))],⟨rfl,trivial⟩,hs9.ext,?_⟩
 exact Vr.eq (a:=vB) (x:=decide (a.cell<b.cell)) rfl (oi hm)
 iterate 5 refine Rl2 rfl (asB_ne rfl rfl) rfl ?_
 refine Rog rfl rfl<|op_pick_f (v:=Bo false) rfl rfl<|Pkf (Bo false) rfl rfl<|Asg (Bo false) rfl<|Ri2<|Wp_ret<|⟨_,Clo,[Bo false],⟨rfl,trivial⟩,hs9.ext,?_⟩
 exact Vr.eq (a:=vB) (x:=false) rfl (oi hm)

abbrev q32_0:List Nat:=[27,28,29,30,31,32,33,34,35,36,37,38,39,40,41]

abbrev q32_2:List Nat:=[44,45,46,47,48,49,50,51,52,53,54,55,56,57,58]

abbrev q32_1:List Nat:=[9,27,28,29,30,31,32,33,34,35,36,37,38,39,40,41,42,43]

abbrev q32_3:List Nat:=[3,9,27,28,29,30,31,32,33,34,35,36,37,38,39,40,41,42,43,44,45,46,47,48,49,50,51,52,53,54,55,56,57,58,59,60,61,62,63,64,65,66,67,68,69,70,71,72,73]

abbrev q32_4:List Nat:=[3,8,9,21,22,23,24,25,26,27,28,29,30,31,32,33,34,35,36,37,38,39,40,41,42,43,44,45,46,47,48,49,50,51,52,53,54,55,56,57,58,59,60,61,62,63,64,65,66,67,68,69,70,71,72,73]

abbrev q32_5:List Nat:=[3,4,5,6,7,8,9,14,15,16,17,18,19,20,21,22,23,24,25,26,27,28,29,30,31,32,33,34,35,36,37,38,39,40,41,42,43,44,45,46,47,48,49,50,51,52,53,54,55,56,57,58,59,60,61,62,63,64,65,66,67,68,69,70,71,72,73,74,75,76,77,78,79]

def m32_overflightref32_Relevant_B2 (overloads_1:(List XPlace) × Int) (l_2:List XPlace) (i_1:Int) (k80:Int→Option (List XPlace)) (sf333:Int→Option (List XPlace)) (at_2:Int):Option (List XPlace):=
 jn (fun(v_2:Bool)=>
  bif v_2 then
   sf333 (IntKind.wrap .i64 (at_2+1))
  else
   k80 at_2)
 (fun k345=>
  bif (decide (at_2<(l_2.length:Int))) then
   ck ((0:Int)≤at_2∧at_2<(l_2.length:Int))<|
   ck ((0:Int)≤i_1∧i_1<(overloads_1.1.length:Int))<|
   (m63_overflightref32_Before (l_2.getD at_2.toNat default) (overloads_1.1.getD i_1.toNat default)).bind fun before_1=>
   k345 before_1
  else
   k345 false)

def m32_overflightref32_Relevant_B1 (p:XProblem) (choices_1:List Int) (sf20:(List XPlace)→(List Int)→Bool→Option (List XPlace)) (overloads_1:(List XPlace) × Int) (sf54:(List XPlace)→Int→Option (List XPlace)) (l_2:List XPlace) (i_1:Int):Option (List XPlace):=
 bif (decide (i_1<(overloads_1.1.length:Int))) then
  jn (fun(l_3:List XPlace)=>
   sf54 l_3 (IntKind.wrap .i64 (i_1+1)))
  (fun k69=>
   jn (fun(at_1:Int)=>
    jn (fun(v_1:Bool)=>
     bif v_1 then
      ck ((0:Int)≤at_1∧at_1≤(l_2.length:Int))<|
      ck ((([]:List XPlace).length+((l_2.drop 0).take (at_1.toNat - 0)).length)*16≤140737488355328)<|
      ck ((0:Int)≤i_1∧i_1<(overloads_1.1.length:Int))<|
      ck (((([]:List XPlace)++((l_2.drop 0).take (at_1.toNat - 0))).length+[overloads_1.1.getD i_1.toNat default].length)*16≤140737488355328)<|
      ck ((0:Int)≤at_1∧at_1≤(l_2.length:Int))<|
      ck ((((([]:List XPlace)++((l_2.drop 0).take (at_1.toNat - 0)))++[overloads_1.1.getD i_1.toNat default]).length+((l_2.drop at_1.toNat).take (l_2.length - at_1.toNat)).length)*16≤140737488355328)<|
      k69 (((([]:List XPlace)++((l_2.drop 0).take (at_1.toNat - 0)))++[overloads_1.1.getD i_1.toNat default])++((l_2.drop at_1.toNat).take (l_2.length - at_1.toNat)))
     else
      k69 l_2)
    (fun k90=>
     bif (decide (at_1=(l_2.length:Int))) then
      k90 true
     else
      ck ((0:Int)≤at_1∧at_1<(l_2.length:Int))<|
      ck ((0:Int)≤i_1∧i_1<(overloads_1.1.length:Int))<|
      k90 (!(decide ((l_2.getD at_1.toNat default)=(overloads_1.1.getD i_1.toNat default))))))
   (fun k80=>
    loop1 (m32_overflightref32_Relevant_B2 overloads_1 l_2 i_1 k80) 1000000 0))
 else
  (m58_overflightref32_Next p choices_1).bind fun next_1=>
  sf20 l_2 next_1.1 next_1.2

def m32_overflightref32_Relevant_B0 (p:XProblem) (sf20:(List XPlace)→(List Int)→Bool→Option (List XPlace)) (l_1:List XPlace) (choices_1:List Int) (more_1:Bool):Option (List XPlace):=
 bif more_1 then
  (m57_overflightref27_Overloads p choices_1).bind fun overloads_1=>
  loop2 (m32_overflightref32_Relevant_B1 p choices_1 sf20 overloads_1) (((overloads_1.1.length:Int) - 0).toNat+1) l_1 0
 else
  some l_1

def m32_overflightref32_Relevant (p:XProblem):Option (List XPlace):=
 ck ((0:Int)≤(p.variables.length:Int)∧(p.variables.length:Int)≤(p.variables.length:Int)∧(8:Int)*(p.variables.length:Int)≤281474976710656∧(p.variables.length:Int)≤281474976710656)<|
 loop3 (m32_overflightref32_Relevant_B0 p) 1000000 ([]:List XPlace) (List.replicate p.variables.length (0:Int)) true

theorem g32_overflightref32_Relevant {w:World} {O:List Nat} {p:XProblem} {Aa:Option Addr} {Ca:Nat} {Ab:Option Addr} {Cb:Nat} {Ac:Option Addr} {Cc:Nat} (hO:∀k∈O,k<w.heap.size) (Fa:SlR rXCell w O Aa Ca p.cells) (Fb:SlR (rSl (rInt .i64)) w O Ab Cb p.capacity) (Fc:SlR rXVariable w O Ac Cc p.variables) {x:(List XPlace)} (hm:m32_overflightref32_Relevant p=some x):
 OkG Try.prog 32 [Value.agg [Sl Aa p.cells Ca,Sl Ab p.capacity Cb,Sl Ac p.variables Cc].toArray] w O rXPlace 45 x:=by
 unfold m32_overflightref32_Relevant at hm
 refine Fn_of_Wp (n:=81) (xs:=[.tmp 2]) Try.func32 rfl Try.ntmps32 Try.results32 rfl ?_
 have hs:=St.start hO
 refine Wb<|Wa<|Rop<|op_box (cs:=[Sl Aa p.cells Ca,Sl Ab p.capacity Cb,Sl Ac p.variables Cc]) hs rfl rfl ?_
 intro b1 w2 _ p3 hs4
 refine Asg (Value.slice none 0 0) rfl<|Ri2<|Wb<|Wa<|Asg (Value.slice none 0 0) rfl<|Ri2<|Wb<|Wa<|Rop<|op2 2 ty26 rfl ty24 rfl rfl<|Rop<|oq2 0 ty24 hs4 rfl rfl rfl<|Rop<|op_len Try.underlying24 rfl ?_
 replace Fc:=Fc.step p3
 have rl6:=inK_len Fc
 obtain⟨hc7,hm⟩:=ck_some hm
 refine Rop<|op_makeSliceI (q:=(rInt .i64)) (v:=Iv 0) (x0:=(0:Int)) ty31 ty3 hs4 rfl rfl hc7 rfl (fun _ _=>(mk_int (show InK .i64 0 from by decide))) ?_
 intro b8 w9 hx13 p10 hs11 f12
 clear hs4
 refine Asg (Sl (some ⟨b8,0,none⟩) (List.replicate p.variables.length (0:Int)) p.variables.length) rfl<|Ri2<|Wb<|Wa<|Asg (Bo true) rfl<|Ri2<|Wb<|Wn2<|Wr [] [(1,Pt b1 0),(3,Value.slice none 0 0),(4,Sl (some ⟨b8,0,none⟩) (List.replicate p.variables.length (0:Int)) p.variables.length),(5,Bo true)] fun ξ19=>?_
 obtain⟨hs25,p26,f24⟩:=Gs.publish (i:=0) hs11 rfl f12
 clear hs11
 have hs27:=hs25.ghost (Obj.cells #[] 45)
 refine Wp_loopM q32_5 (fun m fr w'=>∃(l_1:List XPlace) (choices_1:List Int) (more_1:Bool) (Ad:Option Addr) (Cd:Nat) (k_g16:Option Nat) (o_g16:Obj) (Ae:Option Addr) (Ce:Nat) (Ebs:Ents),Ebs=[(k_g16,o_g16),(some b1,Oc [Sl Aa p.cells Ca,Sl Ab p.capacity Cb,Sl Ac p.variables Cc] 26)]∧fr [] [(3,Sl Ad l_1 Cd),(4,Sl Ae choices_1 Ce),(5,Bo more_1)]∧hs27.S (ks Ebs O) w'∧St ⟨w,[],[]⟩ O w' Ebs∧Gs rXPlace 45 w' (ks Ebs O) Ad Cd l_1 k_g16 o_g16∧SlR (rInt .i64) w' (ks Ebs O) Ae Ce choices_1∧loop3 (m32_overflightref32_Relevant_B0 p) m l_1 choices_1 more_1=some x) 1000000 ⟨([]:List XPlace),List.replicate p.variables.length (0:Int),true,none,0,none,Obj.cells #[] 45,some ⟨b8,0,none⟩,p.variables.length,_,rfl,Frm.of ⟨rfl,rfl,rfl,trivial⟩,Step.refl _ _,hs27,Gs.nil_,f24,hm⟩ ?_ ?_
 rintro _ _ ⟨_,_,_,_,_,_,_,_,_,_,_,_,_,_,_,_,hm⟩;exact loop3_z hm
 rintro m23 K22 hK22 ρ33 w29 ⟨l_1,choices_1,more_1,Ad,Cd,k_g16,o_g16,Ae,Ce,_,rfl,hfr32,hst31,hs30,Fd,Fe,hm⟩
 obtain⟨sf20,hsf21,hm⟩:=loop3_s hm;unfold m32_overflightref32_Relevant_B0 at hm
 rw [hfr32.eq];clear hfr32
 have ch34:=hst31
 refine Wb<|Wb ?_
 clear f24
 refine Wa<|Mve (Bo more_1) rfl<|Ri2<|Wo2 hm rfl (fun hc35 hm=>?_) (fun hc35 hm=>?_)
 refine Ws2<|Wn2<|Wb<|Wa<|Rop<|op_ldA 1 ty26 hs30 rfl rfl rfl<|Mve (Sl Ae choices_1 Ce) rfl ?_
 obtain⟨overloads_1,hv36,hm⟩:=bd hm
 have p42:=(p3.trans (p10.trans (p26.trans hst31)))
 replace Fb:=Fb.step p42;replace Fa:=Fa.step p42
 replace Fc:=Fc.step (p10.trans (p26.trans hst31))
 refine Rop<|op_callE hs30 Try.call57 (c57_overflightref27_Overloads (p:=p) (choices:=choices_1) hs30.ltw Fa Fb Fc Fe hv36) rfl ?_
 rintro v37 w38 p43 hs41 h40
 clear hs30
 obtain⟨v44,v45,rfl,h46,h47⟩:=h40
 obtain⟨Af,Cf,rfl,Ff⟩:=un_sl h46
 obtain⟨rfl,Ra⟩:=h47
 refine Mve (Value.tuple [Sl Af overloads_1.1 Cf,Iv overloads_1.2].toArray) rfl<|Rop<|op_extract (v:=Sl Af overloads_1.1 Cf) rfl rfl<|Rop<|op_extract (v:=Iv overloads_1.2) rfl rfl<|Asg (Sl Af overloads_1.1 Cf) rfl<|Asg (Iv overloads_1.2) rfl<|Ri2<|Wb<|Wb<|Wa<|Asg (Iv 0) rfl<|Ri2<|Wn2<|Wr2 q32_5 [] (updL ⟨ξ19,[]⟩ [(1,Pt b1 0),(3,Value.slice none 0 0),(4,Sl (some ⟨b8,0,none⟩) (List.replicate p.variables.length (0:Int)) p.variables.length),(5,Bo true)]) [(3,Sl Ad l_1 Cd),(4,Sl Ae choices_1 Ce),(6,Sl Af overloads_1.1 Cf),(8,Iv 0)] fun ξ53=>?_
 replace Fd:=Fd.step p43
 refine Wp_loopM q32_4 (fun m fr w'=>∃(l_2:List XPlace) (i_1:Int) (Ag:Option Addr) (Cg:Nat) (k_g51:Option Nat) (o_g51:Obj) (Ebs:Ents),Ebs=[(k_g51,o_g51),(some b1,Oc [Sl Aa p.cells Ca,Sl Ab p.capacity Cb,Sl Ac p.variables Cc] 26)]∧fr [] [(3,Sl Ag l_2 Cg),(8,Iv i_1)]∧hs41.S (ks Ebs O) w'∧St ⟨w,[],[]⟩ O w' Ebs∧Gs rXPlace 45 w' (ks Ebs O) Ag Cg l_2 k_g51 o_g51∧InK .i64 i_1∧loop2 (m32_overflightref32_Relevant_B1 p choices_1 sf20 overloads_1) m l_2 i_1=some x) (((overloads_1.1.length:Int) - 0).toNat+1) ⟨l_1,0,Ad,Cd,k_g16,o_g16,_,rfl,Frm.of ⟨rfl,rfl,trivial⟩,Step.refl _ _,hs41,Fd,(show InK .i64 0 from by decide),hm⟩ ?_ ?_
 rintro _ _ ⟨_,_,_,_,_,_,_,_,_,_,_,_,_,hm⟩;exact loop2_z hm
 rintro m57 K56 hK56 ρ62 w58 ⟨l_2,i_1,Ag,Cg,k_g51,o_g51,_,rfl,hfr61,hst60,hs59,Fg,Rb,hm⟩
 obtain⟨sf54,hsf55,hm⟩:=loop2_s hm;unfold m32_overflightref32_Relevant_B1 at hm
 rw [hfr61.eq];clear hfr61
 have ch63:=hst60
 refine Wb<|Wb ?_
 clear Fd
 refine Wa<|Mve (Iv i_1) rfl<|Mve (Sl Af overloads_1.1 Cf) rfl<|Rop<|op_len Try.underlying32 rfl ?_
 replace Ff:=Ff.step hst60
 have rl64:=inK_len Ff
 refine Rop<|op_lss rfl rfl<|Ri2<|Wo2 hm rfl (fun hc65 hm=>?_) (fun hc65 hm=>?_)
 refine Ws2<|Wr2 q32_4 [] (updL (mix q32_5 [] ξ53 (updL ⟨ξ19,[]⟩ [(1,Pt b1 0),(3,Value.slice none 0 0),(4,Sl (some ⟨b8,0,none⟩) (List.replicate p.variables.length (0:Int)) p.variables.length),(5,Bo true)])) [(3,Sl Ad l_1 Cd),(4,Sl Ae choices_1 Ce),(6,Sl Af overloads_1.1 Cf),(8,Iv 0)]) [(3,Sl Ag l_2 Cg),(8,Iv i_1)] fun ξ66=>?_
 obtain⟨k69,hk70,hm⟩:=jn_elim hm
 refine Wp_seqJ q32_3 (fun fr w'=>∃(l_3:List XPlace) (Ah:Option Addr) (Ch:Nat) (k_g68:Option Nat) (o_g68:Obj) (Ebs:Ents),Ebs=[(k_g68,o_g68),(some b1,Oc [Sl Aa p.cells Ca,Sl Ab p.capacity Cb,Sl Ac p.variables Cc] 26)]∧fr [] [(3,Sl Ah l_3 Ch)]∧hs59.S (ks Ebs O) w'∧St ⟨w,[],[]⟩ O w' Ebs∧Gs rXPlace 45 w' (ks Ebs O) Ah Ch l_3 k_g68 o_g68∧k69 l_3=some x) ?_ ?_
 rintro ρ76 w72 ⟨l_3,Ah,Ch,k_g68,o_g68,_,rfl,hfr75,hst74,hs73,Fh,hm⟩
 replace hm:=jnE1 hk70 hm
 rw [hfr75.eq];clear hfr75
 clear Fg
 refine Wa<|Mve (Iv i_1) rfl<|Rop<|op_addw rfl rfl<|Asg (Iv (IntKind.wrap .i64 (i_1+1))) rfl<|Ri2 ?_
 replace ch63:=ch63.trans hst74
 exact hK56 _ _ ⟨l_3,(IntKind.wrap .i64 (i_1+1)),Ah,Ch,k_g68,o_g68,_,rfl,Frm.of ⟨rfl,rfl,trivial⟩,ch63,hs73,Fh,(inK_wrap .i64 _),jnE2 hsf55 hm⟩
 intro K71 hK71
 have ch77:=hs59.stepR
 refine Wn2<|Wb<|Wa<|Asg (Iv 0) rfl<|Ri2<|Wr2 q32_3 [] (updL (mix q32_4 [] ξ66 (updL (mix q32_5 [] ξ53 (updL ⟨ξ19,[]⟩ [(1,Pt b1 0),(3,Value.slice none 0 0),(4,Sl (some ⟨b8,0,none⟩) (List.replicate p.variables.length (0:Int)) p.variables.length),(5,Bo true)])) [(3,Sl Ad l_1 Cd),(4,Sl Ae choices_1 Ce),(6,Sl Af overloads_1.1 Cf),(8,Iv 0)])) [(3,Sl Ag l_2 Cg),(8,Iv i_1)]) [(3,Sl Ag l_2 Cg),(9,Iv 0)] fun ξ78=>?_
 obtain⟨k80,hk81,hm⟩:=jn_elim hm
 refine Wp_seqJ q32_1 (fun fr w'=>∃(at_1:Int) (Ebs:Ents),Ebs=[(k_g51,o_g51),(some b1,Oc [Sl Aa p.cells Ca,Sl Ab p.capacity Cb,Sl Ac p.variables Cc] 26)]∧fr [] [(9,Iv at_1)]∧hs59.S (ks Ebs O) w'∧St ⟨w,[],[]⟩ O w' Ebs∧InK .i64 at_1∧k80 at_1=some x) ?_ ?_
 rintro ρ87 w83 ⟨at_1,_,rfl,hfr86,hst85,hs84,Rc,hm⟩
 replace hm:=jnE1 hk81 hm
 rw [hfr86.eq];clear hfr86
 refine Wr2 q32_3 [] (updL (mix q32_4 [] ξ66 (updL (mix q32_5 [] ξ53 (updL ⟨ξ19,[]⟩ [(1,Pt b1 0),(3,Value.slice none 0 0),(4,Sl (some ⟨b8,0,none⟩) (List.replicate p.variables.length (0:Int)) p.variables.length),(5,Bo true)])) [(3,Sl Ad l_1 Cd),(4,Sl Ae choices_1 Ce),(6,Sl Af overloads_1.1 Cf),(8,Iv 0)])) [(3,Sl Ag l_2 Cg),(8,Iv i_1)]) [(3,Sl Ag l_2 Cg),(9,Iv at_1)] fun ξ88=>?_
 obtain⟨k90,hk91,hm⟩:=jn_elim hm
 refine Wp_seqJ q32_2 (fun fr w'=>∃(v_1:Bool) (Ebs:Ents),Ebs=[(k_g51,o_g51),(some b1,Oc [Sl Aa p.cells Ca,Sl Ab p.capacity Cb,Sl Ac p.variables Cc] 26)]∧fr [] [(58,Bo v_1)]∧hs84.S (ks Ebs O) w'∧St ⟨w,[],[]⟩ O w' Ebs∧k90 v_1=some x) ?_ ?_
 rintro ρ97 w93 ⟨v_1,_,rfl,hfr96,hst95,hs94,hm⟩
 replace hm:=jnE1 hk91 hm
 rw [hfr96.eq];clear hfr96
 refine Wo2 hm rfl (fun hc98 hm=>?_) (fun hc98 hm=>?_)
 have p102:=(hst85.trans hst95)
 replace Fg:=Fg.step p102
 obtain⟨hs100,p101,f99⟩:=Gs.publish (i:=0) hs94 rfl Fg
 clear hs94
 refine Wp_drawR (g0:=([],[])) (m:=14) (fl:=[]) (TX_inv (eat:=(fun t:Nat=>if t=0 then 4 else if t=4 then 10 else 1000)) hs100) rfl (.inl rfl) rfl (by decide+kernel) ?_  -- 13
 refine Dw_opN (XG O [(some b1,Oc [Sl Aa p.cells Ca,Sl Ab p.capacity Cb,Sl Ac p.variables Cc] 26)] (fun t:Nat=>if t=0 then 4 else if t=4 then 10 else 1000) 0 rXPlace 45 ([]:List XPlace)) (XG.stab _ _ _ _) (fun ρ103 w104 g hle hi hk ht=>?_) ?_
 obtain⟨hi,hi2⟩:=hi
 refine Sj2 (op_buildSlice (cs:=[]) (parts:=[]) ty32 ty45 hi (by decide) (by simp only [List.map];rfl) ?_)
 intro b106 w107 hx110 p108 hs109
 exact GoesX.own (xs:=([]:List XPlace)) hi2 p108 hs109 (Gs.of_cells (p:=rXPlace) (e:=45) (bl:=b106) (c:=0) (show Els rXPlace _ _ [] [] from Els.nil) rfl (le_lit rfl)) rfl
 refine Dw_eq (Sl Ag l_2 Cg) (fun ρ113 w114 g hle hi ht=>?_) ?_
 obtain⟨hi,hi2⟩:=hi
 exact Sj2<|ok2 (v:=Sl Ag l_2 Cg) (ht 3 rfl)<|GoesX.same hi hi2 rfl
 refine Dw_eq (Iv at_1) (fun ρ116 w117 g hle hi ht=>?_) ?_
 obtain⟨hi,hi2⟩:=hi
 exact Sj2<|ok2 (v:=Iv at_1) (ht 9 rfl)<|GoesX.same hi hi2 rfl
 obtain⟨hc122,hm⟩:=ck_some hm
 refine Dw_op (XD _ _ (vC (rSl rXPlace)) ((l_2.drop 0).take (at_1.toNat - 0))) (XD.stab _ _) (fun ρ119 w120 g hle hi ht=>?_) ?_
 obtain⟨-,hst,-⟩:=hle
 obtain⟨hi,hi2⟩:=hi
 replace f99:=f99.step hst
 refine Sj2 (op_slice (q:=rXPlace) (l:=0) (h:=at_1.toNat) (m:=Cg) ty32 ty45 (ht 60 rfl) f99 rfl rfl (bndI (ht 61 rfl) (by omega)) rfl (by decide) (by omega) (by omega) (by have h_:l_2.length≤Cg:=f99.le;omega) (by have h_:l_2.length≤Cg:=f99.le;omega) ?_)
 intro a123 f124
 exact GoesX.same hi hi2 (show Vr.vd (vC (rSl rXPlace)) _ _ _ _ from(mkC (mk_sl f124)))
 obtain⟨hc131,hm⟩:=ck_some hm
 refine Dw_opN (XG O [(some b1,Oc [Sl Aa p.cells Ca,Sl Ab p.capacity Cb,Sl Ac p.variables Cc] 26)] (fun t:Nat=>if t=0 then 4 else if t=4 then 10 else 1000) 4 rXPlace 45 (([]:List XPlace)++((l_2.drop 0).take (at_1.toNat - 0)))) (XG.stab _ _ _ _) (fun ρ125 w126 g hle hi hk ht=>?_) ?_
 obtain⟨hi,hi2⟩:=hi
 have h128:Vr.vd (vC (rSl rXPlace)) _ _ _ _:=ht 62 rfl
 obtain⟨Ai,Ci,q129,Fi⟩:=un_sl h128
 obtain⟨ns132,he133,hr134⟩:=Fi.src
 refine Sj2 (op_appendX (q:=rXPlace) (xs:=([]:List XPlace)) (ys:=(l_2.drop 0).take (at_1.toNat - 0)) (news:=ns132) (tag:=0) ty32 ty45 rfl (by decide) hi hi2 hk rfl (le_lit rfl) (ht 59 rfl) q129 hr134 he133 hc131 (by have:=hc131;simp only [maxLen];omega))
 refine Dw_eq (Sl Af overloads_1.1 Cf) (fun ρ135 w136 g hle hi ht=>?_) ?_
 obtain⟨hi,hi2⟩:=hi
 exact Sj2<|ok2 (v:=Sl Af overloads_1.1 Cf) (ht 6 rfl)<|GoesX.same hi hi2 rfl
 refine Dw_eq (Iv i_1) (fun ρ138 w139 g hle hi ht=>?_) ?_
 obtain⟨hi,hi2⟩:=hi
 exact Sj2<|ok2 (v:=Iv i_1) (ht 8 rfl)<|GoesX.same hi hi2 rfl
 obtain⟨hc144,hm⟩:=ck_some hm
 have p147:=(p102.trans p101)
 replace Ff:=Ff.step p147
 refine Dw_op (XP _ _ rXPlace (overloads_1.1.getD i_1.toNat default)) (XP.stab _ _) (fun ρ141 w142 g hle hi ht=>?_) ?_
 obtain⟨-,hst,-⟩:=hle
 obtain⟨hi,hi2⟩:=hi
 replace Ff:=Ff.step hst
 refine Sj2<|om2 (q:=rXPlace) ty32 ty45 (ht 64 rfl) (ht 65 rfl) Ff rfl hc144.1 hc144.2 ?_
 intro p145 f146
 exact GoesX.same hi hi2 ⟨_,rfl,f146⟩
 refine Dw_op (XD _ _ (vA rXPlace) (overloads_1.1.getD i_1.toNat default)) (XD.stab _ _) (fun ρ148 w149 g hle hi ht=>?_) ?_
 obtain⟨hi,hi2⟩:=hi
 obtain⟨p151,q152,f153⟩:=ht 66 rfl
 refine Sj2<|op_loadPA ty45 q152 f153 rfl ?_
 intro vs154 h155
 obtain⟨_,_,rfl,⟨rfl,Rd⟩,⟨rfl,Re⟩⟩:=h155
 exact GoesX.same hi hi2 (show Vr.vd (vA rXPlace) _ _ _ _ from(mkA (mkVia (mk_pair (mk_int Rd) (mk_int Re)))))
 refine Dw_op (XD _ _ (vC (rSl rXPlace)) [overloads_1.1.getD i_1.toNat default]) (XD.stab _ _) (fun ρ157 w158 g hle hi ht=>?_) ?_
 obtain⟨hi,hi2⟩:=hi
 have h160:Vr.vd (vA rXPlace) _ _ _ _:=ht 67 rfl
 obtain⟨_,q161,⟨_,_,rfl,⟨rfl,Rf⟩,⟨rfl,Rg⟩⟩⟩:=h160
 refine Sj2 (op_buildSlice (cs:=[Iv ((overloads_1.1.getD i_1.toNat default).leaf),Iv ((overloads_1.1.getD i_1.toNat default).cell)]) (parts:=[(0,.tmp 67)]) ty32 ty45 hi (by decide) (by simp only [List.map,(show ev _ (.tmp 67)=_ from q161)];rfl) ?_)
 intro b163 w164 hx167 p165 hs166
 obtain⟨hs169,p170,f171⟩:=St.publish (q:=rXPlace) (i:=0) (o:=0) (c:=1) (xs:=[overloads_1.1.getD i_1.toNat default]) hs166 rfl (show Els rXPlace _ _ [Iv ((overloads_1.1.getD i_1.toNat default).leaf),Iv ((overloads_1.1.getD i_1.toNat default).cell)] [overloads_1.1.getD i_1.toNat default] from⟨_,_,rfl,mkVia (mk_pair (mk_int Rf) (mk_int Rg)),Els.nil⟩) (le_lit rfl) (le_lit rfl) (le_lit rfl)
 exact GoesX.pub hi hi2 hs169 (Step.trans p165 p170) hx167 (show Vr.vd (vC (rSl rXPlace)) _ _ _ _ from mkC (mk_sl f171))
 obtain⟨hc178,hm⟩:=ck_some hm
 refine Dw_opN (XG O [(some b1,Oc [Sl Aa p.cells Ca,Sl Ab p.capacity Cb,Sl Ac p.variables Cc] 26)] (fun t:Nat=>if t=0 then 4 else if t=4 then 10 else 1000) 10 rXPlace 45 ((([]:List XPlace)++((l_2.drop 0).take (at_1.toNat - 0)))++[overloads_1.1.getD i_1.toNat default])) (XG.stab _ _ _ _) (fun ρ172 w173 g hle hi hk ht=>?_) ?_
 obtain⟨hi,hi2⟩:=hi
 have h175:Vr.vd (vC (rSl rXPlace)) _ _ _ _:=ht 68 rfl
 obtain⟨Aj,Cj,q176,Fj⟩:=un_sl h175
 obtain⟨ns179,he180,hr181⟩:=Fj.src
 refine Sj2 (op_appendX (q:=rXPlace) (xs:=([]:List XPlace)++((l_2.drop 0).take (at_1.toNat - 0))) (ys:=[overloads_1.1.getD i_1.toNat default]) (news:=ns179) (tag:=4) ty32 ty45 rfl (by decide) hi hi2 hk rfl (le_lit rfl) (ht 63 rfl) q176 hr181 he180 hc178 (by have:=hc178;simp only [maxLen];omega))
 refine Dw_eq (Sl Ag l_2 Cg) (fun ρ182 w183 g hle hi ht=>?_) ?_
 obtain⟨hi,hi2⟩:=hi
 exact Sj2<|ok2 (v:=Sl Ag l_2 Cg) (ht 3 rfl)<|GoesX.same hi hi2 rfl
 refine Dw_eq (Iv at_1) (fun ρ185 w186 g hle hi ht=>?_) ?_
 obtain⟨hi,hi2⟩:=hi
 exact Sj2<|ok2 (v:=Iv at_1) (ht 9 rfl)<|GoesX.same hi hi2 rfl
 obtain⟨hc191,hm⟩:=ck_some hm
 refine Dw_op (XD _ _ (vC (rSl rXPlace)) ((l_2.drop at_1.toNat).take (l_2.length - at_1.toNat))) (XD.stab _ _) (fun ρ188 w189 g hle hi ht=>?_) ?_
 obtain⟨-,hst,-⟩:=hle
 obtain⟨hi,hi2⟩:=hi
 replace f99:=f99.step hst
 refine Sj2 (op_slice (q:=rXPlace) (l:=at_1.toNat) (h:=l_2.length) (m:=Cg) ty32 ty45 (ht 70 rfl) f99 rfl (bndI (ht 71 rfl) (by omega)) rfl rfl (by decide) (by omega) (by omega) (by have h_:l_2.length≤Cg:=f99.le;omega) (by have h_:l_2.length≤Cg:=f99.le;omega) ?_)
 intro a192 f193
 exact GoesX.same hi hi2 (show Vr.vd (vC (rSl rXPlace)) _ _ _ _ from(mkC (mk_sl f193)))
 refine Dw_nil fun w198 g199 hl200 hi201=>?_
 obtain⟨-,hst202,-⟩:=hl200
 obtain⟨hi201,hi205⟩:=hi201
 rintro v206 h207
 replace h207:Vr.vd (vC (rSl rXPlace)) _ _ _ _:=h207
 obtain⟨Ak,Ck,rfl,Fk⟩:=un_sl h207
 rintro _ rfl _ rfl v209 hm214
 obtain⟨a210,c211,k212,o213,rfl,hm214,f215⟩:=hm214.resolve_left (fun h=>absurd (hi205 _ h) (by decide))
 rintro v217 h218
 replace h218:Vr.vd (vC (rSl rXPlace)) _ _ _ _:=h218
 obtain⟨Al,Cl,rfl,Fl⟩:=un_sl h218
 rintro v220 h221
 replace h221:Vr.vd (vA rXPlace) _ _ _ _:=h221
 obtain⟨_,rfl,⟨_,_,rfl,⟨rfl,Rh⟩,⟨rfl,Ri⟩⟩⟩:=h221
 rintro _ ⟨p223,rfl,f224⟩ _ rfl _ rfl _ - v225 h226
 replace h226:Vr.vd (vC (rSl rXPlace)) _ _ _ _:=h226
 obtain⟨Am,Cm,rfl,Fm⟩:=un_sl h226
 rintro _ rfl _ rfl _ -
 obtain⟨hs204,p203⟩:=Step.nxX1 hi201 hm214;clear hm214
 have p228:=hs100.to hs204 (hst202.trans p203)
 replace Fk:=Fk.step p203;replace f215:=f215.step p203;replace Fl:=Fl.step p203;replace f224:=f224.step p203;replace Fm:=Fm.step p203;clear hs100
 obtain⟨hc229,hm⟩:=ck_some hm
 obtain⟨ns230,he231,hr232⟩:=Fk.src
 refine Rop (op_append (q:=rXPlace) (i:=0) (xs:=(([]:List XPlace)++((l_2.drop 0).take (at_1.toNat - 0)))++[overloads_1.1.getD i_1.toNat default]) (ys:=(l_2.drop at_1.toNat).take (l_2.length - at_1.toNat)) (news:=ns230) ty32 ty45 rfl (by decide) hs204 rfl rfl f215 rfl hr232 he231 hc229 (by have:=hc229;simp only [maxLen];omega) ?_)
 intro a236 c237 k238 o239 w233 p234 hs235 f240
 clear hs204
 refine Asg (Sl a236 (((([]:List XPlace)++((l_2.drop 0).take (at_1.toNat - 0)))++[overloads_1.1.getD i_1.toNat default])++((l_2.drop at_1.toNat).take (l_2.length - at_1.toNat))) c237) rfl<|Ri2 ?_
 have p241:=(p147.trans (p228.trans p234))
 replace ch77:=ch77.trans p241
 exact hK71 _ _ ⟨((([]:List XPlace)++((l_2.drop 0).take (at_1.toNat - 0)))++[overloads_1.1.getD i_1.toNat default])++((l_2.drop at_1.toNat).take (l_2.length - at_1.toNat)),a236,c237,k238,o239,_,rfl,Frm.of ⟨rfl,trivial⟩,ch77,hs235,f240,hm⟩
 refine Ws2 ?_
 have p242:=(hst85.trans hst95)
 replace ch77:=ch77.trans p242;replace Fg:=Fg.step p242
 exact hK71 _ _ ⟨l_2,Ag,Cg,k_g51,o_g51,_,rfl,Frm.of ⟨rfl,trivial⟩,ch77,hs94,Fg,hm⟩
 intro K92 hK92
 have ch243:=hs84.stepR
 refine Wp_drawR (g0:=[]) (m:=13) (fl:=[]) (TS_inv hs84) rfl (.inl rfl) rfl (by decide+kernel) ?_  -- 12
 refine Dw_p (Iv at_1) (fun _ _ _ hi ht=>ok2 (v:=Iv at_1) (ht 9 rfl)<|Gz hi)<|Dw_p (Sl Ag l_2 Cg) (fun _ _ _ hi ht=>ok2 (v:=Sl Ag l_2 Cg) (ht 3 rfl)<|Gz hi)<|Dw_p (Iv (l_2.length:Int)) (fun _ _ _ hi ht=>op_len Try.underlying32 (ht 45 rfl)<|Gz hi)<|Dw_p (Bo (decide (at_1=(l_2.length:Int)))) (fun _ _ _ hi ht=>op_eql (ht 44 rfl) (ht 46 rfl)<|Gz hi)<|Dw_opB (decide (at_1=(l_2.length:Int))) (fun _ _ _ _ hi ht=>Sj2<|ok2 (v:=Bo (decide (at_1=(l_2.length:Int)))) (ht 47 rfl)<|Gz hi) (fun hg259=>?_) (fun hg259=>?_)
 replace hm:=bif_t hm hg259
 iterate 8 refine Dw_sk rfl rfl (fun _ _ _ h=>h) rfl ?_
 refine Dw_nil fun w264 g265 hl266 hi267=>?_
 obtain⟨-,hst268,-⟩:=hl266
 obtain⟨hs270,p269⟩:=Step.nx hi267
 rintro _ rfl _ rfl _ rfl _ rfl _ rfl _ rfl _ rfl _ rfl _ rfl _ rfl _ rfl _ rfl _ rfl
 have p271:=hs84.to hs270 (hst268.trans p269)
 refine Rl2 rfl (asB_ne rfl rfl) rfl<|Pkt (Bo true) rfl rfl<|Ri2 ?_
 replace ch243:=ch243.trans p271
 exact hK92 _ _ ⟨true,_,rfl,Frm.of ⟨rfl,trivial⟩,ch243,hs270,hm⟩
 replace hm:=bif_f hm hg259
 refine Dw_g (Sl Ag l_2 Cg) rfl rfl (fun _ _ _ h=>h) (fun _ _ _ hi ht=>ok2 (v:=Sl Ag l_2 Cg) (ht 3 rfl)<|Gz hi)<|Dw_g (Iv at_1) rfl rfl (fun _ _ _ h=>h) (fun _ _ _ hi ht=>ok2 (v:=Iv at_1) (ht 9 rfl)<|Gz hi) ?_
 obtain⟨hc281,hm⟩:=ck_some hm
 replace Fg:=Fg.step hst85
 obtain⟨b282,rfl,rfl⟩:=Fg.at_ (by omega)
 refine Dw_eq (Value.pointer (some ⟨b282,at_1.toNat*2,none⟩)) (fun ρ278 w279 g hle hi ht=>?_) ?_
 obtain⟨-,hst,-⟩:=hle
 replace Fg:=Fg.step hst
 refine StepOp_g rfl (ht 48 rfl)<|op_indexAddrG ty32 ty45 (ht 49 rfl) (ht 50 rfl) Fg hc281 ?_
 rintro _ ⟨⟩ -
 exact Gz hi
 refine Dw_op (VD _ _ (vA rXPlace) (l_2.getD at_1.toNat default)) (VD.stab _ _) (fun ρ283 w284 g hle hi ht=>?_) ?_
 obtain⟨-,hst,-⟩:=hle
 replace Fg:=Fg.step hst
 have hsn:=(Step.nx hi).1
 refine StepOp_g rfl (ht 48 rfl)<|op_loadGA (i:=0) ty45 rfl hsn rfl (ht 51 rfl) Fg hc281 ?_
 intro vs286 h287
 obtain⟨_,_,rfl,⟨rfl,Rj⟩,⟨rfl,Rk⟩⟩:=h287
 exact Goes.same hi (show Vr.vd (vA rXPlace) _ _ _ _ from(mkA (mkVia (mk_pair (mk_int Rj) (mk_int Rk)))))
 refine Dw_g (Sl Af overloads_1.1 Cf) rfl rfl (fun _ _ _ h=>h) (fun _ _ _ hi ht=>ok2 (v:=Sl Af overloads_1.1 Cf) (ht 6 rfl)<|Gz hi)<|Dw_g (Iv i_1) rfl rfl (fun _ _ _ h=>h) (fun _ _ _ hi ht=>ok2 (v:=Iv i_1) (ht 8 rfl)<|Gz hi) ?_
 obtain⟨hc298,hm⟩:=ck_some hm
 replace Ff:=Ff.step hst85
 refine Dw_op (VP _ _ rXPlace (overloads_1.1.getD i_1.toNat default)) (VP.stab _ _) (fun ρ295 w296 g hle hi ht=>?_) ?_
 obtain⟨-,hst,-⟩:=hle
 replace Ff:=Ff.step hst
 refine StepOp_g rfl (ht 48 rfl)<|om2 (q:=rXPlace) ty32 ty45 (ht 53 rfl) (ht 54 rfl) Ff rfl hc298.1 hc298.2 ?_
 intro p299 f300
 exact Goes.same hi ⟨_,rfl,f300⟩
 refine Dw_op (VD _ _ (vA rXPlace) (overloads_1.1.getD i_1.toNat default)) (VD.stab _ _) (fun ρ301 w302 g hle hi ht=>?_) ?_
 obtain⟨p304,q305,f306⟩:=ht 55 rfl
 refine StepOp_g rfl (ht 48 rfl)<|op_loadPA ty45 q305 f306 rfl ?_
 intro vs307 h308
 obtain⟨_,_,rfl,⟨rfl,Rl⟩,⟨rfl,Rm⟩⟩:=h308
 exact Goes.same hi (show Vr.vd (vA rXPlace) _ _ _ _ from(mkA (mkVia (mk_pair (mk_int Rl) (mk_int Rm)))))
 refine Dw_nil fun w314 g315 hl316 hi317=>?_
 obtain⟨-,hst318,-⟩:=hl316
 obtain⟨hs320,p319⟩:=Step.nx hi317
 rintro v321 h322
 replace h322:Vr.vd (vA rXPlace) _ _ _ _:=h322
 obtain⟨_,rfl,⟨_,_,rfl,⟨rfl,Rn⟩,⟨rfl,Ro⟩⟩⟩:=h322
 rintro _ ⟨p324,rfl,f325⟩ _ rfl _ rfl v326 h327
 replace h327:Vr.vd (vA rXPlace) _ _ _ _:=h327
 obtain⟨_,rfl,⟨_,_,rfl,⟨rfl,Rp⟩,⟨rfl,Rq⟩⟩⟩:=h327
 rintro _ rfl _ rfl _ rfl _ rfl _ rfl _ rfl _ rfl _ rfl
 have p329:=hs84.to hs320 (hst318.trans p319)
 replace f325:=f325.step p319
 refine Rog rfl rfl<|op_neqA (c:=decide ((l_2.getD at_1.toNat default)=(overloads_1.1.getD i_1.toNat default))) rfl rfl eqg45 (eqv45 9998 (l_2.getD at_1.toNat default) (overloads_1.1.getD i_1.toNat default) _)<|Pkf (Bo (!(decide ((l_2.getD at_1.toNat default)=(overloads_1.1.getD i_1.toNat default))))) rfl rfl<|Ri2 ?_
 replace ch243:=ch243.trans p329
 exact hK92 _ _ ⟨!(decide ((l_2.getD at_1.toNat default)=(overloads_1.1.getD i_1.toNat default))),_,rfl,Frm.of ⟨rfl,trivial⟩,ch243,hs320,hm⟩
 intro K82 hK82
 have ch330:=hs59.stepR
 refine Wn2<|Wr2 q32_1 [] (updL (mix q32_3 [] ξ78 (updL (mix q32_4 [] ξ66 (updL (mix q32_5 [] ξ53 (updL ⟨ξ19,[]⟩ [(1,Pt b1 0),(3,Value.slice none 0 0),(4,Sl (some ⟨b8,0,none⟩) (List.replicate p.variables.length (0:Int)) p.variables.length),(5,Bo true)])) [(3,Sl Ad l_1 Cd),(4,Sl Ae choices_1 Ce),(6,Sl Af overloads_1.1 Cf),(8,Iv 0)])) [(3,Sl Ag l_2 Cg),(8,Iv i_1)])) [(3,Sl Ag l_2 Cg),(9,Iv 0)]) [(9,Iv 0)] fun ξ332=>Wp_loopM q32_1 (fun m fr w'=>∃(at_2:Int) (Ebs:Ents),Ebs=[(k_g51,o_g51),(some b1,Oc [Sl Aa p.cells Ca,Sl Ab p.capacity Cb,Sl Ac p.variables Cc] 26)]∧fr [] [(9,Iv at_2)]∧hs59.S (ks Ebs O) w'∧St ⟨w,[],[]⟩ O w' Ebs∧InK .i64 at_2∧loop1 (m32_overflightref32_Relevant_B2 overloads_1 l_2 i_1 k80) m at_2=some x) 1000000 ⟨0,_,rfl,Frm.of ⟨rfl,trivial⟩,Step.refl _ _,hs59,(show InK .i64 0 from by decide),hm⟩ ?_ ?_
 rintro _ _ ⟨_,_,_,_,_,_,_,hm⟩;exact loop1_z hm
 rintro m336 K335 hK335 ρ341 w337 ⟨at_2,_,rfl,hfr340,hst339,hs338,Rr,hm⟩
 obtain⟨sf333,hsf334,hm⟩:=loop1_s hm;unfold m32_overflightref32_Relevant_B2 at hm
 rw [hfr340.eq];clear hfr340
 have ch342:=hst339
 refine Wb<|Wr2 q32_1 [] (updL (mix q32_1 [] ξ332 (updL (mix q32_3 [] ξ78 (updL (mix q32_4 [] ξ66 (updL (mix q32_5 [] ξ53 (updL ⟨ξ19,[]⟩ [(1,Pt b1 0),(3,Value.slice none 0 0),(4,Sl (some ⟨b8,0,none⟩) (List.replicate p.variables.length (0:Int)) p.variables.length),(5,Bo true)])) [(3,Sl Ad l_1 Cd),(4,Sl Ae choices_1 Ce),(6,Sl Af overloads_1.1 Cf),(8,Iv 0)])) [(3,Sl Ag l_2 Cg),(8,Iv i_1)])) [(3,Sl Ag l_2 Cg),(9,Iv 0)])) [(9,Iv 0)]) [(9,Iv at_2)] fun ξ343=>?_
 obtain⟨k345,hk346,hm⟩:=jn_elim hm
 refine Wp_seqJ q32_0 (fun fr w'=>∃(v_2:Bool) (Ebs:Ents),Ebs=[(k_g51,o_g51),(some b1,Oc [Sl Aa p.cells Ca,Sl Ab p.capacity Cb,Sl Ac p.variables Cc] 26)]∧fr [] [(41,Bo v_2)]∧hs338.S (ks Ebs O) w'∧St ⟨w,[],[]⟩ O w' Ebs∧k345 v_2=some x) ?_ ?_
 rintro ρ352 w348 ⟨v_2,_,rfl,hfr351,hst350,hs349,hm⟩
 replace hm:=jnE1 hk346 hm
 rw [hfr351.eq];clear hfr351
 refine Wo2 hm rfl (fun hc353 hm=>?_) (fun hc353 hm=>?_)
 refine Ws2<|Wn2<|Wa<|Mve (Iv at_2) rfl<|Rop<|op_addw rfl rfl<|Asg (Iv (IntKind.wrap .i64 (at_2+1))) rfl<|Ri2 ?_
 replace ch342:=ch342.trans hst350
 exact hK335 _ _ ⟨(IntKind.wrap .i64 (at_2+1)),_,rfl,Frm.of ⟨rfl,trivial⟩,ch342,hs349,(inK_wrap .i64 _),jnE1 hsf334 hm⟩
 refine Wp_exit ?_
 have p354:=(hst339.trans hst350)
 replace ch330:=ch330.trans p354
 exact hK82 _ _ ⟨at_2,_,rfl,Frm.of ⟨rfl,trivial⟩,ch330,hs349,Rr,hm⟩
 intro K347 hK347
 have ch355:=hs338.stepR
 refine Wp_drawR (g0:=[]) (m:=13) (fl:=[]) (TS_inv hs338) rfl (.inl rfl) rfl (by decide+kernel) ?_  -- 10
 refine Dw_p (Iv at_2) (fun _ _ _ hi ht=>ok2 (v:=Iv at_2) (ht 9 rfl)<|Gz hi)<|Dw_p (Sl Ag l_2 Cg) (fun _ _ _ hi ht=>ok2 (v:=Sl Ag l_2 Cg) (ht 3 rfl)<|Gz hi)<|Dw_p (Iv (l_2.length:Int)) (fun _ _ _ hi ht=>op_len Try.underlying32 (ht 28 rfl)<|Gz hi)<|Dw_p (Bo (decide (at_2<(l_2.length:Int)))) (fun _ _ _ hi ht=>op_lss (ht 27 rfl) (ht 29 rfl)<|Gz hi)<|Dw_opB (decide (at_2<(l_2.length:Int))) (fun _ _ _ _ hi ht=>Sj2<|ok2 (v:=Bo (decide (at_2<(l_2.length:Int)))) (ht 30 rfl)<|Gz hi) (fun hg371=>?_) (fun hg371=>?_)
 replace hm:=bif_t hm hg371
 refine Dw_g (Sl Ag l_2 Cg) rfl rfl (fun _ _ _ h=>h) (fun _ _ _ hi ht=>ok2 (v:=Sl Ag l_2 Cg) (ht 3 rfl)<|Gz hi)<|Dw_g (Iv at_2) rfl rfl (fun _ _ _ h=>h) (fun _ _ _ hi ht=>ok2 (v:=Iv at_2) (ht 9 rfl)<|Gz hi) ?_
 obtain⟨hc381,hm⟩:=ck_some hm
 replace Fg:=Fg.step hst339
 obtain⟨b382,rfl,rfl⟩:=Fg.at_ (by omega)
 refine Dw_eq (Value.pointer (some ⟨b382,at_2.toNat*2,none⟩)) (fun ρ378 w379 g hle hi ht=>?_) ?_
 obtain⟨-,hst,-⟩:=hle
 replace Fg:=Fg.step hst
 refine StepOp_g rfl (ht 31 rfl)<|op_indexAddrG ty32 ty45 (ht 32 rfl) (ht 33 rfl) Fg hc381 ?_
 rintro _ ⟨⟩ -
 exact Gz hi
 refine Dw_op (VD _ _ (vA rXPlace) (l_2.getD at_2.toNat default)) (VD.stab _ _) (fun ρ383 w384 g hle hi ht=>?_) ?_
 obtain⟨-,hst,-⟩:=hle
 replace Fg:=Fg.step hst
 have hsn:=(Step.nx hi).1
 refine StepOp_g rfl (ht 31 rfl)<|op_loadGA (i:=0) ty45 rfl hsn rfl (ht 34 rfl) Fg hc381 ?_
 intro vs386 h387
 obtain⟨_,_,rfl,⟨rfl,Rs⟩,⟨rfl,Rt⟩⟩:=h387
 exact Goes.same hi (show Vr.vd (vA rXPlace) _ _ _ _ from(mkA (mkVia (mk_pair (mk_int Rs) (mk_int Rt)))))
 refine Dw_g (Sl Af overloads_1.1 Cf) rfl rfl (fun _ _ _ h=>h) (fun _ _ _ hi ht=>ok2 (v:=Sl Af overloads_1.1 Cf) (ht 6 rfl)<|Gz hi)<|Dw_g (Iv i_1) rfl rfl (fun _ _ _ h=>h) (fun _ _ _ hi ht=>ok2 (v:=Iv i_1) (ht 8 rfl)<|Gz hi) ?_
 obtain⟨hc398,hm⟩:=ck_some hm
 replace Ff:=Ff.step hst339
 refine Dw_op (VP _ _ rXPlace (overloads_1.1.getD i_1.toNat default)) (VP.stab _ _) (fun ρ395 w396 g hle hi ht=>?_) ?_
 obtain⟨-,hst,-⟩:=hle
 replace Ff:=Ff.step hst
 refine StepOp_g rfl (ht 31 rfl)<|om2 (q:=rXPlace) ty32 ty45 (ht 36 rfl) (ht 37 rfl) Ff rfl hc398.1 hc398.2 ?_
 intro p399 f400
 exact Goes.same hi ⟨_,rfl,f400⟩
 refine Dw_op (VD _ _ (vA rXPlace) (overloads_1.1.getD i_1.toNat default)) (VD.stab _ _) (fun ρ401 w402 g hle hi ht=>?_) ?_
 obtain⟨p404,q405,f406⟩:=ht 38 rfl
 refine StepOp_g rfl (ht 31 rfl)<|op_loadPA ty45 q405 f406 rfl ?_
 intro vs407 h408
 obtain⟨_,_,rfl,⟨rfl,Ru⟩,⟨rfl,Rv⟩⟩:=h408
 exact Goes.same hi (show Vr.vd (vA rXPlace) _ _ _ _ from(mkA (mkVia (mk_pair (mk_int Ru) (mk_int Rv)))))
 refine Dw_nil fun w414 g415 hl416 hi417=>?_
 obtain⟨-,hst418,-⟩:=hl416
 obtain⟨hs420,p419⟩:=Step.nx hi417
 rintro v421 h422
 replace h422:Vr.vd (vA rXPlace) _ _ _ _:=h422
 obtain⟨_,rfl,⟨_,_,rfl,⟨rfl,Rw⟩,⟨rfl,Rx⟩⟩⟩:=h422
 rintro _ ⟨p424,rfl,f425⟩ _ rfl _ rfl v426 h427
 replace h427:Vr.vd (vA rXPlace) _ _ _ _:=h427
 obtain⟨_,rfl,⟨_,_,rfl,⟨rfl,Ry⟩,⟨rfl,Rz⟩⟩⟩:=h427
 rintro _ rfl _ rfl _ rfl _ rfl _ rfl _ rfl _ rfl _ rfl
 have p429:=hs338.to hs420 (hst418.trans p419)
 replace f425:=f425.step p419
 obtain⟨before_1,hv430,hm⟩:=bd hm
 refine Rog rfl rfl<|op_callE hs420 Try.call63 (c63_overflightref32_Before (a:=l_2.getD at_2.toNat default) (b:=overloads_1.1.getD i_1.toNat default) hs420.ltw Ry Rz Rw Rx hv430) rfl ?_
 rintro v431 w432 p436 hs435 h434
 clear hs420
 obtain rfl:=h434
 refine Pkt (Bo before_1) rfl rfl<|Ri2 ?_
 have p438:=(p429.trans p436)
 replace ch355:=ch355.trans p438
 exact hK347 _ _ ⟨before_1,_,rfl,Frm.of ⟨rfl,trivial⟩,ch355,hs435,hm⟩
 replace hm:=bif_f hm hg371
 iterate 8 refine Dw_sk rfl rfl (fun _ _ _ h=>h) rfl ?_
 refine Dw_nil fun w443 g444 hl445 hi446=>?_
 obtain⟨-,hst447,-⟩:=hl445
 obtain⟨hs449,p448⟩:=Step.nx hi446
 rintro _ rfl _ rfl _ rfl _ rfl _ rfl _ rfl _ rfl _ rfl _ rfl _ rfl _ rfl _ rfl _ rfl
 have p450:=hs338.to hs449 (hst447.trans p448)
 refine Rl2 rfl (asB_ne rfl rfl) rfl<|Pkf (Bo false) rfl rfl<|Ri2 ?_
 replace ch355:=ch355.trans p450
 exact hK347 _ _ ⟨false,_,rfl,Frm.of ⟨rfl,trivial⟩,ch355,hs449,hm⟩
 refine Wp_exit ?_
 clear Ff
 refine Wa<|Rop<|op_ldA 1 ty26 hs59 rfl rfl rfl<|Mve (Sl Ae choices_1 Ce) rfl ?_
 obtain⟨next_1,hv451,hm⟩:=bd hm
 have p457:=(p43.trans hst60)
 replace Fb:=Fb.step p457;replace Fa:=Fa.step p457;replace Fc:=Fc.step p457;replace Fe:=Fe.step p457
 refine Rop<|op_callE hs59 Try.call58 (c58_overflightref32_Next (p:=p) (choices:=choices_1) hs59.ltw Fa Fb Fc Fe hv451) rfl ?_
 rintro v452 w453 p458 hs456 h455
 obtain⟨v459,v460,rfl,h461,h462⟩:=h455
 obtain⟨An,Cn,rfl,Fn⟩:=un_sl h461
 obtain rfl:=h462
 refine Mve (Value.tuple [Sl An next_1.1 Cn,Bo next_1.2].toArray) rfl<|Rop<|op_extract (v:=Sl An next_1.1 Cn) rfl rfl<|Rop<|op_extract (v:=Bo next_1.2) rfl rfl<|Asg (Sl An next_1.1 Cn) rfl<|Asg (Bo next_1.2) rfl<|Ri2 ?_
 replace ch34:=ch34.trans (p457.trans p458);replace Fg:=Fg.step p458
 exact hK22 _ _ ⟨l_2,next_1.1,next_1.2,Ag,Cg,k_g51,o_g51,An,Cn,_,rfl,Frm.of ⟨rfl,rfl,rfl,trivial⟩,ch34,hs456,Fg,Fn,jnE3 hsf21 hm⟩
 refine Wp_exit<|Wb ?_
 obtain⟨hs465,p466⟩:=hs30.sub (bs':=[(k_g16,o_g16)]) (.cons_cons _ (.cons _ List.Sublist.slnil))
 clear Fa Fb Fc Fe
 clear hs30
 refine Wa<|Mve (Sl Ad l_1 Cd) rfl<|Asg (Sl Ad l_1 Cd) rfl<|Ri2<|Wp_ret<|⟨_,Clo,[Sl Ad l_1 Cd],⟨rfl,trivial⟩,hs465.ext,?_⟩
 replace Fd:=Fd.step p466
 exact OkG.mk (i:=0) hs465 rfl Fd (oi hm)
def m11_overflightref32_Light (p:XProblem):Option Bool:=
 jn (fun(v_1:Bool)=>
  bif v_1 then
   some false
  else
   (m31_overflightref27_Check p).bind fun check_1=>
   bif (decide (check_1≠0)) then
    some true
   else
    (m32_overflightref32_Relevant p).bind fun relevant_1=>
    some (decide ((relevant_1.length:Int)≤6)))
 (fun k8=>
  (m18_overflightref27_Few p).bind fun few_1=>
  bif (!few_1) then
   k8 true
  else
   (m30_overflightref27_Many p 150).bind fun many_1=>
   k8 (decide (150≤many_1)))

theorem c11_overflightref32_Light {w:World} {O:List Nat} {p:XProblem} {Aa:Option Addr} {Ca:Nat} {Ab:Option Addr} {Cb:Nat} {Ac:Option Addr} {Cc:Nat} (hO:∀k∈O,k<w.heap.size) (Fa:SlR rXCell w O Aa Ca p.cells) (Fb:SlR (rSl (rInt .i64)) w O Ab Cb p.capacity) (Fc:SlR rXVariable w O Ac Cc p.variables) {x:Bool} (hm:m11_overflightref32_Light p=some x):
 Ok Try.prog 11 [Value.agg [Sl Aa p.cells Ca,Sl Ab p.capacity Cb,Sl Ac p.variables Cc].toArray] w O vB x:=by
 unfold m11_overflightref32_Light at hm
 refine Fn_of_Wp (n:=20) (xs:=[.tmp 2]) Try.func11 rfl Try.ntmps11 Try.results11 rfl ?_
 have hs:=St.start hO
 refine Wb<|Wa<|Rop<|op_box (cs:=[Sl Aa p.cells Ca,Sl Ab p.capacity Cb,Sl Ac p.variables Cc]) hs rfl rfl ?_
 intro b1 w2 _ p3 hs4
 refine Asg (Bo false) rfl<|Ri2<|Wb<|Wr [] [(1,Pt b1 0)] fun ξ6=>?_
 obtain⟨k8,hk9,hm⟩:=jn_elim hm
 refine Wp_seqJ [3,4,5,6,7,8,9,10] (fun fr w'=>∃(v_1:Bool) (Ebs:Ents),Ebs=[(some b1,Oc [Sl Aa p.cells Ca,Sl Ab p.capacity Cb,Sl Ac p.variables Cc] 26)]∧fr [] [(10,Bo v_1)]∧hs4.S (ks Ebs O) w'∧St ⟨w,[],[]⟩ O w' Ebs∧k8 v_1=some x) ?_ ?_
 rintro ρ15 w11 ⟨v_1,_,rfl,hfr14,hst13,hs12,hm⟩
 replace hm:=jnE1 hk9 hm
 rw [hfr14.eq];clear hfr14
 refine Wo2 hm rfl (fun hc16 hm=>?_) (fun hc16 hm=>?_)
 refine Wb ?_
 obtain⟨hs17,p18⟩:=hs12.sub (bs':=[]) (.cons _ List.Sublist.slnil)
 clear Fa Fb Fc
 clear hs12
 refine Wa<|Asg (Bo false) rfl<|Ri2<|Wp_ret<|⟨_,Clo,[Bo false],⟨rfl,trivial⟩,hs17.ext,?_⟩
 exact Vr.eq (a:=vB) (x:=false) rfl (oi hm)
 refine Ws2<|Wb<|Wa<|Rop<|op_ldA 0 ty26 hs12 rfl rfl rfl ?_
 obtain⟨check_1,hv19,hm⟩:=bd hm
 have p25:=(p3.trans hst13)
 replace Fb:=Fb.step p25;replace Fa:=Fa.step p25;replace Fc:=Fc.step p25
 refine Rop<|op_callE hs12 Try.call31 (c31_overflightref27_Check (p:=p) hs12.ltw Fa Fb Fc hv19) rfl ?_
 rintro v20 w21 p26 hs24 h23
 clear hs12
 obtain⟨rfl,Ra⟩:=h23
 refine Rop<|op_neq rfl rfl<|Mve (Bo (decide (check_1≠0))) rfl<|Rg_caseM hm (fun hg28 hm=>?_) (fun hg28 hm=>?_)
 iterate 4 refine Rl2 rfl (asB_ne rfl rfl) rfl ?_
 refine Pkt (Bo true) rfl rfl<|Asg (Bo true) rfl<|Ri2<|Wp_ret<|⟨_,Clo,[Bo true],⟨rfl,trivial⟩,hs24.ext,?_⟩
 exact Vr.eq (a:=vB) (x:=true) rfl (oi hm)
 refine Rog rfl rfl<|op_ldA 0 ty26 hs24 rfl rfl rfl ?_
 obtain⟨relevant_1,hv29,hm⟩:=bd hm
 replace Fb:=Fb.step p26;replace Fa:=Fa.step p26;replace Fc:=Fc.step p26
 refine Rog rfl rfl<|op_call Try.call32 (g32_overflightref32_Relevant (p:=p) hs24.ltw Fa Fb Fc hv29) rfl ?_
 rintro _ w31 ⟨hx32,a35,c36,k37,o38,rfl,hk39,f40⟩
 obtain⟨hs34,p41⟩:=hs24.callG (o:=o38) hx32 hk39
 rw [← ks_cons (o:=o38)] at f40
 clear hs24
 refine Rog rfl rfl<|op_len Try.underlying32 rfl ?_
 have rl43:=inK_lenG f40
 refine Rog rfl rfl<|op_leq rfl rfl<|Pkf (Bo (decide ((relevant_1.length:Int)≤6))) rfl rfl<|Asg (Bo (decide ((relevant_1.length:Int)≤6))) rfl<|Ri2<|Wp_ret<|⟨_,Clo,[Bo (decide ((relevant_1.length:Int)≤6))],⟨rfl,trivial⟩,hs34.ext,?_⟩
 exact Vr.eq (a:=vB) (x:=decide ((relevant_1.length:Int)≤6)) rfl (oi hm)
 intro K10 hK10
 have ch44:=hs4.stepR
 refine Wa<|Rop<|op_ldA 0 ty26 hs4 rfl rfl rfl ?_
 obtain⟨few_1,hv45,hm⟩:=bd hm
 replace Fb:=Fb.step p3;replace Fa:=Fa.step p3;replace Fc:=Fc.step p3
 refine Rop<|op_callE hs4 Try.call18 (c18_overflightref27_Few (p:=p) hs4.ltw Fa Fb Fc hv45) rfl ?_
 rintro v46 w47 p51 hs50 h49
 obtain rfl:=h49
 refine Rop<|op_not rfl<|Mve (Bo (!few_1)) rfl<|Rg_caseM hm (fun hg53 hm=>?_) (fun hg53 hm=>?_)
 iterate 3 refine Rl2 rfl (asB_ne rfl rfl) rfl ?_
 refine Pkt (Bo true) rfl rfl<|Ri2 ?_
 replace ch44:=ch44.trans p51
 exact hK10 _ _ ⟨true,_,rfl,Frm.of ⟨rfl,trivial⟩,ch44,hs50,hm⟩
 refine Rog rfl rfl<|op_ldA 0 ty26 hs50 rfl rfl rfl ?_
 obtain⟨many_1,hv54,hm⟩:=bd hm
 replace Fb:=Fb.step p51;replace Fa:=Fa.step p51;replace Fc:=Fc.step p51
 refine Rog rfl rfl<|op_callE hs50 Try.call30 (c30_overflightref27_Many (p:=p) (limit:=150) hs50.ltw Fa Fb Fc (show InK .i64 150 from by decide) hv54) rfl ?_
 rintro v55 w56 p60 hs59 h58
 clear hs50
 obtain⟨rfl,Rb⟩:=h58
 refine Rog rfl rfl<|op_geq rfl rfl<|Pkf (Bo (decide (150≤many_1))) rfl rfl<|Ri2 ?_
 replace ch44:=ch44.trans (p51.trans p60)
 exact hK10 _ _ ⟨decide (150≤many_1),_,rfl,Frm.of ⟨rfl,trivial⟩,ch44,hs59,hm⟩

def m19_overflightref32_Few (r_:XReason):Option Bool:=
 bif (decide ((r_.variables.length:Int)≤20)) then
  some (decide ((r_.places.length:Int)≤60))
 else
  some false

theorem c19_overflightref32_Few {w:World} {O:List Nat} {r_:XReason} {Aa:Option Addr} {Ca:Nat} {Ab:Option Addr} {Cb:Nat} (hO:∀k∈O,k<w.heap.size) (Fa:SlR (rInt .i64) w O Aa Ca r_.variables) (Fb:SlR rXPlace w O Ab Cb r_.places) {x:Bool} (hm:m19_overflightref32_Few r_=some x):
 Ok Try.prog 19 [Value.agg [Sl Aa r_.variables Ca,Sl Ab r_.places Cb].toArray] w O vB x:=by
 unfold m19_overflightref32_Few at hm
 refine Fn_of_Wp (n:=13) (xs:=[.tmp 2]) Try.func19 rfl Try.ntmps19 Try.results19 rfl ?_
 have hs:=St.start hO
 refine Wb<|Wa<|Rop<|op_box (cs:=[Sl Aa r_.variables Ca,Sl Ab r_.places Cb]) hs rfl rfl ?_
 intro b1 w2 _ p3 hs4
 refine Asg (Bo false) rfl<|Ri2<|Wb<|Wa<|Rop<|op2 0 ty34 rfl ty31 rfl rfl<|Rop<|oq2 0 ty31 hs4 rfl rfl rfl<|Rop<|op_len Try.underlying31 rfl ?_
 replace Fa:=Fa.step p3
 have rl6:=inK_len Fa
 refine Rop<|op_leq rfl rfl<|Mve (Bo (decide ((r_.variables.length:Int)≤20))) rfl<|Rg_caseM hm (fun hg7 hm=>?_) (fun hg7 hm=>?_)
 refine Rog rfl rfl<|op2 1 ty34 rfl ty32 rfl rfl<|Rog rfl rfl<|oq2 0 ty32 hs4 rfl rfl rfl<|Rog rfl rfl<|op_len Try.underlying32 rfl ?_
 replace Fb:=Fb.step p3
 have rl8:=inK_len Fb
 refine Rog rfl rfl<|op_leq rfl rfl<|Pkt (Bo (decide ((r_.places.length:Int)≤60))) rfl rfl<|Asg (Bo (decide ((r_.places.length:Int)≤60))) rfl<|Ri2<|Wp_ret<|⟨_,Clo,[Bo (decide ((r_.places.length:Int)≤60))],⟨rfl,trivial⟩,hs4.ext,?_⟩
 exact Vr.eq (a:=vB) (x:=decide ((r_.places.length:Int)≤60)) rfl (oi hm)
 iterate 4 refine Rl2 rfl (asB_ne rfl rfl) rfl ?_
 refine Pkf (Bo false) rfl rfl<|Asg (Bo false) rfl<|Ri2<|Wp_ret<|⟨_,Clo,[Bo false],⟨rfl,trivial⟩,hs4.ext,?_⟩
 exact Vr.eq (a:=vB) (x:=false) rfl (oi hm)

abbrev q8_1:List Nat:=[40,41,42,43,44,45,46,47,48,49,50,51,52,53,54]

abbrev q8_0:List Nat:=[12,13,14,15,16,17,18,19]

def m8_overflightlaw32_ReasonFewest (p:XProblem) (r_:XReason):Option Bool:=
 m10_overflightlaw32_sane.bind fun sane_1=>
 bif (!sane_1) then
  some false
 else
  jn (fun(v_1:Bool)=>
   bif v_1 then
    some true
   else
    (m17_reason_Proves p r_).bind fun proves_1=>
    jn (fun(v_2:Bool)=>
     bif v_2 then
      some (!proves_1.1)
     else
      (m13_reason_Smallest p).bind fun smallest_1=>
      jn (fun(v_3:Bool)=>
       bif v_3 then
        some false
       else
        bif (decide ((smallest_1.1.variables.length:Int)<(r_.variables.length:Int))) then
         some true
        else
         some (decide ((smallest_1.1.places.length:Int)≤(r_.places.length:Int))))
      (fun k89=>
       bif (decide (smallest_1.2.2≠0)) then
        k89 true
       else
        bif (!smallest_1.2.1) then
         k89 true
        else
         k89 (decide ((r_.variables.length:Int)<(smallest_1.1.variables.length:Int)))))
    (fun k51=>
     bif (decide (proves_1.2≠0)) then
      k51 true
     else
      k51 (!proves_1.1)))
  (fun k24=>
   (m11_overflightref32_Light p).bind fun light_1=>
   bif (!light_1) then
    k24 true
   else
    (m19_overflightref32_Few r_).bind fun few_1=>
    k24 (!few_1))

theorem c8_overflightlaw32_ReasonFewest {w:World} {O:List Nat} {p:XProblem} {r_:XReason} {Aa:Option Addr} {Ca:Nat} {Ab:Option Addr} {Cb:Nat} {Ac:Option Addr} {Cc:Nat} {Ad:Option Addr} {Cd:Nat} {Ae:Option Addr} {Ce:Nat} (hO:∀k∈O,k<w.heap.size) (Fa:SlR rXCell w O Aa Ca p.cells) (Fb:SlR (rSl (rInt .i64)) w O Ab Cb p.capacity) (Fc:SlR rXVariable w O Ac Cc p.variables) (Fd:SlR (rInt .i64) w O Ad Cd r_.variables) (Fe:SlR rXPlace w O Ae Ce r_.places) {x:Bool} (hm:m8_overflightlaw32_ReasonFewest p r_=some x):
 Ok Try.prog 8 [Value.agg [Sl Aa p.cells Ca,Sl Ab p.capacity Cb,Sl Ac p.variables Cc].toArray,Value.agg [Sl Ad r_.variables Cd,Sl Ae r_.places Ce].toArray] w O vB x:=by
 unfold m8_overflightlaw32_ReasonFewest at hm
 refine Fn_of_Wp (n:=71) (xs:=[.tmp 4]) Try.func8 rfl Try.ntmps8 Try.results8 rfl ?_
 have hs:=St.start hO
 refine Wb<|Wa<|Rop<|op_box (cs:=[Sl Aa p.cells Ca,Sl Ab p.capacity Cb,Sl Ac p.variables Cc]) hs rfl rfl ?_
 intro b1 w2 _ p3 hs4
 refine Rop<|op_box (cs:=[Sl Ad r_.variables Cd,Sl Ae r_.places Ce]) hs4 rfl rfl ?_
 intro b6 w7 _ p8 hs9
 clear hs4
 refine Asg (Bo false) rfl<|Ri2<|Wb<|Wb<|Wa ?_
 obtain⟨sane_1,hv11,hm⟩:=bd hm
 refine Rop<|op_callE hs9 Try.call10 (c10_overflightlaw32_sane hs9.ltw hv11) rfl ?_
 rintro v12 w13 p17 hs16 h15
 clear hs9
 obtain rfl:=h15
 refine Rop<|op_not rfl<|Ri2<|Wo2 hm rfl (fun hc19 hm=>?_) (fun hc19 hm=>?_)
 refine Wb ?_
 obtain⟨hs20,p21⟩:=hs16.sub (bs':=[]) (.cons _ (.cons _ List.Sublist.slnil))
 clear Fa Fb Fc Fd Fe
 clear hs16
 refine Wa<|Asg (Bo false) rfl<|Ri2<|Wp_ret<|⟨_,Clo,[Bo false],⟨rfl,trivial⟩,hs20.ext,?_⟩
 exact Vr.eq (a:=vB) (x:=false) rfl (oi hm)
 refine Ws2<|Wb<|Wr [] [(2,Pt b1 0),(3,Pt b6 0)] fun ξ22=>?_
 obtain⟨k24,hk25,hm⟩:=jn_elim hm
 refine Wp_seqJ q8_0 (fun fr w'=>∃(v_1:Bool) (Ebs:Ents),Ebs=[(some b6,Oc [Sl Ad r_.variables Cd,Sl Ae r_.places Ce] 34),(some b1,Oc [Sl Aa p.cells Ca,Sl Ab p.capacity Cb,Sl Ac p.variables Cc] 26)]∧fr [] [(19,Bo v_1)]∧hs16.S (ks Ebs O) w'∧St ⟨w,[],[]⟩ O w' Ebs∧k24 v_1=some x) ?_ ?_
 rintro ρ31 w27 ⟨v_1,_,rfl,hfr30,hst29,hs28,hm⟩
 replace hm:=jnE1 hk25 hm
 rw [hfr30.eq];clear hfr30
 refine Wo2 hm rfl (fun hc32 hm=>?_) (fun hc32 hm=>?_)
 refine Wb ?_
 obtain⟨hs33,p34⟩:=hs28.sub (bs':=[]) (.cons _ (.cons _ List.Sublist.slnil))
 clear Fa Fb Fc Fd Fe
 clear hs28
 refine Wa<|Asg (Bo true) rfl<|Ri2<|Wp_ret<|⟨_,Clo,[Bo true],⟨rfl,trivial⟩,hs33.ext,?_⟩
 exact Vr.eq (a:=vB) (x:=true) rfl (oi hm)
 refine Ws2<|Wb<|Wa<|Rop<|op_ldA 1 ty26 hs28 rfl rfl rfl<|Rop<|op_ldA 0 ty34 hs28 rfl rfl rfl ?_
 obtain⟨proves_1,hv35,hm⟩:=bd hm
 have p41:=(p3.trans (p8.trans (p17.trans hst29)))
 replace Fb:=Fb.step p41;replace Fa:=Fa.step p41;replace Fc:=Fc.step p41;replace Fe:=Fe.step p41;replace Fd:=Fd.step p41
 refine Rop<|op_callE hs28 Try.call17 (c17_reason_Proves (p:=p) (r_:=r_) hs28.ltw Fa Fb Fc Fd Fe hv35) rfl ?_
 rintro v36 w37 p42 hs40 h39
 clear hs28
 obtain⟨v43,v44,rfl,h45,h46⟩:=h39
 obtain rfl:=h45
 obtain⟨rfl,Ra⟩:=h46
 refine Mve (Value.tuple [Bo proves_1.1,Iv proves_1.2].toArray) rfl<|Rop<|op_extract (v:=Bo proves_1.1) rfl rfl<|Rop<|op_extract (v:=Iv proves_1.2) rfl rfl<|Asg (Bo proves_1.1) rfl<|Asg (Iv proves_1.2) rfl<|Ri2<|Wb<|Wr [] [(2,Pt b1 0),(3,Pt b6 0),(5,Bo proves_1.1),(6,Iv proves_1.2)] fun ξ49=>?_
 obtain⟨k51,hk52,hm⟩:=jn_elim hm
 refine Wp_seqJ [26,27,28,29,30,31] (fun fr w'=>∃(v_2:Bool) (Ebs:Ents),Ebs=[(some b6,Oc [Sl Ad r_.variables Cd,Sl Ae r_.places Ce] 34),(some b1,Oc [Sl Aa p.cells Ca,Sl Ab p.capacity Cb,Sl Ac p.variables Cc] 26)]∧fr [] [(31,Bo v_2)]∧hs40.S (ks Ebs O) w'∧St ⟨w,[],[]⟩ O w' Ebs∧k51 v_2=some x) ?_ ?_
 rintro ρ58 w54 ⟨v_2,_,rfl,hfr57,hst56,hs55,hm⟩
 replace hm:=jnE1 hk52 hm
 rw [hfr57.eq];clear hfr57
 refine Wo2 hm rfl (fun hc59 hm=>?_) (fun hc59 hm=>?_)
 refine Wb ?_
 obtain⟨hs60,p61⟩:=hs55.sub (bs':=[]) (.cons _ (.cons _ List.Sublist.slnil))
 clear Fa Fb Fc Fd Fe
 clear hs55
 refine Wa<|Mve (Bo proves_1.1) rfl<|Rop<|op_not rfl<|Asg (Bo (!proves_1.1)) rfl<|Ri2<|Wp_ret<|⟨_,Clo,[Bo (!proves_1.1)],⟨rfl,trivial⟩,hs60.ext,?_⟩
 exact Vr.eq (a:=vB) (x:=!proves_1.1) rfl (oi hm)
 refine Ws2<|Wb<|Wa<|Rop<|op_ldA 1 ty26 hs55 rfl rfl rfl ?_
 obtain⟨smallest_1,hv62,hm⟩:=bd hm
 have p68:=(p42.trans hst56)
 replace Fb:=Fb.step p68;replace Fa:=Fa.step p68;replace Fc:=Fc.step p68
 refine Rop<|op_callE hs55 Try.call13 (c13_reason_Smallest (p:=p) hs55.ltw Fa Fb Fc hv62) rfl ?_
 rintro v63 w64 p69 hs67 h66
 clear hs55
 obtain⟨v70,v71,v72,rfl,h73,h74,h75⟩:=h66
 obtain⟨_,rfl,⟨_,_,rfl,⟨Af,Cf,rfl,Ff⟩,⟨Ag,Cg,rfl,Fg⟩⟩⟩:=h73
 obtain rfl:=h74
 obtain⟨rfl,Rb⟩:=h75
 refine Mve (Value.tuple [Value.agg [Sl Af smallest_1.1.variables Cf,Sl Ag smallest_1.1.places Cg].toArray,Bo smallest_1.2.1,Iv smallest_1.2.2].toArray) rfl<|Rop<|op_extract (v:=Value.agg [Sl Af smallest_1.1.variables Cf,Sl Ag smallest_1.1.places Cg].toArray) rfl rfl<|Rop<|op_extract (v:=Bo smallest_1.2.1) rfl rfl<|Rop<|op_extract (v:=Iv smallest_1.2.2) rfl rfl<|Rop<|op_alloc ty34 hs67 ?_
 intro b79 w80 _ p81 hs82
 clear hs67
 refine Rg_op_<|op_stA .z ty34 hs82 rfl rfl rfl rfl rfl ?_
 intro w84 p85 hs86
 clear hs82
 refine Asg (Bo smallest_1.2.1) rfl<|Asg (Iv smallest_1.2.2) rfl<|Ri2<|Wb<|Wr [] [(3,Pt b6 0),(7,Pt b79 0),(8,Bo smallest_1.2.1),(9,Iv smallest_1.2.2)] fun ξ87=>?_
 obtain⟨k89,hk90,hm⟩:=jn_elim hm
 refine Wp_seqJ q8_1 (fun fr w'=>∃(v_3:Bool) (Ebs:Ents),Ebs=[(some b79,Oc [Sl Af smallest_1.1.variables Cf,Sl Ag smallest_1.1.places Cg] 34),(some b6,Oc [Sl Ad r_.variables Cd,Sl Ae r_.places Ce] 34),(some b1,Oc [Sl Aa p.cells Ca,Sl Ab p.capacity Cb,Sl Ac p.variables Cc] 26)]∧fr [] [(54,Bo v_3)]∧hs86.S (ks Ebs O) w'∧St ⟨w,[],[]⟩ O w' Ebs∧k89 v_3=some x) ?_ ?_
 rintro ρ96 w92 ⟨v_3,_,rfl,hfr95,hst94,hs93,hm⟩
 replace hm:=jnE1 hk90 hm
 rw [hfr95.eq];clear hfr95
 refine Wo2 hm rfl (fun hc97 hm=>?_) (fun hc97 hm=>?_)
 refine Wb ?_
 obtain⟨hs98,p99⟩:=hs93.sub (bs':=[]) (.cons _ (.cons _ (.cons _ List.Sublist.slnil)))
 clear Fa Fb Fc Fd Fe Ff Fg
 clear hs93
 refine Wa<|Asg (Bo false) rfl<|Ri2<|Wp_ret<|⟨_,Clo,[Bo false],⟨rfl,trivial⟩,hs98.ext,?_⟩
 exact Vr.eq (a:=vB) (x:=false) rfl (oi hm)
 refine Ws2<|Wb ?_
 obtain⟨hs100,p101⟩:=hs93.sub (bs':=[(some b79,Oc [Sl Af smallest_1.1.variables Cf,Sl Ag smallest_1.1.places Cg] 34),(some b6,Oc [Sl Ad r_.variables Cd,Sl Ae r_.places Ce] 34)]) (.cons_cons _ (.cons_cons _ (.cons _ List.Sublist.slnil)))
 clear Fa Fb Fc
 clear hs93
 refine Wa<|Rop<|op2 0 ty34 rfl ty31 rfl rfl<|Rop<|oq2 0 ty31 hs100 rfl rfl rfl<|Rop<|op_len Try.underlying31 rfl ?_
 have p103:=(p81.trans (p85.trans (hst94.trans p101)))
 replace Ff:=Ff.step p103
 have rl102:=inK_len Ff
 refine Rop<|op2 0 ty34 rfl ty31 rfl rfl<|Rop<|oq2 1 ty31 hs100 rfl rfl rfl<|Rop<|op_len Try.underlying31 rfl ?_
 have p105:=(p68.trans (p69.trans (p81.trans (p85.trans (hst94.trans p101)))))
 replace Fd:=Fd.step p105
 have rl104:=inK_len Fd
 refine Rop<|op_lss rfl rfl<|Mve (Bo (decide ((smallest_1.1.variables.length:Int)<(r_.variables.length:Int)))) rfl<|Rg_caseM hm (fun hg106 hm=>?_) (fun hg106 hm=>?_)
 iterate 7 refine Rl2 rfl (asB_ne rfl rfl) rfl ?_
 refine Pkt (Bo true) rfl rfl<|Asg (Bo true) rfl<|Ri2<|Wp_ret<|⟨_,Clo,[Bo true],⟨rfl,trivial⟩,hs100.ext,?_⟩
 exact Vr.eq (a:=vB) (x:=true) rfl (oi hm)
 refine Rog rfl rfl<|op2 1 ty34 rfl ty32 rfl rfl<|Rog rfl rfl<|oq2 0 ty32 hs100 rfl rfl rfl<|Rog rfl rfl<|op_len Try.underlying32 rfl ?_
 replace Fg:=Fg.step p103
 have rl107:=inK_len Fg
 refine Rog rfl rfl<|op2 1 ty34 rfl ty32 rfl rfl<|Rog rfl rfl<|oq2 1 ty32 hs100 rfl rfl rfl<|Rog rfl rfl<|op_len Try.underlying32 rfl ?_
 replace Fe:=Fe.step p105
 have rl108:=inK_len Fe
 refine Rog rfl rfl<|op_leq rfl rfl<|Pkf (Bo (decide ((smallest_1.1.places.length:Int)≤(r_.places.length:Int)))) rfl rfl<|Asg (Bo (decide ((smallest_1.1.places.length:Int)≤(r_.places.length:Int)))) rfl<|Ri2<|Wp_ret<|⟨_,Clo,[Bo (decide ((smallest_1.1.places.length:Int)≤(r_.places.length:Int)))],⟨rfl,trivial⟩,hs100.ext,?_⟩
 exact Vr.eq (a:=vB) (x:=decide ((smallest_1.1.places.length:Int)≤(r_.places.length:Int))) rfl (oi hm)
 intro K91 hK91
 have ch109:=hs86.stepR
 refine Wa<|Mve (Iv smallest_1.2.2) rfl<|Rop<|op_neq rfl rfl<|Mve (Bo (decide (smallest_1.2.2≠0))) rfl<|Rg_caseM hm (fun hg110 hm=>?_) (fun hg110 hm=>?_)
 refine Rl2 rfl (asB_ne rfl rfl) rfl<|Rl2 rfl (asB_ne rfl rfl) rfl<|Pkt (Bo true) rfl rfl<|Mve (Bo true) rfl ?_
 iterate 7 refine Rl2 rfl (asB_ne rfl rfl) rfl ?_
 exact Pkt (Bo true) rfl rfl<|Ri2<|hK91 _ _ ⟨true,_,rfl,Frm.of ⟨rfl,trivial⟩,ch109,hs86,hm⟩
 refine Rog rfl rfl<|ok2 (v:=Bo smallest_1.2.1) rfl<|Rog rfl rfl<|op_not rfl<|Pkf (Bo (!smallest_1.2.1)) rfl rfl<|Mve (Bo (!smallest_1.2.1)) rfl<|Rg_caseM hm (fun hg111 hm=>?_) (fun hg111 hm=>?_)
 iterate 7 refine Rl2 rfl (asB_ne rfl rfl) rfl ?_
 exact Pkt (Bo true) rfl rfl<|Ri2<|hK91 _ _ ⟨true,_,rfl,Frm.of ⟨rfl,trivial⟩,ch109,hs86,hm⟩
 refine Rog rfl rfl<|op2 0 ty34 rfl ty31 rfl rfl<|Rog rfl rfl<|oq2 0 ty31 hs86 rfl rfl rfl<|Rog rfl rfl<|op_len Try.underlying31 rfl ?_
 have p113:=(p81.trans p85)
 replace Ff:=Ff.step p113
 have rl112:=inK_len Ff
 refine Rog rfl rfl<|op2 0 ty34 rfl ty31 rfl rfl<|Rog rfl rfl<|oq2 1 ty31 hs86 rfl rfl rfl<|Rog rfl rfl<|op_len Try.underlying31 rfl ?_
 have p115:=(p68.trans (p69.trans (p81.trans p85)))
 replace Fd:=Fd.step p115
 have rl114:=inK_len Fd
 exact Rog rfl rfl<|op_gtr rfl rfl<|Pkf (Bo (decide ((r_.variables.length:Int)<(smallest_1.1.variables.length:Int)))) rfl rfl<|Ri2<|hK91 _ _ ⟨decide ((r_.variables.length:Int)<(smallest_1.1.variables.length:Int)),_,rfl,Frm.of ⟨rfl,trivial⟩,ch109,hs86,hm⟩
 intro K53 hK53
 have ch116:=hs40.stepR
 refine Wa<|Mve (Iv proves_1.2) rfl<|Rop<|op_neq rfl rfl<|Mve (Bo (decide (proves_1.2≠0))) rfl<|Rg_caseM hm (fun hg117 hm=>?_) (fun hg117 hm=>?_)
 exact Rl2 rfl (asB_ne rfl rfl) rfl<|Rl2 rfl (asB_ne rfl rfl) rfl<|Pkt (Bo true) rfl rfl<|Ri2<|hK53 _ _ ⟨true,_,rfl,Frm.of ⟨rfl,trivial⟩,ch116,hs40,hm⟩
 exact Rog rfl rfl<|ok2 (v:=Bo proves_1.1) rfl<|Rog rfl rfl<|op_not rfl<|Pkf (Bo (!proves_1.1)) rfl rfl<|Ri2<|hK53 _ _ ⟨!proves_1.1,_,rfl,Frm.of ⟨rfl,trivial⟩,ch116,hs40,hm⟩
 intro K26 hK26
 have ch118:=hs16.stepR
 refine Wa<|Rop<|op_ldA 1 ty26 hs16 rfl rfl rfl ?_
 obtain⟨light_1,hv119,hm⟩:=bd hm
 have p125:=(p3.trans (p8.trans p17))
 replace Fb:=Fb.step p125;replace Fa:=Fa.step p125;replace Fc:=Fc.step p125
 refine Rop<|op_callE hs16 Try.call11 (c11_overflightref32_Light (p:=p) hs16.ltw Fa Fb Fc hv119) rfl ?_
 rintro v120 w121 p126 hs124 h123
 obtain rfl:=h123
 refine Rop<|op_not rfl<|Mve (Bo (!light_1)) rfl<|Rg_caseM hm (fun hg128 hm=>?_) (fun hg128 hm=>?_)
 iterate 3 refine Rl2 rfl (asB_ne rfl rfl) rfl ?_
 refine Pkt (Bo true) rfl rfl<|Ri2 ?_
 replace ch118:=ch118.trans p126
 exact hK26 _ _ ⟨true,_,rfl,Frm.of ⟨rfl,trivial⟩,ch118,hs124,hm⟩
 refine Rog rfl rfl<|op_ldA 0 ty34 hs124 rfl rfl rfl ?_
 obtain⟨few_1,hv129,hm⟩:=bd hm
 have p135:=(p125.trans p126)
 replace Fe:=Fe.step p135;replace Fd:=Fd.step p135
 refine Rog rfl rfl<|op_callE hs124 Try.call19 (c19_overflightref32_Few (r_:=r_) hs124.ltw Fd Fe hv129) rfl ?_
 rintro v130 w131 p136 hs134 h133
 clear hs124
 obtain rfl:=h133
 refine Rog rfl rfl<|op_not rfl<|Pkf (Bo (!few_1)) rfl rfl<|Ri2 ?_
 have p138:=(p126.trans p136)
 replace ch118:=ch118.trans p138
 exact hK26 _ _ ⟨!few_1,_,rfl,Frm.of ⟨rfl,trivial⟩,ch118,hs134,hm⟩

end Go.Fx
/- What the models of functions compute: loops over lists, checks, meetings. No program in sight. -/
set_option linter.unusedSimpArgs false
set_option linter.unusedVariables false
namespace Go.Fx
open Go Go.RowKit

section
variable {R α σ : Type}
@[simp] theorem jn_eq {κ:Type _} (k:κ) (f:κ→Option R):jn k f=f k:=rfl
theorem ck_eq {c:Prop} [Decidable c] {m:Option R} (h:c):ck c m=m:=if_pos h
@[simp] theorem ck_True {m:Option R} :ck True m=m:=if_pos trivial
theorem wrapN {i:Nat} (h:i<9223372036854775808):IntKind.i64.wrap (i:Int)=(i:Int):=wrap_i64 (by omega) (by omega)
theorem wrapS {i:Nat} (h:i+1<9223372036854775808):IntKind.i64.wrap ((i:Int)+1)=(i:Int)+1:=wrap_i64 (by omega) (by omega)
theorem wrapP {i:Nat} (h:i<9223372036854775808):IntKind.i64.wrap (((i+1:Nat):Int) - 1)=(i:Int):=(wrap_i64 (by omega) (by omega)).trans (by omega)

theorem up_list {L:Nat→Int→σ→Option R} (I:Nat→σ→Prop) (F:Nat→List α→σ→Option R) (l:List α) (hl:l.length<9223372036854775807)
    (hE:∀n s,I l.length s→L (n+1) (l.length:Nat) s=F l.length [] s)
    (hS:∀n (i:Nat) s x t,i<l.length→l[i]?=some x→IntKind.i64.wrap ((i:Int)+1)=(i:Int)+1→I i s→
      (∀s,I (i+1) s→L n ((i:Int)+1) s=F (i+1) t s)→L (n+1) (i:Int) s=F i (x::t) s):
    ∀(fuel:Nat) s,l.length<fuel→I 0 s→L fuel 0 s=F 0 l s:=by
  have main:∀(t:List α) (i fuel:Nat) s,l.drop i=t→i≤l.length→l.length - i<fuel→I i s→L fuel (i:Int) s=F i t s:=by
    intro t
    induction t with
    |nil=>
      intro i fuel s hd hi hf hI
      have:i=l.length:=by have:=congrArg List.length hd;simp at this;omega
      subst this
      obtain⟨n,rfl⟩:∃n,fuel=n+1:=⟨fuel - 1,by omega⟩
      exact hE n s hI
    |cons x t ih=>
      intro i fuel s hd hi hf hI
      have hlt:i<l.length:=by have:=congrArg List.length hd;simp at this;omega
      obtain⟨n,rfl⟩:∃n,fuel=n+1:=⟨fuel - 1,by omega⟩
      have hx:l[i]?=some x:=by rw [← List.head?_drop,hd];rfl
      refine hS n i s x t hlt hx (wrapS (by omega)) hI fun s' hI'=>(ih (i+1) n s' ?_ (by omega) (by omega) hI')
      rw [← List.drop_drop,hd];rfl
  intro fuel s hf hI
  exact main l 0 fuel s rfl (by omega) (by omega) hI

theorem getD_of {l:List α} {i:Nat} {x d:α} (h:l[i]?=some x):l.getD i d=x:=by simp [List.getD,h]

theorem up_list0 {B:(Int→Option R)→Int→Option R} (F:List α→Option R) (l:List α) (hl:l.length<9223372036854775807)
    (hE:∀sf,B sf (l.length:Nat)=F [])
    (hS:∀sf (i:Nat) x t,i<l.length→l[i]?=some x→IntKind.i64.wrap ((i:Int)+1)=(i:Int)+1→
      sf ((i:Int)+1)=F t→B sf (i:Int)=F (x::t))
    {fuel:Nat} (hf:l.length<fuel):loop1 B fuel 0=F l:=by
  refine up_list (L:=fun n i (_:Unit)=>loop1 B n i) (fun _ _=>True) (fun _ t _=>F t) l hl ?_ ?_ fuel () hf trivial
  · intro n _ _;show loop1 B (n+1) _=_;rw [loop1_succ];exact hE _
  · intro n i _ x t h1 h2 h3 _ ih;show loop1 B (n+1) _=_;rw [loop1_succ];exact hS _ i x t h1 h2 h3 (ih () trivial)
theorem up_listA {B:(Int→σ→Option R)→Int→σ→Option R} (I:Nat→σ→Prop) (F:Nat→List α→σ→Option R) (l:List α) (hl:l.length<9223372036854775807)
    (hE:∀sf s,I l.length s→B sf (l.length:Nat) s=F l.length [] s)
    (hS:∀sf (i:Nat) s x t,i<l.length→l[i]?=some x→IntKind.i64.wrap ((i:Int)+1)=(i:Int)+1→I i s→
      (∀s,I (i+1) s→sf ((i:Int)+1) s=F (i+1) t s)→B sf (i:Int) s=F i (x::t) s)
    {fuel:Nat} {s:σ} (hf:l.length<fuel) (hI:I 0 s):loop2 B fuel 0 s=F 0 l s:=by
  refine up_list (L:=fun n i s=>loop2 B n i s) I F l hl ?_ ?_ fuel s hf hI
  · intro n s h;show loop2 B (n+1) _ _=_;rw [loop2_succ];exact hE _ _ h
  · intro n i s x t h1 h2 h3 h4 ih;show loop2 B (n+1) _ _=_;rw [loop2_succ];exact hS _ i s x t h1 h2 h3 h4 ih
theorem up_listB {B:(σ→Int→Option R)→σ→Int→Option R} (I:Nat→σ→Prop) (F:Nat→List α→σ→Option R) (l:List α) (hl:l.length<9223372036854775807)
    (hE:∀sf s,I l.length s→B sf s (l.length:Nat)=F l.length [] s)
    (hS:∀sf (i:Nat) s x t,i<l.length→l[i]?=some x→IntKind.i64.wrap ((i:Int)+1)=(i:Int)+1→I i s→
      (∀s,I (i+1) s→sf s ((i:Int)+1)=F (i+1) t s)→B sf s (i:Int)=F i (x::t) s)
    {fuel:Nat} {s:σ} (hf:l.length<fuel) (hI:I 0 s):loop2 B fuel s 0=F 0 l s:=by
  refine up_list (L:=fun n i s=>loop2 B n s i) I F l hl ?_ ?_ fuel s hf hI
  · intro n s h;show loop2 B (n+1) _ _=_;rw [loop2_succ];exact hE _ _ h
  · intro n i s x t h1 h2 h3 h4 ih;show loop2 B (n+1) _ _=_;rw [loop2_succ];exact hS _ i s x t h1 h2 h3 h4 ih

theorem up_listI {B:(Int→Option R)→Int→Option R} (F:Nat→List α→Option R) (l:List α) (hl:l.length<9223372036854775807)
    (hE:∀sf,B sf (l.length:Nat)=F l.length [])
    (hS:∀sf (i:Nat) x t,i<l.length→l[i]?=some x→IntKind.i64.wrap ((i:Int)+1)=(i:Int)+1→
      sf ((i:Int)+1)=F (i+1) t→B sf (i:Int)=F i (x::t))
    {fuel:Nat} (hf:l.length<fuel):loop1 B fuel 0=F 0 l:=by
  refine up_list (L:=fun n i (_:Unit)=>loop1 B n i) (fun _ _=>True) (fun i t _=>F i t) l hl ?_ ?_ fuel () hf trivial
  · intro n _ _;show loop1 B (n+1) _=_;rw [loop1_succ];exact hE _
  · intro n i _ x t h1 h2 h3 _ ih;show loop1 B (n+1) _=_;rw [loop1_succ];exact hS _ i x t h1 h2 h3 (ih () trivial)
end
end Go.Fx
/- Chapter 32: what is a valid problem, a valid reason. Loops that ask the same of each element. -/
set_option linter.unusedSimpArgs false
set_option linter.unusedVariables false
set_option maxRecDepth 100000
namespace Go.Fx
open Go Go.RowKit
section
variable {R α σ : Type}
def adj (lt : α → α → Bool) : List α → Bool
  | a :: b :: t => lt a b && adj lt (b :: t)
  | _ => true
/-- each element by itself, and beside the one before it -/
def allP (ok : α → Bool) (lt : α → α → Bool) : Option α → List α → Bool
  | _, [] => true
  | o, x :: t => ok x && (o.all fun y => lt y x) && allP ok lt (some x) t
theorem allP_some {ok : α → Bool} {lt : α → α → Bool} : ∀ (t : List α) (a : α), allP ok lt (some a) t = (t.all ok && adj lt (a :: t))
  | [], a => by simp [allP, adj]
  | x :: t, a => by
    simp only [allP, adj, allP_some t x, List.all_cons, Option.all_some]
    cases ok x <;> cases lt a x <;> cases t.all ok <;> simp
theorem allP_none {ok : α → Bool} {lt : α → α → Bool} (l : List α) : allP ok lt none l = (l.all ok && adj lt l) := by
  cases l with
  | nil => simp [allP, adj]
  | cons x t => simp only [allP, allP_some, List.all_cons, Option.all_none, Bool.and_true, Bool.and_assoc]
/-- a loop that asks ok of each element, and lt of each and the one before it -/
theorem adj_up {B : (Int → Option R) → Int → Option R} {l : List α} (ok : α → Bool) (lt : α → α → Bool) (bad fin : Option R) (hl : l.length < 9223372036854775807)
    (hE : ∀ sf, B sf (l.length : Nat) = fin)
    (h0 : ∀ sf x, 0 < l.length → l[0]? = some x → IntKind.i64.wrap ((0 : Int) + 1) = 1 → B sf 0 = bif ok x then sf 1 else bad)
    (hS : ∀ sf (j : Nat) y x, j + 1 < l.length → l[j]? = some y → l[j + 1]? = some x → IntKind.i64.wrap (((j + 1 : Nat) : Int) + 1) = ((j + 1 : Nat) : Int) + 1 → IntKind.i64.wrap (((j + 1 : Nat) : Int) - 1) = (j : Int) →
      B sf ((j + 1 : Nat) : Int) = bif (ok x && lt y x) then sf (((j + 1 : Nat) : Int) + 1) else bad)
    {fuel : Nat} (hf : l.length < fuel) : loop1 B fuel 0 = bif (l.all ok && adj lt l) then fin else bad := by
  refine (up_listI (fun i t => bif allP ok lt (if i = 0 then none else l[i - 1]?) t then fin else bad) l hl (fun sf => by rw [hE]; rfl) ?_ hf).trans ?_
  · intro sf i x t h1 h2 h3 ih
    cases i with
    | zero =>
      have e := h0 sf x h1 h2 (by simpa using h3)
      simp only [Nat.zero_add, Nat.succ_ne_zero, if_false, if_true, Nat.add_sub_cancel, h2, Int.natCast_zero, Int.zero_add] at ih ⊢
      show B sf 0 = _
      rw [e, allP]
      cases ok x
      · simp
      · simp only [cond_true, Option.all_none, Bool.and_true, Bool.true_and]; exact ih
    | succ j =>
      have hy : l[j]? = some l[j] := List.getElem?_eq_getElem (by omega)
      have e := hS sf j l[j] x h1 hy h2 h3 (wrapP (by omega))
      simp only [Nat.succ_ne_zero, if_false, Nat.add_sub_cancel, h2] at ih ⊢
      rw [e, allP, hy]
      cases hc : (ok x && lt l[j] x)
      · simp only [Option.all_some, hc, Bool.false_and, cond_false]
      · simp only [Option.all_some, hc, Bool.true_and, cond_true]; exact ih
  · simp only [if_true, allP_none]
/-- each by itself -/
theorem all_up {B : (Int → Option R) → Int → Option R} {l : List α} (ok : α → Bool) (bad fin : Option R) (hl : l.length < 9223372036854775807)
    (hE : ∀ sf, B sf (l.length : Nat) = fin)
    (hS : ∀ sf (i : Nat) x, i < l.length → l[i]? = some x → IntKind.i64.wrap ((i : Int) + 1) = (i : Int) + 1 → B sf (i : Int) = bif ok x then sf ((i : Int) + 1) else bad)
    {fuel : Nat} (hf : l.length < fuel) : loop1 B fuel 0 = bif l.all ok then fin else bad := by
  refine up_list0 (fun t => bif t.all ok then fin else bad) l hl (fun sf => by rw [hE]; rfl) ?_ hf
  intro sf i x t h1 h2 h3 ih
  rw [hS sf i x h1 h2 h3, List.all_cons]
  cases ok x
  · rfl
  · simp only [cond_true, Bool.true_and]; exact ih
/-- from the second on, beside the one before -/
theorem adj_up1 {B : (Int → Option R) → Int → Option R} {l : List α} (lt : α → α → Bool) (bad fin : Option R) (hl : l.length < 9223372036854775807)
    (hE : ∀ sf (i : Nat), l.length ≤ i → i ≤ l.length + 1 → B sf (i : Int) = fin)
    (hS : ∀ sf (j : Nat) y x, j + 1 < l.length → l[j]? = some y → l[j + 1]? = some x → IntKind.i64.wrap (((j + 1 : Nat) : Int) + 1) = ((j + 1 : Nat) : Int) + 1 → IntKind.i64.wrap (((j + 1 : Nat) : Int) - 1) = (j : Int) →
      B sf ((j + 1 : Nat) : Int) = bif lt y x then sf (((j + 1 : Nat) : Int) + 1) else bad)
    {fuel : Nat} (hf : l.length - 1 < fuel) : loop1 B fuel 1 = bif adj lt l then fin else bad := by
  have main : ∀ (fuel j : Nat) (y : α) (t : List α), l.drop j = y :: t → l.length - (j + 1) < fuel → loop1 B fuel ((j + 1 : Nat) : Int) = bif adj lt (y :: t) then fin else bad := by
    intro fuel
    induction fuel with
    | zero => intro j y t _ h; omega
    | succ n ih =>
      intro j y t hd hf
      have hlen : l.length - j = t.length + 1 := by have := congrArg List.length hd; simpa using this
      have hy : l[j]? = some y := by rw [← List.head?_drop, hd]; rfl
      rw [loop1_succ]
      cases t with
      | nil => rw [hE _ _ (by simp at hlen; omega) (by simp at hlen; omega)]; rfl
      | cons x t =>
        simp only [List.length_cons] at hlen
        have hd2 : l.drop (j + 1) = x :: t := by rw [← List.drop_drop, hd]; rfl
        have hx : l[j + 1]? = some x := by rw [← List.head?_drop, hd2]; rfl
        rw [hS _ j y x (by omega) hy hx (wrapS (by omega)) (wrapP (by omega)), adj]
        cases lt y x
        · rfl
        · simp only [cond_true, Bool.true_and]; exact ih (j + 1) x t hd2 (by omega)
  cases l with
  | nil =>
    obtain ⟨n, rfl⟩ : ∃ n, fuel = n + 1 := ⟨fuel - 1, by simp at hf; omega⟩
    rw [loop1_succ]; exact hE _ 1 (by simp) (by simp)
  | cons y t => exact main fuel 0 y t rfl hf
/-- facts on an index within a list, for simp -/
theorem inBd {i n : Nat} (h : i < n) : ((0 : Int) ≤ (i : Int) ∧ (i : Int) < (n : Int)) = True := by simp; omega
theorem ltBd {i n : Nat} (h : i < n) : decide ((i : Int) < (n : Int)) = true := by simpa using h
theorem ltE {n : Nat} : decide ((n : Int) < (n : Int)) = false := by simp
end
def within (n lo hi : Int) : Bool := decide (lo ≤ n) && decide (n ≤ hi)
theorem m33_eq (n lo hi : Int) : m33_problem_within n lo hi = some (within n lo hi) := by
  unfold m33_problem_within within; cases decide (lo ≤ n) <;> rfl
theorem m61_eq (n lo hi : Int) : m61_overflightref27_within n lo hi = some (within n lo hi) := by
  unfold m61_overflightref27_within within; cases decide (lo ≤ n) <;> rfl
def cmpI (x y : Int) : Int := if x < y then -1 else if y < x then 1 else 0
theorem m39_eq (x y : Int) : m39_cmp_Compare x y = some (cmpI x y) := by
  unfold m39_cmp_Compare m66_cmp_isNaN cmpI
  by_cases h : x < y
  · simp [h]
  · by_cases h2 : y < x <;> simp [h, h2]
theorem m64_eq (x y : Int) : m64_cmp_Or [x, y] = some (if x ≠ 0 then x else y) := by
  unfold m64_cmp_Or
  rw [up_list0 (B := m64_cmp_Or_B0 [x, y]) (fun t => some ((t.find? (fun z => decide (z ≠ 0))).getD 0)) [x, y] (by simp) ?_ ?_ (by simp)]
  · by_cases hx : x = 0
    · by_cases hy : y = 0 <;> simp [hx, hy]
    · simp [hx]
  · intro sf; unfold m64_cmp_Or_B0; simp
  · intro sf i z t h1 h2 h3 ih
    unfold m64_cmp_Or_B0
    simp only [ltBd h1, inBd h1, ck_True, Int.toNat_natCast, getD_of h2, h3, ih, cond_true, List.find?_cons]
    cases decide (z ≠ 0) <;> rfl
/-- the order of cells -/
def cb (a b : XCell) : Bool := if a.airport = b.airport then (if a.index = b.index then decide (a.minute < b.minute) else decide (a.index < b.index)) else b.airport
theorem m60_eq (a b : XCell) : m60_overflightref27_Before a b = some (cb a b) := by
  unfold m60_overflightref27_Before cb
  by_cases h : a.airport = b.airport
  · by_cases h2 : a.index = b.index <;> simp [h, h2]
  · have h3 : (a.airport == b.airport) = false := by simpa using h
    simp [h, h3]
def cmpC (a b : XCell) : Int := if a.airport = b.airport then (if cmpI a.index b.index ≠ 0 then cmpI a.index b.index else cmpI a.minute b.minute) else if b.airport then -1 else 1
theorem m35_eq (a b : XCell) : m35_problem_compare a b = some (cmpC a b) := by
  unfold m35_problem_compare cmpC
  by_cases h : a.airport = b.airport
  · simp only [h, beq_self_eq_true, Bool.not_true, cond_false, m39_eq, m64_eq, Option.bind_some, if_true]
  · have : (a.airport == b.airport) = false := by simpa using h
    simp only [this, h, Bool.not_false, cond_true, if_false]
    cases b.airport <;> rfl
theorem cmpC_cb (a b : XCell) : decide (0 ≤ cmpC a b) = !(cb a b) := by
  unfold cmpC cb cmpI
  by_cases h : a.airport = b.airport
  · simp only [h, if_true]
    by_cases h1 : a.index = b.index
    · simp only [h1, Int.lt_irrefl, if_false, ne_eq, not_true_eq_false, if_true]
      by_cases h2 : a.minute < b.minute
      · simp [h2]
      · simp only [h2, if_false, decide_false, Bool.not_false, decide_eq_true_eq]; split <;> omega
    · simp only [h1, if_false]
      by_cases h2 : a.index < b.index
      · simp [h2]
      · have : b.index < a.index := by omega
        simp [h2, this]
  · simp only [h, if_false]
    cases b.airport <;> simp
theorem m34_eq (l : List XCell) (hl : l.length < 9223372036854775807) : m34_api_Cell_ l (fun x y => m35_problem_compare x y) = some (adj cb l) := by
  unfold m34_api_Cell_
  rw [adj_up1 (l := l) cb (some false) (some true) hl ?_ ?_ (by omega)]
  · cases adj cb l <;> rfl
  · intro sf i h1 h2; unfold m34_api_Cell__B0
    have : decide ((i : Int) < (l.length : Int)) = false := by simp; omega
    rw [this]; rfl
  · intro sf j y x h1 h2 h3 h4 h5; unfold m34_api_Cell__B0
    simp only [ltBd h1, h4, h5, inBd h1, inBd (show j < l.length by omega), ck_True, Int.toNat_natCast, getD_of h2, getD_of h3, m35_eq, Option.bind_some, cmpC_cb, cond_true]
    cases cb y x <;> rfl
theorem m38_eq (l : List Int) (hl : l.length < 9223372036854775807) : m38_problem_increasing l (fun x y => m39_cmp_Compare x y) = some (adj (fun x y => decide (x < y)) l) := by
  unfold m38_problem_increasing
  rw [adj_up1 (l := l) (fun x y => decide (x < y)) (some false) (some true) hl ?_ ?_ (by omega)]
  · cases adj _ l <;> rfl
  · intro sf i h1 h2; unfold m38_problem_increasing_B0
    have : decide ((i : Int) < (l.length : Int)) = false := by simp; omega
    rw [this]; rfl
  · intro sf j y x h1 h2 h3 h4 h5; unfold m38_problem_increasing_B0
    simp only [ltBd h1, h4, h5, inBd h1, inBd (show j < l.length by omega), ck_True, Int.toNat_natCast, getD_of h2, getD_of h3, m39_eq, Option.bind_some, cond_true]
    by_cases h : y < x
    · simp [cmpI, h]
    · have : 0 ≤ cmpI y x := by unfold cmpI; simp only [h, if_false]; split <;> omega
      simp [h, this]
theorem m40_eq (l : List XUse) (hl : l.length < 9223372036854775807) : m40_api_Use_ l (fun x y => m41_problem_Check_2 x y) = some (adj (fun x y => cb x.cell y.cell) l) := by
  unfold m40_api_Use_
  rw [adj_up1 (l := l) (fun x y => cb x.cell y.cell) (some false) (some true) hl ?_ ?_ (by omega)]
  · cases adj _ l <;> rfl
  · intro sf i h1 h2; unfold m40_api_Use__B0
    have : decide ((i : Int) < (l.length : Int)) = false := by simp; omega
    rw [this]; rfl
  · intro sf j y x h1 h2 h3 h4 h5; unfold m40_api_Use__B0
    simp only [ltBd h1, h4, h5, inBd h1, inBd (show j < l.length by omega), ck_True, Int.toNat_natCast, getD_of h2, getD_of h3, m41_problem_Check_2, m35_eq, Option.bind_some, cmpC_cb, cond_true]
    cases cb y.cell x.cell <;> rfl
theorem m36_eq (s : List Int) (hl : s.length < 9223372036854775807) : m36_slices_ContainsFuncint_int_ s (fun x => m37_problem_Check_1 x) = some (!(s.all fun n => within n 0 4096)) := by
  unfold m36_slices_ContainsFuncint_int_ m65_slices_IndexFuncint_int_
  have key : ∃ i : Int, loop1 (m65_slices_IndexFuncint_int__B0 s (fun x => m37_problem_Check_1 x)) (((s.length : Int) - 0).toNat + 1) 0 = some i ∧ decide (0 ≤ i) = !(s.all fun n => within n 0 4096) := by
    rw [up_listI (B := m65_slices_IndexFuncint_int__B0 s (fun x => m37_problem_Check_1 x)) (fun i t => some (match t.findIdx? (fun n => !(within n 0 4096)) with | none => (-1 : Int) | some k => ((i + k : Nat) : Int))) s hl ?_ ?_ (by omega)]
    · refine ⟨_, rfl, ?_⟩
      cases h : s.findIdx? (fun n => !(within n 0 4096)) with
      | none =>
        rw [List.findIdx?_eq_none_iff] at h
        have : (s.all fun n => within n 0 4096) = true := by rw [List.all_eq_true]; intro x hx; simpa using h x hx
        simp [this]
      | some k =>
        have : (s.all fun n => within n 0 4096) = false := by
          rw [List.all_eq_false]
          obtain ⟨hk, h1, _⟩ := List.findIdx?_eq_some_iff_getElem.1 h
          exact ⟨s[k], List.getElem_mem hk, by simpa using h1⟩
        simp [this]
    · intro sf; unfold m65_slices_IndexFuncint_int__B0; simp
    · intro sf i x t h1 h2 h3 ih
      unfold m65_slices_IndexFuncint_int__B0 m37_problem_Check_1
      simp only [ltBd h1, inBd h1, ck_True, Int.toNat_natCast, getD_of h2, m33_eq, Option.bind_some, h3, cond_true, List.findIdx?_cons]
      cases hw : within x 0 4096
      · simp
      · simp only [Bool.not_true, cond_false, Bool.false_eq_true, if_false]
        rw [ih]
        cases t.findIdx? (fun n => !(within n 0 4096)) with
        | none => rfl
        | some k => simp; omega
  obtain ⟨i, h1, h2⟩ := key
  rw [h1, Option.bind_some, h2]
end Go.Fx
/- Chapter 32: problem.Check and the reference's Check say the same; so do the Checks of reasons. -/
set_option linter.unusedSimpArgs false
set_option linter.unusedVariables false
set_option maxRecDepth 100000
namespace Go.Fx
open Go Go.RowKit
def okCell (c : XCell) : Bool := decide (0 ≤ c.index) && decide (0 ≤ c.minute)
def okUse (cells : List XCell) (u : XUse) : Bool := decide (u.cell ∈ cells) && within u.places 1 8
def okChoice (cells : List XCell) (c : XChoice) : Bool :=
  within c.delay 0 1048576 && (within c.cost 0 1048576 && (within c.changes 0 1048576 && (c.uses.all (okUse cells) && adj (fun x y => cb x.cell y.cell) c.uses)))
def okVar (cells : List XCell) (n : Nat) (v : XVariable) : Bool :=
  !(decide (v.leaves.length = 0)) && (within v.choices.length 1 96 && (((v.leaves.all fun k => within k 0 ((n : Int) - 1)) && adj (fun x y => decide (x < y)) v.leaves) && v.choices.all (okChoice cells)))
def okRow (n : Nat) (r : List Int) : Bool := decide (r.length = n) && r.all fun k => within k 0 4096
def okProb (p : XProblem) : Bool :=
  decide (p.cells.length ≤ 4096) && (within p.capacity.length 1 32 && (decide (p.variables.length ≤ 64) && ((p.cells.all okCell && adj cb p.cells) && (p.capacity.all (okRow p.cells.length) && p.variables.all (okVar p.cells p.capacity.length)))))
/-- in a rising list the first is the least, the last the greatest -/
theorem adj_ends {l : List Int} {n : Int} (h : adj (fun x y => decide (x < y)) l = true) {x : Int} (hx : x ∈ l) (d : Int) : l.getD 0 d ≤ x ∧ x ≤ l.getD (l.length - 1) d := by
  induction l generalizing x with
  | nil => cases hx
  | cons a t ih =>
    cases t with
    | nil => simp at hx; simp [hx]
    | cons b t =>
      simp only [adj, Bool.and_eq_true, decide_eq_true_eq] at h
      have e : (a :: b :: t).getD ((a :: b :: t).length - 1) d = (b :: t).getD ((b :: t).length - 1) d := by simp
      rw [e]
      rcases List.mem_cons.1 hx with rfl | hx
      · have := ih h.2 (List.mem_cons_self ..)
        simp only [List.getD_cons_zero] at this ⊢
        omega
      · have := ih h.2 hx
        simp only [List.getD_cons_zero] at this ⊢
        omega
theorem leaves_eq {l : List Int} {n : Nat} (h0 : l.length ≠ 0) (h : adj (fun x y => decide (x < y)) l = true) :
    (!(decide (l.getD 0 default < 0)) && !(decide ((n : Int) ≤ l.getD (l.length - 1) default))) = l.all fun k => within k 0 ((n : Int) - 1) := by
  rw [Bool.eq_iff_iff]
  simp only [Bool.and_eq_true, Bool.not_eq_true', decide_eq_false_iff_not, List.all_eq_true, within, decide_eq_true_eq]
  constructor
  · intro ⟨h1, h2⟩ x hx
    have := adj_ends (n := 0) h hx default
    omega
  · intro ha
    have m0 : l.getD 0 default ∈ l := by
      rw [getD_of (List.getElem?_eq_getElem (show 0 < l.length by omega))]; exact List.getElem_mem _
    have m1 : l.getD (l.length - 1) default ∈ l := by
      rw [getD_of (List.getElem?_eq_getElem (show l.length - 1 < l.length by omega))]; exact List.getElem_mem _
    have := ha _ m0; have := ha _ m1
    omega
theorem sm_len {α : Type} {S : α → Prop} {l : List α} (h : SmL S l) : l.length < 9223372036854775807 := by have := h.1; omega
theorem ge0 {α : Type} {l : List α} {i : Nat} {x : α} (h : l[i]? = some x) : x ∈ l := List.mem_of_getElem? h
theorem choice12 {p : XProblem} {map_1 : List (XCell × Bool)} {v : XVariable} {i : Nat} (hm : ∀ c, (mget map_1 c).getD false = decide (c ∈ p.cells)) (hv : p.variables[i]? = some v) (hs : smXVariable v)
    (sf156 : Int → Option Int) (hw : IntKind.i64.wrap ((i : Int) + 1) = (i : Int) + 1) :
    loop1 (m12_problem_Check_B3 p map_1 (i : Int) sf156) (((((p.variables.getD (i : Int).toNat default).choices).length : Int) - 0).toNat + 1) 0 = bif v.choices.all (okChoice p.cells) then sf156 ((i : Int) + 1) else some 270 := by
  simp only [Int.toNat_natCast, getD_of hv]
  refine all_up (okChoice p.cells) (some 270) (sf156 ((i : Int) + 1)) (sm_len hs.2.2.2) ?_ ?_ (by omega)
  · intro sf; unfold m12_problem_Check_B3
    simp only [Int.toNat_natCast, getD_of hv, ltE, cond_false, hw]
  · intro sf j c h1 h2 h3
    have hc := hs.2.2.2.2 c (ge0 h2)
    unfold m12_problem_Check_B3
    simp only [Int.toNat_natCast, getD_of hv, getD_of h2, ltBd h1, inBd h1, ck_True, cond_true, m33_eq, Option.bind_some, jn_eq, m40_eq _ (sm_len hc.2.2.2), okChoice]
    rw [all_up (B := m12_problem_Check_B4 p map_1 (i : Int) (j : Int) sf) (l := c.uses) (okUse p.cells) (some 270) (sf ((j : Int) + 1)) (sm_len hc.2.2.2) ?_ ?_ (by omega)]
    · cases within c.delay 0 1048576 <;> cases within c.cost 0 1048576 <;> cases within c.changes 0 1048576 <;> cases adj (fun x y => cb x.cell y.cell) c.uses <;> cases c.uses.all (okUse p.cells) <;> rfl
    · intro sf'; unfold m12_problem_Check_B4
      simp only [Int.toNat_natCast, getD_of hv, getD_of h2, ltE, cond_false, h3]
    · intro sf' k u h4 h5 h6
      unfold m12_problem_Check_B4
      simp only [Int.toNat_natCast, getD_of hv, getD_of h2, getD_of h5, ltBd h4, inBd h4, ck_True, cond_true, m33_eq, Option.bind_some, jn_eq, hm, okUse, h6]
      cases decide (u.cell ∈ p.cells) <;> cases within u.places 1 8 <;> rfl
theorem m12_eq {p : XProblem} (hp : smXProblem p) : m12_problem_Check p = some (bif okProb p then 0 else 270) := by
  obtain ⟨s1, s2, s3⟩ := hp
  unfold m12_problem_Check
  simp only [jn_eq, m33_eq, Option.bind_some, m34_eq _ (sm_len s1)]
  have vars : ∀ map_1 : List (XCell × Bool), (∀ c, (mget map_1 c).getD false = decide (c ∈ p.cells)) →
      loop1 (m12_problem_Check_B2 p map_1) (((p.variables.length : Int) - 0).toNat + 1) 0 = bif p.variables.all (okVar p.cells p.capacity.length) then some 0 else some 270 := by
    intro map_1 hm
    refine all_up (okVar p.cells p.capacity.length) (some 270) (some 0) (sm_len s3) ?_ ?_ (by omega)
    · intro sf; unfold m12_problem_Check_B2; simp only [ltE, cond_false]
    · intro sf i v h1 h2 h3
      have hv := s3.2 v (ge0 h2)
      unfold m12_problem_Check_B2
      rw [choice12 hm h2 hv sf h3]
      simp only [Int.toNat_natCast, getD_of h2, ltBd h1, inBd h1, ck_True, cond_true, m33_eq, Option.bind_some, jn_eq, m38_eq _ (sm_len hv.2.2.1), okVar]
      by_cases h0 : v.leaves.length = 0
      · simp [h0]
      · have e1 : IntKind.i64.wrap ((v.leaves.length : Int) - 1) = ((v.leaves.length - 1 : Nat) : Int) := by
          have := sm_len hv.2.2.1
          exact (wrap_i64 (by omega) (by omega)).trans (by omega)
        have c1 : ((0 : Int) ≤ 0 ∧ (0 : Int) < (v.leaves.length : Int)) = True := by simp; omega
        have c2 : ((0 : Int) ≤ ((v.leaves.length - 1 : Nat) : Int) ∧ ((v.leaves.length - 1 : Nat) : Int) < (v.leaves.length : Int)) = True := by simp; omega
        have c3 : decide ((v.leaves.length : Int) = 0) = false := by simpa using h0
        simp only [e1, c1, c2, c3, ck_True, cond_false, h0, decide_false, Bool.not_false, Bool.true_and, Int.toNat_natCast]
        cases within v.choices.length 1 96
        · rfl
        · simp only [Bool.not_true, cond_false, Bool.true_and]
          cases ha : adj (fun x y => decide (x < y)) v.leaves
          · simp
          · rw [← leaves_eq h0 ha]
            simp only [Bool.not_true, cond_false, Bool.and_true]
            cases decide (v.leaves.getD 0 default < 0) <;> cases decide ((p.capacity.length : Int) ≤ v.leaves.getD (v.leaves.length - 1) default) <;> cases v.choices.all (okChoice p.cells) <;> rfl
  have caps : ∀ map_1 : List (XCell × Bool), (∀ c, (mget map_1 c).getD false = decide (c ∈ p.cells)) →
      loop1 (m12_problem_Check_B1 p map_1) (((p.capacity.length : Int) - 0).toNat + 1) 0 = bif p.capacity.all (okRow p.cells.length) then (bif p.variables.all (okVar p.cells p.capacity.length) then some 0 else some 270) else some 270 := by
    intro map_1 hm
    refine all_up (okRow p.cells.length) (some 270) _ (sm_len s2) ?_ ?_ (by omega)
    · intro sf; unfold m12_problem_Check_B1; rw [vars map_1 hm]; simp only [ltE, cond_false]
    · intro sf i r h1 h2 h3
      unfold m12_problem_Check_B1
      simp only [Int.toNat_natCast, getD_of h2, ltBd h1, inBd h1, ck_True, cond_true, jn_eq, m36_eq _ (sm_len (s2.2 r (ge0 h2))), Option.bind_some, okRow, h3]
      by_cases h : r.length = p.cells.length
      · simp only [h, ne_eq, not_true_eq_false, decide_false, cond_false, decide_true, Bool.true_and]
        cases r.all fun k => within k 0 4096 <;> rfl
      · have : ((r.length : Int) ≠ (p.cells.length : Int)) := by omega
        simp [h, this]
  have cells : loop2 (m12_problem_Check_B0 p) (((p.cells.length : Int) - 0).toNat + 1) 0 ([] : List (XCell × Bool)) = bif p.cells.all okCell then (bif p.capacity.all (okRow p.cells.length) then (bif p.variables.all (okVar p.cells p.capacity.length) then some 0 else some 270) else some 270) else some 270 := by
    refine up_listA (fun i s => ∀ c, (mget s c).getD false = decide (c ∈ p.cells.take i)) (fun _ t _ => bif t.all okCell then _ else some 270) p.cells (sm_len s1) ?_ ?_ (by omega) (by simp [mget])
    · intro sf s hI
      unfold m12_problem_Check_B0
      rw [List.take_length] at hI
      rw [caps s hI]; simp only [ltE, cond_false, List.all_nil, cond_true]
    · intro sf i s x t h1 h2 h3 hI ih
      unfold m12_problem_Check_B0
      simp only [Int.toNat_natCast, getD_of h2, ltBd h1, inBd h1, ck_True, cond_true, jn_eq, h3, List.all_cons, okCell]
      have hn : ∀ c, (mget (mput s x true) c).getD false = decide (c ∈ p.cells.take (i + 1)) := by
        intro c
        rw [mget_put, List.take_add_one, h2]
        by_cases hc : x = c
        · simp [hc]
        · rw [if_neg hc, hI c]; simp [Ne.symm hc]
      rw [ih _ hn]
      by_cases h4 : x.index < 0
      · have : ¬ (0 ≤ x.index) := by omega
        simp [h4, this]
      · by_cases h5 : x.minute < 0
        · have : ¬ (0 ≤ x.minute) := by omega
          simp [h4, h5, this]
        · have a1 : 0 ≤ x.index := by omega
          have a2 : 0 ≤ x.minute := by omega
          simp [h4, h5, a1, a2]
  rw [cells]
  unfold okProb
  by_cases h1 : p.cells.length ≤ 4096
  · have e1 : ¬ ((4096 : Int) < (p.cells.length : Int)) := by omega
    by_cases h2 : p.variables.length ≤ 64
    · have e2 : ¬ ((64 : Int) < (p.variables.length : Int)) := by omega
      simp only [h1, h2, e1, e2, decide_true, decide_false, cond_false, Bool.true_and]
      cases within p.capacity.length 1 32 <;> cases adj cb p.cells <;> cases p.cells.all okCell <;> cases p.capacity.all (okRow p.cells.length) <;> cases p.variables.all (okVar p.cells p.capacity.length) <;> rfl
    · have e2 : (64 : Int) < (p.variables.length : Int) := by omega
      simp only [h1, h2, e1, e2, decide_true, decide_false, cond_false, cond_true, Bool.true_and, Bool.false_and, Bool.and_false]
      cases within p.capacity.length 1 32 <;> rfl
  · have e1 : (4096 : Int) < (p.cells.length : Int) := by omega
    simp [h1, e1]
end Go.Fx
/- Chapter 32: the reference's Check of problems; both Checks of reasons. -/
set_option linter.unusedSimpArgs false
set_option linter.unusedVariables false
set_option maxRecDepth 100000
namespace Go.Fx
open Go Go.RowKit
theorem m81_eq (l : List XCell) (c : XCell) (hl : l.length < 9223372036854775807) :
    m81_overflightref27_at l c = some (match l.findIdx? (fun x => decide (x = c)) with | none => (-1 : Int) | some k => (k : Int)) := by
  unfold m81_overflightref27_at
  rw [up_listI (B := m81_overflightref27_at_B0 l c) (fun i t => some (match t.findIdx? (fun x => decide (x = c)) with | none => (-1 : Int) | some k => ((i + k : Nat) : Int))) l hl ?_ ?_ (by omega)]
  · simp
  · intro sf; unfold m81_overflightref27_at_B0; simp
  · intro sf i x t h1 h2 h3 ih
    unfold m81_overflightref27_at_B0
    simp only [ltBd h1, inBd h1, ck_True, Int.toNat_natCast, getD_of h2, h3, cond_true, List.findIdx?_cons]
    cases hw : decide (x = c)
    · simp only [cond_false, Bool.false_eq_true, if_false]
      rw [ih]
      cases t.findIdx? (fun x => decide (x = c)) with
      | none => rfl
      | some k => simp; omega
    · simp
theorem at_neg (l : List XCell) (c : XCell) : decide ((match l.findIdx? (fun x => decide (x = c)) with | none => (-1 : Int) | some k => (k : Int)) < 0) = !(decide (c ∈ l)) := by
  cases h : l.findIdx? (fun x => decide (x = c)) with
  | none =>
    rw [List.findIdx?_eq_none_iff] at h
    have : c ∉ l := fun hc => by have := h c hc; simp at this
    simp [this]
  | some k =>
    obtain ⟨hk, h1, _⟩ := List.findIdx?_eq_some_iff_getElem.1 h
    have : c ∈ l := by have h1 : l[k] = c := by simpa using h1
                       rw [← h1]; exact List.getElem_mem hk
    simp [this]
theorem m62_eq {p : XProblem} {v : XVariable} (h1 : SmL smXCell p.cells) (h2 : p.capacity.length < 9223372036854775807) (hs : smXVariable v) :
    m62_overflightref27_variable p v = some (okVar p.cells p.capacity.length v) := by
  unfold m62_overflightref27_variable
  have chs : loop1 (m62_overflightref27_variable_B1 p v) (((v.choices.length : Int) - 0).toNat + 1) 0 = bif v.choices.all (okChoice p.cells) then some true else some false := by
    refine all_up (okChoice p.cells) (some false) (some true) (sm_len hs.2.2.2) ?_ ?_ (by omega)
    · intro sf; unfold m62_overflightref27_variable_B1; simp only [ltE, cond_false]
    · intro sf i c e1 e2 e3
      have hc := hs.2.2.2.2 c (ge0 e2)
      unfold m62_overflightref27_variable_B1
      simp only [Int.toNat_natCast, getD_of e2, ltBd e1, inBd e1, ck_True, cond_true, m61_eq, Option.bind_some, jn_eq, okChoice]
      rw [adj_up (B := m62_overflightref27_variable_B2 p v (i : Int) sf) (l := c.uses) (okUse p.cells) (fun x y => cb x.cell y.cell) (some false) (sf ((i : Int) + 1)) (sm_len hc.2.2.2) ?_ ?_ ?_ (by omega)]
      · cases within c.delay 0 1048576 <;> cases within c.cost 0 1048576 <;> cases within c.changes 0 1048576 <;> cases adj (fun x y => cb x.cell y.cell) c.uses <;> cases c.uses.all (okUse p.cells) <;> rfl
      · intro sf'; unfold m62_overflightref27_variable_B2
        simp only [Int.toNat_natCast, getD_of e2, ltE, cond_false, e3]
      · intro sf' u h0 hu hw
        unfold m62_overflightref27_variable_B2
        have c1 : ((0 : Int) ≤ 0 ∧ (0 : Int) < (c.uses.length : Int)) = True := by simp <;> omega
        have c2 : decide ((0 : Int) < (c.uses.length : Int)) = true := by simp <;> omega
        have hu' : c.uses.getD (0 : Int).toNat default = u := getD_of hu
        simp only [Int.toNat_natCast, getD_of e2, hu', c1, c2, ck_True, cond_true, m61_eq, m81_eq _ _ (sm_len h1), Option.bind_some, at_neg, jn_eq, okUse, hw, Int.lt_irrefl, decide_false, cond_false]
        cases decide (u.cell ∈ p.cells) <;> cases within u.places 1 8 <;> rfl
      · intro sf' j y u h0 hy hu hw hw2
        unfold m62_overflightref27_variable_B2
        have c3 : decide ((0 : Int) < ((j + 1 : Nat) : Int)) = true := by simp <;> omega
        simp only [Int.toNat_natCast, getD_of e2, getD_of hu, getD_of hy, ltBd h0, inBd h0, inBd (show j < c.uses.length by omega), c3, ck_True, cond_true, m61_eq, m60_eq, m81_eq _ _ (sm_len h1), Option.bind_some, at_neg, jn_eq, okUse, hw, hw2]
        cases decide (u.cell ∈ p.cells) <;> cases within u.places 1 8 <;> cases cb y.cell u.cell <;> rfl
  have e1 : IntKind.i64.wrap ((p.capacity.length : Int) - 1) = (p.capacity.length : Int) - 1 := wrap_i64 (by omega) (by omega)
  rw [adj_up (B := m62_overflightref27_variable_B0 p v) (l := v.leaves) (fun k => within k 0 ((p.capacity.length : Int) - 1)) (fun x y => decide (x < y)) (some false) (bif v.choices.all (okChoice p.cells) then some true else some false) (sm_len hs.2.2.1) ?_ ?_ ?_ (by omega)]
  · simp only [jn_eq, okVar]
    by_cases a : v.leaves.length = 0
    · simp [a]
    · have a1 : ¬ ((v.leaves.length : Int) < 1) := by omega
      simp only [a, a1, decide_false, cond_false, Bool.not_false, Bool.true_and]
      by_cases b : (v.choices.length : Int) < 1
      · have : within v.choices.length 1 96 = false := by simp [within]; omega
        simp [b, this]
      · by_cases b2 : (96 : Int) < (v.choices.length : Int)
        · have : within v.choices.length 1 96 = false := by simp [within]; omega
          simp [b, b2, this]
        · have : within v.choices.length 1 96 = true := by simp [within]; omega
          simp only [b, b2, this, decide_false, cond_false, Bool.true_and]
          cases (v.leaves.all fun k => within k 0 ((p.capacity.length : Int) - 1)) <;> cases adj (fun x y => decide (x < y)) v.leaves <;> cases v.choices.all (okChoice p.cells) <;> rfl
  · intro sf; unfold m62_overflightref27_variable_B0; rw [chs]; simp only [ltE, cond_false]
  · intro sf k h0 hk hw
    unfold m62_overflightref27_variable_B0
    have c1 : ((0 : Int) ≤ 0 ∧ (0 : Int) < (v.leaves.length : Int)) = True := by simp <;> omega
    have c2 : decide ((0 : Int) < (v.leaves.length : Int)) = true := by simp <;> omega
    have hk' : v.leaves.getD (0 : Int).toNat default = k := getD_of hk
    simp only [hk', c1, c2, ck_True, cond_true, m61_eq, Option.bind_some, jn_eq, hw, e1, Int.lt_irrefl, decide_false, cond_false]
    cases within k 0 ((p.capacity.length : Int) - 1) <;> rfl
  · intro sf j y k h0 hy hk hw hw2
    unfold m62_overflightref27_variable_B0
    have c3 : decide ((0 : Int) < ((j + 1 : Nat) : Int)) = true := by simp <;> omega
    have c4 : decide (k ≤ y) = !(decide (y < k)) := by by_cases h : y < k <;> simp [h] <;> omega
    simp only [Int.toNat_natCast, getD_of hk, getD_of hy, ltBd h0, inBd h0, inBd (show j < v.leaves.length by omega), c3, c4, ck_True, cond_true, m61_eq, Option.bind_some, jn_eq, hw, hw2, e1]
    cases within k 0 ((p.capacity.length : Int) - 1) <;> cases decide (y < k) <;> rfl
theorem m31_eq {p : XProblem} (hp : smXProblem p) : m31_overflightref27_Check p = some (bif okProb p then 0 else 270) := by
  obtain ⟨s1, s2, s3⟩ := hp
  have vars : loop1 (m31_overflightref27_Check_B3 p) (((p.variables.length : Int) - 0).toNat + 1) 0 = bif p.variables.all (okVar p.cells p.capacity.length) then some 0 else some 270 := by
    refine all_up (okVar p.cells p.capacity.length) (some 270) (some 0) (sm_len s3) ?_ ?_ (by omega)
    · intro sf; unfold m31_overflightref27_Check_B3; simp only [ltE, cond_false]
    · intro sf i v h1 h2 h3
      unfold m31_overflightref27_Check_B3
      simp only [Int.toNat_natCast, getD_of h2, ltBd h1, inBd h1, ck_True, cond_true, m62_eq s1 (sm_len s2) (s3.2 v (ge0 h2)), Option.bind_some, h3]
      cases okVar p.cells p.capacity.length v <;> rfl
  have caps : loop1 (m31_overflightref27_Check_B1 p) (((p.capacity.length : Int) - 0).toNat + 1) 0 = bif p.capacity.all (okRow p.cells.length) then (bif p.variables.all (okVar p.cells p.capacity.length) then some 0 else some 270) else some 270 := by
    refine all_up (okRow p.cells.length) (some 270) _ (sm_len s2) ?_ ?_ (by omega)
    · intro sf; unfold m31_overflightref27_Check_B1; rw [vars]; simp only [ltE, cond_false]
    · intro sf i r h1 h2 h3
      unfold m31_overflightref27_Check_B1
      simp only [Int.toNat_natCast, getD_of h2, ltBd h1, inBd h1, ck_True, cond_true, okRow]
      by_cases h : r.length = p.cells.length
      · simp only [h, ne_eq, not_true_eq_false, decide_false, cond_false, decide_true, Bool.true_and]
        rw [← h]
        refine all_up (B := m31_overflightref27_Check_B2 p (i : Int) sf) (l := r) (fun k => within k 0 4096) (some 270) (sf ((i : Int) + 1)) (sm_len (s2.2 r (ge0 h2))) ?_ ?_ (by omega)
        · intro sf'; unfold m31_overflightref27_Check_B2; rw [h]; simp only [ltE, cond_false, h3]
        · intro sf' j k h4 h5 h6
          unfold m31_overflightref27_Check_B2
          simp only [Int.toNat_natCast, getD_of h2, getD_of h5, ← h, ltBd h4, inBd h4, inBd h1, ck_True, cond_true, m61_eq, Option.bind_some, h6]
          cases within k 0 4096 <;> rfl
      · have : ((r.length : Int) ≠ (p.cells.length : Int)) := by omega
        simp [h, this]
  have cells : loop1 (m31_overflightref27_Check_B0 p) (((p.cells.length : Int) - 0).toNat + 1) 0 = bif (p.cells.all okCell && adj cb p.cells) then (bif p.capacity.all (okRow p.cells.length) then (bif p.variables.all (okVar p.cells p.capacity.length) then some 0 else some 270) else some 270) else some 270 := by
    have oc : ∀ x : XCell, okCell x = (!(decide (x.index < 0)) && !(decide (x.minute < 0))) := by
      intro x; unfold okCell; by_cases a : x.index < 0 <;> by_cases b : x.minute < 0 <;> simp [a, b] <;> omega
    refine adj_up okCell cb (some 270) _ (sm_len s1) ?_ ?_ ?_ (by omega)
    · intro sf; unfold m31_overflightref27_Check_B0; rw [caps]; simp only [ltE, cond_false]
    · intro sf x h0 hx hw
      unfold m31_overflightref27_Check_B0
      have c1 : ((0 : Int) ≤ 0 ∧ (0 : Int) < (p.cells.length : Int)) = True := by simp <;> omega
      have c2 : decide ((0 : Int) < (p.cells.length : Int)) = true := by simp <;> omega
      have hk' : p.cells.getD (0 : Int).toNat default = x := getD_of hx
      simp only [hk', c1, c2, ck_True, cond_true, jn_eq, hw, oc, Int.lt_irrefl, decide_false, cond_false]
      cases decide (x.index < 0) <;> cases decide (x.minute < 0) <;> rfl
    · intro sf j y x h0 hy hx hw hw2
      unfold m31_overflightref27_Check_B0
      have c3 : decide ((0 : Int) < ((j + 1 : Nat) : Int)) = true := by simp <;> omega
      simp only [Int.toNat_natCast, getD_of hx, getD_of hy, ltBd h0, inBd h0, inBd (show j < p.cells.length by omega), c3, ck_True, cond_true, m60_eq, Option.bind_some, jn_eq, hw, hw2, oc]
      cases decide (x.index < 0) <;> cases decide (x.minute < 0) <;> cases cb y x <;> rfl
  unfold m31_overflightref27_Check
  rw [cells]
  simp only [jn_eq]
  unfold okProb
  by_cases h1 : p.cells.length ≤ 4096
  · have e1 : ¬ ((4096 : Int) < (p.cells.length : Int)) := by omega
    simp only [h1, e1, decide_true, decide_false, cond_false, Bool.true_and]
    by_cases b : (p.capacity.length : Int) < 1
    · have : within p.capacity.length 1 32 = false := by simp [within]; omega
      simp [b, this]
    · by_cases b2 : (32 : Int) < (p.capacity.length : Int)
      · have : within p.capacity.length 1 32 = false := by simp [within]; omega
        simp [b, b2, this]
      · have : within p.capacity.length 1 32 = true := by simp [within]; omega
        simp only [b, b2, this, decide_false, cond_false, Bool.true_and]
        by_cases h2 : p.variables.length ≤ 64
        · have e2 : ¬ ((64 : Int) < (p.variables.length : Int)) := by omega
          simp only [h2, e2, decide_true, decide_false, cond_false, Bool.true_and]
          cases adj cb p.cells <;> cases p.cells.all okCell <;> cases p.capacity.all (okRow p.cells.length) <;> cases p.variables.all (okVar p.cells p.capacity.length) <;> rfl
        · have e2 : (64 : Int) < (p.variables.length : Int) := by omega
          simp [h2, e2]
  · have e1 : (4096 : Int) < (p.cells.length : Int) := by omega
    simp [h1, e1]
/-! reasons -/
def okIdx (n : Nat) (k : Int) : Bool := decide (0 ≤ k) && decide (k < (n : Int))
def okPlace (p : XProblem) (x : XPlace) : Bool := okIdx p.capacity.length x.leaf && okIdx p.cells.length x.cell
def pb (a b : XPlace) : Bool := decide (a.leaf < b.leaf) || (decide (a.leaf = b.leaf) && decide (a.cell < b.cell))
def okReason (p : XProblem) (r : XReason) : Bool := (r.variables.all (okIdx p.variables.length) && adj (fun x y => decide (x < y)) r.variables) && (r.places.all (okPlace p) && adj pb r.places)
theorem m63_eq (a b : XPlace) : m63_overflightref32_Before a b = some (pb a b) := by
  unfold m63_overflightref32_Before pb
  by_cases h : a.leaf < b.leaf
  · simp [h]
  · by_cases h2 : a.leaf = b.leaf <;> simp [h, h2]
def cmpP (a b : XPlace) : Int := if cmpI a.leaf b.leaf ≠ 0 then cmpI a.leaf b.leaf else cmpI a.cell b.cell
theorem m55_eq (a b : XPlace) : m55_reason_order a b = some (cmpP a b) := by
  unfold m55_reason_order cmpP
  simp only [m39_eq, m64_eq, Option.bind_some]
theorem cmpP_pb (a b : XPlace) : decide (0 ≤ cmpP a b) = !(pb a b) := by
  unfold cmpP pb cmpI
  by_cases h : a.leaf < b.leaf
  · simp [h]
  · by_cases h2 : b.leaf < a.leaf
    · have : a.leaf ≠ b.leaf := by omega
      simp [h, h2, this]
    · have : a.leaf = b.leaf := by omega
      simp only [this, Int.lt_irrefl, if_false, ne_eq, not_true_eq_false, decide_false, Bool.false_or, decide_true, Bool.true_and]
      by_cases h3 : a.cell < b.cell
      · simp [h3]
      · simp only [h3, if_false, decide_false, Bool.not_false, decide_eq_true_eq]; split <;> omega
theorem oi_eq (n : Nat) (k : Int) : okIdx n k = (!(decide (k < 0)) && !(decide ((n : Int) ≤ k))) := by
  unfold okIdx; by_cases a : k < 0 <;> by_cases b : (n : Int) ≤ k <;> simp [a, b] <;> omega
theorem m23_eq {p : XProblem} {r : XReason} (hp : smXProblem p) (hr : smXReason r) : m23_reason_Check p r = some (bif okProb p then (bif okReason p r then 0 else 320) else 270) := by
  unfold m23_reason_Check
  rw [m12_eq hp]
  have pl : loop1 (m23_reason_Check_B1 p r) (((r.places.length : Int) - 0).toNat + 1) 0 = bif (r.places.all (okPlace p) && adj pb r.places) then some 0 else some 320 := by
    refine adj_up (okPlace p) pb (some 320) (some 0) (sm_len hr.2) ?_ ?_ ?_ (by omega)
    · intro sf; unfold m23_reason_Check_B1; simp only [ltE, cond_false]
    · intro sf x h0 hx hw
      unfold m23_reason_Check_B1
      have c1 : ((0 : Int) ≤ 0 ∧ (0 : Int) < (r.places.length : Int)) = True := by simp <;> omega
      have c2 : decide ((0 : Int) < (r.places.length : Int)) = true := by simp <;> omega
      have hk' : r.places.getD (0 : Int).toNat default = x := getD_of hx
      simp only [hk', c1, c2, ck_True, cond_true, jn_eq, hw, okPlace, oi_eq, Int.lt_irrefl, decide_false, cond_false]
      cases decide (x.leaf < 0) <;> cases decide ((p.capacity.length : Int) ≤ x.leaf) <;> cases decide (x.cell < 0) <;> cases decide ((p.cells.length : Int) ≤ x.cell) <;> rfl
    · intro sf j y x h0 hy hx hw hw2
      unfold m23_reason_Check_B1
      have c3 : decide ((0 : Int) < ((j + 1 : Nat) : Int)) = true := by simp <;> omega
      simp only [Int.toNat_natCast, getD_of hx, getD_of hy, ltBd h0, inBd h0, inBd (show j < r.places.length by omega), c3, ck_True, cond_true, m55_eq, cmpP_pb, Option.bind_some, jn_eq, hw, hw2, okPlace, oi_eq]
      cases decide (x.leaf < 0) <;> cases decide ((p.capacity.length : Int) ≤ x.leaf) <;> cases decide (x.cell < 0) <;> cases decide ((p.cells.length : Int) ≤ x.cell) <;> cases pb y x <;> rfl
  have vs : loop1 (m23_reason_Check_B0 p r) (((r.variables.length : Int) - 0).toNat + 1) 0 = bif (r.variables.all (okIdx p.variables.length) && adj (fun x y => decide (x < y)) r.variables) then (bif (r.places.all (okPlace p) && adj pb r.places) then some 0 else some 320) else some 320 := by
    refine adj_up (okIdx p.variables.length) (fun x y => decide (x < y)) (some 320) _ (sm_len hr.1) ?_ ?_ ?_ (by omega)
    · intro sf; unfold m23_reason_Check_B0; rw [pl]; simp only [ltE, cond_false]
    · intro sf x h0 hx hw
      unfold m23_reason_Check_B0
      have c1 : ((0 : Int) ≤ 0 ∧ (0 : Int) < (r.variables.length : Int)) = True := by simp <;> omega
      have c2 : decide ((0 : Int) < (r.variables.length : Int)) = true := by simp <;> omega
      have hk' : r.variables.getD (0 : Int).toNat default = x := getD_of hx
      simp only [hk', c1, c2, ck_True, cond_true, jn_eq, hw, oi_eq, Int.lt_irrefl, decide_false, cond_false]
      cases decide (x < 0) <;> cases decide ((p.variables.length : Int) ≤ x) <;> rfl
    · intro sf j y x h0 hy hx hw hw2
      unfold m23_reason_Check_B0
      have c3 : decide ((0 : Int) < ((j + 1 : Nat) : Int)) = true := by simp <;> omega
      have c4 : decide (x ≤ y) = !(decide (y < x)) := by by_cases h : y < x <;> simp [h] <;> omega
      simp only [Int.toNat_natCast, getD_of hx, getD_of hy, ltBd h0, inBd h0, inBd (show j < r.variables.length by omega), c3, c4, ck_True, cond_true, jn_eq, hw, hw2, oi_eq]
      cases decide (x < 0) <;> cases decide ((p.variables.length : Int) ≤ x) <;> cases decide (y < x) <;> rfl
  rw [vs]
  unfold okReason
  cases okProb p
  · rfl
  · simp only [cond_true, Option.bind_some]
    cases (r.variables.all (okIdx p.variables.length) && adj (fun x y => decide (x < y)) r.variables) <;> cases (r.places.all (okPlace p) && adj pb r.places) <;> rfl
end Go.Fx
namespace Go.Fx
open Go Go.RowKit Go.Proofs
end Go.Fx
/- Chapter 32: small problems; a problem is the same as itself; Part. -/
set_option linter.unusedSimpArgs false
set_option linter.unusedVariables false
set_option maxRecDepth 100000
namespace Go.Fx
open Go Go.RowKit
theorem sane32 : m10_overflightlaw32_sane = some true := by decide +kernel
theorem m30_some (p : XProblem) (lim : Int) (h : p.variables.length ≤ 999) : ∃ v, m30_overflightref27_Many p lim = some v := by
  unfold m30_overflightref27_Many
  obtain ⟨fu, hfu⟩ : ∃ n : Nat, n = 1000000 := ⟨_, rfl⟩
  rw [← hfu]
  have main : ∀ (fuel i : Nat) (n : Int), i ≤ p.variables.length → p.variables.length - i < fuel → ∃ v, loop2 (m30_overflightref27_Many_B0 p lim) fuel n (i : Int) = some v := by
    intro fuel
    induction fuel with
    | zero => intro i n _ h; omega
    | succ m ih =>
      intro i n h1 h2
      rw [loop2_succ]
      unfold m30_overflightref27_Many_B0
      by_cases h3 : i < p.variables.length
      · simp only [ltBd h3, inBd h3, cond_true, jn_eq, ck_True]
        cases decide (n < lim)
        · exact ⟨_, rfl⟩
        · simp only [cond_true]
          rw [wrapS (i := i) (by omega)]
          exact ih (i + 1) _ (by omega) (by omega)
      · have : decide ((i : Int) < (p.variables.length : Int)) = false := by simpa using h3
        simp only [this, cond_false, jn_eq]; exact ⟨_, rfl⟩
  exact main fu 0 1 (by omega) (by omega)
/-- what is known of a small problem -/
structure Small (p : XProblem) : Prop where
  cells : p.cells.length ≤ 12
  caps : p.capacity.length ≤ 4
  vars : p.variables.length ≤ 6
  row : ∀ r ∈ p.capacity, r.length ≤ 16
  var : ∀ v ∈ p.variables, v.leaves.length ≤ 8 ∧ v.choices.length ≤ 8 ∧ ∀ c ∈ v.choices, c.uses.length ≤ 12
theorem m18_eq {p : XProblem} (hp : smXProblem p) : ∃ b, m18_overflightref27_Few p = some b ∧ (b = true → Small p) := by
  obtain ⟨s1, s2, s3⟩ := hp
  unfold m18_overflightref27_Few
  simp only [jn_eq]
  by_cases a1 : (12 : Int) < (p.cells.length : Int)
  · exact ⟨false, by simp [a1], by simp⟩
  by_cases a2 : (4 : Int) < (p.capacity.length : Int)
  · exact ⟨false, by simp [a1, a2], by simp⟩
  by_cases a3 : (6 : Int) < (p.variables.length : Int)
  · exact ⟨false, by simp [a1, a2, a3], by simp⟩
  simp only [a1, a2, a3, decide_false, cond_false]
  obtain ⟨mn, hmn⟩ := m30_some p 2000 (by omega)
  have ok : ∀ v : XVariable, Bool := fun v => !(decide ((8 : Int) < (v.leaves.length : Int))) && (!(decide ((8 : Int) < (v.choices.length : Int))) && v.choices.all fun c => !(decide ((12 : Int) < (c.uses.length : Int))))
  have vars : loop1 (m18_overflightref27_Few_B1 p) (((p.variables.length : Int) - 0).toNat + 1) 0 = bif (p.variables.all fun v => !(decide ((8 : Int) < (v.leaves.length : Int))) && (!(decide ((8 : Int) < (v.choices.length : Int))) && v.choices.all fun c => !(decide ((12 : Int) < (c.uses.length : Int))))) then some (decide (mn < 2000)) else some false := by
    refine all_up _ (some false) _ (sm_len s3) ?_ ?_ (by omega)
    · intro sf; unfold m18_overflightref27_Few_B1; simp only [ltE, cond_false, hmn, Option.bind_some]
    · intro sf i v h1 h2 h3
      unfold m18_overflightref27_Few_B1
      have hv := s3.2 v (ge0 h2)
      simp only [Int.toNat_natCast, getD_of h2, ltBd h1, inBd h1, ck_True, cond_true, jn_eq]
      rw [all_up (B := m18_overflightref27_Few_B2 p (i : Int) sf) (l := v.choices) (fun c => !(decide ((12 : Int) < (c.uses.length : Int)))) (some false) (sf ((i : Int) + 1)) (sm_len hv.2.2.2) ?_ ?_ (by omega)]
      · cases decide ((8 : Int) < (v.leaves.length : Int)) <;> cases decide ((8 : Int) < (v.choices.length : Int)) <;> rfl
      · intro sf'; unfold m18_overflightref27_Few_B2; simp only [Int.toNat_natCast, getD_of h2, ltE, cond_false, h3]
      · intro sf' j c h4 h5 h6
        unfold m18_overflightref27_Few_B2
        simp only [Int.toNat_natCast, getD_of h2, getD_of h5, ltBd h4, inBd h4, ck_True, cond_true, h6]
        cases decide ((12 : Int) < (c.uses.length : Int)) <;> rfl
  rw [all_up (B := m18_overflightref27_Few_B0 p) (l := p.capacity) (fun r => !(decide ((16 : Int) < (r.length : Int)))) (some false) (bif (p.variables.all fun v => !(decide ((8 : Int) < (v.leaves.length : Int))) && (!(decide ((8 : Int) < (v.choices.length : Int))) && v.choices.all fun c => !(decide ((12 : Int) < (c.uses.length : Int))))) then some (decide (mn < 2000)) else some false) (sm_len s2) ?_ ?_ (by omega)]
  · cases hc : (p.capacity.all fun r => !(decide ((16 : Int) < (r.length : Int))))
    · exact ⟨false, rfl, by simp⟩
    cases hv : (p.variables.all fun v => !(decide ((8 : Int) < (v.leaves.length : Int))) && (!(decide ((8 : Int) < (v.choices.length : Int))) && v.choices.all fun c => !(decide ((12 : Int) < (c.uses.length : Int)))))
    · exact ⟨false, rfl, by simp⟩
    refine ⟨_, rfl, fun _ => ⟨by omega, by omega, by omega, fun r hr => ?_, fun v hw => ?_⟩⟩
    · have := List.all_eq_true.1 hc r hr
      simp at this; omega
    · have := List.all_eq_true.1 hv v hw
      simp only [Bool.and_eq_true, Bool.not_eq_true', decide_eq_false_iff_not, List.all_eq_true] at this
      exact ⟨by omega, by omega, fun c hc => by have := this.2.2 c hc; omega⟩
  · intro sf; unfold m18_overflightref27_Few_B0; rw [vars]; simp only [ltE, cond_false]
  · intro sf i r h1 h2 h3
    unfold m18_overflightref27_Few_B0
    simp only [Int.toNat_natCast, getD_of h2, ltBd h1, inBd h1, ck_True, cond_true, h3]
    cases decide ((16 : Int) < (r.length : Int)) <;> rfl
theorem m19_eq (r : XReason) : ∃ b, m19_overflightref32_Few r = some b ∧ (b = true → r.variables.length ≤ 20 ∧ r.places.length ≤ 60) := by
  unfold m19_overflightref32_Few
  by_cases h : (r.variables.length : Int) ≤ 20
  · refine ⟨decide ((r.places.length : Int) ≤ 60), by simp [h], fun h2 => ?_⟩
    simp at h2; omega
  · exact ⟨false, by simp [h], by simp⟩
/-! Part -/
/-- a place's capacity is set -/
def put1 (p : XProblem) (rows : List (List Int)) (y : XPlace) : List (List Int) :=
  rows.set y.leaf.toNat ((rows.getD y.leaf.toNat default).set y.cell.toNat ((p.capacity.getD y.leaf.toNat default).getD y.cell.toNat default))
def blank (p : XProblem) : List (List Int) := List.replicate p.capacity.length (List.replicate p.cells.length 4096)
def partOf (p : XProblem) (r : XReason) : XProblem := ⟨p.cells, r.places.foldl (put1 p) (blank p), r.variables.map fun i => p.variables.getD i.toNat default⟩
def Rect (n m : Nat) (rows : List (List Int)) : Prop := rows.length = n ∧ ∀ r ∈ rows, r.length = m
theorem Rect.put {p : XProblem} {n m : Nat} {rows : List (List Int)} (h : Rect n m rows) (y : XPlace) : Rect n m (put1 p rows y) := by
  unfold put1
  refine ⟨by rw [List.length_set]; exact h.1, fun r hr => ?_⟩
  by_cases hl : y.leaf.toNat < rows.length
  · rcases List.mem_or_eq_of_mem_set hr with h1 | h1
    · exact h.2 r h1
    · rw [h1, List.length_set, getD_of (List.getElem?_eq_getElem hl)]; exact h.2 _ (List.getElem_mem hl)
  · rw [List.set_eq_of_length_le (by omega)] at hr; exact h.2 r hr
theorem Rect.blank (p : XProblem) : Rect p.capacity.length p.cells.length (blank p) := by
  refine ⟨by simp [Fx.blank], fun r hr => ?_⟩
  rw [Fx.blank] at hr; rw [List.eq_of_mem_replicate hr]; simp
theorem okIdx_iff {n : Nat} {k : Int} : okIdx n k = true ↔ 0 ≤ k ∧ k < (n : Int) := by simp [okIdx]
theorem reason_idx {p : XProblem} {r : XReason} (h : okReason p r = true) : (∀ i ∈ r.variables, 0 ≤ i ∧ i < (p.variables.length : Int)) ∧ adj (fun x y => decide (x < y)) r.variables = true ∧
    (∀ x ∈ r.places, (0 ≤ x.leaf ∧ x.leaf < (p.capacity.length : Int)) ∧ 0 ≤ x.cell ∧ x.cell < (p.cells.length : Int)) ∧ adj pb r.places = true := by
  unfold okReason at h
  simp only [Bool.and_eq_true, List.all_eq_true, okPlace, okIdx_iff] at h
  exact ⟨h.1.1, h.1.2, h.2.1, h.2.2⟩
end Go.Fx
/- Chapter 32: what broken does: all ways through the choices of some variables, until it is told to stop. -/
set_option linter.unusedSimpArgs false
set_option linter.unusedVariables false
set_option maxRecDepth 100000
namespace Go.Fx
open Go Go.RowKit
section
variable {R α σ : Type}
/-- a loop in whatever order: what holds with the rest still to come leads to one answer -/
theorem mrng_inv [DecidableEq R] {b : (σ → Option R) → α → σ → Option R} {k : σ → Option R} (J : List α → σ → Prop) (R0 : Option R) (hz : ∀ s, J [] s → k s = R0)
    (hs : ∀ r1 r2 p s sf, J (r1 ++ p :: r2) s → (∀ s', J (r1 ++ r2) s' → sf s' = R0) → b sf p s = R0) : ∀ xs s, J xs s → mrng b k xs s = R0 := by
  intro xs
  generalize hn : xs.length = n
  induction n generalizing xs with
  | zero => intro s h; obtain rfl := List.length_eq_zero_iff.1 hn; exact hz s h
  | succ n ih =>
    intro s h
    have key : ∀ u ∈ (picks xs).map (fun p => b (mrngN b k n p.2) p.1 s), u = R0 := by
      intro u hu
      obtain ⟨p, hp, rfl⟩ := List.mem_map.1 hu
      obtain ⟨r1, r2, e1, e2⟩ := mem_picks.1 hp
      have hl : p.2.length = n := by have := mem_picks_length hp; omega
      rw [e1] at h
      refine hs r1 r2 p.1 s _ h fun s' h' => ?_
      rw [← e2] at h'
      have := ih p.2 hl s' h'
      unfold mrng at this; rw [hl] at this; exact this
    have hne : (picks xs).map (fun p => b (mrngN b k n p.2) p.1 s) ≠ [] := by
      intro e2
      have e2 : picks xs = [] := List.map_eq_nil_iff.1 e2
      cases xs with
      | nil => cases hn
      | cons x t => simp [picks] at e2
    unfold mrng
    rw [hn]
    show allSame ((picks xs).map fun p => b (mrngN b k n p.2) p.1 s) = _
    cases e : R0 with
    | some a => rw [e] at key; exact allSame_iff.2 ⟨hne, key⟩
    | none =>
      rw [e] at key
      cases e2 : allSame ((picks xs).map fun p => b (mrngN b k n p.2) p.1 s) with
      | none => rfl
      | some a =>
        have := allSame_iff.1 e2
        cases hL : (picks xs).map fun p => b (mrngN b k n p.2) p.1 s with
        | nil => exact absurd hL this.1
        | cons u t =>
          have h1 := this.2 u (by rw [hL]; simp)
          have h2 := key u (by rw [hL]; simp)
          rw [h1] at h2; cases h2
end
abbrev PM := List (XPlace × Int)
/-- the value at a place -/
def vl (d : PM) (x : XPlace) : Int := (mget d x).getD 0
theorem vl_put (d : PM) (x y : XPlace) (n : Int) : vl (mput d x n) y = if x = y then n else vl d y := by
  unfold vl; rw [mget_put]; split <;> rfl
section
variable (cap : XPlace → Int)
/-- the places where more stands than there is room for -/
def badL (d : PM) : List (XPlace × Bool) := (d.filter fun q => decide (cap q.1 < q.2)).map fun q => (q.1, true)
theorem badL_ris {d : PM} (h : Ris d) : Ris (badL cap d) := by
  unfold badL Ris
  rw [List.pairwise_map]
  exact List.Pairwise.filter _ h
theorem badL_get (hc : ∀ x, 0 ≤ cap x) {d : PM} (h : Ris d) (x : XPlace) : mget (badL cap d) x = if cap x < vl d x then some true else none := by
  have hr := badL_ris cap h
  by_cases hx : cap x < vl d x
  · rw [if_pos hx]
    cases hg : mget d x with
    | none => have h0 := hc x; unfold vl at hx; rw [hg] at hx; simp at hx; omega
    | some n =>
      have hm := mget_some hg
      have hv : vl d x = n := by unfold vl; rw [hg]; rfl
      refine mget_of hr (List.mem_map.2 ⟨(x, n), List.mem_filter.2 ⟨hm, ?_⟩, rfl⟩)
      rw [hv] at hx; simpa using hx
  · rw [if_neg hx]
    cases hg : mget (badL cap d) x with
    | none => rfl
    | some b =>
      obtain ⟨q, hq, he⟩ := List.mem_map.1 (mget_some hg)
      obtain ⟨hq1, hq2⟩ := List.mem_filter.1 hq
      obtain ⟨e1, e2⟩ := Prod.mk.inj he
      have : mget d x = some q.2 := by rw [← e1]; exact mget_of h (by simpa using hq1)
      have hv : vl d x = q.2 := by unfold vl; rw [this]; rfl
      rw [← e1] at hx hv
      have := of_decide_eq_true hq2
      omega
theorem badL_ext (hc : ∀ x, 0 ≤ cap x) {d e : PM} (hd : Ris d) (he : Ris e) (h : ∀ x, vl d x = vl e x) : badL cap d = badL cap e :=
  mget_ext (badL_ris cap hd) (badL_ris cap he) fun x => by rw [badL_get cap hc hd, badL_get cap hc he, h x]
end
/-- m is added at its places, in some order -/
def addD (m : PM) (d : PM) : PM := m.foldl (fun e q => mput e q.1 (vl d q.1 + q.2)) d
def subD (m : PM) (d : PM) : PM := m.foldl (fun e q => mput e q.1 (vl d q.1 - q.2)) d
theorem fold_put (f : XPlace → Int → Int) : ∀ (m : PM) (e : PM), Ris e → (m.Pairwise fun a b => a.1 ≠ b.1) →
    Ris (m.foldl (fun e q => mput e q.1 (f q.1 q.2)) e) ∧ ∀ x, mget (m.foldl (fun e q => mput e q.1 (f q.1 q.2)) e) x = match mget m x with | some n => some (f x n) | none => mget e x := by
  intro m
  induction m with
  | nil => intro e he _; exact ⟨he, fun x => rfl⟩
  | cons q t ih =>
    intro e he hp
    rw [List.pairwise_cons] at hp
    obtain ⟨h1, h2⟩ := ih (mput e q.1 (f q.1 q.2)) (mput_ris he _ _) hp.2
    refine ⟨h1, fun x => ?_⟩
    rw [List.foldl_cons, h2 x]
    obtain ⟨k, n⟩ := q
    simp only [mget]
    by_cases hk : k = x
    · subst hk
      have : mget t k = none := by
        cases hg : mget t k with
        | none => rfl
        | some v => exact absurd rfl (hp.1 (k, v) (mget_some hg))
      rw [this, if_pos rfl, mget_put, if_pos rfl]
    · rw [if_neg hk]
      cases mget t x with
      | some v => rfl
      | none => simp only [mget_put, if_neg hk]
theorem ris_ne {V : Type} {m : List (XPlace × V)} (h : Ris m) : m.Pairwise fun a b => a.1 ≠ b.1 :=
  h.imp fun {a b} hab e => by rw [e] at hab; have := klt_asym hab; rw [hab] at this; cases this
theorem addD_ris {m d : PM} (hm : Ris m) (hd : Ris d) : Ris (addD m d) := (fold_put (fun x n => vl d x + n) m d hd (ris_ne hm)).1
theorem subD_ris {m d : PM} (hm : Ris m) (hd : Ris d) : Ris (subD m d) := (fold_put (fun x n => vl d x - n) m d hd (ris_ne hm)).1
theorem addD_get {m d : PM} (hm : Ris m) (hd : Ris d) (x : XPlace) : mget (addD m d) x = match mget m x with | some n => some (vl d x + n) | none => mget d x := (fold_put (fun x n => vl d x + n) m d hd (ris_ne hm)).2 x
theorem subD_get {m d : PM} (hm : Ris m) (hd : Ris d) (x : XPlace) : mget (subD m d) x = match mget m x with | some n => some (vl d x - n) | none => mget d x := (fold_put (fun x n => vl d x - n) m d hd (ris_ne hm)).2 x
theorem addD_vl {m d : PM} (hm : Ris m) (hd : Ris d) (x : XPlace) : vl (addD m d) x = vl d x + vl m x := by
  unfold vl; rw [addD_get hm hd]; cases mget m x <;> simp [vl]
theorem subD_vl {m d : PM} (hm : Ris m) (hd : Ris d) (x : XPlace) : vl (subD m d) x = vl d x - vl m x := by
  unfold vl; rw [subD_get hm hd]; cases mget m x <;> simp [vl]
/-- all ways to take one of each -/
def ways {α : Type} : List (List α) → List (List α)
  | [] => [[]]
  | ms :: t => ms.flatMap fun m => (ways t).map (m :: ·)
/-- what is called takes what it is handed, until it says false -/
def runB {β σ : Type} (D : β → σ → Option (Bool × σ)) : List β → σ → Option (Bool × σ)
  | [], s => some (true, s)
  | b :: t, s => (D b s).bind fun r => bif r.1 then runB D t r.2 else some (false, r.2)
theorem runB_append {β σ : Type} (D : β → σ → Option (Bool × σ)) : ∀ (l m : List β) (s : σ), runB D (l ++ m) s = (runB D l s).bind fun r => bif r.1 then runB D m r.2 else some (false, r.2)
  | [], m, s => rfl
  | b :: t, m, s => by
    simp only [List.cons_append, runB]
    cases D b s with
    | none => rfl
    | some r =>
      simp only [Option.bind_some]
      cases h : r.1
      · simp
      · simp only [cond_true]; exact runB_append D t m r.2
end Go.Fx
/- Chapter 32: broken, said plainly. -/
set_option linter.unusedSimpArgs false
set_option linter.unusedVariables false
set_option maxRecDepth 100000
namespace Go.Fx
open Go Go.RowKit
def capT (t : XTable) (x : XPlace) : Int := (t.p.capacity.getD x.leaf.toNat default).getD x.cell.toNat default
/-- a map of a table: places that are there, numbers that are small -/
structure GoodM (t : XTable) (m : PM) : Prop where
  ris : Ris m
  pl : ∀ q ∈ m, ((0 : Int) ≤ q.1.leaf ∧ q.1.leaf < (t.p.capacity.length : Int)) ∧ ((0 : Int) ≤ q.1.cell ∧ q.1.cell < ((t.p.capacity.getD q.1.leaf.toNat default).length : Int))
  sm : ∀ q ∈ m, 0 ≤ q.2 ∧ q.2 ≤ 8
theorem GoodM.vl {t : XTable} {m : PM} (h : GoodM t m) (x : XPlace) : 0 ≤ vl m x ∧ vl m x ≤ 8 := by
  unfold Fx.vl
  cases hg : mget m x with
  | none => simp
  | some n => exact h.sm _ (mget_some hg)
def J1 (f : XPlace → Int → Int) (cap : XPlace → Int) (m d : PM) (rest : PM) (s : List (XPlace × Bool) × PM) : Prop :=
  Ris s.2 ∧ s.1 = badL cap s.2 ∧ (rest.Pairwise fun a b => a.1 ≠ b.1) ∧ (∀ q ∈ rest, q ∈ m) ∧
  ∀ x, mget s.2 x = match mget m x with | some n => if x ∈ rest.map (·.1) then mget d x else some (f x n) | none => mget d x
theorem J1.next {f : XPlace → Int → Int} {cap : XPlace → Int} {m d r1 r2 : PM} {p : XPlace × Int} {s : List (XPlace × Bool) × PM} (hm : Ris m) (h : J1 f cap m d (r1 ++ p :: r2) s) {e : PM} {b : List (XPlace × Bool)}
    (he : Ris e) (hb : b = badL cap e) (hg : ∀ y, mget e y = if p.1 = y then some (f p.1 p.2) else mget s.2 y) : J1 f cap m d (r1 ++ r2) (b, e) := by
  obtain ⟨h1, h2, h3, h4, h5⟩ := h
  have hsub : (r1 ++ r2).Sublist (r1 ++ p :: r2) := List.Sublist.append (List.Sublist.refl _) (List.sublist_cons_self _ _)
  refine ⟨he, hb, h3.sublist hsub, fun q hq => h4 q (hsub.subset hq), fun x => ?_⟩
  have hp : mget m p.1 = some p.2 := mget_of hm (h4 p (by simp))
  have hnot : p.1 ∉ (r1 ++ r2).map (·.1) := by
    intro hc
    obtain ⟨q, hq, e⟩ := List.mem_map.1 hc
    rw [List.pairwise_append] at h3
    rcases List.mem_append.1 hq with hq | hq
    · exact h3.2.2 q hq p (List.mem_cons_self ..) e
    · exact (List.pairwise_cons.1 h3.2.1).1 q hq e.symm
  show mget e x = _
  rw [hg x]
  by_cases hx : p.1 = x
  · subst hx
    rw [if_pos rfl, hp]; simp only [hnot, if_false]
  · rw [if_neg hx, h5 x]
    have : x ∈ (r1 ++ p :: r2).map (·.1) ↔ x ∈ (r1 ++ r2).map (·.1) := by
      simp only [List.map_append, List.map_cons, List.mem_append, List.mem_cons]
      constructor
      · rintro (h | h | h)
        · exact .inl h
        · exact absurd h.symm hx
        · exact .inr h
      · rintro (h | h)
        · exact .inl h
        · exact .inr (.inr h)
    simp only [this]
theorem J1.at {f : XPlace → Int → Int} {cap : XPlace → Int} {m d r1 r2 : PM} {p : XPlace × Int} {s : List (XPlace × Bool) × PM} (hm : Ris m) (h : J1 f cap m d (r1 ++ p :: r2) s) : vl s.2 p.1 = vl d p.1 := by
  obtain ⟨h1, h2, h3, h4, h5⟩ := h
  have hp : mget m p.1 = some p.2 := mget_of hm (h4 p (by simp))
  have hmem : p.1 ∈ (r1 ++ p :: r2).map (·.1) := by simp
  unfold vl
  rw [h5 p.1, hp]; simp only [hmem, if_true]
section
variable {σ : Type} [DecidableEq σ] {t : XTable} (hc : ∀ x, 0 ≤ capT t x)
include hc
theorem addAll {K : List (XPlace × Bool) → PM → Option (Bool × List (XPlace × Bool) × PM × σ)} {m d : PM} (hm : GoodM t m) (hd : Ris d) (hb : ∀ x, 0 ≤ vl d x ∧ vl d x ≤ 1000000) :
    mrng2 (m76_reason_table__broken_1_B1 t) K m (badL (capT t) d) d = K (badL (capT t) (addD m d)) (addD m d) := by
  unfold mrng2
  refine mrng_inv (J1 (fun x n => vl d x + n) (capT t) m d) _ ?_ ?_ m (badL (capT t) d, d) ⟨hd, rfl, ris_ne hm.ris, fun q hq => hq, fun x => ?_⟩
  · rintro ⟨b, e⟩ ⟨h1, h2, _, _, h5⟩
    have : e = addD m d := mget_ext h1 (addD_ris hm.ris hd) fun x => by
      rw [addD_get hm.ris hd]; have h := h5 x; cases hg : mget m x with
      | none => rw [hg] at h; exact h
      | some n => rw [hg] at h; simpa using h
    simp only at h2
    rw [h2, this]
  · rintro r1 r2 ⟨x0, n0⟩ ⟨b, e⟩ sf h ih
    have hv : vl e x0 = vl d x0 := h.at hm.ris
    have hmem : (x0, n0) ∈ m := h.2.2.2.1 _ (by simp)
    have hpl := hm.pl _ hmem
    have hsm := hm.sm _ hmem
    have hbd := hb x0
    unfold m76_reason_table__broken_1_B1
    have hv' : (mget e x0).getD 0 = vl d x0 := hv
    have hw : IntKind.wrap .i64 (vl d x0 + n0) = vl d x0 + n0 := wrap_i64 (by simp only at hsm; omega) (by simp only at hsm; omega)
    simp only [hv', hw]
    rw [ck_eq hpl.1, ck_eq hpl.2]
    generalize hE : mput (mput e x0 (vl d x0)) x0 (vl d x0 + n0) = E
    have hER : Ris E := by rw [← hE]; exact mput_ris (mput_ris h.1 _ _) _ _
    have hEg : ∀ y, mget E y = if x0 = y then some (vl d x0 + n0) else mget e y := by
      intro y; rw [← hE, mget_put]; split
      · rfl
      · rw [mget_put, if_neg ‹_›]
    have hEv : (mget E x0).getD 0 = vl d x0 + n0 := by rw [hEg, if_pos rfl]; rfl
    have hEv2 : vl E x0 = vl d x0 + n0 := hEv
    rw [hEv]
    have hb0 : b = badL (capT t) e := h.2.1
    cases hcp : decide ((t.p.capacity.getD x0.leaf.toNat default).getD x0.cell.toNat default < vl d x0 + n0)
    · rw [cond_false]
      have hcp : ¬ (capT t x0 < vl d x0 + n0) := of_decide_eq_false hcp
      refine ih (b, E) (h.next hm.ris hER ?_ hEg)
      rw [hb0]
      refine mget_ext (badL_ris _ h.1) (badL_ris _ hER) fun y => ?_
      rw [badL_get _ hc h.1, badL_get _ hc hER]
      by_cases hy : x0 = y
      · subst hy
        simp only at hsm
        rw [hEv2, if_neg hcp, if_neg (by rw [hv]; omega)]
      · have : vl E y = vl e y := by unfold vl; rw [hEg, if_neg hy]
        rw [this]
    · rw [cond_true]
      have hcp : capT t x0 < vl d x0 + n0 := of_decide_eq_true hcp
      refine ih (mput b x0 true, E) (h.next hm.ris hER ?_ hEg)
      rw [hb0]
      refine mget_ext (mput_ris (badL_ris _ h.1) _ _) (badL_ris _ hER) fun y => ?_
      rw [mget_put, badL_get _ hc h.1, badL_get _ hc hER]
      by_cases hy : x0 = y
      · subst hy
        rw [hEv2, if_pos rfl, if_pos hcp]
      · have : vl E y = vl e y := by unfold vl; rw [hEg, if_neg hy]
        rw [this, if_neg hy]
  · show mget d x = _
    cases hg : mget m x with
    | none => rfl
    | some n =>
      have : x ∈ m.map (·.1) := List.mem_map.2 ⟨(x, n), mget_some hg, rfl⟩
      simp only [this, if_true]
theorem subAll {K : List (XPlace × Bool) → PM → Option (Bool × List (XPlace × Bool) × PM × σ)} {m d : PM} (hm : GoodM t m) (hd : Ris d) (hb : ∀ x, 0 ≤ vl d x ∧ vl d x ≤ 1000008) :
    mrng2 (m76_reason_table__broken_1_B2 t) K m (badL (capT t) d) d = K (badL (capT t) (subD m d)) (subD m d) := by
  unfold mrng2
  refine mrng_inv (J1 (fun x n => vl d x - n) (capT t) m d) _ ?_ ?_ m (badL (capT t) d, d) ⟨hd, rfl, ris_ne hm.ris, fun q hq => hq, fun x => ?_⟩
  · rintro ⟨b, e⟩ ⟨h1, h2, _, _, h5⟩
    have : e = subD m d := mget_ext h1 (subD_ris hm.ris hd) fun x => by
      rw [subD_get hm.ris hd]; have h := h5 x; cases hg : mget m x with
      | none => rw [hg] at h; exact h
      | some n => rw [hg] at h; simpa using h
    simp only at h2
    rw [h2, this]
  · rintro r1 r2 ⟨x0, n0⟩ ⟨b, e⟩ sf h ih
    have hv : vl e x0 = vl d x0 := h.at hm.ris
    have hmem : (x0, n0) ∈ m := h.2.2.2.1 _ (by simp)
    have hpl := hm.pl _ hmem
    have hsm := hm.sm _ hmem
    have hbd := hb x0
    unfold m76_reason_table__broken_1_B2
    have hv' : (mget e x0).getD 0 = vl d x0 := hv
    have hw : IntKind.wrap .i64 (vl d x0 - n0) = vl d x0 - n0 := wrap_i64 (by simp only at hsm; omega) (by simp only at hsm; omega)
    simp only [hv', hw]
    rw [ck_eq hpl.1, ck_eq hpl.2]
    generalize hE : mput (mput e x0 (vl d x0)) x0 (vl d x0 - n0) = E
    have hER : Ris E := by rw [← hE]; exact mput_ris (mput_ris h.1 _ _) _ _
    have hEg : ∀ y, mget E y = if x0 = y then some (vl d x0 - n0) else mget e y := by
      intro y; rw [← hE, mget_put]; split
      · rfl
      · rw [mget_put, if_neg ‹_›]
    have hEv : (mget E x0).getD 0 = vl d x0 - n0 := by rw [hEg, if_pos rfl]; rfl
    have hEv2 : vl E x0 = vl d x0 - n0 := hEv
    rw [hEv]
    have hb0 : b = badL (capT t) e := h.2.1
    cases hcp : decide (vl d x0 - n0 ≤ (t.p.capacity.getD x0.leaf.toNat default).getD x0.cell.toNat default)
    · rw [cond_false]
      have hcp : ¬ (vl d x0 - n0 ≤ capT t x0) := of_decide_eq_false hcp
      refine ih (b, E) (h.next hm.ris hER ?_ hEg)
      rw [hb0]
      refine mget_ext (badL_ris _ h.1) (badL_ris _ hER) fun y => ?_
      rw [badL_get _ hc h.1, badL_get _ hc hER]
      by_cases hy : x0 = y
      · subst hy
        simp only at hsm
        rw [hEv2, hv, if_pos (show capT t x0 < vl d x0 by omega), if_pos (show capT t x0 < vl d x0 - n0 by omega)]
      · have : vl E y = vl e y := by unfold vl; rw [hEg, if_neg hy]
        rw [this]
    · rw [cond_true]
      have hcp : vl d x0 - n0 ≤ capT t x0 := of_decide_eq_true hcp
      refine ih (mdel b x0, E) (h.next hm.ris hER ?_ hEg)
      rw [hb0]
      refine mget_ext (mdel_ris (badL_ris _ h.1) _) (badL_ris _ hER) fun y => ?_
      rw [mget_del, badL_get _ hc h.1, badL_get _ hc hER]
      by_cases hy : x0 = y
      · subst hy
        rw [hEv2, if_pos rfl, if_neg (by omega)]
      · have : vl E y = vl e y := by unfold vl; rw [hEg, if_neg hy]
        rw [this, if_neg hy]
  · show mget d x = _
    cases hg : mget m x with
    | none => rfl
    | some n =>
      have : x ∈ m.map (·.1) := List.mem_map.2 ⟨(x, n), mget_some hg, rfl⟩
      simp only [this, if_true]
end
end Go.Fx
/- Chapter 32: broken hands out the places that are not kept, for all ways. -/
set_option linter.unusedSimpArgs false
set_option linter.unusedVariables false
set_option maxRecDepth 100000
namespace Go.Fx
open Go Go.RowKit
/-- the sum of what stands at x -/
def sumW (w : List PM) (x : XPlace) : Int := (w.map fun m => vl m x).sum
theorem sumW_cons (m : PM) (w : List PM) (x : XPlace) : sumW (m :: w) x = vl m x + sumW w x := by simp [sumW]
section
variable {σ : Type} [DecidableEq σ] {t : XTable} (hc : ∀ x, 0 ≤ capT t x)
abbrev PhiB (t : XTable) (D : List (XPlace × Bool) → σ → Option (Bool × σ)) : (List Int → List (XPlace × Bool) → PM → σ → Option (Bool × List (XPlace × Bool) × PM × σ)) → List Int → List (XPlace × Bool) → PM → σ → Option (Bool × List (XPlace × Bool) × PM × σ) :=
  fun fx63 x64 d65 d66 s67 => m76_reason_table__broken_1 x64 D d65 t d66 fx63 s67
include hc
theorem brk (D : List (XPlace × Bool) → σ → Option (Bool × σ)) (hu : ∀ ms ∈ t.uses, ms.length < 9223372036854775807 ∧ ∀ m ∈ ms, GoodM t m) :
    ∀ (l : List Int) (fuel : Nat) (M : Int) (d : PM) (s0 : σ) (g : List PM → List (XPlace × Bool)), l.length < fuel → l.length < 9223372036854775807 → (∀ v ∈ l, 0 ≤ v ∧ v < (t.uses.length : Int)) → Ris d → (∀ x, 0 ≤ vl d x ∧ vl d x ≤ M) → M + 8 * (l.length : Int) ≤ 1000000 →
      (∀ w ∈ ways (l.map fun v => t.uses.getD v.toNat default), ∀ e, Ris e → (∀ x, vl e x = vl d x + sumW w x) → g w = badL (capT t) e) →
      ∀ r s', runB D ((ways (l.map fun v => t.uses.getD v.toNat default)).map g) s0 = some (r, s') →
        ∃ d', fix4 (PhiB t D) fuel l (badL (capT t) d) d s0 = some (r, badL (capT t) d', d', s') ∧ Ris d' ∧ ∀ x, vl d' x = vl d x := by
  intro l
  induction l with
  | nil =>
    intro fuel M d s0 g hf _ _ hd _ _ hg r s' hr
    obtain ⟨n, rfl⟩ : ∃ n, fuel = n + 1 := ⟨fuel - 1, by simp at hf; omega⟩
    refine ⟨d, ?_, hd, fun x => rfl⟩
    have e : g [] = badL (capT t) d := hg [] (by simp [ways]) d hd (fun x => by simp [sumW])
    simp only [List.map_nil, ways, List.map_cons, runB, e] at hr
    show m76_reason_table__broken_1 [] D (badL (capT t) d) t d _ s0 = _
    unfold m76_reason_table__broken_1
    simp only [List.length_nil, Int.natCast_zero, decide_true, cond_true]
    cases hD : D (badL (capT t) d) s0 with
    | none => rw [hD] at hr; cases hr
    | some q =>
      rw [hD] at hr
      simp only [Option.bind_some] at hr ⊢
      obtain ⟨a, b⟩ := q
      cases a
      · simp only [cond_false, Option.some.injEq, Prod.mk.injEq] at hr; obtain ⟨rfl, rfl⟩ := hr; rfl
      · simp only [cond_true, Option.some.injEq, Prod.mk.injEq] at hr; obtain ⟨rfl, rfl⟩ := hr; rfl
  | cons v l ih =>
    intro fuel M d s0 g hf hl64 hv hd hb hM hg r s' hr
    obtain ⟨n, rfl⟩ : ∃ n, fuel = n + 1 := ⟨fuel - 1, by simp at hf; omega⟩
    have hv0 := hv v (List.mem_cons_self ..)
    have hlt : v.toNat < t.uses.length := by omega
    obtain ⟨hmsl, hms⟩ := hu _ (List.getElem_mem hlt)
    have hget : t.uses.getD v.toNat default = t.uses[v.toNat] := getD_of (List.getElem?_eq_getElem hlt)
    show ∃ d', m76_reason_table__broken_1 (v :: l) D (badL (capT t) d) t d (fix4 (PhiB t D) n) s0 = _ ∧ _
    unfold m76_reason_table__broken_1
    have c0 : decide (((v :: l).length : Int) = 0) = false := by simp <;> omega
    rw [c0, cond_false]
    rw [ck_eq (by simp <;> omega), ck_eq (by simpa using hv0)]
    simp only [List.getD_cons_zero, hget]
    generalize hms0 : t.uses[v.toNat] = ms at *
    simp only [List.map_cons, hget, ways] at hr hg
    have hMl : M + 8 + 8 * (l.length : Int) ≤ 1000000 := by simp at hM; omega
    have loop : ∀ (rest : List PM) (i fl : Nat) (e : PM) (s : σ), ms.drop i = rest → i ≤ ms.length → rest.length < fl → Ris e → (∀ x, vl e x = vl d x) →
        runB D ((rest.flatMap fun m => (ways (l.map fun v => t.uses.getD v.toNat default)).map (m :: ·)).map g) s = some (r, s') →
        ∃ d', loop4 (m76_reason_table__broken_1_B0 (v :: l) t (fix4 (PhiB t D) n)) fl (i : Int) (badL (capT t) e) e s = some (r, badL (capT t) d', d', s') ∧ Ris d' ∧ ∀ x, vl d' x = vl d x := by
      intro rest
      induction rest with
      | nil =>
        intro i fl e s hdr hi hfl he hev hrun
        obtain ⟨k, rfl⟩ : ∃ k, fl = k + 1 := ⟨fl - 1, by simp at hfl; omega⟩
        have hil : i = ms.length := by have := congrArg List.length hdr; simp at this; omega
        simp only [List.flatMap_nil, List.map_nil, runB, Option.some.injEq, Prod.mk.injEq] at hrun
        obtain ⟨rfl, rfl⟩ := hrun
        refine ⟨e, ?_, he, hev⟩
        rw [loop4_succ, m76_reason_table__broken_1_B0]
        simp only [List.getD_cons_zero, hget, hms0, hil, ltE, cond_false]
      | cons m rest ihr =>
        intro i fl e s hdr hi hfl he hev hrun
        obtain ⟨k, rfl⟩ : ∃ k, fl = k + 1 := ⟨fl - 1, by simp at hfl; omega⟩
        have hil : i < ms.length := by have := congrArg List.length hdr; simp at this; omega
        have hmi : ms[i]? = some m := by rw [← List.head?_drop, hdr]; rfl
        have hdr2 : ms.drop (i + 1) = rest := by rw [← List.drop_drop, hdr]; rfl
        have hmm : m ∈ ms := ge0 hmi
        have hgm := hms m hmm
        rw [List.flatMap_cons, List.map_append, runB_append] at hrun
        rw [loop4_succ, m76_reason_table__broken_1_B0]
        simp only [List.getD_cons_zero, hget, hms0, ltBd hil, inBd hil, ck_True, cond_true, Int.toNat_natCast, getD_of hmi]
        rw [addAll hc hgm he (fun x => by rw [hev]; have := hb x; omega)]
        rw [m76_reason_table__broken_1_K1, ck_eq (by simp <;> omega)]
        simp only [List.getD_cons_zero, hget, hms0, Int.toNat_natCast, getD_of hmi]
        rw [show ((v :: l).drop 1).take ((v :: l).length - 1) = l by simp]
        cases hq : runB D (((ways (l.map fun v => t.uses.getD v.toNat default)).map (m :: ·)).map g) s with
        | none => rw [hq] at hrun; cases hrun
        | some q =>
          obtain ⟨r1, s1⟩ := q
          rw [hq] at hrun
          have hadd := fun x => addD_vl hgm.ris he x
          obtain ⟨d2, e1, e2, e3⟩ := ih n (M + 8) (addD m e) s (fun w => g (m :: w)) (by simp at hf; omega) (by simp at hl64; omega) (fun u hu => hv u (List.mem_cons_of_mem _ hu)) (addD_ris hgm.ris he)
            (fun x => by rw [hadd, hev]; have := hb x; have := hgm.vl x; omega) (by omega)
            (fun w hw f hf1 hf2 => hg (m :: w) (List.mem_flatMap.2 ⟨m, hmm, List.mem_map.2 ⟨w, hw, rfl⟩⟩) f hf1 fun x => by rw [hf2, hadd, hev, sumW_cons]; omega) r1 s1 (by rw [← hq, List.map_map]; rfl)
          rw [e1, Option.bind_some]
          simp only
          rw [subAll hc hgm e2 (fun x => by rw [e3, hadd, hev]; have := hb x; have := hgm.vl x; omega)]
          have hsub : ∀ x, vl (subD m d2) x = vl d x := fun x => by rw [subD_vl hgm.ris e2, e3, hadd, hev]; omega
          rw [m76_reason_table__broken_1_K2]
          simp only [Option.bind_some] at hrun
          cases r1
          · simp only [cond_false, Option.some.injEq, Prod.mk.injEq] at hrun
            obtain ⟨rfl, rfl⟩ := hrun
            exact ⟨subD m d2, rfl, subD_ris hgm.ris e2, hsub⟩
          · simp only [cond_true] at hrun
            simp only [Bool.not_true, cond_false]
            rw [wrapS (by omega)]
            exact ihr (i + 1) k (subD m d2) s1 hdr2 (by omega) (by simp at hfl; omega) (subD_ris hgm.ris e2) hsub hrun
    have hfin := loop ms 0 (((ms.length : Int) - 0).toNat + 1) d s0 rfl (by omega) (by omega) hd (fun x => rfl) hr
    exact hfin
/-- broken hands out, for each way, the places where more stands than there is room for -/
theorem m49_eq (D : List (XPlace × Bool) → σ → Option (Bool × σ)) (hu : ∀ ms ∈ t.uses, ms.length < 9223372036854775807 ∧ ∀ m ∈ ms, GoodM t m) {l : List Int} (hl : l.length ≤ 20) (hv : ∀ v ∈ l, 0 ≤ v ∧ v < (t.uses.length : Int)) {g : List PM → List (XPlace × Bool)}
    (hg : ∀ w ∈ ways (l.map fun v => t.uses.getD v.toNat default), ∀ e, Ris e → (∀ x, vl e x = sumW w x) → g w = badL (capT t) e) {s0 s' : σ} {r : Bool}
    (hr : runB D ((ways (l.map fun v => t.uses.getD v.toNat default)).map g) s0 = some (r, s')) : m49_reason_table__broken t l D s0 = some s' := by
  obtain ⟨fu, hfu⟩ : ∃ n : Nat, n = 1000000 := ⟨_, rfl⟩
  unfold m49_reason_table__broken
  rw [← hfu]
  obtain ⟨d', h1, h2, h3⟩ := brk hc D hu l fu 0 [] s0 g (by omega) (by omega) hv List.Pairwise.nil (fun x => by simp [vl, mget]) (by omega) (fun w hw e he hx => hg w hw e he fun x => by rw [hx]; simp [vl, mget]) r s' hr
  have e : badL (capT t) [] = [] := rfl
  rw [e] at h1
  show (fix4 (PhiB t D) fu l [] [] s0).bind _ = _
  rw [h1]; rfl
end
end Go.Fx
/- Chapter 32: the table of a problem. -/
set_option linter.unusedSimpArgs false
set_option linter.unusedVariables false
set_option maxRecDepth 100000
namespace Go.Fx
open Go Go.RowKit
theorem adj_pairwise {α : Type} {lt : α → α → Bool} (ht : ∀ a b c, lt a b = true → lt b c = true → lt a c = true) : ∀ {l : List α}, adj lt l = true → l.Pairwise fun a b => lt a b = true
  | [], _ => List.Pairwise.nil
  | [a], _ => List.pairwise_singleton ..
  | a :: b :: l, h => by
    simp only [adj, Bool.and_eq_true] at h
    have ih := adj_pairwise ht h.2
    refine List.pairwise_cons.2 ⟨fun x hx => ?_, ih⟩
    rcases List.mem_cons.1 hx with rfl | hx
    · exact h.1
    · exact ht _ _ _ h.1 ((List.pairwise_cons.1 ih).1 x hx)
theorem cb_iff (a b : XCell) : cb a b = true ↔ (a.airport = b.airport ∧ (a.index < b.index ∨ (a.index = b.index ∧ a.minute < b.minute))) ∨ (a.airport = false ∧ b.airport = true) := by
  unfold cb
  by_cases e1 : a.airport = b.airport
  · rw [if_pos e1]
    by_cases f1 : a.index = b.index
    · rw [if_pos f1]; simp only [decide_eq_true_eq, e1, f1, true_and, Int.lt_irrefl, false_or]
      constructor
      · exact fun h => .inl h
      · rintro (h | h)
        · exact h
        · rw [h.1] at h; cases h.2
    · rw [if_neg f1]; simp only [decide_eq_true_eq, e1, f1, true_and, false_and, or_false]
      constructor
      · exact fun h => .inl h
      · rintro (h | h)
        · exact h
        · rw [h.1] at h; cases h.2
  · rw [if_neg e1]; simp only [e1, false_and, false_or]
    cases ha : a.airport <;> cases hb : b.airport <;> simp_all
theorem cb_trans (a b c : XCell) (h1 : cb a b = true) (h2 : cb b c = true) : cb a c = true := by
  rw [cb_iff] at *
  rcases h1 with ⟨e1, h1⟩ | ⟨e1, h1⟩ <;> rcases h2 with ⟨e2, h2⟩ | ⟨e2, h2⟩
  · exact .inl ⟨e1.trans e2, by omega⟩
  · exact .inr ⟨e1.trans e2, h2⟩
  · exact .inr ⟨e1, e2 ▸ h1⟩
  · rw [h1] at e2; cases e2
theorem cb_irrefl (a : XCell) : cb a a = false := by unfold cb; simp
theorem cb_ne {a b : XCell} (h : cb a b = true) : a ≠ b := fun e => by rw [e, cb_irrefl] at h; cases h
/-- where a cell stands -/
def ix (cells : List XCell) (c : XCell) : Int := match cells.findIdx? (fun x => decide (x = c)) with | none => (-1 : Int) | some k => (k : Int)
theorem ix_mem {cells : List XCell} {c : XCell} (h : c ∈ cells) : ∃ k : Nat, ix cells c = (k : Int) ∧ cells[k]? = some c := by
  unfold ix
  cases hf : cells.findIdx? (fun x => decide (x = c)) with
  | none =>
    rw [List.findIdx?_eq_none_iff] at hf
    have := hf c h; simp at this
  | some k =>
    obtain ⟨hk, h1, _⟩ := List.findIdx?_eq_some_iff_getElem.1 hf
    exact ⟨k, rfl, by rw [List.getElem?_eq_getElem hk]; simpa using h1⟩
theorem ix_inj {cells : List XCell} {c d : XCell} (hc : c ∈ cells) (hd : d ∈ cells) (h : ix cells c = ix cells d) : c = d := by
  obtain ⟨k, e1, e2⟩ := ix_mem hc
  obtain ⟨j, e3, e4⟩ := ix_mem hd
  have : k = j := by omega
  subst this
  rw [e2] at e4; exact Option.some.inj e4
theorem ix_at {cells : List XCell} (hn : cells.Nodup) {k : Nat} {c : XCell} (h : cells[k]? = some c) : ix cells c = (k : Int) := by
  obtain ⟨j, e1, e2⟩ := ix_mem (ge0 h)
  rw [e1]
  have h1 : k < cells.length := (List.getElem?_eq_some_iff.1 h).1
  have h2 : j < cells.length := (List.getElem?_eq_some_iff.1 e2).1
  have h3 : cells[k] = c := (List.getElem?_eq_some_iff.1 h).2
  have h4 : cells[j] = c := (List.getElem?_eq_some_iff.1 e2).2
  have hp := List.pairwise_iff_getElem.1 hn
  rcases Nat.lt_trichotomy k j with hlt | he | hlt
  · exact absurd (h3.trans h4.symm) (hp k j h1 h2 hlt)
  · omega
  · exact absurd (h4.trans h3.symm) (hp j k h2 h1 hlt)
/-- what is known of a valid problem -/
structure Prob (p : XProblem) : Prop where
  cells : p.cells.Nodup
  row : ∀ r ∈ p.capacity, r.length = p.cells.length ∧ ∀ k ∈ r, 0 ≤ k ∧ k ≤ 4096
  leaf : ∀ v ∈ p.variables, ∀ k ∈ v.leaves, 0 ≤ k ∧ k < (p.capacity.length : Int)
  lnd : ∀ v ∈ p.variables, v.leaves.Nodup
  ch : ∀ v ∈ p.variables, 1 ≤ v.choices.length
  use : ∀ v ∈ p.variables, ∀ c ∈ v.choices, ∀ u ∈ c.uses, u.cell ∈ p.cells ∧ 1 ≤ u.places ∧ u.places ≤ 8
  und : ∀ v ∈ p.variables, ∀ c ∈ v.choices, c.uses.Pairwise fun a b => a.cell ≠ b.cell
  cap : 1 ≤ p.capacity.length
theorem Prob.of {p : XProblem} (h : okProb p = true) : Prob p := by
  unfold okProb at h
  simp only [Bool.and_eq_true, List.all_eq_true, okRow, okVar, okChoice, okUse, within, decide_eq_true_eq, Bool.not_eq_true', decide_eq_false_iff_not] at h
  obtain ⟨h1, h2, h3, h4, h5, h6⟩ := h
  refine ⟨?_, fun r hr => ⟨(h5 r hr).1, fun k hk => (h5 r hr).2 k hk⟩, fun v hv k hk => ?_, fun v hv => ?_, fun v hv => ?_, fun v hv c hc u hu => ?_, fun v hv c hc => ?_, by omega⟩
  · exact (adj_pairwise cb_trans h4.2).imp fun h => cb_ne h
  · have := (h6 v hv).2.2.1.1 k hk; omega
  · exact (adj_pairwise (lt := fun x y : Int => decide (x < y)) (by intro a b c; simp; omega) (h6 v hv).2.2.1.2).imp fun h => by simp at h; omega
  · have := (h6 v hv).2.1; omega
  · have := ((h6 v hv).2.2.2 c hc).2.2.2.1 u hu; exact ⟨this.1, this.2.1, this.2.2⟩
  · exact (adj_pairwise (lt := fun x y : XUse => cb x.cell y.cell) (fun _ _ _ h1 h2 => cb_trans _ _ _ h1 h2) ((h6 v hv).2.2.2 c hc).2.2.2.2).imp fun h => cb_ne h
/-- the places that a choice takes -/
def tabM (p : XProblem) (v : XVariable) (c : XChoice) : PM := c.uses.foldl (fun m u => v.leaves.foldl (fun m k => mput m ⟨k, ix p.cells u.cell⟩ u.places) m) []
def tabU (p : XProblem) : List (List PM) := p.variables.map fun v => v.choices.map fun c => tabM p v c
theorem m42_eq {p : XProblem} (hp : smXProblem p) (hs : Small p) (hk : Prob p) : m42_reason_tabled p = some ⟨p, tabU p⟩ := by
  unfold m42_reason_tabled
  have vars : ∀ map_1 : List (XCell × Int), (∀ c ∈ p.cells, (mget map_1 c).getD 0 = ix p.cells c) →
      loop2 (m42_reason_tabled_B1 p map_1) (((p.variables.length : Int) - 0).toNat + 1) 0 ([] : List (List PM)) = some ⟨p, tabU p⟩ := by
    intro map_1 hm
    refine (up_listA (B := m42_reason_tabled_B1 p map_1) (fuel := ((p.variables.length : Int) - 0).toNat + 1) (s := ([] : List (List PM))) (fun i (s : List (List PM)) => s.length = i) (fun _ t s => some (⟨p, s ++ t.map fun v => v.choices.map fun c => tabM p v c⟩ : XTable)) p.variables (sm_len hp.2.2) ?_ ?_ (by omega) rfl).trans (by simp [tabU])
    · intro sf s _; unfold m42_reason_tabled_B1; simp
    · intro sf i s v tv a1 a2 a3 a4 ih
      have hv := ge0 a2
      have sv := hs.var v hv
      unfold m42_reason_tabled_B1
      simp only [Int.toNat_natCast, getD_of a2, ltBd a1, inBd a1, ck_True, cond_true]
      refine (up_listB (B := m42_reason_tabled_B2 p map_1 (i : Int) s sf) (fuel := ((v.choices.length : Int) - 0).toNat + 1) (s := ([] : List PM)) (fun i (s : List PM) => s.length = i) (fun _ t l => some (⟨p, (s ++ [l ++ t.map fun c => tabM p v c]) ++ tv.map fun v => v.choices.map fun c => tabM p v c⟩ : XTable)) v.choices (by omega) ?_ ?_ (by omega) rfl).trans (by simp)
      · intro sf2 l e
        unfold m42_reason_tabled_B2
        simp only [Int.toNat_natCast, getD_of a2, ltE, cond_false]
        rw [ck_eq (by have := hs.vars; simp; omega), a3, ih _ (by simp [a4])]
        simp
      · intro sf2 j l c tc b1 b2 b3 b4 ih2
        have hc := ge0 b2
        have sc := sv.2.2 c hc
        unfold m42_reason_tabled_B2
        simp only [Int.toNat_natCast, getD_of a2, getD_of b2, ltBd b1, inBd b1, ck_True, cond_true]
        refine (up_listA (B := m42_reason_tabled_B3 p map_1 (i : Int) l (j : Int) sf2) (fuel := ((c.uses.length : Int) - 0).toNat + 1) (s := ([] : PM)) (fun _ _ => True) (fun _ t m => some (⟨p, (s ++ [(l ++ [t.foldl (fun m u => v.leaves.foldl (fun m k => mput m ⟨k, ix p.cells u.cell⟩ u.places) m) m]) ++ tc.map fun c => tabM p v c]) ++ tv.map fun v => v.choices.map fun c => tabM p v c⟩ : XTable)) c.uses (by omega) ?_ ?_ (by omega) trivial).trans (by simp [tabM])
        · intro sf3 m _
          unfold m42_reason_tabled_B3
          simp only [Int.toNat_natCast, getD_of a2, getD_of b2, ltE, cond_false]
          rw [ck_eq (by simp; omega), b3, ih2 _ (by simp [b4])]
          simp
        · intro sf3 k m u tu d1 d2 d3 _ ih3
          have hu := hk.use v hv c hc u (ge0 d2)
          unfold m42_reason_tabled_B3
          simp only [Int.toNat_natCast, getD_of a2, getD_of b2, getD_of d2, ltBd d1, inBd d1, ck_True, cond_true]
          refine (up_listA (B := m42_reason_tabled_B4 p map_1 (i : Int) (j : Int) (k : Int) sf3) (fuel := ((v.leaves.length : Int) - 0).toNat + 1) (s := m) (fun _ _ => True) (fun _ t m => some (⟨p, (s ++ [(l ++ [tu.foldl (fun m u => v.leaves.foldl (fun m k => mput m ⟨k, ix p.cells u.cell⟩ u.places) m) (t.foldl (fun m k => mput m ⟨k, ix p.cells u.cell⟩ u.places) m)]) ++ tc.map fun c => tabM p v c]) ++ tv.map fun v => v.choices.map fun c => tabM p v c⟩ : XTable)) v.leaves (by omega) ?_ ?_ (by omega) trivial).trans (by simp)
          · intro sf4 m' _
            unfold m42_reason_tabled_B4
            simp only [Int.toNat_natCast, getD_of a2, ltE, cond_false]
            rw [d3, ih3 _ trivial]; rfl
          · intro sf4 q m' lf tl f1 f2 f3 _ ih4
            unfold m42_reason_tabled_B4
            simp only [Int.toNat_natCast, getD_of a2, getD_of b2, getD_of d2, getD_of f2, ltBd f1, inBd f1, ck_True, cond_true, hm _ hu.1]
            rw [f3, ih4 _ trivial]; rfl
  refine up_listA (B := m42_reason_tabled_B0 p) (fuel := ((p.cells.length : Int) - 0).toNat + 1) (s := ([] : List (XCell × Int))) (fun i s => ∀ j c, j < i → p.cells[j]? = some c → mget s c = some (j : Int)) (fun _ _ _ => some ⟨p, tabU p⟩) p.cells (sm_len hp.1) ?_ ?_ (by omega) (fun j c h => by omega)
  · intro sf s hI
    unfold m42_reason_tabled_B0
    rw [vars s ?_]
    · simp only [ltE, cond_false]
    · intro c hc
      obtain ⟨k, e1, e2⟩ := ix_mem hc
      rw [hI k c (List.getElem?_eq_some_iff.1 e2).1 e2, e1]; rfl
  · intro sf i s c t e1 e2 e3 hI ih
    unfold m42_reason_tabled_B0
    simp only [Int.toNat_natCast, getD_of e2, ltBd e1, inBd e1, ck_True, cond_true]
    rw [e3]
    refine ih _ fun j c' hj hc' => ?_
    rw [mget_put]
    by_cases h : c = c'
    · subst h
      rw [if_pos rfl]
      have := ix_at hk.cells e2; have := ix_at hk.cells hc'
      congr 1; omega
    · rw [if_neg h]
      refine hI j c' ?_ hc'
      rcases Nat.lt_or_ge j i with hlt | hge
      · exact hlt
      · have : j = i := by omega
        subst this; rw [e2] at hc'; exact absurd (Option.some.inj hc') h
end Go.Fx
namespace Go.Fx
open Go Go.RowKit Go.Proofs
end Go.Fx
/- Chapter 32: a problem is the same as itself; what a part is made of. -/
set_option linter.unusedSimpArgs false
set_option linter.unusedVariables false
set_option maxRecDepth 100000
namespace Go.Fx
open Go Go.RowKit
theorem loop_true {α : Type} {B : (Int → Option Bool) → Int → Option Bool} {l : List α} {R : Option Bool} (hl : l.length < 9223372036854775807) (hE : ∀ sf, B sf (l.length : Nat) = R)
    (hS : ∀ sf (i : Nat) x, i < l.length → l[i]? = some x → IntKind.i64.wrap ((i : Int) + 1) = (i : Int) + 1 → B sf (i : Int) = sf ((i : Int) + 1)) :
    loop1 B (((l.length : Int) - 0).toNat + 1) 0 = R := by
  rw [all_up (l := l) (fun _ => true) R R hl hE (fun sf i x h1 h2 h3 => by rw [hS sf i x h1 h2 h3]; rfl) (by omega)]
  cases (l.all fun _ => true) <;> rfl
theorem getD_sm {α : Type} [Inhabited α] {S : α → Prop} {l : List α} (h : ∀ x ∈ l, S x) (hd : S default) (i : Nat) : S (l.getD i default) := by
  cases hx : l[i]? with
  | none => rw [List.getD, hx]; exact hd
  | some x => rw [getD_of hx]; exact h x (ge0 hx)
end Go.Fx
/- Chapter 32: Proves, said plainly. -/
set_option linter.unusedSimpArgs false
set_option linter.unusedVariables false
set_option maxRecDepth 100000
namespace Go.Fx
open Go Go.RowKit
/-- what a choice takes of cell k -/
def useS (p : XProblem) (c : XChoice) (k : Int) : Int := (c.uses.map fun u => if ix p.cells u.cell = k then u.places else 0).sum
def takes (p : XProblem) (x : XPlace) (vc : XVariable × XChoice) : Int := if x.leaf ∈ vc.1.leaves then useS p vc.2 x.cell else 0
/-- what is taken of a place -/
def dem (p : XProblem) (w : List (XVariable × XChoice)) (x : XPlace) : Int := (w.map (takes p x)).sum
def capP (p : XProblem) (x : XPlace) : Int := (p.capacity.getD x.leaf.toNat default).getD x.cell.toNat default
theorem leaves_fold (q n : Int) : ∀ (ls : List Int) (m : PM), Ris m → Ris (ls.foldl (fun m k => mput m (⟨k, q⟩ : XPlace) n) m) ∧
    (∀ x : XPlace, vl (ls.foldl (fun m k => mput m (⟨k, q⟩ : XPlace) n) m) x = if x.leaf ∈ ls ∧ x.cell = q then n else vl m x) ∧
    ∀ e ∈ ls.foldl (fun m k => mput m (⟨k, q⟩ : XPlace) n) m, e ∈ m ∨ (e.1.leaf ∈ ls ∧ e.1.cell = q ∧ e.2 = n)
  | [], m, h => ⟨h, fun x => by simp, fun e he => .inl he⟩
  | k :: ls, m, h => by
    obtain ⟨h1, h2, h3⟩ := leaves_fold q n ls (mput m ⟨k, q⟩ n) (mput_ris h _ _)
    refine ⟨h1, fun x => ?_, fun e he => ?_⟩
    · rw [List.foldl_cons, h2 x, vl_put]
      by_cases hq : x.cell = q
      · by_cases hl : x.leaf ∈ ls
        · simp [hq, hl]
        · by_cases hk : x.leaf = k
          · have : (⟨k, q⟩ : XPlace) = x := by cases x; simp_all
            simp [hq, hl, hk, this]
          · have : (⟨k, q⟩ : XPlace) ≠ x := fun e => hk (by rw [← e])
            simp [hq, hl, hk, this]
      · have : (⟨k, q⟩ : XPlace) ≠ x := fun e => hq (by rw [← e])
        simp [hq, this]
    · rw [List.foldl_cons] at he
      rcases h3 e he with h4 | ⟨h4, h5, h6⟩
      · rcases (mput_mem h _ _ e).1 h4 with h5 | h5
        · right; subst h5; simp
        · exact .inl h5.1
      · exact .inr ⟨List.mem_cons_of_mem _ h4, h5, h6⟩
theorem uses_fold (p : XProblem) (ls : List Int) : ∀ (us : List XUse) (m : PM), Ris m → (∀ u ∈ us, u.cell ∈ p.cells) → (us.Pairwise fun a b => a.cell ≠ b.cell) → (∀ u ∈ us, ∀ k, vl m ⟨k, ix p.cells u.cell⟩ = 0) →
    Ris (us.foldl (fun m u => ls.foldl (fun m k => mput m ⟨k, ix p.cells u.cell⟩ u.places) m) m) ∧
    (∀ x : XPlace, vl (us.foldl (fun m u => ls.foldl (fun m k => mput m ⟨k, ix p.cells u.cell⟩ u.places) m) m) x = vl m x + if x.leaf ∈ ls then (us.map fun u => if ix p.cells u.cell = x.cell then u.places else 0).sum else 0) ∧
    ∀ e ∈ us.foldl (fun m u => ls.foldl (fun m k => mput m ⟨k, ix p.cells u.cell⟩ u.places) m) m, e ∈ m ∨ ∃ u ∈ us, e.1.leaf ∈ ls ∧ e.1.cell = ix p.cells u.cell ∧ e.2 = u.places
  | [], m, h, _, _, _ => ⟨h, fun x => by simp, fun e he => .inl he⟩
  | u :: us, m, h, hc, hp, hz => by
    obtain ⟨g1, g2, g3⟩ := leaves_fold (ix p.cells u.cell) u.places ls m h
    rw [List.pairwise_cons] at hp
    have hz' : ∀ u' ∈ us, ∀ k, vl (ls.foldl (fun m k => mput m ⟨k, ix p.cells u.cell⟩ u.places) m) ⟨k, ix p.cells u'.cell⟩ = 0 := by
      intro u' hu' k
      rw [g2]
      have : ix p.cells u'.cell ≠ ix p.cells u.cell := fun e => hp.1 u' hu' (ix_inj (hc u' (List.mem_cons_of_mem _ hu')) (hc u (List.mem_cons_self ..)) e).symm
      simp only [this, and_false, if_false]
      exact hz u' (List.mem_cons_of_mem _ hu') k
    obtain ⟨h1, h2, h3⟩ := uses_fold p ls us _ g1 (fun u hu => hc u (List.mem_cons_of_mem _ hu)) hp.2 hz'
    refine ⟨h1, fun x => ?_, fun e he => ?_⟩
    · rw [List.foldl_cons, h2 x, g2 x, List.map_cons, List.sum_cons]
      by_cases hl : x.leaf ∈ ls
      · by_cases hq : x.cell = ix p.cells u.cell
        · have : vl m x = 0 := by have := hz u (List.mem_cons_self ..) x.leaf; rw [← hq] at this; exact this
          simp only [hl, hq, and_self, if_true, this]; omega
        · have : ¬ (ix p.cells u.cell = x.cell) := fun e => hq e.symm
          simp only [hl, hq, and_false, if_false, this, if_true]; omega
      · simp only [hl, false_and, if_false]
    · rw [List.foldl_cons] at he
      rcases h3 e he with h4 | ⟨u', h4, h5⟩
      · rcases g3 e h4 with h5 | h5
        · exact .inl h5
        · exact .inr ⟨u, List.mem_cons_self .., h5⟩
      · exact .inr ⟨u', List.mem_cons_of_mem _ h4, h5⟩
theorem row_len {p : XProblem} (hk : Prob p) {k : Int} (h0 : 0 ≤ k) (h1 : k < (p.capacity.length : Int)) : (p.capacity.getD k.toNat default).length = p.cells.length := by
  rw [getD_of (List.getElem?_eq_getElem (show k.toNat < p.capacity.length by omega))]
  exact (hk.row _ (List.getElem_mem _)).1
theorem tab_good {p : XProblem} (hk : Prob p) {v : XVariable} (hv : v ∈ p.variables) {c : XChoice} (hc : c ∈ v.choices) (U : List (List PM)) : GoodM ⟨p, U⟩ (tabM p v c) ∧ ∀ x, vl (tabM p v c) x = takes p x (v, c) := by
  obtain ⟨h1, h2, h3⟩ := uses_fold p v.leaves c.uses [] List.Pairwise.nil (fun u hu => (hk.use v hv c hc u hu).1) (hk.und v hv c hc) (fun u hu k => rfl)
  refine ⟨⟨h1, fun q hq => ?_, fun q hq => ?_⟩, fun x => ?_⟩
  · obtain h | ⟨u, hu, e1, e2, e3⟩ := h3 q hq
    · cases h
    · have hl := hk.leaf v hv _ e1
      refine ⟨hl, ?_⟩
      show (0 : Int) ≤ q.1.cell ∧ q.1.cell < ((p.capacity.getD q.1.leaf.toNat default).length : Int)
      rw [row_len hk hl.1 hl.2, e2]
      obtain ⟨k, f1, f2⟩ := ix_mem (hk.use v hv c hc u hu).1
      have := (List.getElem?_eq_some_iff.1 f2).1
      omega
  · obtain h | ⟨u, hu, e1, e2, e3⟩ := h3 q hq
    · cases h
    · have := (hk.use v hv c hc u hu).2; omega
  · rw [show vl (tabM p v c) x = _ from h2 x]
    simp [vl, mget, takes, useS]
theorem ways_map {α β : Type} (f : α → β) : ∀ L : List (List α), ways (L.map (List.map f)) = (ways L).map (List.map f)
  | [] => rfl
  | l :: L => by
    simp only [List.map_cons, ways, ways_map f L, List.flatMap_map, List.map_flatMap, List.map_map]
    rfl
theorem mem_ways {α : Type} : ∀ {L : List (List α)} {w : List α}, w ∈ ways L → ∀ a ∈ w, ∃ l ∈ L, a ∈ l
  | [], w, h, a, ha => by simp [ways] at h; subst h; cases ha
  | l :: L, w, h, a, ha => by
    simp only [ways, List.mem_flatMap, List.mem_map] at h
    obtain ⟨m, hm, w', hw', rfl⟩ := h
    rcases List.mem_cons.1 ha with rfl | ha
    · exact ⟨l, List.mem_cons_self .., hm⟩
    · obtain ⟨l', h1, h2⟩ := mem_ways hw' a ha
      exact ⟨l', List.mem_cons_of_mem _ h1, h2⟩
/-- the choices of some variables, each with its variable -/
def pairsOf (p : XProblem) (l : List Int) : List (List (XVariable × XChoice)) := l.map fun i => (p.variables.getD i.toNat default).choices.map fun c => (p.variables.getD i.toNat default, c)
theorem mem_pairs {p : XProblem} {l : List Int} (hl : ∀ i ∈ l, 0 ≤ i ∧ i < (p.variables.length : Int)) {w : List (XVariable × XChoice)} (hw : w ∈ ways (pairsOf p l)) : ∀ vc ∈ w, vc.1 ∈ p.variables ∧ vc.2 ∈ vc.1.choices := by
  intro vc hvc
  obtain ⟨q, h1, h2⟩ := mem_ways hw vc hvc
  obtain ⟨i, hi, rfl⟩ := List.mem_map.1 h1
  obtain ⟨c, hc, rfl⟩ := List.mem_map.1 h2
  have := hl i hi
  refine ⟨?_, hc⟩
  show p.variables.getD i.toNat default ∈ p.variables
  rw [getD_of (List.getElem?_eq_getElem (show i.toNat < p.variables.length by omega))]
  exact List.getElem_mem _
theorem tabU_get {p : XProblem} {l : List Int} (hl : ∀ i ∈ l, 0 ≤ i ∧ i < (p.variables.length : Int)) : (l.map fun v => (tabU p).getD v.toNat default) = (pairsOf p l).map (List.map fun vc => tabM p vc.1 vc.2) := by
  unfold pairsOf
  rw [List.map_map]
  refine List.map_congr_left fun i hi => ?_
  have hlt : i.toNat < p.variables.length := by have := hl i hi; omega
  simp only [Function.comp, List.map_map]
  rw [getD_of (List.getElem?_eq_getElem hlt), tabU, getD_of (l := p.variables.map _) (x := p.variables[i.toNat].choices.map fun c => tabM p p.variables[i.toNat] c) (by rw [List.getElem?_map, List.getElem?_eq_getElem hlt]; rfl)]
  rfl
theorem cap_nonneg {p : XProblem} (hk : Prob p) (x : XPlace) : 0 ≤ capP p x := by
  unfold capP
  have : ∀ k ∈ p.capacity.getD x.leaf.toNat default, 0 ≤ k := getD_sm (S := fun r : List Int => ∀ k ∈ r, 0 ≤ k) (fun r hr k hkk => ((hk.row r hr).2 k hkk).1) (by intro k h; cases h) _
  exact getD_sm (S := fun k : Int => 0 ≤ k) this (by show (0 : Int) ≤ 0; omega) _
/-- broken over the table of a problem -/
theorem broken_eq {σ : Type} [DecidableEq σ] {p : XProblem} (hk : Prob p) (hs : Small p) {l : List Int} (hl : l.length ≤ 20) (hi : ∀ i ∈ l, 0 ≤ i ∧ i < (p.variables.length : Int)) (D : List (XPlace × Bool) → σ → Option (Bool × σ))
    {G : List (XVariable × XChoice) → List (XPlace × Bool)} (hG : ∀ w ∈ ways (pairsOf p l), ∀ e, Ris e → (∀ x, vl e x = dem p w x) → G w = badL (capP p) e) {s0 s' : σ} {r : Bool}
    (hr : runB D ((ways (pairsOf p l)).map G) s0 = some (r, s')) : m49_reason_table__broken ⟨p, tabU p⟩ l D s0 = some s' := by
  have hadd : ∀ w : List PM, (∀ m ∈ w, Ris m) → ∀ d, Ris d → Ris (w.foldl (fun d m => addD m d) d) ∧ ∀ x, vl (w.foldl (fun d m => addD m d) d) x = vl d x + sumW w x := by
    intro w
    induction w with
    | nil => intro _ d hd; exact ⟨hd, fun x => by simp [sumW]⟩
    | cons m w ih =>
      intro hm d hd
      obtain ⟨h1, h2⟩ := ih (fun m h => hm m (List.mem_cons_of_mem _ h)) (addD m d) (addD_ris (hm m (List.mem_cons_self ..)) hd)
      exact ⟨h1, fun x => by rw [List.foldl_cons, h2, addD_vl (hm m (List.mem_cons_self ..)) hd, sumW_cons]; omega⟩
  have hsum : ∀ w ∈ ways (pairsOf p l), ∀ x, sumW (w.map fun vc => tabM p vc.1 vc.2) x = dem p w x := by
    intro w hw x
    unfold sumW dem
    rw [List.map_map]
    congr 1
    refine List.map_congr_left fun vc hvc => ?_
    obtain ⟨h1, h2⟩ := mem_pairs hi hw vc hvc
    exact (tab_good hk h1 h2 (tabU p)).2 x
  have hris : ∀ w ∈ ways (pairsOf p l), ∀ m ∈ w.map (fun vc => tabM p vc.1 vc.2), Ris m := by
    intro w hw m hm
    obtain ⟨vc, hvc, rfl⟩ := List.mem_map.1 hm
    obtain ⟨h1, h2⟩ := mem_pairs hi hw vc hvc
    exact (tab_good hk h1 h2 (tabU p)).1.ris
  have hw : ways (l.map fun v => (tabU p).getD v.toNat default) = (ways (pairsOf p l)).map (List.map fun vc => tabM p vc.1 vc.2) := by rw [tabU_get hi, ways_map]
  refine m49_eq (t := ⟨p, tabU p⟩) (cap_nonneg hk) D ?_ hl ?_ (g := fun w => badL (capP p) (w.foldl (fun d m => addD m d) [])) ?_ (r := r) ?_
  · intro ms hms
    obtain ⟨v, hv, rfl⟩ := List.mem_map.1 hms
    refine ⟨by rw [List.length_map]; have := (hs.var v hv).2.1; omega, fun m hm => ?_⟩
    obtain ⟨c, hc, rfl⟩ := List.mem_map.1 hm
    exact (tab_good hk hv hc _).1
  · intro v hv; have := hi v hv; simpa [tabU] using this
  · intro w hww e he hx
    rw [hw] at hww
    obtain ⟨w', hw', rfl⟩ := List.mem_map.1 hww
    obtain ⟨h1, h2⟩ := hadd _ (hris w' hw') [] List.Pairwise.nil
    exact badL_ext _ (cap_nonneg hk) h1 he fun x => by rw [h2, hx]; simp [vl, mget]
  · rw [hw, List.map_map, ← hr]
    congr 1
    refine List.map_congr_left fun w' hw' => ?_
    obtain ⟨h1, h2⟩ := hadd _ (hris w' hw') [] List.Pairwise.nil
    exact (hG w' hw' _ h1 fun x => by rw [h2, hsum w' hw']; simp [vl, mget]).symm
theorem m77_any (s : List XPlace) (hl : s.length < 9223372036854775807) (f : XPlace → Option Bool) (h : XPlace → Bool) (hf : ∀ x ∈ s, f x = some (h x)) : m51_api_Place_ s f = some (s.any h) := by
  unfold m51_api_Place_ m77_api_Place_
  have key : ∃ i : Int, loop1 (m77_api_Place__B0 s f) (((s.length : Int) - 0).toNat + 1) 0 = some i ∧ decide (0 ≤ i) = s.any h := by
    rw [up_listI (B := m77_api_Place__B0 s f) (fun i t => some (match t.findIdx? h with | none => (-1 : Int) | some k => ((i + k : Nat) : Int))) s hl ?_ ?_ (by omega)]
    · refine ⟨_, rfl, ?_⟩
      cases hc : s.findIdx? h with
      | none =>
        rw [List.findIdx?_eq_none_iff] at hc
        have : s.any h = false := by rw [List.any_eq_false]; intro x hx; simpa using hc x hx
        simp [this]
      | some k =>
        have : s.any h = true := by
          rw [List.any_eq_true]
          obtain ⟨hk, h1, _⟩ := List.findIdx?_eq_some_iff_getElem.1 hc
          exact ⟨s[k], List.getElem_mem hk, by simpa using h1⟩
        simp [this]
    · intro sf; unfold m77_api_Place__B0; simp
    · intro sf i x t h1 h2 h3 ih
      unfold m77_api_Place__B0
      simp only [ltBd h1, inBd h1, ck_True, Int.toNat_natCast, getD_of h2, hf x (ge0 h2), Option.bind_some, h3, cond_true, List.findIdx?_cons]
      cases hw : h x
      · simp only [cond_false, Bool.false_eq_true, if_false]
        rw [ih]
        cases t.findIdx? h with
        | none => rfl
        | some k => simp; omega
      · simp
  obtain ⟨i, h1, h2⟩ := key
  rw [h1, Option.bind_some, h2]
/-- every way breaks one of the places -/
def provesB (p : XProblem) (r : XReason) : Bool := (ways (pairsOf p r.variables)).all fun w => r.places.any fun x => decide (capP p x < dem p w x)
theorem m17_eq {p : XProblem} {r : XReason} (hp : smXProblem p) (hr : smXReason r) (hs : Small p) (hv : r.variables.length ≤ 20) :
    m17_reason_Proves p r = some (bif okProb p then (bif okReason p r then (provesB p r, 0) else (false, 320)) else (false, 270)) := by
  unfold m17_reason_Proves
  rw [m23_eq hp hr]
  cases h1 : okProb p
  · rfl
  cases h2 : okReason p r
  · rfl
  have hk := Prob.of h1
  obtain ⟨i1, i2, i3, i4⟩ := reason_idx h2
  simp only [cond_true, Option.bind_some, ne_eq, not_true_eq_false, decide_false, cond_false]
  rw [m42_eq hp hs hk, Option.bind_some]
  let P : List (XVariable × XChoice) → Bool := fun w => r.places.any fun x => decide (capP p x < dem p w x)
  have hD : ∀ w e, Ris e → (∀ x, vl e x = dem p w x) → ∀ s, m50_reason_Proves_1 (badL (capP p) e) r s = some (P w, P w) := by
    intro w e he hx s
    unfold m50_reason_Proves_1
    rw [m77_any r.places (sm_len hr.2) _ (fun x => decide (capP p x < dem p w x)) (fun x _ => by
      unfold m52_reason_Proves_1_1
      rw [badL_get _ (cap_nonneg hk) he, hx]
      by_cases hlt : capP p x < dem p w x <;> simp [hlt])]
    rfl
  have hex : ∀ w ∈ ways (pairsOf p r.variables), ∃ e, Ris e ∧ ∀ x, vl e x = dem p w x := by
    intro w hw
    have : ∀ w' : List (XVariable × XChoice), (∀ vc ∈ w', vc.1 ∈ p.variables ∧ vc.2 ∈ vc.1.choices) → ∃ e, Ris e ∧ ∀ x, vl e x = dem p w' x := by
      intro w'
      induction w' with
      | nil => intro _; exact ⟨[], List.Pairwise.nil, fun x => by simp [vl, mget, dem]⟩
      | cons vc w' ih =>
        intro h
        obtain ⟨e, e1, e2⟩ := ih fun vc hvc => h vc (List.mem_cons_of_mem _ hvc)
        obtain ⟨a1, a2⟩ := h vc (List.mem_cons_self ..)
        obtain ⟨g1, g2⟩ := tab_good hk a1 a2 []
        refine ⟨addD (tabM p vc.1 vc.2) e, addD_ris g1.ris e1, fun x => ?_⟩
        rw [addD_vl g1.ris e1, e2, g2, show (vc.1, vc.2) = vc from rfl]
        simp only [dem, List.map_cons, List.sum_cons]; omega
    exact this w (mem_pairs i1 hw)
  let G : List (XVariable × XChoice) → List (XPlace × Bool) := fun w => if h : w ∈ ways (pairsOf p r.variables) then badL (capP p) (hex w h).choose else []
  have hG : ∀ w ∈ ways (pairsOf p r.variables), ∀ e, Ris e → (∀ x, vl e x = dem p w x) → G w = badL (capP p) e := by
    intro w hw e he hx
    have := (hex w hw).choose_spec
    show (if h : w ∈ ways (pairsOf p r.variables) then badL (capP p) (hex w h).choose else []) = _
    rw [dif_pos hw]
    exact badL_ext _ (cap_nonneg hk) this.1 he fun x => by rw [this.2, hx]
  have hrun : ∀ L : List (List (XVariable × XChoice)), (∀ w ∈ L, w ∈ ways (pairsOf p r.variables)) → runB (fun xs s => m50_reason_Proves_1 xs r s) (L.map G) true = some (L.all P, L.all P) := by
    intro L
    induction L with
    | nil => intro _; rfl
    | cons w L ih =>
      intro h
      obtain ⟨e, e1, e2⟩ := hex w (h w (List.mem_cons_self ..))
      simp only [List.map_cons, runB, hG w (h w (List.mem_cons_self ..)) e e1 e2, hD w e e1 e2, Option.bind_some, List.all_cons]
      cases P w
      · rfl
      · simp only [cond_true, Bool.true_and]; exact ih fun w hw => h w (List.mem_cons_of_mem _ hw)
  rw [broken_eq hk hs hv i1 _ hG (hrun _ fun w hw => hw)]
  rfl
end Go.Fx
/- Chapter 32: all choices of some variables, one after another. -/
set_option linter.unusedSimpArgs false
set_option linter.unusedVariables false
set_option maxRecDepth 100000
namespace Go.Fx
open Go Go.RowKit
/-- the next choices, written backwards: the first one turns fastest -/
def nr : List Int → List Int → Option (List Int)
  | n :: ns, a :: t => if a + 1 < n then some ((a + 1) :: t) else (nr ns t).map (0 :: ·)
  | _, _ => none
def upTo (n : Int) : List Int := (List.range n.toNat).map fun k : Nat => (k : Int)
/-- all choices, written backwards, in order -/
def allR : List Int → List (List Int)
  | [] => [[]]
  | n :: ns => (allR ns).flatMap fun t => (upTo n).map (· :: t)
/-- each leads to the next, the last to none -/
def Enum {α : Type} (f : α → Option α) : List α → Prop
  | [] => True
  | [a] => f a = none
  | a :: b :: t => f a = some b ∧ Enum f (b :: t)
theorem enum_append {α : Type} {f : α → Option α} : ∀ {l : List α} {b : α} {m : List α}, (∀ (h : l ≠ []), f (l.getLast h) = some b) → (l ≠ [] → ∀ l1 x y l2, l = l1 ++ x :: y :: l2 → f x = some y) → Enum f (b :: m) → Enum f (l ++ b :: m)
  | [], b, m, _, _, h => h
  | [a], b, m, h1, _, h => ⟨h1 (by simp), h⟩
  | a :: c :: t, b, m, h1, h2, h => ⟨h2 (by simp) [] a c t rfl, enum_append (l := c :: t) (fun hn => by have := h1 (by simp); simpa using this) (fun _ l1 x y l2 e => h2 (by simp) (a :: l1) x y l2 (by rw [e]; rfl)) h⟩
theorem enum_last {α : Type} {f : α → Option α} : ∀ {l : List α}, (∀ (h : l ≠ []), f (l.getLast h) = none) → (∀ l1 x y l2, l = l1 ++ x :: y :: l2 → f x = some y) → Enum f l
  | [], _, _ => trivial
  | [a], h, _ => h (by simp)
  | a :: c :: t, h1, h2 => ⟨h2 [] a c t rfl, enum_last (l := c :: t) (fun hn => by have := h1 (by simp); simpa using this) (fun l1 x y l2 e => h2 (a :: l1) x y l2 (by rw [e]; rfl))⟩
theorem upTo_ne {n : Int} (h : 1 ≤ n) : upTo n ≠ [] := by
  unfold upTo; intro e; have := congrArg List.length e; simp at this; omega
theorem upTo_mem {n a : Int} : a ∈ upTo n ↔ 0 ≤ a ∧ a < n := by
  unfold upTo
  simp only [List.mem_map, List.mem_range]
  constructor
  · rintro ⟨k, hk, rfl⟩; omega
  · rintro ⟨h1, h2⟩; exact ⟨a.toNat, by omega, by omega⟩
theorem upTo_last {n : Int} (h : 1 ≤ n) : (upTo n).getLast (upTo_ne h) = n - 1 := by
  rw [List.getLast_eq_getElem]
  simp only [upTo, List.getElem_map, List.getElem_range, List.length_map, List.length_range]
  omega
theorem upTo_step {n : Int} {l1 l2 : List Int} {x y : Int} (h : upTo n = l1 ++ x :: y :: l2) : y = x + 1 ∧ y < n := by
  have hx : (upTo n)[l1.length]? = some x := by rw [h]; simp
  have hy : (upTo n)[l1.length + 1]? = some y := by rw [h]; simp [List.getElem?_append]
  unfold upTo at hx hy
  rw [List.getElem?_map] at hx hy
  have hlen : l1.length + 1 < n.toNat := by
    rcases Nat.lt_or_ge (l1.length + 1) n.toNat with h | h
    · exact h
    · rw [List.getElem?_eq_none (by simpa using h)] at hy; cases hy
  rw [List.getElem?_range (by omega)] at hx hy
  simp at hx hy
  omega
theorem upTo_head {n : Int} (h : 1 ≤ n) : ∃ t, upTo n = 0 :: t := by
  unfold upTo
  obtain ⟨k, hk⟩ : ∃ k, n.toNat = k + 1 := ⟨n.toNat - 1, by omega⟩
  rw [hk, List.range_succ_eq_map]; exact ⟨_, rfl⟩
theorem allR_enum : ∀ {ns : List Int}, (∀ n ∈ ns, 1 ≤ n) → Enum (nr ns) (allR ns) ∧ ∃ t, allR ns = (ns.map fun _ => (0 : Int)) :: t
  | [], _ => ⟨rfl, [], rfl⟩
  | n :: ns, h => by
    obtain ⟨h1, t, h2⟩ := allR_enum (ns := ns) fun m hm => h m (List.mem_cons_of_mem _ hm)
    have hn := h n (List.mem_cons_self ..)
    refine ⟨?_, ?_⟩
    · have main : ∀ L : List (List Int), Enum (nr ns) L → Enum (nr (n :: ns)) (L.flatMap fun t => (upTo n).map (· :: t)) := by
        intro L
        induction L with
        | nil => intro _; trivial
        | cons a L ih =>
          intro hL
          have inner : ∀ l1 x y l2, (upTo n).map (· :: a) = l1 ++ x :: y :: l2 → nr (n :: ns) x = some y := by
            intro l1 x y l2 e
            obtain ⟨m1, m2, e1, rfl, e2⟩ := List.map_eq_append_iff.1 e
            obtain ⟨u, m3, rfl, rfl, e3⟩ := List.map_eq_cons_iff.1 e2
            obtain ⟨v, m4, rfl, rfl, rfl⟩ := List.map_eq_cons_iff.1 e3
            have := upTo_step e1
            simp only [nr]
            rw [if_pos (by omega), this.1]
          have last : ∀ hne : (upTo n).map (· :: a) ≠ [], nr (n :: ns) (((upTo n).map (· :: a)).getLast hne) = (nr ns a).map (0 :: ·) := by
            intro hne
            rw [List.getLast_map, upTo_last hn]
            simp only [nr]
            rw [if_neg (by omega)]
          cases L with
          | nil =>
            rw [List.flatMap_cons, List.flatMap_nil, List.append_nil]
            refine enum_last (fun hne => ?_) inner
            rw [last hne, show nr ns a = none from hL]; rfl
          | cons b L =>
            have ih' := ih hL.2
            obtain ⟨z, hz⟩ := upTo_head hn
            have e2 : ((b :: L).flatMap fun t => (upTo n).map (· :: t)) = (0 :: b) :: (z.map (· :: b) ++ L.flatMap fun t => (upTo n).map (· :: t)) := by
              rw [List.flatMap_cons, hz]; rfl
            rw [List.flatMap_cons, e2]
            rw [e2] at ih'
            refine enum_append (fun hne => ?_) (fun _ => inner) ih'
            rw [last hne, hL.1]; rfl
      exact main _ h1
    · obtain ⟨z, hz⟩ := upTo_head hn
      rw [allR, h2, List.flatMap_cons, hz]
      exact ⟨_, rfl⟩
/-- choices that are there -/
def Fit : List Int → List Int → Prop
  | [], [] => True
  | a :: c, n :: ns => (0 ≤ a ∧ a < n) ∧ Fit c ns
  | _, _ => False
theorem mem_allR : ∀ {ns c : List Int}, c ∈ allR ns ↔ Fit c ns
  | [], [] => by simp [allR, Fit]
  | [], a :: c => by simp [allR, Fit]
  | n :: ns, [] => by simp [allR, Fit]
  | n :: ns, a :: c => by
    simp only [allR, List.mem_flatMap, List.mem_map, Fit]
    constructor
    · rintro ⟨t, ht, b, hb, e⟩
      obtain ⟨rfl, rfl⟩ := List.cons.inj e
      exact ⟨upTo_mem.1 hb, mem_allR.1 ht⟩
    · rintro ⟨h1, h2⟩
      exact ⟨c, mem_allR.2 h2, a, upTo_mem.2 h1, rfl⟩
theorem Fit.length : ∀ {c ns : List Int}, Fit c ns → c.length = ns.length
  | [], [], _ => rfl
  | a :: c, n :: ns, h => by simp [Fit.length h.2]
  | [], n :: ns, h => h.elim
  | a :: c, [], h => h.elim
end Go.Fx
/- Chapter 32: ways as functions that choose; more variables take no less. -/
set_option linter.unusedSimpArgs false
set_option linter.unusedVariables false
set_option maxRecDepth 100000
namespace Go.Fx
open Go Go.RowKit
def varOf (p : XProblem) (i : Int) : XVariable := p.variables.getD i.toNat default
theorem ways_fun {p : XProblem} : ∀ {l : List Int} {w : List (XVariable × XChoice)}, l.Nodup → (w ∈ ways (pairsOf p l) ↔ ∃ f : Int → XChoice, (∀ i ∈ l, f i ∈ (varOf p i).choices) ∧ w = l.map fun i => (varOf p i, f i))
  | [], w, _ => by
    simp only [pairsOf, List.map_nil, ways, List.mem_singleton]
    constructor
    · rintro rfl; exact ⟨fun _ => default, by simp, rfl⟩
    · rintro ⟨f, _, rfl⟩; rfl
  | i :: l, w, h => by
    have hn := List.nodup_cons.1 h
    simp only [pairsOf, List.map_cons, ways, List.mem_flatMap, List.mem_map]
    constructor
    · rintro ⟨_, ⟨c, hc, rfl⟩, t, ht, rfl⟩
      obtain ⟨f, h1, rfl⟩ := (ways_fun hn.2).1 (show t ∈ ways (pairsOf p l) from ht)
      refine ⟨fun j => if j = i then c else f j, fun j hj => ?_, ?_⟩
      · rcases List.mem_cons.1 hj with rfl | hj
        · show (if j = j then c else f j) ∈ _; rw [if_pos rfl]; exact hc
        · have : j ≠ i := fun e => hn.1 (e ▸ hj)
          simpa [this] using h1 j hj
      · simp only [List.map_cons, if_true]
        congr 1
        refine List.map_congr_left fun j hj => ?_
        have : j ≠ i := fun e => hn.1 (e ▸ hj)
        simp [this]
    · rintro ⟨f, h1, e⟩
      refine ⟨(varOf p i, f i), ⟨f i, h1 i (List.mem_cons_self ..), rfl⟩, l.map fun j => (varOf p j, f j), (ways_fun hn.2).2 ⟨f, fun j hj => h1 j (List.mem_cons_of_mem _ hj), rfl⟩, by rw [e]⟩
/-- what f takes of x for the variables of l -/
def demF (p : XProblem) (f : Int → XChoice) (l : List Int) (x : XPlace) : Int := (l.map fun i => takes p x (varOf p i, f i)).sum
theorem dem_demF (p : XProblem) (f : Int → XChoice) (l : List Int) (x : XPlace) : dem p (l.map fun i => (varOf p i, f i)) x = demF p f l x := by
  unfold dem demF; rw [List.map_map]; rfl
theorem demF_sub {p : XProblem} {f : Int → XChoice} {x : XPlace} : ∀ {l m : List Int}, l.Sublist m → (∀ i ∈ m, 0 ≤ takes p x (varOf p i, f i)) → demF p f l x ≤ demF p f m x := by
  intro l m h
  induction h with
  | slnil => intro _; exact Int.le_refl _
  | cons a h ih =>
    intro hm
    have := ih fun i hi => hm i (List.mem_cons_of_mem _ hi)
    have := hm a (List.mem_cons_self ..)
    simp only [demF, List.map_cons, List.sum_cons] at *; omega
  | cons_cons a h ih =>
    intro hm
    have := ih fun i hi => hm i (List.mem_cons_of_mem _ hi)
    simp only [demF, List.map_cons, List.sum_cons] at *; omega
end Go.Fx
/- Chapter 32: all lists of so many elements of a list, in order. -/
set_option linter.unusedSimpArgs false
set_option linter.unusedVariables false
set_option maxRecDepth 100000
namespace Go.Fx
open Go Go.RowKit
section
variable {α β : Type}
def combs : Nat → List α → List (List α)
  | 0, _ => [[]]
  | _ + 1, [] => []
  | k + 1, a :: l => (combs k l).map (a :: ·) ++ combs (k + 1) l
theorem combs_zero (l : List α) : combs 0 l = [[]] := by cases l <;> rfl
theorem mem_combs : ∀ {k : Nat} {l t : List α}, t ∈ combs k l ↔ t.Sublist l ∧ t.length = k
  | 0, l, t => by
    rw [combs_zero, List.mem_singleton]
    constructor
    · rintro rfl; exact ⟨List.nil_sublist _, rfl⟩
    · rintro ⟨_, h⟩; exact List.length_eq_zero_iff.1 h
  | k + 1, [], t => by
    simp only [combs, List.not_mem_nil, List.sublist_nil, false_iff]
    rintro ⟨rfl, h⟩; cases h
  | k + 1, a :: l, t => by
    simp only [combs, List.mem_append, List.mem_map]
    constructor
    · rintro (⟨u, hu, rfl⟩ | h)
      · obtain ⟨h1, h2⟩ := mem_combs.1 hu
        exact ⟨h1.cons_cons _, by simp [h2]⟩
      · obtain ⟨h1, h2⟩ := mem_combs.1 h
        exact ⟨h1.cons _, h2⟩
    · rintro ⟨h1, h2⟩
      cases h1 with
      | cons _ h => exact .inr (mem_combs.2 ⟨h, h2⟩)
      | cons_cons _ h => exact .inl ⟨_, mem_combs.2 ⟨h, by simpa using h2⟩, rfl⟩
theorem combs_filter (q : α → Bool) : ∀ (k : Nat) (l : List α), combs k (l.filter q) = (combs k l).filter fun t => t.all q
  | 0, l => by rw [combs_zero, combs_zero]; rfl
  | k + 1, [] => rfl
  | k + 1, a :: l => by
    have h1 := combs_filter q k l
    have h2 := combs_filter q (k + 1) l
    have e : (combs (k + 1) (a :: l)).filter (fun t => t.all q) = ((combs k l).filter fun t => q a && t.all q).map (a :: ·) ++ (combs (k + 1) l).filter fun t => t.all q := by
      rw [combs, List.filter_append, List.filter_map]
      rfl
    rw [e, ← h2]
    cases hq : q a
    · rw [List.filter_cons_of_neg (by simp [hq])]
      simp
    · rw [List.filter_cons_of_pos hq, combs, h1]
      simp
theorem combs_map (f : α → β) : ∀ (k : Nat) (l : List α), combs k (l.map f) = (combs k l).map (List.map f)
  | 0, l => by simp [combs_zero]
  | k + 1, [] => rfl
  | k + 1, a :: l => by
    rw [List.map_cons, combs, combs, combs_map f k l, combs_map f (k + 1) l, List.map_append, List.map_map, List.map_map]
    rfl
theorem combs_short : ∀ {k : Nat} {l : List α}, l.length < k → combs k l = []
  | 0, l, h => by omega
  | k + 1, [], _ => rfl
  | k + 1, a :: l, h => by
    simp only [List.length_cons] at h
    rw [combs, combs_short (by omega), combs_short (by omega)]; rfl
end
/-- n numbers from a on -/
def rng (a : Int) : Nat → List Int
  | 0 => []
  | n + 1 => a :: rng (a + 1) n
theorem rng_len : ∀ (a : Int) (n : Nat), (rng a n).length = n
  | _, 0 => rfl
  | a, n + 1 => by rw [rng, List.length_cons, rng_len]
theorem rng_mem : ∀ {a x : Int} {n : Nat}, x ∈ rng a n ↔ a ≤ x ∧ x < a + n
  | a, x, 0 => by simp only [rng, List.not_mem_nil, false_iff]; omega
  | a, x, n + 1 => by rw [rng, List.mem_cons, rng_mem]; omega
theorem rng_rise : ∀ (a : Int) (n : Nat), (rng a n).Pairwise fun x y => x < y
  | _, 0 => List.Pairwise.nil
  | a, n + 1 => List.pairwise_cons.2 ⟨fun x hx => by have := rng_mem.1 hx; omega, rng_rise _ n⟩
end Go.Fx
namespace Go.Fx
open Go Go.RowKit Go.Proofs
end Go.Fx
/- Chapter 32: the reference's subsets, and lists: both hand out all rising lists of k numbers. -/
set_option linter.unusedSimpArgs false
set_option linter.unusedVariables false
set_option maxRecDepth 100000
namespace Go.Fx
open Go Go.RowKit
theorem combs_len {α : Type} : ∀ (k : Nat) (l : List α), (combs k l).length ≤ 2 ^ l.length
  | 0, l => by rw [combs_zero]; exact Nat.one_le_two_pow
  | k + 1, [] => by simp [combs]
  | k + 1, a :: l => by
    have h1 := combs_len k l
    have h2 := combs_len (k + 1) l
    rw [combs, List.length_append, List.length_map, List.length_cons, Nat.pow_succ]; omega
theorem comb_idx {k n : Nat} {b : Int} {t : List Int} (h : t ∈ combs k (rng b n)) : t.length = k ∧ ∀ x ∈ t, b ≤ x ∧ x < b + n := by
  obtain ⟨h1, h2⟩ := mem_combs.1 h
  exact ⟨h2, fun x hx => rng_mem.1 (h1.subset hx)⟩
end Go.Fx
