/- Part 3 of the proof: no reason that proves has fewer variables than the smallest one, or as many and fewer places. -/
import Derived.Test.YtijekcoafilmeaaFw2
set_option linter.unusedVariables false
set_option linter.unusedSimpArgs false
set_option maxRecDepth 100000
set_option maxHeartbeats 0
namespace Go.Fx
open Go Go.RowKit Go.Proofs
abbrev q12_7:List Nat:=[159,160,161,162,163,164,165,166,167,168,169]

abbrev q12_8:List Nat:=[2,14,155,156,157,158,159,160,161,162,163,164,165,166,167,168,169,170]

abbrev q12_6:List Nat:=[127,128,129,130,131,132,133,134,135,136,137,138,139,140,141,142,143,144,145,146,147,148,149,150,151]

abbrev q12_9:List Nat:=[2,11,12,14,123,124,125,126,127,128,129,130,131,132,133,134,135,136,137,138,139,140,141,142,143,144,145,146,147,148,149,150,151,152,153,154,155,156,157,158,159,160,161,162,163,164,165,166,167,168,169,170,171]

abbrev q12_5:List Nat:=[82,83,84,85,86,87,88,89,90,91,92,93,94,95,96,97,98,99,100,101,102,103,104,105,106,107,108,109,110,111,112,113,114,115,116,117,118,119]

abbrev q12_10:List Nat:=[2,9,11,12,14,78,79,80,81,82,83,84,85,86,87,88,89,90,91,92,93,94,95,96,97,98,99,100,101,102,103,104,105,106,107,108,109,110,111,112,113,114,115,116,117,118,119,120,121,122,123,124,125,126,127,128,129,130,131,132,133,134,135,136,137,138,139,140,141,142,143,144,145,146,147,148,149,150,151,152,153,154,155,156,157,158,159,160,161,162,163,164,165,166,167,168,169,170,171,172]

abbrev q12_3:List Nat:=[64,65,66,67,68,69,70,71,72,73]

abbrev q12_4:List Nat:=[2,7,60,61,62,63,64,65,66,67,68,69,70,71,72,73,74]

abbrev q12_1:List Nat:=[46,47,48,49,50,51,52,53]

abbrev q12_2:List Nat:=[2,5,42,43,44,45,46,47,48,49,50,51,52,53,54,55,56]

abbrev q12_0:List Nat:=[15,16,17,18,19,20,21,22,23,24,25,26,27,28,29,30,31,32,33,34,35,36,37]

def m12_problem_Check_B4 (p:XProblem) (map_1:List (XCell × Bool)) (v_6:Int) (v_8:Int) (sf196:Int→Option Int) (sf236:Int→Option Int) (v_10:Int):Option Int:=
 bif (decide (v_10<(((((p.variables.getD v_6.toNat default).choices).getD v_8.toNat default).uses).length:Int))) then
  ck ((0:Int)≤v_10∧v_10<(((((p.variables.getD v_6.toNat default).choices).getD v_8.toNat default).uses).length:Int))<|
  jn (fun(v_11:Bool)=>
   bif v_11 then
    some 270
   else
    sf236 (IntKind.wrap .i64 (v_10+1)))
  (fun k263=>
   bif (!((mget map_1 ((((((p.variables.getD v_6.toNat default).choices).getD v_8.toNat default).uses).getD v_10.toNat default).cell)).getD false)) then
    k263 true
   else
    (m33_problem_within ((((((p.variables.getD v_6.toNat default).choices).getD v_8.toNat default).uses).getD v_10.toNat default).places) 1 8).bind fun within_1=>
    k263 (!within_1))
 else
  sf196 (IntKind.wrap .i64 (v_8+1))

def m12_problem_Check_B3 (p:XProblem) (map_1:List (XCell × Bool)) (v_6:Int) (sf156:Int→Option Int) (sf196:Int→Option Int) (v_8:Int):Option Int:=
 bif (decide (v_8<(((p.variables.getD v_6.toNat default).choices).length:Int))) then
  ck ((0:Int)≤v_8∧v_8<(((p.variables.getD v_6.toNat default).choices).length:Int))<|
  jn (fun(v_9:Bool)=>
   bif v_9 then
    some 270
   else
    loop1 (m12_problem_Check_B4 p map_1 v_6 v_8 sf196) (((((((p.variables.getD v_6.toNat default).choices).getD v_8.toNat default).uses).length:Int) - 0).toNat+1) 0)
  (fun k223=>
   (m33_problem_within ((((p.variables.getD v_6.toNat default).choices).getD v_8.toNat default).delay) 0 1048576).bind fun within_2=>
   bif (!within_2) then
    k223 true
   else
    (m33_problem_within ((((p.variables.getD v_6.toNat default).choices).getD v_8.toNat default).cost) 0 1048576).bind fun within_3=>
    bif (!within_3) then
     k223 true
    else
     (m33_problem_within ((((p.variables.getD v_6.toNat default).choices).getD v_8.toNat default).changes) 0 1048576).bind fun within_4=>
     bif (!within_4) then
      k223 true
     else
      (m40_api_Use_ ((((p.variables.getD v_6.toNat default).choices).getD v_8.toNat default).uses) (fun x331 x332=>m41_problem_Check_2 x331 x332)).bind fun use_1=>
      k223 (!use_1))
 else
  sf156 (IntKind.wrap .i64 (v_6+1))

def m12_problem_Check_B2 (p:XProblem) (map_1:List (XCell × Bool)) (sf156:Int→Option Int) (v_6:Int):Option Int:=
 bif (decide (v_6<(p.variables.length:Int))) then
  ck ((0:Int)≤v_6∧v_6<(p.variables.length:Int))<|
  jn (fun(v_7:Bool)=>
   bif v_7 then
    some 270
   else
    loop1 (m12_problem_Check_B3 p map_1 v_6 sf156) (((((p.variables.getD v_6.toNat default).choices).length:Int) - 0).toNat+1) 0)
  (fun k183=>
   bif (decide ((((p.variables.getD v_6.toNat default).leaves).length:Int)=0)) then
    k183 true
   else
    (m33_problem_within (((p.variables.getD v_6.toNat default).choices).length:Int) 1 96).bind fun within_5=>
    bif (!within_5) then
     k183 true
    else
     (m38_problem_increasing ((p.variables.getD v_6.toNat default).leaves) (fun x518 x519=>m39_cmp_Compare x518 x519)).bind fun increasing_1=>
     bif (!increasing_1) then
      k183 true
     else
      ck ((0:Int)≤0∧0<(((p.variables.getD v_6.toNat default).leaves).length:Int))<|
      bif (decide ((((p.variables.getD v_6.toNat default).leaves).getD 0 default)<0)) then
       k183 true
      else
       ck ((0:Int)≤(IntKind.wrap .i64 ((((p.variables.getD v_6.toNat default).leaves).length:Int) - 1))∧(IntKind.wrap .i64 ((((p.variables.getD v_6.toNat default).leaves).length:Int) - 1))<(((p.variables.getD v_6.toNat default).leaves).length:Int))<|
       k183 (decide ((p.capacity.length:Int)≤(((p.variables.getD v_6.toNat default).leaves).getD (IntKind.wrap .i64 ((((p.variables.getD v_6.toNat default).leaves).length:Int) - 1)).toNat default))))
 else
  some 0

def m12_problem_Check_B1 (p:XProblem) (map_1:List (XCell × Bool)) (sf80:Int→Option Int) (v_4:Int):Option Int:=
 bif (decide (v_4<(p.capacity.length:Int))) then
  ck ((0:Int)≤v_4∧v_4<(p.capacity.length:Int))<|
  jn (fun(v_5:Bool)=>
   bif v_5 then
    some 270
   else
    sf80 (IntKind.wrap .i64 (v_4+1)))
  (fun k99=>
   bif (decide (((p.capacity.getD v_4.toNat default).length:Int)≠(p.cells.length:Int))) then
    k99 true
   else
    (m36_slices_ContainsFuncint_int_ (p.capacity.getD v_4.toNat default) (fun x123=>m37_problem_Check_1 x123)).bind fun containsfunc_1=>
    k99 containsfunc_1)
 else
  loop1 (m12_problem_Check_B2 p map_1) (((p.variables.length:Int) - 0).toNat+1) 0

def m12_problem_Check_B0 (p:XProblem) (sf30:Int→(List (XCell × Bool))→Option Int) (v_2:Int) (map_1:List (XCell × Bool)):Option Int:=
 bif (decide (v_2<(p.cells.length:Int))) then
  ck ((0:Int)≤v_2∧v_2<(p.cells.length:Int))<|
  jn (fun(v_3:Bool)=>
   bif v_3 then
    some 270
   else
    sf30 (IntKind.wrap .i64 (v_2+1)) (mput map_1 (p.cells.getD v_2.toNat default) true))
  (fun k57=>
   bif (decide (((p.cells.getD v_2.toNat default).index)<0)) then
    k57 true
   else
    k57 (decide (((p.cells.getD v_2.toNat default).minute)<0)))
 else
  loop1 (m12_problem_Check_B1 p map_1) (((p.capacity.length:Int) - 0).toNat+1) 0

def m12_problem_Check (p:XProblem):Option Int:=
 jn (fun(v_1:Bool)=>
  bif v_1 then
   some 270
  else
   loop2 (m12_problem_Check_B0 p) (((p.cells.length:Int) - 0).toNat+1) 0 ([]:List (XCell × Bool)))
 (fun k8=>
  bif (decide (4096<(p.cells.length:Int))) then
   k8 true
  else
   (m33_problem_within (p.capacity.length:Int) 1 32).bind fun within_6=>
   bif (!within_6) then
    k8 true
   else
    bif (decide (64<(p.variables.length:Int))) then
     k8 true
    else
     (m34_api_Cell_ p.cells (fun x735 x736=>m35_problem_compare x735 x736)).bind fun cell_1=>
     k8 (!cell_1))

theorem c12_problem_Check {w:World} {O:List Nat} {p:XProblem} {Aa:Option Addr} {Ca:Nat} {Ab:Option Addr} {Cb:Nat} {Ac:Option Addr} {Cc:Nat} (hO:∀k∈O,k<w.heap.size) (Fa:SlR rXCell w O Aa Ca p.cells) (Fb:SlR (rSl (rInt .i64)) w O Ab Cb p.capacity) (Fc:SlR rXVariable w O Ac Cc p.variables) {x:Int} (hm:m12_problem_Check p=some x):
 Ok Try.prog 12 [Value.agg [Sl Aa p.cells Ca,Sl Ab p.capacity Cb,Sl Ac p.variables Cc].toArray] w O (vI .i64) x:=by
 unfold m12_problem_Check at hm
 refine Fn_of_Wp (n:=173) (xs:=[.tmp 2]) Try.func12 rfl Try.ntmps12 Try.results12 rfl ?_
 have hs:=St.start hO
 refine Wb<|Wa<|Rop<|op_box (cs:=[Sl Aa p.cells Ca,Sl Ab p.capacity Cb,Sl Ac p.variables Cc]) hs rfl rfl ?_
 intro b1 w2 _ p3 hs4
 refine Asg (Iv 0) rfl<|Ri2<|Wb<|Wr [] [(1,Pt b1 0)] fun ξ6=>?_
 obtain⟨k8,hk9,hm⟩:=jn_elim hm
 refine Wp_seqJ q12_0 (fun fr w'=>∃(v_1:Bool) (Ebs:Ents),Ebs=[(some b1,Oc [Sl Aa p.cells Ca,Sl Ab p.capacity Cb,Sl Ac p.variables Cc] 26)]∧fr [] [(37,Bo v_1)]∧hs4.S (ks Ebs O) w'∧St ⟨w,[],[]⟩ O w' Ebs∧k8 v_1=some x) ?_ ?_
 rintro ρ15 w11 ⟨v_1,_,rfl,hfr14,hst13,hs12,hm⟩
 replace hm:=jnE1 hk9 hm
 rw [hfr14.eq];clear hfr14
 refine Wo2 hm rfl (fun hc16 hm=>?_) (fun hc16 hm=>?_)
 refine Wb ?_
 obtain⟨hs17,p18⟩:=hs12.sub (bs':=[]) (.cons _ List.Sublist.slnil)
 clear Fa Fb Fc
 clear hs12
 refine Wa<|Asg (Iv 270) rfl<|Ri2<|Wp_ret<|⟨_,Clo,[Iv 270],⟨rfl,trivial⟩,hs17.ext,?_⟩
 exact Vr.eq (a:=(vI .i64)) (x:=270) ⟨rfl,(show InK .i64 270 from by decide)⟩ (oi hm)
 refine Ws2<|Wb<|Wa<|Rop<|op_makeMap hs12 ?_
 intro b19 w20 p21 hs22
 clear hs12
 have M23:Mo kXCell mvB (Obj.map #[] 0) ([]:List (XCell × Bool)):=Mo.nil_
 refine Asg (Value.map (some b19)) rfl<|Ri2<|Wb<|Wb<|Wa<|Rop<|op2 0 ty26 rfl ty22 rfl rfl<|Rop<|oq2 1 ty22 hs22 rfl rfl rfl<|Rop<|op_len Try.underlying22 rfl ?_
 have p26:=(p3.trans (hst13.trans p21))
 replace Fa:=Fa.step p26
 have rl25:=inK_len Fa
 refine Mve (Iv 0) rfl<|Ri2<|Wn2<|Wr [] [(1,Pt b1 0),(3,Value.map (some b19)),(40,Sl Aa p.cells Ca),(41,Iv (p.cells.length:Int)),(42,Iv 0)] fun ξ29=>Wp_loopM q12_2 (fun m fr w'=>∃(v_2:Int) (map_1:List (XCell × Bool)) (o_g28:Obj) (Ebs:Ents),Ebs=[(some b19,o_g28),(some b1,Oc [Sl Aa p.cells Ca,Sl Ab p.capacity Cb,Sl Ac p.variables Cc] 26)]∧fr [] [(42,Iv v_2)]∧hs22.S (ks Ebs O) w'∧St ⟨w,[],[]⟩ O w' Ebs∧InK .i64 v_2∧Mo kXCell mvB o_g28 map_1∧loop2 (m12_problem_Check_B0 p) m v_2 map_1=some x) (((p.cells.length:Int) - 0).toNat+1) ⟨0,([]:List (XCell × Bool)),Obj.map #[] 0,_,rfl,Frm.of ⟨rfl,trivial⟩,Step.refl _ _,hs22,(show InK .i64 0 from by decide),M23,hm⟩ ?_ ?_
 rintro _ _ ⟨_,_,_,_,_,_,_,_,_,_,hm⟩;exact loop2_z hm
 rintro m33 K32 hK32 ρ38 w34 ⟨v_2,map_1,o_g28,_,rfl,hfr37,hst36,hs35,Ra,M_g28,hm⟩
 obtain⟨sf30,hsf31,hm⟩:=loop2_s hm;unfold m12_problem_Check_B0 at hm
 rw [hfr37.eq];clear hfr37
 have ch39:=hst36
 refine Wb<|Wa<|Rop<|op_lss rfl rfl<|Ri2<|Wb<|Wo2 hm rfl (fun hc40 hm=>?_) (fun hc40 hm=>?_)
 refine Ws2<|Wb<|Wn2<|Wb<|Wa ?_
 obtain⟨hc41,hm⟩:=ck_some hm
 replace Fa:=Fa.step hst36
 refine Rop<|om2 (q:=rXCell) ty22 ty67 rfl rfl Fa rfl hc41.1 hc41.2 ?_
 intro p42 f43
 refine Rop<|op_loadPA ty67 rfl f43 rfl ?_
 intro vs44 h45
 obtain⟨_,_,rfl,rfl,⟨_,_,rfl,⟨rfl,Rb⟩,⟨rfl,Rc⟩⟩⟩:=h45
 refine Rop<|op_alloc ty67 hs35 ?_
 intro b47 w48 _ p49 hs50
 clear hs35
 refine Rg_op_<|op_stA .z ty67 hs50 rfl rfl rfl rfl rfl ?_
 intro w52 p53 hs54
 clear hs50
 refine Ri2<|Wb<|Wr2 q12_2 [] (updL ⟨ξ29,[]⟩ [(1,Pt b1 0),(3,Value.map (some b19)),(40,Sl Aa p.cells Ca),(41,Iv (p.cells.length:Int)),(42,Iv 0)]) [(5,Pt b47 0),(42,Iv v_2)] fun ξ55=>?_
 obtain⟨k57,hk58,hm⟩:=jn_elim hm
 refine Wp_seqJ q12_1 (fun fr w'=>∃(v_3:Bool) (Ebs:Ents),Ebs=[(some b47,Oc [Bo ((p.cells.getD v_2.toNat default).airport),Iv ((p.cells.getD v_2.toNat default).index),Iv ((p.cells.getD v_2.toNat default).minute)] 67),(some b19,o_g28),(some b1,Oc [Sl Aa p.cells Ca,Sl Ab p.capacity Cb,Sl Ac p.variables Cc] 26)]∧fr [] [(53,Bo v_3)]∧hs54.S (ks Ebs O) w'∧St ⟨w,[],[]⟩ O w' Ebs∧k57 v_3=some x) ?_ ?_
 rintro ρ64 w60 ⟨v_3,_,rfl,hfr63,hst62,hs61,hm⟩
 replace hm:=jnE1 hk58 hm
 rw [hfr63.eq];clear hfr63
 refine Wo2 hm rfl (fun hc65 hm=>?_) (fun hc65 hm=>?_)
 refine Wb ?_
 clear f43
 refine Wa<|Asg (Iv 270) rfl<|Ri2<|Wp_ret<|⟨_,Clo,[Iv 270],⟨rfl,trivial⟩,hs61.ext,?_⟩
 exact Vr.eq (a:=(vI .i64)) (x:=270) ⟨rfl,(show InK .i64 270 from by decide)⟩ (oi hm)
 refine Ws2 ?_
 clear f43
 refine Wa<|Mve (Value.map (some b19)) rfl<|Rop<|op_ldA 0 ty67 hs61 rfl rfl rfl<|Rg_op_<|op_mapUpdate (q:=kXCell) (m:=mvB) (n:=p.cells.getD v_2.toNat default) (v:=true) (i:=1) Try.underlying69 kok67 hs61 rfl M_g28 rfl rfl rfl rfl (And.intro Rb Rc) trivial ?_
 intro o66 w67 p68 hs69 M70
 clear hs61
 refine Ri2<|Wa<|Rop<|op_addw rfl rfl<|Mve (Iv (IntKind.wrap .i64 (v_2+1))) rfl<|Ri2 ?_
 have hs71:=hs69.drop 0
 have p72:=(hs69.dropS 0)
 clear hs69
 have p73:=(p49.trans (p53.trans (hst62.trans (p68.trans p72))))
 replace ch39:=ch39.trans p73
 exact hK32 _ _ ⟨(IntKind.wrap .i64 (v_2+1)),mput map_1 (p.cells.getD v_2.toNat default) true,o66,_,rfl,Frm.of ⟨rfl,trivial⟩,ch39,hs71,(inK_wrap .i64 _),M70,jnE2 hsf31 hm⟩
 intro K59 hK59
 have ch74:=hs54.stepR
 clear f43
 refine Wa<|Rop<|op2 1 ty67 rfl ty3 rfl rfl<|Rop<|oq2 0 ty3 hs54 rfl rfl rfl<|Rop<|op_lss rfl rfl<|Mve (Bo (decide (((p.cells.getD v_2.toNat default).index)<0))) rfl<|Rg_caseM hm (fun hg75 hm=>?_) (fun hg75 hm=>?_)
 iterate 3 refine Rl2 rfl (asB_ne rfl rfl) rfl ?_
 exact Pkt (Bo true) rfl rfl<|Ri2<|hK59 _ _ ⟨true,_,rfl,Frm.of ⟨rfl,trivial⟩,ch74,hs54,hm⟩
 exact Rog rfl rfl<|op2 2 ty67 rfl ty3 rfl rfl<|Rog rfl rfl<|oq2 0 ty3 hs54 rfl rfl rfl<|Rog rfl rfl<|op_lss rfl rfl<|Pkf (Bo (decide (((p.cells.getD v_2.toNat default).minute)<0))) rfl rfl<|Ri2<|hK59 _ _ ⟨decide (((p.cells.getD v_2.toNat default).minute)<0),_,rfl,Frm.of ⟨rfl,trivial⟩,ch74,hs54,hm⟩
 refine Wp_exit<|Wb<|Wb<|Wa<|Rop<|op2 1 ty26 rfl ty23 rfl rfl<|Rop<|oq2 1 ty23 hs35 rfl rfl rfl<|Rop<|op_len Try.underlying23 rfl ?_
 have p77:=(p26.trans hst36)
 replace Fb:=Fb.step p77
 have rl76:=inK_len Fb
 refine Mve (Iv 0) rfl<|Ri2<|Wn2<|Wr [] [(1,Pt b1 0),(3,Value.map (some b19)),(58,Sl Ab p.capacity Cb),(59,Iv (p.capacity.length:Int)),(60,Iv 0)] fun ξ79=>Wp_loopM q12_4 (fun m fr w'=>∃(v_4:Int) (Ebs:Ents),Ebs=[(some b19,o_g28),(some b1,Oc [Sl Aa p.cells Ca,Sl Ab p.capacity Cb,Sl Ac p.variables Cc] 26)]∧fr [] [(60,Iv v_4)]∧hs35.S (ks Ebs O) w'∧St ⟨w,[],[]⟩ O w' Ebs∧InK .i64 v_4∧loop1 (m12_problem_Check_B1 p map_1) m v_4=some x) (((p.capacity.length:Int) - 0).toNat+1) ⟨0,_,rfl,Frm.of ⟨rfl,trivial⟩,Step.refl _ _,hs35,(show InK .i64 0 from by decide),hm⟩ ?_ ?_
 rintro _ _ ⟨_,_,_,_,_,_,_,hm⟩;exact loop1_z hm
 rintro m83 K82 hK82 ρ88 w84 ⟨v_4,_,rfl,hfr87,hst86,hs85,Rd,hm⟩
 obtain⟨sf80,hsf81,hm⟩:=loop1_s hm;unfold m12_problem_Check_B1 at hm
 rw [hfr87.eq];clear hfr87
 have ch89:=hst86
 refine Wb<|Wa<|Rop<|op_lss rfl rfl<|Ri2<|Wb<|Wo2 hm rfl (fun hc90 hm=>?_) (fun hc90 hm=>?_)
 refine Ws2<|Wb<|Wn2<|Wb<|Wa ?_
 obtain⟨hc91,hm⟩:=ck_some hm
 replace Fb:=Fb.step hst86
 refine Rop<|om2 (q:=rSl (rInt .i64)) ty23 ty31 rfl rfl Fb rfl hc91.1 hc91.2 ?_
 intro p92 f93
 refine Rop<|ot2 ty31 rfl f93 rfl ?_
 intro v94 h95
 obtain⟨Ad,Cd,rfl,Fd⟩:=un_sl h95
 refine Asg (Sl Ad (p.capacity.getD v_4.toNat default) Cd) rfl<|Ri2<|Wr2 q12_4 [] (updL ⟨ξ79,[]⟩ [(1,Pt b1 0),(3,Value.map (some b19)),(58,Sl Ab p.capacity Cb),(59,Iv (p.capacity.length:Int)),(60,Iv 0)]) [(7,Sl Ad (p.capacity.getD v_4.toNat default) Cd),(60,Iv v_4)] fun ξ97=>?_
 obtain⟨k99,hk100,hm⟩:=jn_elim hm
 refine Wp_seqJ q12_3 (fun fr w'=>∃(v_5:Bool) (Ebs:Ents),Ebs=[(some b19,o_g28),(some b1,Oc [Sl Aa p.cells Ca,Sl Ab p.capacity Cb,Sl Ac p.variables Cc] 26)]∧fr [] [(73,Bo v_5)]∧hs85.S (ks Ebs O) w'∧St ⟨w,[],[]⟩ O w' Ebs∧k99 v_5=some x) ?_ ?_
 rintro ρ106 w102 ⟨v_5,_,rfl,hfr105,hst104,hs103,hm⟩
 replace hm:=jnE1 hk100 hm
 rw [hfr105.eq];clear hfr105
 refine Wo2 hm rfl (fun hc107 hm=>?_) (fun hc107 hm=>?_)
 refine Wb ?_
 clear f93 Fd
 refine Wa<|Asg (Iv 270) rfl<|Ri2<|Wp_ret<|⟨_,Clo,[Iv 270],⟨rfl,trivial⟩,hs103.ext,?_⟩
 exact Vr.eq (a:=(vI .i64)) (x:=270) ⟨rfl,(show InK .i64 270 from by decide)⟩ (oi hm)
 refine Ws2 ?_
 clear f93 Fd
 refine Wa<|Rop<|op_addw rfl rfl<|Mve (Iv (IntKind.wrap .i64 (v_4+1))) rfl<|Ri2 ?_
 replace ch89:=ch89.trans hst104
 exact hK82 _ _ ⟨(IntKind.wrap .i64 (v_4+1)),_,rfl,Frm.of ⟨rfl,trivial⟩,ch89,hs103,(inK_wrap .i64 _),jnE1 hsf81 hm⟩
 intro K101 hK101
 have ch108:=hs85.stepR
 clear f93
 refine Wa<|Mve (Sl Ad (p.capacity.getD v_4.toNat default) Cd) rfl<|Rop<|op_len Try.underlying31 rfl ?_
 have rl109:=inK_len Fd
 refine Rop<|op2 0 ty26 rfl ty22 rfl rfl<|Rop<|oq2 1 ty22 hs85 rfl rfl rfl<|Rop<|op_len Try.underlying22 rfl ?_
 replace Fa:=Fa.step (hst36.trans hst86)
 have rl110:=inK_len Fa
 refine Rop<|op_neq rfl rfl<|Mve (Bo (decide (((p.capacity.getD v_4.toNat default).length:Int)≠(p.cells.length:Int)))) rfl<|Rg_caseM hm (fun hg111 hm=>?_) (fun hg111 hm=>?_)
 exact Rl2 rfl (asB_ne rfl rfl) rfl<|Rl2 rfl (asB_ne rfl rfl) rfl<|Pkt (Bo true) rfl rfl<|Ri2<|hK101 _ _ ⟨true,_,rfl,Frm.of ⟨rfl,trivial⟩,ch108,hs85,hm⟩
 refine Rog rfl rfl<|ok2 (v:=Sl Ad (p.capacity.getD v_4.toNat default) Cd) rfl ?_
 have F113:CallsTo1 Try.prog w84 (ks [(some b19,o_g28),(some b1,Oc [Sl Aa p.cells Ca,Sl Ab p.capacity Cb,Sl Ac p.variables Cc] 26)] O) (Value.func (.func 37) #[] #[]) (vI .i64) vB (fun x112=>m37_problem_Check_1 x112):=by
  intro w114 O115 st116 hO117 v120 x112 y118 h121 hy119
  obtain⟨rfl,Re⟩:=h121
  exact⟨37,#[],#[],rfl,Try.call37,c37_problem_Check_1 (n:=x112) hO117 Re hy119⟩
 have F124:CallsTo1 Try.prog w84 (ks [(some b19,o_g28),(some b1,Oc [Sl Aa p.cells Ca,Sl Ab p.capacity Cb,Sl Ac p.variables Cc] 26)] O) (Value.func (.func 37) #[] #[]) (vI .i64) vB (fun x123=>m37_problem_Check_1 x123):=by
  intro w125 O126 st127 hO128 v131 x123 y129 h132 hy130
  obtain⟨rfl,Rf⟩:=h132
  exact⟨37,#[],#[],rfl,Try.call37,c37_problem_Check_1 (n:=x123) hO128 Rf hy130⟩
 obtain⟨containsfunc_1,hv134,hm⟩:=bd hm
 have F141:CallsTo1 Try.prog w84 (ks [(some b19,o_g28),(some b1,Oc [Sl Aa p.cells Ca,Sl Ab p.capacity Cb,Sl Ac p.variables Cc] 26)] O) (Value.func (.func 37) #[] #[]) (vI .i64) vB (fun x140=>m37_problem_Check_1 x140):=by
  intro w142 O143 st144 hO145 v148 x140 y146 h149 hy147
  obtain⟨rfl,Rg⟩:=h149
  exact⟨37,#[],#[],rfl,Try.call37,c37_problem_Check_1 (n:=x140) hO145 Rg hy147⟩
 refine Rog rfl rfl<|op_callE hs85 Try.call36 (c36_slices_ContainsFuncint_int_ (s:=p.capacity.getD v_4.toNat default) (f:=(fun x123=>m37_problem_Check_1 x123)) hs85.ltw Fd F124 hv134) rfl ?_
 rintro v135 w136 p151 hs139 h138
 obtain rfl:=h138
 refine Pkf (Bo containsfunc_1) rfl rfl<|Ri2 ?_
 replace ch108:=ch108.trans p151
 exact hK101 _ _ ⟨containsfunc_1,_,rfl,Frm.of ⟨rfl,trivial⟩,ch108,hs139,hm⟩
 refine Wp_exit<|Wb<|Wb<|Wa<|Rop<|op2 2 ty26 rfl ty24 rfl rfl<|Rop<|oq2 1 ty24 hs85 rfl rfl rfl<|Rop<|op_len Try.underlying24 rfl ?_
 replace Fc:=Fc.step (p77.trans hst86)
 have rl153:=inK_len Fc
 refine Mve (Iv 0) rfl<|Ri2<|Wn2<|Wr [] [(1,Pt b1 0),(3,Value.map (some b19)),(76,Sl Ac p.variables Cc),(77,Iv (p.variables.length:Int)),(78,Iv 0)] fun ξ155=>Wp_loopM q12_10 (fun m fr w'=>∃(v_6:Int) (Ebs:Ents),Ebs=[(some b19,o_g28),(some b1,Oc [Sl Aa p.cells Ca,Sl Ab p.capacity Cb,Sl Ac p.variables Cc] 26)]∧fr [] [(78,Iv v_6)]∧hs85.S (ks Ebs O) w'∧St ⟨w,[],[]⟩ O w' Ebs∧InK .i64 v_6∧loop1 (m12_problem_Check_B2 p map_1) m v_6=some x) (((p.variables.length:Int) - 0).toNat+1) ⟨0,_,rfl,Frm.of ⟨rfl,trivial⟩,Step.refl _ _,hs85,(show InK .i64 0 from by decide),hm⟩ ?_ ?_
 rintro _ _ ⟨_,_,_,_,_,_,_,hm⟩;exact loop1_z hm
 rintro m159 K158 hK158 ρ164 w160 ⟨v_6,_,rfl,hfr163,hst162,hs161,Rh,hm⟩
 obtain⟨sf156,hsf157,hm⟩:=loop1_s hm;unfold m12_problem_Check_B2 at hm
 rw [hfr163.eq];clear hfr163
 have ch165:=hst162
 refine Wb<|Wa<|Rop<|op_lss rfl rfl<|Ri2<|Wb<|Wo2 hm rfl (fun hc166 hm=>?_) (fun hc166 hm=>?_)
 refine Ws2<|Wb<|Wn2<|Wb<|Wa ?_
 obtain⟨hc167,hm⟩:=ck_some hm
 replace Fc:=Fc.step hst162
 refine Rop<|om2 (q:=rXVariable) ty24 ty61 rfl rfl Fc rfl hc167.1 hc167.2 ?_
 intro p168 f169
 refine Rop<|op_loadPA ty61 rfl f169 rfl ?_
 intro vs170 h171
 obtain⟨_,_,rfl,⟨rfl,Ri⟩,⟨_,_,rfl,⟨rfl,Rj⟩,⟨_,_,rfl,⟨Ae,Ce,rfl,Fe⟩,⟨Af,Cf,rfl,Ff⟩⟩⟩⟩:=h171
 refine Rop<|op_alloc ty61 hs161 ?_
 intro b173 w174 _ p175 hs176
 clear hs161
 refine Rg_op_<|op_stA .z ty61 hs176 rfl rfl rfl rfl rfl ?_
 intro w178 p179 hs180
 clear hs176
 refine Ri2<|Wb<|Wr2 q12_10 [] (updL ⟨ξ155,[]⟩ [(1,Pt b1 0),(3,Value.map (some b19)),(76,Sl Ac p.variables Cc),(77,Iv (p.variables.length:Int)),(78,Iv 0)]) [(9,Pt b173 0),(78,Iv v_6)] fun ξ181=>?_
 obtain⟨k183,hk184,hm⟩:=jn_elim hm
 refine Wp_seqJ q12_5 (fun fr w'=>∃(v_7:Bool) (Ebs:Ents),Ebs=[(some b173,Oc [Iv ((p.variables.getD v_6.toNat default).flight),Iv ((p.variables.getD v_6.toNat default).node),Sl Ae ((p.variables.getD v_6.toNat default).leaves) Ce,Sl Af ((p.variables.getD v_6.toNat default).choices) Cf] 61),(some b19,o_g28),(some b1,Oc [Sl Aa p.cells Ca,Sl Ab p.capacity Cb,Sl Ac p.variables Cc] 26)]∧fr [] [(119,Bo v_7)]∧hs180.S (ks Ebs O) w'∧St ⟨w,[],[]⟩ O w' Ebs∧k183 v_7=some x) ?_ ?_
 rintro ρ190 w186 ⟨v_7,_,rfl,hfr189,hst188,hs187,hm⟩
 replace hm:=jnE1 hk184 hm
 rw [hfr189.eq];clear hfr189
 refine Wo2 hm rfl (fun hc191 hm=>?_) (fun hc191 hm=>?_)
 refine Wb ?_
 clear f169
 refine Wa<|Asg (Iv 270) rfl<|Ri2<|Wp_ret<|⟨_,Clo,[Iv 270],⟨rfl,trivial⟩,hs187.ext,?_⟩
 exact Vr.eq (a:=(vI .i64)) (x:=270) ⟨rfl,(show InK .i64 270 from by decide)⟩ (oi hm)
 refine Ws2<|Wb ?_
 clear f169
 refine Wa<|Rop<|op2 3 ty61 rfl ty59 rfl rfl<|Rop<|oq2 0 ty59 hs187 rfl rfl rfl<|Rop<|op_len Try.underlying59 rfl ?_
 have p193:=(p175.trans (p179.trans hst188))
 replace Ff:=Ff.step p193
 have rl192:=inK_len Ff
 refine Mve (Iv 0) rfl<|Ri2<|Wn2<|Wr2 q12_10 [] (updL ⟨ξ155,[]⟩ [(1,Pt b1 0),(3,Value.map (some b19)),(76,Sl Ac p.variables Cc),(77,Iv (p.variables.length:Int)),(78,Iv 0)]) [(78,Iv v_6),(121,Sl Af ((p.variables.getD v_6.toNat default).choices) Cf),(122,Iv (((p.variables.getD v_6.toNat default).choices).length:Int)),(123,Iv 0)] fun ξ195=>Wp_loopM q12_9 (fun m fr w'=>∃(v_8:Int) (Ebs:Ents),Ebs=[(some b173,Oc [Iv ((p.variables.getD v_6.toNat default).flight),Iv ((p.variables.getD v_6.toNat default).node),Sl Ae ((p.variables.getD v_6.toNat default).leaves) Ce,Sl Af ((p.variables.getD v_6.toNat default).choices) Cf] 61),(some b19,o_g28),(some b1,Oc [Sl Aa p.cells Ca,Sl Ab p.capacity Cb,Sl Ac p.variables Cc] 26)]∧fr [] [(123,Iv v_8)]∧hs187.S (ks Ebs O) w'∧St ⟨w,[],[]⟩ O w' Ebs∧InK .i64 v_8∧loop1 (m12_problem_Check_B3 p map_1 v_6 sf156) m v_8=some x) (((((p.variables.getD v_6.toNat default).choices).length:Int) - 0).toNat+1) ⟨0,_,rfl,Frm.of ⟨rfl,trivial⟩,Step.refl _ _,hs187,(show InK .i64 0 from by decide),hm⟩ ?_ ?_
 rintro _ _ ⟨_,_,_,_,_,_,_,hm⟩;exact loop1_z hm
 rintro m199 K198 hK198 ρ204 w200 ⟨v_8,_,rfl,hfr203,hst202,hs201,Rk,hm⟩
 obtain⟨sf196,hsf197,hm⟩:=loop1_s hm;unfold m12_problem_Check_B3 at hm
 rw [hfr203.eq];clear hfr203
 have ch205:=hst202
 refine Wb<|Wa<|Rop<|op_lss rfl rfl<|Ri2<|Wb<|Wo2 hm rfl (fun hc206 hm=>?_) (fun hc206 hm=>?_)
 refine Ws2<|Wb<|Wn2<|Wb<|Wa ?_
 obtain⟨hc207,hm⟩:=ck_some hm
 replace Ff:=Ff.step hst202
 refine Rop<|om2 (q:=rXChoice) ty59 ty58 rfl rfl Ff rfl hc207.1 hc207.2 ?_
 intro p208 f209
 refine Rop<|op_loadPA ty58 rfl f209 rfl ?_
 intro vs210 h211
 obtain⟨_,_,rfl,⟨rfl,Rl⟩,⟨_,_,rfl,⟨rfl,Rm⟩,⟨_,_,rfl,⟨rfl,Rn⟩,⟨Ag,Cg,rfl,Fg⟩⟩⟩⟩:=h211
 refine Rop<|op_alloc ty58 hs201 ?_
 intro b213 w214 _ p215 hs216
 clear hs201
 refine Rg_op_<|op_stA .z ty58 hs216 rfl rfl rfl rfl rfl ?_
 intro w218 p219 hs220
 refine Ri2<|Wb ?_
 clear f209
 refine Wa<|Asg (Iv 1048576) rfl<|Ri2<|Wb<|Wr2 q12_9 [] (updL (mix q12_10 [] ξ195 (updL ⟨ξ155,[]⟩ [(1,Pt b1 0),(3,Value.map (some b19)),(76,Sl Ac p.variables Cc),(77,Iv (p.variables.length:Int)),(78,Iv 0)])) [(78,Iv v_6),(121,Sl Af ((p.variables.getD v_6.toNat default).choices) Cf),(122,Iv (((p.variables.getD v_6.toNat default).choices).length:Int)),(123,Iv 0)]) [(11,Pt b213 0),(12,Iv 1048576),(123,Iv v_8)] fun ξ221=>?_
 obtain⟨k223,hk224,hm⟩:=jn_elim hm
 refine Wp_seqJ q12_6 (fun fr w'=>∃(v_9:Bool) (Ebs:Ents),Ebs=[(some b213,Oc [Iv ((((p.variables.getD v_6.toNat default).choices).getD v_8.toNat default).delay),Iv ((((p.variables.getD v_6.toNat default).choices).getD v_8.toNat default).cost),Iv ((((p.variables.getD v_6.toNat default).choices).getD v_8.toNat default).changes),Sl Ag ((((p.variables.getD v_6.toNat default).choices).getD v_8.toNat default).uses) Cg] 58),(some b173,Oc [Iv ((p.variables.getD v_6.toNat default).flight),Iv ((p.variables.getD v_6.toNat default).node),Sl Ae ((p.variables.getD v_6.toNat default).leaves) Ce,Sl Af ((p.variables.getD v_6.toNat default).choices) Cf] 61),(some b19,o_g28),(some b1,Oc [Sl Aa p.cells Ca,Sl Ab p.capacity Cb,Sl Ac p.variables Cc] 26)]∧fr [] [(151,Bo v_9)]∧hs220.S (ks Ebs O) w'∧St ⟨w,[],[]⟩ O w' Ebs∧k223 v_9=some x) ?_ ?_
 rintro ρ230 w226 ⟨v_9,_,rfl,hfr229,hst228,hs227,hm⟩
 replace hm:=jnE1 hk224 hm
 rw [hfr229.eq];clear hfr229
 refine Wo2 hm rfl (fun hc231 hm=>?_) (fun hc231 hm=>?_)
 refine Wb<|Wa<|Asg (Iv 270) rfl<|Ri2<|Wp_ret<|⟨_,Clo,[Iv 270],⟨rfl,trivial⟩,hs227.ext,?_⟩
 exact Vr.eq (a:=(vI .i64)) (x:=270) ⟨rfl,(show InK .i64 270 from by decide)⟩ (oi hm)
 refine Ws2<|Wb<|Wa<|Rop<|op2 3 ty58 rfl ty56 rfl rfl<|Rop<|oq2 0 ty56 hs227 rfl rfl rfl<|Rop<|op_len Try.underlying56 rfl ?_
 have p233:=(p215.trans (p219.trans hst228))
 replace Fg:=Fg.step p233
 have rl232:=inK_len Fg
 refine Mve (Iv 0) rfl<|Ri2<|Wn2<|Wr2 q12_9 [] (updL (mix q12_10 [] ξ195 (updL ⟨ξ155,[]⟩ [(1,Pt b1 0),(3,Value.map (some b19)),(76,Sl Ac p.variables Cc),(77,Iv (p.variables.length:Int)),(78,Iv 0)])) [(78,Iv v_6),(121,Sl Af ((p.variables.getD v_6.toNat default).choices) Cf),(122,Iv (((p.variables.getD v_6.toNat default).choices).length:Int)),(123,Iv 0)]) [(123,Iv v_8),(153,Sl Ag ((((p.variables.getD v_6.toNat default).choices).getD v_8.toNat default).uses) Cg),(154,Iv (((((p.variables.getD v_6.toNat default).choices).getD v_8.toNat default).uses).length:Int)),(155,Iv 0)] fun ξ235=>Wp_loopM q12_8 (fun m fr w'=>∃(v_10:Int) (Ebs:Ents),Ebs=[(some b213,Oc [Iv ((((p.variables.getD v_6.toNat default).choices).getD v_8.toNat default).delay),Iv ((((p.variables.getD v_6.toNat default).choices).getD v_8.toNat default).cost),Iv ((((p.variables.getD v_6.toNat default).choices).getD v_8.toNat default).changes),Sl Ag ((((p.variables.getD v_6.toNat default).choices).getD v_8.toNat default).uses) Cg] 58),(some b173,Oc [Iv ((p.variables.getD v_6.toNat default).flight),Iv ((p.variables.getD v_6.toNat default).node),Sl Ae ((p.variables.getD v_6.toNat default).leaves) Ce,Sl Af ((p.variables.getD v_6.toNat default).choices) Cf] 61),(some b19,o_g28),(some b1,Oc [Sl Aa p.cells Ca,Sl Ab p.capacity Cb,Sl Ac p.variables Cc] 26)]∧fr [] [(155,Iv v_10)]∧hs227.S (ks Ebs O) w'∧St ⟨w,[],[]⟩ O w' Ebs∧InK .i64 v_10∧loop1 (m12_problem_Check_B4 p map_1 v_6 v_8 sf196) m v_10=some x) (((((((p.variables.getD v_6.toNat default).choices).getD v_8.toNat default).uses).length:Int) - 0).toNat+1) ⟨0,_,rfl,Frm.of ⟨rfl,trivial⟩,Step.refl _ _,hs227,(show InK .i64 0 from by decide),hm⟩ ?_ ?_
 rintro _ _ ⟨_,_,_,_,_,_,_,hm⟩;exact loop1_z hm
 rintro m239 K238 hK238 ρ244 w240 ⟨v_10,_,rfl,hfr243,hst242,hs241,Ro,hm⟩
 obtain⟨sf236,hsf237,hm⟩:=loop1_s hm;unfold m12_problem_Check_B4 at hm
 rw [hfr243.eq];clear hfr243
 have ch245:=hst242
 refine Wb<|Wa<|Rop<|op_lss rfl rfl<|Ri2<|Wb<|Wo2 hm rfl (fun hc246 hm=>?_) (fun hc246 hm=>?_)
 refine Ws2<|Wb<|Wn2<|Wb<|Wa ?_
 obtain⟨hc247,hm⟩:=ck_some hm
 replace Fg:=Fg.step hst242
 refine Rop<|om2 (q:=rXUse) ty56 ty76 rfl rfl Fg rfl hc247.1 hc247.2 ?_
 intro p248 f249
 refine Rop<|op_loadPA ty76 rfl f249 rfl ?_
 intro vs250 h251
 obtain⟨_,_,rfl,⟨_,_,rfl,rfl,⟨_,_,rfl,⟨rfl,Rp⟩,⟨rfl,Rq⟩⟩⟩,⟨rfl,Rr⟩⟩:=h251
 refine Rop<|op_alloc ty76 hs241 ?_
 intro b253 w254 _ p255 hs256
 refine Rg_op_<|op_stA .z ty76 hs256 rfl rfl rfl rfl rfl ?_
 intro w258 p259 hs260
 clear hs256
 refine Ri2<|Wr2 q12_8 [] (updL (mix q12_9 [] ξ235 (updL (mix q12_10 [] ξ195 (updL ⟨ξ155,[]⟩ [(1,Pt b1 0),(3,Value.map (some b19)),(76,Sl Ac p.variables Cc),(77,Iv (p.variables.length:Int)),(78,Iv 0)])) [(78,Iv v_6),(121,Sl Af ((p.variables.getD v_6.toNat default).choices) Cf),(122,Iv (((p.variables.getD v_6.toNat default).choices).length:Int)),(123,Iv 0)])) [(123,Iv v_8),(153,Sl Ag ((((p.variables.getD v_6.toNat default).choices).getD v_8.toNat default).uses) Cg),(154,Iv (((((p.variables.getD v_6.toNat default).choices).getD v_8.toNat default).uses).length:Int)),(155,Iv 0)]) [(14,Pt b253 0),(155,Iv v_10)] fun ξ261=>?_
 obtain⟨k263,hk264,hm⟩:=jn_elim hm
 refine Wp_seqJ q12_7 (fun fr w'=>∃(v_11:Bool) (Ebs:Ents),Ebs=[(some b253,Oc [Bo (((((((p.variables.getD v_6.toNat default).choices).getD v_8.toNat default).uses).getD v_10.toNat default).cell).airport),Iv (((((((p.variables.getD v_6.toNat default).choices).getD v_8.toNat default).uses).getD v_10.toNat default).cell).index),Iv (((((((p.variables.getD v_6.toNat default).choices).getD v_8.toNat default).uses).getD v_10.toNat default).cell).minute),Iv ((((((p.variables.getD v_6.toNat default).choices).getD v_8.toNat default).uses).getD v_10.toNat default).places)] 76),(some b213,Oc [Iv ((((p.variables.getD v_6.toNat default).choices).getD v_8.toNat default).delay),Iv ((((p.variables.getD v_6.toNat default).choices).getD v_8.toNat default).cost),Iv ((((p.variables.getD v_6.toNat default).choices).getD v_8.toNat default).changes),Sl Ag ((((p.variables.getD v_6.toNat default).choices).getD v_8.toNat default).uses) Cg] 58),(some b173,Oc [Iv ((p.variables.getD v_6.toNat default).flight),Iv ((p.variables.getD v_6.toNat default).node),Sl Ae ((p.variables.getD v_6.toNat default).leaves) Ce,Sl Af ((p.variables.getD v_6.toNat default).choices) Cf] 61),(some b19,o_g28),(some b1,Oc [Sl Aa p.cells Ca,Sl Ab p.capacity Cb,Sl Ac p.variables Cc] 26)]∧fr [] [(169,Bo v_11)]∧hs260.S (ks Ebs O) w'∧St ⟨w,[],[]⟩ O w' Ebs∧k263 v_11=some x) ?_ ?_
 rintro ρ270 w266 ⟨v_11,_,rfl,hfr269,hst268,hs267,hm⟩
 replace hm:=jnE1 hk264 hm
 rw [hfr269.eq];clear hfr269
 refine Wo2 hm rfl (fun hc271 hm=>?_) (fun hc271 hm=>?_)
 refine Wb ?_
 clear f249
 refine Wa<|Asg (Iv 270) rfl<|Ri2<|Wp_ret<|⟨_,Clo,[Iv 270],⟨rfl,trivial⟩,hs267.ext,?_⟩
 exact Vr.eq (a:=(vI .i64)) (x:=270) ⟨rfl,(show InK .i64 270 from by decide)⟩ (oi hm)
 refine Ws2 ?_
 clear f249
 refine Wa<|Rop<|op_addw rfl rfl<|Mve (Iv (IntKind.wrap .i64 (v_10+1))) rfl<|Ri2 ?_
 have hs272:=hs267.drop 0
 have p273:=(hs267.dropS 0)
 clear hs267
 have p274:=(p255.trans (p259.trans (hst268.trans p273)))
 replace ch245:=ch245.trans p274
 exact hK238 _ _ ⟨(IntKind.wrap .i64 (v_10+1)),_,rfl,Frm.of ⟨rfl,trivial⟩,ch245,hs272,(inK_wrap .i64 _),jnE1 hsf237 hm⟩
 intro K265 hK265
 have ch275:=hs260.stepR
 clear f249
 refine Wa<|Mve (Value.map (some b19)) rfl<|Rop<|op2 0 ty76 rfl ty67 rfl rfl<|Rop<|op_loadA (vs:=[Bo (((((((p.variables.getD v_6.toNat default).choices).getD v_8.toNat default).uses).getD v_10.toNat default).cell).airport),Iv (((((((p.variables.getD v_6.toNat default).choices).getD v_8.toNat default).uses).getD v_10.toNat default).cell).index),Iv (((((((p.variables.getD v_6.toNat default).choices).getD v_8.toNat default).uses).getD v_10.toNat default).cell).minute)]) (i:=0) ty67 hs260 rfl rfl rfl rfl<|Rop<|op_lookup (q:=kXCell) (m:=mvB) (n:=(((((p.variables.getD v_6.toNat default).choices).getD v_8.toNat default).uses).getD v_10.toNat default).cell) (z:=false) Try.underlying69 kok67 Try.zeroValue4 (hs260.get (i:=3) rfl) M_g28 (And.intro Rp Rq) rfl rfl<|Rop<|op_not rfl<|Mve (Bo (!((mget map_1 ((((((p.variables.getD v_6.toNat default).choices).getD v_8.toNat default).uses).getD v_10.toNat default).cell)).getD false))) rfl<|Rg_caseM hm (fun hg276 hm=>?_) (fun hg276 hm=>?_)
 iterate 4 refine Rl2 rfl (asB_ne rfl rfl) rfl ?_
 exact Pkt (Bo true) rfl rfl<|Ri2<|hK265 _ _ ⟨true,_,rfl,Frm.of ⟨rfl,trivial⟩,ch275,hs260,hm⟩
 refine Rog rfl rfl<|op2 3 ty76 rfl ty3 rfl rfl<|Rog rfl rfl<|oq2 0 ty3 hs260 rfl rfl rfl ?_
 obtain⟨within_1,hv277,hm⟩:=bd hm
 refine Rog rfl rfl<|op_callE hs260 Try.call33 (c33_problem_within (n:=(((((p.variables.getD v_6.toNat default).choices).getD v_8.toNat default).uses).getD v_10.toNat default).places) (lo:=1) (hi:=8) hs260.ltw Rr (show InK .i64 1 from by decide) (show InK .i64 8 from by decide) hv277) rfl ?_
 rintro v278 w279 p283 hs282 h281
 obtain rfl:=h281
 refine Rog rfl rfl<|op_not rfl<|Pkf (Bo (!within_1)) rfl rfl<|Ri2 ?_
 replace ch275:=ch275.trans p283
 exact hK265 _ _ ⟨!within_1,_,rfl,Frm.of ⟨rfl,trivial⟩,ch275,hs282,hm⟩
 refine Wp_exit<|Wa<|Rop<|op_addw rfl rfl<|Mve (Iv (IntKind.wrap .i64 (v_8+1))) rfl<|Ri2 ?_
 have hs285:=hs241.drop 0
 have p286:=(hs241.dropS 0)
 have p287:=(p233.trans (hst242.trans p286))
 replace ch205:=ch205.trans p287
 exact hK198 _ _ ⟨(IntKind.wrap .i64 (v_8+1)),_,rfl,Frm.of ⟨rfl,trivial⟩,ch205,hs285,(inK_wrap .i64 _),jnE1 hsf197 hm⟩
 intro K225 hK225
 have ch288:=hs220.stepR
 refine Wa<|Rop<|op2 0 ty58 rfl ty3 rfl rfl<|Rop<|oq2 0 ty3 hs220 rfl rfl rfl<|Mve (Iv 1048576) rfl ?_
 obtain⟨within_2,hv289,hm⟩:=bd hm
 refine Rop<|op_callE hs220 Try.call33 (c33_problem_within (n:=(((p.variables.getD v_6.toNat default).choices).getD v_8.toNat default).delay) (lo:=0) (hi:=1048576) hs220.ltw Rl (show InK .i64 0 from by decide) (show InK .i64 1048576 from by decide) hv289) rfl ?_
 rintro v290 w291 p295 hs294 h293
 obtain rfl:=h293
 refine Rop<|op_not rfl<|Mve (Bo (!within_2)) rfl<|Rg_caseM hm (fun hg297 hm=>?_) (fun hg297 hm=>?_)
 iterate 5 refine Rl2 rfl (asB_ne rfl rfl) rfl ?_
 refine Pkt (Bo true) rfl rfl<|Mve (Bo true) rfl ?_
 iterate 5 refine Rl2 rfl (asB_ne rfl rfl) rfl ?_
 refine Pkt (Bo true) rfl rfl<|Mve (Bo true) rfl ?_
 iterate 4 refine Rl2 rfl (asB_ne rfl rfl) rfl ?_
 refine Pkt (Bo true) rfl rfl<|Ri2 ?_
 replace ch288:=ch288.trans p295
 exact hK225 _ _ ⟨true,_,rfl,Frm.of ⟨rfl,trivial⟩,ch288,hs294,hm⟩
 refine Rog rfl rfl<|op2 1 ty58 rfl ty3 rfl rfl<|Rog rfl rfl<|oq2 0 ty3 hs294 rfl rfl rfl<|Rog rfl rfl<|ok2 (v:=Iv 1048576) rfl ?_
 obtain⟨within_3,hv298,hm⟩:=bd hm
 refine Rog rfl rfl<|op_callE hs294 Try.call33 (c33_problem_within (n:=(((p.variables.getD v_6.toNat default).choices).getD v_8.toNat default).cost) (lo:=0) (hi:=1048576) hs294.ltw Rm (show InK .i64 0 from by decide) (show InK .i64 1048576 from by decide) hv298) rfl ?_
 rintro v299 w300 p304 hs303 h302
 clear hs294
 obtain rfl:=h302
 refine Rog rfl rfl<|op_not rfl<|Pkf (Bo (!within_3)) rfl rfl<|Mve (Bo (!within_3)) rfl<|Rg_caseM hm (fun hg306 hm=>?_) (fun hg306 hm=>?_)
 iterate 5 refine Rl2 rfl (asB_ne rfl rfl) rfl ?_
 refine Pkt (Bo true) rfl rfl<|Mve (Bo true) rfl ?_
 iterate 4 refine Rl2 rfl (asB_ne rfl rfl) rfl ?_
 refine Pkt (Bo true) rfl rfl<|Ri2 ?_
 replace ch288:=ch288.trans (p295.trans p304)
 exact hK225 _ _ ⟨true,_,rfl,Frm.of ⟨rfl,trivial⟩,ch288,hs303,hm⟩
 refine Rog rfl rfl<|op2 2 ty58 rfl ty3 rfl rfl<|Rog rfl rfl<|oq2 0 ty3 hs303 rfl rfl rfl<|Rog rfl rfl<|ok2 (v:=Iv 1048576) rfl ?_
 obtain⟨within_4,hv307,hm⟩:=bd hm
 refine Rog rfl rfl<|op_callE hs303 Try.call33 (c33_problem_within (n:=(((p.variables.getD v_6.toNat default).choices).getD v_8.toNat default).changes) (lo:=0) (hi:=1048576) hs303.ltw Rn (show InK .i64 0 from by decide) (show InK .i64 1048576 from by decide) hv307) rfl ?_
 rintro v308 w309 p313 hs312 h311
 clear hs303
 obtain rfl:=h311
 refine Rog rfl rfl<|op_not rfl<|Pkf (Bo (!within_4)) rfl rfl<|Mve (Bo (!within_4)) rfl<|Rg_caseM hm (fun hg315 hm=>?_) (fun hg315 hm=>?_)
 iterate 4 refine Rl2 rfl (asB_ne rfl rfl) rfl ?_
 refine Pkt (Bo true) rfl rfl<|Ri2 ?_
 replace ch288:=ch288.trans (p295.trans (p304.trans p313))
 exact hK225 _ _ ⟨true,_,rfl,Frm.of ⟨rfl,trivial⟩,ch288,hs312,hm⟩
 refine Rog rfl rfl<|op2 3 ty58 rfl ty56 rfl rfl<|Rog rfl rfl<|oq2 0 ty56 hs312 rfl rfl rfl ?_
 have F318:CallsTo2 Try.prog w309 (ks [(some b213,Oc [Iv ((((p.variables.getD v_6.toNat default).choices).getD v_8.toNat default).delay),Iv ((((p.variables.getD v_6.toNat default).choices).getD v_8.toNat default).cost),Iv ((((p.variables.getD v_6.toNat default).choices).getD v_8.toNat default).changes),Sl Ag ((((p.variables.getD v_6.toNat default).choices).getD v_8.toNat default).uses) Cg] 58),(some b173,Oc [Iv ((p.variables.getD v_6.toNat default).flight),Iv ((p.variables.getD v_6.toNat default).node),Sl Ae ((p.variables.getD v_6.toNat default).leaves) Ce,Sl Af ((p.variables.getD v_6.toNat default).choices) Cf] 61),(some b19,o_g28),(some b1,Oc [Sl Aa p.cells Ca,Sl Ab p.capacity Cb,Sl Ac p.variables Cc] 26)] O) (Value.func (.func 41) #[] #[]) (vA rXUse) (vA rXUse) (vI .i64) (fun x316 x317=>m41_problem_Check_2 x316 x317):=by
  intro w319 O320 st321 hO322 v325 v326 x316 x317 y323 h327 h328 hy324
  obtain⟨_,rfl,⟨_,_,rfl,⟨_,_,rfl,rfl,⟨_,_,rfl,⟨rfl,Rs⟩,⟨rfl,Rt⟩⟩⟩,⟨rfl,Ru⟩⟩⟩:=h327
  obtain⟨_,rfl,⟨_,_,rfl,⟨_,_,rfl,rfl,⟨_,_,rfl,⟨rfl,Rv⟩,⟨rfl,Rw⟩⟩⟩,⟨rfl,Rx⟩⟩⟩:=h328
  exact⟨41,#[],#[],rfl,Try.call41,c41_problem_Check_2 (a:=x316) (b:=x317) hO322 Rs Rt Ru Rv Rw Rx hy324⟩
 have F333:CallsTo2 Try.prog w309 (ks [(some b213,Oc [Iv ((((p.variables.getD v_6.toNat default).choices).getD v_8.toNat default).delay),Iv ((((p.variables.getD v_6.toNat default).choices).getD v_8.toNat default).cost),Iv ((((p.variables.getD v_6.toNat default).choices).getD v_8.toNat default).changes),Sl Ag ((((p.variables.getD v_6.toNat default).choices).getD v_8.toNat default).uses) Cg] 58),(some b173,Oc [Iv ((p.variables.getD v_6.toNat default).flight),Iv ((p.variables.getD v_6.toNat default).node),Sl Ae ((p.variables.getD v_6.toNat default).leaves) Ce,Sl Af ((p.variables.getD v_6.toNat default).choices) Cf] 61),(some b19,o_g28),(some b1,Oc [Sl Aa p.cells Ca,Sl Ab p.capacity Cb,Sl Ac p.variables Cc] 26)] O) (Value.func (.func 41) #[] #[]) (vA rXUse) (vA rXUse) (vI .i64) (fun x331 x332=>m41_problem_Check_2 x331 x332):=by
  intro w334 O335 st336 hO337 v340 v341 x331 x332 y338 h342 h343 hy339
  obtain⟨_,rfl,⟨_,_,rfl,⟨_,_,rfl,rfl,⟨_,_,rfl,⟨rfl,Ry⟩,⟨rfl,Rz⟩⟩⟩,⟨rfl,Ra1⟩⟩⟩:=h342
  obtain⟨_,rfl,⟨_,_,rfl,⟨_,_,rfl,rfl,⟨_,_,rfl,⟨rfl,Rb1⟩,⟨rfl,Rc1⟩⟩⟩,⟨rfl,Rd1⟩⟩⟩:=h343
  exact⟨41,#[],#[],rfl,Try.call41,c41_problem_Check_2 (a:=x331) (b:=x332) hO337 Ry Rz Ra1 Rb1 Rc1 Rd1 hy339⟩
 obtain⟨use_1,hv346,hm⟩:=bd hm
 have F354:CallsTo2 Try.prog w309 (ks [(some b213,Oc [Iv ((((p.variables.getD v_6.toNat default).choices).getD v_8.toNat default).delay),Iv ((((p.variables.getD v_6.toNat default).choices).getD v_8.toNat default).cost),Iv ((((p.variables.getD v_6.toNat default).choices).getD v_8.toNat default).changes),Sl Ag ((((p.variables.getD v_6.toNat default).choices).getD v_8.toNat default).uses) Cg] 58),(some b173,Oc [Iv ((p.variables.getD v_6.toNat default).flight),Iv ((p.variables.getD v_6.toNat default).node),Sl Ae ((p.variables.getD v_6.toNat default).leaves) Ce,Sl Af ((p.variables.getD v_6.toNat default).choices) Cf] 61),(some b19,o_g28),(some b1,Oc [Sl Aa p.cells Ca,Sl Ab p.capacity Cb,Sl Ac p.variables Cc] 26)] O) (Value.func (.func 41) #[] #[]) (vA rXUse) (vA rXUse) (vI .i64) (fun x352 x353=>m41_problem_Check_2 x352 x353):=by
  intro w355 O356 st357 hO358 v361 v362 x352 x353 y359 h363 h364 hy360
  obtain⟨_,rfl,⟨_,_,rfl,⟨_,_,rfl,rfl,⟨_,_,rfl,⟨rfl,Re1⟩,⟨rfl,Rf1⟩⟩⟩,⟨rfl,Rg1⟩⟩⟩:=h363
  obtain⟨_,rfl,⟨_,_,rfl,⟨_,_,rfl,rfl,⟨_,_,rfl,⟨rfl,Rh1⟩,⟨rfl,Ri1⟩⟩⟩,⟨rfl,Rj1⟩⟩⟩:=h364
  exact⟨41,#[],#[],rfl,Try.call41,c41_problem_Check_2 (a:=x352) (b:=x353) hO358 Re1 Rf1 Rg1 Rh1 Ri1 Rj1 hy360⟩
 have p367:=(p215.trans (p219.trans (p295.trans (p304.trans p313))))
 replace Fg:=Fg.step p367
 refine Rog rfl rfl<|op_callE hs312 Try.call40 (c40_api_Use_ (l:=(((p.variables.getD v_6.toNat default).choices).getD v_8.toNat default).uses) (less:=(fun x331 x332=>m41_problem_Check_2 x331 x332)) hs312.ltw Fg F333 hv346) rfl ?_
 rintro v347 w348 p368 hs351 h350
 clear hs312
 obtain rfl:=h350
 refine Rog rfl rfl<|op_not rfl<|Pkf (Bo (!use_1)) rfl rfl<|Ri2 ?_
 replace ch288:=ch288.trans (p295.trans (p304.trans (p313.trans p368)))
 exact hK225 _ _ ⟨!use_1,_,rfl,Frm.of ⟨rfl,trivial⟩,ch288,hs351,hm⟩
 refine Wp_exit<|Wa<|Rop<|op_addw rfl rfl<|Mve (Iv (IntKind.wrap .i64 (v_6+1))) rfl<|Ri2 ?_
 have hs370:=hs201.drop 0
 have p371:=(hs201.dropS 0)
 clear hs201
 have p372:=(p193.trans (hst202.trans p371))
 replace ch165:=ch165.trans p372
 exact hK158 _ _ ⟨(IntKind.wrap .i64 (v_6+1)),_,rfl,Frm.of ⟨rfl,trivial⟩,ch165,hs370,(inK_wrap .i64 _),jnE1 hsf157 hm⟩
 intro K185 hK185
 have ch373:=hs180.stepR
 clear f169
 refine Wp_drawR (g0:=[]) (m:=36) (fl:=[]) (TS_inv hs180) rfl (.inl rfl) rfl (by decide+kernel) ?_  -- 20
 refine Dw_p (Pt b173 2) (fun _ _ _ hi ht=>op2 2 ty61 rfl ty31 (ht 9 rfl) rfl<|Gz hi)<|Dw_p (Sl Ae ((p.variables.getD v_6.toNat default).leaves) Ce) (fun _ _ _ hi ht=>oq2 0 ty31 (Step.nx hi).1 (ht 82 rfl) rfl rfl<|Gz hi)<|Dw_p (Iv (((p.variables.getD v_6.toNat default).leaves).length:Int)) (fun _ _ _ hi ht=>op_len Try.underlying31 (ht 83 rfl)<|Gz hi)<|Dw_p (Bo (decide ((((p.variables.getD v_6.toNat default).leaves).length:Int)=0))) (fun _ _ _ hi ht=>op_eql (ht 84 rfl) rfl<|Gz hi)<|Dw_opB (decide ((((p.variables.getD v_6.toNat default).leaves).length:Int)=0)) (fun _ _ _ _ hi ht=>Sj2<|ok2 (v:=Bo (decide ((((p.variables.getD v_6.toNat default).leaves).length:Int)=0))) (ht 85 rfl)<|Gz hi) (fun hg389=>?_) (fun hg389=>?_)
 replace hm:=bif_t hm hg389
 iterate 5 refine Dw_sk rfl rfl (fun _ _ _ h=>h) rfl ?_
 refine Dw_p (Bo true) (fun _ _ _ hi ht=>op_pick_t (v:=Bo true) (ht 86 rfl) rfl<|Gz hi)<|Dw_p (Bo true) (fun _ _ _ hi ht=>ok2 (v:=Bo true) (ht 92 rfl)<|Gz hi) ?_
 iterate 4 refine Dw_sk rfl rfl (fun _ _ _ h=>h) rfl ?_
 refine Dw_p (Bo true) (fun _ _ _ hi ht=>op_pick_t (v:=Bo true) (ht 93 rfl) rfl<|Gz hi)<|Dw_p (Bo true) (fun _ _ _ hi ht=>ok2 (v:=Bo true) (ht 98 rfl)<|Gz hi) ?_
 iterate 5 refine Dw_sk rfl rfl (fun _ _ _ h=>h) rfl ?_
 refine Dw_p (Bo true) (fun _ _ _ hi ht=>op_pick_t (v:=Bo true) (ht 99 rfl) rfl<|Gz hi)<|Dw_p (Bo true) (fun _ _ _ hi ht=>ok2 (v:=Bo true) (ht 105 rfl)<|Gz hi) ?_
 iterate 11 refine Dw_sk rfl rfl (fun _ _ _ h=>h) rfl ?_
 refine Dw_nil fun w412 g413 hl414 hi415=>?_
 obtain⟨-,hst416,-⟩:=hl414
 obtain⟨hs418,p417⟩:=Step.nx hi415
 rintro _ rfl _ rfl _ rfl _ rfl _ rfl _ rfl _ rfl _ rfl _ rfl _ rfl _ rfl _ rfl _ rfl _ rfl _ rfl _ rfl _ rfl _ rfl _ rfl _ rfl _ rfl _ rfl _ rfl _ rfl _ rfl _ rfl _ rfl _ rfl _ rfl _ rfl _ rfl _ rfl _ rfl _ rfl _ rfl _ rfl
 have p419:=hs180.to hs418 (hst416.trans p417)
 refine Rl2 rfl (asB_ne rfl rfl) rfl<|Pkt (Bo true) rfl rfl<|Ri2 ?_
 replace ch373:=ch373.trans p419
 exact hK185 _ _ ⟨true,_,rfl,Frm.of ⟨rfl,trivial⟩,ch373,hs418,hm⟩
 replace hm:=bif_f hm hg389
 refine Dw_g (Pt b173 3) rfl rfl (fun _ _ _ h=>h) (fun _ _ _ hi ht=>op2 3 ty61 rfl ty59 (ht 9 rfl) rfl<|Gz hi)<|Dw_g (Sl Af ((p.variables.getD v_6.toNat default).choices) Cf) rfl rfl (fun _ _ _ h=>h) (fun _ _ _ hi ht=>oq2 0 ty59 (Step.nx hi).1 (ht 87 rfl) rfl rfl<|Gz hi)<|Dw_g (Iv (((p.variables.getD v_6.toNat default).choices).length:Int)) rfl rfl (fun _ _ _ h=>h) (fun _ _ _ hi ht=>op_len Try.underlying59 (ht 88 rfl)<|Gz hi) ?_
 obtain⟨within_5,hv432,hm⟩:=bd hm
 have p438:=(p175.trans p179)
 replace Ff:=Ff.step p438
 refine Dw_op (VD _ _ vB within_5) (VD.stab _ _) (fun ρ429 w430 g hle hi ht=>?_) ?_
 obtain⟨-,hst,-⟩:=hle
 replace Ff:=Ff.step hst
 refine StepOp_g rfl (ht 86 rfl) (op_call Try.call33 (c33_problem_within (O:=ks (ents g++[(some b173,Oc [Iv ((p.variables.getD v_6.toNat default).flight),Iv ((p.variables.getD v_6.toNat default).node),Sl Ae ((p.variables.getD v_6.toNat default).leaves) Ce,Sl Af ((p.variables.getD v_6.toNat default).choices) Cf] 61),(some b19,o_g28),(some b1,Oc [Sl Aa p.cells Ca,Sl Ab p.capacity Cb,Sl Ac p.variables Cc] 26)]) O) (n:=(((p.variables.getD v_6.toNat default).choices).length:Int)) (lo:=1) (hi:=96) hi.ltw (inK_len Ff) (show InK .i64 1 from by decide) (show InK .i64 96 from by decide) hv432) (by simp only [List.map,Array.toList,(show ev _ (.tmp 89)=_ from(ht 89 rfl)),(show ev _ (.const (.int .i64 1))=.int .i64 1 from rfl),(show ev _ (.const (.int .i64 96))=.int .i64 96 from rfl)]<;> rfl) ?_)
 rintro v433 w434 ⟨hx435,h436⟩
 exact Goes.call hi hx435 h436
 refine Dw_eq (Bo (!within_5)) (fun ρ439 w440 g hle hi ht=>?_) ?_
 have h442:Vr.vd vB _ _ _ _:=ht 90 rfl
 have q443:_=(Bo within_5):=h442
 exact StepOp_g rfl (ht 86 rfl)<|op_not q443<|Gz hi
 refine Dw_p (Bo (!within_5)) (fun _ _ _ hi ht=>op_pick_f (v:=Bo (!within_5)) (ht 86 rfl) (ht 91 rfl)<|Gz hi)<|Dw_opB (!within_5) (fun _ _ _ _ hi ht=>Sj2<|ok2 (v:=Bo (!within_5)) (ht 92 rfl)<|Gz hi) (fun hg451=>?_) (fun hg451=>?_)
 replace hm:=bif_t hm hg451
 iterate 4 refine Dw_sk rfl rfl (fun _ _ _ h=>h) rfl ?_
 refine Dw_p (Bo true) (fun _ _ _ hi ht=>op_pick_t (v:=Bo true) (ht 93 rfl) rfl<|Gz hi)<|Dw_p (Bo true) (fun _ _ _ hi ht=>ok2 (v:=Bo true) (ht 98 rfl)<|Gz hi) ?_
 iterate 5 refine Dw_sk rfl rfl (fun _ _ _ h=>h) rfl ?_
 refine Dw_p (Bo true) (fun _ _ _ hi ht=>op_pick_t (v:=Bo true) (ht 99 rfl) rfl<|Gz hi)<|Dw_p (Bo true) (fun _ _ _ hi ht=>ok2 (v:=Bo true) (ht 105 rfl)<|Gz hi) ?_
 iterate 11 refine Dw_sk rfl rfl (fun _ _ _ h=>h) rfl ?_
 refine Dw_nil fun w468 g469 hl470 hi471=>?_
 obtain⟨-,hst472,-⟩:=hl470
 obtain⟨hs474,p473⟩:=Step.nx hi471
 rintro _ rfl _ rfl _ rfl _ rfl _ rfl _ rfl _ rfl _ rfl _ rfl _ rfl _ rfl _ rfl _ rfl _ rfl _ rfl _ rfl _ rfl _ rfl _ rfl _ rfl _ rfl _ rfl _ rfl _ rfl _ rfl _ rfl _ rfl v475 h476
 replace h476:Vr.vd vB _ _ _ _:=h476
 obtain rfl:=h476
 rintro _ rfl _ rfl _ rfl _ rfl _ rfl _ rfl _ rfl _ rfl
 have p478:=hs180.to hs474 (hst472.trans p473)
 refine Rl2 rfl (asB_ne rfl rfl) rfl<|Pkt (Bo true) rfl rfl<|Ri2 ?_
 replace ch373:=ch373.trans p478
 exact hK185 _ _ ⟨true,_,rfl,Frm.of ⟨rfl,trivial⟩,ch373,hs474,hm⟩
 replace hm:=bif_f hm hg451
 refine Dw_g (Pt b173 2) rfl rfl (fun _ _ _ h=>h) (fun _ _ _ hi ht=>op2 2 ty61 rfl ty31 (ht 9 rfl) rfl<|Gz hi)<|Dw_g (Sl Ae ((p.variables.getD v_6.toNat default).leaves) Ce) rfl rfl (fun _ _ _ h=>h) (fun _ _ _ hi ht=>oq2 0 ty31 (Step.nx hi).1 (ht 94 rfl) rfl rfl<|Gz hi) ?_
 obtain⟨increasing_1,hv533,hm⟩:=bd hm
 replace Fe:=Fe.step p438
 refine Dw_op (VD _ _ vB increasing_1) (VD.stab _ _) (fun ρ485 w486 g hle hi ht=>?_) ?_
 obtain⟨-,hst,-⟩:=hle
 replace Fe:=Fe.step hst
 have F490:CallsTo2 Try.prog w486 (ks (ents g++[(some b173,Oc [Iv ((p.variables.getD v_6.toNat default).flight),Iv ((p.variables.getD v_6.toNat default).node),Sl Ae ((p.variables.getD v_6.toNat default).leaves) Ce,Sl Af ((p.variables.getD v_6.toNat default).choices) Cf] 61),(some b19,o_g28),(some b1,Oc [Sl Aa p.cells Ca,Sl Ab p.capacity Cb,Sl Ac p.variables Cc] 26)]) O) (Value.func (.func 39) #[] #[]) (vI .i64) (vI .i64) (vI .i64) (fun x488 x489=>m39_cmp_Compare x488 x489):=by
  intro w491 O492 st493 hO494 v497 v498 x488 x489 y495 h499 h500 hy496
  obtain⟨rfl,Rk1⟩:=h499
  obtain⟨rfl,Rl1⟩:=h500
  exact⟨39,#[],#[],rfl,Try.call39,c39_cmp_Compare (x_:=x488) (y:=x489) hO494 Rk1 Rl1 hy496⟩
 have F505:CallsTo2 Try.prog w486 (ks (ents g++[(some b173,Oc [Iv ((p.variables.getD v_6.toNat default).flight),Iv ((p.variables.getD v_6.toNat default).node),Sl Ae ((p.variables.getD v_6.toNat default).leaves) Ce,Sl Af ((p.variables.getD v_6.toNat default).choices) Cf] 61),(some b19,o_g28),(some b1,Oc [Sl Aa p.cells Ca,Sl Ab p.capacity Cb,Sl Ac p.variables Cc] 26)]) O) (Value.func (.func 39) #[] #[]) (vI .i64) (vI .i64) (vI .i64) (fun x503 x504=>m39_cmp_Compare x503 x504):=by
  intro w506 O507 st508 hO509 v512 v513 x503 x504 y510 h514 h515 hy511
  obtain⟨rfl,Rm1⟩:=h514
  obtain⟨rfl,Rn1⟩:=h515
  exact⟨39,#[],#[],rfl,Try.call39,c39_cmp_Compare (x_:=x503) (y:=x504) hO509 Rm1 Rn1 hy511⟩
 have F520:CallsTo2 Try.prog w486 (ks (ents g++[(some b173,Oc [Iv ((p.variables.getD v_6.toNat default).flight),Iv ((p.variables.getD v_6.toNat default).node),Sl Ae ((p.variables.getD v_6.toNat default).leaves) Ce,Sl Af ((p.variables.getD v_6.toNat default).choices) Cf] 61),(some b19,o_g28),(some b1,Oc [Sl Aa p.cells Ca,Sl Ab p.capacity Cb,Sl Ac p.variables Cc] 26)]) O) (Value.func (.func 39) #[] #[]) (vI .i64) (vI .i64) (vI .i64) (fun x518 x519=>m39_cmp_Compare x518 x519):=by
  intro w521 O522 st523 hO524 v527 v528 x518 x519 y525 h529 h530 hy526
  obtain⟨rfl,Ro1⟩:=h529
  obtain⟨rfl,Rp1⟩:=h530
  exact⟨39,#[],#[],rfl,Try.call39,c39_cmp_Compare (x_:=x518) (y:=x519) hO524 Ro1 Rp1 hy526⟩
 refine StepOp_g rfl (ht 93 rfl) (op_call Try.call38 (c38_problem_increasing (O:=ks (ents g++[(some b173,Oc [Iv ((p.variables.getD v_6.toNat default).flight),Iv ((p.variables.getD v_6.toNat default).node),Sl Ae ((p.variables.getD v_6.toNat default).leaves) Ce,Sl Af ((p.variables.getD v_6.toNat default).choices) Cf] 61),(some b19,o_g28),(some b1,Oc [Sl Aa p.cells Ca,Sl Ab p.capacity Cb,Sl Ac p.variables Cc] 26)]) O) (l:=(p.variables.getD v_6.toNat default).leaves) (less:=(fun x518 x519=>m39_cmp_Compare x518 x519)) hi.ltw Fe F520 hv533) (by simp only [List.map,Array.toList,(show ev _ (.tmp 95)=_ from(ht 95 rfl)),(show ev _ (.func 39)=_ from rfl)]<;> rfl) ?_)
 rintro v534 w535 ⟨hx536,h537⟩
 exact Goes.call hi hx536 h537
 refine Dw_eq (Bo (!increasing_1)) (fun ρ539 w540 g hle hi ht=>?_) ?_
 have h542:Vr.vd vB _ _ _ _:=ht 96 rfl
 have q543:_=(Bo increasing_1):=h542
 exact StepOp_g rfl (ht 93 rfl)<|op_not q543<|Gz hi
 refine Dw_p (Bo (!increasing_1)) (fun _ _ _ hi ht=>op_pick_f (v:=Bo (!increasing_1)) (ht 93 rfl) (ht 97 rfl)<|Gz hi)<|Dw_opB (!increasing_1) (fun _ _ _ _ hi ht=>Sj2<|ok2 (v:=Bo (!increasing_1)) (ht 98 rfl)<|Gz hi) (fun hg551=>?_) (fun hg551=>?_)
 replace hm:=bif_t hm hg551
 iterate 5 refine Dw_sk rfl rfl (fun _ _ _ h=>h) rfl ?_
 refine Dw_p (Bo true) (fun _ _ _ hi ht=>op_pick_t (v:=Bo true) (ht 99 rfl) rfl<|Gz hi)<|Dw_p (Bo true) (fun _ _ _ hi ht=>ok2 (v:=Bo true) (ht 105 rfl)<|Gz hi) ?_
 iterate 11 refine Dw_sk rfl rfl (fun _ _ _ h=>h) rfl ?_
 refine Dw_nil fun w562 g563 hl564 hi565=>?_
 obtain⟨-,hst566,-⟩:=hl564
 obtain⟨hs568,p567⟩:=Step.nx hi565
 rintro _ rfl _ rfl _ rfl _ rfl _ rfl _ rfl _ rfl _ rfl _ rfl _ rfl _ rfl _ rfl _ rfl _ rfl _ rfl _ rfl _ rfl _ rfl _ rfl _ rfl _ rfl v569 h570
 replace h570:Vr.vd vB _ _ _ _:=h570
 obtain rfl:=h570
 rintro _ rfl _ rfl _ rfl _ rfl _ rfl v572 h573
 replace h573:Vr.vd vB _ _ _ _:=h573
 obtain rfl:=h573
 rintro _ rfl _ rfl _ rfl _ rfl _ rfl _ rfl _ rfl _ rfl
 have p575:=hs180.to hs568 (hst566.trans p567)
 refine Rl2 rfl (asB_ne rfl rfl) rfl<|Pkt (Bo true) rfl rfl<|Ri2 ?_
 replace ch373:=ch373.trans p575
 exact hK185 _ _ ⟨true,_,rfl,Frm.of ⟨rfl,trivial⟩,ch373,hs568,hm⟩
 replace hm:=bif_f hm hg551
 refine Dw_g (Pt b173 2) rfl rfl (fun _ _ _ h=>h) (fun _ _ _ hi ht=>op2 2 ty61 rfl ty31 (ht 9 rfl) rfl<|Gz hi)<|Dw_g (Sl Ae ((p.variables.getD v_6.toNat default).leaves) Ce) rfl rfl (fun _ _ _ h=>h) (fun _ _ _ hi ht=>oq2 0 ty31 (Step.nx hi).1 (ht 100 rfl) rfl rfl<|Gz hi) ?_
 obtain⟨hc585,hm⟩:=ck_some hm
 refine Dw_op (VP _ _ (rInt .i64) (((p.variables.getD v_6.toNat default).leaves).getD 0 default)) (VP.stab _ _) (fun ρ582 w583 g hle hi ht=>?_) ?_
 obtain⟨-,hst,-⟩:=hle
 replace Fe:=Fe.step hst
 refine StepOp_g rfl (ht 99 rfl)<|om2 (q:=(rInt .i64)) ty31 ty3 (ht 101 rfl) rfl Fe rfl hc585.1 hc585.2 ?_
 intro p586 f587
 exact Goes.same hi ⟨_,rfl,f587⟩
 refine Dw_op (VD _ _ (vI .i64) (((p.variables.getD v_6.toNat default).leaves).getD 0 default)) (VD.stab _ _) (fun ρ588 w589 g hle hi ht=>?_) ?_
 obtain⟨p591,q592,f593⟩:=ht 102 rfl
 refine StepOp_g rfl (ht 99 rfl)<|ot2 ty3 q592 f593 rfl ?_
 intro v594 h595
 obtain⟨rfl,Rq1⟩:=un_int h595
 exact Goes.same hi (show Vr.vd (vI .i64) _ _ _ _ from⟨rfl,Rq1⟩)
 refine Dw_eq (Bo (decide ((((p.variables.getD v_6.toNat default).leaves).getD 0 default)<0))) (fun ρ597 w598 g hle hi ht=>?_) ?_
 have h600:Vr.vd (vI .i64) _ _ _ _:=ht 103 rfl
 obtain⟨q601,Rr1⟩:=h600
 exact StepOp_g rfl (ht 99 rfl)<|op_lss q601 rfl<|Gz hi
 refine Dw_p (Bo (decide ((((p.variables.getD v_6.toNat default).leaves).getD 0 default)<0))) (fun _ _ _ hi ht=>op_pick_f (v:=Bo (decide ((((p.variables.getD v_6.toNat default).leaves).getD 0 default)<0))) (ht 99 rfl) (ht 104 rfl)<|Gz hi)<|Dw_opB (decide ((((p.variables.getD v_6.toNat default).leaves).getD 0 default)<0)) (fun _ _ _ _ hi ht=>Sj2<|ok2 (v:=Bo (decide ((((p.variables.getD v_6.toNat default).leaves).getD 0 default)<0))) (ht 105 rfl)<|Gz hi) (fun hg609=>?_) (fun hg609=>?_)
 replace hm:=bif_t hm hg609
 iterate 11 refine Dw_sk rfl rfl (fun _ _ _ h=>h) rfl ?_
 refine Dw_nil fun w614 g615 hl616 hi617=>?_
 obtain⟨-,hst618,-⟩:=hl616
 obtain⟨hs620,p619⟩:=Step.nx hi617
 rintro _ rfl _ rfl _ rfl _ rfl _ rfl _ rfl _ rfl _ rfl _ rfl _ rfl _ rfl _ rfl _ rfl _ rfl v621 h622
 replace h622:Vr.vd (vI .i64) _ _ _ _:=h622
 obtain⟨rfl,Rs1⟩:=h622
 rintro _ ⟨p624,rfl,f625⟩ _ rfl _ rfl _ rfl _ rfl _ rfl v626 h627
 replace h627:Vr.vd vB _ _ _ _:=h627
 obtain rfl:=h627
 rintro _ rfl _ rfl _ rfl _ rfl _ rfl v629 h630
 replace h630:Vr.vd vB _ _ _ _:=h630
 obtain rfl:=h630
 rintro _ rfl _ rfl _ rfl _ rfl _ rfl _ rfl _ rfl _ rfl
 have p632:=hs180.to hs620 (hst618.trans p619)
 replace f625:=f625.step p619
 refine Rl2 rfl (asB_ne rfl rfl) rfl<|Pkt (Bo true) rfl rfl<|Ri2 ?_
 replace ch373:=ch373.trans p632
 exact hK185 _ _ ⟨true,_,rfl,Frm.of ⟨rfl,trivial⟩,ch373,hs620,hm⟩
 replace hm:=bif_f hm hg609
 refine Dw_g (Pt b173 2) rfl rfl (fun _ _ _ h=>h) (fun _ _ _ hi ht=>op2 2 ty61 rfl ty31 (ht 9 rfl) rfl<|Gz hi)<|Dw_g (Sl Ae ((p.variables.getD v_6.toNat default).leaves) Ce) rfl rfl (fun _ _ _ h=>h) (fun _ _ _ hi ht=>oq2 0 ty31 (Step.nx hi).1 (ht 107 rfl) rfl rfl<|Gz hi)<|Dw_g (Pt b173 2) rfl rfl (fun _ _ _ h=>h) (fun _ _ _ hi ht=>op2 2 ty61 rfl ty31 (ht 9 rfl) rfl<|Gz hi)<|Dw_g (Sl Ae ((p.variables.getD v_6.toNat default).leaves) Ce) rfl rfl (fun _ _ _ h=>h) (fun _ _ _ hi ht=>oq2 0 ty31 (Step.nx hi).1 (ht 109 rfl) rfl rfl<|Gz hi)<|Dw_g (Iv (((p.variables.getD v_6.toNat default).leaves).length:Int)) rfl rfl (fun _ _ _ h=>h) (fun _ _ _ hi ht=>op_len Try.underlying31 (ht 110 rfl)<|Gz hi)<|Dw_g (Iv (IntKind.wrap .i64 ((((p.variables.getD v_6.toNat default).leaves).length:Int) - 1))) rfl rfl (fun _ _ _ h=>h) (fun _ _ _ hi ht=>op_subw (ht 111 rfl) rfl<|Gz hi) ?_
 obtain⟨hc654,hm⟩:=ck_some hm
 refine Dw_op (VP _ _ (rInt .i64) (((p.variables.getD v_6.toNat default).leaves).getD (IntKind.wrap .i64 ((((p.variables.getD v_6.toNat default).leaves).length:Int) - 1)).toNat default)) (VP.stab _ _) (fun ρ651 w652 g hle hi ht=>?_) ?_
 obtain⟨-,hst,-⟩:=hle
 replace Fe:=Fe.step hst
 refine StepOp_g rfl (ht 106 rfl)<|om2 (q:=(rInt .i64)) ty31 ty3 (ht 108 rfl) (ht 112 rfl) Fe rfl hc654.1 hc654.2 ?_
 intro p655 f656
 exact Goes.same hi ⟨_,rfl,f656⟩
 refine Dw_op (VD _ _ (vI .i64) (((p.variables.getD v_6.toNat default).leaves).getD (IntKind.wrap .i64 ((((p.variables.getD v_6.toNat default).leaves).length:Int) - 1)).toNat default)) (VD.stab _ _) (fun ρ657 w658 g hle hi ht=>?_) ?_
 obtain⟨p660,q661,f662⟩:=ht 113 rfl
 refine StepOp_g rfl (ht 106 rfl)<|ot2 ty3 q661 f662 rfl ?_
 intro v663 h664
 obtain⟨rfl,Rt1⟩:=un_int h664
 exact Goes.same hi (show Vr.vd (vI .i64) _ _ _ _ from⟨rfl,Rt1⟩)
 refine Dw_g (Pt b1 1) rfl rfl (fun _ _ _ h=>h) (fun _ _ _ hi ht=>op2 1 ty26 rfl ty23 (ht 1 rfl) rfl<|Gz hi)<|Dw_g (Sl Ab p.capacity Cb) rfl rfl (fun _ _ _ h=>h) (fun _ _ _ hi ht=>oq2 2 ty23 (Step.nx hi).1 (ht 115 rfl) rfl rfl<|Gz hi)<|Dw_g (Iv (p.capacity.length:Int)) rfl rfl (fun _ _ _ h=>h) (fun _ _ _ hi ht=>op_len Try.underlying23 (ht 116 rfl)<|Gz hi)<|Dw_nil fun w679 g680 hl681 hi682=>?_
 obtain⟨-,hst683,-⟩:=hl681
 obtain⟨hs685,p684⟩:=Step.nx hi682
 rintro _ rfl _ rfl _ rfl v686 h687
 replace h687:Vr.vd (vI .i64) _ _ _ _:=h687
 obtain⟨rfl,Ru1⟩:=h687
 rintro _ ⟨p689,rfl,f690⟩ _ rfl _ rfl _ rfl _ rfl _ rfl _ rfl _ rfl _ rfl _ rfl v691 h692
 replace h692:Vr.vd (vI .i64) _ _ _ _:=h692
 obtain⟨rfl,Rv1⟩:=h692
 rintro _ ⟨p694,rfl,f695⟩ _ rfl _ rfl _ rfl _ rfl _ rfl v696 h697
 replace h697:Vr.vd vB _ _ _ _:=h697
 obtain rfl:=h697
 rintro _ rfl _ rfl _ rfl _ rfl _ rfl v699 h700
 replace h700:Vr.vd vB _ _ _ _:=h700
 obtain rfl:=h700
 rintro _ rfl _ rfl _ rfl _ rfl _ rfl _ rfl _ rfl _ rfl
 have p702:=hs180.to hs685 (hst683.trans p684)
 replace f690:=f690.step p684;replace f695:=f695.step p684
 refine Rog rfl rfl<|op_geq rfl rfl<|Pkf (Bo (decide ((p.capacity.length:Int)≤(((p.variables.getD v_6.toNat default).leaves).getD (IntKind.wrap .i64 ((((p.variables.getD v_6.toNat default).leaves).length:Int) - 1)).toNat default)))) rfl rfl<|Ri2 ?_
 replace ch373:=ch373.trans p702
 exact hK185 _ _ ⟨decide ((p.capacity.length:Int)≤(((p.variables.getD v_6.toNat default).leaves).getD (IntKind.wrap .i64 ((((p.variables.getD v_6.toNat default).leaves).length:Int) - 1)).toNat default)),_,rfl,Frm.of ⟨rfl,trivial⟩,ch373,hs685,hm⟩
 refine Wp_exit<|Wb ?_
 obtain⟨hs703,p704⟩:=hs161.sub (bs':=[]) (.cons _ (.cons _ List.Sublist.slnil))
 clear Fa Fb Fc
 clear hs161
 refine Wa<|Asg (Iv 0) rfl<|Ri2<|Wp_ret<|⟨_,Clo,[Iv 0],⟨rfl,trivial⟩,hs703.ext,?_⟩
 exact Vr.eq (a:=(vI .i64)) (x:=0) ⟨rfl,(show InK .i64 0 from by decide)⟩ (oi hm)
 intro K10 hK10
 have ch705:=hs4.stepR
 refine Wa<|Rop<|op2 0 ty26 rfl ty22 rfl rfl<|Rop<|oq2 0 ty22 hs4 rfl rfl rfl<|Rop<|op_len Try.underlying22 rfl ?_
 replace Fa:=Fa.step p3
 have rl706:=inK_len Fa
 refine Rop<|op_gtr rfl rfl<|Mve (Bo (decide (4096<(p.cells.length:Int)))) rfl<|Rg_caseM hm (fun hg707 hm=>?_) (fun hg707 hm=>?_)
 iterate 5 refine Rl2 rfl (asB_ne rfl rfl) rfl ?_
 refine Pkt (Bo true) rfl rfl<|Mve (Bo true) rfl ?_
 iterate 4 refine Rl2 rfl (asB_ne rfl rfl) rfl ?_
 refine Pkt (Bo true) rfl rfl<|Mve (Bo true) rfl ?_
 iterate 4 refine Rl2 rfl (asB_ne rfl rfl) rfl ?_
 exact Pkt (Bo true) rfl rfl<|Ri2<|hK10 _ _ ⟨true,_,rfl,Frm.of ⟨rfl,trivial⟩,ch705,hs4,hm⟩
 refine Rog rfl rfl<|op2 1 ty26 rfl ty23 rfl rfl<|Rog rfl rfl<|oq2 0 ty23 hs4 rfl rfl rfl<|Rog rfl rfl<|op_len Try.underlying23 rfl ?_
 replace Fb:=Fb.step p3
 have rl708:=inK_len Fb
 obtain⟨within_6,hv709,hm⟩:=bd hm
 refine Rog rfl rfl<|op_callE hs4 Try.call33 (c33_problem_within (n:=(p.capacity.length:Int)) (lo:=1) (hi:=32) hs4.ltw rl708 (show InK .i64 1 from by decide) (show InK .i64 32 from by decide) hv709) rfl ?_
 rintro v710 w711 p715 hs714 h713
 obtain rfl:=h713
 refine Rog rfl rfl<|op_not rfl<|Pkf (Bo (!within_6)) rfl rfl<|Mve (Bo (!within_6)) rfl<|Rg_caseM hm (fun hg717 hm=>?_) (fun hg717 hm=>?_)
 iterate 4 refine Rl2 rfl (asB_ne rfl rfl) rfl ?_
 refine Pkt (Bo true) rfl rfl<|Mve (Bo true) rfl ?_
 iterate 4 refine Rl2 rfl (asB_ne rfl rfl) rfl ?_
 refine Pkt (Bo true) rfl rfl<|Ri2 ?_
 replace ch705:=ch705.trans p715
 exact hK10 _ _ ⟨true,_,rfl,Frm.of ⟨rfl,trivial⟩,ch705,hs714,hm⟩
 refine Rog rfl rfl<|op2 2 ty26 rfl ty24 rfl rfl<|Rog rfl rfl<|oq2 0 ty24 hs714 rfl rfl rfl<|Rog rfl rfl<|op_len Try.underlying24 rfl ?_
 replace Fc:=Fc.step (p3.trans p715)
 have rl718:=inK_len Fc
 refine Rog rfl rfl<|op_gtr rfl rfl<|Pkf (Bo (decide (64<(p.variables.length:Int)))) rfl rfl<|Mve (Bo (decide (64<(p.variables.length:Int)))) rfl<|Rg_caseM hm (fun hg719 hm=>?_) (fun hg719 hm=>?_)
 iterate 4 refine Rl2 rfl (asB_ne rfl rfl) rfl ?_
 refine Pkt (Bo true) rfl rfl<|Ri2 ?_
 replace ch705:=ch705.trans p715
 exact hK10 _ _ ⟨true,_,rfl,Frm.of ⟨rfl,trivial⟩,ch705,hs714,hm⟩
 refine Rog rfl rfl<|op2 0 ty26 rfl ty22 rfl rfl<|Rog rfl rfl<|oq2 0 ty22 hs714 rfl rfl rfl ?_
 have F722:CallsTo2 Try.prog w711 (ks [(some b1,Oc [Sl Aa p.cells Ca,Sl Ab p.capacity Cb,Sl Ac p.variables Cc] 26)] O) (Value.func (.func 35) #[] #[]) (vA rXCell) (vA rXCell) (vI .i64) (fun x720 x721=>m35_problem_compare x720 x721):=by
  intro w723 O724 st725 hO726 v729 v730 x720 x721 y727 h731 h732 hy728
  obtain⟨_,rfl,⟨_,_,rfl,rfl,⟨_,_,rfl,⟨rfl,Rw1⟩,⟨rfl,Rx1⟩⟩⟩⟩:=h731
  obtain⟨_,rfl,⟨_,_,rfl,rfl,⟨_,_,rfl,⟨rfl,Ry1⟩,⟨rfl,Rz1⟩⟩⟩⟩:=h732
  exact⟨35,#[],#[],rfl,Try.call35,c35_problem_compare (a:=x720) (b:=x721) hO726 Rw1 Rx1 Ry1 Rz1 hy728⟩
 have F737:CallsTo2 Try.prog w711 (ks [(some b1,Oc [Sl Aa p.cells Ca,Sl Ab p.capacity Cb,Sl Ac p.variables Cc] 26)] O) (Value.func (.func 35) #[] #[]) (vA rXCell) (vA rXCell) (vI .i64) (fun x735 x736=>m35_problem_compare x735 x736):=by
  intro w738 O739 st740 hO741 v744 v745 x735 x736 y742 h746 h747 hy743
  obtain⟨_,rfl,⟨_,_,rfl,rfl,⟨_,_,rfl,⟨rfl,Ra2⟩,⟨rfl,Rb2⟩⟩⟩⟩:=h746
  obtain⟨_,rfl,⟨_,_,rfl,rfl,⟨_,_,rfl,⟨rfl,Rc2⟩,⟨rfl,Rd2⟩⟩⟩⟩:=h747
  exact⟨35,#[],#[],rfl,Try.call35,c35_problem_compare (a:=x735) (b:=x736) hO741 Ra2 Rb2 Rc2 Rd2 hy743⟩
 obtain⟨cell_1,hv750,hm⟩:=bd hm
 have F758:CallsTo2 Try.prog w711 (ks [(some b1,Oc [Sl Aa p.cells Ca,Sl Ab p.capacity Cb,Sl Ac p.variables Cc] 26)] O) (Value.func (.func 35) #[] #[]) (vA rXCell) (vA rXCell) (vI .i64) (fun x756 x757=>m35_problem_compare x756 x757):=by
  intro w759 O760 st761 hO762 v765 v766 x756 x757 y763 h767 h768 hy764
  obtain⟨_,rfl,⟨_,_,rfl,rfl,⟨_,_,rfl,⟨rfl,Re2⟩,⟨rfl,Rf2⟩⟩⟩⟩:=h767
  obtain⟨_,rfl,⟨_,_,rfl,rfl,⟨_,_,rfl,⟨rfl,Rg2⟩,⟨rfl,Rh2⟩⟩⟩⟩:=h768
  exact⟨35,#[],#[],rfl,Try.call35,c35_problem_compare (a:=x756) (b:=x757) hO762 Re2 Rf2 Rg2 Rh2 hy764⟩
 replace Fa:=Fa.step p715
 refine Rog rfl rfl<|op_callE hs714 Try.call34 (c34_api_Cell_ (l:=p.cells) (less:=(fun x735 x736=>m35_problem_compare x735 x736)) hs714.ltw Fa F737 hv750) rfl ?_
 rintro v751 w752 p771 hs755 h754
 clear hs714
 obtain rfl:=h754
 refine Rog rfl rfl<|op_not rfl<|Pkf (Bo (!cell_1)) rfl rfl<|Ri2 ?_
 have p773:=(p715.trans p771)
 replace ch705:=ch705.trans p773
 exact hK10 _ _ ⟨!cell_1,_,rfl,Frm.of ⟨rfl,trivial⟩,ch705,hs755,hm⟩

abbrev q42_4:List Nat:=[4,5,22,23,24,25,26,27,28,29,30]

abbrev q42_0:List Nat:=[15,56,57,58,59,60,61,62,63,64,65,66,67,68,69]

abbrev q42_1:List Nat:=[13,15,49,50,51,52,53,54,55,56,57,58,59,60,61,62,63,64,65,66,67,68,69,70]

abbrev q42_2:List Nat:=[8,10,11,13,15,41,42,43,44,45,46,47,48,49,50,51,52,53,54,55,56,57,58,59,60,61,62,63,64,65,66,67,68,69,70,71,72,73,74,75]

abbrev q42_3:List Nat:=[7,8,10,11,13,15,34,35,36,37,38,39,40,41,42,43,44,45,46,47,48,49,50,51,52,53,54,55,56,57,58,59,60,61,62,63,64,65,66,67,68,69,70,71,72,73,74,75,76,77,78,79,80,81,82]

def m42_reason_tabled_B4 (p:XProblem) (map_1:List (XCell × Int)) (v_2:Int) (v_4:Int) (v_5:Int) (sf135:Int→(List (XPlace × Int))→Option XTable) (sf165:Int→(List (XPlace × Int))→Option XTable) (v_6:Int) (map_3:List (XPlace × Int)):Option XTable:=
 bif (decide (v_6<(((p.variables.getD v_2.toNat default).leaves).length:Int))) then
  ck ((0:Int)≤v_6∧v_6<(((p.variables.getD v_2.toNat default).leaves).length:Int))<|
  sf165 (IntKind.wrap .i64 (v_6+1)) (mput map_3 (⟨((p.variables.getD v_2.toNat default).leaves).getD v_6.toNat default,(mget map_1 ((((((p.variables.getD v_2.toNat default).choices).getD v_4.toNat default).uses).getD v_5.toNat default).cell)).getD 0⟩:XPlace) ((((((p.variables.getD v_2.toNat default).choices).getD v_4.toNat default).uses).getD v_5.toNat default).places))
 else
  sf135 (IntKind.wrap .i64 (v_5+1)) map_3

def m42_reason_tabled_B3 (p:XProblem) (map_1:List (XCell × Int)) (v_2:Int) (l_1:List (List (XPlace × Int))) (v_4:Int) (sf97:(List (List (XPlace × Int)))→Int→Option XTable) (sf135:Int→(List (XPlace × Int))→Option XTable) (v_5:Int) (map_2:List (XPlace × Int)):Option XTable:=
 bif (decide (v_5<(((((p.variables.getD v_2.toNat default).choices).getD v_4.toNat default).uses).length:Int))) then
  ck ((0:Int)≤v_5∧v_5<(((((p.variables.getD v_2.toNat default).choices).getD v_4.toNat default).uses).length:Int))<|
  loop2 (m42_reason_tabled_B4 p map_1 v_2 v_4 v_5 sf135) (((((p.variables.getD v_2.toNat default).leaves).length:Int) - 0).toNat+1) 0 map_2
 else
  ck ((l_1.length+[map_2].length)*8≤140737488355328)<|
  sf97 (l_1++[map_2]) (IntKind.wrap .i64 (v_4+1))

def m42_reason_tabled_B2 (p:XProblem) (map_1:List (XCell × Int)) (v_2:Int) (v_3:List (List (List (XPlace × Int)))) (sf64:Int→(List (List (List (XPlace × Int))))→Option XTable) (sf97:(List (List (XPlace × Int)))→Int→Option XTable) (l_1:List (List (XPlace × Int))) (v_4:Int):Option XTable:=
 bif (decide (v_4<(((p.variables.getD v_2.toNat default).choices).length:Int))) then
  ck ((0:Int)≤v_4∧v_4<(((p.variables.getD v_2.toNat default).choices).length:Int))<|
  loop2 (m42_reason_tabled_B3 p map_1 v_2 l_1 v_4 sf97) (((((((p.variables.getD v_2.toNat default).choices).getD v_4.toNat default).uses).length:Int) - 0).toNat+1) 0 ([]:List (XPlace × Int))
 else
  ck ((v_3.length+[l_1].length)*24≤140737488355328)<|
  sf64 (IntKind.wrap .i64 (v_2+1)) (v_3++[l_1])

def m42_reason_tabled_B1 (p:XProblem) (map_1:List (XCell × Int)) (sf64:Int→(List (List (List (XPlace × Int))))→Option XTable) (v_2:Int) (v_3:List (List (List (XPlace × Int)))):Option XTable:=
 bif (decide (v_2<(p.variables.length:Int))) then
  ck ((0:Int)≤v_2∧v_2<(p.variables.length:Int))<|
  loop2 (m42_reason_tabled_B2 p map_1 v_2 v_3 sf64) (((((p.variables.getD v_2.toNat default).choices).length:Int) - 0).toNat+1) ([]:List (List (XPlace × Int))) 0
 else
  some (⟨p,v_3⟩:XTable)

def m42_reason_tabled_B0 (p:XProblem) (sf25:Int→(List (XCell × Int))→Option XTable) (v_1:Int) (map_1:List (XCell × Int)):Option XTable:=
 bif (decide (v_1<(p.cells.length:Int))) then
  ck ((0:Int)≤v_1∧v_1<(p.cells.length:Int))<|
  sf25 (IntKind.wrap .i64 (v_1+1)) (mput map_1 (p.cells.getD v_1.toNat default) v_1)
 else
  loop2 (m42_reason_tabled_B1 p map_1) (((p.variables.length:Int) - 0).toNat+1) 0 ([]:List (List (List (XPlace × Int))))

def m42_reason_tabled (p:XProblem):Option XTable:=
 loop2 (m42_reason_tabled_B0 p) (((p.cells.length:Int) - 0).toNat+1) 0 ([]:List (XCell × Int))

theorem c42_reason_tabled {w:World} {O:List Nat} {p:XProblem} {Aa:Option Addr} {Ca:Nat} {Ab:Option Addr} {Cb:Nat} {Ac:Option Addr} {Cc:Nat} (hO:∀k∈O,k<w.heap.size) (Fa:SlR rXCell w O Aa Ca p.cells) (Fb:SlR (rSl (rInt .i64)) w O Ab Cb p.capacity) (Fc:SlR rXVariable w O Ac Cc p.variables) {x:XTable} (hm:m42_reason_tabled p=some x):
 Ok Try.prog 42 [Value.agg [Sl Aa p.cells Ca,Sl Ab p.capacity Cb,Sl Ac p.variables Cc].toArray] w O (vA rXTable) x:=by
 unfold m42_reason_tabled at hm
 refine Fn_of_Wp (n:=84) (xs:=[.cell 2 80]) Try.func42 rfl Try.ntmps42 Try.results42 rfl ?_
 have hs:=St.start hO
 refine Wb<|Wa<|Rop<|op_box (cs:=[Sl Aa p.cells Ca,Sl Ab p.capacity Cb,Sl Ac p.variables Cc]) hs rfl rfl ?_
 intro b1 w2 _ p3 hs4
 refine Rop<|op_alloc ty80 hs4 ?_
 intro b6 w7 _ p8 hs9
 clear hs4
 refine Ri2<|Wb<|Wa<|Rop<|op_ldA 1 ty26 hs9 rfl rfl rfl<|Rop<|op2 0 ty80 rfl ty26 rfl rfl<|Rg_op_<|op_stP (cs':=[Sl Aa p.cells Ca,Sl Ab p.capacity Cb,Sl Ac p.variables Cc,Value.slice none 0 0]) .z ty26 hs9 rfl rfl rfl rfl (le_lit rfl) rfl rfl ?_
 intro w11 p12 hs13
 clear hs9
 refine Ri2<|Wb<|Wa<|Rop<|op_makeMap hs13 ?_
 intro b14 w15 p16 hs17
 clear hs13
 have M18:Mo kXCell (mvI .i64) (Obj.map #[] 0) ([]:List (XCell × Int)):=Mo.nil_
 refine Asg (Value.map (some b14)) rfl<|Ri2<|Wb<|Wb<|Wa<|Rop<|op2 0 ty26 rfl ty22 rfl rfl<|Rop<|oq2 2 ty22 hs17 rfl rfl rfl<|Rop<|op_len Try.underlying22 rfl ?_
 have p21:=(p3.trans (p8.trans (p12.trans p16)))
 replace Fa:=Fa.step p21
 have rl20:=inK_len Fa
 refine Mve (Iv 0) rfl<|Ri2<|Wn2<|Wr [] [(1,Pt b1 0),(2,Pt b6 0),(3,Value.map (some b14)),(20,Sl Aa p.cells Ca),(21,Iv (p.cells.length:Int)),(22,Iv 0)] fun ξ24=>Wp_loopM q42_4 (fun m fr w'=>∃(v_1:Int) (map_1:List (XCell × Int)) (o_g23:Obj) (Ebs:Ents),Ebs=[(some b14,o_g23),(some b6,Oc [Sl Aa p.cells Ca,Sl Ab p.capacity Cb,Sl Ac p.variables Cc,Value.slice none 0 0] 80),(some b1,Oc [Sl Aa p.cells Ca,Sl Ab p.capacity Cb,Sl Ac p.variables Cc] 26)]∧fr [] [(22,Iv v_1)]∧hs17.S (ks Ebs O) w'∧St ⟨w,[],[]⟩ O w' Ebs∧InK .i64 v_1∧Mo kXCell (mvI .i64) o_g23 map_1∧loop2 (m42_reason_tabled_B0 p) m v_1 map_1=some x) (((p.cells.length:Int) - 0).toNat+1) ⟨0,([]:List (XCell × Int)),Obj.map #[] 0,_,rfl,Frm.of ⟨rfl,trivial⟩,Step.refl _ _,hs17,(show InK .i64 0 from by decide),M18,hm⟩ ?_ ?_
 rintro _ _ ⟨_,_,_,_,_,_,_,_,_,_,hm⟩;exact loop2_z hm
 rintro m28 K27 hK27 ρ33 w29 ⟨v_1,map_1,o_g23,_,rfl,hfr32,hst31,hs30,Ra,M_g23,hm⟩
 obtain⟨sf25,hsf26,hm⟩:=loop2_s hm;unfold m42_reason_tabled_B0 at hm
 rw [hfr32.eq];clear hfr32
 have ch34:=hst31
 refine Wb<|Wa<|Rop<|op_lss rfl rfl<|Ri2<|Wb<|Wo2 hm rfl (fun hc35 hm=>?_) (fun hc35 hm=>?_)
 refine Ws2<|Wb<|Wn2<|Wb<|Wa<|Mve (Iv v_1) rfl ?_
 obtain⟨hc36,hm⟩:=ck_some hm
 replace Fa:=Fa.step hst31
 refine Rop<|om2 (q:=rXCell) ty22 ty67 rfl rfl Fa rfl hc36.1 hc36.2 ?_
 intro p37 f38
 refine Rop<|op_loadPA ty67 rfl f38 rfl ?_
 intro vs39 h40
 obtain⟨_,_,rfl,rfl,⟨_,_,rfl,⟨rfl,Rb⟩,⟨rfl,Rc⟩⟩⟩:=h40
 refine Rop<|op_alloc ty67 hs30 ?_
 intro b42 w43 _ p44 hs45
 clear hs30
 refine Asg (Iv v_1) rfl<|Rg_op_<|op_stA .z ty67 hs45 rfl rfl rfl rfl rfl ?_
 intro w47 p48 hs49
 clear hs45
 refine Ri2 ?_
 clear f38
 refine Wa<|Mve (Value.map (some b14)) rfl<|Rop<|op_ldA 0 ty67 hs49 rfl rfl rfl<|Mve (Iv v_1) rfl<|Rg_op_<|op_mapUpdate (q:=kXCell) (m:=(mvI .i64)) (n:=p.cells.getD v_1.toNat default) (v:=v_1) (i:=1) Try.underlying113 kok67 hs49 rfl M_g23 rfl rfl rfl rfl (And.intro Rb Rc) Ra ?_
 intro o50 w51 p52 hs53 M54
 clear hs49
 refine Ri2<|Wa<|Rop<|op_addw rfl rfl<|Mve (Iv (IntKind.wrap .i64 (v_1+1))) rfl<|Ri2 ?_
 have hs55:=hs53.drop 0
 have p56:=(hs53.dropS 0)
 clear hs53
 have p57:=(p44.trans (p48.trans (p52.trans p56)))
 replace ch34:=ch34.trans p57
 exact hK27 _ _ ⟨(IntKind.wrap .i64 (v_1+1)),mput map_1 (p.cells.getD v_1.toNat default) v_1,o50,_,rfl,Frm.of ⟨rfl,trivial⟩,ch34,hs55,(inK_wrap .i64 _),M54,jnE2 hsf26 hm⟩
 refine Wp_exit<|Wb<|Wb<|Wa<|Rop<|op2 2 ty26 rfl ty24 rfl rfl<|Rop<|oq2 2 ty24 hs30 rfl rfl rfl<|Rop<|op_len Try.underlying24 rfl ?_
 have p59:=(p21.trans hst31)
 replace Fc:=Fc.step p59
 have rl58:=inK_len Fc
 refine Mve (Iv 0) rfl<|Ri2<|Wn2<|Wr [] [(2,Pt b6 0),(3,Value.map (some b14)),(32,Sl Ac p.variables Cc),(33,Iv (p.variables.length:Int)),(34,Iv 0)] fun ξ63=>?_
 have hs68:=hs30.ghost (Obj.cells #[] 114)
 refine Wp_loopM q42_3 (fun m fr w'=>∃(v_2:Int) (v_3:List (List (List (XPlace × Int)))) (Ad:Option Addr) (Cd:Nat) (k_g62:Option Nat) (o_g62:Obj) (Ebs:Ents),Ebs=[(k_g62,o_g62),(some b14,o_g23),(some b6,Oc [Sl Aa p.cells Ca,Sl Ab p.capacity Cb,Sl Ac p.variables Cc,Sl Ad v_3 Cd] 80),(some b1,Oc [Sl Aa p.cells Ca,Sl Ab p.capacity Cb,Sl Ac p.variables Cc] 26)]∧fr [] [(34,Iv v_2)]∧hs68.S (ks Ebs O) w'∧St ⟨w,[],[]⟩ O w' Ebs∧InK .i64 v_2∧Gs (rSl (rMp kXPlace (mvI .i64))) 114 w' (ks Ebs O) Ad Cd v_3 k_g62 o_g62∧loop2 (m42_reason_tabled_B1 p map_1) m v_2 v_3=some x) (((p.variables.length:Int) - 0).toNat+1) ⟨0,([]:List (List (List (XPlace × Int)))),none,0,none,Obj.cells #[] 114,_,rfl,Frm.of ⟨rfl,trivial⟩,Step.refl _ _,hs68,(show InK .i64 0 from by decide),Gs.nil_,hm⟩ ?_ ?_
 rintro _ _ ⟨_,_,_,_,_,_,_,_,_,_,_,_,_,hm⟩;exact loop2_z hm
 rintro m67 K66 hK66 ρ74 w70 ⟨v_2,v_3,Ad,Cd,k_g62,o_g62,_,rfl,hfr73,hst72,hs71,Rd,Fd,hm⟩
 obtain⟨sf64,hsf65,hm⟩:=loop2_s hm;unfold m42_reason_tabled_B1 at hm
 rw [hfr73.eq];clear hfr73
 have ch75:=hst72
 refine Wb<|Wa<|Rop<|op_lss rfl rfl<|Ri2<|Wb<|Wo2 hm rfl (fun hc76 hm=>?_) (fun hc76 hm=>?_)
 refine Ws2<|Wb<|Wn2<|Wb<|Wa ?_
 obtain⟨hc77,hm⟩:=ck_some hm
 replace Fc:=Fc.step hst72
 refine Rop<|om2 (q:=rXVariable) ty24 ty61 rfl rfl Fc rfl hc77.1 hc77.2 ?_
 intro p78 f79
 refine Rop<|op_loadPA ty61 rfl f79 rfl ?_
 intro vs80 h81
 obtain⟨_,_,rfl,⟨rfl,Re⟩,⟨_,_,rfl,⟨rfl,Rf⟩,⟨_,_,rfl,⟨Ae,Ce,rfl,Fe⟩,⟨Af,Cf,rfl,Ff⟩⟩⟩⟩:=h81
 refine Rop<|op_alloc ty61 hs71 ?_
 intro b83 w84 _ p85 hs86
 clear hs71
 refine Rg_op_<|op_stA .z ty61 hs86 rfl rfl rfl rfl rfl ?_
 intro w88 p89 hs90
 clear hs86
 refine Ri2<|Wb ?_
 clear f79
 refine Wa<|Asg (Value.slice none 0 0) rfl<|Ri2<|Wb<|Wb<|Wa<|Rop<|op2 3 ty61 rfl ty59 rfl rfl<|Rop<|oq2 0 ty59 hs90 rfl rfl rfl<|Rop<|op_len Try.underlying59 rfl ?_
 have p92:=(p85.trans p89)
 replace Ff:=Ff.step p92
 have rl91:=inK_len Ff
 refine Mve (Iv 0) rfl<|Ri2<|Wn2<|Wr2 q42_3 [] (updL ⟨ξ63,[]⟩ [(2,Pt b6 0),(3,Value.map (some b14)),(32,Sl Ac p.variables Cc),(33,Iv (p.variables.length:Int)),(34,Iv 0)]) [(7,Pt b83 0),(8,Value.slice none 0 0),(34,Iv v_2),(39,Sl Af ((p.variables.getD v_2.toNat default).choices) Cf),(40,Iv (((p.variables.getD v_2.toNat default).choices).length:Int)),(41,Iv 0)] fun ξ96=>?_
 have hs101:=hs90.ghost (Obj.cells #[] 115)
 refine Wp_loopM q42_2 (fun m fr w'=>∃(l_1:List (List (XPlace × Int))) (v_4:Int) (Ag:Option Addr) (Cg:Nat) (k_g94:Option Nat) (o_g94:Obj) (Ebs:Ents),Ebs=[(k_g94,o_g94),(some b83,Oc [Iv ((p.variables.getD v_2.toNat default).flight),Iv ((p.variables.getD v_2.toNat default).node),Sl Ae ((p.variables.getD v_2.toNat default).leaves) Ce,Sl Af ((p.variables.getD v_2.toNat default).choices) Cf] 61),(k_g62,o_g62),(some b14,o_g23),(some b6,Oc [Sl Aa p.cells Ca,Sl Ab p.capacity Cb,Sl Ac p.variables Cc,Sl Ad v_3 Cd] 80),(some b1,Oc [Sl Aa p.cells Ca,Sl Ab p.capacity Cb,Sl Ac p.variables Cc] 26)]∧fr [] [(8,Sl Ag l_1 Cg),(41,Iv v_4)]∧hs101.S (ks Ebs O) w'∧St ⟨w,[],[]⟩ O w' Ebs∧Gs (rMp kXPlace (mvI .i64)) 115 w' (ks Ebs O) Ag Cg l_1 k_g94 o_g94∧InK .i64 v_4∧loop2 (m42_reason_tabled_B2 p map_1 v_2 v_3 sf64) m l_1 v_4=some x) (((((p.variables.getD v_2.toNat default).choices).length:Int) - 0).toNat+1) ⟨([]:List (List (XPlace × Int))),0,none,0,none,Obj.cells #[] 115,_,rfl,Frm.of ⟨rfl,rfl,trivial⟩,Step.refl _ _,hs101,Gs.nil_,(show InK .i64 0 from by decide),hm⟩ ?_ ?_
 rintro _ _ ⟨_,_,_,_,_,_,_,_,_,_,_,_,_,hm⟩;exact loop2_z hm
 rintro m100 K99 hK99 ρ107 w103 ⟨l_1,v_4,Ag,Cg,k_g94,o_g94,_,rfl,hfr106,hst105,hs104,Fg,Rg,hm⟩
 obtain⟨sf97,hsf98,hm⟩:=loop2_s hm;unfold m42_reason_tabled_B2 at hm
 rw [hfr106.eq];clear hfr106
 have ch108:=hst105
 refine Wb<|Wa<|Rop<|op_lss rfl rfl<|Ri2<|Wb<|Wo2 hm rfl (fun hc109 hm=>?_) (fun hc109 hm=>?_)
 refine Ws2<|Wb<|Wn2<|Wb<|Wa ?_
 obtain⟨hc110,hm⟩:=ck_some hm
 replace Ff:=Ff.step hst105
 refine Rop<|om2 (q:=rXChoice) ty59 ty58 rfl rfl Ff rfl hc110.1 hc110.2 ?_
 intro p111 f112
 refine Rop<|op_loadPA ty58 rfl f112 rfl ?_
 intro vs113 h114
 obtain⟨_,_,rfl,⟨rfl,Rh⟩,⟨_,_,rfl,⟨rfl,Ri⟩,⟨_,_,rfl,⟨rfl,Rj⟩,⟨Ah,Ch,rfl,Fh⟩⟩⟩⟩:=h114
 refine Rop<|op_alloc ty58 hs104 ?_
 intro b116 w117 _ p118 hs119
 clear hs104
 refine Rg_op_<|op_stA .z ty58 hs119 rfl rfl rfl rfl rfl ?_
 intro w121 p122 hs123
 clear hs119
 refine Ri2<|Wb ?_
 clear f112
 refine Wa<|Rop<|op_makeMap hs123 ?_
 intro b124 w125 p126 hs127
 clear hs123
 have M128:Mo kXPlace (mvI .i64) (Obj.map #[] 0) ([]:List (XPlace × Int)):=Mo.nil_
 refine Asg (Value.map (some b124)) rfl<|Ri2<|Wb<|Wb<|Wa<|Rop<|op2 3 ty58 rfl ty56 rfl rfl<|Rop<|oq2 1 ty56 hs127 rfl rfl rfl<|Rop<|op_len Try.underlying56 rfl ?_
 have p131:=(p118.trans (p122.trans p126))
 replace Fh:=Fh.step p131
 have rl130:=inK_len Fh
 refine Mve (Iv 0) rfl<|Ri2<|Wn2<|Wr2 q42_2 [] (updL (mix q42_3 [] ξ96 (updL ⟨ξ63,[]⟩ [(2,Pt b6 0),(3,Value.map (some b14)),(32,Sl Ac p.variables Cc),(33,Iv (p.variables.length:Int)),(34,Iv 0)])) [(7,Pt b83 0),(8,Value.slice none 0 0),(34,Iv v_2),(39,Sl Af ((p.variables.getD v_2.toNat default).choices) Cf),(40,Iv (((p.variables.getD v_2.toNat default).choices).length:Int)),(41,Iv 0)]) [(8,Sl Ag l_1 Cg),(11,Value.map (some b124)),(41,Iv v_4),(47,Sl Ah ((((p.variables.getD v_2.toNat default).choices).getD v_4.toNat default).uses) Ch),(48,Iv (((((p.variables.getD v_2.toNat default).choices).getD v_4.toNat default).uses).length:Int)),(49,Iv 0)] fun ξ134=>Wp_loopM q42_1 (fun m fr w'=>∃(v_5:Int) (map_2:List (XPlace × Int)) (o_g133:Obj) (Ebs:Ents),Ebs=[(some b124,o_g133),(some b116,Oc [Iv ((((p.variables.getD v_2.toNat default).choices).getD v_4.toNat default).delay),Iv ((((p.variables.getD v_2.toNat default).choices).getD v_4.toNat default).cost),Iv ((((p.variables.getD v_2.toNat default).choices).getD v_4.toNat default).changes),Sl Ah ((((p.variables.getD v_2.toNat default).choices).getD v_4.toNat default).uses) Ch] 58),(k_g94,o_g94),(some b83,Oc [Iv ((p.variables.getD v_2.toNat default).flight),Iv ((p.variables.getD v_2.toNat default).node),Sl Ae ((p.variables.getD v_2.toNat default).leaves) Ce,Sl Af ((p.variables.getD v_2.toNat default).choices) Cf] 61),(k_g62,o_g62),(some b14,o_g23),(some b6,Oc [Sl Aa p.cells Ca,Sl Ab p.capacity Cb,Sl Ac p.variables Cc,Sl Ad v_3 Cd] 80),(some b1,Oc [Sl Aa p.cells Ca,Sl Ab p.capacity Cb,Sl Ac p.variables Cc] 26)]∧fr [] [(49,Iv v_5)]∧hs127.S (ks Ebs O) w'∧St ⟨w,[],[]⟩ O w' Ebs∧InK .i64 v_5∧Mo kXPlace (mvI .i64) o_g133 map_2∧loop2 (m42_reason_tabled_B3 p map_1 v_2 l_1 v_4 sf97) m v_5 map_2=some x) (((((((p.variables.getD v_2.toNat default).choices).getD v_4.toNat default).uses).length:Int) - 0).toNat+1) ⟨0,([]:List (XPlace × Int)),Obj.map #[] 0,_,rfl,Frm.of ⟨rfl,trivial⟩,Step.refl _ _,hs127,(show InK .i64 0 from by decide),M128,hm⟩ ?_ ?_
 rintro _ _ ⟨_,_,_,_,_,_,_,_,_,_,hm⟩;exact loop2_z hm
 rintro m138 K137 hK137 ρ143 w139 ⟨v_5,map_2,o_g133,_,rfl,hfr142,hst141,hs140,Rk,M_g133,hm⟩
 obtain⟨sf135,hsf136,hm⟩:=loop2_s hm;unfold m42_reason_tabled_B3 at hm
 rw [hfr142.eq];clear hfr142
 have ch144:=hst141
 refine Wb<|Wa<|Rop<|op_lss rfl rfl<|Ri2<|Wb<|Wo2 hm rfl (fun hc145 hm=>?_) (fun hc145 hm=>?_)
 refine Ws2<|Wb<|Wn2<|Wb<|Wa ?_
 obtain⟨hc146,hm⟩:=ck_some hm
 replace Fh:=Fh.step hst141
 refine Rop<|om2 (q:=rXUse) ty56 ty76 rfl rfl Fh rfl hc146.1 hc146.2 ?_
 intro p147 f148
 refine Rop<|op_loadPA ty76 rfl f148 rfl ?_
 intro vs149 h150
 obtain⟨_,_,rfl,⟨_,_,rfl,rfl,⟨_,_,rfl,⟨rfl,Rl⟩,⟨rfl,Rm⟩⟩⟩,⟨rfl,Rn⟩⟩:=h150
 refine Rop<|op_alloc ty76 hs140 ?_
 intro b152 w153 _ p154 hs155
 refine Rg_op_<|op_stA .z ty76 hs155 rfl rfl rfl rfl rfl ?_
 intro w157 p158 hs159
 refine Ri2<|Wb ?_
 clear f148
 refine Wa<|Rop<|op2 2 ty61 rfl ty31 rfl rfl<|Rop<|oq2 4 ty31 hs159 rfl rfl rfl<|Rop<|op_len Try.underlying31 rfl ?_
 have p161:=(p92.trans (hst105.trans (p118.trans (p122.trans (p126.trans (hst141.trans (p154.trans p158)))))))
 replace Fe:=Fe.step p161
 have rl160:=inK_len Fe
 refine Mve (Iv 0) rfl<|Ri2<|Wn2<|Wr2 q42_1 [] (updL (mix q42_2 [] ξ134 (updL (mix q42_3 [] ξ96 (updL ⟨ξ63,[]⟩ [(2,Pt b6 0),(3,Value.map (some b14)),(32,Sl Ac p.variables Cc),(33,Iv (p.variables.length:Int)),(34,Iv 0)])) [(7,Pt b83 0),(8,Value.slice none 0 0),(34,Iv v_2),(39,Sl Af ((p.variables.getD v_2.toNat default).choices) Cf),(40,Iv (((p.variables.getD v_2.toNat default).choices).length:Int)),(41,Iv 0)])) [(8,Sl Ag l_1 Cg),(11,Value.map (some b124)),(41,Iv v_4),(47,Sl Ah ((((p.variables.getD v_2.toNat default).choices).getD v_4.toNat default).uses) Ch),(48,Iv (((((p.variables.getD v_2.toNat default).choices).getD v_4.toNat default).uses).length:Int)),(49,Iv 0)]) [(13,Pt b152 0),(49,Iv v_5),(54,Sl Ae ((p.variables.getD v_2.toNat default).leaves) Ce),(55,Iv (((p.variables.getD v_2.toNat default).leaves).length:Int)),(56,Iv 0)] fun ξ164=>Wp_loopM q42_0 (fun m fr w'=>∃(v_6:Int) (map_3:List (XPlace × Int)) (o_g163:Obj) (Ebs:Ents),Ebs=[(some b152,Oc [Bo (((((((p.variables.getD v_2.toNat default).choices).getD v_4.toNat default).uses).getD v_5.toNat default).cell).airport),Iv (((((((p.variables.getD v_2.toNat default).choices).getD v_4.toNat default).uses).getD v_5.toNat default).cell).index),Iv (((((((p.variables.getD v_2.toNat default).choices).getD v_4.toNat default).uses).getD v_5.toNat default).cell).minute),Iv ((((((p.variables.getD v_2.toNat default).choices).getD v_4.toNat default).uses).getD v_5.toNat default).places)] 76),(some b124,o_g163),(some b116,Oc [Iv ((((p.variables.getD v_2.toNat default).choices).getD v_4.toNat default).delay),Iv ((((p.variables.getD v_2.toNat default).choices).getD v_4.toNat default).cost),Iv ((((p.variables.getD v_2.toNat default).choices).getD v_4.toNat default).changes),Sl Ah ((((p.variables.getD v_2.toNat default).choices).getD v_4.toNat default).uses) Ch] 58),(k_g94,o_g94),(some b83,Oc [Iv ((p.variables.getD v_2.toNat default).flight),Iv ((p.variables.getD v_2.toNat default).node),Sl Ae ((p.variables.getD v_2.toNat default).leaves) Ce,Sl Af ((p.variables.getD v_2.toNat default).choices) Cf] 61),(k_g62,o_g62),(some b14,o_g23),(some b6,Oc [Sl Aa p.cells Ca,Sl Ab p.capacity Cb,Sl Ac p.variables Cc,Sl Ad v_3 Cd] 80),(some b1,Oc [Sl Aa p.cells Ca,Sl Ab p.capacity Cb,Sl Ac p.variables Cc] 26)]∧fr [] [(56,Iv v_6)]∧hs159.S (ks Ebs O) w'∧St ⟨w,[],[]⟩ O w' Ebs∧InK .i64 v_6∧Mo kXPlace (mvI .i64) o_g163 map_3∧loop2 (m42_reason_tabled_B4 p map_1 v_2 v_4 v_5 sf135) m v_6 map_3=some x) (((((p.variables.getD v_2.toNat default).leaves).length:Int) - 0).toNat+1) ⟨0,map_2,o_g133,_,rfl,Frm.of ⟨rfl,trivial⟩,Step.refl _ _,hs159,(show InK .i64 0 from by decide),M_g133,hm⟩ ?_ ?_
 rintro _ _ ⟨_,_,_,_,_,_,_,_,_,_,hm⟩;exact loop2_z hm
 rintro m168 K167 hK167 ρ173 w169 ⟨v_6,map_3,o_g163,_,rfl,hfr172,hst171,hs170,Ro,M_g163,hm⟩
 obtain⟨sf165,hsf166,hm⟩:=loop2_s hm;unfold m42_reason_tabled_B4 at hm
 rw [hfr172.eq];clear hfr172
 have ch174:=hst171
 refine Wb<|Wa<|Rop<|op_lss rfl rfl<|Ri2<|Wb<|Wo2 hm rfl (fun hc175 hm=>?_) (fun hc175 hm=>?_)
 refine Ws2<|Wb<|Wn2<|Wb<|Wa ?_
 obtain⟨hc176,hm⟩:=ck_some hm
 replace Fe:=Fe.step hst171
 refine Rop<|om2 (q:=(rInt .i64)) ty31 ty3 rfl rfl Fe rfl hc176.1 hc176.2 ?_
 intro p177 f178
 refine Rop<|ot2 ty3 rfl f178 rfl ?_
 intro v179 h180
 obtain⟨rfl,Rp⟩:=un_int h180
 refine Asg (Iv (((p.variables.getD v_2.toNat default).leaves).getD v_6.toNat default)) rfl<|Ri2 ?_
 clear f178
 refine Wp_drawR (g0:=[]) (m:=9) (fl:=[]) (TS_inv hs170) rfl (.inl rfl) rfl (by decide+kernel) ?_  -- 22
 refine Dw_p (Value.map (some b124)) (fun _ _ _ hi ht=>ok2 (v:=Value.map (some b124)) (ht 11 rfl)<|Gz hi)<|Dw_p (Iv (((p.variables.getD v_2.toNat default).leaves).getD v_6.toNat default)) (fun _ _ _ hi ht=>ok2 (v:=Iv (((p.variables.getD v_2.toNat default).leaves).getD v_6.toNat default)) (ht 15 rfl)<|Gz hi)<|Dw_p (Value.map (some b14)) (fun _ _ _ hi ht=>ok2 (v:=Value.map (some b14)) (ht 3 rfl)<|Gz hi)<|Dw_p (Pt b152 0) (fun _ _ _ hi ht=>op2 0 ty76 rfl ty67 (ht 13 rfl) rfl<|Gz hi)<|Dw_p (Value.agg [Bo (((((((p.variables.getD v_2.toNat default).choices).getD v_4.toNat default).uses).getD v_5.toNat default).cell).airport),Iv (((((((p.variables.getD v_2.toNat default).choices).getD v_4.toNat default).uses).getD v_5.toNat default).cell).index),Iv (((((((p.variables.getD v_2.toNat default).choices).getD v_4.toNat default).uses).getD v_5.toNat default).cell).minute)].toArray) (fun _ _ _ hi ht=>op_loadA (vs:=[Bo (((((((p.variables.getD v_2.toNat default).choices).getD v_4.toNat default).uses).getD v_5.toNat default).cell).airport),Iv (((((((p.variables.getD v_2.toNat default).choices).getD v_4.toNat default).uses).getD v_5.toNat default).cell).index),Iv (((((((p.variables.getD v_2.toNat default).choices).getD v_4.toNat default).uses).getD v_5.toNat default).cell).minute)]) (i:=0) ty67 (Step.nx hi).1 (ht 63 rfl) rfl rfl rfl<|Gz hi)<|Dw_p (Iv ((mget map_1 ((((((p.variables.getD v_2.toNat default).choices).getD v_4.toNat default).uses).getD v_5.toNat default).cell)).getD 0)) (fun _ _ _ hi ht=>op_lookup (q:=kXCell) (m:=(mvI .i64)) (n:=(((((p.variables.getD v_2.toNat default).choices).getD v_4.toNat default).uses).getD v_5.toNat default).cell) (z:=0) Try.underlying113 kok67 Try.zeroValue3 ((Step.nx hi).1.get (i:=6) rfl) M_g23 (And.intro Rl Rm) (ht 62 rfl) (ht 64 rfl)<|Gz hi)<|Dw_eq (Value.agg [Iv (((p.variables.getD v_2.toNat default).leaves).getD v_6.toNat default),Iv ((mget map_1 ((((((p.variables.getD v_2.toNat default).choices).getD v_4.toNat default).uses).getD v_5.toNat default).cell)).getD 0)].toArray) (fun ρ200 w201 g hle hi ht=>?_) ?_
 refine Sj2 (op_build (vs:=[Iv (((p.variables.getD v_2.toNat default).leaves).getD v_6.toNat default),Iv ((mget map_1 ((((((p.variables.getD v_2.toNat default).choices).getD v_4.toNat default).uses).getD v_5.toNat default).cell)).getD 0)]) (parts:=[(0,.tmp 61),(1,.tmp 65)]) ty45 pl45 (by simp only [List.map,(show ev _ (.tmp 61)=_ from(ht 61 rfl)),(show ev _ (.tmp 65)=_ from(ht 65 rfl))];rfl) ?_)
 exact Gz hi
 refine Dw_p (Pt b152 3) (fun _ _ _ hi ht=>op2 3 ty76 rfl ty3 (ht 13 rfl) rfl<|Gz hi)<|Dw_p (Iv ((((((p.variables.getD v_2.toNat default).choices).getD v_4.toNat default).uses).getD v_5.toNat default).places)) (fun _ _ _ hi ht=>oq2 0 ty3 (Step.nx hi).1 (ht 67 rfl) rfl rfl<|Gz hi)<|Dw_nil fun w213 g214 hl215 hi216=>?_
 obtain⟨-,hst217,-⟩:=hl215
 obtain⟨hs219,p218⟩:=Step.nx hi216
 rintro _ rfl _ rfl _ rfl _ rfl _ rfl _ rfl _ rfl _ rfl _ rfl
 have p220:=hs170.to hs219 (hst217.trans p218)
 clear hs170
 refine Rg_op_<|op_mapUpdate (q:=kXPlace) (m:=(mvI .i64)) (n:=(⟨((p.variables.getD v_2.toNat default).leaves).getD v_6.toNat default,(mget map_1 ((((((p.variables.getD v_2.toNat default).choices).getD v_4.toNat default).uses).getD v_5.toNat default).cell)).getD 0⟩:XPlace)) (v:=(((((p.variables.getD v_2.toNat default).choices).getD v_4.toNat default).uses).getD v_5.toNat default).places) (i:=1) Try.underlying115 kok45 hs219 rfl M_g163 rfl rfl rfl rfl (And.intro Rp (M_g23.ok (show InK .i64 0 from by decide))) Rn ?_
 intro o221 w222 p223 hs224 M225
 clear hs219
 refine Ri2<|Wa<|Rop<|op_addw rfl rfl<|Mve (Iv (IntKind.wrap .i64 (v_6+1))) rfl<|Ri2 ?_
 have p226:=(p220.trans p223)
 replace ch174:=ch174.trans p226
 exact hK167 _ _ ⟨(IntKind.wrap .i64 (v_6+1)),mput map_3 (⟨((p.variables.getD v_2.toNat default).leaves).getD v_6.toNat default,(mget map_1 ((((((p.variables.getD v_2.toNat default).choices).getD v_4.toNat default).uses).getD v_5.toNat default).cell)).getD 0⟩:XPlace) ((((((p.variables.getD v_2.toNat default).choices).getD v_4.toNat default).uses).getD v_5.toNat default).places),o221,_,rfl,Frm.of ⟨rfl,trivial⟩,ch174,hs224,(inK_wrap .i64 _),M225,jnE2 hsf166 hm⟩
 refine Wp_exit<|Wa<|Rop<|op_addw rfl rfl<|Mve (Iv (IntKind.wrap .i64 (v_5+1))) rfl<|Ri2 ?_
 have hs227:=hs170.drop 0
 have p228:=(hs170.dropS 0)
 clear hs170
 have p229:=(p154.trans (p158.trans (hst171.trans p228)))
 replace ch144:=ch144.trans p229
 exact hK137 _ _ ⟨(IntKind.wrap .i64 (v_5+1)),map_3,o_g163,_,rfl,Frm.of ⟨rfl,trivial⟩,ch144,hs227,(inK_wrap .i64 _),M_g163,jnE2 hsf136 hm⟩
 refine Wp_exit<|Wa<|Mve (Sl Ag l_1 Cg) rfl<|Mve (Value.map (some b124)) rfl ?_
 obtain⟨hs231,p232,f230⟩:=St.publishM (i:=0) hs140 rfl M_g133
 refine Rop<|op_buildSlice (cs:=[Value.map (some b124)]) (parts:=[(0,.tmp 72)]) ty114 ty115 hs231 (by decide) rfl ?_
 intro b233 w234 hx237 p235 hs236
 clear hs231
 obtain⟨hc239,hm⟩:=ck_some hm
 replace f230:=f230.step p235
 have p248:=(p131.trans (hst141.trans (p232.trans p235)))
 replace Fg:=Fg.step p248
 refine Rop (op_append (q:=rMp kXPlace (mvI .i64)) (i:=2) (xs:=l_1) (ys:=[map_2]) (news:=[Value.map (some b124)]) ty114 ty115 rfl (by decide) hs236 rfl rfl Fg rfl (Src.owned' (len:=1) (hs236.get (i:=0) rfl) rfl) (show Els (rMp kXPlace (mvI .i64)) _ _ [Value.map (some b124)] [map_2] from⟨_,_,rfl,mk_mp f230,Els.nil⟩) hc239 (by have:=hc239;simp only [maxLen];omega) ?_)
 intro a243 c244 k245 o246 w240 p241 hs242 f247
 clear hs236
 have hs249:=hs242.drop 0
 have p250:=(hs242.dropS 0)
 clear hs242
 refine Asg (Sl a243 (l_1++[map_2]) c244) rfl<|Ri2 ?_
 clear f230
 refine Wa<|Rop<|op_addw rfl rfl<|Mve (Iv (IntKind.wrap .i64 (v_4+1))) rfl<|Ri2 ?_
 have hs251:=hs249.drop 0
 have p252:=(hs249.dropS 0)
 clear hs249
 have p253:=(p248.trans (p241.trans (p250.trans p252)))
 replace ch108:=ch108.trans p253
 replace f247:=f247.step (p250.trans p252)
 exact hK99 _ _ ⟨l_1++[map_2],(IntKind.wrap .i64 (v_4+1)),a243,c244,k245,o246,_,rfl,Frm.of ⟨rfl,rfl,trivial⟩,ch108,hs251,f247,(inK_wrap .i64 _),jnE2 hsf98 hm⟩
 refine Wp_exit<|Wa<|Rop<|op2 3 ty80 rfl ty78 rfl rfl<|Rop<|oq2 4 ty78 hs104 rfl rfl rfl<|Mve (Sl Ag l_1 Cg) rfl ?_
 obtain⟨hs255,p256,f254⟩:=Gs.publish (i:=0) hs104 rfl Fg
 clear hs104
 refine Rop<|op_buildSlice (cs:=[Sl Ag l_1 Cg]) (parts:=[(0,.tmp 78)]) ty78 ty114 hs255 (by decide) rfl ?_
 intro b257 w258 hx261 p259 hs260
 clear hs255
 obtain⟨hc263,hm⟩:=ck_some hm
 replace f254:=f254.step p259
 have p272:=(p92.trans (hst105.trans (p256.trans p259)))
 replace Fd:=Fd.step p272
 refine Rop (op_append (q:=rSl (rMp kXPlace (mvI .i64))) (i:=2) (xs:=v_3) (ys:=[l_1]) (news:=[Sl Ag l_1 Cg]) ty78 ty114 rfl (by decide) hs260 rfl rfl Fd rfl (Src.owned' (len:=1) (hs260.get (i:=0) rfl) rfl) (show Els (rSl (rMp kXPlace (mvI .i64))) _ _ [Sl Ag l_1 Cg] [l_1] from⟨_,_,rfl,mk_sl f254,Els.nil⟩) hc263 (by have:=hc263;simp only [maxLen];omega) ?_)
 intro a267 c268 k269 o270 w264 p265 hs266 f271
 clear hs260
 have hs273:=hs266.drop 0
 have p274:=(hs266.dropS 0)
 clear hs266
 refine Rop<|op2 3 ty80 rfl ty78 rfl rfl<|Rg_op_<|op_stC (Sl a267 (v_3++[l_1]) c268) (cs':=[Sl Aa p.cells Ca,Sl Ab p.capacity Cb,Sl Ac p.variables Cc,Sl a267 (v_3++[l_1]) c268]) Put.p3 ty78 hs273 rfl rfl rfl (le_lit rfl) rfl rfl ?_
 intro w275 p276 hs277
 clear hs273
 refine Ri2 ?_
 clear f254
 refine Wa<|Rop<|op_addw rfl rfl<|Mve (Iv (IntKind.wrap .i64 (v_2+1))) rfl<|Ri2 ?_
 have hs278:=hs277.drop 0
 have p279:=(hs277.dropS 0)
 clear hs277
 have p280:=(p272.trans (p265.trans (p274.trans (p276.trans p279))))
 replace ch75:=ch75.trans p280
 replace f271:=f271.step (p274.trans (p276.trans p279))
 exact hK66 _ _ ⟨(IntKind.wrap .i64 (v_2+1)),v_3++[l_1],a267,c268,k269,o270,_,rfl,Frm.of ⟨rfl,trivial⟩,ch75,hs278,(inK_wrap .i64 _),f271,jnE2 hsf65 hm⟩
 refine Wp_exit<|Wb ?_
 obtain⟨hs281,p282⟩:=hs71.sub (bs':=[(k_g62,o_g62),(some b6,Oc [Sl Aa p.cells Ca,Sl Ab p.capacity Cb,Sl Ac p.variables Cc,Sl Ad v_3 Cd] 80)]) (.cons_cons _ (.cons _ (.cons_cons _ (.cons _ List.Sublist.slnil))))
 clear hs71
 refine Wa<|Rop<|op_ldA 1 ty80 hs281 rfl rfl rfl<|Rg_op_<|op_stA Put.p1 ty80 hs281 rfl rfl rfl rfl rfl ?_
 intro w283 p284 hs285
 clear hs281
 refine Ri2<|Wp_ret ?_
 have p289:=(p282.trans p284)
 replace Fd:=Fd.step p289
 obtain⟨hs287,p288,f286⟩:=Gs.publish (i:=0) hs285 rfl Fd
 clear hs285
 have hz:=step_all hs287
 refine⟨_,Clo,[Value.agg [Sl Aa p.cells Ca,Sl Ab p.capacity Cb,Sl Ac p.variables Cc,Sl Ad v_3 Cd].toArray],⟨resA (cs:=[Sl Aa p.cells Ca,Sl Ab p.capacity Cb,Sl Ac p.variables Cc,Sl Ad v_3 Cd]) (vs:=[Sl Aa p.cells Ca,Sl Ab p.capacity Cb,Sl Ac p.variables Cc,Sl Ad v_3 Cd]) ty80 (i:=0) hs287 rfl rfl rfl rfl,trivial⟩,hs287.ext,?_⟩
 replace f286:=f286.step hz
 replace Fb:=Fb.step (p59.trans (hst72.trans (p282.trans (p284.trans (p288.trans hz)))))
 replace Fa:=Fa.step (hst31.trans (hst72.trans (p282.trans (p284.trans (p288.trans hz)))))
 have p290:=(hst72.trans (p282.trans (p284.trans (p288.trans hz))))
 replace Fc:=Fc.step p290
 exact Vr.eq (a:=vA rXTable) (x:=(⟨p,v_3⟩:XTable)) (mkA (mkVia (mk_pair (mkVia (mk_pair (mk_sl Fa) (mk_pair (mk_sl Fb) (mk_sl Fc)))) (mk_sl f286)))) (oi hm)

def m71_slices_Cloneint_int_ (s:List Int):Option (List Int):=
 ck ((([]:List Int).length+s.length)*8≤140737488355328)<|
 some (([]:List Int)++s)

theorem g71_slices_Cloneint_int_ {w:World} {O:List Nat} {s:List Int} {Aa:Option Addr} {Ca:Nat} (hO:∀k∈O,k<w.heap.size) (Fa:SlR (rInt .i64) w O Aa Ca s) {x:(List Int)} (hm:m71_slices_Cloneint_int_ s=some x):
 OkG Try.prog 71 [Sl Aa s Ca] w O (rInt .i64) 3 x:=by
 unfold m71_slices_Cloneint_int_ at hm
 refine Fn_of_Wp (n:=8) (xs:=[.tmp 2]) Try.func71 rfl Try.ntmps71 Try.results71 rfl ?_
 have hs:=St.start hO
 refine Wb<|Wa<|Asg (Value.slice none 0 0) rfl<|Ri2<|Wb<|Wb<|Wa<|Mve (Sl Aa s Ca) rfl<|Rop<|op_eqnil Try.underlying31 rfl rfl<|Ri2 ?_
 rcases Aa with _ |ad1
 have hnil2:=(Fa.nil rfl).1
 refine Wp_cond_t rfl<|Wb ?_
 clear Fa
 refine Wa<|Asg (Value.slice none 0 0) rfl<|Ri2<|Wp_ret<|⟨_,Clo,[Value.slice none 0 0],⟨rfl,trivial⟩,hs.ext,?_⟩
 exact OkG.mkNil (by simp [ck,hnil2] at hm;first |exact hm |(subst hm;simp [hnil2]) |simpa using hm)
 refine Wp_cond_f rfl<|Ws2<|Wb<|Wa<|Rop<|op_buildSlice (cs:=[]) (parts:=[]) ty31 ty3 hs (by decide) rfl ?_
 intro b3 w4 hx7 p5 hs6
 refine Mve (Sl (some ad1) s Ca) rfl ?_
 have f9:=Gs.of_cells (p:=(rInt .i64)) (e:=3) (bl:=b3) (c:=0) (w:=w4) (O:=ks [(some b3,Oc [] 3)] O) (show Els (rInt .i64) _ _ [] [] from Els.nil) rfl (le_lit rfl)
 obtain⟨hc10,hm⟩:=ck_some hm
 replace Fa:=Fa.step p5
 obtain⟨ns11,he12,hr13⟩:=Fa.src
 refine Rop (op_append (q:=(rInt .i64)) (i:=0) (xs:=([]:List Int)) (ys:=s) (news:=ns11) ty31 ty3 rfl (by decide) hs6 rfl rfl f9 rfl hr13 he12 hc10 (by have:=hc10;simp only [maxLen];omega) ?_)
 intro a17 c18 k19 o20 w14 p15 hs16 f21
 clear hs6
 refine Asg (Sl a17 (([]:List Int)++s) c18) rfl<|Ri2<|Wp_ret<|⟨_,Clo,[Sl a17 (([]:List Int)++s) c18],⟨rfl,trivial⟩,hs16.ext,?_⟩
 exact OkG.mk (i:=0) hs16 rfl f21 (oi hm)
abbrev q70_0:List Nat:=[9,21,22,23,24,25,26,27,28,29,30,31,32,33,34,35,36,37,38,39,40,41,42,43,44,45,46]

def m70_reason_lists_1_1_B0 (at_:Int) (fv0_:Int) (fv3_:Int) (fv4_:(Int × Int) × (List Int)→Option (List (List Int) × (List Int))) (sf76:(List Int)→Option (List (List Int) × (List Int))) (arr_1:List Int):Option (List (List Int) × (List Int)):=
 ck ((0:Int)≤at_∧at_<(arr_1.length:Int))<|
 bif (decide ((arr_1.getD at_.toNat default)≤(IntKind.wrap .i64 (fv3_ - (IntKind.wrap .i64 (fv0_ - at_)))))) then
  ck ((0:Int)≤at_∧at_<(arr_1.length:Int))<|
  aplM (fv4_ (((IntKind.wrap .i64 (at_+1)),(IntKind.wrap .i64 ((arr_1.getD at_.toNat default)+1))),arr_1)) (fun(arr_2:List Int)=>
   ck ((0:Int)≤at_∧at_<(arr_2.length:Int))<|
   ck ((0:Int)≤at_∧at_<(arr_2.length:Int))<|
   sf76 (arr_2.set at_.toNat (IntKind.wrap .i64 ((arr_2.getD at_.toNat default)+1))))
 else
  some (([]:List (List Int)),arr_1)

def m70_reason_lists_1_1 (at_:Int) (from_:Int) (fv0_:Int) (ln_fv2_:Nat) (fv2_:List Int) (fv3_:Int) (fv4_:(Int × Int) × (List Int)→Option (List (List Int) × (List Int))):Option (List (List Int) × (List Int)):=
 bif (decide (at_=fv0_)) then
  (m71_slices_Cloneint_int_ fv2_).bind fun clone_1=>
  ylM clone_1 (
  some (([]:List (List Int)),fv2_))
 else
  ck ((0:Int)≤at_∧at_<(fv2_.length:Int))<|
  loop1 (m70_reason_lists_1_1_B0 at_ fv0_ fv3_ fv4_) 1000000 (fv2_.set at_.toNat from_)

theorem c70_reason_lists_1_1 {w1:World} {O1:List Nat} {l:Nat} {at_:Int} {from_:Int} {fv0_:Int} {ln_fv2_:Nat} {fv2_:List Int} {fv3_:Int} {fv4_:(Int × Int) × (List Int)→Option (List (List Int) × (List Int))} {p_fv0_:Addr} {p_fv1_:Addr} {p_fv2_:Addr} {bm_fv2_:Nat} {om_fv2_:Obj} {Ca:Nat} {p_fv3_:Addr} {p_fv4_:Addr} (hO1:∀k∈O1,k<w1.heap.size) (Ra:InK .i64 at_) (Rb:InK .i64 from_) (Fa:PtR (rInt .i64) w1 (bm_fv2_::O1) p_fv0_ fv0_) (Fb:PtR (rVal (Value.func (.yield l) #[] #[]) rfl) w1 (bm_fv2_::O1) p_fv1_ ()) (hbl:bm_fv2_ ∉ O1) (hob:w1.heap[bm_fv2_]?=some om_fv2_) (Fc:PtR (rVal (Value.slice (some ⟨bm_fv2_,0,none⟩) ln_fv2_ Ca) rfl) w1 (bm_fv2_::O1) p_fv2_ ()) (hM_fv2_:Ar .i64 3 Ca bm_fv2_ ln_fv2_ om_fv2_ fv2_) (Fd:PtR (rInt .i64) w1 (bm_fv2_::O1) p_fv3_ fv3_) (Fe:PtR (rSbX Try.prog (enc1 (vC (rSl (rInt .i64)))) l (Ar .i64 3 Ca bm_fv2_ ln_fv2_) bm_fv2_ (enc2 (vI .i64) (vI .i64))) w1 (bm_fv2_::O1) p_fv4_ fv4_) {J Jx:JP (List Int)} (hJ:Abides J) (hJx:Abides Jx) {L:List (List Int)} {mz:List Int} (hm:m70_reason_lists_1_1 at_ from_ fv0_ ln_fv2_ fv2_ fv3_ fv4_=some (L,mz)) (hY:YieldsTo Try.prog (enc1 (vC (rSl (rInt .i64)))) L l J Jx) (h0:J [] w1 O1 [bm_fv2_]):
 Fn Try.prog 70 [Iv at_,Iv from_,Value.pointer (some p_fv0_),Value.pointer (some p_fv1_),Value.pointer (some p_fv2_),Value.pointer (some p_fv3_),Value.pointer (some p_fv4_)] w1 fun u w2=>∃O2 o2 m2,bm_fv2_ ∉ O2∧w2.heap[bm_fv2_]?=some o2∧Ar .i64 3 Ca bm_fv2_ ln_fv2_ o2 m2∧((u=.bool true∧m2=mz∧J L w2 O2 [bm_fv2_])∨(u=.bool false∧∃pre,Jx pre w2 O2 [bm_fv2_])):=by
 unfold m70_reason_lists_1_1 at hm
 obtain⟨x,hm,hL⟩:∃x,_=some (x,mz)∧L=[]++x:=⟨L,hm,rfl⟩
 refine Fn_of_Wp (n:=47) (xs:=[.tmp 9]) Try.func70 rfl Try.ntmps70 Try.results70 rfl ?_
 have hs:=St.startW hO1 hbl hob
 have hI:=Itr.startM h0 hbl
 replace Fa:PtR (rInt .i64) w1 (ks [(some bm_fv2_,om_fv2_)] O1) p_fv0_ fv0_:=Fa
 replace Fb:PtR (rVal (Value.func (.yield l) #[] #[]) rfl) w1 (ks [(some bm_fv2_,om_fv2_)] O1) p_fv1_ ():=Fb
 replace Fc:PtR (rVal (Value.slice (some ⟨bm_fv2_,0,none⟩) ln_fv2_ Ca) rfl) w1 (ks [(some bm_fv2_,om_fv2_)] O1) p_fv2_ ():=Fc
 replace Fd:PtR (rInt .i64) w1 (ks [(some bm_fv2_,om_fv2_)] O1) p_fv3_ fv3_:=Fd
 replace Fe:PtR (rSbX Try.prog (enc1 (vC (rSl (rInt .i64)))) l (Ar .i64 3 Ca bm_fv2_ ln_fv2_) bm_fv2_ (enc2 (vI .i64) (vI .i64))) w1 (ks [(some bm_fv2_,om_fv2_)] O1) p_fv4_ fv4_:=Fe
 have fA:=hM_fv2_.2 w1 (ks [(some bm_fv2_,om_fv2_)] O1);have hlA:ln_fv2_=fv2_.length:=hM_fv2_.1.symm
 refine Wb<|Wa<|Asg (Bo false) rfl<|Ri2<|Wb<|Wb<|Wa<|Mve (Iv at_) rfl<|Rop<|ot2 ty3 rfl Fa rfl ?_
 intro v1 h2
 obtain⟨rfl,Rc⟩:=un_int h2
 refine Rop<|op_eql rfl rfl<|Ri2<|Wo2 hm rfl (fun hc4 hm=>?_) (fun hc4 hm=>?_)
 refine Wb ?_
 clear Fa Fd Fe
 refine Wp_drawR (g0:=[]) (m:=3) (fl:=[]) (TS_inv hs) rfl (.inl rfl) rfl (by decide+kernel) ?_  -- 2
 refine Dw_eq (Value.func (.yield l) #[] #[]) (fun ρ5 w6 g hle hi ht=>?_) ?_
 obtain⟨-,hst,-⟩:=hle
 replace Fb:=Fb.step hst
 refine Sj2<|ot2 ty117 (ht 3 rfl) Fb rfl ?_
 intro v8 h9
 obtain rfl:=un_val h9
 exact Gz hi
 refine Dw_eq (Value.slice (some ⟨bm_fv2_,0,none⟩) ln_fv2_ Ca) (fun ρ10 w11 g hle hi ht=>?_) ?_
 obtain⟨-,hst,-⟩:=hle
 replace Fc:=Fc.step hst
 refine Sj2<|ot2 ty31 (ht 4 rfl) Fc rfl ?_
 intro v13 h14
 obtain rfl:=un_val h14
 exact Gz hi
 obtain⟨clone_1,hv18,hm⟩:=bd hm
 refine Dw_op (VD _ _ (vC (rSl (rInt .i64))) clone_1) (VD.stab _ _) (fun ρ15 w16 g hle hi ht=>?_) ?_
 obtain⟨-,hst,-⟩:=hle
 replace fA:=fA.step hst
 have hsn:=(Step.nx hi).1
 refine Sj2<|op_callI (i:=0) Try.call71 hi hsn rfl fA (fun h=>g71_slices_Cloneint_int_ (s:=fv2_) (O:=[]) (by simp) h hv18) (cons2 (eqlen (ht 14 rfl) hlA) rfl) ?_
 rintro v19 w20 hx21 h22;exact Goes.call hi hx21 (show Vr.vd (vC (rSl (rInt .i64))) _ _ _ _ from h22)
 refine Dw_nil fun w27 g28 hl29 hi30=>?_
 obtain⟨-,hst31,-⟩:=hl29
 obtain⟨hs33,p32⟩:=Step.nx hi30
 rintro v34 h35
 replace h35:Vr.vd (vC (rSl (rInt .i64))) _ _ _ _:=h35
 obtain⟨Aa,Cb,rfl,Ff⟩:=un_sl h35
 rintro _ rfl _ rfl
 have p37:=hs.to hs33 (hst31.trans p32)
 replace Ff:=Ff.step p32
 obtain⟨xr38,hm,hL39⟩:=ylM_elim hm
 rw [hL39] at hL
 refine Rop (op_yieldS (pre:=([]:List _)) (a:=clone_1) rfl rfl hY hJ hI hs33 ⟨xr38,by rw [hL];simp⟩ (show(enc1 (vC (rSl (rInt .i64)))) _ _ _ _ from⟨_,rfl,mkC (mk_sl Ff)⟩) ?_ ?_)
 intro w40 O41 hs42 p43 hI44
 clear hs33
 have hL45:L=(([]:List _)++[clone_1])++xr38:=by rw [hL];simp
 refine Asg (Bo true) rfl<|Ri2<|Wp_ret ?_
 have h46:=hI44.finM hJ hs42
 obtain⟨hx47,hx48⟩:=Prod.mk.inj (oi hm)
 rw [← hx47,List.append_nil] at hL45;rw [← hL45] at h46
 have p49:=(p37.trans p43)
 replace fA:=fA.step p49
 exact⟨_,Clo,[Value.bool true],⟨rfl,trivial⟩,_,_,_,h46.2.1,h46.2.2,Ar.of fA hlA.symm,.inl ⟨rfl,hx48,h46.1⟩⟩
 intro w50 O51 hs52 p53 hI54
 clear hs33
 refine Asg (Bo false) rfl<|Ri2<|Wp_ret ?_
 have h55:=hI54.finM hJx hs52
 have p56:=(p37.trans p53)
 replace fA:=fA.step p56
 exact⟨_,Clo,[Value.bool false],⟨rfl,trivial⟩,_,_,_,h55.2.1,h55.2.2,Ar.of fA hlA.symm,.inr ⟨rfl,_,h55.1⟩⟩
 refine Ws2<|Wb<|Wb ?_
 clear Fb
 refine Wa<|Rop<|ot2 ty31 rfl Fc rfl ?_
 intro v57 h58
 obtain rfl:=un_val h58
 refine Mve (Iv at_) rfl<|Mve (Iv from_) rfl ?_
 obtain⟨hc59,hm⟩:=ck_some hm
 refine Rop<|op_indexAddrG ty31 ty3 (eqlen rfl hlA) rfl fA hc59 ?_
 rintro _ ⟨⟩ -
 refine Rg_op_<|op_storeG (vs:=[Iv from_]) (i:=0) (m:=at_) ty3 rfl hs rfl rfl rfl rfl fA hc59 (mk_int Rb) ?_
 intro w61 o64 p62 hs63 f65
 replace f65:Gs _ _ _ _ _ _ (fv2_.set at_.toNat from_) _ _:=f65
 have hl66:ln_fv2_=(fv2_.set at_.toNat from_).length:=by simp only [List.length_set];exact hlA
 refine Ri2<|Wn2<|Wr [] [(0,Iv at_),(2,Value.pointer (some p_fv0_)),(4,Value.pointer (some p_fv2_)),(5,Value.pointer (some p_fv3_)),(6,Value.pointer (some p_fv4_))] fun ξ75=>Wp_loopM q70_0 (fun m fr w'=>∃(arr_1:List Int) (o_g67:Obj) (xr68 pre69:List (List Int)) (wz70:World) (Kz71 Oz72:List Nat) (Ebs:Ents),Ebs=[(some bm_fv2_,o_g67)]∧fr [] []∧hs63.S (ks Ebs Oz72) w'∧St ⟨wz70,Kz71,[]⟩ Oz72 w' Ebs∧Gs (rInt .i64) 3 w' (ks Ebs Oz72) (some ⟨bm_fv2_,0,none⟩) Ca arr_1 (some bm_fv2_) o_g67∧ln_fv2_=arr_1.length∧Itr J pre69 ⟨wz70,Kz71,[]⟩ Oz72∧L=pre69++xr68∧loop1 (m70_reason_lists_1_1_B0 at_ fv0_ fv3_ fv4_) m arr_1=some (xr68,mz)) 1000000 ⟨fv2_.set at_.toNat from_,o64,x,([]:List _),w1,[bm_fv2_],O1,_,rfl,Frm.of trivial,Step.refl _ _,hs63,f65,hl66,hI,hL,hm⟩ ?_ ?_
 rintro _ _ ⟨_,_,_,_,_,_,_,_,_,_,_,_,_,_,_,_,hm⟩;exact loop1_z hm
 rintro m79 K78 hK78 ρ84 w80 ⟨arr_1,o_g67,xr68,pre69,wz70,Kz71,Oz72,_,rfl,hfr83,hst82,hs81,Fg,hl_g67,hI73,hL74,hm⟩
 obtain⟨sf76,hsf77,hm⟩:=loop1_s hm;unfold m70_reason_lists_1_1_B0 at hm
 rw [hfr83.eq];clear hfr83
 have ch85:=hst82
 refine Wb<|Wb ?_
 clear f65
 refine Wp_drawR (g0:=[]) (m:=9) (fl:=[]) (TS_inv hs81) rfl (.inl rfl) rfl (by decide+kernel) ?_  -- 4
 have p91:=(p62.trans hst82)
 replace Fc:=Fc.step p91
 refine Dw_eq (Value.slice (some ⟨bm_fv2_,0,none⟩) ln_fv2_ Ca) (fun ρ86 w87 g hle hi ht=>?_) ?_
 obtain⟨-,hst,-⟩:=hle
 replace Fc:=Fc.step hst
 refine Sj2<|ot2 ty31 (ht 4 rfl) Fc rfl ?_
 intro v89 h90
 obtain rfl:=un_val h90
 exact Gz hi
 refine Dw_p (Iv at_) (fun _ _ _ hi ht=>ok2 (v:=Iv at_) (ht 0 rfl)<|Gz hi) ?_
 obtain⟨hc98,hm⟩:=ck_some hm
 refine Dw_eq (Value.pointer (some ⟨bm_fv2_,at_.toNat*1,none⟩)) (fun ρ95 w96 g hle hi ht=>?_) ?_
 obtain⟨-,hst,-⟩:=hle
 replace Fg:=Fg.step hst
 refine Sj2<|op_indexAddrG ty31 ty3 (eqlen (ht 21 rfl) hl_g67) (ht 22 rfl) Fg hc98 ?_
 rintro _ ⟨⟩ -
 exact Gz hi
 refine Dw_op (VD _ _ (vI .i64) (arr_1.getD at_.toNat default)) (VD.stab _ _) (fun ρ100 w101 g hle hi ht=>?_) ?_
 obtain⟨-,hst,-⟩:=hle
 replace Fg:=Fg.step hst
 have hsn:=(Step.nx hi).1
 refine Sj2<|op_loadG (m:=at_) (i:=0) ty3 rfl hsn rfl (ht 23 rfl) Fg hc98 ?_
 intro v103 h104
 obtain⟨rfl,Rd⟩:=un_int h104
 exact Goes.same hi (show Vr.vd (vI .i64) _ _ _ _ from⟨rfl,Rd⟩)
 replace Fd:=Fd.step p91
 refine Dw_op (VD _ _ (vI .i64) fv3_) (VD.stab _ _) (fun ρ106 w107 g hle hi ht=>?_) ?_
 obtain⟨-,hst,-⟩:=hle
 replace Fd:=Fd.step hst
 refine Sj2<|ot2 ty3 (ht 5 rfl) Fd rfl ?_
 intro v109 h110
 obtain⟨rfl,Re⟩:=un_int h110
 exact Goes.same hi (show Vr.vd (vI .i64) _ _ _ _ from⟨rfl,Re⟩)
 replace Fa:=Fa.step p91
 refine Dw_op (VD _ _ (vI .i64) fv0_) (VD.stab _ _) (fun ρ112 w113 g hle hi ht=>?_) ?_
 obtain⟨-,hst,-⟩:=hle
 replace Fa:=Fa.step hst
 refine Sj2<|ot2 ty3 (ht 2 rfl) Fa rfl ?_
 intro v115 h116
 obtain⟨rfl,Rf⟩:=un_int h116
 exact Goes.same hi (show Vr.vd (vI .i64) _ _ _ _ from⟨rfl,Rf⟩)
 refine Dw_p (Iv at_) (fun _ _ _ hi ht=>ok2 (v:=Iv at_) (ht 0 rfl)<|Gz hi)<|Dw_eq (Iv (IntKind.wrap .i64 (fv0_ - at_))) (fun ρ121 w122 g hle hi ht=>?_) ?_
 have h124:Vr.vd (vI .i64) _ _ _ _:=ht 26 rfl
 obtain⟨q125,Rg⟩:=h124
 exact Sj2<|op_subw q125 (ht 27 rfl)<|Gz hi
 refine Dw_eq (Iv (IntKind.wrap .i64 (fv3_ - (IntKind.wrap .i64 (fv0_ - at_))))) (fun ρ127 w128 g hle hi ht=>?_) ?_
 have h130:Vr.vd (vI .i64) _ _ _ _:=ht 25 rfl
 obtain⟨q131,Rh⟩:=h130
 exact Sj2<|op_subw q131 (ht 28 rfl)<|Gz hi
 refine Dw_nil fun w137 g138 hl139 hi140=>?_
 obtain⟨-,hst141,-⟩:=hl139
 obtain⟨hs143,p142⟩:=Step.nx hi140
 rintro _ rfl _ rfl _ rfl v144 h145
 replace h145:Vr.vd (vI .i64) _ _ _ _:=h145
 obtain⟨rfl,Ri⟩:=h145
 rintro v147 h148
 replace h148:Vr.vd (vI .i64) _ _ _ _:=h148
 obtain⟨rfl,Rj⟩:=h148
 rintro v150 h151
 replace h151:Vr.vd (vI .i64) _ _ _ _:=h151
 obtain⟨rfl,Rk⟩:=h151
 rintro _ rfl _ rfl _ rfl
 have p153:=hs81.to hs143 (hst141.trans p142)
 clear hs81
 refine Rop<|op_leq rfl rfl<|Ri2<|Wo2 hm rfl (fun hc154 hm=>?_) (fun hc154 hm=>?_)
 refine Ws2<|Wb<|Wn2<|Wb<|Wp_drawR (g0:=[]) (m:=8) (fl:=[]) (TS_inv hs143) rfl (.inl rfl) rfl (by decide+kernel) ?_  -- 6
 replace Fe:=Fe.step (p91.trans p153)
 refine Dw_op (VD _ _ (vSbX Try.prog (enc1 (vC (rSl (rInt .i64)))) l (Ar .i64 3 Ca bm_fv2_ ln_fv2_) bm_fv2_ (enc2 (vI .i64) (vI .i64))) fv4_) (VD.stab _ _) (fun ρ155 w156 g hle hi ht=>?_) ?_
 obtain⟨-,hst,-⟩:=hle
 replace Fe:=Fe.step hst
 refine Sj2<|ot2 ty118 (ht 6 rfl) Fe rfl ?_
 intro v158 h159
 have F160:=un_sbX h159;clear h159
 exact Goes.same hi (show Vr.vd (vSbX Try.prog (enc1 (vC (rSl (rInt .i64)))) l (Ar .i64 3 Ca bm_fv2_ ln_fv2_) bm_fv2_ (enc2 (vI .i64) (vI .i64))) _ _ _ _ from F160)
 refine Dw_p (Iv at_) (fun _ _ _ hi ht=>ok2 (v:=Iv at_) (ht 0 rfl)<|Gz hi)<|Dw_p (Iv (IntKind.wrap .i64 (at_+1))) (fun _ _ _ hi ht=>op_addw (ht 38 rfl) rfl<|Gz hi) ?_
 replace Fc:=Fc.step p153
 refine Dw_eq (Value.slice (some ⟨bm_fv2_,0,none⟩) ln_fv2_ Ca) (fun ρ167 w168 g hle hi ht=>?_) ?_
 obtain⟨-,hst,-⟩:=hle
 replace Fc:=Fc.step hst
 refine Sj2<|ot2 ty31 (ht 4 rfl) Fc rfl ?_
 intro v170 h171
 obtain rfl:=un_val h171
 exact Gz hi
 refine Dw_p (Iv at_) (fun _ _ _ hi ht=>ok2 (v:=Iv at_) (ht 0 rfl)<|Gz hi) ?_
 obtain⟨hc178,hm⟩:=ck_some hm
 replace Fg:=Fg.step p153
 refine Dw_eq (Value.pointer (some ⟨bm_fv2_,at_.toNat*1,none⟩)) (fun ρ175 w176 g hle hi ht=>?_) ?_
 obtain⟨-,hst,-⟩:=hle
 replace Fg:=Fg.step hst
 refine Sj2<|op_indexAddrG ty31 ty3 (eqlen (ht 40 rfl) hl_g67) (ht 41 rfl) Fg hc178 ?_
 rintro _ ⟨⟩ -
 exact Gz hi
 refine Dw_op (VD _ _ (vI .i64) (arr_1.getD at_.toNat default)) (VD.stab _ _) (fun ρ180 w181 g hle hi ht=>?_) ?_
 obtain⟨-,hst,-⟩:=hle
 replace Fg:=Fg.step hst
 have hsn:=(Step.nx hi).1
 refine Sj2<|op_loadG (m:=at_) (i:=0) ty3 rfl hsn rfl (ht 42 rfl) Fg hc178 ?_
 intro v183 h184
 obtain⟨rfl,Rl⟩:=un_int h184
 exact Goes.same hi (show Vr.vd (vI .i64) _ _ _ _ from⟨rfl,Rl⟩)
 refine Dw_eq (Iv (IntKind.wrap .i64 ((arr_1.getD at_.toNat default)+1))) (fun ρ186 w187 g hle hi ht=>?_) ?_
 have h189:Vr.vd (vI .i64) _ _ _ _:=ht 43 rfl
 obtain⟨q190,Rm⟩:=h189
 exact Sj2<|op_addw q190 rfl<|Gz hi
 refine Dw_nil fun w196 g197 hl198 hi199=>?_
 obtain⟨-,hst200,-⟩:=hl198
 obtain⟨hs202,p201⟩:=Step.nx hi199
 rintro _ rfl v203 h204
 replace h204:Vr.vd (vI .i64) _ _ _ _:=h204
 obtain⟨rfl,Rn⟩:=h204
 rintro _ rfl _ rfl _ rfl _ rfl _ rfl v206 h207
 replace h207:Vr.vd (vSbX Try.prog (enc1 (vC (rSl (rInt .i64)))) l (Ar .i64 3 Ca bm_fv2_ ln_fv2_) bm_fv2_ (enc2 (vI .i64) (vI .i64))) _ _ _ _:=h207
 have F209:=h207
 replace F209:SubItX Try.prog (enc1 (vC (rSl (rInt .i64)))) l (Ar .i64 3 Ca bm_fv2_ ln_fv2_) bm_fv2_ _ _ v206 (enc2 (vI .i64) (vI .i64)) fv4_:=F209
 have p210:=hs143.to hs202 (hst200.trans p201)
 replace F209:=F209.step p201;clear hs143
 obtain⟨A211,arr_2,xr212,ha213,hm,hL214⟩:=aplM_elim hm
 rw [hL214] at hL74
 replace Fg:=Fg.step p210
 refine Rop (op_subcallX (pre:=pre69) (Lx:=A211) (i:=0) (mp:=arr_1) (mz:=arr_2) rfl F209 rfl enc2_step (show enc2 (vI .i64) (vI .i64) ((IntKind.wrap .i64 (at_+1)),(IntKind.wrap .i64 ((arr_1.getD at_.toNat default)+1))) _ _ _ from⟨_,_,rfl,⟨rfl,(inK_wrap .i64 _)⟩,⟨rfl,(inK_wrap .i64 _)⟩⟩) ha213 hY hJ hJx hI73 hs202 rfl (Ar.of Fg hl_g67.symm) ⟨xr212,by rw [hL74];simp⟩ ?_ ?_)
 intro w215 O216 o217 hs218 p219 hI220 M221
 replace hs218:St ⟨w215,List.filterMap Prod.fst [(some bm_fv2_,o217)],[]⟩ O216 w215 [(some bm_fv2_,o217)]:=hs218
 replace p219:Step (ks [(some bm_fv2_,o_g67)] Oz72) w196 (ks [(some bm_fv2_,o217)] O216) w215:=p219
 clear hs202
 have f223:=M221.2 w215 (ks [(some bm_fv2_,o217)] O216);have hl224:ln_fv2_=arr_2.length:=M221.1.symm;clear M221
 have hL225:L=(pre69++A211)++xr212:=by rw [hL74];simp
 refine Rop<|op_not rfl<|Ri2<|Wp_cond_f rfl<|Ws2 ?_
 clear F209
 refine Wa ?_
 have p228:=(p210.trans p219)
 replace Fc:=Fc.step p228
 refine Rop<|ot2 ty31 rfl Fc rfl ?_
 intro v226 h227
 obtain rfl:=un_val h227
 refine Mve (Iv at_) rfl ?_
 obtain⟨hc229,hm⟩:=ck_some hm
 refine Rop<|op_indexAddrG ty31 ty3 (eqlen rfl hl224) rfl f223 hc229 ?_
 rintro _ ⟨⟩ -
 refine Rop<|op_loadG (m:=at_) (i:=0) ty3 rfl hs218 rfl rfl f223 hc229 ?_
 intro v231 h232
 obtain⟨rfl,Ro⟩:=un_int h232
 refine Rop<|op_addw rfl rfl ?_
 obtain⟨hc234,hm⟩:=ck_some hm
 refine Rop<|op_indexAddrG ty31 ty3 (eqlen rfl hl224) rfl f223 hc234 ?_
 rintro _ ⟨⟩ -
 refine Rg_op_<|op_storeG (vs:=[Iv (IntKind.wrap .i64 ((arr_2.getD at_.toNat default)+1))]) (i:=0) (m:=at_) ty3 rfl hs218 rfl rfl rfl rfl f223 hc234 (mk_int (inK_wrap .i64 _)) ?_
 intro w236 o239 p237 hs238 f240
 replace f240:Gs _ _ _ _ _ _ (arr_2.set at_.toNat (IntKind.wrap .i64 ((arr_2.getD at_.toNat default)+1))) _ _:=f240
 clear hs218
 have hl241:ln_fv2_=(arr_2.set at_.toNat (IntKind.wrap .i64 ((arr_2.getD at_.toNat default)+1))).length:=by simp only [List.length_set];exact hl224
 refine Ri2 ?_
 have p242:=(p153.trans (p210.trans (p219.trans p237)))
 replace ch85:=ch85.trans p242
 exact hK78 _ _ ⟨arr_2.set at_.toNat (IntKind.wrap .i64 ((arr_2.getD at_.toNat default)+1)),o239,xr212,pre69++A211,w215,List.filterMap Prod.fst [(some bm_fv2_,o217)],O216,_,rfl,Frm.of trivial,ch85,hs238,f240,hl241,hI220,hL225,jnE1 hsf77 hm⟩
 intro w243 O244 o245 mp250 _ hs246 p247 hI248 M249
 replace hs246:St ⟨w243,List.filterMap Prod.fst [(some bm_fv2_,o245)],[]⟩ O244 w243 [(some bm_fv2_,o245)]:=hs246
 replace p247:Step (ks [(some bm_fv2_,o_g67)] Oz72) w196 (ks [(some bm_fv2_,o245)] O244) w243:=p247
 clear hs202
 have f251:=M249.2 w243 (ks [(some bm_fv2_,o245)] O244);have hl252:ln_fv2_=mp250.length:=M249.1.symm;clear M249
 refine Rop<|op_not rfl<|Ri2<|Wp_cond_t rfl<|Wb ?_
 clear Fa Fc Fd Fe F209
 refine Wa<|Asg (Bo false) rfl<|Ri2<|Wp_ret ?_
 have h253:=hI248.finM hJx hs246
 exact⟨_,Clo,[Value.bool false],⟨rfl,trivial⟩,_,_,_,h253.2.1,h253.2.2,Ar.of f251 hl252.symm,.inr ⟨rfl,_,h253.1⟩⟩
 refine Wp_exit<|Wb ?_
 clear Fa Fc Fd Fe
 refine Wa<|Asg (Bo true) rfl<|Ri2<|Wp_ret ?_
 have h254:=hI73.finM hJ hs143
 obtain⟨hx255,hx256⟩:=Prod.mk.inj (oi hm)
 rw [← hx255,List.append_nil] at hL74;rw [← hL74] at h254
 replace Fg:=Fg.step p153
 exact⟨_,Clo,[Value.bool true],⟨rfl,trivial⟩,_,_,_,h254.2.1,h254.2.2,Ar.of Fg hl_g67.symm,.inl ⟨rfl,hx256,h254.1⟩⟩

def m69_reason_lists_1 (fv0_:Int) (fv1_:Int):Option (List (List Int)):=
 ck ((0:Int)≤fv0_∧fv0_≤fv0_∧(8:Int)*fv0_≤281474976710656∧fv0_≤281474976710656)<|
 aplI ((fixO (fun fx43 x44=>m70_reason_lists_1_1 x44.1.1 x44.1.2 fv0_ ((List.replicate fv0_.toNat (0:Int)).length) x44.2 fv1_ fx43) 1000000) ((0,0),List.replicate fv0_.toNat (0:Int))) (fun(arr_1:List Int)=>
  some ([]:List (List Int)))

theorem c69_reason_lists_1 {w:World} {O:List Nat} {fv0_:Int} {fv1_:Int} {p_fv0_:Addr} {p_fv1_:Addr} (hO:∀k∈O,k<w.heap.size) (Fa:PtR (rInt .i64) w O p_fv0_ fv0_) (Fb:PtR (rInt .i64) w O p_fv1_ fv1_) {L:List (List Int)} (hm:m69_reason_lists_1 fv0_ fv1_=some L):
 IterF Try.prog w O 69 [Value.pointer (some p_fv0_),Value.pointer (some p_fv1_)] (enc1 (vC (rSl (rInt .i64)))) L:=by
 unfold m69_reason_lists_1 at hm
 obtain⟨x,hm,hL⟩:∃x,_=some x∧L=[]++x:=⟨L,hm,rfl⟩
 intro w1 O1 hst0 hO1 l J Jx hJ hJx hY h0
 refine Fn_of_Wp (n:=11) (xs:=[]) Try.func69 rfl Try.ntmps69 Try.results69 rfl ?_
 have hs:=St.start hO1
 have hI:=Itr.start h0
 refine Wb<|Wa<|Rop<|op_box (cs:=[Value.func (.yield l) #[] #[]]) hs rfl rfl ?_
 intro b1 w2 _ p3 hs4
 refine Ri2<|Wb<|Wa ?_
 have p8:=(hst0.trans p3)
 replace Fa:=Fa.step p8
 refine Rop<|ot2 ty3 rfl Fa rfl ?_
 intro v6 h7
 obtain⟨rfl,Ra⟩:=un_int h7
 obtain⟨hc10,hm⟩:=ck_some hm
 refine Rop<|op_makeSliceI (q:=(rInt .i64)) (v:=Iv 0) (x0:=(0:Int)) ty31 ty3 hs4 rfl rfl hc10 rfl (fun _ _=>(mk_int (show InK .i64 0 from by decide))) ?_
 intro b11 w12 hx16 p13 hs14 f15
 clear hs4
 refine Rop<|op_alloc ty31 hs14 ?_
 intro b18 w19 _ p20 hs21
 clear hs14
 refine Rg_op_<|op_stS (Sl (some ⟨b11,0,none⟩) (List.replicate fv0_.toNat (0:Int)) fv0_.toNat) .z ty31 hs21 rfl rfl rfl rfl ?_
 intro w23 p24 hs25
 clear hs21
 refine Ri2<|Wb<|Wa<|Rop<|op_alloc ty118 hs25 ?_
 intro b26 w27 _ p28 hs29
 clear hs25
 refine Ri2<|Wb<|Wa ?_
 obtain⟨hs32,p33,f31⟩:=St.publishP (p:=rVal (Value.func (.yield l) #[] #[]) rfl) (i:=3) (x:=()) hs29 rfl rfl
 clear hs29
 obtain⟨hs35,p36,f34⟩:=St.publishP (p:=rVal (Sl (some ⟨b11,0,none⟩) (List.replicate fv0_.toNat (0:Int)) fv0_.toNat) rfl) (i:=1) (x:=()) hs32 rfl rfl
 clear hs32
 refine Rop<|op_makeFunc' (a':=[]) (c':=[Value.pointer (some p_fv0_),Value.pointer (some (⟨b1,0,none⟩:Addr)),Value.pointer (some (⟨b18,0,none⟩:Addr)),Value.pointer (some p_fv1_),Pt b26 0]) rfl rfl<|Rg_op_<|op_store (cs:=[Value.nilFunc]) (vs:=[Value.func (.func 70) #[] #[Value.pointer (some p_fv0_),Value.pointer (some (⟨b1,0,none⟩:Addr)),Value.pointer (some (⟨b18,0,none⟩:Addr)),Value.pointer (some p_fv1_),Pt b26 0]]) (cs':=[Value.func (.func 70) #[] #[Value.pointer (some p_fv0_),Value.pointer (some (⟨b1,0,none⟩:Addr)),Value.pointer (some (⟨b18,0,none⟩:Addr)),Value.pointer (some p_fv1_),Pt b26 0]]) (bs':=[(some b26,Oc [Value.func (.func 70) #[] #[Value.pointer (some p_fv0_),Value.pointer (some (⟨b1,0,none⟩:Addr)),Value.pointer (some (⟨b18,0,none⟩:Addr)),Value.pointer (some p_fv1_),Pt b26 0]] 118),(some b11,Obj.cells (List.replicate fv0_.toNat (Iv 0)).toArray 3)]) (i:=0) ty118 hs35 rfl rfl rfl rfl rfl (le_lit rfl) rfl rfl rfl ?_
 intro w37 p38 hs39
 clear hs35
 obtain⟨hs41,p42,f40⟩:=St.publishP (p:=rVal (Value.func (.func 70) #[] #[Value.pointer (some p_fv0_),Value.pointer (some (⟨b1,0,none⟩:Addr)),Value.pointer (some (⟨b18,0,none⟩:Addr)),Value.pointer (some p_fv1_),Pt b26 0]) rfl) (i:=0) (x:=()) hs39 rfl rfl
 clear hs39
 have F45:∀n,SubItX Try.prog (enc1 (vC (rSl (rInt .i64)))) l (Ar .i64 3 fv0_.toNat b11 ((List.replicate fv0_.toNat (0:Int)).length)) b11 w37 (ks [(some b11,Obj.cells (List.replicate fv0_.toNat (Iv 0)).toArray 3)] O1) (Value.func (.func 70) #[] #[Value.pointer (some p_fv0_),Value.pointer (some (⟨b1,0,none⟩:Addr)),Value.pointer (some (⟨b18,0,none⟩:Addr)),Value.pointer (some p_fv1_),Pt b26 0]) (enc2 (vI .i64) (vI .i64)) (fixO (fun fx43 x44=>m70_reason_lists_1_1 x44.1.1 x44.1.2 fv0_ ((List.replicate fv0_.toNat (0:Int)).length) x44.2 fv1_ fx43) n):=by
  refine SubItX.fix (fun fx43 hfx46=>⟨⟨_,_,rfl⟩,?_⟩)
  intro w47 O48 o49 mp50 s51 hb52 ho53 hM54 hO55 J56 Jx57 hJ58 hJx59 v60 x61 L62 mz63 hv64 hfa65 hY66 h67
  obtain⟨v68,v69,rfl,h70,h71⟩:=hv64
  obtain⟨rfl,Rb⟩:=h70
  obtain⟨rfl,Rc⟩:=h71
  replace f31:=f31.step (p36.trans (p38.trans p42))
  replace f34:=f34.step (p38.trans p42)
  replace Fa:=Fa.step (p13.trans (p20.trans (p24.trans (p28.trans (p33.trans (p36.trans (p38.trans p42)))))))
  replace Fb:=Fb.step (p8.trans (p13.trans (p20.trans (p24.trans (p28.trans (p33.trans (p36.trans (p38.trans p42))))))))
  exact⟨70,#[],#[Value.pointer (some p_fv0_),Value.pointer (some (⟨b1,0,none⟩:Addr)),Value.pointer (some (⟨b18,0,none⟩:Addr)),Value.pointer (some p_fv1_),Pt b26 0],rfl,Try.call70,c70_reason_lists_1_1 hO55 Rb Rc (Fa.step s51) (f31.step s51) hb52 ho53 (f34.step s51) hM54 (Fb.step s51) ((f40.step s51).sbX (hfx46.step s51)) hJ58 hJx59 hfa65 hY66 h67⟩
 have f74:=f40.sbX (F45 1000000);clear F45
 refine Ri2 ?_
 clear Fa Fb f31 f34 f40
 refine Wa<|Rop<|ot2 ty118 rfl f74 rfl ?_
 intro v75 h76
 have F77:=un_sbX h76;clear h76
 obtain⟨A78,arr_1,xr79,ha80,hm,hL81⟩:=aplI_elim hm
 rw [hL81] at hL
 replace f15:=f15.step (p20.trans (p24.trans (p28.trans (p33.trans (p36.trans (p38.trans p42))))))
 refine Rop (op_subcallX (pre:=([]:List _)) (Lx:=A78) (i:=0) (mp:=List.replicate fv0_.toNat (0:Int)) (mz:=arr_1) rfl F77 rfl enc2_step (show enc2 (vI .i64) (vI .i64) (0,0) _ _ _ from⟨_,_,rfl,⟨rfl,(show InK .i64 0 from by decide)⟩,⟨rfl,(show InK .i64 0 from by decide)⟩⟩) ha80 hY hJ hJx hI hs41 rfl (Ar.of f15 rfl.symm) ⟨xr79,by rw [hL];simp⟩ ?_ ?_)
 intro w82 O83 o84 hs85 p86 hI87 M88
 replace hs85:St ⟨w82,List.filterMap Prod.fst [(some b11,o84)],[]⟩ O83 w82 [(some b11,o84)]:=hs85
 replace p86:Step (ks [(some b11,Obj.cells (List.replicate fv0_.toNat (Iv 0)).toArray 3)] O1) w37 (ks [(some b11,o84)] O83) w82:=p86
 clear hs41
 have f90:=M88.2 w82 (ks [(some b11,o84)] O83);have hl91:(List.replicate fv0_.toNat (0:Int)).length=arr_1.length:=M88.1.symm;clear M88
 have hL92:L=(([]:List _)++A78)++xr79:=by rw [hL];simp
 refine Ri2 ?_
 have h93:=hI87.fin hJ hs85
 rw [← Option.some.inj hm,List.append_nil] at hL92;rw [← hL92] at h93
 exact⟨_,Clo,[],trivial,_,.inl h93⟩
 intro w94 O95 o96 mp101 _ hs97 p98 hI99 M100
 replace hs97:St ⟨w94,List.filterMap Prod.fst [(some b11,o96)],[]⟩ O95 w94 [(some b11,o96)]:=hs97
 replace p98:Step (ks [(some b11,Obj.cells (List.replicate fv0_.toNat (Iv 0)).toArray 3)] O1) w37 (ks [(some b11,o96)] O95) w94:=p98
 clear hs41
 have f102:=M100.2 w94 (ks [(some b11,o96)] O95);have hl103:(List.replicate fv0_.toNat (0:Int)).length=mp101.length:=M100.1.symm;clear M100
 exact Ri2<|⟨_,Clo,[],trivial,_,.inr ⟨_,hI99.fin hJx hs97⟩⟩

def m45_reason_lists (n:Int) (k:Int):Option (List (List Int)):=
 (m69_reason_lists_1 k n).bind fun l_1=>
 some l_1

theorem c45_reason_lists {w:World} {O:List Nat} {n:Int} {k:Int} (hO:∀k∈O,k<w.heap.size) (Ra:InK .i64 n) (Rb:InK .i64 k) {x:(List (List Int))} (hm:m45_reason_lists n k=some x):
 Ok Try.prog 45 [Iv n,Iv k] w O (vIt Try.prog (enc1 (vC (rSl (rInt .i64))))) x:=by
 unfold m45_reason_lists at hm
 refine Fn_of_Wp (n:=6) (xs:=[.tmp 4]) Try.func45 rfl Try.ntmps45 Try.results45 rfl ?_
 have hs:=St.start hO
 refine Wb<|Wa<|Rop<|op_box (cs:=[Iv n]) hs rfl rfl ?_
 intro b1 w2 _ p3 hs4
 refine Rop<|op_box (cs:=[Iv k]) hs4 rfl rfl ?_
 intro b6 w7 _ p8 hs9
 clear hs4
 refine Asg (Value.nilFunc) rfl<|Ri2<|Wb<|Wa ?_
 obtain⟨hs12,p13,f11⟩:=St.publishP (p:=(rInt .i64)) (i:=0) (x:=k) hs9 rfl (mk_int Rb)
 clear hs9
 obtain⟨hs15,p16,f14⟩:=St.publishP (p:=(rInt .i64)) (i:=0) (x:=n) hs12 rfl (mk_int Ra)
 clear hs12
 refine Rop<|op_makeFunc' (a':=[]) (c':=[Value.pointer (some (⟨b6,0,none⟩:Addr)),Value.pointer (some (⟨b1,0,none⟩:Addr))]) rfl rfl ?_
 obtain⟨l_1,hv17,hm⟩:=bd hm
 replace f11:=f11.step p16
 have F18:ItR Try.prog (enc1 (vC (rSl (rInt .i64)))) w7 (ks [] O) (Value.func (.func 69) #[] #[Value.pointer (some (⟨b6,0,none⟩:Addr)),Value.pointer (some (⟨b1,0,none⟩:Addr))]) l_1:=⟨69,[Value.pointer (some (⟨b6,0,none⟩:Addr)),Value.pointer (some (⟨b1,0,none⟩:Addr))],rfl,Try.call69,c69_reason_lists_1 hs15.ltw f11 f14 hv17⟩
 refine Asg (Value.func (.func 69) #[] #[Value.pointer (some (⟨b6,0,none⟩:Addr)),Value.pointer (some (⟨b1,0,none⟩:Addr))]) rfl<|Ri2<|Wp_ret ?_
 have hz:=step_all hs15
 refine⟨_,Clo,[Value.func (.func 69) #[] #[Value.pointer (some (⟨b6,0,none⟩:Addr)),Value.pointer (some (⟨b1,0,none⟩:Addr))]],⟨rfl,trivial⟩,hs15.ext,?_⟩
 replace F18:=F18.step hz
 exact Vr.eq (a:=vIt Try.prog (enc1 (vC (rSl (rInt .i64))))) (x:=l_1) F18 (oi hm)

abbrev q76_1:List Nat:=[10,11,35,36,37,38,39,40,41,42,43,44,45,46,47,48,49,50,51,52,53,54,55,56,57,58,59,60,61,62,63]

abbrev q76_0:List Nat:=[13,14,70,71,72,73,74,75,76,77,78,79,80,81,82,83,84,85,86,87,88,89,90,91,92,93,94,95,96,97,98]

abbrev q76_2:List Nat:=[7,9,10,11,12,13,14,29,30,31,32,33,34,35,36,37,38,39,40,41,42,43,44,45,46,47,48,49,50,51,52,53,54,55,56,57,58,59,60,61,62,63,64,65,66,67,68,69,70,71,72,73,74,75,76,77,78,79,80,81,82,83,84,85,86,87,88,89,90,91,92,93,94,95,96,97,98,99,100,101]

def m76_reason_table__broken_1_K2 {σ:Type} [DecidableEq σ] (v_1:Int) (sf112:Int→(List (XPlace × Bool))→(List (XPlace × Int))→σ→Option (Bool × (List (XPlace × Bool)) × (List (XPlace × Int)) × σ)) (try_1:Bool × (List (XPlace × Bool)) × (List (XPlace × Int)) × σ) (map_5:List (XPlace × Bool)) (map_6:List (XPlace × Int)):Option (Bool × (List (XPlace × Bool)) × (List (XPlace × Int)) × σ):=
 bif (!try_1.1) then
  some (false,map_5,map_6,try_1.2.2.2)
 else
  sf112 (IntKind.wrap .i64 (v_1+1)) map_5 map_6 try_1.2.2.2

def m76_reason_table__broken_1_B2 {σ:Type} [DecidableEq σ] (t:XTable) (sf224:(List (XPlace × Bool))→(List (XPlace × Int))→Option (Bool × (List (XPlace × Bool)) × (List (XPlace × Int)) × σ)) (xp235:XPlace × Int) (map_5:List (XPlace × Bool)) (map_6:List (XPlace × Int)):Option (Bool × (List (XPlace × Bool)) × (List (XPlace × Int)) × σ):=
 ck ((0:Int)≤xp235.1.leaf∧xp235.1.leaf<(t.p.capacity.length:Int))<|
 ck ((0:Int)≤xp235.1.cell∧xp235.1.cell<((t.p.capacity.getD xp235.1.leaf.toNat default).length:Int))<|
 bif (decide (((mget (mput (mput map_6 xp235.1 ((mget map_6 xp235.1).getD 0)) xp235.1 (IntKind.wrap .i64 (((mget map_6 xp235.1).getD 0) - xp235.2))) xp235.1).getD 0)≤((t.p.capacity.getD xp235.1.leaf.toNat default).getD xp235.1.cell.toNat default))) then
  sf224 (mdel map_5 xp235.1) (mput (mput map_6 xp235.1 ((mget map_6 xp235.1).getD 0)) xp235.1 (IntKind.wrap .i64 (((mget map_6 xp235.1).getD 0) - xp235.2)))
 else
  sf224 map_5 (mput (mput map_6 xp235.1 ((mget map_6 xp235.1).getD 0)) xp235.1 (IntKind.wrap .i64 (((mget map_6 xp235.1).getD 0) - xp235.2)))

def m76_reason_table__broken_1_K1 {σ:Type} [DecidableEq σ] (l:List Int) (t:XTable) (fx:(List Int)→(List (XPlace × Bool))→(List (XPlace × Int))→σ→Option (Bool × (List (XPlace × Bool)) × (List (XPlace × Int)) × σ)) (v_1:Int) (st_1:σ) (sf112:Int→(List (XPlace × Bool))→(List (XPlace × Int))→σ→Option (Bool × (List (XPlace × Bool)) × (List (XPlace × Int)) × σ)) (map_3:List (XPlace × Bool)) (map_4:List (XPlace × Int)):Option (Bool × (List (XPlace × Bool)) × (List (XPlace × Int)) × σ):=
 ck ((0:Int)≤1∧(1:Int)≤(l.length:Int))<|
 (fx ((l.drop 1).take (l.length - 1)) map_3 map_4 st_1).bind fun try_1=>
 mrng2 (m76_reason_table__broken_1_B2 t) (m76_reason_table__broken_1_K2 v_1 sf112 try_1) ((t.uses.getD (l.getD 0 default).toNat default).getD v_1.toNat default) try_1.2.1 try_1.2.2.1

def m76_reason_table__broken_1_B1 {σ:Type} [DecidableEq σ] (t:XTable) (sf142:(List (XPlace × Bool))→(List (XPlace × Int))→Option (Bool × (List (XPlace × Bool)) × (List (XPlace × Int)) × σ)) (xp153:XPlace × Int) (map_3:List (XPlace × Bool)) (map_4:List (XPlace × Int)):Option (Bool × (List (XPlace × Bool)) × (List (XPlace × Int)) × σ):=
 ck ((0:Int)≤xp153.1.leaf∧xp153.1.leaf<(t.p.capacity.length:Int))<|
 ck ((0:Int)≤xp153.1.cell∧xp153.1.cell<((t.p.capacity.getD xp153.1.leaf.toNat default).length:Int))<|
 bif (decide (((t.p.capacity.getD xp153.1.leaf.toNat default).getD xp153.1.cell.toNat default)<((mget (mput (mput map_4 xp153.1 ((mget map_4 xp153.1).getD 0)) xp153.1 (IntKind.wrap .i64 (((mget map_4 xp153.1).getD 0)+xp153.2))) xp153.1).getD 0))) then
  sf142 (mput map_3 xp153.1 true) (mput (mput map_4 xp153.1 ((mget map_4 xp153.1).getD 0)) xp153.1 (IntKind.wrap .i64 (((mget map_4 xp153.1).getD 0)+xp153.2)))
 else
  sf142 map_3 (mput (mput map_4 xp153.1 ((mget map_4 xp153.1).getD 0)) xp153.1 (IntKind.wrap .i64 (((mget map_4 xp153.1).getD 0)+xp153.2)))

def m76_reason_table__broken_1_B0 {σ:Type} [DecidableEq σ] (l:List Int) (t:XTable) (fx:(List Int)→(List (XPlace × Bool))→(List (XPlace × Int))→σ→Option (Bool × (List (XPlace × Bool)) × (List (XPlace × Int)) × σ)) (sf112:Int→(List (XPlace × Bool))→(List (XPlace × Int))→σ→Option (Bool × (List (XPlace × Bool)) × (List (XPlace × Int)) × σ)) (v_1:Int) (map_1:List (XPlace × Bool)) (map_2:List (XPlace × Int)) (st_1:σ):Option (Bool × (List (XPlace × Bool)) × (List (XPlace × Int)) × σ):=
 bif (decide (v_1<((t.uses.getD (l.getD 0 default).toNat default).length:Int))) then
  ck ((0:Int)≤v_1∧v_1<((t.uses.getD (l.getD 0 default).toNat default).length:Int))<|
  mrng2 (m76_reason_table__broken_1_B1 t) (m76_reason_table__broken_1_K1 l t fx v_1 st_1 sf112) ((t.uses.getD (l.getD 0 default).toNat default).getD v_1.toNat default) map_1 map_2
 else
  some (true,map_1,map_2,st_1)

def m76_reason_table__broken_1 {σ:Type} [DecidableEq σ] (l:List Int) (D:List (XPlace × Bool)→σ→Option (Bool × σ)) (bad:List (XPlace × Bool)) (t:XTable) (demand:List (XPlace × Int)) (fx:(List Int)→(List (XPlace × Bool))→(List (XPlace × Int))→σ→Option (Bool × (List (XPlace × Bool)) × (List (XPlace × Int)) × σ)) (s0:σ):Option (Bool × (List (XPlace × Bool)) × (List (XPlace × Int)) × σ):=
 bif (decide ((l.length:Int)=0)) then
  (D bad s0).bind fun done_1=>
  some (done_1.1,bad,demand,done_1.2)
 else
  ck ((0:Int)≤0∧0<(l.length:Int))<|
  ck ((0:Int)≤(l.getD 0 default)∧(l.getD 0 default)<(t.uses.length:Int))<|
  loop4 (m76_reason_table__broken_1_B0 l t fx) ((((t.uses.getD (l.getD 0 default).toNat default).length:Int) - 0).toNat+1) 0 bad demand s0

theorem c76_reason_table__broken_1 {σ:Type} [DecidableEq σ] {w:World} {O:List Nat} {l:List Int} {D:List (XPlace × Bool)→σ→Option (Bool × σ)} {bad:List (XPlace × Bool)} {t:XTable} {demand:List (XPlace × Int)} {fx:(List Int)→(List (XPlace × Bool))→(List (XPlace × Int))→σ→Option (Bool × (List (XPlace × Bool)) × (List (XPlace × Int)) × σ)} {s0:σ} {Aa:Option Addr} {Ca:Nat} {b1 b2:Nat} {o1 o2:Obj} {L1:Ents} {S:Sx σ} {p_done:Addr} {p_bad:Addr} {p_t:Addr} {p_demand:Addr} {p_try:Addr} (hL0:Lend w O ((some b1,o1)::(some b2,o2)::L1)) (Fa:SlR (rInt .i64) w (ks ((some b1,o1)::(some b2,o2)::L1) O) Aa Ca l) (Fb:PtR (rDn Try.prog kXPlace mvB S) w (ks ((some b1,o1)::(some b2,o2)::L1) O) p_done D) (Fc:PtR (rVal (Value.map (some b1)) rfl) w (ks ((some b1,o1)::(some b2,o2)::L1) O) p_bad ()) (Fd:PtR rXTable w (ks ((some b1,o1)::(some b2,o2)::L1) O) p_t t) (Fe:PtR (rVal (Value.map (some b2)) rfl) w (ks ((some b1,o1)::(some b2,o2)::L1) O) p_demand ()) (Ff:PtR (rSbS Try.prog kXPlace mvB kXPlace (mvI .i64) S b1 b2 (vC (rSl (rInt .i64)))) w (ks ((some b1,o1)::(some b2,o2)::L1) O) p_try fx) (hM1:Mo kXPlace mvB o1 bad) (hM2:Mo kXPlace (mvI .i64) o2 demand) (fS:SxR S w (ks ((some b1,o1)::(some b2,o2)::L1) O) L1 s0) {x0:Bool} {y1:List (XPlace × Bool)} {y2:List (XPlace × Int)} {ys:σ} (hm:m76_reason_table__broken_1 l D bad t demand fx s0=some (x0,y1,y2,ys)):
 Fn Try.prog 76 [Sl Aa l Ca,Value.pointer (some p_done),Value.pointer (some p_bad),Value.pointer (some p_t),Value.pointer (some p_demand),Value.pointer (some p_try)] w fun u w2=>∃o1' o2' L2,Back w ((some b1,o1)::(some b2,o2)::L1) w2 O ((some b1,o1')::(some b2,o2')::L2)∧Mo kXPlace mvB o1' y1∧Mo kXPlace (mvI .i64) o2' y2∧SxR S w2 (ks ((some b1,o1')::(some b2,o2')::L2) O) L2 ys∧u=.bool x0:=by
 unfold m76_reason_table__broken_1 at hm
 refine Fn_of_Wp (n:=102) (xs:=[.tmp 7]) Try.func76 rfl Try.ntmps76 Try.results76 rfl ?_
 obtain⟨x,hxm⟩:∃x,x=(x0,y1,y2,ys):=⟨_,rfl⟩
 rw [← hxm] at hm
 have hs:St ⟨w,List.filterMap Prod.fst ((some b1,o1)::(some b2,o2)::L1),[]⟩ O w ((some b1,o1)::(some b2,o2)::L1):=hL0
 have hO:=hs.lt0
 refine Wb<|Wa<|Asg (Bo false) rfl<|Ri2<|Wb<|Wb<|Wa<|Mve (Sl Aa l Ca) rfl<|Rop<|op_len Try.underlying31 rfl ?_
 have rl1:=inK_len Fa
 refine Rop<|op_eql rfl rfl<|Ri2<|Wo2 hm rfl (fun hc2 hm=>?_) (fun hc2 hm=>?_)
 refine Wb ?_
 clear Fa Fd Fe Ff
 refine Wa<|Rop<|ot2 ty101 rfl Fb rfl ?_
 intro v3 h4
 have F5:=un_dn h4;clear h4
 refine Rop<|ot2 ty98 rfl Fc rfl ?_
 intro v6 h7
 obtain rfl:=un_val h7
 obtain⟨done_1,hv8,hm⟩:=bd hm
 refine Rop<|op_doneS (i:=0) (rr:=done_1.1) (s':=done_1.2) [(some b1,o1),(some b2,o2)] L1 hs rfl rfl F5 rfl hM1 fS hv8 ?_
 intro w9 L10 p11 hs12 fS13
 replace p11:Step _ _ (ks ((some b1,o1)::(some b2,o2)::L10) O) w9:=p11
 replace hs12:St ⟨w,List.filterMap Prod.fst ((some b1,o1)::(some b2,o2)::L1),[]⟩ O w9 ((some b1,o1)::(some b2,o2)::L10):=hs12
 replace fS13:SxR S w9 (ks ((some b1,o1)::(some b2,o2)::L10) O) L10 done_1.2:=fS13
 refine Asg (Bo done_1.1) rfl<|Ri2<|Wp_ret ?_
 have hq14:=(oi hm).trans hxm;simp only [Prod.mk.injEq] at hq14;obtain⟨hq15,rfl,rfl,rfl⟩:=hq14
 exact⟨_,Clo,[Bo done_1.1],⟨rfl,trivial⟩,_,_,_,St.backB hs12,hM1,hM2,fS13,congrArg Value.bool hq15⟩
 refine Ws2<|Wb<|Wb ?_
 clear Fb
 refine Wp_drawR (g0:=[]) (m:=9) (fl:=[]) (TS_inv hs) rfl (.inl rfl) rfl (by decide+kernel) ?_  -- 3
 refine Dw_op (VP _ _ (rSl (rSl (rMp kXPlace (mvI .i64)))) t.uses) (VP.stab _ _) (fun ρ16 w17 g hle hi ht=>?_) ?_
 obtain⟨-,hst,-⟩:=hle
 replace Fd:=Fd.step hst
 refine Sj2<|op_fieldAddr ty80 rfl ty78 (by decide) (ht 3 rfl) rfl ?_
 have f19:=Fd.via.snd
 exact Goes.same hi ⟨_,rfl,f19⟩
 refine Dw_op (VD _ _ (vC (rSl (rSl (rMp kXPlace (mvI .i64))))) t.uses) (VD.stab _ _) (fun ρ20 w21 g hle hi ht=>?_) ?_
 obtain⟨p23,q24,f25⟩:=ht 21 rfl
 refine Sj2<|ot2 ty78 q24 f25 rfl ?_
 intro v26 h27
 obtain⟨Ab,Cb,rfl,Fg⟩:=un_sl h27
 exact Goes.same hi (show Vr.vd (vC (rSl (rSl (rMp kXPlace (mvI .i64))))) _ _ _ _ from(mkC (mk_sl Fg)))
 refine Dw_p (Sl Aa l Ca) (fun _ _ _ hi ht=>ok2 (v:=Sl Aa l Ca) (ht 0 rfl)<|Gz hi) ?_
 obtain⟨hc35,hm⟩:=ck_some hm
 refine Dw_op (VP _ _ (rInt .i64) (l.getD 0 default)) (VP.stab _ _) (fun ρ32 w33 g hle hi ht=>?_) ?_
 obtain⟨-,hst,-⟩:=hle
 replace Fa:=Fa.step hst
 refine Sj2<|om2 (q:=(rInt .i64)) ty31 ty3 (ht 23 rfl) rfl Fa rfl hc35.1 hc35.2 ?_
 intro p36 f37
 exact Goes.same hi ⟨_,rfl,f37⟩
 refine Dw_op (VD _ _ (vI .i64) (l.getD 0 default)) (VD.stab _ _) (fun ρ38 w39 g hle hi ht=>?_) ?_
 obtain⟨p41,q42,f43⟩:=ht 24 rfl
 refine Sj2<|ot2 ty3 q42 f43 rfl ?_
 intro v44 h45
 obtain⟨rfl,Ra⟩:=un_int h45
 exact Goes.same hi (show Vr.vd (vI .i64) _ _ _ _ from⟨rfl,Ra⟩)
 obtain⟨hc56,hm⟩:=ck_some hm
 refine Dw_op (VP _ _ (rSl (rMp kXPlace (mvI .i64))) (t.uses.getD (l.getD 0 default).toNat default)) (VP.stab _ _) (fun ρ47 w48 g hle hi ht=>?_) ?_
 have h50:Vr.vd (vI .i64) _ _ _ _:=ht 25 rfl
 obtain⟨q51,Rb⟩:=h50
 have h53:Vr.vd (vC (rSl (rSl (rMp kXPlace (mvI .i64))))) _ _ _ _:=ht 22 rfl
 obtain⟨Ac,Cc,q54,Fh⟩:=un_sl h53
 refine Sj2<|om2 (q:=rSl (rMp kXPlace (mvI .i64))) ty78 ty114 q54 q51 Fh rfl hc56.1 hc56.2 ?_
 intro p57 f58
 exact Goes.same hi ⟨_,rfl,f58⟩
 refine Dw_op (VD _ _ (vC (rSl (rMp kXPlace (mvI .i64)))) (t.uses.getD (l.getD 0 default).toNat default)) (VD.stab _ _) (fun ρ59 w60 g hle hi ht=>?_) ?_
 obtain⟨p62,q63,f64⟩:=ht 26 rfl
 refine Sj2<|ot2 ty114 q63 f64 rfl ?_
 intro v65 h66
 obtain⟨Ad,Cd,rfl,Fi⟩:=un_sl h66
 exact Goes.same hi (show Vr.vd (vC (rSl (rMp kXPlace (mvI .i64)))) _ _ _ _ from(mkC (mk_sl Fi)))
 refine Dw_op (VD _ _ (vI .i64) ((t.uses.getD (l.getD 0 default).toNat default).length:Int)) (VD.stab _ _) (fun ρ68 w69 g hle hi ht=>?_) ?_
 have h71:Vr.vd (vC (rSl (rMp kXPlace (mvI .i64)))) _ _ _ _:=ht 27 rfl
 obtain⟨Ae,Ce,q72,Fj⟩:=un_sl h71
 exact Sj2<|op_len Try.underlying114 q72<|Goes.same hi (show Vr.vd (vI .i64) _ _ _ _ from⟨rfl,inK_len Fj⟩)
 refine Dw_p (Iv 0) (fun _ _ _ hi _=>ok2 (v:=Iv 0) rfl<|Gz hi)<|Dw_nil fun w81 g82 hl83 hi84=>?_
 obtain⟨-,hst85,-⟩:=hl83
 obtain⟨hs87,p86⟩:=Step.nx hi84
 rintro _ rfl v88 h89
 replace h89:Vr.vd (vI .i64) _ _ _ _:=h89
 obtain⟨rfl,Rc⟩:=h89
 rintro v91 h92
 replace h92:Vr.vd (vC (rSl (rMp kXPlace (mvI .i64)))) _ _ _ _:=h92
 obtain⟨Af,Cf,rfl,Fk⟩:=un_sl h92
 rintro _ ⟨p94,rfl,f95⟩ v96 h97
 replace h97:Vr.vd (vI .i64) _ _ _ _:=h97
 obtain⟨rfl,Rd⟩:=h97
 rintro _ ⟨p99,rfl,f100⟩ _ rfl v101 h102
 replace h102:Vr.vd (vC (rSl (rSl (rMp kXPlace (mvI .i64))))) _ _ _ _:=h102
 obtain⟨Ag,Cg,rfl,Fl⟩:=un_sl h102
 rintro _ ⟨p104,rfl,f105⟩
 have p106:=hs.to hs87 (hst85.trans p86)
 replace Fk:=Fk.step p86;replace f95:=f95.step p86;replace f100:=f100.step p86;replace Fl:=Fl.step p86;replace f105:=f105.step p86
 refine Ri2<|Wn2<|Wr [] [(0,Sl Aa l Ca),(2,Value.pointer (some p_bad)),(3,Value.pointer (some p_t)),(4,Value.pointer (some p_demand)),(5,Value.pointer (some p_try)),(27,Sl Af (t.uses.getD (l.getD 0 default).toNat default) Cf),(28,Iv ((t.uses.getD (l.getD 0 default).toNat default).length:Int)),(29,Iv 0)] fun ξ111=>?_
 replace fS:=fS.step p106
 refine Wp_loopM q76_2 (fun m fr w'=>∃(v_1:Int) (map_1:List (XPlace × Bool)) (map_2:List (XPlace × Int)) (st_1:σ) (o_g108:Obj) (o_g109:Obj) (Lt_g110:Ents) (Ebs:Ents),Ebs=((some b1,o_g108)::(some b2,o_g109)::Lt_g110)∧fr [] [(29,Iv v_1)]∧hs87.S (ks Ebs O) w'∧St ⟨w,List.filterMap Prod.fst ((some b1,o1)::(some b2,o2)::L1),[]⟩ O w' Ebs∧InK .i64 v_1∧Mo kXPlace mvB o_g108 map_1∧Mo kXPlace (mvI .i64) o_g109 map_2∧SxR S w' (ks Ebs O) Lt_g110 st_1∧loop4 (m76_reason_table__broken_1_B0 l t fx) m v_1 map_1 map_2 st_1=some x) ((((t.uses.getD (l.getD 0 default).toNat default).length:Int) - 0).toNat+1) ⟨0,bad,demand,s0,o1,o2,L1,_,rfl,Frm.of ⟨rfl,trivial⟩,Step.refl _ _,hs87,(show InK .i64 0 from by decide),hM1,hM2,fS,hm⟩ ?_ ?_
 rintro _ _ ⟨_,_,_,_,_,_,_,_,_,_,_,_,_,_,_,_,hm⟩;exact loop4_z hm
 rintro m115 K114 hK114 ρ120 w116 ⟨v_1,map_1,map_2,st_1,o_g108,o_g109,Lt_g110,_,rfl,hfr119,hst118,hs117,Re,M_g108,M_g109,fS_g110,hm⟩
 obtain⟨sf112,hsf113,hm⟩:=loop4_s hm;unfold m76_reason_table__broken_1_B0 at hm
 rw [hfr119.eq];clear hfr119
 have ch121:=hst118
 refine Wb ?_
 clear fS f95 f100 Fl f105
 refine Wa<|Rop<|op_lss rfl rfl<|Ri2<|Wb<|Wo2 hm rfl (fun hc122 hm=>?_) (fun hc122 hm=>?_)
 refine Ws2<|Wb<|Wn2<|Wb<|Wa ?_
 obtain⟨hc123,hm⟩:=ck_some hm
 replace Fk:=Fk.step hst118
 refine Rop<|om2 (q:=rMp kXPlace (mvI .i64)) ty114 ty115 rfl rfl Fk rfl hc123.1 hc123.2 ?_
 intro p124 f125
 refine Rop<|ot2 ty115 rfl f125 rfl ?_
 intro v126 h127
 have M128:=un_mp h127;clear h127
 refine Asg v126 rfl<|Ri2<|Wb<|Wb ?_
 clear f125
 refine Wa<|Mve v126 rfl<|Rop<|op_rangeM (q:=kXPlace) (m:=(mvI .i64)) Try.underlying115 hs117 M128 rfl ?_
 intro b129 o130 rem131 w132 p133 hs134 f135 hp136
 clear hs117
 refine Ri2<|Wn2<|Wr2 q76_2 [] (updL ⟨ξ111,[]⟩ [(0,Sl Aa l Ca),(2,Value.pointer (some p_bad)),(3,Value.pointer (some p_t)),(4,Value.pointer (some p_demand)),(5,Value.pointer (some p_try)),(27,Sl Af (t.uses.getD (l.getD 0 default).toNat default) Cf),(28,Iv ((t.uses.getD (l.getD 0 default).toNat default).length:Int)),(29,Iv 0)]) [(9,v126),(29,Iv v_1),(34,Pt b129 0)] fun ξ141=>?_
 rw [← mrng2_perm hp136] at hm
 refine Wp_loopM q76_1 (fun m fr w'=>∃(map_3:List (XPlace × Bool)) (map_4:List (XPlace × Int)) (o_g138:Obj) (rem_g138:List (XPlace × Int)) (o_g139:Obj) (o_g140:Obj) (Ebs:Ents),Ebs=((some b129,o_g138)::(some b1,o_g139)::(some b2,o_g140)::Lt_g110)∧fr [] []∧hs134.S (ks Ebs O) w'∧St ⟨w,List.filterMap Prod.fst ((some b1,o1)::(some b2,o2)::L1),[]⟩ O w' Ebs∧MitR kXPlace (mvI .i64) w' (ks Ebs O) v126 o_g138 none rem_g138∧Mo kXPlace mvB o_g139 map_3∧Mo kXPlace (mvI .i64) o_g140 map_4∧rem_g138.length<m∧mrng2 (m76_reason_table__broken_1_B1 t) (m76_reason_table__broken_1_K1 l t fx v_1 st_1 sf112) rem_g138 map_3 map_4=some x) (rem131.length+1) ⟨map_1,map_2,o130,rem131,o_g108,o_g109,_,rfl,Frm.of trivial,Step.refl _ _,hs134,f135.any,M_g108,M_g109,Nat.lt_succ_self _,hm⟩ ?_ ?_
 rintro _ _ ⟨_,_,_,_,_,_,_,_,_,_,_,_,_,_,hl,_⟩;exact absurd hl (Nat.not_lt_zero _)
 rintro m145 K144 hK144 ρ150 w146 ⟨map_3,map_4,o_g138,rem_g138,o_g139,o_g140,_,rfl,hfr149,hst148,hs147,M_g138,M_g139,M_g140,hl152,hm⟩
 rw [hfr149.eq];clear hfr149
 have ch151:=hst148
 refine Wb ?_
 clear f135
 refine Wa<|Rop (op_nextM (q:=kXPlace) (m:=(mvI .i64)) (i:=0) hs147 rfl M_g138 rfl ?_ ?_)
 intro hr154;subst hr154;replace hm:=mrng2_z hm;unfold m76_reason_table__broken_1_K1 at hm
 refine Rop<|op_extract (v:=Bo false) rfl rfl<|Ri2<|Wb<|Wp_cond_f rfl<|Wp_exit<|Wb<|Wp_drawR (g0:=[]) (m:=3) (fl:=[]) (TS_inv hs147) rfl (.inl rfl) rfl (by decide+kernel) ?_  -- 12
 have p170:=(p106.trans (hst118.trans (p133.trans hst148)))
 replace Ff:=Ff.step p170
 refine Dw_op (VD _ _ (vSbS Try.prog kXPlace mvB kXPlace (mvI .i64) S b1 b2 (vC (rSl (rInt .i64)))) fx) (VD.stab _ _) (fun ρ164 w165 g hle hi ht=>?_) ?_
 obtain⟨-,hst,-⟩:=hle
 replace Ff:=Ff.step hst
 refine Sj2<|ot2 ty117 (ht 5 rfl) Ff rfl ?_
 intro v167 h168
 have F169:=un_sbS h168;clear h168
 exact Goes.same hi (show Vr.vd (vSbS Try.prog kXPlace mvB kXPlace (mvI .i64) S b1 b2 (vC (rSl (rInt .i64)))) _ _ _ _ from F169)
 refine Dw_p (Sl Aa l Ca) (fun _ _ _ hi ht=>ok2 (v:=Sl Aa l Ca) (ht 0 rfl)<|Gz hi) ?_
 obtain⟨hc177,hm⟩:=ck_some hm
 replace Fa:=Fa.step p170
 refine Dw_op (VD _ _ (vC (rSl (rInt .i64))) ((l.drop 1).take (l.length - 1))) (VD.stab _ _) (fun ρ174 w175 g hle hi ht=>?_) ?_
 obtain⟨-,hst,-⟩:=hle
 replace Fa:=Fa.step hst
 refine Sj2 (op_slice (q:=(rInt .i64)) (l:=1) (h:=l.length) (m:=Ca) ty31 ty3 (ht 65 rfl) Fa rfl (bndI rfl (by omega)) rfl rfl (by decide) (by omega) (by omega) (by have h_:l.length≤Ca:=Fa.le;omega) (by have h_:l.length≤Ca:=Fa.le;omega) ?_)
 intro a178 f179
 exact Goes.same hi (show Vr.vd (vC (rSl (rInt .i64))) _ _ _ _ from(mkC (mk_sl f179)))
 refine Dw_nil fun w184 g185 hl186 hi187=>?_
 obtain⟨-,hst188,-⟩:=hl186
 obtain⟨hs190,p189⟩:=Step.nx hi187
 rintro v191 h192
 replace h192:Vr.vd (vC (rSl (rInt .i64))) _ _ _ _:=h192
 obtain⟨Ah,Ch,rfl,Fm⟩:=un_sl h192
 rintro _ rfl v194 h195
 replace h195:Vr.vd (vSbS Try.prog kXPlace mvB kXPlace (mvI .i64) S b1 b2 (vC (rSl (rInt .i64)))) _ _ _ _:=h195
 have F197:=h195
 replace F197:SubS Try.prog kXPlace mvB kXPlace (mvI .i64) S b1 b2 _ _ v194 (vC (rSl (rInt .i64))) fx:=F197
 have p198:=hs147.to hs190 (hst188.trans p189)
 replace Fm:=Fm.step p189;replace F197:=F197.step p189;clear hs147
 obtain⟨try_1,hv199,hm⟩:=bd hm
 have p209:=(p133.trans (hst148.trans p198))
 replace fS_g110:=fS_g110.step p209
 refine Rop<|op_callS (rr:=try_1.1) (d1':=try_1.2.1) (d2':=try_1.2.2.1) (s':=try_1.2.2.2) [(some b129,o_g138)] Lt_g110 hs190 rfl rfl F197 M_g139 M_g140 fS_g110 (show Vr.vd (vC (rSl (rInt .i64))) _ _ _ _ from(mkC (mk_sl Fm))) hv199 ?_
 intro w200 o201 o202 L203 p204 hs205 M206 M207 fS208
 replace p204:Step _ _ (ks ((some b129,o_g138)::(some b1,o201)::(some b2,o202)::L203) O) w200:=p204
 replace hs205:St ⟨w,List.filterMap Prod.fst ((some b1,o1)::(some b2,o2)::L1),[]⟩ O w200 ((some b129,o_g138)::(some b1,o201)::(some b2,o202)::L203):=hs205
 replace fS208:SxR S w200 (ks ((some b129,o_g138)::(some b1,o201)::(some b2,o202)::L203) O) L203 try_1.2.2.2:=fS208
 clear hs190
 refine Asg (Bo try_1.1) rfl<|Ri2<|Wb<|Wb ?_
 clear Fm F197
 refine Wa<|Mve v126 rfl ?_
 have p219:=(p209.trans p204)
 replace M128:=M128.step p219
 refine Rop<|op_rangeM (q:=kXPlace) (m:=(mvI .i64)) Try.underlying115 hs205 M128 rfl ?_
 intro b210 o211 rem212 w213 p214 hs215 f216 hp217
 refine Ri2<|Wn2<|Wr2 q76_2 [] (updL ⟨ξ111,[]⟩ [(0,Sl Aa l Ca),(2,Value.pointer (some p_bad)),(3,Value.pointer (some p_t)),(4,Value.pointer (some p_demand)),(5,Value.pointer (some p_try)),(27,Sl Af (t.uses.getD (l.getD 0 default).toNat default) Cf),(28,Iv ((t.uses.getD (l.getD 0 default).toNat default).length:Int)),(29,Iv 0)]) [(12,Bo try_1.1),(29,Iv v_1),(69,Pt b210 0)] fun ξ223=>?_
 rw [← mrng2_perm hp217] at hm
 refine Wp_loopM q76_0 (fun m fr w'=>∃(map_5:List (XPlace × Bool)) (map_6:List (XPlace × Int)) (o_g220:Obj) (rem_g220:List (XPlace × Int)) (o_g221:Obj) (o_g222:Obj) (Ebs:Ents),Ebs=((some b210,o_g220)::(some b129,o_g138)::(some b1,o_g221)::(some b2,o_g222)::L203)∧fr [] []∧hs215.S (ks Ebs O) w'∧St ⟨w,List.filterMap Prod.fst ((some b1,o1)::(some b2,o2)::L1),[]⟩ O w' Ebs∧MitR kXPlace (mvI .i64) w' (ks Ebs O) v126 o_g220 none rem_g220∧Mo kXPlace mvB o_g221 map_5∧Mo kXPlace (mvI .i64) o_g222 map_6∧rem_g220.length<m∧mrng2 (m76_reason_table__broken_1_B2 t) (m76_reason_table__broken_1_K2 v_1 sf112 try_1) rem_g220 map_5 map_6=some x) (rem212.length+1) ⟨try_1.2.1,try_1.2.2.1,o211,rem212,o201,o202,_,rfl,Frm.of trivial,Step.refl _ _,hs215,f216.any,M206,M207,Nat.lt_succ_self _,hm⟩ ?_ ?_
 rintro _ _ ⟨_,_,_,_,_,_,_,_,_,_,_,_,_,_,hl,_⟩;exact absurd hl (Nat.not_lt_zero _)
 rintro m227 K226 hK226 ρ232 w228 ⟨map_5,map_6,o_g220,rem_g220,o_g221,o_g222,_,rfl,hfr231,hst230,hs229,M_g220,M_g221,M_g222,hl234,hm⟩
 rw [hfr231.eq];clear hfr231
 have ch233:=hst230
 refine Wb ?_
 clear M128 f216
 refine Wa<|Rop (op_nextM (q:=kXPlace) (m:=(mvI .i64)) (i:=0) hs229 rfl M_g220 rfl ?_ ?_)
 intro hr236;subst hr236;replace hm:=mrng2_z hm;unfold m76_reason_table__broken_1_K2 at hm
 refine Rop<|op_extract (v:=Bo false) rfl rfl<|Ri2<|Wb<|Wp_cond_f rfl<|Wp_exit<|Wb<|Wa<|Mve (Bo try_1.1) rfl<|Rop<|op_not rfl<|Ri2<|Wo2 hm rfl (fun hc246 hm=>?_) (fun hc246 hm=>?_)
 refine Wb ?_
 clear Fa Fc Fd Fe Ff Fk
 refine Wa<|Asg (Bo false) rfl<|Ri2<|Wp_ret ?_
 have hs247:=hs229.drop 1
 have p248:=(hs229.dropS 1)
 clear hs229
 have hs249:=hs247.drop 0
 have p250:=(hs247.dropS 0)
 clear hs247
 have hq251:=(oi hm).trans hxm;simp only [Prod.mk.injEq] at hq251;obtain⟨hq252,rfl,rfl,rfl⟩:=hq251
 replace fS208:=fS208.step (p214.trans (hst230.trans (p248.trans p250)))
 exact⟨_,Clo,[Bo false],⟨rfl,trivial⟩,_,_,_,St.backB hs249,M_g221,M_g222,fS208,congrArg Value.bool hq252⟩
 refine Ws2<|Wa<|Rop<|op_addw rfl rfl<|Mve (Iv (IntKind.wrap .i64 (v_1+1))) rfl<|Ri2 ?_
 have hs253:=hs229.drop 1
 have p254:=(hs229.dropS 1)
 clear hs229
 have hs255:=hs253.drop 0
 have p256:=(hs253.dropS 0)
 clear hs253
 have p257:=(p219.trans (p214.trans (hst230.trans (p254.trans p256))))
 replace ch121:=ch121.trans p257
 replace fS208:=fS208.step (p214.trans (hst230.trans (p254.trans p256)))
 exact hK114 _ _ ⟨(IntKind.wrap .i64 (v_1+1)),map_5,map_6,try_1.2.2.2,o_g221,o_g222,L203,_,rfl,Frm.of ⟨rfl,trivial⟩,ch121,hs255,(inK_wrap .i64 _),M_g221,M_g222,fS208,jnE4 hsf113 hm⟩
 intro xp235 r237 r238 o239 w240 hr236 p241 hs242 f243 hk244 ho245;subst hr236
 have hl258:(r237++r238).length<m227:=by have:=hl234;simp only [List.length_append,List.length_cons] at this ⊢;omega
 obtain⟨sf224,hsf225,hm⟩:=mrng2_s hm;unfold m76_reason_table__broken_1_B2 at hm
 clear hs229
 obtain⟨hk259,hk260⟩:=hk244
 refine Rop<|op_extract (v:=Bo true) rfl rfl<|Ri2<|Wb<|Wp_cond_t rfl<|Ws2<|Wn2<|Wb ?_
 clear M_g220
 refine Wa<|Rop<|op_entryM (q:=kXPlace) (m:=(mvI .i64)) (i:=0) hs242 rfl f243 rfl<|Rop<|op_extract (v:=Value.agg [Iv xp235.1.leaf,Iv xp235.1.cell].toArray) rfl rfl<|Rop<|op_extract (v:=Iv xp235.2) rfl rfl<|Rop<|op_alloc ty45 hs242 ?_
 intro b261 w262 _ p263 hs264
 clear hs242
 refine Rg_op_<|op_stA .z ty45 hs264 rfl rfl rfl rfl rfl ?_
 intro w266 p267 hs268
 clear hs264
 refine Asg (Iv xp235.2) rfl<|Ri2<|Wb ?_
 have p269:=(p170.trans (p198.trans (p204.trans (p214.trans (hst230.trans (p241.trans (p263.trans p267)))))))
 replace Fe:=Fe.step p269
 refine Wp_drawR (T:=TM kXPlace (mvI .i64) xp235.1 (mput map_6 xp235.1 ((mget map_6 xp235.1).getD 0)) ⟨w,List.filterMap Prod.fst ((some b1,o1)::(some b2,o2)::L1),[]⟩ O ((some b261,Oc [Iv xp235.1.leaf,Iv xp235.1.cell] 45)::(some b210,o239)::(some b129,o_g138)::(some b1,o_g221)::(some b2,o_g222)::L203) 4 b2 5) (g0:=none) (m:=7) (fl:=[]) (TM_inv hs268) rfl (.inl rfl) rfl (by decide+kernel) ?_  -- 16
 refine Dw_eq (Value.map (some b2)) (fun _ w270 g hle hi ht=>?_) ?_
 refine Sj2 (ot2 ty115 (ht 4 rfl) (Fe.step hle.2) rfl ?_);intro v h271;obtain rfl:=un_val h271;exact GoesM.same hi rfl
 refine Dw_eq (Value.agg [Iv xp235.1.leaf,Iv xp235.1.cell].toArray) (fun _ w272 g hle hi ht=>?_) ?_
 rcases g with _ |g
 exact Sj2 (op_loadA (cs:=[Iv xp235.1.leaf,Iv xp235.1.cell]) (vs:=[Iv xp235.1.leaf,Iv xp235.1.cell]) (i:=0) ty45 (show St ⟨w,List.filterMap Prod.fst ((some b1,o1)::(some b2,o2)::L1),[]⟩ O _ ((some b261,Oc [Iv xp235.1.leaf,Iv xp235.1.cell] 45)::(some b210,o239)::(some b129,o_g138)::(some b1,o_g221)::(some b2,o_g222)::L203) from hi) (ht 13 rfl) rfl rfl rfl (GoesM.same hi rfl))
 exact Sj2 (op_loadA (cs:=[Iv xp235.1.leaf,Iv xp235.1.cell]) (vs:=[Iv xp235.1.leaf,Iv xp235.1.cell]) (i:=0) ty45 hi.1 (ht 13 rfl) rfl rfl rfl (GoesM.same hi rfl))
 refine Dw_eq (Iv ((mget map_6 xp235.1).getD 0)) (fun _ w273 g hle hi ht=>?_) ?_
 rcases g with _ |g
 exact Sj2 (op_lookup (q:=kXPlace) (m:=(mvI .i64)) (n:=xp235.1) (z:=0) Try.underlying115 kok45 Try.zeroValue3 (St.get (i:=4) (show St ⟨w,List.filterMap Prod.fst ((some b1,o1)::(some b2,o2)::L1),[]⟩ O _ ((some b261,Oc [Iv xp235.1.leaf,Iv xp235.1.cell] 45)::(some b210,o239)::(some b129,o_g138)::(some b1,o_g221)::(some b2,o_g222)::L203) from hi) rfl) M_g222 (And.intro hk259 hk260) (ht 75 rfl) (ht 76 rfl) (GoesM.same hi rfl))
 exact Sj2 (op_lookup (q:=kXPlace) (m:=(mvI .i64)) (n:=xp235.1) (z:=0) Try.underlying115 kok45 Try.zeroValue3 (St.get (i:=4) hi.1 rfl) hi.2.1 (And.intro hk259 hk260) (ht 75 rfl) (ht 76 rfl) (GoesM.same hi (congrArg (mvI .i64).enc (mput_again _))))
 refine Dw_eq (Iv xp235.2) (fun _ _ _ _ hi ht=>Sj2 (ok2 (v:=Iv xp235.2) (ht 14 rfl) (GoesM.same hi rfl)))<|Dw_eq (Iv (IntKind.wrap .i64 (((mget map_6 xp235.1).getD 0) - xp235.2))) (fun _ _ _ _ hi ht=>Sj2 (op_subw (ht 77 rfl) (ht 78 rfl) (GoesM.same hi rfl)))<|Dw_opN (VE (mvI .i64) ((mget map_6 xp235.1).getD 0)) (VE.stab _) (fun _ w276 g hle hi hk ht=>?_) ?_
 rcases g with _ |g
 refine Sj2 (op_mapEntry (q:=kXPlace) (m:=(mvI .i64)) (n:=xp235.1) (z:=0) (i:=4) Try.underlying115 kok45 Try.zeroValue3 (show InK .i64 0 from by decide) (show St ⟨w,List.filterMap Prod.fst ((some b1,o1)::(some b2,o2)::L1),[]⟩ O _ ((some b261,Oc [Iv xp235.1.leaf,Iv xp235.1.cell] 45)::(some b210,o239)::(some b129,o_g138)::(some b1,o_g221)::(some b2,o_g222)::L203) from hi) rfl M_g222 (ht 75 rfl) (ht 76 rfl) (And.intro hk259 hk260) ?_)
 intro o' s' w' p' hs' M' S';exact GoesM.made p' hs' M' S' ⟨_,rfl,rfl⟩
 exact absurd (List.mem_singleton.2 rfl) hk
 refine Dw_op VE1 VE1.stab (fun ρ278 w277 g hle hi ht=>?_) ?_
 obtain⟨p',rfl,hv'⟩:VE (mvI .i64) ((mget map_6 xp235.1).getD 0) (ρ278 80) w277 g:=ht 80 rfl
 exact Sj2 (op_extract hv' rfl (GoesM.same hi ⟨_,rfl,rfl⟩))
 refine Dw_nil fun w279 g280 hl281 hi282=>?_
 rintro _ ⟨⟨o283,s284⟩,rfl,rfl⟩;rintro _ ⟨_,hq,rfl⟩;cases hq;rintro _ rfl;rintro _ rfl;rintro _ rfl;rintro _ rfl;rintro _ rfl
 obtain⟨hs285,M286,S287⟩:=hi282
 replace hs285:St ⟨w,List.filterMap Prod.fst ((some b1,o1)::(some b2,o2)::L1),[]⟩ O w279 ((some b261,Oc [Iv xp235.1.leaf,Iv xp235.1.cell] 45)::(some b210,o239)::(some b129,o_g138)::(some b1,o_g221)::(some b2,o283)::L203):=hs285
 have p288:Step (ks ((some b261,Oc [Iv xp235.1.leaf,Iv xp235.1.cell] 45)::(some b210,o239)::(some b129,o_g138)::(some b1,o_g221)::(some b2,o_g222)::L203) O) w266 (ks ((some b261,Oc [Iv xp235.1.leaf,Iv xp235.1.cell] 45)::(some b210,o239)::(some b129,o_g138)::(some b1,o_g221)::(some b2,o283)::L203) O) w279:=hl281.2;clear hl281
 clear hs268
 refine Rg_op_<|op_entryStore (q:=kXPlace) (m:=(mvI .i64)) (v:=(IntKind.wrap .i64 (((mget map_6 xp235.1).getD 0) - xp235.2))) (i:=4) (KOk.inj kok45) hs285 rfl M286 S287 rfl rfl rfl rfl (inK_wrap .i64 _) ?_
 intro o289 w290 p291 hs292 M293
 clear hs285
 refine Ri2<|Wb<|Wp_drawR (g0:=[]) (m:=14) (fl:=[]) (TS_inv hs292) rfl (.inl rfl) rfl (by decide+kernel) ?_  -- 17
 replace Fe:=Fe.step (p288.trans p291)
 refine Dw_eq (Value.map (some b2)) (fun ρ294 w295 g hle hi ht=>?_) ?_
 obtain⟨-,hst,-⟩:=hle
 replace Fe:=Fe.step hst
 refine Sj2<|ot2 ty115 (ht 4 rfl) Fe rfl ?_
 intro v297 h298
 obtain rfl:=un_val h298
 exact Gz hi
 refine Dw_p (Value.agg [Iv xp235.1.leaf,Iv xp235.1.cell].toArray) (fun _ _ _ hi ht=>op_ldA 0 ty45 (Step.nx hi).1 (ht 13 rfl) rfl rfl<|Gz hi)<|Dw_p (Iv ((mget (mput (mput map_6 xp235.1 ((mget map_6 xp235.1).getD 0)) xp235.1 (IntKind.wrap .i64 (((mget map_6 xp235.1).getD 0) - xp235.2))) xp235.1).getD 0)) (fun _ _ _ hi ht=>op_lookup (q:=kXPlace) (m:=(mvI .i64)) (n:=xp235.1) (z:=0) Try.underlying115 kok45 Try.zeroValue3 ((Step.nx hi).1.get (i:=4) rfl) M293 (And.intro hk259 hk260) (ht 82 rfl) (ht 83 rfl)<|Gz hi) ?_
 have p309:=(p269.trans (p288.trans p291))
 replace Fd:=Fd.step p309
 refine Dw_op (VP _ _ rXProblem t.p) (VP.stab _ _) (fun ρ305 w306 g hle hi ht=>?_) ?_
 obtain⟨-,hst,-⟩:=hle
 replace Fd:=Fd.step hst
 refine Sj2<|op_fieldAddr ty80 rfl ty26 (by decide) (ht 3 rfl) rfl ?_
 have f308:=Fd.via.fst
 exact Goes.same hi ⟨_,rfl,f308⟩
 refine Dw_op (VP _ _ (rSl (rSl (rInt .i64))) t.p.capacity) (VP.stab _ _) (fun ρ310 w311 g hle hi ht=>?_) ?_
 obtain⟨p313,q314,f315⟩:=ht 85 rfl
 refine Sj2<|op_fieldAddr ty26 rfl ty23 (by decide) q314 rfl ?_
 have f316:=f315.via.snd.fst
 exact Goes.same hi ⟨_,rfl,f316⟩
 refine Dw_op (VD _ _ (vC (rSl (rSl (rInt .i64)))) t.p.capacity) (VD.stab _ _) (fun ρ317 w318 g hle hi ht=>?_) ?_
 obtain⟨p320,q321,f322⟩:=ht 86 rfl
 refine Sj2<|ot2 ty23 q321 f322 rfl ?_
 intro v323 h324
 obtain⟨Ai,Ci,rfl,Fo⟩:=un_sl h324
 exact Goes.same hi (show Vr.vd (vC (rSl (rSl (rInt .i64)))) _ _ _ _ from(mkC (mk_sl Fo)))
 refine Dw_p (Pt b261 0) (fun _ _ _ hi ht=>op2 0 ty45 rfl ty3 (ht 13 rfl) rfl<|Gz hi)<|Dw_p (Iv xp235.1.leaf) (fun _ _ _ hi ht=>oq2 0 ty3 (Step.nx hi).1 (ht 88 rfl) rfl rfl<|Gz hi) ?_
 obtain⟨hc338,hm⟩:=ck_some hm
 refine Dw_op (VP _ _ (rSl (rInt .i64)) (t.p.capacity.getD xp235.1.leaf.toNat default)) (VP.stab _ _) (fun ρ332 w333 g hle hi ht=>?_) ?_
 have h335:Vr.vd (vC (rSl (rSl (rInt .i64)))) _ _ _ _:=ht 87 rfl
 obtain⟨Aj,Cj,q336,Fp⟩:=un_sl h335
 refine Sj2<|om2 (q:=rSl (rInt .i64)) ty23 ty31 q336 (ht 89 rfl) Fp rfl hc338.1 hc338.2 ?_
 intro p339 f340
 exact Goes.same hi ⟨_,rfl,f340⟩
 refine Dw_op (VD _ _ (vC (rSl (rInt .i64))) (t.p.capacity.getD xp235.1.leaf.toNat default)) (VD.stab _ _) (fun ρ341 w342 g hle hi ht=>?_) ?_
 obtain⟨p344,q345,f346⟩:=ht 90 rfl
 refine Sj2<|ot2 ty31 q345 f346 rfl ?_
 intro v347 h348
 obtain⟨Ak,Ck,rfl,Fq⟩:=un_sl h348
 exact Goes.same hi (show Vr.vd (vC (rSl (rInt .i64))) _ _ _ _ from(mkC (mk_sl Fq)))
 refine Dw_p (Pt b261 1) (fun _ _ _ hi ht=>op2 1 ty45 rfl ty3 (ht 13 rfl) rfl<|Gz hi)<|Dw_p (Iv xp235.1.cell) (fun _ _ _ hi ht=>oq2 0 ty3 (Step.nx hi).1 (ht 92 rfl) rfl rfl<|Gz hi) ?_
 obtain⟨hc362,hm⟩:=ck_some hm
 refine Dw_op (VP _ _ (rInt .i64) ((t.p.capacity.getD xp235.1.leaf.toNat default).getD xp235.1.cell.toNat default)) (VP.stab _ _) (fun ρ356 w357 g hle hi ht=>?_) ?_
 have h359:Vr.vd (vC (rSl (rInt .i64))) _ _ _ _:=ht 91 rfl
 obtain⟨Al,Cl,q360,Fr⟩:=un_sl h359
 refine Sj2<|om2 (q:=(rInt .i64)) ty31 ty3 q360 (ht 93 rfl) Fr rfl hc362.1 hc362.2 ?_
 intro p363 f364
 exact Goes.same hi ⟨_,rfl,f364⟩
 refine Dw_op (VD _ _ (vI .i64) ((t.p.capacity.getD xp235.1.leaf.toNat default).getD xp235.1.cell.toNat default)) (VD.stab _ _) (fun ρ365 w366 g hle hi ht=>?_) ?_
 obtain⟨p368,q369,f370⟩:=ht 94 rfl
 refine Sj2<|ot2 ty3 q369 f370 rfl ?_
 intro v371 h372
 obtain⟨rfl,Rf⟩:=un_int h372
 exact Goes.same hi (show Vr.vd (vI .i64) _ _ _ _ from⟨rfl,Rf⟩)
 refine Dw_nil fun w378 g379 hl380 hi381=>?_
 obtain⟨-,hst382,-⟩:=hl380
 obtain⟨hs384,p383⟩:=Step.nx hi381
 rintro v385 h386
 replace h386:Vr.vd (vI .i64) _ _ _ _:=h386
 obtain⟨rfl,Rg⟩:=h386
 rintro _ ⟨p388,rfl,f389⟩ _ rfl _ rfl v390 h391
 replace h391:Vr.vd (vC (rSl (rInt .i64))) _ _ _ _:=h391
 obtain⟨Am,Cm,rfl,Fs⟩:=un_sl h391
 rintro _ ⟨p393,rfl,f394⟩ _ rfl _ rfl v395 h396
 replace h396:Vr.vd (vC (rSl (rSl (rInt .i64)))) _ _ _ _:=h396
 obtain⟨An,Cn,rfl,Ft⟩:=un_sl h396
 rintro _ ⟨p398,rfl,f399⟩ _ ⟨p400,rfl,f401⟩ _ rfl _ rfl _ rfl
 have p402:=hs292.to hs384 (hst382.trans p383)
 replace f389:=f389.step p383;replace Fs:=Fs.step p383;replace f394:=f394.step p383;replace Ft:=Ft.step p383;replace f399:=f399.step p383;replace f401:=f401.step p383;clear hs292
 refine Rop<|op_leq rfl rfl<|Ri2<|Wo2 hm rfl (fun hc403 hm=>?_) (fun hc403 hm=>?_)
 clear f389 Fs f394 Ft f399 f401
 refine Wr2 q76_0 [] (updL (mix q76_2 [] ξ223 (updL ⟨ξ111,[]⟩ [(0,Sl Aa l Ca),(2,Value.pointer (some p_bad)),(3,Value.pointer (some p_t)),(4,Value.pointer (some p_demand)),(5,Value.pointer (some p_try)),(27,Sl Af (t.uses.getD (l.getD 0 default).toNat default) Cf),(28,Iv ((t.uses.getD (l.getD 0 default).toNat default).length:Int)),(29,Iv 0)])) [(12,Bo try_1.1),(29,Iv v_1),(69,Pt b210 0)]) [(13,Pt b261 0)] fun ξ404=>Wa ?_
 replace Fc:=Fc.step (p309.trans p402)
 refine Rop<|ot2 ty98 rfl Fc rfl ?_
 intro v405 h406
 obtain rfl:=un_val h406
 refine Rop<|op_ldA 0 ty45 hs384 rfl rfl rfl<|Rg_op_<|op_delete (q:=kXPlace) (m:=mvB) (n:=xp235.1) (v:=false) (i:=3) Try.underlying98 kok45 hs384 rfl M_g221 rfl rfl (And.intro hk259 hk260) ?_
 intro o407 w408 p409 hs410 M411
 clear hs384
 refine Ri2 ?_
 have hs412:=hs410.drop 0
 have p413:=(hs410.dropS 0)
 clear hs410
 replace ch233:=ch233.trans (p241.trans (p263.trans (p267.trans (p288.trans (p291.trans (p402.trans (p409.trans p413)))))))
 replace f243:=f243.step (p263.trans (p267.trans (p288.trans (p291.trans (p402.trans (p409.trans p413))))))
 exact hK226 _ _ ⟨mdel map_5 xp235.1,mput (mput map_6 xp235.1 ((mget map_6 xp235.1).getD 0)) xp235.1 (IntKind.wrap .i64 (((mget map_6 xp235.1).getD 0) - xp235.2)),o239,r237++r238,o407,o289,_,rfl,Frm.of trivial,ch233,hs412,f243.any,M411,M293,hl258,jnE2 hsf225 hm⟩
 refine Ws2 ?_
 have hs414:=hs384.drop 0
 have p415:=(hs384.dropS 0)
 clear hs384
 replace ch233:=ch233.trans (p241.trans (p263.trans (p267.trans (p288.trans (p291.trans (p402.trans p415))))))
 replace f243:=f243.step (p263.trans (p267.trans (p288.trans (p291.trans (p402.trans p415)))))
 exact hK226 _ _ ⟨map_5,mput (mput map_6 xp235.1 ((mget map_6 xp235.1).getD 0)) xp235.1 (IntKind.wrap .i64 (((mget map_6 xp235.1).getD 0) - xp235.2)),o239,r237++r238,o_g221,o289,_,rfl,Frm.of trivial,ch233,hs414,f243.any,M_g221,M293,hl258,jnE2 hsf225 hm⟩
 intro xp153 r155 r156 o157 w158 hr154 p159 hs160 f161 hk162 ho163;subst hr154
 have hl416:(r155++r156).length<m145:=by have:=hl152;simp only [List.length_append,List.length_cons] at this ⊢;omega
 obtain⟨sf142,hsf143,hm⟩:=mrng2_s hm;unfold m76_reason_table__broken_1_B1 at hm
 clear hs147
 obtain⟨hk417,hk418⟩:=hk162
 refine Rop<|op_extract (v:=Bo true) rfl rfl<|Ri2<|Wb<|Wp_cond_t rfl<|Ws2<|Wn2<|Wb ?_
 clear M_g138
 refine Wa<|Rop<|op_entryM (q:=kXPlace) (m:=(mvI .i64)) (i:=0) hs160 rfl f161 rfl<|Rop<|op_extract (v:=Value.agg [Iv xp153.1.leaf,Iv xp153.1.cell].toArray) rfl rfl<|Rop<|op_extract (v:=Iv xp153.2) rfl rfl<|Rop<|op_alloc ty45 hs160 ?_
 intro b419 w420 _ p421 hs422
 clear hs160
 refine Rg_op_<|op_stA .z ty45 hs422 rfl rfl rfl rfl rfl ?_
 intro w424 p425 hs426
 clear hs422
 refine Asg (Iv xp153.2) rfl<|Ri2<|Wb ?_
 have p427:=(p106.trans (hst118.trans (p133.trans (hst148.trans (p159.trans (p421.trans p425))))))
 replace Fe:=Fe.step p427
 refine Wp_drawR (T:=TM kXPlace (mvI .i64) xp153.1 (mput map_4 xp153.1 ((mget map_4 xp153.1).getD 0)) ⟨w,List.filterMap Prod.fst ((some b1,o1)::(some b2,o2)::L1),[]⟩ O ((some b419,Oc [Iv xp153.1.leaf,Iv xp153.1.cell] 45)::(some b129,o157)::(some b1,o_g139)::(some b2,o_g140)::Lt_g110) 3 b2 5) (g0:=none) (m:=7) (fl:=[]) (TM_inv hs426) rfl (.inl rfl) rfl (by decide+kernel) ?_  -- 9
 refine Dw_eq (Value.map (some b2)) (fun _ w428 g hle hi ht=>?_) ?_
 refine Sj2 (ot2 ty115 (ht 4 rfl) (Fe.step hle.2) rfl ?_);intro v h429;obtain rfl:=un_val h429;exact GoesM.same hi rfl
 refine Dw_eq (Value.agg [Iv xp153.1.leaf,Iv xp153.1.cell].toArray) (fun _ w430 g hle hi ht=>?_) ?_
 rcases g with _ |g
 exact Sj2 (op_loadA (cs:=[Iv xp153.1.leaf,Iv xp153.1.cell]) (vs:=[Iv xp153.1.leaf,Iv xp153.1.cell]) (i:=0) ty45 (show St ⟨w,List.filterMap Prod.fst ((some b1,o1)::(some b2,o2)::L1),[]⟩ O _ ((some b419,Oc [Iv xp153.1.leaf,Iv xp153.1.cell] 45)::(some b129,o157)::(some b1,o_g139)::(some b2,o_g140)::Lt_g110) from hi) (ht 10 rfl) rfl rfl rfl (GoesM.same hi rfl))
 exact Sj2 (op_loadA (cs:=[Iv xp153.1.leaf,Iv xp153.1.cell]) (vs:=[Iv xp153.1.leaf,Iv xp153.1.cell]) (i:=0) ty45 hi.1 (ht 10 rfl) rfl rfl rfl (GoesM.same hi rfl))
 refine Dw_eq (Iv ((mget map_4 xp153.1).getD 0)) (fun _ w431 g hle hi ht=>?_) ?_
 rcases g with _ |g
 exact Sj2 (op_lookup (q:=kXPlace) (m:=(mvI .i64)) (n:=xp153.1) (z:=0) Try.underlying115 kok45 Try.zeroValue3 (St.get (i:=3) (show St ⟨w,List.filterMap Prod.fst ((some b1,o1)::(some b2,o2)::L1),[]⟩ O _ ((some b419,Oc [Iv xp153.1.leaf,Iv xp153.1.cell] 45)::(some b129,o157)::(some b1,o_g139)::(some b2,o_g140)::Lt_g110) from hi) rfl) M_g140 (And.intro hk417 hk418) (ht 40 rfl) (ht 41 rfl) (GoesM.same hi rfl))
 exact Sj2 (op_lookup (q:=kXPlace) (m:=(mvI .i64)) (n:=xp153.1) (z:=0) Try.underlying115 kok45 Try.zeroValue3 (St.get (i:=3) hi.1 rfl) hi.2.1 (And.intro hk417 hk418) (ht 40 rfl) (ht 41 rfl) (GoesM.same hi (congrArg (mvI .i64).enc (mput_again _))))
 refine Dw_eq (Iv xp153.2) (fun _ _ _ _ hi ht=>Sj2 (ok2 (v:=Iv xp153.2) (ht 11 rfl) (GoesM.same hi rfl)))<|Dw_eq (Iv (IntKind.wrap .i64 (((mget map_4 xp153.1).getD 0)+xp153.2))) (fun _ _ _ _ hi ht=>Sj2 (op_addw (ht 42 rfl) (ht 43 rfl) (GoesM.same hi rfl)))<|Dw_opN (VE (mvI .i64) ((mget map_4 xp153.1).getD 0)) (VE.stab _) (fun _ w434 g hle hi hk ht=>?_) ?_
 rcases g with _ |g
 refine Sj2 (op_mapEntry (q:=kXPlace) (m:=(mvI .i64)) (n:=xp153.1) (z:=0) (i:=3) Try.underlying115 kok45 Try.zeroValue3 (show InK .i64 0 from by decide) (show St ⟨w,List.filterMap Prod.fst ((some b1,o1)::(some b2,o2)::L1),[]⟩ O _ ((some b419,Oc [Iv xp153.1.leaf,Iv xp153.1.cell] 45)::(some b129,o157)::(some b1,o_g139)::(some b2,o_g140)::Lt_g110) from hi) rfl M_g140 (ht 40 rfl) (ht 41 rfl) (And.intro hk417 hk418) ?_)
 intro o' s' w' p' hs' M' S';exact GoesM.made p' hs' M' S' ⟨_,rfl,rfl⟩
 exact absurd (List.mem_singleton.2 rfl) hk
 refine Dw_op VE1 VE1.stab (fun ρ436 w435 g hle hi ht=>?_) ?_
 obtain⟨p',rfl,hv'⟩:VE (mvI .i64) ((mget map_4 xp153.1).getD 0) (ρ436 45) w435 g:=ht 45 rfl
 exact Sj2 (op_extract hv' rfl (GoesM.same hi ⟨_,rfl,rfl⟩))
 refine Dw_nil fun w437 g438 hl439 hi440=>?_
 rintro _ ⟨⟨o441,s442⟩,rfl,rfl⟩;rintro _ ⟨_,hq,rfl⟩;cases hq;rintro _ rfl;rintro _ rfl;rintro _ rfl;rintro _ rfl;rintro _ rfl
 obtain⟨hs443,M444,S445⟩:=hi440
 replace hs443:St ⟨w,List.filterMap Prod.fst ((some b1,o1)::(some b2,o2)::L1),[]⟩ O w437 ((some b419,Oc [Iv xp153.1.leaf,Iv xp153.1.cell] 45)::(some b129,o157)::(some b1,o_g139)::(some b2,o441)::Lt_g110):=hs443
 have p446:Step (ks ((some b419,Oc [Iv xp153.1.leaf,Iv xp153.1.cell] 45)::(some b129,o157)::(some b1,o_g139)::(some b2,o_g140)::Lt_g110) O) w424 (ks ((some b419,Oc [Iv xp153.1.leaf,Iv xp153.1.cell] 45)::(some b129,o157)::(some b1,o_g139)::(some b2,o441)::Lt_g110) O) w437:=hl439.2;clear hl439
 clear hs426
 refine Rg_op_<|op_entryStore (q:=kXPlace) (m:=(mvI .i64)) (v:=(IntKind.wrap .i64 (((mget map_4 xp153.1).getD 0)+xp153.2))) (i:=3) (KOk.inj kok45) hs443 rfl M444 S445 rfl rfl rfl rfl (inK_wrap .i64 _) ?_
 intro o447 w448 p449 hs450 M451
 clear hs443
 refine Ri2<|Wb<|Wp_drawR (g0:=[]) (m:=14) (fl:=[]) (TS_inv hs450) rfl (.inl rfl) rfl (by decide+kernel) ?_  -- 10
 replace Fe:=Fe.step (p446.trans p449)
 refine Dw_eq (Value.map (some b2)) (fun ρ452 w453 g hle hi ht=>?_) ?_
 obtain⟨-,hst,-⟩:=hle
 replace Fe:=Fe.step hst
 refine Sj2<|ot2 ty115 (ht 4 rfl) Fe rfl ?_
 intro v455 h456
 obtain rfl:=un_val h456
 exact Gz hi
 refine Dw_p (Value.agg [Iv xp153.1.leaf,Iv xp153.1.cell].toArray) (fun _ _ _ hi ht=>op_ldA 0 ty45 (Step.nx hi).1 (ht 10 rfl) rfl rfl<|Gz hi)<|Dw_p (Iv ((mget (mput (mput map_4 xp153.1 ((mget map_4 xp153.1).getD 0)) xp153.1 (IntKind.wrap .i64 (((mget map_4 xp153.1).getD 0)+xp153.2))) xp153.1).getD 0)) (fun _ _ _ hi ht=>op_lookup (q:=kXPlace) (m:=(mvI .i64)) (n:=xp153.1) (z:=0) Try.underlying115 kok45 Try.zeroValue3 ((Step.nx hi).1.get (i:=3) rfl) M451 (And.intro hk417 hk418) (ht 47 rfl) (ht 48 rfl)<|Gz hi) ?_
 have p467:=(p427.trans (p446.trans p449))
 replace Fd:=Fd.step p467
 refine Dw_op (VP _ _ rXProblem t.p) (VP.stab _ _) (fun ρ463 w464 g hle hi ht=>?_) ?_
 obtain⟨-,hst,-⟩:=hle
 replace Fd:=Fd.step hst
 refine Sj2<|op_fieldAddr ty80 rfl ty26 (by decide) (ht 3 rfl) rfl ?_
 have f466:=Fd.via.fst
 exact Goes.same hi ⟨_,rfl,f466⟩
 refine Dw_op (VP _ _ (rSl (rSl (rInt .i64))) t.p.capacity) (VP.stab _ _) (fun ρ468 w469 g hle hi ht=>?_) ?_
 obtain⟨p471,q472,f473⟩:=ht 50 rfl
 refine Sj2<|op_fieldAddr ty26 rfl ty23 (by decide) q472 rfl ?_
 have f474:=f473.via.snd.fst
 exact Goes.same hi ⟨_,rfl,f474⟩
 refine Dw_op (VD _ _ (vC (rSl (rSl (rInt .i64)))) t.p.capacity) (VD.stab _ _) (fun ρ475 w476 g hle hi ht=>?_) ?_
 obtain⟨p478,q479,f480⟩:=ht 51 rfl
 refine Sj2<|ot2 ty23 q479 f480 rfl ?_
 intro v481 h482
 obtain⟨Ao,Co,rfl,Fu⟩:=un_sl h482
 exact Goes.same hi (show Vr.vd (vC (rSl (rSl (rInt .i64)))) _ _ _ _ from(mkC (mk_sl Fu)))
 refine Dw_p (Pt b419 0) (fun _ _ _ hi ht=>op2 0 ty45 rfl ty3 (ht 10 rfl) rfl<|Gz hi)<|Dw_p (Iv xp153.1.leaf) (fun _ _ _ hi ht=>oq2 0 ty3 (Step.nx hi).1 (ht 53 rfl) rfl rfl<|Gz hi) ?_
 obtain⟨hc496,hm⟩:=ck_some hm
 refine Dw_op (VP _ _ (rSl (rInt .i64)) (t.p.capacity.getD xp153.1.leaf.toNat default)) (VP.stab _ _) (fun ρ490 w491 g hle hi ht=>?_) ?_
 have h493:Vr.vd (vC (rSl (rSl (rInt .i64)))) _ _ _ _:=ht 52 rfl
 obtain⟨Ap,Cp,q494,Fv⟩:=un_sl h493
 refine Sj2<|om2 (q:=rSl (rInt .i64)) ty23 ty31 q494 (ht 54 rfl) Fv rfl hc496.1 hc496.2 ?_
 intro p497 f498
 exact Goes.same hi ⟨_,rfl,f498⟩
 refine Dw_op (VD _ _ (vC (rSl (rInt .i64))) (t.p.capacity.getD xp153.1.leaf.toNat default)) (VD.stab _ _) (fun ρ499 w500 g hle hi ht=>?_) ?_
 obtain⟨p502,q503,f504⟩:=ht 55 rfl
 refine Sj2<|ot2 ty31 q503 f504 rfl ?_
 intro v505 h506
 obtain⟨Aq,Cq,rfl,Fw⟩:=un_sl h506
 exact Goes.same hi (show Vr.vd (vC (rSl (rInt .i64))) _ _ _ _ from(mkC (mk_sl Fw)))
 refine Dw_p (Pt b419 1) (fun _ _ _ hi ht=>op2 1 ty45 rfl ty3 (ht 10 rfl) rfl<|Gz hi)<|Dw_p (Iv xp153.1.cell) (fun _ _ _ hi ht=>oq2 0 ty3 (Step.nx hi).1 (ht 57 rfl) rfl rfl<|Gz hi) ?_
 obtain⟨hc520,hm⟩:=ck_some hm
 refine Dw_op (VP _ _ (rInt .i64) ((t.p.capacity.getD xp153.1.leaf.toNat default).getD xp153.1.cell.toNat default)) (VP.stab _ _) (fun ρ514 w515 g hle hi ht=>?_) ?_
 have h517:Vr.vd (vC (rSl (rInt .i64))) _ _ _ _:=ht 56 rfl
 obtain⟨Ar,Cr,q518,Fx⟩:=un_sl h517
 refine Sj2<|om2 (q:=(rInt .i64)) ty31 ty3 q518 (ht 58 rfl) Fx rfl hc520.1 hc520.2 ?_
 intro p521 f522
 exact Goes.same hi ⟨_,rfl,f522⟩
 refine Dw_op (VD _ _ (vI .i64) ((t.p.capacity.getD xp153.1.leaf.toNat default).getD xp153.1.cell.toNat default)) (VD.stab _ _) (fun ρ523 w524 g hle hi ht=>?_) ?_
 obtain⟨p526,q527,f528⟩:=ht 59 rfl
 refine Sj2<|ot2 ty3 q527 f528 rfl ?_
 intro v529 h530
 obtain⟨rfl,Rh⟩:=un_int h530
 exact Goes.same hi (show Vr.vd (vI .i64) _ _ _ _ from⟨rfl,Rh⟩)
 refine Dw_nil fun w536 g537 hl538 hi539=>?_
 obtain⟨-,hst540,-⟩:=hl538
 obtain⟨hs542,p541⟩:=Step.nx hi539
 rintro v543 h544
 replace h544:Vr.vd (vI .i64) _ _ _ _:=h544
 obtain⟨rfl,Ri⟩:=h544
 rintro _ ⟨p546,rfl,f547⟩ _ rfl _ rfl v548 h549
 replace h549:Vr.vd (vC (rSl (rInt .i64))) _ _ _ _:=h549
 obtain⟨As,Cs,rfl,Fy⟩:=un_sl h549
 rintro _ ⟨p551,rfl,f552⟩ _ rfl _ rfl v553 h554
 replace h554:Vr.vd (vC (rSl (rSl (rInt .i64)))) _ _ _ _:=h554
 obtain⟨At,Ct,rfl,Fz⟩:=un_sl h554
 rintro _ ⟨p556,rfl,f557⟩ _ ⟨p558,rfl,f559⟩ _ rfl _ rfl _ rfl
 have p560:=hs450.to hs542 (hst540.trans p541)
 replace f547:=f547.step p541;replace Fy:=Fy.step p541;replace f552:=f552.step p541;replace Fz:=Fz.step p541;replace f557:=f557.step p541;replace f559:=f559.step p541;clear hs450
 refine Rop<|op_gtr rfl rfl<|Ri2<|Wo2 hm rfl (fun hc561 hm=>?_) (fun hc561 hm=>?_)
 clear f547 Fy f552 Fz f557 f559
 refine Wr2 q76_1 [] (updL (mix q76_2 [] ξ141 (updL ⟨ξ111,[]⟩ [(0,Sl Aa l Ca),(2,Value.pointer (some p_bad)),(3,Value.pointer (some p_t)),(4,Value.pointer (some p_demand)),(5,Value.pointer (some p_try)),(27,Sl Af (t.uses.getD (l.getD 0 default).toNat default) Cf),(28,Iv ((t.uses.getD (l.getD 0 default).toNat default).length:Int)),(29,Iv 0)])) [(9,v126),(29,Iv v_1),(34,Pt b129 0)]) [(10,Pt b419 0)] fun ξ562=>Wa ?_
 have p565:=(p467.trans p560)
 replace Fc:=Fc.step p565
 refine Rop<|ot2 ty98 rfl Fc rfl ?_
 intro v563 h564
 obtain rfl:=un_val h564
 refine Rop<|op_ldA 0 ty45 hs542 rfl rfl rfl<|Rg_op_<|op_mapUpdate (q:=kXPlace) (m:=mvB) (n:=xp153.1) (v:=true) (i:=2) Try.underlying98 kok45 hs542 rfl M_g139 rfl rfl rfl rfl (And.intro hk417 hk418) trivial ?_
 intro o566 w567 p568 hs569 M570
 clear hs542
 refine Ri2 ?_
 have hs571:=hs569.drop 0
 have p572:=(hs569.dropS 0)
 clear hs569
 replace ch151:=ch151.trans (p159.trans (p421.trans (p425.trans (p446.trans (p449.trans (p560.trans (p568.trans p572)))))))
 replace f161:=f161.step (p421.trans (p425.trans (p446.trans (p449.trans (p560.trans (p568.trans p572))))))
 exact hK144 _ _ ⟨mput map_3 xp153.1 true,mput (mput map_4 xp153.1 ((mget map_4 xp153.1).getD 0)) xp153.1 (IntKind.wrap .i64 (((mget map_4 xp153.1).getD 0)+xp153.2)),o157,r155++r156,o566,o447,_,rfl,Frm.of trivial,ch151,hs571,f161.any,M570,M451,hl416,jnE2 hsf143 hm⟩
 refine Ws2 ?_
 have hs573:=hs542.drop 0
 have p574:=(hs542.dropS 0)
 clear hs542
 replace ch151:=ch151.trans (p159.trans (p421.trans (p425.trans (p446.trans (p449.trans (p560.trans p574))))))
 replace f161:=f161.step (p421.trans (p425.trans (p446.trans (p449.trans (p560.trans p574)))))
 exact hK144 _ _ ⟨map_3,mput (mput map_4 xp153.1 ((mget map_4 xp153.1).getD 0)) xp153.1 (IntKind.wrap .i64 (((mget map_4 xp153.1).getD 0)+xp153.2)),o157,r155++r156,o_g139,o447,_,rfl,Frm.of trivial,ch151,hs573,f161.any,M_g139,M451,hl416,jnE2 hsf143 hm⟩
 refine Wp_exit<|Wb ?_
 clear Fa Fc Fd Fe Ff Fk
 refine Wa<|Asg (Bo true) rfl<|Ri2<|Wp_ret ?_
 have hq575:=(oi hm).trans hxm;simp only [Prod.mk.injEq] at hq575;obtain⟨hq576,rfl,rfl,rfl⟩:=hq575
 exact⟨_,Clo,[Bo true],⟨rfl,trivial⟩,_,_,_,St.backB hs117,M_g108,M_g109,fS_g110,congrArg Value.bool hq576⟩

def m49_reason_table__broken {σ:Type} [DecidableEq σ] (t:XTable) (variables:List Int) (D:List (XPlace × Bool)→σ→Option (Bool × σ)) (s0:σ):Option σ:=
 ((fix4 (fun fx63 x64 d65 d66 s67=>m76_reason_table__broken_1 x64 D d65 t d66 fx63 s67) 1000000) variables ([]:List (XPlace × Bool)) ([]:List (XPlace × Int)) s0).bind fun try_1=>
 some try_1.2.2.2

theorem c49_reason_table__broken {σ:Type} [DecidableEq σ] {w:World} {O:List Nat} {t:XTable} {variables:List Int} {D:List (XPlace × Bool)→σ→Option (Bool × σ)} {s0:σ} {Aa:Option Addr} {Ca:Nat} {Ab:Option Addr} {Cb:Nat} {Ac:Option Addr} {Cc:Nat} {Ad:Option Addr} {Cd:Nat} {Ae:Option Addr} {Ce:Nat} {v_done:Value} {L1:Ents} {S:Sx σ} (hL0:Lend w O L1) (Fa:SlR rXCell w (ks L1 O) Aa Ca t.p.cells) (Fb:SlR (rSl (rInt .i64)) w (ks L1 O) Ab Cb t.p.capacity) (Fc:SlR rXVariable w (ks L1 O) Ac Cc t.p.variables) (Fd:SlR (rSl (rMp kXPlace (mvI .i64))) w (ks L1 O) Ad Cd t.uses) (Fe:SlR (rInt .i64) w (ks L1 O) Ae Ce variables) (Ff:DoneS Try.prog kXPlace mvB S w (ks L1 O) v_done D) (fS:SxR S w (ks L1 O) L1 s0) {x:σ} (hm:m49_reason_table__broken t variables D s0=some x):
 OkL Try.prog 49 [Value.agg [Sl Aa t.p.cells Ca,Sl Ab t.p.capacity Cb,Sl Ac t.p.variables Cc,Sl Ad t.uses Cd].toArray,Sl Ae variables Ce,v_done] w O L1 vU () (fun w' L'=>SxR S w' (ks L' O) L' x):=by
 unfold m49_reason_table__broken at hm
 refine Fn_of_Wp (n:=15) (xs:=[]) Try.func49 rfl Try.ntmps49 Try.results49 rfl ?_
 have hs:St ⟨w,List.filterMap Prod.fst L1,[]⟩ O w L1:=hL0
 have hO:=hs.lt0
 refine Wb<|Wa<|Rop<|op_box (cs:=[Sl Aa t.p.cells Ca,Sl Ab t.p.capacity Cb,Sl Ac t.p.variables Cc,Sl Ad t.uses Cd]) hs rfl rfl ?_
 intro b1 w2 _ p3 hs4
 replace Ff:=Ff.step p3
 refine Rop<|op_box (cs:=[v_done]) hs4 (show ev _ _=v_done from rfl) Ff.cells ?_
 intro b6 w7 _ p8 hs9
 clear hs4
 refine Ri2<|Wb<|Wa<|Rop<|op_makeMap hs9 ?_
 intro b11 w12 p13 hs14
 clear hs9
 have M15:Mo kXPlace (mvI .i64) (Obj.map #[] 0) ([]:List (XPlace × Int)):=Mo.nil_
 refine Rop<|op_makeMap hs14 ?_
 intro b17 w18 p19 hs20
 clear hs14
 have M21:Mo kXPlace mvB (Obj.map #[] 0) ([]:List (XPlace × Bool)):=Mo.nil_
 refine Rop<|op_alloc ty115 hs20 ?_
 intro b23 w24 _ p25 hs26
 clear hs20
 refine Rop<|op_alloc ty98 hs26 ?_
 intro b28 w29 _ p30 hs31
 clear hs26
 refine Rg_op_<|op_stS (Value.map (some b11)) Put.p1 ty115 hs31 rfl rfl rfl rfl ?_
 intro w33 p34 hs35
 clear hs31
 refine Rg_op_<|op_stS (Value.map (some b17)) .z ty98 hs35 rfl rfl rfl rfl ?_
 intro w36 p37 hs38
 clear hs35
 refine Ri2<|Wb<|Wa<|Rop<|op_alloc ty117 hs38 ?_
 intro b39 w40 _ p41 hs42
 clear hs38
 refine Ri2<|Wb<|Wa ?_
 replace Ff:=Ff.step (p8.trans (p13.trans (p19.trans (p25.trans (p30.trans (p34.trans (p37.trans p41)))))))
 obtain⟨hs45,p46,f44⟩:=St.publishP (p:=rDn Try.prog kXPlace mvB S) (i:=5) (x:=D) hs42 rfl (mk_dn Ff)
 clear hs42
 obtain⟨hs48,p49,f47⟩:=St.publishP (p:=rVal (Value.map (some b17)) rfl) (i:=1) (x:=()) hs45 rfl rfl
 clear hs45
 have p53:=(p3.trans (p8.trans (p13.trans (p19.trans (p25.trans (p30.trans (p34.trans (p37.trans (p41.trans (p46.trans p49))))))))))
 replace Fb:=Fb.step p53;replace Fa:=Fa.step p53;replace Fc:=Fc.step p53;replace Fd:=Fd.step p53
 obtain⟨hs51,p52,f50⟩:=St.publishP (p:=rXTable) (i:=4) (x:=t) hs48 rfl (mkVia (mk_pair (mkVia (mk_pair (mk_sl Fa) (mk_pair (mk_sl Fb) (mk_sl Fc)))) (mk_sl Fd)))
 clear hs48
 obtain⟨hs55,p56,f54⟩:=St.publishP (p:=rVal (Value.map (some b11)) rfl) (i:=1) (x:=()) hs51 rfl rfl
 clear hs51
 refine Rop<|op_makeFunc' (a':=[]) (c':=[Value.pointer (some (⟨b6,0,none⟩:Addr)),Value.pointer (some (⟨b28,0,none⟩:Addr)),Value.pointer (some (⟨b1,0,none⟩:Addr)),Value.pointer (some (⟨b23,0,none⟩:Addr)),Pt b39 0]) rfl rfl<|Rg_op_<|op_store (cs:=[Value.nilFunc]) (vs:=[Value.func (.func 76) #[] #[Value.pointer (some (⟨b6,0,none⟩:Addr)),Value.pointer (some (⟨b28,0,none⟩:Addr)),Value.pointer (some (⟨b1,0,none⟩:Addr)),Value.pointer (some (⟨b23,0,none⟩:Addr)),Pt b39 0]]) (cs':=[Value.func (.func 76) #[] #[Value.pointer (some (⟨b6,0,none⟩:Addr)),Value.pointer (some (⟨b28,0,none⟩:Addr)),Value.pointer (some (⟨b1,0,none⟩:Addr)),Value.pointer (some (⟨b23,0,none⟩:Addr)),Pt b39 0]]) (bs':=(some b39,Oc [Value.func (.func 76) #[] #[Value.pointer (some (⟨b6,0,none⟩:Addr)),Value.pointer (some (⟨b28,0,none⟩:Addr)),Value.pointer (some (⟨b1,0,none⟩:Addr)),Value.pointer (some (⟨b23,0,none⟩:Addr)),Pt b39 0]] 117)::(some b17,Obj.map #[] 0)::(some b11,Obj.map #[] 0)::L1) (i:=0) ty117 hs55 rfl rfl rfl rfl rfl (le_lit rfl) rfl rfl rfl ?_
 intro w57 p58 hs59
 clear hs55
 obtain⟨hs61,p62,f60⟩:=St.publishP (p:=rVal (Value.func (.func 76) #[] #[Value.pointer (some (⟨b6,0,none⟩:Addr)),Value.pointer (some (⟨b28,0,none⟩:Addr)),Value.pointer (some (⟨b1,0,none⟩:Addr)),Value.pointer (some (⟨b23,0,none⟩:Addr)),Pt b39 0]) rfl) (i:=0) (x:=()) hs59 rfl rfl
 clear hs59
 have F68:∀n,SubS Try.prog kXPlace mvB kXPlace (mvI .i64) S b17 b11 w57 (ks ((some b17,Obj.map #[] 0)::(some b11,Obj.map #[] 0)::L1) O) (Value.func (.func 76) #[] #[Value.pointer (some (⟨b6,0,none⟩:Addr)),Value.pointer (some (⟨b28,0,none⟩:Addr)),Value.pointer (some (⟨b1,0,none⟩:Addr)),Value.pointer (some (⟨b23,0,none⟩:Addr)),Pt b39 0]) (vC (rSl (rInt .i64))) (fix4 (fun fx63 x64 d65 d66 s67=>m76_reason_table__broken_1 x64 D d65 t d66 fx63 s67) n):=by
  refine SubS.fix (fun fx63 hfx90=>⟨⟨_,_,rfl⟩,?_⟩)
  intro w69 O70 o71 o72 L73 v74 x75 d76 d77 s78 r79 d80 d81 s82 p83 hL84 hM85 hM86 hS87 hv88 hfa89
  obtain⟨Af,Cf,rfl,Fg⟩:=un_sl hv88
  replace f44:=f44.step (p49.trans (p52.trans (p56.trans (p58.trans p62))))
  have p92:=(p52.trans (p56.trans (p58.trans p62)))
  replace f47:=f47.step p92
  replace f50:=f50.step (p56.trans (p58.trans p62))
  replace f54:=f54.step (p58.trans p62)
  exact⟨76,#[],#[Value.pointer (some (⟨b6,0,none⟩:Addr)),Value.pointer (some (⟨b28,0,none⟩:Addr)),Value.pointer (some (⟨b1,0,none⟩:Addr)),Value.pointer (some (⟨b23,0,none⟩:Addr)),Pt b39 0],rfl,Try.call76,c76_reason_table__broken_1 hL84 Fg (f44.step p83) (f47.step p83) (f50.step p83) (f54.step p83) ((f60.step p83).sbS (hfx90.step p83)) hM85 hM86 hS87 hfa89⟩
 have f93:=f60.sbS (F68 1000000);clear F68
 refine Ri2 ?_
 clear Fa Fb Fc Fd Ff f44 f47 f50 f54 f60
 refine Wa<|Rop<|ot2 ty117 rfl f93 rfl ?_
 intro v94 h95
 have F96:=un_sbS h95;clear h95
 refine Mve (Sl Ae variables Ce) rfl ?_
 obtain⟨try_1,hv97,hm⟩:=bd hm
 have p107:=(p53.trans (p52.trans (p56.trans (p58.trans p62))))
 replace fS:=fS.step p107;replace Fe:=Fe.step p107
 refine Rop<|op_callS (rr:=try_1.1) (d1':=try_1.2.1) (d2':=try_1.2.2.1) (s':=try_1.2.2.2) [] L1 hs61 rfl rfl F96 M21 M15 fS (show Vr.vd (vC (rSl (rInt .i64))) _ _ _ _ from(mkC (mk_sl Fe))) hv97 ?_
 intro w98 o99 o100 L101 p102 hs103 M104 M105 fS106
 replace p102:Step _ _ (ks ((some b17,o99)::(some b11,o100)::L101) O) w98:=p102
 replace hs103:St ⟨w,List.filterMap Prod.fst L1,[]⟩ O w98 ((some b17,o99)::(some b11,o100)::L101):=hs103
 replace fS106:SxR S w98 (ks ((some b17,o99)::(some b11,o100)::L101) O) L101 try_1.2.2.2:=fS106
 clear hs61
 refine Ri2 ?_
 have hs108:=hs103.drop 1
 have p109:=(hs103.dropS 1)
 clear hs103
 have hs110:=hs108.drop 0
 have p111:=(hs108.dropS 0)
 clear hs108
 replace fS106:=fS106.step (p109.trans p111)
 exact⟨_,Clo,[],trivial,_,St.backB hs110,(oi hm) ▸ fS106,rfl⟩

def m67_reason_table__proofs_1_K0 (bad:List (XPlace × Bool)) (fv1_:XProof) (map_1:List (XPlace × Bool)):Option (Bool × Bool × XProof):=
 ck ((fv1_.bad.length+[map_1].length)*8≤140737488355328)<|
 some (decide (0<(bad.length:Int)),decide (0<(bad.length:Int)),(⟨fv1_.variables,fv1_.bad++[map_1]⟩:XProof))

def m67_reason_table__proofs_1_B0 (sf24:(List (XPlace × Bool))→Option (Bool × Bool × XProof)) (xp35:XPlace × Bool) (map_1:List (XPlace × Bool)):Option (Bool × Bool × XProof):=
 sf24 (mput map_1 xp35.1 true)

def m67_reason_table__proofs_1 (bad:List (XPlace × Bool)) (fv0_:Bool) (fv1_:XProof):Option (Bool × Bool × XProof):=
 ck (bad.length<9223372036854775808)<|
 bif (decide (0<(bad.length:Int))) then
  mrng1 m67_reason_table__proofs_1_B0 (m67_reason_table__proofs_1_K0 bad fv1_) bad ([]:List (XPlace × Bool))
 else
  some (decide (0<(bad.length:Int)),decide (0<(bad.length:Int)),fv1_)

theorem c67_reason_table__proofs_1 {w:World} {O:List Nat} {bad:List (XPlace × Bool)} {fv0_:Bool} {fv1_:XProof} {bm_bad:Nat} {om_bad:Obj} {b_fv0_:Nat} {b_fv1_:Nat} {Aa:Option Addr} {Ca:Nat} {Ab:Option Addr} {Cb:Nat} {kk_fv1__bad:Option Nat} {o_fv1__bad:Obj} (hL0:Lend w O [(some b_fv0_,Oc [Bo fv0_] 4),(some b_fv1_,Oc [Sl Aa fv1_.variables Ca,Sl Ab fv1_.bad Cb] 86),(kk_fv1__bad,o_fv1__bad),(some bm_bad,om_bad)]) (Fa:SlR (rInt .i64) w (ks [(some b_fv0_,Oc [Bo fv0_] 4),(some b_fv1_,Oc [Sl Aa fv1_.variables Ca,Sl Ab fv1_.bad Cb] 86),(kk_fv1__bad,o_fv1__bad),(some bm_bad,om_bad)] O) Aa Ca fv1_.variables) (Fb:Gs (rMp kXPlace mvB) 98 w (ks [(some b_fv0_,Oc [Bo fv0_] 4),(some b_fv1_,Oc [Sl Aa fv1_.variables Ca,Sl Ab fv1_.bad Cb] 86),(kk_fv1__bad,o_fv1__bad),(some bm_bad,om_bad)] O) Ab Cb fv1_.bad kk_fv1__bad o_fv1__bad) (hM_bad:Mo kXPlace mvB om_bad bad) {x0:Bool} {y_fv0_:Bool} {y_fv1_:XProof} (hm:m67_reason_table__proofs_1 bad fv0_ fv1_=some (x0,y_fv0_,y_fv1_)):
 OkL Try.prog 67 [Value.map (some bm_bad),Pt b_fv0_ 0,Pt b_fv1_ 0] w O [(some b_fv0_,Oc [Bo fv0_] 4),(some b_fv1_,Oc [Sl Aa fv1_.variables Ca,Sl Ab fv1_.bad Cb] 86),(kk_fv1__bad,o_fv1__bad),(some bm_bad,om_bad)] vB x0 (fun w' L'=>∃(Ac:Option Addr) (Cc:Nat) (Ad:Option Addr) (Cd:Nat) (kk_qfv1__bad:Option Nat) (o_qfv1__bad:Obj),L'=[(some b_fv0_,Obj.cells [Bo y_fv0_].toArray 4),(some b_fv1_,Obj.cells [Sl Ac y_fv1_.variables Cc,Sl Ad y_fv1_.bad Cd].toArray 86),(kk_qfv1__bad,o_qfv1__bad),(some bm_bad,om_bad)]∧SlR (rInt .i64) w' (ks L' O) Ac Cc y_fv1_.variables∧Gs (rMp kXPlace mvB) 98 w' (ks L' O) Ad Cd y_fv1_.bad kk_qfv1__bad o_qfv1__bad):=by
 unfold m67_reason_table__proofs_1 at hm
 refine Fn_of_Wp (n:=27) (xs:=[.tmp 4]) Try.func67 rfl Try.ntmps67 Try.results67 rfl ?_
 obtain⟨x,hxm⟩:∃x,x=(x0,y_fv0_,y_fv1_):=⟨_,rfl⟩
 rw [← hxm] at hm
 have hs:St ⟨w,List.filterMap Prod.fst [(some b_fv0_,Oc [Bo fv0_] 4),(some b_fv1_,Oc [Sl Aa fv1_.variables Ca,Sl Ab fv1_.bad Cb] 86),(kk_fv1__bad,o_fv1__bad),(some bm_bad,om_bad)],[]⟩ O w [(some b_fv0_,Oc [Bo fv0_] 4),(some b_fv1_,Oc [Sl Aa fv1_.variables Ca,Sl Ab fv1_.bad Cb] 86),(kk_fv1__bad,o_fv1__bad),(some bm_bad,om_bad)]:=hL0
 have hO:=hs.lt0
 refine Wb<|Wa<|Asg (Bo false) rfl<|Ri2<|Wb<|Wb<|Wa<|Mve (Value.map (some bm_bad)) rfl<|Rop<|op_lenO (q:=kXPlace) (m:=mvB) (i:=3) Try.underlying98 hs rfl hM_bad rfl ?_
 obtain⟨hc1,hm⟩:=ck_some hm
 refine Rop<|op_gtr rfl rfl<|Rg_op_<|op_stS (Bo (decide (0<(bad.length:Int)))) .z ty4 hs rfl rfl rfl rfl ?_
 intro w2 p3 hs4
 refine Ri2<|Wb<|Wa<|Rop<|oq2 0 ty4 hs4 rfl rfl rfl<|Ri2<|Wo2 hm rfl (fun hc5 hm=>?_) (fun hc5 hm=>?_)
 refine Wb<|Wa<|Rop<|op_makeMap hs4 ?_
 intro b6 w7 p8 hs9
 clear hs4
 have M10:Mo kXPlace mvB (Obj.map #[] 0) ([]:List (XPlace × Bool)):=Mo.nil_
 refine Asg (Value.map (some b6)) rfl<|Ri2<|Wb<|Wb<|Wa<|Mve (Value.map (some bm_bad)) rfl<|Rop<|op_rangeO (q:=kXPlace) (m:=mvB) (i:=4) Try.underlying98 hs9 rfl hM_bad rfl ?_
 intro b12 o13 rem14 w15 p16 hs17 f18 hp19
 clear hs9
 refine Ri2<|Wn2<|Wr [] [(1,Pt b_fv0_ 0),(2,Pt b_fv1_ 0),(5,Value.map (some b6)),(13,Pt b12 0)] fun ξ23=>?_
 rw [← mrng1_perm hp19] at hm
 refine Wp_loopM [6,14,15,16,17,18,19] (fun m fr w'=>∃(map_1:List (XPlace × Bool)) (o_g21:Obj) (rem_g21:List (XPlace × Bool)) (o_g22:Obj) (Ebs:Ents),Ebs=[(some b12,o_g21),(some b6,o_g22),(some b_fv0_,Oc [Bo (decide (0<(bad.length:Int)))] 4),(some b_fv1_,Oc [Sl Aa fv1_.variables Ca,Sl Ab fv1_.bad Cb] 86),(kk_fv1__bad,o_fv1__bad),(some bm_bad,om_bad)]∧fr [] []∧hs17.S (ks Ebs O) w'∧St ⟨w,List.filterMap Prod.fst [(some b_fv0_,Oc [Bo fv0_] 4),(some b_fv1_,Oc [Sl Aa fv1_.variables Ca,Sl Ab fv1_.bad Cb] 86),(kk_fv1__bad,o_fv1__bad),(some bm_bad,om_bad)],[]⟩ O w' Ebs∧Mit kXPlace mvB om_bad o_g21 bm_bad none rem_g21∧Mo kXPlace mvB o_g22 map_1∧rem_g21.length<m∧mrng1 m67_reason_table__proofs_1_B0 (m67_reason_table__proofs_1_K0 bad fv1_) rem_g21 map_1=some x) (rem14.length+1) ⟨([]:List (XPlace × Bool)),o13,rem14,Obj.map #[] 0,_,rfl,Frm.of trivial,Step.refl _ _,hs17,f18.any,M10,Nat.lt_succ_self _,hm⟩ ?_ ?_
 rintro _ _ ⟨_,_,_,_,_,_,_,_,_,_,_,hl,_⟩;exact absurd hl (Nat.not_lt_zero _)
 rintro m27 K26 hK26 ρ32 w28 ⟨map_1,o_g21,rem_g21,o_g22,_,rfl,hfr31,hst30,hs29,M_g21,M_g22,hl34,hm⟩
 rw [hfr31.eq];clear hfr31
 have ch33:=hst30
 refine Wb<|Wa<|Rop (op_nextO (q:=kXPlace) (m:=mvB) (i:=0) (j:=5) hs29 rfl rfl M_g21 rfl ?_ ?_)
 intro hr36;subst hr36;replace hm:=mrng1_z hm;unfold m67_reason_table__proofs_1_K0 at hm
 refine Rop<|op_extract (v:=Bo false) rfl rfl<|Ri2<|Wb<|Wp_cond_f rfl<|Wp_exit ?_
 obtain⟨hs46,p47⟩:=hs29.sub (bs':=[(some b6,o_g22),(some b_fv0_,Oc [Bo (decide (0<(bad.length:Int)))] 4),(some b_fv1_,Oc [Sl Aa fv1_.variables Ca,Sl Ab fv1_.bad Cb] 86),(kk_fv1__bad,o_fv1__bad),(some bm_bad,om_bad)]) (.cons _ (.cons_cons _ (.cons_cons _ (.cons_cons _ (.cons_cons _ (.cons_cons _ List.Sublist.slnil))))))
 clear hs29
 refine Wa<|Rop<|op2 1 ty86 rfl ty84 rfl rfl<|Rop<|oq2 2 ty84 hs46 rfl rfl rfl<|Mve (Value.map (some b6)) rfl ?_
 obtain⟨hs49,p50,f48⟩:=St.publishM (i:=0) hs46 rfl M_g22
 clear hs46
 refine Rop<|op_buildSlice (cs:=[Value.map (some b6)]) (parts:=[(0,.tmp 22)]) ty84 ty98 hs49 (by decide) rfl ?_
 intro b51 w52 hx55 p53 hs54
 clear hs49
 obtain⟨hc57,hm⟩:=ck_some hm
 replace f48:=f48.step p53
 have p66:=(p3.trans (p8.trans (p16.trans (hst30.trans (p47.trans (p50.trans p53))))))
 replace Fb:=Fb.step p66
 refine Rop (op_append (q:=rMp kXPlace mvB) (i:=3) (xs:=fv1_.bad) (ys:=[map_1]) (news:=[Value.map (some b6)]) ty84 ty98 rfl (by decide) hs54 rfl rfl Fb rfl (Src.owned' (len:=1) (hs54.get (i:=0) rfl) rfl) (show Els (rMp kXPlace mvB) _ _ [Value.map (some b6)] [map_1] from⟨_,_,rfl,mk_mp f48,Els.nil⟩) hc57 (by have:=hc57;simp only [maxLen];omega) ?_)
 intro a61 c62 k63 o64 w58 p59 hs60 f65
 clear hs54
 have hs67:=hs60.drop 0
 have p68:=(hs60.dropS 0)
 clear hs60
 refine Rop<|op2 1 ty86 rfl ty84 rfl rfl<|Rg_op_<|op_stC (Sl a61 (fv1_.bad++[map_1]) c62) (cs':=[Sl Aa fv1_.variables Ca,Sl a61 (fv1_.bad++[map_1]) c62]) Put.p1 ty84 hs67 rfl rfl rfl (le_lit rfl) rfl rfl ?_
 intro w69 p70 hs71
 clear hs67
 refine Ri2<|Wb ?_
 clear f48
 refine Wa<|Rop<|oq2 0 ty4 hs71 rfl rfl rfl<|Asg (Bo (decide (0<(bad.length:Int)))) rfl<|Ri2<|Wp_ret ?_
 have hq72:=(oi hm).trans hxm;simp only [Prod.mk.injEq] at hq72;obtain⟨hq73,rfl,rfl⟩:=hq72
 replace f65:=f65.step (p68.trans p70)
 replace Fa:=Fa.step (p66.trans (p59.trans (p68.trans p70)))
 refine⟨_,Clo,[Bo (decide (0<(bad.length:Int)))],⟨rfl,trivial⟩,_,St.backB hs71,⟨_,_,_,_,_,_,rfl,Fa,f65⟩,?_⟩
 exact Vr.eq (a:=vB) (x:=decide (0<(bad.length:Int))) rfl hq73
 intro xp35 r37 r38 o39 w40 hr36 p41 hs42 f43 hk44 ho45;subst hr36
 have hl74:(r37++r38).length<m27:=by have:=hl34;simp only [List.length_append,List.length_cons] at this ⊢;omega
 obtain⟨sf24,hsf25,hm⟩:=mrng1_s hm;unfold m67_reason_table__proofs_1_B0 at hm
 clear hs29
 obtain⟨hk75,hk76⟩:=hk44
 refine Rop<|op_extract (v:=Bo true) rfl rfl<|Ri2<|Wb<|Wp_cond_t rfl<|Ws2<|Wn2<|Wb<|Wa<|Rop<|op_entryO (q:=kXPlace) (m:=mvB) (i:=0) (j:=5) hs42 rfl rfl f43 rfl<|Rop<|op_extract (v:=Value.agg [Iv xp35.1.leaf,Iv xp35.1.cell].toArray) rfl rfl<|Rop<|op_alloc ty45 hs42 ?_
 intro b77 w78 _ p79 hs80
 clear hs42
 refine Rg_op_<|op_stA .z ty45 hs80 rfl rfl rfl rfl rfl ?_
 intro w82 p83 hs84
 clear hs80
 refine Ri2<|Wa<|Mve (Value.map (some b6)) rfl<|Rop<|op_ldA 0 ty45 hs84 rfl rfl rfl<|Rg_op_<|op_mapUpdate (q:=kXPlace) (m:=mvB) (n:=xp35.1) (v:=true) (i:=2) Try.underlying98 kok45 hs84 rfl M_g22 rfl rfl rfl rfl (And.intro hk75 hk76) trivial ?_
 intro o85 w86 p87 hs88 M89
 clear hs84
 refine Ri2 ?_
 have hs90:=hs88.drop 0
 have p91:=(hs88.dropS 0)
 clear hs88
 replace ch33:=ch33.trans (p41.trans (p79.trans (p83.trans (p87.trans p91))))
 exact hK26 _ _ ⟨mput map_1 xp35.1 true,o39,r37++r38,o85,_,rfl,Frm.of trivial,ch33,hs90,f43.any,M89,hl74,jnE1 hsf25 hm⟩
 refine Ws2<|Wb<|Wa<|Rop<|oq2 0 ty4 hs4 rfl rfl rfl<|Asg (Bo (decide (0<(bad.length:Int)))) rfl<|Ri2<|Wp_ret ?_
 have hq92:=(oi hm).trans hxm;simp only [Prod.mk.injEq] at hq92;obtain⟨hq93,rfl,rfl⟩:=hq92
 replace Fb:=Fb.step p3;replace Fa:=Fa.step p3
 refine⟨_,Clo,[Bo (decide (0<(bad.length:Int)))],⟨rfl,trivial⟩,_,St.backB hs4,⟨_,_,_,_,_,_,rfl,Fa,Fb⟩,?_⟩
 exact Vr.eq (a:=vB) (x:=decide (0<(bad.length:Int))) rfl hq93
def S67 (b_fv0_ b_fv1_:Nat):Sx (Bool × XProof) where
 rd w O E s:=∃(a_qfv1__variables:Option Addr) (c_qfv1__variables:Nat) (a_qfv1__bad:Option Addr) (c_qfv1__bad:Nat) (kk_qfv1__bad:Option Nat) (o_qfv1__bad:Obj),E=[(some b_fv0_,Obj.cells [Bo s.1].toArray 4),(some b_fv1_,Obj.cells [Sl a_qfv1__variables s.2.variables c_qfv1__variables,Sl a_qfv1__bad s.2.bad c_qfv1__bad].toArray 86),(kk_qfv1__bad,o_qfv1__bad)]∧SlR (rInt .i64) w O a_qfv1__variables c_qfv1__variables s.2.variables∧Gs (rMp kXPlace mvB) 98 w O a_qfv1__bad c_qfv1__bad s.2.bad kk_qfv1__bad o_qfv1__bad
 step:=fun p h=>by
  obtain⟨a_qfv1__variables,c_qfv1__variables,a_qfv1__bad,c_qfv1__bad,kk_qfv1__bad,o_qfv1__bad,hE,f_qfv1__variables,f_qfv1__bad⟩:=h
  exact⟨a_qfv1__variables,c_qfv1__variables,a_qfv1__bad,c_qfv1__bad,kk_qfv1__bad,o_qfv1__bad,hE,f_qfv1__variables.step p,f_qfv1__bad.step p⟩
theorem d67 {w:World} {O:List Nat} {b_fv0_ b_fv1_:Nat} :
 DoneS Try.prog kXPlace mvB (S67 b_fv0_ b_fv1_) w O (Value.func (.func 67) #[] #[Pt b_fv0_ 0,Pt b_fv1_ 0]) (fun xs s=>m67_reason_table__proofs_1 xs s.1 s.2):=by
 refine⟨⟨_,_,rfl⟩,?_⟩
 intro w1 O1 L1 b o xs s r s' p hL hb ho hM hS hm
 obtain⟨Aa,Ca,Ab,Cb,kk_qfv1__bad,o_qfv1__bad,rfl,Fa,Fb⟩:=hS
 have hL':=hL.join hb ho
 have hp:=fun L=>Step.join (O:=O1) L w1 o hb
 refine⟨67,#[],_,rfl,Try.call67,(c67_reason_table__proofs_1 (x0:=r) (y_fv0_:=s'.1) (y_fv1_:=s'.2) hL' (Fa.step (hp _)) (Fb.step (hp _)) hM hm).mono ?_⟩
 rintro u w2 ⟨L2,hB,⟨Aa,Ca,Ab,Cb,kk_qfv1__bad,o_qfv1__bad,rfl,Fa,Fb⟩,hu⟩
 exact⟨_,hB.unjoin hL hb ho,⟨_,_,_,_,_,_,rfl,Fa.step (Step.unjoin [(some b_fv0_,Obj.cells [Bo s'.1].toArray 4),(some b_fv1_,Obj.cells [Sl Aa s'.2.variables Ca,Sl Ab s'.2.bad Cb].toArray 86),(kk_qfv1__bad,o_qfv1__bad)] _ o hb),Fb.step (Step.unjoin [(some b_fv0_,Obj.cells [Bo s'.1].toArray 4),(some b_fv1_,Obj.cells [Sl Aa s'.2.variables Ca,Sl Ab s'.2.bad Cb].toArray 86),(kk_qfv1__bad,o_qfv1__bad)] _ o hb)⟩,hu⟩

def m43_reason_table__proofs_B0 (t:XTable) (sf43:(List XProof)→Option (List XProof)) (xi34:(List Int)) (v_1:List XProof):Option (List XProof):=
 (m49_reason_table__broken t xi34 (fun xs s=>m67_reason_table__proofs_1 xs s.1 s.2) (true,(⟨xi34,([]:List (List (XPlace × Bool)))⟩:XProof))).bind fun lent_1=>
 bif lent_1.1 then
  ck ((v_1.length+[lent_1.2].length)*48≤140737488355328)<|
  sf43 (v_1++[lent_1.2])
 else
  sf43 v_1

def m43_reason_table__proofs (t:XTable) (k:Int):Option (List XProof):=
 (m45_reason_lists (t.p.variables.length:Int) k).bind fun lists_1=>
 jn (fun(v_1:List XProof)=>
  some v_1)
 (fun k23=>
  rng1 (m43_reason_table__proofs_B0 t) k23 lists_1 ([]:List XProof))

theorem g43_reason_table__proofs {w:World} {O:List Nat} {t:XTable} {k:Int} {Aa:Option Addr} {Ca:Nat} {Ab:Option Addr} {Cb:Nat} {Ac:Option Addr} {Cc:Nat} {Ad:Option Addr} {Cd:Nat} (hO:∀k∈O,k<w.heap.size) (Fa:SlR rXCell w O Aa Ca t.p.cells) (Fb:SlR (rSl (rInt .i64)) w O Ab Cb t.p.capacity) (Fc:SlR rXVariable w O Ac Cc t.p.variables) (Fd:SlR (rSl (rMp kXPlace (mvI .i64))) w O Ad Cd t.uses) (Ra:InK .i64 k) {x:(List XProof)} (hm:m43_reason_table__proofs t k=some x):
 OkG Try.prog 43 [Value.agg [Sl Aa t.p.cells Ca,Sl Ab t.p.capacity Cb,Sl Ac t.p.variables Cc,Sl Ad t.uses Cd].toArray,Iv k] w O rXProof 86 x:=by
 unfold m43_reason_table__proofs at hm
 refine Fn_of_Wp (n:=27) (xs:=[.cell 4 82]) Try.func43 rfl Try.ntmps43 Try.results43 rfl ?_
 have hs:=St.start hO
 refine Wb<|Wa<|Rop<|op_box (cs:=[Sl Aa t.p.cells Ca,Sl Ab t.p.capacity Cb,Sl Ac t.p.variables Cc,Sl Ad t.uses Cd]) hs rfl rfl ?_
 intro b1 w2 _ p3 hs4
 refine Rop<|op_alloc ty82 hs4 ?_
 intro b6 w7 _ p8 hs9
 clear hs4
 refine Ri2<|Wb<|Wb<|Wa<|Rop<|op2 0 ty80 rfl ty26 rfl rfl<|Rop<|op2 2 ty26 rfl ty24 rfl rfl<|Rop<|oq2 1 ty24 hs9 rfl rfl rfl<|Rop<|op_len Try.underlying24 rfl ?_
 have p12:=(p3.trans p8)
 replace Fc:=Fc.step p12
 have rl11:=inK_len Fc
 refine Mve (Iv k) rfl ?_
 obtain⟨lists_1,hv13,hm⟩:=bd hm
 refine Rop<|op_callE hs9 Try.call45 (c45_reason_lists (n:=(t.p.variables.length:Int)) (k:=k) hs9.ltw rl11 Ra hv13) rfl ?_
 rintro v14 w15 p19 hs18 h17
 clear hs9
 have F_y20:ItR Try.prog (enc1 (vC (rSl (rInt .i64)))) _ _ v14 lists_1:=h17
 refine Ri2<|Wn2 ?_
 obtain⟨k23,hk24,hm⟩:=jn_elim hm
 have hs30:=hs18.ghost (Obj.cells #[] 86)
 have hit29:=F_y20;obtain⟨fk25,cp26,hvq27,hcl28,hit29⟩:=hit29
 refine Wp_rangeFunc (σ:=(List XProof) × (Option Addr) × Nat × (Option Nat) × Obj) (ps:=[14]) hs30 (rfl.trans hvq27) hcl28 hit29 rfl enc1_len enc1_step (fun s=>match s with |(v_1,Ae,Ce,k_g22,o_g22)=>[(k_g22,o_g22),(some b6,Oc [Sl Ae v_1 Ce] 82),(some b1,Oc [Sl Aa t.p.cells Ca,Sl Ab t.p.capacity Cb,Sl Ac t.p.variables Cc,Sl Ad t.uses Cd] 80)]) (fun s w O=>match s with |(v_1,Ae,Ce,k_g22,o_g22)=>Gs rXProof 86 w O Ae Ce v_1 k_g22 o_g22) (fun s w O w' O' p h=>by obtain⟨v_1,Ae,Ce,k_g22,o_g22⟩:=s;have h:Gs rXProof 86 w O Ae Ce v_1 k_g22 o_g22:=h;have Fe:=h;exact Fe.step p) (fun s l=>match s with |(v_1,Ae,Ce,k_g22,o_g22)=>rng1 (m43_reason_table__proofs_B0 t) k23 l v_1=some x) [] (fun _ _=>False) (([]:List XProof),none,0,none,Obj.cells #[] 86) rfl Gs.nil_ hm ?_ ?_ ?_
 rintro l32 E33 ⟨v_1,Ae,Ce,k_g22,o_g22⟩ xi34 rest35 w36 vs37 z38 hz39 hs40 hst41 Fe hm hx42
 replace hs40:St z38 (E33++O) w36 [(k_g22,o_g22),(some b6,Oc [Sl Ae v_1 Ce] 82),(some b1,Oc [Sl Aa t.p.cells Ca,Sl Ab t.p.capacity Cb,Sl Ac t.p.variables Cc,Sl Ad t.uses Cd] 80)]:=hs40
 have ch45:Step (ks [(none,Obj.cells #[] 86),(some b6,Oc [Value.slice none 0 0] 82),(some b1,Oc [Sl Aa t.p.cells Ca,Sl Ab t.p.capacity Cb,Sl Ac t.p.variables Cc,Sl Ad t.uses Cd] 80)] O) w15 (ks [(k_g22,o_g22),(some b6,Oc [Sl Ae v_1 Ce] 82),(some b1,Oc [Sl Aa t.p.cells Ca,Sl Ab t.p.capacity Cb,Sl Ac t.p.variables Cc,Sl Ad t.uses Cd] 80)] (E33++O)) w36:=hst41;clear hst41
 replace Fe:Gs rXProof 86 w36 (ks [(k_g22,o_g22),(some b6,Oc [Sl Ae v_1 Ce] 82),(some b1,Oc [Sl Aa t.p.cells Ca,Sl Ab t.p.capacity Cb,Sl Ac t.p.variables Cc,Sl Ad t.uses Cd] 80)] (E33++O)) Ae Ce v_1 k_g22 o_g22:=Fe
 have hm46:=rng1_s (show rng1 _ _ (xi34::rest35) v_1=some _ from hm);clear hm;obtain⟨sf43,hsf44,hm⟩:=hm46
 unfold m43_reason_table__proofs_B0 at hm
 replace hx42:(enc1 (vC (rSl (rInt .i64)))) xi34 w36 (ks [(k_g22,o_g22),(some b6,Oc [Sl Ae v_1 Ce] 82),(some b1,Oc [Sl Aa t.p.cells Ca,Sl Ab t.p.capacity Cb,Sl Ac t.p.variables Cc,Sl Ad t.uses Cd] 80)] (E33++O)) vs37:=hx42
 obtain⟨v47,rfl,h48⟩:=hx42
 obtain⟨Af,Cf,rfl,Ff⟩:=un_sl h48
 refine Wa<|Asg (Sl Af xi34 Cf) rfl<|Ri2<|Exists.intro _<|And.intro hs40 ?_
 intro w50 z51 RQ52 hz53 hs54 p55 hN56 hX57
 clear hs40
 refine Wn2<|Wb<|Wa<|Mve (Sl Af xi34 Cf) rfl<|Rop<|op_build (vs:=[Sl Af xi34 Cf,Value.slice none 0 0]) (parts:=[(0,.tmp 15)]) ty86 pl86 rfl<|Rop<|op_alloc ty86 hs54 ?_
 intro b58 w59 _ p60 hs61
 clear hs54
 refine Rg_op_<|op_stA .z ty86 hs61 rfl rfl rfl rfl rfl ?_
 intro w63 p64 hs65
 clear hs61
 refine Ri2<|Wb<|Wa<|Rop<|op_alloc ty4 hs65 ?_
 intro b66 w67 _ p68 hs69
 clear hs65
 refine Rg_op_<|op_stS (Bo true) .z ty4 hs69 rfl rfl rfl rfl ?_
 intro w71 p72 hs73
 clear hs69
 refine Ri2<|Wb<|Wa<|Rop<|op_ldA 4 ty80 hs73 rfl rfl rfl<|Mve (Sl Af xi34 Cf) rfl<|Rop<|op_makeFunc' (a':=[]) (c':=[Pt b66 0,Pt b58 0]) rfl rfl ?_
 have hs74:=hs73.ghost (Obj.cells #[] 98)
 obtain⟨hs76,p77⟩:St z51 (E33++O) w71 [(some b58,Oc [Sl Af xi34 Cf,Sl none ([]:List (List (XPlace × Bool))) 0] 86),(none,Obj.cells #[] 98),(some b66,Oc [Bo true] 4),(k_g22,o_g22),(some b6,Oc [Sl Ae v_1 Ce] 82),(some b1,Oc [Sl Aa t.p.cells Ca,Sl Ab t.p.capacity Cb,Sl Ac t.p.variables Cc,Sl Ad t.uses Cd] 80)]∧Step (ks [(none,Obj.cells #[] 98),(some b66,Oc [Bo true] 4),(some b58,Oc [Sl Af xi34 Cf,Sl none ([]:List (List (XPlace × Bool))) 0] 86),(k_g22,o_g22),(some b6,Oc [Sl Ae v_1 Ce] 82),(some b1,Oc [Sl Aa t.p.cells Ca,Sl Ab t.p.capacity Cb,Sl Ac t.p.variables Cc,Sl Ad t.uses Cd] 80)] (E33++O)) w71 (ks [(some b58,Oc [Sl Af xi34 Cf,Sl none ([]:List (List (XPlace × Bool))) 0] 86),(none,Obj.cells #[] 98),(some b66,Oc [Bo true] 4),(k_g22,o_g22),(some b6,Oc [Sl Ae v_1 Ce] 82),(some b1,Oc [Sl Aa t.p.cells Ca,Sl Ab t.p.capacity Cb,Sl Ac t.p.variables Cc,Sl Ad t.uses Cd] 80)] (E33++O)) w71:=St.front hs74 (i:=2) rfl
 clear hs74
 obtain⟨hs78,p79⟩:St z51 (E33++O) w71 [(some b66,Oc [Bo true] 4),(some b58,Oc [Sl Af xi34 Cf,Sl none ([]:List (List (XPlace × Bool))) 0] 86),(none,Obj.cells #[] 98),(k_g22,o_g22),(some b6,Oc [Sl Ae v_1 Ce] 82),(some b1,Oc [Sl Aa t.p.cells Ca,Sl Ab t.p.capacity Cb,Sl Ac t.p.variables Cc,Sl Ad t.uses Cd] 80)]∧Step (ks [(some b58,Oc [Sl Af xi34 Cf,Sl none ([]:List (List (XPlace × Bool))) 0] 86),(none,Obj.cells #[] 98),(some b66,Oc [Bo true] 4),(k_g22,o_g22),(some b6,Oc [Sl Ae v_1 Ce] 82),(some b1,Oc [Sl Aa t.p.cells Ca,Sl Ab t.p.capacity Cb,Sl Ac t.p.variables Cc,Sl Ad t.uses Cd] 80)] (E33++O)) w71 (ks [(some b66,Oc [Bo true] 4),(some b58,Oc [Sl Af xi34 Cf,Sl none ([]:List (List (XPlace × Bool))) 0] 86),(none,Obj.cells #[] 98),(k_g22,o_g22),(some b6,Oc [Sl Ae v_1 Ce] 82),(some b1,Oc [Sl Aa t.p.cells Ca,Sl Ab t.p.capacity Cb,Sl Ac t.p.variables Cc,Sl Ad t.uses Cd] 80)] (E33++O)) w71:=St.front hs76 (i:=2) rfl
 clear hs76
 have p81:=(p55.trans (p60.trans (p64.trans (p68.trans (p72.trans (p77.trans p79))))))
 replace Ff:=Ff.step p81
 have hS80:SxR (S67 b66 b58) w71 (ks [(some b66,Oc [Bo true] 4),(some b58,Oc [Sl Af xi34 Cf,Sl none ([]:List (List (XPlace × Bool))) 0] 86),(none,Obj.cells #[] 98)] (ks [(k_g22,o_g22),(some b6,Oc [Sl Ae v_1 Ce] 82),(some b1,Oc [Sl Aa t.p.cells Ca,Sl Ab t.p.capacity Cb,Sl Ac t.p.variables Cc,Sl Ad t.uses Cd] 80)] (E33++O))) [(some b66,Oc [Bo true] 4),(some b58,Oc [Sl Af xi34 Cf,Sl none ([]:List (List (XPlace × Bool))) 0] 86),(none,Obj.cells #[] 98)] (true,(⟨xi34,([]:List (List (XPlace × Bool)))⟩:XProof)):=by rw [← ks_app];exact⟨Af,Cf,none,0,none,Obj.cells #[] 98,rfl,Ff,Gs.nil_ (q:=rMp kXPlace mvB)⟩
 obtain⟨lent_1,hv82,hm⟩:=bd hm
 have hq83:ks [(some b66,Oc [Bo true] 4),(some b58,Oc [Sl Af xi34 Cf,Sl none ([]:List (List (XPlace × Bool))) 0] 86),(none,Obj.cells #[] 98),(k_g22,o_g22),(some b6,Oc [Sl Ae v_1 Ce] 82),(some b1,Oc [Sl Aa t.p.cells Ca,Sl Ab t.p.capacity Cb,Sl Ac t.p.variables Cc,Sl Ad t.uses Cd] 80)] (E33++O)=ks [(some b66,Oc [Bo true] 4),(some b58,Oc [Sl Af xi34 Cf,Sl none ([]:List (List (XPlace × Bool))) 0] 86),(none,Obj.cells #[] 98)] (ks [(k_g22,o_g22),(some b6,Oc [Sl Ae v_1 Ce] 82),(some b1,Oc [Sl Aa t.p.cells Ca,Sl Ab t.p.capacity Cb,Sl Ac t.p.variables Cc,Sl Ad t.uses Cd] 80)] (E33++O)):=ks_app [(some b66,Oc [Bo true] 4),(some b58,Oc [Sl Af xi34 Cf,Sl none ([]:List (List (XPlace × Bool))) 0] 86),(none,Obj.cells #[] 98)] [(k_g22,o_g22),(some b6,Oc [Sl Ae v_1 Ce] 82),(some b1,Oc [Sl Aa t.p.cells Ca,Sl Ab t.p.capacity Cb,Sl Ac t.p.variables Cc,Sl Ad t.uses Cd] 80)] (E33++O)
 have p90:=(p12.trans (p19.trans (ch45.trans (p55.trans (p60.trans (p64.trans (p68.trans (p72.trans (p77.trans p79)))))))))
 replace Fb:=Fb.step p90;replace Fa:=Fa.step p90
 replace Fc:=Fc.step (p19.trans (ch45.trans (p55.trans (p60.trans (p64.trans (p68.trans (p72.trans (p77.trans p79))))))));replace Fd:=Fd.step p90
 refine Rop<|op_callL (rest:=[(k_g22,o_g22),(some b6,Oc [Sl Ae v_1 Ce] 82),(some b1,Oc [Sl Aa t.p.cells Ca,Sl Ab t.p.capacity Cb,Sl Ac t.p.variables Cc,Sl Ad t.uses Cd] 80)]) Try.call49 [(some b66,Oc [Bo true] 4),(some b58,Oc [Sl Af xi34 Cf,Sl none ([]:List (List (XPlace × Bool))) 0] 86),(none,Obj.cells #[] 98)] hs78 (c49_reason_table__broken (S:=S67 b66 b58) (t:=t) (variables:=xi34) (D:=(fun xs s=>m67_reason_table__proofs_1 xs s.1 s.2)) (s0:=(true,(⟨xi34,([]:List (List (XPlace × Bool)))⟩:XProof))) (St.lendL (L:=[(some b66,Oc [Bo true] 4),(some b58,Oc [Sl Af xi34 Cf,Sl none ([]:List (List (XPlace × Bool))) 0] 86),(none,Obj.cells #[] 98)]) (rest:=[(k_g22,o_g22),(some b6,Oc [Sl Ae v_1 Ce] 82),(some b1,Oc [Sl Aa t.p.cells Ca,Sl Ab t.p.capacity Cb,Sl Ac t.p.variables Cc,Sl Ad t.uses Cd] 80)]) hs78) (hq83 ▸ Fa) (hq83 ▸ Fb) (hq83 ▸ Fc) (hq83 ▸ Fd) (hq83 ▸ Ff) d67 hS80 hv82) rfl ?_
 intro v89 w84 L85 p86 hs87 hP88 _;clear hS80 hq83
 obtain⟨Ag,Cg,Ah,Ch,kk_q92_bad,o_q92_bad,rfl,Fg,Fh⟩:=hP88
 replace hs87:St z51 (E33++O) w84 [(some b66,Oc [Bo lent_1.1] 4),(some b58,Oc [Sl Ag lent_1.2.variables Cg,Sl Ah lent_1.2.bad Ch] 86),(kk_q92_bad,o_q92_bad),(k_g22,o_g22),(some b6,Oc [Sl Ae v_1 Ce] 82),(some b1,Oc [Sl Aa t.p.cells Ca,Sl Ab t.p.capacity Cb,Sl Ac t.p.variables Cc,Sl Ad t.uses Cd] 80)]:=hs87
 replace p86:Step (ks [(some b66,Oc [Bo true] 4),(some b58,Oc [Sl Af xi34 Cf,Sl none ([]:List (List (XPlace × Bool))) 0] 86),(none,Obj.cells #[] 98),(k_g22,o_g22),(some b6,Oc [Sl Ae v_1 Ce] 82),(some b1,Oc [Sl Aa t.p.cells Ca,Sl Ab t.p.capacity Cb,Sl Ac t.p.variables Cc,Sl Ad t.uses Cd] 80)] (E33++O)) w71 (ks [(some b66,Oc [Bo lent_1.1] 4),(some b58,Oc [Sl Ag lent_1.2.variables Cg,Sl Ah lent_1.2.bad Ch] 86),(kk_q92_bad,o_q92_bad),(k_g22,o_g22),(some b6,Oc [Sl Ae v_1 Ce] 82),(some b1,Oc [Sl Aa t.p.cells Ca,Sl Ab t.p.capacity Cb,Sl Ac t.p.variables Cc,Sl Ad t.uses Cd] 80)] (E33++O)) w84:=p86
 replace Fg:SlR (rInt .i64) w84 (ks [(some b66,Oc [Bo lent_1.1] 4),(some b58,Oc [Sl Ag lent_1.2.variables Cg,Sl Ah lent_1.2.bad Ch] 86),(kk_q92_bad,o_q92_bad),(k_g22,o_g22),(some b6,Oc [Sl Ae v_1 Ce] 82),(some b1,Oc [Sl Aa t.p.cells Ca,Sl Ab t.p.capacity Cb,Sl Ac t.p.variables Cc,Sl Ad t.uses Cd] 80)] (E33++O)) Ag Cg lent_1.2.variables:=(ks_app [(some b66,Oc [Bo lent_1.1] 4),(some b58,Oc [Sl Ag lent_1.2.variables Cg,Sl Ah lent_1.2.bad Ch] 86),(kk_q92_bad,o_q92_bad)] [(k_g22,o_g22),(some b6,Oc [Sl Ae v_1 Ce] 82),(some b1,Oc [Sl Aa t.p.cells Ca,Sl Ab t.p.capacity Cb,Sl Ac t.p.variables Cc,Sl Ad t.uses Cd] 80)] (E33++O)).symm ▸ Fg
 replace Fh:Gs (rMp kXPlace mvB) 98 w84 (ks [(some b66,Oc [Bo lent_1.1] 4),(some b58,Oc [Sl Ag lent_1.2.variables Cg,Sl Ah lent_1.2.bad Ch] 86),(kk_q92_bad,o_q92_bad),(k_g22,o_g22),(some b6,Oc [Sl Ae v_1 Ce] 82),(some b1,Oc [Sl Aa t.p.cells Ca,Sl Ab t.p.capacity Cb,Sl Ac t.p.variables Cc,Sl Ad t.uses Cd] 80)] (E33++O)) Ah Ch lent_1.2.bad kk_q92_bad o_q92_bad:=(ks_app [(some b66,Oc [Bo lent_1.1] 4),(some b58,Oc [Sl Ag lent_1.2.variables Cg,Sl Ah lent_1.2.bad Ch] 86),(kk_q92_bad,o_q92_bad)] [(k_g22,o_g22),(some b6,Oc [Sl Ae v_1 Ce] 82),(some b1,Oc [Sl Aa t.p.cells Ca,Sl Ab t.p.capacity Cb,Sl Ac t.p.variables Cc,Sl Ad t.uses Cd] 80)] (E33++O)).symm ▸ Fh
 clear hs78
 refine Ri2<|Wb<|Wa<|Rop<|oq2 0 ty4 hs87 rfl rfl rfl<|Ri2<|Wo2 hm rfl (fun hc93 hm=>?_) (fun hc93 hm=>?_)
 refine Wa<|Rop<|oq2 4 ty82 hs87 rfl rfl rfl<|Rop<|op_ldA 1 ty86 hs87 rfl rfl rfl ?_
 obtain⟨hs95,p96,f94⟩:=Gs.publish (i:=2) hs87 rfl Fh
 clear hs87
 refine Rop<|op_buildSlice (cs:=[Sl Ag lent_1.2.variables Cg,Sl Ah lent_1.2.bad Ch]) (parts:=[(0,.tmp 23)]) ty82 ty86 hs95 (by decide) rfl ?_
 intro b97 w98 hx101 p99 hs100
 clear hs95
 obtain⟨hc103,hm⟩:=ck_some hm
 replace f94:=f94.step p99
 have p112:=(p81.trans (p86.trans (p96.trans p99)))
 replace Fe:=Fe.step p112
 replace Fg:=Fg.step (p96.trans p99)
 refine Rop (op_append (q:=rXProof) (i:=3) (xs:=v_1) (ys:=[lent_1.2]) (news:=[Sl Ag lent_1.2.variables Cg,Sl Ah lent_1.2.bad Ch]) ty82 ty86 rfl (by decide) hs100 rfl rfl Fe rfl (Src.owned' (len:=2) (hs100.get (i:=0) rfl) rfl) (show Els rXProof _ _ [Sl Ag lent_1.2.variables Cg,Sl Ah lent_1.2.bad Ch] [lent_1.2] from⟨_,_,rfl,mkVia (mk_pair (mk_sl Fg) (mk_sl f94)),Els.nil⟩) hc103 (by have:=hc103;simp only [maxLen];omega) ?_)
 intro a107 c108 k109 o110 w104 p105 hs106 f111
 clear hs100
 have hs113:=hs106.drop 0
 have p114:=(hs106.dropS 0)
 clear hs106
 refine Rg_op_<|op_stS (Sl a107 (v_1++[lent_1.2]) c108) Put.p3 ty82 hs113 rfl rfl rfl rfl ?_
 intro w115 p116 hs117
 clear hs113
 refine Ri2 ?_
 have hs118:=hs117.drop 1
 have p119:=(hs117.dropS 1)
 clear hs117
 have hs120:=hs118.drop 0
 have p121:=(hs118.dropS 0)
 clear hs118
 replace ch45:=ch45.trans (p112.trans (p105.trans (p114.trans (p116.trans (p119.trans p121)))))
 replace f111:=f111.step (p114.trans (p116.trans (p119.trans p121)))
 exact hN56 (v_1++[lent_1.2],a107,c108,k109,o110) _ _ hs120 ch45 f111 (jnE1 hsf44 hm)
 refine Ws2 ?_
 have hs122:=hs87.drop 2
 have p123:=(hs87.dropS 2)
 clear hs87
 have hs124:=hs122.drop 1
 have p125:=(hs122.dropS 1)
 clear hs122
 have hs126:=hs124.drop 0
 have p127:=(hs124.dropS 0)
 clear hs124
 have p128:=(p81.trans (p86.trans (p123.trans (p125.trans p127))))
 replace ch45:=ch45.trans p128;replace Fe:=Fe.step p128
 exact hN56 (v_1,Ae,Ce,k_g22,o_g22) _ _ hs126 ch45 Fe (jnE1 hsf44 hm)
 rintro D129 ⟨v_1,Ae,Ce,k_g22,o_g22⟩ w130 hs131 hst132 Fe hm
 replace hs131:St ⟨w,[],D129::[]⟩ (D129::O) w130 [(k_g22,o_g22),(some b6,Oc [Sl Ae v_1 Ce] 82),(some b1,Oc [Sl Aa t.p.cells Ca,Sl Ab t.p.capacity Cb,Sl Ac t.p.variables Cc,Sl Ad t.uses Cd] 80)]:=hs131
 replace hst132:Step (ks [(none,Obj.cells #[] 86),(some b6,Oc [Value.slice none 0 0] 82),(some b1,Oc [Sl Aa t.p.cells Ca,Sl Ab t.p.capacity Cb,Sl Ac t.p.variables Cc,Sl Ad t.uses Cd] 80)] O) w15 (ks [(k_g22,o_g22),(some b6,Oc [Sl Ae v_1 Ce] 82),(some b1,Oc [Sl Aa t.p.cells Ca,Sl Ab t.p.capacity Cb,Sl Ac t.p.variables Cc,Sl Ad t.uses Cd] 80)] (D129::O)) w130:=hst132
 replace Fe:Gs rXProof 86 w130 (ks [(k_g22,o_g22),(some b6,Oc [Sl Ae v_1 Ce] 82),(some b1,Oc [Sl Aa t.p.cells Ca,Sl Ab t.p.capacity Cb,Sl Ac t.p.variables Cc,Sl Ad t.uses Cd] 80)] (D129::O)) Ae Ce v_1 k_g22 o_g22:=Fe
 replace hm:=rng1_z (show rng1 _ _ [] v_1=some _ from hm)
 replace hm:=jnE1 hk24 (show k23 v_1=some _ from hm)
 clear hs30
 refine Wb ?_
 obtain⟨hs134,p135⟩:=hs131.sub (bs':=[(k_g22,o_g22),(some b6,Oc [Sl Ae v_1 Ce] 82)]) (.cons_cons _ (.cons_cons _ (.cons _ List.Sublist.slnil)))
 clear Fa Fb Fc Fd F_y20
 clear hs131
 refine Wa<|Rop<|oq2 1 ty82 hs134 rfl rfl rfl<|Rg_op_<|op_stS (Sl Ae v_1 Ce) Put.p1 ty82 hs134 rfl rfl rfl rfl ?_
 intro w136 p137 hs138
 clear hs134
 refine Ri2<|Wp_ret ?_
 obtain⟨w139,hcl140,hs141,p142⟩:=St.close hs138
 clear hs138
 refine⟨_,hcl140,[Sl Ae v_1 Ce],⟨res1 (cs:=[Sl Ae v_1 Ce]) ty82 (i:=1) hs141 rfl rfl rfl,trivial⟩,hs141.ext,?_⟩
 replace Fe:=Fe.step (p135.trans (p137.trans p142))
 exact OkG.mkS (i:=0) (fun k hk=>by simp [hk]) hs141 rfl Fe (oi hm)
 intro _ _ _ _ h;simp at h
def m55_reason_order (a:XPlace) (b:XPlace):Option Int:=
 (m39_cmp_Compare a.leaf b.leaf).bind fun compare_1=>
 (m39_cmp_Compare a.cell b.cell).bind fun compare_2=>
 (m64_cmp_Or [compare_1,compare_2]).bind fun or_1=>
 some or_1

theorem c55_reason_order {w:World} {O:List Nat} {a:XPlace} {b:XPlace} (hO:∀k∈O,k<w.heap.size) (Ra:InK .i64 a.leaf) (Rb:InK .i64 a.cell) (Rc:InK .i64 b.leaf) (Rd:InK .i64 b.cell) {x:Int} (hm:m55_reason_order a b=some x):
 Ok Try.prog 55 [Value.agg [Iv a.leaf,Iv a.cell].toArray,Value.agg [Iv b.leaf,Iv b.cell].toArray] w O (vI .i64) x:=by
 unfold m55_reason_order at hm
 refine Fn_of_Wp (n:=17) (xs:=[.tmp 4]) Try.func55 rfl Try.ntmps55 Try.results55 rfl ?_
 have hs:=St.start hO
 refine Wb<|Wa<|Rop<|op_box (cs:=[Iv a.leaf,Iv a.cell]) hs rfl rfl ?_
 intro b1 w2 _ p3 hs4
 refine Rop<|op_box (cs:=[Iv b.leaf,Iv b.cell]) hs4 rfl rfl ?_
 intro b6 w7 _ p8 hs9
 clear hs4
 refine Asg (Iv 0) rfl<|Ri2<|Wb<|Wp_drawR (g0:=[]) (m:=9) (fl:=[]) (TS_inv hs9) rfl (.inl rfl) rfl (by decide+kernel) ?_  -- 1
 refine Dw_p (Pt b1 0) (fun _ _ _ hi ht=>op2 0 ty45 rfl ty3 (ht 2 rfl) rfl<|Gz hi)<|Dw_p (Iv a.leaf) (fun _ _ _ hi ht=>oq2 1 ty3 (Step.nx hi).1 (ht 5 rfl) rfl rfl<|Gz hi)<|Dw_p (Pt b6 0) (fun _ _ _ hi ht=>op2 0 ty45 rfl ty3 (ht 3 rfl) rfl<|Gz hi)<|Dw_p (Iv b.leaf) (fun _ _ _ hi ht=>oq2 0 ty3 (Step.nx hi).1 (ht 7 rfl) rfl rfl<|Gz hi) ?_
 obtain⟨compare_1,hv26,hm⟩:=bd hm
 refine Dw_op (VD _ _ (vI .i64) compare_1) (VD.stab _ _) (fun ρ23 w24 g hle hi ht=>?_) ?_
 refine Sj2 (op_call Try.call39 (c39_cmp_Compare (O:=ks (ents g++[(some b6,Oc [Iv b.leaf,Iv b.cell] 45),(some b1,Oc [Iv a.leaf,Iv a.cell] 45)]) O) (x_:=a.leaf) (y:=b.leaf) hi.ltw Ra Rc hv26) (by simp only [List.map,Array.toList,(show ev _ (.tmp 6)=_ from(ht 6 rfl)),(show ev _ (.tmp 8)=_ from(ht 8 rfl))]<;> rfl) ?_)
 rintro v27 w28 ⟨hx29,h30⟩
 exact Goes.call hi hx29 h30
 refine Dw_p (Pt b1 1) (fun _ _ _ hi ht=>op2 1 ty45 rfl ty3 (ht 2 rfl) rfl<|Gz hi)<|Dw_p (Iv a.cell) (fun _ _ _ hi ht=>oq2 1 ty3 (Step.nx hi).1 (ht 10 rfl) rfl rfl<|Gz hi)<|Dw_p (Pt b6 1) (fun _ _ _ hi ht=>op2 1 ty45 rfl ty3 (ht 3 rfl) rfl<|Gz hi)<|Dw_p (Iv b.cell) (fun _ _ _ hi ht=>oq2 0 ty3 (Step.nx hi).1 (ht 12 rfl) rfl rfl<|Gz hi)<|Dw_nil fun w48 g49 hl50 hi51=>?_
 obtain⟨-,hst52,-⟩:=hl50
 obtain⟨hs54,p53⟩:=Step.nx hi51
 rintro _ rfl _ rfl _ rfl _ rfl v55 h56
 replace h56:Vr.vd (vI .i64) _ _ _ _:=h56
 obtain⟨rfl,Re⟩:=h56
 rintro _ rfl _ rfl _ rfl _ rfl
 have p58:=hs9.to hs54 (hst52.trans p53)
 clear hs9
 obtain⟨compare_2,hv59,hm⟩:=bd hm
 refine Rop<|op_callE hs54 Try.call39 (c39_cmp_Compare (x_:=a.cell) (y:=b.cell) hs54.ltw Rb Rd hv59) rfl ?_
 rintro v60 w61 p65 hs64 h63
 clear hs54
 obtain⟨rfl,Rf⟩:=h63
 refine Rop<|op_buildSlice (cs:=[Iv compare_1,Iv compare_2]) (parts:=[(0,.tmp 9),(1,.tmp 14)]) ty31 ty3 hs64 (by decide) rfl ?_
 intro b67 w68 hx71 p69 hs70
 clear hs64
 obtain⟨hs74,p75,f73⟩:=St.publish (i:=0) (o:=0) (c:=2) (xs:=[compare_1,compare_2]) hs70 rfl (show Els (rInt .i64) _ _ [Iv compare_1,Iv compare_2] [compare_1,compare_2] from⟨_,_,rfl,mk_int Re,⟨_,_,rfl,mk_int Rf,Els.nil⟩⟩) (le_lit rfl) (le_lit rfl) (le_lit rfl)
 clear hs70
 obtain⟨or_1,hv76,hm⟩:=bd hm
 refine Rop<|op_callE hs74 Try.call64 (c64_cmp_Or (vals:=[compare_1,compare_2]) hs74.ltw f73 hv76) rfl ?_
 rintro v77 w78 p82 hs81 h80
 clear hs74
 obtain⟨rfl,Rg⟩:=h80
 refine Asg (Iv or_1) rfl<|Ri2<|Wp_ret<|⟨_,Clo,[Iv or_1],⟨rfl,trivial⟩,hs81.ext,?_⟩
 exact Vr.eq (a:=(vI .i64)) (x:=or_1) ⟨rfl,Rg⟩ (oi hm)

abbrev q44_1:List Nat:=[2,7,27,28,29,30,31,32,33,34]

abbrev q44_0:List Nat:=[5,6,12,13,14,15,16,17,18,19,20,21,22,23,24]

def m44_reason_proof__places_K1 (v_1:Int) (sf17:Int→(List (XPlace × Bool))→Option (List XPlace)) (map_2:List (XPlace × Bool)):Option (List XPlace):=
 sf17 (IntKind.wrap .i64 (v_1+1)) map_2

def m44_reason_proof__places_B1 (sf46:(List (XPlace × Bool))→Option (List XPlace)) (xp57:XPlace × Bool) (map_2:List (XPlace × Bool)):Option (List XPlace):=
 sf46 (mput map_2 xp57.1 true)

def m44_reason_proof__places_K2 (l_1:List XPlace):Option (List XPlace):=
 (sortM (fun x133 x134=>m55_reason_order x133 x134) l_1).bind fun sorted_1=>
 ck (l_1.length<4611686018427387904)<|
 some sorted_1

def m44_reason_proof__places_B2 (sf107:(List XPlace)→Option (List XPlace)) (xp120:XPlace × Bool) (l_1:List XPlace):Option (List XPlace):=
 ck ((l_1.length+[xp120.1].length)*16≤140737488355328)<|
 sf107 (l_1++[xp120.1])

def m44_reason_proof__places_B0 (x_:XProof) (sf17:Int→(List (XPlace × Bool))→Option (List XPlace)) (v_1:Int) (map_1:List (XPlace × Bool)):Option (List XPlace):=
 bif (decide (v_1<(x_.bad.length:Int))) then
  ck ((0:Int)≤v_1∧v_1<(x_.bad.length:Int))<|
  mrng1 m44_reason_proof__places_B1 (m44_reason_proof__places_K1 v_1 sf17) (x_.bad.getD v_1.toNat default) map_1
 else
  mrng1 m44_reason_proof__places_B2 m44_reason_proof__places_K2 map_1 ([]:List XPlace)

def m44_reason_proof__places (x_:XProof):Option (List XPlace):=
 loop2 (m44_reason_proof__places_B0 x_) (((x_.bad.length:Int) - 0).toNat+1) 0 ([]:List (XPlace × Bool))

theorem g44_reason_proof__places {w:World} {O:List Nat} {x_:XProof} {Aa:Option Addr} {Ca:Nat} {Ab:Option Addr} {Cb:Nat} (hO:∀k∈O,k<w.heap.size) (Fa:SlR (rInt .i64) w O Aa Ca x_.variables) (Fb:SlR (rMp kXPlace mvB) w O Ab Cb x_.bad) {x:(List XPlace)} (hm:m44_reason_proof__places x_=some x):
 OkG Try.prog 44 [Value.agg [Sl Aa x_.variables Ca,Sl Ab x_.bad Cb].toArray] w O rXPlace 45 x:=by
 unfold m44_reason_proof__places at hm
 refine Fn_of_Wp (n:=38) (xs:=[.tmp 2]) Try.func44 rfl Try.ntmps44 Try.results44 rfl ?_
 have hs:=St.start hO
 refine Wb<|Wa<|Rop<|op_box (cs:=[Sl Aa x_.variables Ca,Sl Ab x_.bad Cb]) hs rfl rfl ?_
 intro b1 w2 _ p3 hs4
 refine Asg (Value.slice none 0 0) rfl<|Ri2<|Wb<|Wa<|Rop<|op_makeMap hs4 ?_
 intro b6 w7 p8 hs9
 clear hs4
 have M10:Mo kXPlace mvB (Obj.map #[] 0) ([]:List (XPlace × Bool)):=Mo.nil_
 refine Asg (Value.map (some b6)) rfl<|Ri2<|Wb<|Wb<|Wa<|Rop<|op2 1 ty86 rfl ty84 rfl rfl<|Rop<|oq2 1 ty84 hs9 rfl rfl rfl<|Rop<|op_len Try.underlying84 rfl ?_
 have p13:=(p3.trans p8)
 replace Fb:=Fb.step p13
 have rl12:=inK_len Fb
 refine Mve (Iv 0) rfl<|Ri2<|Wn2<|Wr [] [(2,Value.slice none 0 0),(3,Value.map (some b6)),(10,Sl Ab x_.bad Cb),(11,Iv (x_.bad.length:Int)),(12,Iv 0)] fun ξ16=>Wp_loopM q44_0 (fun m fr w'=>∃(v_1:Int) (map_1:List (XPlace × Bool)) (o_g15:Obj) (Ebs:Ents),Ebs=[(some b6,o_g15),(some b1,Oc [Sl Aa x_.variables Ca,Sl Ab x_.bad Cb] 86)]∧fr [] [(12,Iv v_1)]∧hs9.S (ks Ebs O) w'∧St ⟨w,[],[]⟩ O w' Ebs∧InK .i64 v_1∧Mo kXPlace mvB o_g15 map_1∧loop2 (m44_reason_proof__places_B0 x_) m v_1 map_1=some x) (((x_.bad.length:Int) - 0).toNat+1) ⟨0,([]:List (XPlace × Bool)),Obj.map #[] 0,_,rfl,Frm.of ⟨rfl,trivial⟩,Step.refl _ _,hs9,(show InK .i64 0 from by decide),M10,hm⟩ ?_ ?_
 rintro _ _ ⟨_,_,_,_,_,_,_,_,_,_,hm⟩;exact loop2_z hm
 rintro m20 K19 hK19 ρ25 w21 ⟨v_1,map_1,o_g15,_,rfl,hfr24,hst23,hs22,Ra,M_g15,hm⟩
 obtain⟨sf17,hsf18,hm⟩:=loop2_s hm;unfold m44_reason_proof__places_B0 at hm
 rw [hfr24.eq];clear hfr24
 have ch26:=hst23
 refine Wb<|Wa<|Rop<|op_lss rfl rfl<|Ri2<|Wb<|Wo2 hm rfl (fun hc27 hm=>?_) (fun hc27 hm=>?_)
 refine Ws2<|Wb<|Wn2<|Wb<|Wa ?_
 obtain⟨hc28,hm⟩:=ck_some hm
 replace Fb:=Fb.step hst23
 refine Rop<|om2 (q:=rMp kXPlace mvB) ty84 ty98 rfl rfl Fb rfl hc28.1 hc28.2 ?_
 intro p29 f30
 refine Rop<|ot2 ty98 rfl f30 rfl ?_
 intro v31 h32
 have M33:=un_mp h32;clear h32
 refine Asg v31 rfl<|Ri2<|Wb ?_
 clear f30
 refine Wa<|Mve v31 rfl<|Rop<|op_rangeM (q:=kXPlace) (m:=mvB) Try.underlying98 hs22 M33 rfl ?_
 intro b34 o35 rem36 w37 p38 hs39 f40 hp41
 clear hs22
 refine Ri2<|Wn2<|Wr2 q44_0 [] (updL ⟨ξ16,[]⟩ [(2,Value.slice none 0 0),(3,Value.map (some b6)),(10,Sl Ab x_.bad Cb),(11,Iv (x_.bad.length:Int)),(12,Iv 0)]) [(12,Iv v_1),(17,Pt b34 0)] fun ξ45=>?_
 rw [← mrng1_perm hp41] at hm
 refine Wp_loopM [6,18,19,20,21,22,23] (fun m fr w'=>∃(map_2:List (XPlace × Bool)) (o_g43:Obj) (rem_g43:List (XPlace × Bool)) (o_g44:Obj) (Ebs:Ents),Ebs=[(some b34,o_g43),(some b6,o_g44),(some b1,Oc [Sl Aa x_.variables Ca,Sl Ab x_.bad Cb] 86)]∧fr [] []∧hs39.S (ks Ebs O) w'∧St ⟨w,[],[]⟩ O w' Ebs∧MitR kXPlace mvB w' (ks Ebs O) v31 o_g43 none rem_g43∧Mo kXPlace mvB o_g44 map_2∧rem_g43.length<m∧mrng1 m44_reason_proof__places_B1 (m44_reason_proof__places_K1 v_1 sf17) rem_g43 map_2=some x) (rem36.length+1) ⟨map_1,o35,rem36,o_g15,_,rfl,Frm.of trivial,Step.refl _ _,hs39,f40.any,M_g15,Nat.lt_succ_self _,hm⟩ ?_ ?_
 rintro _ _ ⟨_,_,_,_,_,_,_,_,_,_,_,hl,_⟩;exact absurd hl (Nat.not_lt_zero _)
 rintro m49 K48 hK48 ρ54 w50 ⟨map_2,o_g43,rem_g43,o_g44,_,rfl,hfr53,hst52,hs51,M_g43,M_g44,hl56,hm⟩
 rw [hfr53.eq];clear hfr53
 have ch55:=hst52
 refine Wb ?_
 clear M33 f40
 refine Wa<|Rop (op_nextM (q:=kXPlace) (m:=mvB) (i:=0) hs51 rfl M_g43 rfl ?_ ?_)
 intro hr58;subst hr58;replace hm:=mrng1_z hm;unfold m44_reason_proof__places_K1 at hm
 refine Rop<|op_extract (v:=Bo false) rfl rfl<|Ri2<|Wb<|Wp_cond_f rfl<|Wp_exit<|Wa<|Rop<|op_addw rfl rfl<|Mve (Iv (IntKind.wrap .i64 (v_1+1))) rfl<|Ri2 ?_
 have hs68:=hs51.drop 0
 have p69:=(hs51.dropS 0)
 clear hs51
 have p70:=(p38.trans (hst52.trans p69))
 replace ch26:=ch26.trans p70
 exact hK19 _ _ ⟨(IntKind.wrap .i64 (v_1+1)),map_2,o_g44,_,rfl,Frm.of ⟨rfl,trivial⟩,ch26,hs68,(inK_wrap .i64 _),M_g44,jnE2 hsf18 hm⟩
 intro xp57 r59 r60 o61 w62 hr58 p63 hs64 f65 hk66 ho67;subst hr58
 have hl71:(r59++r60).length<m49:=by have:=hl56;simp only [List.length_append,List.length_cons] at this ⊢;omega
 obtain⟨sf46,hsf47,hm⟩:=mrng1_s hm;unfold m44_reason_proof__places_B1 at hm
 clear hs51
 obtain⟨hk72,hk73⟩:=hk66
 refine Rop<|op_extract (v:=Bo true) rfl rfl<|Ri2<|Wb<|Wp_cond_t rfl<|Ws2<|Wn2<|Wb ?_
 clear M_g43
 refine Wa<|Rop<|op_entryM (q:=kXPlace) (m:=mvB) (i:=0) hs64 rfl f65 rfl<|Rop<|op_extract (v:=Value.agg [Iv xp57.1.leaf,Iv xp57.1.cell].toArray) rfl rfl<|Rop<|op_alloc ty45 hs64 ?_
 intro b74 w75 _ p76 hs77
 clear hs64
 refine Rg_op_<|op_stA .z ty45 hs77 rfl rfl rfl rfl rfl ?_
 intro w79 p80 hs81
 clear hs77
 refine Ri2<|Wa<|Mve (Value.map (some b6)) rfl<|Rop<|op_ldA 0 ty45 hs81 rfl rfl rfl<|Rg_op_<|op_mapUpdate (q:=kXPlace) (m:=mvB) (n:=xp57.1) (v:=true) (i:=2) Try.underlying98 kok45 hs81 rfl M_g44 rfl rfl rfl rfl (And.intro hk72 hk73) trivial ?_
 intro o82 w83 p84 hs85 M86
 clear hs81
 refine Ri2 ?_
 have hs87:=hs85.drop 0
 have p88:=(hs85.dropS 0)
 clear hs85
 replace ch55:=ch55.trans (p63.trans (p76.trans (p80.trans (p84.trans p88))))
 replace f65:=f65.step (p76.trans (p80.trans (p84.trans p88)))
 exact hK48 _ _ ⟨mput map_2 xp57.1 true,o61,r59++r60,o82,_,rfl,Frm.of trivial,ch55,hs87,f65.any,M86,hl71,jnE1 hsf47 hm⟩
 refine Wp_exit<|Wb<|Wb ?_
 obtain⟨hs89,p90⟩:=hs22.sub (bs':=[(some b6,o_g15)]) (.cons_cons _ (.cons _ List.Sublist.slnil))
 clear Fa Fb
 clear hs22
 refine Wa<|Mve (Value.map (some b6)) rfl ?_
 obtain⟨hs92,p93,f91⟩:=St.publishM (i:=0) hs89 rfl M_g15
 clear hs89
 refine Rop<|op_rangeM (q:=kXPlace) (m:=mvB) Try.underlying98 hs92 f91 rfl ?_
 intro b94 o95 rem96 w97 p98 hs99 f100 hp101
 clear hs92
 refine Ri2<|Wn2<|Wr [] [(2,Value.slice none 0 0),(26,Pt b94 0)] fun ξ106=>?_
 have hs111:=hs99.ghost (Obj.cells #[] 45)
 rw [← mrng1_perm hp101] at hm
 refine Wp_loopM q44_1 (fun m fr w'=>∃(l_1:List XPlace) (Ac:Option Addr) (Cc:Nat) (k_g104:Option Nat) (o_g104:Obj) (o_g105:Obj) (rem_g105:List (XPlace × Bool)) (Ebs:Ents),Ebs=[(k_g104,o_g104),(some b94,o_g105)]∧fr [] [(2,Sl Ac l_1 Cc)]∧hs111.S (ks Ebs O) w'∧St ⟨w,[],[]⟩ O w' Ebs∧Gs rXPlace 45 w' (ks Ebs O) Ac Cc l_1 k_g104 o_g104∧MitR kXPlace mvB w' (ks Ebs O) (Value.map (some b6)) o_g105 none rem_g105∧rem_g105.length<m∧mrng1 m44_reason_proof__places_B2 m44_reason_proof__places_K2 rem_g105 l_1=some x) (rem96.length+1) ⟨([]:List XPlace),none,0,none,Obj.cells #[] 45,o95,rem96,_,rfl,Frm.of ⟨rfl,trivial⟩,Step.refl _ _,hs111,Gs.nil_,f100.any,Nat.lt_succ_self _,hm⟩ ?_ ?_
 rintro _ _ ⟨_,_,_,_,_,_,_,_,_,_,_,_,_,_,hl,_⟩;exact absurd hl (Nat.not_lt_zero _)
 rintro m110 K109 hK109 ρ117 w113 ⟨l_1,Ac,Cc,k_g104,o_g104,o_g105,rem_g105,_,rfl,hfr116,hst115,hs114,Fc,M_g105,hl119,hm⟩
 rw [hfr116.eq];clear hfr116
 have ch118:=hst115
 refine Wb ?_
 clear f91 f100
 refine Wa<|Rop (op_nextM (q:=kXPlace) (m:=mvB) (i:=1) hs114 rfl M_g105 rfl ?_ ?_)
 intro hr121;subst hr121;replace hm:=mrng1_z hm;unfold m44_reason_proof__places_K2 at hm
 refine Rop<|op_extract (v:=Bo false) rfl rfl<|Ri2<|Wb<|Wp_cond_f rfl<|Wp_exit<|Wb ?_
 obtain⟨hs131,p132⟩:=hs114.sub (bs':=[(k_g104,o_g104)]) (.cons_cons _ (.cons _ List.Sublist.slnil))
 clear M_g105
 clear hs114
 refine Wa<|Mve (Sl Ac l_1 Cc) rfl ?_
 have F135:CallsTo2 Try.prog w113 (ks [(k_g104,o_g104)] O) (Value.func (.func 55) #[] #[]) (vA rXPlace) (vA rXPlace) (vI .i64) (fun x133 x134=>m55_reason_order x133 x134):=by
  intro w136 O137 st138 hO139 v142 v143 x133 x134 y140 h144 h145 hy141
  obtain⟨_,rfl,⟨_,_,rfl,⟨rfl,Rb⟩,⟨rfl,Rc⟩⟩⟩:=h144
  obtain⟨_,rfl,⟨_,_,rfl,⟨rfl,Rd⟩,⟨rfl,Re⟩⟩⟩:=h145
  exact⟨55,#[],#[],rfl,Try.call55,c55_reason_order (a:=x133) (b:=x134) hO139 Rb Rc Rd Re hy141⟩
 obtain⟨sorted_1,hv148,hm⟩:=bd hm
 obtain⟨hc149,hm⟩:=ck_some hm
 have F157:CallsTo2 Try.prog w113 (ks [(k_g104,o_g104)] O) (Value.func (.func 55) #[] #[]) (vA rXPlace) (vA rXPlace) (vI .i64) (fun x155 x156=>m55_reason_order x155 x156):=by
  intro w158 O159 st160 hO161 v164 v165 x155 x156 y162 h166 h167 hy163
  obtain⟨_,rfl,⟨_,_,rfl,⟨rfl,Rf⟩,⟨rfl,Rg⟩⟩⟩:=h166
  obtain⟨_,rfl,⟨_,_,rfl,⟨rfl,Rh⟩,⟨rfl,Ri⟩⟩⟩:=h167
  exact⟨55,#[],#[],rfl,Try.call55,c55_reason_order (a:=x155) (b:=x156) hO161 Rf Rg Rh Ri hy163⟩
 replace Fc:=Fc.step p132
 refine Rop<|op_sortGK (q:=rXPlace) (i:=0) (caps:=#[]) sortL68 rfl Try.call68 rfl Try.isAgg45 Try.sizeOf45 Try.call55 hs131 rfl Fc F135 hv148 hc149 rfl ?_
 intro w150 o151 hs152 p153 f154
 clear hs131
 refine Ri2<|Wb ?_
 clear F135 F157
 refine Wa<|Rop<|ok2 (v:=Sl Ac sorted_1 Cc) (eqlen rfl (show l_1.length=sorted_1.length from by rw [sortM_len hv148]))<|Asg (Sl Ac sorted_1 Cc) rfl<|Ri2<|Wp_ret<|⟨_,Clo,[Sl Ac sorted_1 Cc],⟨rfl,trivial⟩,hs152.ext,?_⟩
 exact OkG.mk (i:=0) hs152 rfl f154 (oi hm)
 intro xp120 r122 r123 o124 w125 hr121 p126 hs127 f128 hk129 ho130;subst hr121
 have hl170:(r122++r123).length<m110:=by have:=hl119;simp only [List.length_append,List.length_cons] at this ⊢;omega
 obtain⟨sf107,hsf108,hm⟩:=mrng1_s hm;unfold m44_reason_proof__places_B2 at hm
 clear hs114
 obtain⟨hk171,hk172⟩:=hk129
 refine Rop<|op_extract (v:=Bo true) rfl rfl<|Ri2<|Wb<|Wp_cond_t rfl<|Ws2<|Wn2<|Wb ?_
 clear M_g105
 refine Wa<|Rop<|op_entryM (q:=kXPlace) (m:=mvB) (i:=1) hs127 rfl f128 rfl<|Rop<|op_extract (v:=Value.agg [Iv xp120.1.leaf,Iv xp120.1.cell].toArray) rfl rfl<|Rop<|op_alloc ty45 hs127 ?_
 intro b173 w174 _ p175 hs176
 clear hs127
 refine Rg_op_<|op_stA .z ty45 hs176 rfl rfl rfl rfl rfl ?_
 intro w178 p179 hs180
 clear hs176
 refine Ri2<|Wa<|Mve (Sl Ac l_1 Cc) rfl<|Rop<|op_ldA 0 ty45 hs180 rfl rfl rfl<|Rop<|op_buildSlice (cs:=[Iv xp120.1.leaf,Iv xp120.1.cell]) (parts:=[(0,.tmp 32)]) ty32 ty45 hs180 (by decide) rfl ?_
 intro b181 w182 hx185 p183 hs184
 clear hs180
 obtain⟨hc187,hm⟩:=ck_some hm
 have p196:=(p126.trans (p175.trans (p179.trans p183)))
 replace Fc:=Fc.step p196
 refine Rop (op_append (q:=rXPlace) (i:=2) (xs:=l_1) (ys:=[xp120.1]) (news:=[Iv xp120.1.leaf,Iv xp120.1.cell]) ty32 ty45 rfl (by decide) hs184 rfl rfl Fc rfl (Src.owned' (len:=2) (hs184.get (i:=0) rfl) rfl) (show Els rXPlace _ _ [Iv xp120.1.leaf,Iv xp120.1.cell] [xp120.1] from⟨_,_,rfl,mkVia (mk_pair (mk_int hk171) (mk_int hk172)),Els.nil⟩) hc187 (by have:=hc187;simp only [maxLen];omega) ?_)
 intro a191 c192 k193 o194 w188 p189 hs190 f195
 clear hs184
 have hs197:=hs190.drop 0
 have p198:=(hs190.dropS 0)
 clear hs190
 refine Asg (Sl a191 (l_1++[xp120.1]) c192) rfl<|Ri2 ?_
 have hs199:=hs197.drop 0
 have p200:=(hs197.dropS 0)
 clear hs197
 replace ch118:=ch118.trans (p196.trans (p189.trans (p198.trans p200)))
 replace f128:=f128.step (p175.trans (p179.trans (p183.trans (p189.trans (p198.trans p200)))))
 replace f195:=f195.step (p198.trans p200)
 exact hK109 _ _ ⟨l_1++[xp120.1],a191,c192,k193,o194,o124,r122++r123,_,rfl,Frm.of ⟨rfl,trivial⟩,ch118,hs199,f195,f128.any,hl170,jnE1 hsf108 hm⟩
abbrev q77_0:List Nat:=[4,5,8,9,10,11,12,13,14,15,16,17,18]

def m77_api_Place__B0 (s:List XPlace) (f:XPlace→Option Bool) (sf4:Int→Option Int) (v_1:Int):Option Int:=
 bif (decide (v_1<(s.length:Int))) then
  ck ((0:Int)≤v_1∧v_1<(s.length:Int))<|
  (f (s.getD v_1.toNat default)).bind fun r_1=>
  bif r_1 then
   some v_1
  else
   sf4 (IntKind.wrap .i64 (v_1+1))
 else
  some (-1)

def m77_api_Place_ (s:List XPlace) (f:XPlace→Option Bool):Option Int:=
 loop1 (m77_api_Place__B0 s f) (((s.length:Int) - 0).toNat+1) 0

theorem c77_api_Place_ {w:World} {O:List Nat} {s:List XPlace} {f:XPlace→Option Bool} {Aa:Option Addr} {Ca:Nat} {v_f:Value} (hO:∀k∈O,k<w.heap.size) (Fa:SlR rXPlace w O Aa Ca s) (F_f:CallsTo1 Try.prog w O v_f (vA rXPlace) vB f) {x:Int} (hm:m77_api_Place_ s f=some x):
 Ok Try.prog 77 [Sl Aa s Ca,v_f] w O (vI .i64) x:=by
 unfold m77_api_Place_ at hm
 refine Fn_of_Wp (n:=19) (xs:=[.tmp 4]) Try.func77 rfl Try.ntmps77 Try.results77 rfl ?_
 have hs:=St.start hO
 refine Wb<|Wa<|Asg (Iv 0) rfl<|Ri2<|Wb<|Wb<|Wa<|Mve (Sl Aa s Ca) rfl<|Rop<|op_len Try.underlying32 rfl ?_
 have rl1:=inK_len Fa
 refine Mve (Iv 0) rfl<|Ri2<|Wn2<|Wr [] [(0,Sl Aa s Ca),(1,v_f),(7,Iv (s.length:Int)),(8,Iv 0)] fun ξ3=>Wp_loopM q77_0 (fun m fr w'=>∃(v_1:Int) (Ebs:Ents),Ebs=[]∧fr [] [(8,Iv v_1)]∧hs.S (ks Ebs O) w'∧St ⟨w,[],[]⟩ O w' Ebs∧InK .i64 v_1∧loop1 (m77_api_Place__B0 s f) m v_1=some x) (((s.length:Int) - 0).toNat+1) ⟨0,_,rfl,Frm.of ⟨rfl,trivial⟩,Step.refl _ _,hs,(show InK .i64 0 from by decide),hm⟩ ?_ ?_
 rintro _ _ ⟨_,_,_,_,_,_,_,hm⟩;exact loop1_z hm
 rintro m7 K6 hK6 ρ12 w8 ⟨v_1,_,rfl,hfr11,hst10,hs9,Ra,hm⟩
 obtain⟨sf4,hsf5,hm⟩:=loop1_s hm;unfold m77_api_Place__B0 at hm
 rw [hfr11.eq];clear hfr11
 have ch13:=hst10
 refine Wb<|Wa<|Rop<|op_lss rfl rfl<|Ri2<|Wb<|Wo2 hm rfl (fun hc14 hm=>?_) (fun hc14 hm=>?_)
 refine Ws2<|Wb<|Wn2<|Wb<|Wa<|Mve (Iv v_1) rfl<|Asg (Iv v_1) rfl<|Ri2<|Wb<|Wa<|Mve v_f rfl<|Mve (Sl Aa s Ca) rfl<|Mve (Iv v_1) rfl ?_
 obtain⟨hc15,hm⟩:=ck_some hm
 replace Fa:=Fa.step hst10
 refine Rop<|om2 (q:=rXPlace) ty32 ty45 rfl rfl Fa rfl hc15.1 hc15.2 ?_
 intro p16 f17
 refine Rop<|op_loadPA ty45 rfl f17 rfl ?_
 intro vs18 h19
 obtain⟨_,_,rfl,⟨rfl,Rb⟩,⟨rfl,Rc⟩⟩:=h19
 obtain⟨r_1,hv21,hm⟩:=bd hm
 replace F_f:=F_f.step hst10
 refine Rop<|op_callF rfl (F_f.call hs9.ltw (mkA (mkVia (mk_pair (mk_int Rb) (mk_int Rc)))) hv21) rfl ?_
 rintro v22 w23 ⟨hx24,h25⟩
 have hs26:=hs9.call hx24
 have p27:=hs9.stepE hx24
 clear hx24
 clear hs9
 obtain rfl:=h25
 refine Ri2<|Wo2 hm rfl (fun hc29 hm=>?_) (fun hc29 hm=>?_)
 refine Wb ?_
 clear Fa F_f f17
 refine Wa<|Mve (Iv v_1) rfl<|Asg (Iv v_1) rfl<|Ri2<|Wp_ret<|⟨_,Clo,[Iv v_1],⟨rfl,trivial⟩,hs26.ext,?_⟩
 exact Vr.eq (a:=(vI .i64)) (x:=v_1) ⟨rfl,Ra⟩ (oi hm)
 refine Ws2 ?_
 clear f17
 refine Wa<|Rop<|op_addw rfl rfl<|Mve (Iv (IntKind.wrap .i64 (v_1+1))) rfl<|Ri2 ?_
 replace ch13:=ch13.trans p27
 exact hK6 _ _ ⟨(IntKind.wrap .i64 (v_1+1)),_,rfl,Frm.of ⟨rfl,trivial⟩,ch13,hs26,(inK_wrap .i64 _),jnE1 hsf5 hm⟩
 refine Wp_exit<|Wb ?_
 clear Fa F_f
 refine Wa<|Asg (Iv (-1)) rfl<|Ri2<|Wp_ret<|⟨_,Clo,[Iv (-1)],⟨rfl,trivial⟩,hs9.ext,?_⟩
 exact Vr.eq (a:=(vI .i64)) (x:=(-1)) ⟨rfl,(show InK .i64 (-1) from by decide)⟩ (oi hm)

def m51_api_Place_ (s:List XPlace) (f:XPlace→Option Bool):Option Bool:=
 (m77_api_Place_ s f).bind fun place_1=>
 some (decide (0≤place_1))

theorem c51_api_Place_ {w:World} {O:List Nat} {s:List XPlace} {f:XPlace→Option Bool} {Aa:Option Addr} {Ca:Nat} {v_f:Value} (hO:∀k∈O,k<w.heap.size) (Fa:SlR rXPlace w O Aa Ca s) (F_f:CallsTo1 Try.prog w O v_f (vA rXPlace) vB f) {x:Bool} (hm:m51_api_Place_ s f=some x):
 Ok Try.prog 51 [Sl Aa s Ca,v_f] w O vB x:=by
 unfold m51_api_Place_ at hm
 refine Fn_of_Wp (n:=9) (xs:=[.tmp 4]) Try.func51 rfl Try.ntmps51 Try.results51 rfl ?_
 have hs:=St.start hO
 refine Wb<|Wa<|Asg (Bo false) rfl<|Ri2<|Wb<|Wa<|Mve (Sl Aa s Ca) rfl<|Mve v_f rfl ?_
 obtain⟨place_1,hv1,hm⟩:=bd hm
 refine Rop<|op_callE hs Try.call77 (c77_api_Place_ (s:=s) (f:=f) hs.ltw Fa F_f hv1) rfl ?_
 rintro v2 w3 p7 hs6 h5
 obtain⟨rfl,Ra⟩:=h5
 refine Rop<|op_geq rfl rfl<|Asg (Bo (decide (0≤place_1))) rfl<|Ri2<|Wp_ret<|⟨_,Clo,[Bo (decide (0≤place_1))],⟨rfl,trivial⟩,hs6.ext,?_⟩
 exact Vr.eq (a:=vB) (x:=decide (0≤place_1)) rfl (oi hm)

def m72_reason_proof__hits_1 (y:XPlace) (fv0_:List (XPlace × Bool)):Option Bool:=
 some ((mget fv0_ y).getD false)

theorem c72_reason_proof__hits_1 {w:World} {O:List Nat} {y:XPlace} {fv0_:List (XPlace × Bool)} {p_fv0_:Addr} (hO:∀k∈O,k<w.heap.size) (Ra:InK .i64 y.leaf) (Rb:InK .i64 y.cell) (Fa:PtR (rMp kXPlace mvB) w O p_fv0_ fv0_) {x:Bool} (hm:m72_reason_proof__hits_1 y fv0_=some x):
 Ok Try.prog 72 [Value.agg [Iv y.leaf,Iv y.cell].toArray,Value.pointer (some p_fv0_)] w O vB x:=by
 unfold m72_reason_proof__hits_1 at hm
 refine Fn_of_Wp (n:=7) (xs:=[.tmp 3]) Try.func72 rfl Try.ntmps72 Try.results72 rfl ?_
 have hs:=St.start hO
 refine Wb<|Wa<|Rop<|op_box (cs:=[Iv y.leaf,Iv y.cell]) hs rfl rfl ?_
 intro b1 w2 _ p3 hs4
 refine Asg (Bo false) rfl<|Ri2<|Wb<|Wa ?_
 replace Fa:=Fa.step p3
 refine Rop<|ot2 ty98 rfl Fa rfl ?_
 intro v6 h7
 have M8:=un_mp h7;clear h7
 refine Rop<|op_ldA 0 ty45 hs4 rfl rfl rfl<|Rop<|op_lookupR (q:=kXPlace) (m:=mvB) (n:=y) (z:=false) Try.underlying98 kok45 Try.zeroValue4 M8 (And.intro Ra Rb) rfl rfl<|Asg (Bo ((mget fv0_ y).getD false)) rfl<|Ri2<|Wp_ret<|⟨_,Clo,[Bo ((mget fv0_ y).getD false)],⟨rfl,trivial⟩,hs4.ext,?_⟩
 exact Vr.eq (a:=vB) (x:=(mget fv0_ y).getD false) rfl (oi hm)

abbrev q46_0:List Nat:=[4,6,10,11,12,13,14,15,16,17,18]

def m46_reason_proof__hits_B0 (x_:XProof) (places:List XPlace) (sf9:Int→Option Bool) (v_1:Int):Option Bool:=
 bif (decide (v_1<(x_.bad.length:Int))) then
  ck ((0:Int)≤v_1∧v_1<(x_.bad.length:Int))<|
  (m51_api_Place_ places (fun x37=>m72_reason_proof__hits_1 x37 (x_.bad.getD v_1.toNat default))).bind fun place_1=>
  bif (!place_1) then
   some false
  else
   sf9 (IntKind.wrap .i64 (v_1+1))
 else
  some true

def m46_reason_proof__hits (x_:XProof) (places:List XPlace):Option Bool:=
 loop1 (m46_reason_proof__hits_B0 x_ places) (((x_.bad.length:Int) - 0).toNat+1) 0

theorem c46_reason_proof__hits {w:World} {O:List Nat} {x_:XProof} {places:List XPlace} {Aa:Option Addr} {Ca:Nat} {Ab:Option Addr} {Cb:Nat} {Ac:Option Addr} {Cc:Nat} (hO:∀k∈O,k<w.heap.size) (Fa:SlR (rInt .i64) w O Aa Ca x_.variables) (Fb:SlR (rMp kXPlace mvB) w O Ab Cb x_.bad) (Fc:SlR rXPlace w O Ac Cc places) {x:Bool} (hm:m46_reason_proof__hits x_ places=some x):
 Ok Try.prog 46 [Value.agg [Sl Aa x_.variables Ca,Sl Ab x_.bad Cb].toArray,Sl Ac places Cc] w O vB x:=by
 unfold m46_reason_proof__hits at hm
 refine Fn_of_Wp (n:=19) (xs:=[.tmp 4]) Try.func46 rfl Try.ntmps46 Try.results46 rfl ?_
 have hs:=St.start hO
 refine Wb<|Wa<|Rop<|op_box (cs:=[Sl Aa x_.variables Ca,Sl Ab x_.bad Cb]) hs rfl rfl ?_
 intro b1 w2 _ p3 hs4
 refine Asg (Bo false) rfl<|Ri2<|Wb<|Wb<|Wa<|Rop<|op2 1 ty86 rfl ty84 rfl rfl<|Rop<|oq2 0 ty84 hs4 rfl rfl rfl<|Rop<|op_len Try.underlying84 rfl ?_
 replace Fb:=Fb.step p3
 have rl6:=inK_len Fb
 refine Mve (Iv 0) rfl<|Ri2<|Wn2<|Wr [] [(1,Sl Ac places Cc),(8,Sl Ab x_.bad Cb),(9,Iv (x_.bad.length:Int)),(10,Iv 0)] fun ξ8=>Wp_loopM q46_0 (fun m fr w'=>∃(v_1:Int) (Ebs:Ents),Ebs=[(some b1,Oc [Sl Aa x_.variables Ca,Sl Ab x_.bad Cb] 86)]∧fr [] [(10,Iv v_1)]∧hs4.S (ks Ebs O) w'∧St ⟨w,[],[]⟩ O w' Ebs∧InK .i64 v_1∧loop1 (m46_reason_proof__hits_B0 x_ places) m v_1=some x) (((x_.bad.length:Int) - 0).toNat+1) ⟨0,_,rfl,Frm.of ⟨rfl,trivial⟩,Step.refl _ _,hs4,(show InK .i64 0 from by decide),hm⟩ ?_ ?_
 rintro _ _ ⟨_,_,_,_,_,_,_,hm⟩;exact loop1_z hm
 rintro m12 K11 hK11 ρ17 w13 ⟨v_1,_,rfl,hfr16,hst15,hs14,Ra,hm⟩
 obtain⟨sf9,hsf10,hm⟩:=loop1_s hm;unfold m46_reason_proof__hits_B0 at hm
 rw [hfr16.eq];clear hfr16
 have ch18:=hst15
 refine Wb<|Wa<|Rop<|op_lss rfl rfl<|Ri2<|Wb<|Wo2 hm rfl (fun hc19 hm=>?_) (fun hc19 hm=>?_)
 refine Ws2<|Wb<|Wn2<|Wb<|Wa ?_
 obtain⟨hc20,hm⟩:=ck_some hm
 replace Fb:=Fb.step hst15
 refine Rop<|om2 (q:=rMp kXPlace mvB) ty84 ty98 rfl rfl Fb rfl hc20.1 hc20.2 ?_
 intro p21 f22
 refine Rop<|ot2 ty98 rfl f22 rfl ?_
 intro v23 h24
 have M25:=un_mp h24;clear h24
 refine Rop<|op_alloc ty98 hs14 ?_
 intro b26 w27 _ p28 hs29
 clear hs14
 replace M25:=M25.step p28
 refine Rg_op_ (op_store (cs:=[Value.map none]) (vs:=[v23]) (cs':=[v23]) (bs':=[(some b26,Oc [v23] 98),(some b1,Oc [Sl Aa x_.variables Ca,Sl Ab x_.bad Cb] 86)]) (i:=0) ty98 hs29 rfl rfl rfl (MpR.cells1 M25) rfl (le_lit rfl) (by simp only [List.all_cons,MpR.one1 M25]<;> rfl) rfl rfl ?_)
 intro w31 p32 hs33
 clear hs29
 refine Ri2<|Wb ?_
 clear f22
 refine Wa<|Mve (Sl Ac places Cc) rfl ?_
 replace M25:=M25.step p32
 obtain⟨hs35,p36,f34⟩:=St.publishP (p:=rMp kXPlace mvB) (i:=0) (x:=x_.bad.getD v_1.toNat default) hs33 rfl (mk_mp M25)
 clear hs33
 refine Rop<|op_makeFunc' (a':=[]) (c':=[Value.pointer (some (⟨b26,0,none⟩:Addr))]) rfl rfl ?_
 have F38:CallsTo1 Try.prog w31 (ks [(some b1,Oc [Sl Aa x_.variables Ca,Sl Ab x_.bad Cb] 86)] O) (Value.func (.func 72) #[] #[Value.pointer (some (⟨b26,0,none⟩:Addr))]) (vA rXPlace) vB (fun x37=>m72_reason_proof__hits_1 x37 (x_.bad.getD v_1.toNat default)):=by
  intro w39 O40 st41 hO42 v45 x37 y43 h46 hy44
  obtain⟨_,rfl,⟨_,_,rfl,⟨rfl,Rb⟩,⟨rfl,Rc⟩⟩⟩:=h46
  exact⟨72,#[],#[Value.pointer (some (⟨b26,0,none⟩:Addr))],rfl,Try.call72,c72_reason_proof__hits_1 (y:=x37) hO42 Rb Rc (f34.step st41) hy44⟩
 obtain⟨place_1,hv48,hm⟩:=bd hm
 have p54:=(p3.trans (hst15.trans (p28.trans (p32.trans p36))))
 replace Fc:=Fc.step p54
 refine Rop<|op_callE hs35 Try.call51 (c51_api_Place_ (s:=places) (f:=(fun x37=>m72_reason_proof__hits_1 x37 (x_.bad.getD v_1.toNat default))) hs35.ltw Fc F38 hv48) rfl ?_
 rintro v49 w50 p55 hs53 h52
 clear hs35
 obtain rfl:=h52
 refine Rop<|op_not rfl<|Ri2<|Wo2 hm rfl (fun hc57 hm=>?_) (fun hc57 hm=>?_)
 refine Wb ?_
 clear Fc M25 f34 F38
 refine Wa<|Asg (Bo false) rfl<|Ri2<|Wp_ret<|⟨_,Clo,[Bo false],⟨rfl,trivial⟩,hs53.ext,?_⟩
 exact Vr.eq (a:=vB) (x:=false) rfl (oi hm)
 refine Ws2 ?_
 clear M25 f34 F38
 refine Wa<|Rop<|op_addw rfl rfl<|Mve (Iv (IntKind.wrap .i64 (v_1+1))) rfl<|Ri2 ?_
 have p58:=(p28.trans (p32.trans (p36.trans p55)))
 replace ch18:=ch18.trans p58
 exact hK11 _ _ ⟨(IntKind.wrap .i64 (v_1+1)),_,rfl,Frm.of ⟨rfl,trivial⟩,ch18,hs53,(inK_wrap .i64 _),jnE1 hsf10 hm⟩
 refine Wp_exit<|Wb ?_
 obtain⟨hs59,p60⟩:=hs14.sub (bs':=[]) (.cons _ List.Sublist.slnil)
 clear Fa Fb Fc
 clear hs14
 refine Wa<|Asg (Bo true) rfl<|Ri2<|Wp_ret<|⟨_,Clo,[Bo true],⟨rfl,trivial⟩,hs59.ext,?_⟩
 exact Vr.eq (a:=vB) (x:=true) rfl (oi hm)

abbrev q13_1:List Nat:=[10,11,46,47,48,49,50,51,52,53,54,55,78]

abbrev q13_0:List Nat:=[13,15,59,60,61,62,63,64,65,66,67,68,69,70]

abbrev q13_2:List Nat:=[8,10,11,42,43,44,45,46,47,48,49,50,51,52,53,54,55,78]

abbrev q13_3:List Nat:=[6,7,8,10,11,29,30,31,32,33,34,35,36,37,38,39,40,41,42,43,44,45,46,47,48,49,50,51,52,53,54,55,78]

def m13_reason_Smallest_B4 (proofs_1:(List XProof)) (v_5:Int) (k262:(List XPlace)→Int→Bool→(List Int)→(List XPlace)→Option (XReason × Bool × Int)) (v_11:Int) (v_12:Bool) (v_13:List Int) (v_14:List XPlace) (sf301:(List XPlace)→Int→Bool→(List Int)→(List XPlace)→Option (XReason × Bool × Int)) (xi292:(List Int)) (sf323:(List XPlace)→Int→(List XPlace)→Option (XReason × Bool × Int)) (places_2:List XPlace) (v_15:Int) (v_16:List XPlace):Option (XReason × Bool × Int):=
 bif (decide (v_15<(xi292.length:Int))) then
  ck ((0:Int)≤v_15∧v_15<(xi292.length:Int))<|
  ck ((0:Int)≤(xi292.getD v_15.toNat default)∧(xi292.getD v_15.toNat default)<(v_16.length:Int))<|
  ck ((places_2.length+[v_16.getD (xi292.getD v_15.toNat default).toNat default].length)*16≤140737488355328)<|
  sf323 (places_2++[v_16.getD (xi292.getD v_15.toNat default).toNat default]) (IntKind.wrap .i64 (v_15+1)) v_16
 else
  (m46_reason_proof__hits (proofs_1.getD v_5.toNat default) places_2).bind fun hits_1=>
  bif hits_1 then
   k262 v_16 0 true ((proofs_1.getD v_5.toNat default).variables) places_2
  else
   sf301 v_16 v_11 v_12 v_13 v_14

def m13_reason_Smallest_B3 (proofs_1:(List XProof)) (v_5:Int) (k262:(List XPlace)→Int→Bool→(List Int)→(List XPlace)→Option (XReason × Bool × Int)) (sf301:(List XPlace)→Int→Bool→(List Int)→(List XPlace)→Option (XReason × Bool × Int)) (xi292:(List Int)) (v_10:List XPlace) (v_11:Int) (v_12:Bool) (v_13:List Int) (v_14:List XPlace):Option (XReason × Bool × Int):=
 loop3 (m13_reason_Smallest_B4 proofs_1 v_5 k262 v_11 v_12 v_13 v_14 sf301 xi292) (((xi292.length:Int) - 0).toNat+1) ([]:List XPlace) 0 v_10

def m13_reason_Smallest_B2 (proofs_1:(List XProof)) (m_1:Int) (sf177:Int→Int→Bool→(List Int)→(List XPlace)→Option (XReason × Bool × Int)) (sf198:Int→Int→Bool→(List Int)→(List XPlace)→Option (XReason × Bool × Int)) (v_5:Int) (v_6:Int) (v_7:Bool) (v_8:List Int) (v_9:List XPlace):Option (XReason × Bool × Int):=
 bif (decide (v_5<(proofs_1.length:Int))) then
  ck ((0:Int)≤v_5∧v_5<(proofs_1.length:Int))<|
  (m44_reason_proof__places (proofs_1.getD v_5.toNat default)).bind fun places_1=>
  (m45_reason_lists (places_1.length:Int) m_1).bind fun lists_1=>
  jn (fun(v_10:List XPlace) (v_11:Int) (v_12:Bool) (v_13:List Int) (v_14:List XPlace)=>
   sf198 (IntKind.wrap .i64 (v_5+1)) v_11 v_12 v_13 v_14)
  (fun k260=>
   jn (fun(v_10:List XPlace) (v_11:Int) (v_12:Bool) (v_13:List Int) (v_14:List XPlace)=>
    some ((⟨v_13,v_14⟩:XReason),v_12,v_11))
   (fun k262=>
    rng5 (m13_reason_Smallest_B3 proofs_1 v_5 k262) k260 lists_1 places_1 v_6 v_7 v_8 v_9))
 else
  sf177 (IntKind.wrap .i64 (m_1+1)) v_6 v_7 v_8 v_9

def m13_reason_Smallest_B1 (proofs_1:(List XProof)) (sf177:Int→Int→Bool→(List Int)→(List XPlace)→Option (XReason × Bool × Int)) (m_1:Int) (v_1:Int) (v_2:Bool) (v_3:List Int) (v_4:List XPlace):Option (XReason × Bool × Int):=
 loop5 (m13_reason_Smallest_B2 proofs_1 m_1 sf177) (((proofs_1.length:Int) - 0).toNat+1) 0 v_1 v_2 v_3 v_4

def m13_reason_Smallest_B0 (p:XProblem) (check_1:Int) (tabled_1:XTable) (sf136:Int→Option (XReason × Bool × Int)) (k_1:Int):Option (XReason × Bool × Int):=
 bif (decide (k_1≤(p.variables.length:Int))) then
  (m43_reason_table__proofs tabled_1 k_1).bind fun proofs_1=>
  bif (decide ((proofs_1.length:Int)=0)) then
   sf136 (IntKind.wrap .i64 (k_1+1))
  else
   loop5 (m13_reason_Smallest_B1 proofs_1) 1000000 1 check_1 false ([]:List Int) ([]:List XPlace)
 else
  some ((⟨([]:List Int),([]:List XPlace)⟩:XReason),false,0)

def m13_reason_Smallest (p:XProblem):Option (XReason × Bool × Int):=
 (m12_problem_Check p).bind fun check_1=>
 bif (decide (check_1≠0)) then
  jn (some ((⟨([]:List Int),([]:List XPlace)⟩:XReason),false,check_1))
  (fun k35=>
   k35)
 else
  bif (decide (16<(p.variables.length:Int))) then
   some ((⟨([]:List Int),([]:List XPlace)⟩:XReason),false,2)
  else
   (m42_reason_tabled p).bind fun tabled_1=>
   loop1 (m13_reason_Smallest_B0 p check_1 tabled_1) 1000000 1

theorem c13_reason_Smallest {w:World} {O:List Nat} {p:XProblem} {Aa:Option Addr} {Ca:Nat} {Ab:Option Addr} {Cb:Nat} {Ac:Option Addr} {Cc:Nat} (hO:∀k∈O,k<w.heap.size) (Fa:SlR rXCell w O Aa Ca p.cells) (Fb:SlR (rSl (rInt .i64)) w O Ab Cb p.capacity) (Fc:SlR rXVariable w O Ac Cc p.variables) {x:XReason × Bool × Int} (hm:m13_reason_Smallest p=some x):
 Ok Try.prog 13 [Value.agg [Sl Aa p.cells Ca,Sl Ab p.capacity Cb,Sl Ac p.variables Cc].toArray] w O (vT3 (vA rXReason) vB (vI .i64)) x:=by
 unfold m13_reason_Smallest at hm
 refine Fn_of_Wp (n:=80) (xs:=[.cell 2 34,.cell 3 4,.cell 4 29]) Try.func13 rfl Try.ntmps13 Try.results13 rfl ?_
 have hs:=St.start hO
 refine Wb<|Wa<|Rop<|op_box (cs:=[Sl Aa p.cells Ca,Sl Ab p.capacity Cb,Sl Ac p.variables Cc]) hs rfl rfl ?_
 intro b1 w2 _ p3 hs4
 refine Rop<|op_alloc ty34 hs4 ?_
 intro b6 w7 _ p8 hs9
 clear hs4
 refine Rop<|op_alloc ty4 hs9 ?_
 intro b11 w12 _ p13 hs14
 clear hs9
 refine Rop<|op_alloc ty29 hs14 ?_
 intro b16 w17 _ p18 hs19
 clear hs14
 refine Ri2<|Wb<|Wb<|Wa<|Rop<|op_ldA 3 ty26 hs19 rfl rfl rfl ?_
 obtain⟨check_1,hv21,hm⟩:=bd hm
 have p27:=(p3.trans (p8.trans (p13.trans p18)))
 replace Fb:=Fb.step p27;replace Fa:=Fa.step p27;replace Fc:=Fc.step p27
 refine Rop<|op_callE hs19 Try.call12 (c12_problem_Check (p:=p) hs19.ltw Fa Fb Fc hv21) rfl ?_
 rintro v22 w23 p28 hs26 h25
 clear hs19
 obtain⟨rfl,Ra⟩:=h25
 refine Rg_op_<|op_stS (Iv check_1) .z ty29 hs26 rfl rfl rfl rfl ?_
 intro w30 p31 hs32
 clear hs26
 refine Ri2<|Wb<|Wa<|Rop<|oq2 0 ty29 hs32 rfl rfl rfl<|Rop<|op_neq rfl rfl<|Ri2<|Wo2 hm rfl (fun hc33 hm=>?_) (fun hc33 hm=>?_)
 refine Wr [] [(2,Pt b6 0),(3,Pt b11 0),(4,Pt b16 0)] fun ξ34=>?_
 obtain⟨k35,hk36,hm⟩:=jn_elim hm
 refine Wp_seqJ [20,21] (fun fr w'=>∃(Ebs:Ents),Ebs=[(some b16,Oc [Iv check_1] 29),(some b11,Oc [Bo false] 4),(some b6,Oc [Value.slice none 0 0,Value.slice none 0 0] 34),(some b1,Oc [Sl Aa p.cells Ca,Sl Ab p.capacity Cb,Sl Ac p.variables Cc] 26)]∧fr [] []∧hs32.S (ks Ebs O) w'∧St ⟨w,[],[]⟩ O w' Ebs∧k35=some x) ?_ ?_
 rintro ρ42 w38 ⟨_,rfl,hfr41,hst40,hs39,hm⟩
 replace hm:=jnE0 hk36 hm
 rw [hfr41.eq];clear hfr41
 refine Wp_ret<|⟨_,Clo,[Value.agg [Value.slice none 0 0,Value.slice none 0 0].toArray,Bo false,Iv check_1],⟨resA (cs:=[Value.slice none 0 0,Value.slice none 0 0]) (vs:=[Value.slice none 0 0,Value.slice none 0 0]) ty34 (i:=2) hs39 rfl rfl rfl rfl,res1 (cs:=[Bo false]) ty4 (i:=1) hs39 rfl rfl rfl,res1 (cs:=[Iv check_1]) ty29 (i:=0) hs39 rfl rfl rfl,trivial⟩,hs39.ext,?_⟩
 exact Vr.eq (a:=vT3 (vA rXReason) vB (vI .i64)) (x:=((⟨([]:List Int),([]:List XPlace)⟩:XReason),false,check_1)) (mkT3 (mkA (mkVia (mk_pair (mk_sl SlR.nil_) (mk_sl SlR.nil_)))) rfl ⟨rfl,Ra⟩) (oi hm)
 intro K37 hK37
 have ch43:=hs32.stepR
 refine Wp_drawLR (g0:=[]) (m:=2) (fl:=[]) (f:=1) (TS_inv hs32) rfl (.inl rfl) rfl (by decide+kernel) rfl ?_  -- 3
 refine Dw_p (Value.agg [Value.slice none 0 0,Value.slice none 0 0].toArray) (fun _ _ _ hi ht=>op_ldA 2 ty34 (Step.nx hi).1 (ht 2 rfl) rfl rfl<|Gz hi)<|Dw_p (Iv check_1) (fun _ _ _ hi ht=>oq2 0 ty29 (Step.nx hi).1 (ht 4 rfl) rfl rfl<|Gz hi)<|Dw_nilL (fun w50 g51 hl52 hi53=>?_) (fun w50 g51 hl52 hi53=>?_)
 obtain⟨-,hst58,-⟩:=hl52
 obtain⟨hs60,p59⟩:=Step.nx hi53
 rintro _ rfl _ rfl
 have p61:=hs32.to hs60 (hst58.trans p59)
 refine Rg_op_<|op_stA Put.p2 ty34 hs60 rfl rfl rfl rfl rfl ?_
 intro w62 p63 hs64
 clear hs60
 refine Rg_op_<|op_stS (Bo false) Put.p1 ty4 hs64 rfl rfl rfl rfl ?_
 intro w65 p66 hs67
 clear hs64
 refine Rg_op_<|op_stS (Iv check_1) .z ty29 hs67 rfl rfl rfl rfl ?_
 intro w68 p69 hs70
 clear hs67
 refine Ri2 ?_
 replace ch43:=ch43.trans (p61.trans (p63.trans (p66.trans p69)))
 exact hK37 _ _ ⟨_,rfl,Frm.of trivial,ch43,hs70,hm⟩
 obtain⟨-,hst75,-⟩:=hl52
 obtain⟨hs77,p76⟩:=Step.nx hi53
 rintro _ rfl
 have p78:=hs32.to hs77 (hst75.trans p76)
 refine TailP_go rfl rfl (by decide) rfl (by decide) ?_ ?_
 refine StepOp_plain_<|op_stA Put.p2 ty34 hs77 rfl rfl rfl rfl rfl ?_
 intro w79 p80 hs81
 clear hs77
 refine TailP_go rfl rfl (by decide) rfl (by decide) ?_ ?_
 refine StepOp_plain_<|op_stS (Bo false) Put.p1 ty4 hs81 rfl rfl rfl rfl ?_
 intro w82 p83 hs84
 clear hs81
 refine TailP_fin rfl (by decide) (.inr (by decide+kernel))<|Sj2<|oq2 0 ty29 hs84 rfl rfl rfl<|Rg_op_<|op_stS (Iv check_1) .z ty29 hs84 rfl rfl rfl rfl ?_
 intro w85 p86 hs87
 clear hs84
 refine Ri2 ?_
 replace ch43:=ch43.trans (p78.trans (p80.trans (p83.trans p86)))
 exact hK37 _ _ ⟨_,rfl,Frm.of trivial,ch43,hs87,hm⟩
 refine Sj2<|oq2 0 ty29 hs81 rfl rfl rfl<|Rg_op_<|op_stS (Bo false) Put.p1 ty4 hs81 rfl rfl rfl rfl ?_
 intro w88 p89 hs90
 clear hs81
 refine Rg_op_<|op_stS (Iv check_1) .z ty29 hs90 rfl rfl rfl rfl ?_
 intro w91 p92 hs93
 clear hs90
 refine Ri2 ?_
 replace ch43:=ch43.trans (p78.trans (p80.trans (p89.trans p92)))
 exact hK37 _ _ ⟨_,rfl,Frm.of trivial,ch43,hs93,hm⟩
 refine Sj2<|oq2 0 ty29 hs77 rfl rfl rfl<|Rg_op_<|op_stA Put.p2 ty34 hs77 rfl rfl rfl rfl rfl ?_
 intro w94 p95 hs96
 clear hs77
 refine Rg_op_<|op_stS (Bo false) Put.p1 ty4 hs96 rfl rfl rfl rfl ?_
 intro w97 p98 hs99
 clear hs96
 refine Rg_op_<|op_stS (Iv check_1) .z ty29 hs99 rfl rfl rfl rfl ?_
 intro w100 p101 hs102
 clear hs99
 refine Ri2 ?_
 replace ch43:=ch43.trans (p78.trans (p95.trans (p98.trans p101)))
 exact hK37 _ _ ⟨_,rfl,Frm.of trivial,ch43,hs102,hm⟩
 refine Ws2<|Wb<|Wb<|Wa<|Rop<|op2 2 ty26 rfl ty24 rfl rfl<|Rop<|oq2 3 ty24 hs32 rfl rfl rfl<|Rop<|op_len Try.underlying24 rfl ?_
 have p104:=(p28.trans p31)
 replace Fc:=Fc.step p104
 have rl103:=inK_len Fc
 refine Rop<|op_gtr rfl rfl<|Ri2<|Wo2 hm rfl (fun hc105 hm=>?_) (fun hc105 hm=>?_)
 refine Wb ?_
 obtain⟨hs106,p107⟩:=hs32.sub (bs':=[(some b16,Oc [Iv check_1] 29),(some b11,Oc [Bo false] 4),(some b6,Oc [Value.slice none 0 0,Value.slice none 0 0] 34)]) (.cons_cons _ (.cons_cons _ (.cons_cons _ (.cons _ List.Sublist.slnil))))
 clear Fa Fb Fc
 refine Wa<|Rop<|op_ldA 2 ty34 hs106 rfl rfl rfl<|Rg_op_<|op_stA Put.p2 ty34 hs106 rfl rfl rfl rfl rfl ?_
 intro w108 p109 hs110
 clear hs106
 refine Rg_op_<|op_stS (Bo false) Put.p1 ty4 hs110 rfl rfl rfl rfl ?_
 intro w111 p112 hs113
 clear hs110
 refine Rg_op_<|op_stS (Iv 2) .z ty29 hs113 rfl rfl rfl rfl ?_
 intro w114 p115 hs116
 clear hs113
 refine Ri2<|Wp_ret<|⟨_,Clo,[Value.agg [Value.slice none 0 0,Value.slice none 0 0].toArray,Bo false,Iv 2],⟨resA (cs:=[Value.slice none 0 0,Value.slice none 0 0]) (vs:=[Value.slice none 0 0,Value.slice none 0 0]) ty34 (i:=2) hs116 rfl rfl rfl rfl,res1 (cs:=[Bo false]) ty4 (i:=1) hs116 rfl rfl rfl,res1 (cs:=[Iv 2]) ty29 (i:=0) hs116 rfl rfl rfl,trivial⟩,hs116.ext,?_⟩
 exact Vr.eq (a:=vT3 (vA rXReason) vB (vI .i64)) (x:=((⟨([]:List Int),([]:List XPlace)⟩:XReason),false,2)) (mkT3 (mkA (mkVia (mk_pair (mk_sl SlR.nil_) (mk_sl SlR.nil_)))) rfl ⟨rfl,(show InK .i64 2 from by decide)⟩) (oi hm)
 refine Ws2<|Wb<|Wa<|Rop<|op_ldA 3 ty26 hs32 rfl rfl rfl ?_
 obtain⟨tabled_1,hv117,hm⟩:=bd hm
 replace Fb:=Fb.step p104;replace Fa:=Fa.step p104
 refine Rop<|op_callE hs32 Try.call42 (c42_reason_tabled (p:=p) hs32.ltw Fa Fb Fc hv117) rfl ?_
 rintro v118 w119 p123 hs122 h121
 obtain⟨_,rfl,⟨_,_,rfl,⟨_,_,rfl,⟨Ad,Cd,rfl,Fd⟩,⟨_,_,rfl,⟨Ae,Ce,rfl,Fe⟩,⟨Af,Cf,rfl,Ff⟩⟩⟩,⟨Ag,Cg,rfl,Fg⟩⟩⟩:=h121
 refine Rop<|op_alloc ty80 hs122 ?_
 intro b125 w126 _ p127 hs128
 clear hs122
 refine Rg_op_<|op_stA .z ty80 hs128 rfl rfl rfl rfl rfl ?_
 intro w130 p131 hs132
 clear hs128
 refine Ri2<|Wb<|Wb<|Wa<|Asg (Iv 1) rfl<|Ri2<|Wn2<|Wr [] [(1,Pt b1 0),(2,Pt b6 0),(3,Pt b11 0),(4,Pt b16 0),(5,Pt b125 0),(6,Iv 1)] fun ξ135=>Wp_loopM q13_3 (fun m fr w'=>∃(k_1:Int) (Ds134:List Nat) (Ebs:Ents),Ebs=[(some b125,Oc [Sl Ad tabled_1.p.cells Cd,Sl Ae tabled_1.p.capacity Ce,Sl Af tabled_1.p.variables Cf,Sl Ag tabled_1.uses Cg] 80),(some b16,Oc [Iv check_1] 29),(some b11,Oc [Bo false] 4),(some b6,Oc [Value.slice none 0 0,Value.slice none 0 0] 34),(some b1,Oc [Sl Aa p.cells Ca,Sl Ab p.capacity Cb,Sl Ac p.variables Cc] 26)]∧fr (Ds134++[]) [(6,Iv k_1)]∧hs132.S (ks Ebs (Ds134++O)) w'∧St ⟨w,[],Ds134++[]⟩ (Ds134++O) w' Ebs∧InK .i64 k_1∧loop1 (m13_reason_Smallest_B0 p check_1 tabled_1) m k_1=some x) 1000000 ⟨1,[],_,rfl,Frm.of ⟨rfl,trivial⟩,Step.refl _ _,hs132,(show InK .i64 1 from by decide),hm⟩ ?_ ?_
 rintro _ _ ⟨_,_,_,_,_,_,_,_,hm⟩;exact loop1_z hm
 rintro m139 K138 hK138 ρ144 w140 ⟨k_1,Ds134,_,rfl,hfr143,hst142,hs141,Rb,hm⟩
 obtain⟨sf136,hsf137,hm⟩:=loop1_s hm;unfold m13_reason_Smallest_B0 at hm
 rw [hfr143.eq];clear hfr143
 have ch145:=hst142
 refine Wb<|Wb<|Wa<|Mve (Iv k_1) rfl<|Rop<|op2 2 ty26 rfl ty24 rfl rfl<|Rop<|oq2 4 ty24 hs141 rfl rfl rfl<|Rop<|op_len Try.underlying24 rfl ?_
 have p147:=(p123.trans (p127.trans (p131.trans hst142)))
 replace Fc:=Fc.step p147
 have rl146:=inK_len Fc
 refine Rop<|op_leq rfl rfl<|Ri2<|Wo2 hm rfl (fun hc148 hm=>?_) (fun hc148 hm=>?_)
 refine Ws2<|Wb<|Wn2<|Wb<|Wa<|Rop<|op_ldA 0 ty80 hs141 rfl rfl rfl<|Mve (Iv k_1) rfl ?_
 obtain⟨proofs_1,hv149,hm⟩:=bd hm
 have p161:=(p127.trans (p131.trans hst142))
 replace Fe:=Fe.step p161;replace Fd:=Fd.step p161;replace Ff:=Ff.step p161;replace Fg:=Fg.step p161
 refine Rop<|op_call Try.call43 (g43_reason_table__proofs (t:=tabled_1) (k:=k_1) hs141.ltw Fd Fe Ff Fg Rb hv149) rfl ?_
 rintro _ w151 ⟨hx152,a155,c156,k157,o158,rfl,hk159,f160⟩
 obtain⟨hs154,p162⟩:=hs141.callG (o:=o158) hx152 hk159
 rw [← ks_cons (o:=o158)] at f160
 clear hs141
 refine Asg (Sl a155 proofs_1 c156) rfl<|Ri2<|Wb<|Wb<|Wa<|Mve (Sl a155 proofs_1 c156) rfl<|Rop<|op_len Try.underlying82 rfl ?_
 have rl164:=inK_lenG f160
 refine Rop<|op_eql rfl rfl<|Ri2<|Wo2 hm rfl (fun hc165 hm=>?_) (fun hc165 hm=>?_)
 refine Wp_exit ?_
 clear f160
 refine Wa<|Mve (Iv k_1) rfl<|Rop<|op_addw rfl rfl<|Asg (Iv (IntKind.wrap .i64 (k_1+1))) rfl<|Ri2 ?_
 have hs166:=hs154.drop 0
 have p167:=(hs154.dropS 0)
 clear hs154
 have p168:=(p162.trans p167)
 replace ch145:=ch145.trans p168
 exact hK138 _ _ ⟨(IntKind.wrap .i64 (k_1+1)),Ds134,_,rfl,Frm.of ⟨rfl,trivial⟩,ch145,hs166,(inK_wrap .i64 _),jnE1 hsf137 hm⟩
 refine Ws2<|Wb<|Wa<|Asg (Iv 1) rfl<|Ri2<|Wn2<|Wr2 q13_3 (Ds134++[]) (updL ⟨ξ135,[]⟩ [(1,Pt b1 0),(2,Pt b6 0),(3,Pt b11 0),(4,Pt b16 0),(5,Pt b125 0),(6,Iv 1)]) [(6,Iv k_1),(7,Sl a155 proofs_1 c156),(8,Iv 1)] fun ξ176=>?_
 have hs181:=hs154.ghost (Obj.cells #[] 45)
 refine Wp_loopM q13_2 (fun m fr w'=>∃(m_1:Int) (v_1:Int) (v_2:Bool) (v_3:List Int) (v_4:List XPlace) (Ah:Option Addr) (Ch:Nat) (Ai:Option Addr) (Ci:Nat) (k_g174:Option Nat) (o_g174:Obj) (Ds175:List Nat) (Ebs:Ents),Ebs=[(k_g174,o_g174),(k157,o158),(some b125,Oc [Sl Ad tabled_1.p.cells Cd,Sl Ae tabled_1.p.capacity Ce,Sl Af tabled_1.p.variables Cf,Sl Ag tabled_1.uses Cg] 80),(some b16,Oc [Iv v_1] 29),(some b11,Oc [Bo v_2] 4),(some b6,Oc [Sl Ah v_3 Ch,Sl Ai v_4 Ci] 34),(some b1,Oc [Sl Aa p.cells Ca,Sl Ab p.capacity Cb,Sl Ac p.variables Cc] 26)]∧fr (Ds175++[]) [(8,Iv m_1)]∧hs181.S (ks Ebs (Ds175++O)) w'∧St ⟨w,[],Ds175++[]⟩ (Ds175++O) w' Ebs∧InK .i64 m_1∧InK .i64 v_1∧SlR (rInt .i64) w' (ks Ebs (Ds175++O)) Ah Ch v_3∧Gs rXPlace 45 w' (ks Ebs (Ds175++O)) Ai Ci v_4 k_g174 o_g174∧loop5 (m13_reason_Smallest_B1 proofs_1) m m_1 v_1 v_2 v_3 v_4=some x) 1000000 ⟨1,check_1,false,([]:List Int),([]:List XPlace),none,0,none,0,none,Obj.cells #[] 45,Ds134,_,rfl,Frm.of ⟨rfl,trivial⟩,Step.refl _ _,hs181,(show InK .i64 1 from by decide),Ra,SlR.nil_,Gs.nil_,hm⟩ ?_ ?_
 rintro _ _ ⟨_,_,_,_,_,_,_,_,_,_,_,_,_,_,_,_,_,_,_,_,_,hm⟩;exact loop5_z hm
 rintro m180 K179 hK179 ρ187 w183 ⟨m_1,v_1,v_2,v_3,v_4,Ah,Ch,Ai,Ci,k_g174,o_g174,Ds175,_,rfl,hfr186,hst185,hs184,Rc,Rd,Fh,Fi,hm⟩
 obtain⟨sf177,hsf178,hm⟩:=loop5_s hm;unfold m13_reason_Smallest_B1 at hm
 rw [hfr186.eq];clear hfr186
 have ch188:=hst185
 refine Wb<|Wn2<|Wb<|Wa<|Mve (Sl a155 proofs_1 c156) rfl<|Rop<|op_len Try.underlying82 rfl ?_
 replace f160:=f160.step hst185
 have rl189:=inK_lenG f160
 refine Mve (Iv 0) rfl<|Ri2<|Wn2<|Wr2 q13_2 (Ds175++[]) (updL (mix q13_3 (Ds134++[]) ξ176 (updL ⟨ξ135,[]⟩ [(1,Pt b1 0),(2,Pt b6 0),(3,Pt b11 0),(4,Pt b16 0),(5,Pt b125 0),(6,Iv 1)])) [(6,Iv k_1),(7,Sl a155 proofs_1 c156),(8,Iv 1)]) [(8,Iv m_1),(44,Sl a155 proofs_1 c156),(45,Iv (proofs_1.length:Int)),(46,Iv 0)] fun ξ197=>Wp_loopM q13_1 (fun m fr w'=>∃(v_5:Int) (v_6:Int) (v_7:Bool) (v_8:List Int) (v_9:List XPlace) (Aj:Option Addr) (Cj:Nat) (Ak:Option Addr) (Ck:Nat) (k_g195:Option Nat) (o_g195:Obj) (Ds196:List Nat) (Ebs:Ents),Ebs=[(k_g195,o_g195),(k157,o158),(some b125,Oc [Sl Ad tabled_1.p.cells Cd,Sl Ae tabled_1.p.capacity Ce,Sl Af tabled_1.p.variables Cf,Sl Ag tabled_1.uses Cg] 80),(some b16,Oc [Iv v_6] 29),(some b11,Oc [Bo v_7] 4),(some b6,Oc [Sl Aj v_8 Cj,Sl Ak v_9 Ck] 34),(some b1,Oc [Sl Aa p.cells Ca,Sl Ab p.capacity Cb,Sl Ac p.variables Cc] 26)]∧fr (Ds196++[]) [(46,Iv v_5)]∧hs184.S (ks Ebs (Ds196++O)) w'∧St ⟨w,[],Ds196++[]⟩ (Ds196++O) w' Ebs∧InK .i64 v_5∧InK .i64 v_6∧SlR (rInt .i64) w' (ks Ebs (Ds196++O)) Aj Cj v_8∧Gs rXPlace 45 w' (ks Ebs (Ds196++O)) Ak Ck v_9 k_g195 o_g195∧loop5 (m13_reason_Smallest_B2 proofs_1 m_1 sf177) m v_5 v_6 v_7 v_8 v_9=some x) (((proofs_1.length:Int) - 0).toNat+1) ⟨0,v_1,v_2,v_3,v_4,Ah,Ch,Ai,Ci,k_g174,o_g174,Ds175,_,rfl,Frm.of ⟨rfl,trivial⟩,Step.refl _ _,hs184,(show InK .i64 0 from by decide),Rd,Fh,Fi,hm⟩ ?_ ?_
 rintro _ _ ⟨_,_,_,_,_,_,_,_,_,_,_,_,_,_,_,_,_,_,_,_,_,hm⟩;exact loop5_z hm
 rintro m201 K200 hK200 ρ206 w202 ⟨v_5,v_6,v_7,v_8,v_9,Aj,Cj,Ak,Ck,k_g195,o_g195,Ds196,_,rfl,hfr205,hst204,hs203,Re,Rf,Fj,Fk,hm⟩
 obtain⟨sf198,hsf199,hm⟩:=loop5_s hm;unfold m13_reason_Smallest_B2 at hm
 rw [hfr205.eq];clear hfr205
 have ch207:=hst204
 refine Wb ?_
 clear Fh Fi
 refine Wa<|Rop<|op_lss rfl rfl<|Ri2<|Wb<|Wo2 hm rfl (fun hc208 hm=>?_) (fun hc208 hm=>?_)
 refine Ws2<|Wb<|Wn2<|Wb<|Wa ?_
 obtain⟨hc209,hm⟩:=ck_some hm
 replace f160:=f160.step hst204
 refine Rop<|op_indexAddrG ty82 ty86 rfl rfl f160 hc209 ?_
 rintro b210 rfl rfl
 refine Rop<|op_loadGA (i:=1) ty86 rfl hs203 rfl rfl f160 hc209 ?_
 intro vs211 h212
 obtain⟨_,_,rfl,⟨Al,Cl,rfl,Fl⟩,⟨Am,Cm,rfl,Fm⟩⟩:=h212
 refine Rop<|op_alloc ty86 hs203 ?_
 intro b214 w215 _ p216 hs217
 clear hs203
 refine Rg_op_<|op_stA .z ty86 hs217 rfl rfl rfl rfl rfl ?_
 intro w219 p220 hs221
 clear hs217
 refine Ri2<|Wb<|Wa<|Rop<|op_ldA 0 ty86 hs221 rfl rfl rfl ?_
 obtain⟨places_1,hv222,hm⟩:=bd hm
 have p234:=(p216.trans p220)
 replace Fm:=Fm.step p234;replace Fl:=Fl.step p234
 refine Rop<|op_call Try.call44 (g44_reason_proof__places (x_:=proofs_1.getD v_5.toNat default) hs221.ltw Fl Fm hv222) rfl ?_
 rintro _ w224 ⟨hx225,a228,c229,k230,o231,rfl,hk232,f233⟩
 obtain⟨hs227,p235⟩:=hs221.callG (o:=o231) hx225 hk232
 rw [← ks_cons (o:=o231)] at f233
 clear hs221
 refine Rop<|op_alloc ty32 hs227 ?_
 intro b237 w238 _ p239 hs240
 clear hs227
 refine Rg_op_<|op_stS (Sl a228 places_1 c229) .z ty32 hs240 rfl rfl rfl rfl ?_
 intro w242 p243 hs244
 clear hs240
 refine Ri2<|Wb<|Wa<|Rop<|oq2 0 ty32 hs244 rfl rfl rfl<|Rop<|op_len Try.underlying32 rfl ?_
 replace f233:=f233.step (p239.trans p243)
 have rl245:=inK_lenG f233
 refine Mve (Iv m_1) rfl ?_
 obtain⟨lists_1,hv246,hm⟩:=bd hm
 refine Rop<|op_callE hs244 Try.call45 (c45_reason_lists (n:=(places_1.length:Int)) (k:=m_1) hs244.ltw rl245 Rc hv246) rfl ?_
 rintro v247 w248 p252 hs251 h250
 have F_y253:ItR Try.prog (enc1 (vC (rSl (rInt .i64)))) _ _ v247 lists_1:=h250
 refine Ri2<|Wn2 ?_
 obtain⟨k260,hk261,hm⟩:=jn_elim hm
 obtain⟨k262,hk263,hm⟩:=jn_elim hm
 obtain⟨hs270,p269⟩:=hs251.front (i:=9) rfl
 clear hs251
 obtain⟨hs272,p271⟩:=hs270.front (i:=9) rfl
 obtain⟨hs274,p273⟩:=hs272.front (i:=9) rfl
 clear hs272
 obtain⟨hs276,p275⟩:=hs274.front (i:=9) rfl
 obtain⟨hs278,p277⟩:=hs276.front (i:=9) rfl
 obtain⟨hs280,p279⟩:=hs278.front (i:=9) rfl
 clear hs278
 obtain⟨hs282,p281⟩:=hs280.front (i:=8) rfl
 obtain⟨hs284,p283⟩:=hs282.front (i:=8) rfl
 clear hs282
 obtain⟨hs286,p285⟩:=hs284.front (i:=8) rfl
 clear hs284
 obtain⟨hs288,p287⟩:=hs286.front (i:=9) rfl
 clear hs286
 replace F_y253:=F_y253.step (p269.trans (p271.trans (p273.trans (p275.trans (p277.trans (p279.trans (p281.trans (p283.trans (p285.trans p287)))))))))
 have hit268:=F_y253;obtain⟨fk264,cp265,hvq266,hcl267,hit268⟩:=hit268
 replace f233:=f233.step (p252.trans (p269.trans (p271.trans (p273.trans (p275.trans (p277.trans (p279.trans (p281.trans (p283.trans (p285.trans p287))))))))))
 have p289:=(p234.trans (p235.trans (p239.trans (p243.trans (p252.trans (p269.trans (p271.trans (p273.trans (p275.trans (p277.trans (p279.trans (p281.trans (p283.trans (p285.trans p287))))))))))))))
 replace Fk:=Fk.step p289;replace Fj:=Fj.step p289
 refine Wp_rangeFunc (σ:=(List XPlace) × Int × Bool × (List Int) × (List XPlace) × (Option Addr) × Nat × (Option Nat) × Obj × (Option Addr) × Nat × (Option Addr) × Nat × (Option Nat) × Obj) (ps:=[56]) hs288 (rfl.trans hvq266) hcl267 hit268 rfl enc1_len enc1_step (fun s=>match s with |(v_10,v_11,v_12,v_13,v_14,An,Cn,k_g254,o_g254,Ao,Co,Ap,Cp,k_g259,o_g259)=>[(k_g259,o_g259),(some b237,Oc [Sl An v_10 Cn] 32),(k_g254,o_g254),(some b214,Oc [Sl Al ((proofs_1.getD v_5.toNat default).variables) Cl,Sl Am ((proofs_1.getD v_5.toNat default).bad) Cm] 86),(some b210,o158),(some b125,Oc [Sl Ad tabled_1.p.cells Cd,Sl Ae tabled_1.p.capacity Ce,Sl Af tabled_1.p.variables Cf,Sl Ag tabled_1.uses Cg] 80),(some b16,Oc [Iv v_11] 29),(some b11,Oc [Bo v_12] 4),(some b6,Oc [Sl Ao v_13 Co,Sl Ap v_14 Cp] 34),(some b1,Oc [Sl Aa p.cells Ca,Sl Ab p.capacity Cb,Sl Ac p.variables Cc] 26)]) (fun s w O=>match s with |(v_10,v_11,v_12,v_13,v_14,An,Cn,k_g254,o_g254,Ao,Co,Ap,Cp,k_g259,o_g259)=>Gs rXPlace 45 w O An Cn v_10 k_g254 o_g254∧InK .i64 v_11∧SlR (rInt .i64) w O Ao Co v_13∧Gs rXPlace 45 w O Ap Cp v_14 k_g259 o_g259) (fun s w O w' O' p h=>by obtain⟨v_10,v_11,v_12,v_13,v_14,An,Cn,k_g254,o_g254,Ao,Co,Ap,Cp,k_g259,o_g259⟩:=s;have h:Gs rXPlace 45 w O An Cn v_10 k_g254 o_g254∧InK .i64 v_11∧SlR (rInt .i64) w O Ao Co v_13∧Gs rXPlace 45 w O Ap Cp v_14 k_g259 o_g259:=h;obtain⟨Fn,Rg,Fo,Fp⟩:=h;exact⟨Fn.step p,Rg,Fo.step p,Fp.step p⟩) (fun s l=>match s with |(v_10,v_11,v_12,v_13,v_14,An,Cn,k_g254,o_g254,Ao,Co,Ap,Cp,k_g259,o_g259)=>rng5 (m13_reason_Smallest_B3 proofs_1 v_5 k262) k260 l v_10 v_11 v_12 v_13 v_14=some x) [none] (fun e s=>match e,s with |none,(v_10,v_11,v_12,v_13,v_14,An,Cn,k_g254,o_g254,Ao,Co,Ap,Cp,k_g259,o_g259)=>k262 v_10 v_11 v_12 v_13 v_14=some x |_,_=>False) (places_1,v_6,v_7,v_8,v_9,a228,c229,k230,o231,Aj,Cj,Ak,Ck,k_g195,o_g195) rfl ⟨f233,Rf,Fj,Fk⟩ hm ?_ ?_ ?_
 rintro l290 E291 ⟨v_10,v_11,v_12,v_13,v_14,An,Cn,k_g254,o_g254,Ao,Co,Ap,Cp,k_g259,o_g259⟩ xi292 rest293 w294 vs295 z296 hz297 hs298 hst299 ⟨Fn,Rg,Fo,Fp⟩ hm hx300
 replace hs298:St z296 (E291++(Ds196++O)) w294 [(k_g259,o_g259),(some b237,Oc [Sl An v_10 Cn] 32),(k_g254,o_g254),(some b214,Oc [Sl Al ((proofs_1.getD v_5.toNat default).variables) Cl,Sl Am ((proofs_1.getD v_5.toNat default).bad) Cm] 86),(some b210,o158),(some b125,Oc [Sl Ad tabled_1.p.cells Cd,Sl Ae tabled_1.p.capacity Ce,Sl Af tabled_1.p.variables Cf,Sl Ag tabled_1.uses Cg] 80),(some b16,Oc [Iv v_11] 29),(some b11,Oc [Bo v_12] 4),(some b6,Oc [Sl Ao v_13 Co,Sl Ap v_14 Cp] 34),(some b1,Oc [Sl Aa p.cells Ca,Sl Ab p.capacity Cb,Sl Ac p.variables Cc] 26)]:=hs298
 have ch303:Step (ks [(k_g195,o_g195),(some b237,Oc [Sl a228 places_1 c229] 32),(k230,o231),(some b214,Oc [Sl Al ((proofs_1.getD v_5.toNat default).variables) Cl,Sl Am ((proofs_1.getD v_5.toNat default).bad) Cm] 86),(some b210,o158),(some b125,Oc [Sl Ad tabled_1.p.cells Cd,Sl Ae tabled_1.p.capacity Ce,Sl Af tabled_1.p.variables Cf,Sl Ag tabled_1.uses Cg] 80),(some b16,Oc [Iv v_6] 29),(some b11,Oc [Bo v_7] 4),(some b6,Oc [Sl Aj v_8 Cj,Sl Ak v_9 Ck] 34),(some b1,Oc [Sl Aa p.cells Ca,Sl Ab p.capacity Cb,Sl Ac p.variables Cc] 26)] (Ds196++O)) w248 (ks [(k_g259,o_g259),(some b237,Oc [Sl An v_10 Cn] 32),(k_g254,o_g254),(some b214,Oc [Sl Al ((proofs_1.getD v_5.toNat default).variables) Cl,Sl Am ((proofs_1.getD v_5.toNat default).bad) Cm] 86),(some b210,o158),(some b125,Oc [Sl Ad tabled_1.p.cells Cd,Sl Ae tabled_1.p.capacity Ce,Sl Af tabled_1.p.variables Cf,Sl Ag tabled_1.uses Cg] 80),(some b16,Oc [Iv v_11] 29),(some b11,Oc [Bo v_12] 4),(some b6,Oc [Sl Ao v_13 Co,Sl Ap v_14 Cp] 34),(some b1,Oc [Sl Aa p.cells Ca,Sl Ab p.capacity Cb,Sl Ac p.variables Cc] 26)] (E291++(Ds196++O))) w294:=hst299;clear hst299
 replace Fn:Gs rXPlace 45 w294 (ks [(k_g259,o_g259),(some b237,Oc [Sl An v_10 Cn] 32),(k_g254,o_g254),(some b214,Oc [Sl Al ((proofs_1.getD v_5.toNat default).variables) Cl,Sl Am ((proofs_1.getD v_5.toNat default).bad) Cm] 86),(some b210,o158),(some b125,Oc [Sl Ad tabled_1.p.cells Cd,Sl Ae tabled_1.p.capacity Ce,Sl Af tabled_1.p.variables Cf,Sl Ag tabled_1.uses Cg] 80),(some b16,Oc [Iv v_11] 29),(some b11,Oc [Bo v_12] 4),(some b6,Oc [Sl Ao v_13 Co,Sl Ap v_14 Cp] 34),(some b1,Oc [Sl Aa p.cells Ca,Sl Ab p.capacity Cb,Sl Ac p.variables Cc] 26)] (E291++(Ds196++O))) An Cn v_10 k_g254 o_g254:=Fn
 replace Rg:InK .i64 v_11:=Rg
 replace Fo:SlR (rInt .i64) w294 (ks [(k_g259,o_g259),(some b237,Oc [Sl An v_10 Cn] 32),(k_g254,o_g254),(some b214,Oc [Sl Al ((proofs_1.getD v_5.toNat default).variables) Cl,Sl Am ((proofs_1.getD v_5.toNat default).bad) Cm] 86),(some b210,o158),(some b125,Oc [Sl Ad tabled_1.p.cells Cd,Sl Ae tabled_1.p.capacity Ce,Sl Af tabled_1.p.variables Cf,Sl Ag tabled_1.uses Cg] 80),(some b16,Oc [Iv v_11] 29),(some b11,Oc [Bo v_12] 4),(some b6,Oc [Sl Ao v_13 Co,Sl Ap v_14 Cp] 34),(some b1,Oc [Sl Aa p.cells Ca,Sl Ab p.capacity Cb,Sl Ac p.variables Cc] 26)] (E291++(Ds196++O))) Ao Co v_13:=Fo
 replace Fp:Gs rXPlace 45 w294 (ks [(k_g259,o_g259),(some b237,Oc [Sl An v_10 Cn] 32),(k_g254,o_g254),(some b214,Oc [Sl Al ((proofs_1.getD v_5.toNat default).variables) Cl,Sl Am ((proofs_1.getD v_5.toNat default).bad) Cm] 86),(some b210,o158),(some b125,Oc [Sl Ad tabled_1.p.cells Cd,Sl Ae tabled_1.p.capacity Ce,Sl Af tabled_1.p.variables Cf,Sl Ag tabled_1.uses Cg] 80),(some b16,Oc [Iv v_11] 29),(some b11,Oc [Bo v_12] 4),(some b6,Oc [Sl Ao v_13 Co,Sl Ap v_14 Cp] 34),(some b1,Oc [Sl Aa p.cells Ca,Sl Ab p.capacity Cb,Sl Ac p.variables Cc] 26)] (E291++(Ds196++O))) Ap Cp v_14 k_g259 o_g259:=Fp
 have hm304:=rng5_s (show rng5 _ _ (xi292::rest293) v_10 v_11 v_12 v_13 v_14=some _ from hm);clear hm;obtain⟨sf301,hsf302,hm⟩:=hm304
 unfold m13_reason_Smallest_B3 at hm
 replace hx300:(enc1 (vC (rSl (rInt .i64)))) xi292 w294 (ks [(k_g259,o_g259),(some b237,Oc [Sl An v_10 Cn] 32),(k_g254,o_g254),(some b214,Oc [Sl Al ((proofs_1.getD v_5.toNat default).variables) Cl,Sl Am ((proofs_1.getD v_5.toNat default).bad) Cm] 86),(some b210,o158),(some b125,Oc [Sl Ad tabled_1.p.cells Cd,Sl Ae tabled_1.p.capacity Ce,Sl Af tabled_1.p.variables Cf,Sl Ag tabled_1.uses Cg] 80),(some b16,Oc [Iv v_11] 29),(some b11,Oc [Bo v_12] 4),(some b6,Oc [Sl Ao v_13 Co,Sl Ap v_14 Cp] 34),(some b1,Oc [Sl Aa p.cells Ca,Sl Ab p.capacity Cb,Sl Ac p.variables Cc] 26)] (E291++(Ds196++O))) vs295:=hx300
 obtain⟨v305,rfl,h306⟩:=hx300
 obtain⟨Aq,Cq,rfl,Fq⟩:=un_sl h306
 refine Wa<|Asg (Sl Aq xi292 Cq) rfl<|Ri2<|Exists.intro _<|And.intro hs298 ?_
 intro w308 z309 RQ310 hz311 hs312 p313 hN314 hX315
 clear hs298
 refine Wn2<|Wb ?_
 clear Fj Fk f233
 refine Wr [] [(1,Pt b1 0),(2,Pt b6 0),(3,Pt b11 0),(4,Pt b16 0),(5,Pt b125 0),(6,Iv k_1),(7,Sl (some ⟨b210,0,none⟩) proofs_1 c156),(8,Iv m_1),(10,Pt b214 0),(11,Pt b237 0),(12,Sl Aq xi292 Cq),(44,Sl (some ⟨b210,0,none⟩) proofs_1 c156),(45,Iv (proofs_1.length:Int)),(46,Iv v_5),(55,v247)] fun ξ316=>Wa<|Asg (Value.slice none 0 0) rfl<|Ri2<|Wb<|Wb<|Wa<|Mve (Sl Aq xi292 Cq) rfl<|Rop<|op_len Try.underlying31 rfl ?_
 replace Fq:=Fq.step p313
 have rl317:=inK_len Fq
 refine Mve (Iv 0) rfl<|Ri2<|Wn2<|Wr [] [(1,Pt b1 0),(2,Pt b6 0),(3,Pt b11 0),(4,Pt b16 0),(5,Pt b125 0),(6,Iv k_1),(7,Sl (some ⟨b210,0,none⟩) proofs_1 c156),(8,Iv m_1),(10,Pt b214 0),(11,Pt b237 0),(13,Value.slice none 0 0),(44,Sl (some ⟨b210,0,none⟩) proofs_1 c156),(45,Iv (proofs_1.length:Int)),(46,Iv v_5),(55,v247),(57,Sl Aq xi292 Cq),(58,Iv (xi292.length:Int)),(59,Iv 0)] fun ξ322=>?_
 have hs327:=hs312.ghost (Obj.cells #[] 45)
 replace Fn:=Fn.step p313
 refine Wp_loopM q13_0 (fun m fr w'=>∃(places_2:List XPlace) (v_15:Int) (v_16:List XPlace) (Ar:Option Addr) (Cr:Nat) (k_g319:Option Nat) (o_g319:Obj) (As:Option Addr) (Cs:Nat) (k_g321:Option Nat) (o_g321:Obj) (Ebs:Ents),Ebs=[(k_g319,o_g319),(k_g259,o_g259),(some b237,Oc [Sl As v_16 Cs] 32),(k_g321,o_g321),(some b214,Oc [Sl Al ((proofs_1.getD v_5.toNat default).variables) Cl,Sl Am ((proofs_1.getD v_5.toNat default).bad) Cm] 86),(some b210,o158),(some b125,Oc [Sl Ad tabled_1.p.cells Cd,Sl Ae tabled_1.p.capacity Ce,Sl Af tabled_1.p.variables Cf,Sl Ag tabled_1.uses Cg] 80),(some b16,Oc [Iv v_11] 29),(some b11,Oc [Bo v_12] 4),(some b6,Oc [Sl Ao v_13 Co,Sl Ap v_14 Cp] 34),(some b1,Oc [Sl Aa p.cells Ca,Sl Ab p.capacity Cb,Sl Ac p.variables Cc] 26)]∧fr [] [(13,Sl Ar places_2 Cr),(59,Iv v_15)]∧hs327.S (ks Ebs (E291++(Ds196++O))) w'∧St z309 (E291++(Ds196++O)) w' Ebs∧Gs rXPlace 45 w' (ks Ebs (E291++(Ds196++O))) Ar Cr places_2 k_g319 o_g319∧InK .i64 v_15∧Gs rXPlace 45 w' (ks Ebs (E291++(Ds196++O))) As Cs v_16 k_g321 o_g321∧loop3 (m13_reason_Smallest_B4 proofs_1 v_5 k262 v_11 v_12 v_13 v_14 sf301 xi292) m places_2 v_15 v_16=some x) (((xi292.length:Int) - 0).toNat+1) ⟨([]:List XPlace),0,v_10,none,0,none,Obj.cells #[] 45,An,Cn,k_g254,o_g254,_,rfl,Frm.of ⟨rfl,rfl,trivial⟩,Step.refl _ _,hs327,Gs.nil_,(show InK .i64 0 from by decide),Fn,hm⟩ ?_ ?_
 rintro _ _ ⟨_,_,_,_,_,_,_,_,_,_,_,_,_,_,_,_,_,_,_,hm⟩;exact loop3_z hm
 rintro m326 K325 hK325 ρ333 w329 ⟨places_2,v_15,v_16,Ar,Cr,k_g319,o_g319,As,Cs,k_g321,o_g321,_,rfl,hfr332,hst331,hs330,Fr,Rh,Fs,hm⟩
 obtain⟨sf323,hsf324,hm⟩:=loop3_s hm;unfold m13_reason_Smallest_B4 at hm
 rw [hfr332.eq];clear hfr332
 have ch334:=hst331
 refine Wb ?_
 clear Fn
 refine Wa<|Rop<|op_lss rfl rfl<|Ri2<|Wb<|Wo2 hm rfl (fun hc335 hm=>?_) (fun hc335 hm=>?_)
 refine Ws2<|Wb<|Wn2<|Wb<|Wa ?_
 obtain⟨hc336,hm⟩:=ck_some hm
 replace Fq:=Fq.step hst331
 refine Rop<|om2 (q:=(rInt .i64)) ty31 ty3 rfl rfl Fq rfl hc336.1 hc336.2 ?_
 intro p337 f338
 refine Rop<|ot2 ty3 rfl f338 rfl ?_
 intro v339 h340
 obtain⟨rfl,Ri⟩:=un_int h340
 refine Asg (Iv (xi292.getD v_15.toNat default)) rfl<|Ri2 ?_
 clear f338
 refine Wa<|Mve (Sl Ar places_2 Cr) rfl<|Rop<|oq2 2 ty32 hs330 rfl rfl rfl<|Mve (Iv (xi292.getD v_15.toNat default)) rfl ?_
 obtain⟨hc342,hm⟩:=ck_some hm
 refine Rop<|op_indexAddrG ty32 ty45 rfl rfl Fs hc342 ?_
 rintro b343 rfl rfl
 refine Rop<|op_loadGA (i:=3) ty45 rfl hs330 rfl rfl Fs hc342 ?_
 intro vs344 h345
 obtain⟨_,_,rfl,⟨rfl,Rj⟩,⟨rfl,Rk⟩⟩:=h345
 refine Rop<|op_buildSlice (cs:=[Iv ((v_16.getD (xi292.getD v_15.toNat default).toNat default).leaf),Iv ((v_16.getD (xi292.getD v_15.toNat default).toNat default).cell)]) (parts:=[(0,.tmp 67)]) ty32 ty45 hs330 (by decide) rfl ?_
 intro b347 w348 hx351 p349 hs350
 clear hs330
 obtain⟨hc353,hm⟩:=ck_some hm
 replace Fr:=Fr.step p349
 refine Rop (op_append (q:=rXPlace) (i:=1) (xs:=places_2) (ys:=[v_16.getD (xi292.getD v_15.toNat default).toNat default]) (news:=[Iv ((v_16.getD (xi292.getD v_15.toNat default).toNat default).leaf),Iv ((v_16.getD (xi292.getD v_15.toNat default).toNat default).cell)]) ty32 ty45 rfl (by decide) hs350 rfl rfl Fr rfl (Src.owned' (len:=2) (hs350.get (i:=0) rfl) rfl) (show Els rXPlace _ _ [Iv ((v_16.getD (xi292.getD v_15.toNat default).toNat default).leaf),Iv ((v_16.getD (xi292.getD v_15.toNat default).toNat default).cell)] [v_16.getD (xi292.getD v_15.toNat default).toNat default] from⟨_,_,rfl,mkVia (mk_pair (mk_int Rj) (mk_int Rk)),Els.nil⟩) hc353 (by have:=hc353;simp only [maxLen];omega) ?_)
 intro a357 c358 k359 o360 w354 p355 hs356 f361
 clear hs350
 have hs362:=hs356.drop 0
 have p363:=(hs356.dropS 0)
 clear hs356
 refine Asg (Sl a357 (places_2++[v_16.getD (xi292.getD v_15.toNat default).toNat default]) c358) rfl<|Ri2<|Wa<|Rop<|op_addw rfl rfl<|Mve (Iv (IntKind.wrap .i64 (v_15+1))) rfl<|Ri2 ?_
 have p364:=(p349.trans (p355.trans p363))
 replace ch334:=ch334.trans p364;replace f361:=f361.step p363;replace Fs:=Fs.step p364
 exact hK325 _ _ ⟨places_2++[v_16.getD (xi292.getD v_15.toNat default).toNat default],(IntKind.wrap .i64 (v_15+1)),v_16,a357,c358,k359,o360,some ⟨b343,0,none⟩,Cs,some b343,o_g321,_,rfl,Frm.of ⟨rfl,rfl,trivial⟩,ch334,hs362,f361,(inK_wrap .i64 _),Fs,jnE3 hsf324 hm⟩
 refine Wp_exit<|Wb ?_
 clear Fq
 refine Wa<|Rop<|op_ldA 4 ty86 hs330 rfl rfl rfl<|Mve (Sl Ar places_2 Cr) rfl ?_
 obtain⟨hs365,p366,f367⟩:=Gs.publish (i:=0) hs330 rfl Fr
 obtain⟨hits_1,hv368,hm⟩:=bd hm
 have p374:=(p235.trans (p239.trans (p243.trans (p252.trans (p269.trans (p271.trans (p273.trans (p275.trans (p277.trans (p279.trans (p281.trans (p283.trans (p285.trans (p287.trans (ch303.trans (p313.trans hst331))))))))))))))))
 replace Fm:=Fm.step p374;replace Fl:=Fl.step p374
 refine Rop<|op_callE hs330 Try.call46 (c46_reason_proof__hits (x_:=proofs_1.getD v_5.toNat default) (places:=places_2) hs365.ltw (Fl.step p366) (Fm.step p366) f367 hv368) rfl ?_
 rintro v369 w370 p375 hs373 h372
 clear hs330
 obtain rfl:=h372
 refine Ri2<|Wo2 hm rfl (fun hc377 hm=>?_) (fun hc377 hm=>?_)
 refine Wb ?_
 clear f160 F_y253
 refine Wa<|Rop<|op2 0 ty86 rfl ty31 rfl rfl<|Rop<|oq2 4 ty31 hs373 rfl rfl rfl<|Mve (Sl Ar places_2 Cr) rfl<|Rop<|op_build (vs:=[Sl Al ((proofs_1.getD v_5.toNat default).variables) Cl,Sl Ar places_2 Cr]) (parts:=[(0,.tmp 75),(1,.tmp 76)]) ty34 pl34 rfl<|Rg_op_<|op_stA Put.p9 ty34 hs373 rfl rfl rfl rfl rfl ?_
 intro w378 p379 hs380
 clear hs373
 refine Rg_op_<|op_stS (Bo true) Put.p8 ty4 hs380 rfl rfl rfl rfl ?_
 intro w381 p382 hs383
 clear hs380
 refine Rg_op_<|op_stS (Iv 0) Put.p7 ty29 hs383 rfl rfl rfl rfl ?_
 intro w384 p385 hs386
 clear hs383
 refine Ri2<|Wp_ret ?_
 have hs387:=hs386.drop 1
 have p388:=(hs386.dropS 1)
 clear hs386
 have p389:=(p313.trans (hst331.trans (p375.trans (p379.trans (p382.trans (p385.trans p388))))))
 replace ch303:=ch303.trans p389
 have p390:=(p375.trans (p379.trans (p382.trans (p385.trans p388))))
 replace Fr:=Fr.step p390;replace Fs:=Fs.step p390;replace Fl:=Fl.step p390
 exact hX315 none (v_16,0,true,(proofs_1.getD v_5.toNat default).variables,places_2,As,Cs,k_g321,o_g321,Al,Cl,Ar,Cr,k_g319,o_g319) _ _ (by simp) hs387 ch303 ⟨Fs,(show InK .i64 0 from by decide),Fl,Fr⟩ hm
 refine Ws2 ?_
 have hs391:=hs373.drop 0
 have p392:=(hs373.dropS 0)
 clear hs373
 have p393:=(p313.trans (hst331.trans (p375.trans p392)))
 replace ch303:=ch303.trans p393;replace Fp:=Fp.step p393
 have p394:=(p375.trans p392)
 replace Fs:=Fs.step p394;replace Fo:=Fo.step p393
 exact hN314 (v_16,v_11,v_12,v_13,v_14,As,Cs,k_g321,o_g321,Ao,Co,Ap,Cp,k_g259,o_g259) _ _ hs391 ch303 ⟨Fs,Rg,Fo,Fp⟩ (jnE5 hsf302 hm)
 rintro D395 ⟨v_10,v_11,v_12,v_13,v_14,An,Cn,k_g254,o_g254,Ao,Co,Ap,Cp,k_g259,o_g259⟩ w396 hs397 hst398 ⟨Fn,Rg,Fo,Fp⟩ hm
 replace hs397:St ⟨w,[],D395::(Ds196++[])⟩ (D395::(Ds196++O)) w396 [(k_g259,o_g259),(some b237,Oc [Sl An v_10 Cn] 32),(k_g254,o_g254),(some b214,Oc [Sl Al ((proofs_1.getD v_5.toNat default).variables) Cl,Sl Am ((proofs_1.getD v_5.toNat default).bad) Cm] 86),(some b210,o158),(some b125,Oc [Sl Ad tabled_1.p.cells Cd,Sl Ae tabled_1.p.capacity Ce,Sl Af tabled_1.p.variables Cf,Sl Ag tabled_1.uses Cg] 80),(some b16,Oc [Iv v_11] 29),(some b11,Oc [Bo v_12] 4),(some b6,Oc [Sl Ao v_13 Co,Sl Ap v_14 Cp] 34),(some b1,Oc [Sl Aa p.cells Ca,Sl Ab p.capacity Cb,Sl Ac p.variables Cc] 26)]:=hs397
 replace hst398:Step (ks [(k_g195,o_g195),(some b237,Oc [Sl a228 places_1 c229] 32),(k230,o231),(some b214,Oc [Sl Al ((proofs_1.getD v_5.toNat default).variables) Cl,Sl Am ((proofs_1.getD v_5.toNat default).bad) Cm] 86),(some b210,o158),(some b125,Oc [Sl Ad tabled_1.p.cells Cd,Sl Ae tabled_1.p.capacity Ce,Sl Af tabled_1.p.variables Cf,Sl Ag tabled_1.uses Cg] 80),(some b16,Oc [Iv v_6] 29),(some b11,Oc [Bo v_7] 4),(some b6,Oc [Sl Aj v_8 Cj,Sl Ak v_9 Ck] 34),(some b1,Oc [Sl Aa p.cells Ca,Sl Ab p.capacity Cb,Sl Ac p.variables Cc] 26)] (Ds196++O)) w248 (ks [(k_g259,o_g259),(some b237,Oc [Sl An v_10 Cn] 32),(k_g254,o_g254),(some b214,Oc [Sl Al ((proofs_1.getD v_5.toNat default).variables) Cl,Sl Am ((proofs_1.getD v_5.toNat default).bad) Cm] 86),(some b210,o158),(some b125,Oc [Sl Ad tabled_1.p.cells Cd,Sl Ae tabled_1.p.capacity Ce,Sl Af tabled_1.p.variables Cf,Sl Ag tabled_1.uses Cg] 80),(some b16,Oc [Iv v_11] 29),(some b11,Oc [Bo v_12] 4),(some b6,Oc [Sl Ao v_13 Co,Sl Ap v_14 Cp] 34),(some b1,Oc [Sl Aa p.cells Ca,Sl Ab p.capacity Cb,Sl Ac p.variables Cc] 26)] (D395::(Ds196++O))) w396:=hst398
 replace Fn:Gs rXPlace 45 w396 (ks [(k_g259,o_g259),(some b237,Oc [Sl An v_10 Cn] 32),(k_g254,o_g254),(some b214,Oc [Sl Al ((proofs_1.getD v_5.toNat default).variables) Cl,Sl Am ((proofs_1.getD v_5.toNat default).bad) Cm] 86),(some b210,o158),(some b125,Oc [Sl Ad tabled_1.p.cells Cd,Sl Ae tabled_1.p.capacity Ce,Sl Af tabled_1.p.variables Cf,Sl Ag tabled_1.uses Cg] 80),(some b16,Oc [Iv v_11] 29),(some b11,Oc [Bo v_12] 4),(some b6,Oc [Sl Ao v_13 Co,Sl Ap v_14 Cp] 34),(some b1,Oc [Sl Aa p.cells Ca,Sl Ab p.capacity Cb,Sl Ac p.variables Cc] 26)] (D395::(Ds196++O))) An Cn v_10 k_g254 o_g254:=Fn
 replace Rg:InK .i64 v_11:=Rg
 replace Fo:SlR (rInt .i64) w396 (ks [(k_g259,o_g259),(some b237,Oc [Sl An v_10 Cn] 32),(k_g254,o_g254),(some b214,Oc [Sl Al ((proofs_1.getD v_5.toNat default).variables) Cl,Sl Am ((proofs_1.getD v_5.toNat default).bad) Cm] 86),(some b210,o158),(some b125,Oc [Sl Ad tabled_1.p.cells Cd,Sl Ae tabled_1.p.capacity Ce,Sl Af tabled_1.p.variables Cf,Sl Ag tabled_1.uses Cg] 80),(some b16,Oc [Iv v_11] 29),(some b11,Oc [Bo v_12] 4),(some b6,Oc [Sl Ao v_13 Co,Sl Ap v_14 Cp] 34),(some b1,Oc [Sl Aa p.cells Ca,Sl Ab p.capacity Cb,Sl Ac p.variables Cc] 26)] (D395::(Ds196++O))) Ao Co v_13:=Fo
 replace Fp:Gs rXPlace 45 w396 (ks [(k_g259,o_g259),(some b237,Oc [Sl An v_10 Cn] 32),(k_g254,o_g254),(some b214,Oc [Sl Al ((proofs_1.getD v_5.toNat default).variables) Cl,Sl Am ((proofs_1.getD v_5.toNat default).bad) Cm] 86),(some b210,o158),(some b125,Oc [Sl Ad tabled_1.p.cells Cd,Sl Ae tabled_1.p.capacity Ce,Sl Af tabled_1.p.variables Cf,Sl Ag tabled_1.uses Cg] 80),(some b16,Oc [Iv v_11] 29),(some b11,Oc [Bo v_12] 4),(some b6,Oc [Sl Ao v_13 Co,Sl Ap v_14 Cp] 34),(some b1,Oc [Sl Aa p.cells Ca,Sl Ab p.capacity Cb,Sl Ac p.variables Cc] 26)] (D395::(Ds196++O))) Ap Cp v_14 k_g259 o_g259:=Fp
 replace hm:=rng5_z (show rng5 _ _ [] v_10 v_11 v_12 v_13 v_14=some _ from hm)
 replace hm:=jnE5 hk261 (show k260 v_10 v_11 v_12 v_13 v_14=some _ from hm)
 clear hs288
 clear Fj Fk f233 F_y253
 refine Wa<|Rop<|op_addw rfl rfl<|Mve (Iv (IntKind.wrap .i64 (v_5+1))) rfl<|Ri2 ?_
 have hs400:=hs397.drop 3
 have p401:=(hs397.dropS 3)
 clear hs397
 have hs402:=hs400.drop 2
 have p403:=(hs400.dropS 2)
 clear hs400
 have hs404:=hs402.drop 1
 have p405:=(hs402.dropS 1)
 clear hs402
 have p406:=(p289.trans (hst398.trans (p401.trans (p403.trans p405))))
 replace ch207:=ch207.trans p406
 have p407:=(p401.trans (p403.trans p405))
 replace Fp:=Fp.step p407;replace Fo:=Fo.step p407
 exact hK200 _ _ ⟨(IntKind.wrap .i64 (v_5+1)),v_11,v_12,v_13,v_14,Ao,Co,Ap,Cp,k_g259,o_g259,D395::Ds196,_,rfl,Frm.of ⟨rfl,trivial⟩,ch207,hs404,(inK_wrap .i64 _),Rg,Fo,Fp,jnE5 hsf199 hm⟩
 rintro e413 D408 ⟨v_10,v_11,v_12,v_13,v_14,An,Cn,k_g254,o_g254,Ao,Co,Ap,Cp,k_g259,o_g259⟩ w409 he412 hs410 hst411 ⟨Fn,Rg,Fo,Fp⟩ hm
 simp only [List.mem_cons,List.not_mem_nil,or_false] at he412
 subst he412
 replace hs410:St ⟨w,[],D408::(Ds196++[])⟩ (D408::(Ds196++O)) w409 [(k_g259,o_g259),(some b237,Oc [Sl An v_10 Cn] 32),(k_g254,o_g254),(some b214,Oc [Sl Al ((proofs_1.getD v_5.toNat default).variables) Cl,Sl Am ((proofs_1.getD v_5.toNat default).bad) Cm] 86),(some b210,o158),(some b125,Oc [Sl Ad tabled_1.p.cells Cd,Sl Ae tabled_1.p.capacity Ce,Sl Af tabled_1.p.variables Cf,Sl Ag tabled_1.uses Cg] 80),(some b16,Oc [Iv v_11] 29),(some b11,Oc [Bo v_12] 4),(some b6,Oc [Sl Ao v_13 Co,Sl Ap v_14 Cp] 34),(some b1,Oc [Sl Aa p.cells Ca,Sl Ab p.capacity Cb,Sl Ac p.variables Cc] 26)]:=hs410
 replace hst411:Step (ks [(k_g195,o_g195),(some b237,Oc [Sl a228 places_1 c229] 32),(k230,o231),(some b214,Oc [Sl Al ((proofs_1.getD v_5.toNat default).variables) Cl,Sl Am ((proofs_1.getD v_5.toNat default).bad) Cm] 86),(some b210,o158),(some b125,Oc [Sl Ad tabled_1.p.cells Cd,Sl Ae tabled_1.p.capacity Ce,Sl Af tabled_1.p.variables Cf,Sl Ag tabled_1.uses Cg] 80),(some b16,Oc [Iv v_6] 29),(some b11,Oc [Bo v_7] 4),(some b6,Oc [Sl Aj v_8 Cj,Sl Ak v_9 Ck] 34),(some b1,Oc [Sl Aa p.cells Ca,Sl Ab p.capacity Cb,Sl Ac p.variables Cc] 26)] (Ds196++O)) w248 (ks [(k_g259,o_g259),(some b237,Oc [Sl An v_10 Cn] 32),(k_g254,o_g254),(some b214,Oc [Sl Al ((proofs_1.getD v_5.toNat default).variables) Cl,Sl Am ((proofs_1.getD v_5.toNat default).bad) Cm] 86),(some b210,o158),(some b125,Oc [Sl Ad tabled_1.p.cells Cd,Sl Ae tabled_1.p.capacity Ce,Sl Af tabled_1.p.variables Cf,Sl Ag tabled_1.uses Cg] 80),(some b16,Oc [Iv v_11] 29),(some b11,Oc [Bo v_12] 4),(some b6,Oc [Sl Ao v_13 Co,Sl Ap v_14 Cp] 34),(some b1,Oc [Sl Aa p.cells Ca,Sl Ab p.capacity Cb,Sl Ac p.variables Cc] 26)] (D408::(Ds196++O))) w409:=hst411
 replace Fn:Gs rXPlace 45 w409 (ks [(k_g259,o_g259),(some b237,Oc [Sl An v_10 Cn] 32),(k_g254,o_g254),(some b214,Oc [Sl Al ((proofs_1.getD v_5.toNat default).variables) Cl,Sl Am ((proofs_1.getD v_5.toNat default).bad) Cm] 86),(some b210,o158),(some b125,Oc [Sl Ad tabled_1.p.cells Cd,Sl Ae tabled_1.p.capacity Ce,Sl Af tabled_1.p.variables Cf,Sl Ag tabled_1.uses Cg] 80),(some b16,Oc [Iv v_11] 29),(some b11,Oc [Bo v_12] 4),(some b6,Oc [Sl Ao v_13 Co,Sl Ap v_14 Cp] 34),(some b1,Oc [Sl Aa p.cells Ca,Sl Ab p.capacity Cb,Sl Ac p.variables Cc] 26)] (D408::(Ds196++O))) An Cn v_10 k_g254 o_g254:=Fn
 replace Rg:InK .i64 v_11:=Rg
 replace Fo:SlR (rInt .i64) w409 (ks [(k_g259,o_g259),(some b237,Oc [Sl An v_10 Cn] 32),(k_g254,o_g254),(some b214,Oc [Sl Al ((proofs_1.getD v_5.toNat default).variables) Cl,Sl Am ((proofs_1.getD v_5.toNat default).bad) Cm] 86),(some b210,o158),(some b125,Oc [Sl Ad tabled_1.p.cells Cd,Sl Ae tabled_1.p.capacity Ce,Sl Af tabled_1.p.variables Cf,Sl Ag tabled_1.uses Cg] 80),(some b16,Oc [Iv v_11] 29),(some b11,Oc [Bo v_12] 4),(some b6,Oc [Sl Ao v_13 Co,Sl Ap v_14 Cp] 34),(some b1,Oc [Sl Aa p.cells Ca,Sl Ab p.capacity Cb,Sl Ac p.variables Cc] 26)] (D408::(Ds196++O))) Ao Co v_13:=Fo
 replace Fp:Gs rXPlace 45 w409 (ks [(k_g259,o_g259),(some b237,Oc [Sl An v_10 Cn] 32),(k_g254,o_g254),(some b214,Oc [Sl Al ((proofs_1.getD v_5.toNat default).variables) Cl,Sl Am ((proofs_1.getD v_5.toNat default).bad) Cm] 86),(some b210,o158),(some b125,Oc [Sl Ad tabled_1.p.cells Cd,Sl Ae tabled_1.p.capacity Ce,Sl Af tabled_1.p.variables Cf,Sl Ag tabled_1.uses Cg] 80),(some b16,Oc [Iv v_11] 29),(some b11,Oc [Bo v_12] 4),(some b6,Oc [Sl Ao v_13 Co,Sl Ap v_14 Cp] 34),(some b1,Oc [Sl Aa p.cells Ca,Sl Ab p.capacity Cb,Sl Ac p.variables Cc] 26)] (D408::(Ds196++O))) Ap Cp v_14 k_g259 o_g259:=Fp
 replace hm:=jnE5 hk263 (show k262 v_10 v_11 v_12 v_13 v_14=some _ from hm)
 clear hs288
 obtain⟨w414,hcl415,hs416,p417⟩:=St.close hs410
 clear hs410
 replace Fp:=Fp.step p417
 obtain⟨hs419,p420,f418⟩:=Gs.publish (i:=0) hs416 rfl Fp
 clear hs416
 have hz:=(step_all hs419).trans (Step.sub (O':=O) (fun k hk=>by simp [hk]))
 refine⟨_,hcl415,[Value.agg [Sl Ao v_13 Co,Sl Ap v_14 Cp].toArray,Bo v_12,Iv v_11],⟨resA (cs:=[Sl Ao v_13 Co,Sl Ap v_14 Cp]) (vs:=[Sl Ao v_13 Co,Sl Ap v_14 Cp]) ty34 (i:=7) hs419 rfl rfl rfl rfl,res1 (cs:=[Bo v_12]) ty4 (i:=6) hs419 rfl rfl rfl,res1 (cs:=[Iv v_11]) ty29 (i:=5) hs419 rfl rfl rfl,trivial⟩,hs419.ext,?_⟩
 replace f418:=f418.step hz
 have p421:=(p417.trans (p420.trans hz))
 replace Fo:=Fo.step p421
 exact Vr.eq (a:=vT3 (vA rXReason) vB (vI .i64)) (x:=((⟨v_13,v_14⟩:XReason),v_12,v_11)) (mkT3 (mkA (mkVia (mk_pair (mk_sl Fo) (mk_sl f418)))) rfl ⟨rfl,Rg⟩) (oi hm)
 refine Wp_exit<|Wa<|Mve (Iv m_1) rfl<|Rop<|op_addw rfl rfl<|Asg (Iv (IntKind.wrap .i64 (m_1+1))) rfl<|Ri2 ?_
 replace ch188:=ch188.trans hst204
 exact hK179 _ _ ⟨(IntKind.wrap .i64 (m_1+1)),v_6,v_7,v_8,v_9,Aj,Cj,Ak,Ck,k_g195,o_g195,Ds196,_,rfl,Frm.of ⟨rfl,trivial⟩,ch188,hs203,(inK_wrap .i64 _),Rf,Fj,Fk,jnE5 hsf178 hm⟩
 refine Wp_exit<|Wb ?_
 obtain⟨hs422,p423⟩:=hs141.sub (bs':=[(some b16,Oc [Iv check_1] 29),(some b11,Oc [Bo false] 4),(some b6,Oc [Value.slice none 0 0,Value.slice none 0 0] 34)]) (.cons _ (.cons_cons _ (.cons_cons _ (.cons_cons _ (.cons _ List.Sublist.slnil)))))
 clear Fa Fb Fc Fd Fe Ff Fg
 clear hs141
 refine Wa<|Rop<|op_ldA 2 ty34 hs422 rfl rfl rfl<|Rg_op_<|op_stA Put.p2 ty34 hs422 rfl rfl rfl rfl rfl ?_
 intro w424 p425 hs426
 clear hs422
 refine Rg_op_<|op_stS (Bo false) Put.p1 ty4 hs426 rfl rfl rfl rfl ?_
 intro w427 p428 hs429
 clear hs426
 refine Rg_op_<|op_stS (Iv 0) .z ty29 hs429 rfl rfl rfl rfl ?_
 intro w430 p431 hs432
 clear hs429
 refine Ri2<|Wp_ret ?_
 obtain⟨w433,hcl434,hs435,p436⟩:=St.close hs432
 clear hs432
 have hz:=(step_all hs435).trans (Step.sub (O':=O) (fun k hk=>by simp [hk]))
 refine⟨_,hcl434,[Value.agg [Value.slice none 0 0,Value.slice none 0 0].toArray,Bo false,Iv 0],⟨resA (cs:=[Value.slice none 0 0,Value.slice none 0 0]) (vs:=[Value.slice none 0 0,Value.slice none 0 0]) ty34 (i:=2) hs435 rfl rfl rfl rfl,res1 (cs:=[Bo false]) ty4 (i:=1) hs435 rfl rfl rfl,res1 (cs:=[Iv 0]) ty29 (i:=0) hs435 rfl rfl rfl,trivial⟩,hs435.ext,?_⟩
 exact Vr.eq (a:=vT3 (vA rXReason) vB (vI .i64)) (x:=((⟨([]:List Int),([]:List XPlace)⟩:XReason),false,0)) (mkT3 (mkA (mkVia (mk_pair (mk_sl SlR.nil_) (mk_sl SlR.nil_)))) rfl ⟨rfl,(show InK .i64 0 from by decide)⟩) (oi hm)

end Go.Fx
