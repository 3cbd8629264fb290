/- Part 4 of the proof: no reason that proves has fewer variables than the smallest one, or as many and fewer places. -/
import Derived.Test.YtijekcoafilmeaaFw3
set_option linter.unusedVariables false
set_option linter.unusedSimpArgs false
set_option maxRecDepth 100000
set_option maxHeartbeats 0
namespace Go.Fx
open Go Go.RowKit Go.Proofs
abbrev q23_2:List Nat:=[54,55,56,57,58,59,60,61,62,63,64,65,66,67,68,69,70,71,72,73,74,75,76,77,78,79,80,81,82,83,84,85,86,87,88,89,90,91,92]

abbrev q23_3:List Nat:=[4,7,8,49,50,51,52,53,54,55,56,57,58,59,60,61,62,63,64,65,66,67,68,69,70,71,72,73,74,75,76,77,78,79,80,81,82,83,84,85,86,87,88,89,90,91,92,93]

abbrev q23_0:List Nat:=[22,23,24,25,26,27,28,29,30,31,32,33,34,35,36,37,38,39,40,41,42,43,44]

abbrev q23_1:List Nat:=[4,5,6,17,18,19,20,21,22,23,24,25,26,27,28,29,30,31,32,33,34,35,36,37,38,39,40,41,42,43,44,45]

def m23_reason_Check_B1 (p:XProblem) (r_:XReason) (sf70:Int→Option Int) (v_3:Int):Option Int:=
 bif (decide (v_3<(r_.places.length:Int))) then
  ck ((0:Int)≤v_3∧v_3<(r_.places.length:Int))<|
  jn (fun(v_4:Bool)=>
   bif v_4 then
    some 320
   else
    sf70 (IntKind.wrap .i64 (v_3+1)))
  (fun k97=>
   bif (decide (((r_.places.getD v_3.toNat default).leaf)<0)) then
    k97 true
   else
    bif (decide ((p.capacity.length:Int)≤((r_.places.getD v_3.toNat default).leaf))) then
     k97 true
    else
     bif (decide (((r_.places.getD v_3.toNat default).cell)<0)) then
      k97 true
     else
      bif (decide ((p.cells.length:Int)≤((r_.places.getD v_3.toNat default).cell))) then
       k97 true
      else
       bif (decide (0<v_3)) then
        ck ((0:Int)≤(IntKind.wrap .i64 (v_3 - 1))∧(IntKind.wrap .i64 (v_3 - 1))<(r_.places.length:Int))<|
        (m55_reason_order (r_.places.getD (IntKind.wrap .i64 (v_3 - 1)).toNat default) (r_.places.getD v_3.toNat default)).bind fun order_1=>
        k97 (decide (0≤order_1))
       else
        k97 false)
 else
  some 0

def m23_reason_Check_B0 (p:XProblem) (r_:XReason) (sf27:Int→Option Int) (v_1:Int):Option Int:=
 bif (decide (v_1<(r_.variables.length:Int))) then
  ck ((0:Int)≤v_1∧v_1<(r_.variables.length:Int))<|
  jn (fun(v_2:Bool)=>
   bif v_2 then
    some 320
   else
    sf27 (IntKind.wrap .i64 (v_1+1)))
  (fun k46=>
   bif (decide ((r_.variables.getD v_1.toNat default)<0)) then
    k46 true
   else
    bif (decide ((p.variables.length:Int)≤(r_.variables.getD v_1.toNat default))) then
     k46 true
    else
     bif (decide (0<v_1)) then
      ck ((0:Int)≤(IntKind.wrap .i64 (v_1 - 1))∧(IntKind.wrap .i64 (v_1 - 1))<(r_.variables.length:Int))<|
      k46 (decide ((r_.variables.getD v_1.toNat default)≤(r_.variables.getD (IntKind.wrap .i64 (v_1 - 1)).toNat default)))
     else
      k46 false)
 else
  loop1 (m23_reason_Check_B1 p r_) (((r_.places.length:Int) - 0).toNat+1) 0

def m23_reason_Check (p:XProblem) (r_:XReason):Option Int:=
 (m12_problem_Check p).bind fun check_1=>
 bif (decide (check_1≠0)) then
  some check_1
 else
  loop1 (m23_reason_Check_B0 p r_) (((r_.variables.length:Int) - 0).toNat+1) 0

theorem c23_reason_Check {w:World} {O:List Nat} {p:XProblem} {r_:XReason} {Aa:Option Addr} {Ca:Nat} {Ab:Option Addr} {Cb:Nat} {Ac:Option Addr} {Cc:Nat} {Ad:Option Addr} {Cd:Nat} {Ae:Option Addr} {Ce:Nat} (hO:∀k∈O,k<w.heap.size) (Fa:SlR rXCell w O Aa Ca p.cells) (Fb:SlR (rSl (rInt .i64)) w O Ab Cb p.capacity) (Fc:SlR rXVariable w O Ac Cc p.variables) (Fd:SlR (rInt .i64) w O Ad Cd r_.variables) (Fe:SlR rXPlace w O Ae Ce r_.places) {x:Int} (hm:m23_reason_Check p r_=some x):
 Ok Try.prog 23 [Value.agg [Sl Aa p.cells Ca,Sl Ab p.capacity Cb,Sl Ac p.variables Cc].toArray,Value.agg [Sl Ad r_.variables Cd,Sl Ae r_.places Ce].toArray] w O (vI .i64) x:=by
 unfold m23_reason_Check at hm
 refine Fn_of_Wp (n:=94) (xs:=[.tmp 4]) Try.func23 rfl Try.ntmps23 Try.results23 rfl ?_
 have hs:=St.start hO
 refine Wb<|Wa<|Rop<|op_box (cs:=[Sl Aa p.cells Ca,Sl Ab p.capacity Cb,Sl Ac p.variables Cc]) hs rfl rfl ?_
 intro b1 w2 _ p3 hs4
 refine Rop<|op_box (cs:=[Sl Ad r_.variables Cd,Sl Ae r_.places Ce]) hs4 rfl rfl ?_
 intro b6 w7 _ p8 hs9
 clear hs4
 refine Asg (Iv 0) rfl<|Ri2<|Wb<|Wb<|Wa<|Rop<|op_ldA 1 ty26 hs9 rfl rfl rfl ?_
 obtain⟨check_1,hv11,hm⟩:=bd hm
 have p17:=(p3.trans p8)
 replace Fb:=Fb.step p17;replace Fa:=Fa.step p17;replace Fc:=Fc.step p17
 refine Rop<|op_callE hs9 Try.call12 (c12_problem_Check (p:=p) hs9.ltw Fa Fb Fc hv11) rfl ?_
 rintro v12 w13 p18 hs16 h15
 clear hs9
 obtain⟨rfl,Ra⟩:=h15
 refine Asg (Iv check_1) rfl<|Ri2<|Wb<|Wa<|Mve (Iv check_1) rfl<|Rop<|op_neq rfl rfl<|Ri2<|Wo2 hm rfl (fun hc20 hm=>?_) (fun hc20 hm=>?_)
 refine Wb ?_
 obtain⟨hs21,p22⟩:=hs16.sub (bs':=[]) (.cons _ (.cons _ List.Sublist.slnil))
 clear Fa Fb Fc Fd Fe
 clear hs16
 refine Wa<|Mve (Iv check_1) rfl<|Asg (Iv check_1) rfl<|Ri2<|Wp_ret<|⟨_,Clo,[Iv check_1],⟨rfl,trivial⟩,hs21.ext,?_⟩
 exact Vr.eq (a:=(vI .i64)) (x:=check_1) ⟨rfl,Ra⟩ (oi hm)
 refine Ws2<|Wb<|Wb<|Wa<|Rop<|op2 0 ty34 rfl ty31 rfl rfl<|Rop<|oq2 0 ty31 hs16 rfl rfl rfl<|Rop<|op_len Try.underlying31 rfl ?_
 have p24:=(p17.trans p18)
 replace Fd:=Fd.step p24
 have rl23:=inK_len Fd
 refine Mve (Iv 0) rfl<|Ri2<|Wn2<|Wr [] [(2,Pt b1 0),(3,Pt b6 0),(15,Sl Ad r_.variables Cd),(16,Iv (r_.variables.length:Int)),(17,Iv 0)] fun ξ26=>Wp_loopM q23_1 (fun m fr w'=>∃(v_1:Int) (Ebs:Ents),Ebs=[(some b6,Oc [Sl Ad r_.variables Cd,Sl Ae r_.places Ce] 34),(some b1,Oc [Sl Aa p.cells Ca,Sl Ab p.capacity Cb,Sl Ac p.variables Cc] 26)]∧fr [] [(17,Iv v_1)]∧hs16.S (ks Ebs O) w'∧St ⟨w,[],[]⟩ O w' Ebs∧InK .i64 v_1∧loop1 (m23_reason_Check_B0 p r_) m v_1=some x) (((r_.variables.length:Int) - 0).toNat+1) ⟨0,_,rfl,Frm.of ⟨rfl,trivial⟩,Step.refl _ _,hs16,(show InK .i64 0 from by decide),hm⟩ ?_ ?_
 rintro _ _ ⟨_,_,_,_,_,_,_,hm⟩;exact loop1_z hm
 rintro m30 K29 hK29 ρ35 w31 ⟨v_1,_,rfl,hfr34,hst33,hs32,Rb,hm⟩
 obtain⟨sf27,hsf28,hm⟩:=loop1_s hm;unfold m23_reason_Check_B0 at hm
 rw [hfr34.eq];clear hfr34
 have ch36:=hst33
 refine Wb<|Wa<|Rop<|op_lss rfl rfl<|Ri2<|Wb<|Wo2 hm rfl (fun hc37 hm=>?_) (fun hc37 hm=>?_)
 refine Ws2<|Wb<|Wn2<|Wb<|Wa<|Mve (Iv v_1) rfl ?_
 obtain⟨hc38,hm⟩:=ck_some hm
 replace Fd:=Fd.step hst33
 refine Rop<|om2 (q:=(rInt .i64)) ty31 ty3 rfl rfl Fd rfl hc38.1 hc38.2 ?_
 intro p39 f40
 refine Rop<|ot2 ty3 rfl f40 rfl ?_
 intro v41 h42
 obtain⟨rfl,Rc⟩:=un_int h42
 refine Asg (Iv v_1) rfl<|Asg (Iv (r_.variables.getD v_1.toNat default)) rfl<|Ri2<|Wr2 q23_1 [] (updL ⟨ξ26,[]⟩ [(2,Pt b1 0),(3,Pt b6 0),(15,Sl Ad r_.variables Cd),(16,Iv (r_.variables.length:Int)),(17,Iv 0)]) [(5,Iv v_1),(6,Iv (r_.variables.getD v_1.toNat default)),(17,Iv v_1)] fun ξ44=>?_
 obtain⟨k46,hk47,hm⟩:=jn_elim hm
 refine Wp_seqJ q23_0 (fun fr w'=>∃(v_2:Bool) (Ebs:Ents),Ebs=[(some b6,Oc [Sl Ad r_.variables Cd,Sl Ae r_.places Ce] 34),(some b1,Oc [Sl Aa p.cells Ca,Sl Ab p.capacity Cb,Sl Ac p.variables Cc] 26)]∧fr [] [(44,Bo v_2)]∧hs32.S (ks Ebs O) w'∧St ⟨w,[],[]⟩ O w' Ebs∧k46 v_2=some x) ?_ ?_
 rintro ρ53 w49 ⟨v_2,_,rfl,hfr52,hst51,hs50,hm⟩
 replace hm:=jnE1 hk47 hm
 rw [hfr52.eq];clear hfr52
 refine Wo2 hm rfl (fun hc54 hm=>?_) (fun hc54 hm=>?_)
 refine Wb ?_
 clear f40
 refine Wa<|Asg (Iv 320) rfl<|Ri2<|Wp_ret<|⟨_,Clo,[Iv 320],⟨rfl,trivial⟩,hs50.ext,?_⟩
 exact Vr.eq (a:=(vI .i64)) (x:=320) ⟨rfl,(show InK .i64 320 from by decide)⟩ (oi hm)
 refine Ws2 ?_
 clear f40
 refine Wa<|Rop<|op_addw rfl rfl<|Mve (Iv (IntKind.wrap .i64 (v_1+1))) rfl<|Ri2 ?_
 replace ch36:=ch36.trans hst51
 exact hK29 _ _ ⟨(IntKind.wrap .i64 (v_1+1)),_,rfl,Frm.of ⟨rfl,trivial⟩,ch36,hs50,(inK_wrap .i64 _),jnE1 hsf28 hm⟩
 intro K48 hK48
 have ch55:=hs32.stepR
 clear f40
 refine Wa<|Mve (Iv (r_.variables.getD v_1.toNat default)) rfl<|Rop<|op_lss rfl rfl<|Mve (Bo (decide ((r_.variables.getD v_1.toNat default)<0))) rfl<|Rg_caseM hm (fun hg56 hm=>?_) (fun hg56 hm=>?_)
 iterate 5 refine Rl2 rfl (asB_ne rfl rfl) rfl ?_
 refine Pkt (Bo true) rfl rfl<|Mve (Bo true) rfl ?_
 iterate 12 refine Rl2 rfl (asB_ne rfl rfl) rfl ?_
 exact Pkt (Bo true) rfl rfl<|Ri2<|hK48 _ _ ⟨true,_,rfl,Frm.of ⟨rfl,trivial⟩,ch55,hs32,hm⟩
 refine Rog rfl rfl<|ok2 (v:=Iv (r_.variables.getD v_1.toNat default)) rfl<|Rog rfl rfl<|op2 2 ty26 rfl ty24 rfl rfl<|Rog rfl rfl<|oq2 1 ty24 hs32 rfl rfl rfl<|Rog rfl rfl<|op_len Try.underlying24 rfl ?_
 have p58:=(p18.trans hst33)
 replace Fc:=Fc.step p58
 have rl57:=inK_len Fc
 refine Rog rfl rfl<|op_geq rfl rfl<|Pkf (Bo (decide ((p.variables.length:Int)≤(r_.variables.getD v_1.toNat default)))) rfl rfl<|Mve (Bo (decide ((p.variables.length:Int)≤(r_.variables.getD v_1.toNat default)))) rfl<|Rg_caseM hm (fun hg59 hm=>?_) (fun hg59 hm=>?_)
 iterate 12 refine Rl2 rfl (asB_ne rfl rfl) rfl ?_
 exact Pkt (Bo true) rfl rfl<|Ri2<|hK48 _ _ ⟨true,_,rfl,Frm.of ⟨rfl,trivial⟩,ch55,hs32,hm⟩
 refine Rog rfl rfl<|ok2 (v:=Iv v_1) rfl<|Rog rfl rfl<|op_gtr rfl rfl<|Rog rfl rfl<|ok2 (v:=Bo (decide (0<v_1))) rfl<|Rg_caseM hm (fun hg60 hm=>?_) (fun hg60 hm=>?_)
 refine Rog rfl rfl<|ok2 (v:=Iv (r_.variables.getD v_1.toNat default)) rfl<|Rog rfl rfl<|op2 0 ty34 rfl ty31 rfl rfl<|Rog rfl rfl<|oq2 0 ty31 hs32 rfl rfl rfl<|Rog rfl rfl<|ok2 (v:=Iv v_1) rfl<|Rog rfl rfl<|op_subw rfl rfl ?_
 obtain⟨hc61,hm⟩:=ck_some hm
 refine Rog rfl rfl<|om2 (q:=(rInt .i64)) ty31 ty3 rfl rfl Fd rfl hc61.1 hc61.2 ?_
 intro p62 f63
 refine Rog rfl rfl<|ot2 ty3 rfl f63 rfl ?_
 intro v64 h65
 obtain⟨rfl,Rd⟩:=un_int h65
 exact Rog rfl rfl<|op_leq rfl rfl<|Rog rfl rfl<|op_pick_t (v:=Bo (decide ((r_.variables.getD v_1.toNat default)≤(r_.variables.getD (IntKind.wrap .i64 (v_1 - 1)).toNat default)))) rfl rfl<|Pkf (Bo (decide ((r_.variables.getD v_1.toNat default)≤(r_.variables.getD (IntKind.wrap .i64 (v_1 - 1)).toNat default)))) rfl rfl<|Ri2<|hK48 _ _ ⟨decide ((r_.variables.getD v_1.toNat default)≤(r_.variables.getD (IntKind.wrap .i64 (v_1 - 1)).toNat default)),_,rfl,Frm.of ⟨rfl,trivial⟩,ch55,hs32,hm⟩
 iterate 8 refine Rl2 rfl (asB_ne rfl rfl) rfl ?_
 exact Rog rfl rfl<|op_pick_f (v:=Bo false) rfl rfl<|Pkf (Bo false) rfl rfl<|Ri2<|hK48 _ _ ⟨false,_,rfl,Frm.of ⟨rfl,trivial⟩,ch55,hs32,hm⟩
 refine Wp_exit<|Wb<|Wb<|Wa<|Rop<|op2 1 ty34 rfl ty32 rfl rfl<|Rop<|oq2 0 ty32 hs32 rfl rfl rfl<|Rop<|op_len Try.underlying32 rfl ?_
 replace Fe:=Fe.step (p24.trans hst33)
 have rl67:=inK_len Fe
 refine Mve (Iv 0) rfl<|Ri2<|Wn2<|Wr [] [(2,Pt b1 0),(3,Pt b6 0),(47,Sl Ae r_.places Ce),(48,Iv (r_.places.length:Int)),(49,Iv 0)] fun ξ69=>Wp_loopM q23_3 (fun m fr w'=>∃(v_3:Int) (Ebs:Ents),Ebs=[(some b6,Oc [Sl Ad r_.variables Cd,Sl Ae r_.places Ce] 34),(some b1,Oc [Sl Aa p.cells Ca,Sl Ab p.capacity Cb,Sl Ac p.variables Cc] 26)]∧fr [] [(49,Iv v_3)]∧hs32.S (ks Ebs O) w'∧St ⟨w,[],[]⟩ O w' Ebs∧InK .i64 v_3∧loop1 (m23_reason_Check_B1 p r_) m v_3=some x) (((r_.places.length:Int) - 0).toNat+1) ⟨0,_,rfl,Frm.of ⟨rfl,trivial⟩,Step.refl _ _,hs32,(show InK .i64 0 from by decide),hm⟩ ?_ ?_
 rintro _ _ ⟨_,_,_,_,_,_,_,hm⟩;exact loop1_z hm
 rintro m73 K72 hK72 ρ78 w74 ⟨v_3,_,rfl,hfr77,hst76,hs75,Re,hm⟩
 obtain⟨sf70,hsf71,hm⟩:=loop1_s hm;unfold m23_reason_Check_B1 at hm
 rw [hfr77.eq];clear hfr77
 have ch79:=hst76
 refine Wb<|Wa<|Rop<|op_lss rfl rfl<|Ri2<|Wb<|Wo2 hm rfl (fun hc80 hm=>?_) (fun hc80 hm=>?_)
 refine Ws2<|Wb<|Wn2<|Wb<|Wa<|Mve (Iv v_3) rfl ?_
 obtain⟨hc81,hm⟩:=ck_some hm
 replace Fe:=Fe.step hst76
 refine Rop<|om2 (q:=rXPlace) ty32 ty45 rfl rfl Fe rfl hc81.1 hc81.2 ?_
 intro p82 f83
 refine Rop<|op_loadPA ty45 rfl f83 rfl ?_
 intro vs84 h85
 obtain⟨_,_,rfl,⟨rfl,Rf⟩,⟨rfl,Rg⟩⟩:=h85
 refine Rop<|op_alloc ty45 hs75 ?_
 intro b87 w88 _ p89 hs90
 clear hs75
 refine Asg (Iv v_3) rfl<|Rg_op_<|op_stA .z ty45 hs90 rfl rfl rfl rfl rfl ?_
 intro w92 p93 hs94
 clear hs90
 refine Ri2<|Wr2 q23_3 [] (updL ⟨ξ69,[]⟩ [(2,Pt b1 0),(3,Pt b6 0),(47,Sl Ae r_.places Ce),(48,Iv (r_.places.length:Int)),(49,Iv 0)]) [(7,Iv v_3),(8,Pt b87 0),(49,Iv v_3)] fun ξ95=>?_
 obtain⟨k97,hk98,hm⟩:=jn_elim hm
 refine Wp_seqJ q23_2 (fun fr w'=>∃(v_4:Bool) (Ebs:Ents),Ebs=[(some b87,Oc [Iv ((r_.places.getD v_3.toNat default).leaf),Iv ((r_.places.getD v_3.toNat default).cell)] 45),(some b6,Oc [Sl Ad r_.variables Cd,Sl Ae r_.places Ce] 34),(some b1,Oc [Sl Aa p.cells Ca,Sl Ab p.capacity Cb,Sl Ac p.variables Cc] 26)]∧fr [] [(92,Bo v_4)]∧hs94.S (ks Ebs O) w'∧St ⟨w,[],[]⟩ O w' Ebs∧k97 v_4=some x) ?_ ?_
 rintro ρ104 w100 ⟨v_4,_,rfl,hfr103,hst102,hs101,hm⟩
 replace hm:=jnE1 hk98 hm
 rw [hfr103.eq];clear hfr103
 refine Wo2 hm rfl (fun hc105 hm=>?_) (fun hc105 hm=>?_)
 refine Wb ?_
 clear f83
 refine Wa<|Asg (Iv 320) rfl<|Ri2<|Wp_ret<|⟨_,Clo,[Iv 320],⟨rfl,trivial⟩,hs101.ext,?_⟩
 exact Vr.eq (a:=(vI .i64)) (x:=320) ⟨rfl,(show InK .i64 320 from by decide)⟩ (oi hm)
 refine Ws2 ?_
 clear f83
 refine Wa<|Rop<|op_addw rfl rfl<|Mve (Iv (IntKind.wrap .i64 (v_3+1))) rfl<|Ri2 ?_
 have hs106:=hs101.drop 0
 have p107:=(hs101.dropS 0)
 clear hs101
 have p108:=(p89.trans (p93.trans (hst102.trans p107)))
 replace ch79:=ch79.trans p108
 exact hK72 _ _ ⟨(IntKind.wrap .i64 (v_3+1)),_,rfl,Frm.of ⟨rfl,trivial⟩,ch79,hs106,(inK_wrap .i64 _),jnE1 hsf71 hm⟩
 intro K99 hK99
 have ch109:=hs94.stepR
 clear f83
 refine Wp_drawR (g0:=[]) (m:=35) (fl:=[]) (TS_inv hs94) rfl (.inl rfl) rfl (by decide+kernel) ?_  -- 13
 refine Dw_p (Pt b87 0) (fun _ _ _ hi ht=>op2 0 ty45 rfl ty3 (ht 8 rfl) rfl<|Gz hi)<|Dw_p (Iv ((r_.places.getD v_3.toNat default).leaf)) (fun _ _ _ hi ht=>oq2 0 ty3 (Step.nx hi).1 (ht 54 rfl) rfl rfl<|Gz hi)<|Dw_p (Bo (decide (((r_.places.getD v_3.toNat default).leaf)<0))) (fun _ _ _ hi ht=>op_lss (ht 55 rfl) rfl<|Gz hi)<|Dw_opB (decide (((r_.places.getD v_3.toNat default).leaf)<0)) (fun _ _ _ _ hi ht=>Sj2<|ok2 (v:=Bo (decide (((r_.places.getD v_3.toNat default).leaf)<0))) (ht 56 rfl)<|Gz hi) (fun hg122=>?_) (fun hg122=>?_)
 replace hm:=bif_t hm hg122
 iterate 6 refine Dw_sk rfl rfl (fun _ _ _ h=>h) rfl ?_
 refine Dw_p (Bo true) (fun _ _ _ hi ht=>op_pick_t (v:=Bo true) (ht 57 rfl) rfl<|Gz hi)<|Dw_p (Bo true) (fun _ _ _ hi ht=>ok2 (v:=Bo true) (ht 64 rfl)<|Gz hi) ?_
 iterate 3 refine Dw_sk rfl rfl (fun _ _ _ h=>h) rfl ?_
 refine Dw_p (Bo true) (fun _ _ _ hi ht=>op_pick_t (v:=Bo true) (ht 65 rfl) rfl<|Gz hi)<|Dw_p (Bo true) (fun _ _ _ hi ht=>ok2 (v:=Bo true) (ht 69 rfl)<|Gz hi) ?_
 iterate 6 refine Dw_sk rfl rfl (fun _ _ _ h=>h) rfl ?_
 refine Dw_p (Bo true) (fun _ _ _ hi ht=>op_pick_t (v:=Bo true) (ht 70 rfl) rfl<|Gz hi)<|Dw_p (Bo true) (fun _ _ _ hi ht=>ok2 (v:=Bo true) (ht 77 rfl)<|Gz hi) ?_
 iterate 10 refine Dw_sk rfl rfl (fun _ _ _ h=>h) rfl ?_
 refine Dw_nil fun w145 g146 hl147 hi148=>?_
 obtain⟨-,hst149,-⟩:=hl147
 obtain⟨hs151,p150⟩:=Step.nx hi148
 rintro _ rfl _ rfl _ rfl _ rfl _ rfl _ rfl _ rfl _ rfl _ rfl _ rfl _ rfl _ rfl _ rfl _ rfl _ rfl _ rfl _ rfl _ rfl _ rfl _ rfl _ rfl _ rfl _ rfl _ rfl _ rfl _ rfl _ rfl _ rfl _ rfl _ rfl _ rfl _ rfl _ rfl _ rfl _ rfl
 have p152:=hs94.to hs151 (hst149.trans p150)
 iterate 3 refine Rl2 rfl (asB_ne rfl rfl) rfl ?_
 refine Pkt (Bo true) rfl rfl<|Ri2 ?_
 replace ch109:=ch109.trans p152
 exact hK99 _ _ ⟨true,_,rfl,Frm.of ⟨rfl,trivial⟩,ch109,hs151,hm⟩
 replace hm:=bif_f hm hg122
 refine Dw_g (Pt b87 0) rfl rfl (fun _ _ _ h=>h) (fun _ _ _ hi ht=>op2 0 ty45 rfl ty3 (ht 8 rfl) rfl<|Gz hi)<|Dw_g (Iv ((r_.places.getD v_3.toNat default).leaf)) rfl rfl (fun _ _ _ h=>h) (fun _ _ _ hi ht=>oq2 0 ty3 (Step.nx hi).1 (ht 58 rfl) rfl rfl<|Gz hi)<|Dw_g (Pt b1 1) rfl rfl (fun _ _ _ h=>h) (fun _ _ _ hi ht=>op2 1 ty26 rfl ty23 (ht 2 rfl) rfl<|Gz hi)<|Dw_g (Sl Ab p.capacity Cb) rfl rfl (fun _ _ _ h=>h) (fun _ _ _ hi ht=>oq2 2 ty23 (Step.nx hi).1 (ht 60 rfl) rfl rfl<|Gz hi)<|Dw_g (Iv (p.capacity.length:Int)) rfl rfl (fun _ _ _ h=>h) (fun _ _ _ hi ht=>op_len Try.underlying23 (ht 61 rfl)<|Gz hi)<|Dw_g (Bo (decide ((p.capacity.length:Int)≤((r_.places.getD v_3.toNat default).leaf)))) rfl rfl (fun _ _ _ h=>h) (fun _ _ _ hi ht=>op_geq (ht 59 rfl) (ht 62 rfl)<|Gz hi)<|Dw_p (Bo (decide ((p.capacity.length:Int)≤((r_.places.getD v_3.toNat default).leaf)))) (fun _ _ _ hi ht=>op_pick_f (v:=Bo (decide ((p.capacity.length:Int)≤((r_.places.getD v_3.toNat default).leaf)))) (ht 57 rfl) (ht 63 rfl)<|Gz hi)<|Dw_opB (decide ((p.capacity.length:Int)≤((r_.places.getD v_3.toNat default).leaf))) (fun _ _ _ _ hi ht=>Sj2<|ok2 (v:=Bo (decide ((p.capacity.length:Int)≤((r_.places.getD v_3.toNat default).leaf)))) (ht 64 rfl)<|Gz hi) (fun hg177=>?_) (fun hg177=>?_)
 replace hm:=bif_t hm hg177
 iterate 3 refine Dw_sk rfl rfl (fun _ _ _ h=>h) rfl ?_
 refine Dw_p (Bo true) (fun _ _ _ hi ht=>op_pick_t (v:=Bo true) (ht 65 rfl) rfl<|Gz hi)<|Dw_p (Bo true) (fun _ _ _ hi ht=>ok2 (v:=Bo true) (ht 69 rfl)<|Gz hi) ?_
 iterate 6 refine Dw_sk rfl rfl (fun _ _ _ h=>h) rfl ?_
 refine Dw_p (Bo true) (fun _ _ _ hi ht=>op_pick_t (v:=Bo true) (ht 70 rfl) rfl<|Gz hi)<|Dw_p (Bo true) (fun _ _ _ hi ht=>ok2 (v:=Bo true) (ht 77 rfl)<|Gz hi) ?_
 iterate 10 refine Dw_sk rfl rfl (fun _ _ _ h=>h) rfl ?_
 refine Dw_nil fun w194 g195 hl196 hi197=>?_
 obtain⟨-,hst198,-⟩:=hl196
 obtain⟨hs200,p199⟩:=Step.nx hi197
 rintro _ rfl _ rfl _ rfl _ rfl _ rfl _ rfl _ rfl _ rfl _ rfl _ rfl _ rfl _ rfl _ rfl _ rfl _ rfl _ rfl _ rfl _ rfl _ rfl _ rfl _ rfl _ rfl _ rfl _ rfl _ rfl _ rfl _ rfl _ rfl _ rfl _ rfl _ rfl _ rfl _ rfl _ rfl _ rfl
 have p201:=hs94.to hs200 (hst198.trans p199)
 iterate 3 refine Rl2 rfl (asB_ne rfl rfl) rfl ?_
 refine Pkt (Bo true) rfl rfl<|Ri2 ?_
 replace ch109:=ch109.trans p201
 exact hK99 _ _ ⟨true,_,rfl,Frm.of ⟨rfl,trivial⟩,ch109,hs200,hm⟩
 replace hm:=bif_f hm hg177
 refine Dw_g (Pt b87 1) rfl rfl (fun _ _ _ h=>h) (fun _ _ _ hi ht=>op2 1 ty45 rfl ty3 (ht 8 rfl) rfl<|Gz hi)<|Dw_g (Iv ((r_.places.getD v_3.toNat default).cell)) rfl rfl (fun _ _ _ h=>h) (fun _ _ _ hi ht=>oq2 0 ty3 (Step.nx hi).1 (ht 66 rfl) rfl rfl<|Gz hi)<|Dw_g (Bo (decide (((r_.places.getD v_3.toNat default).cell)<0))) rfl rfl (fun _ _ _ h=>h) (fun _ _ _ hi ht=>op_lss (ht 67 rfl) rfl<|Gz hi)<|Dw_p (Bo (decide (((r_.places.getD v_3.toNat default).cell)<0))) (fun _ _ _ hi ht=>op_pick_f (v:=Bo (decide (((r_.places.getD v_3.toNat default).cell)<0))) (ht 65 rfl) (ht 68 rfl)<|Gz hi)<|Dw_opB (decide (((r_.places.getD v_3.toNat default).cell)<0)) (fun _ _ _ _ hi ht=>Sj2<|ok2 (v:=Bo (decide (((r_.places.getD v_3.toNat default).cell)<0))) (ht 69 rfl)<|Gz hi) (fun hg217=>?_) (fun hg217=>?_)
 replace hm:=bif_t hm hg217
 iterate 6 refine Dw_sk rfl rfl (fun _ _ _ h=>h) rfl ?_
 refine Dw_p (Bo true) (fun _ _ _ hi ht=>op_pick_t (v:=Bo true) (ht 70 rfl) rfl<|Gz hi)<|Dw_p (Bo true) (fun _ _ _ hi ht=>ok2 (v:=Bo true) (ht 77 rfl)<|Gz hi) ?_
 iterate 10 refine Dw_sk rfl rfl (fun _ _ _ h=>h) rfl ?_
 refine Dw_nil fun w228 g229 hl230 hi231=>?_
 obtain⟨-,hst232,-⟩:=hl230
 obtain⟨hs234,p233⟩:=Step.nx hi231
 rintro _ rfl _ rfl _ rfl _ rfl _ rfl _ rfl _ rfl _ rfl _ rfl _ rfl _ rfl _ rfl _ rfl _ rfl _ rfl _ rfl _ rfl _ rfl _ rfl _ rfl _ rfl _ rfl _ rfl _ rfl _ rfl _ rfl _ rfl _ rfl _ rfl _ rfl _ rfl _ rfl _ rfl _ rfl _ rfl
 have p235:=hs94.to hs234 (hst232.trans p233)
 iterate 3 refine Rl2 rfl (asB_ne rfl rfl) rfl ?_
 refine Pkt (Bo true) rfl rfl<|Ri2 ?_
 replace ch109:=ch109.trans p235
 exact hK99 _ _ ⟨true,_,rfl,Frm.of ⟨rfl,trivial⟩,ch109,hs234,hm⟩
 replace hm:=bif_f hm hg217
 refine Dw_g (Pt b87 1) rfl rfl (fun _ _ _ h=>h) (fun _ _ _ hi ht=>op2 1 ty45 rfl ty3 (ht 8 rfl) rfl<|Gz hi)<|Dw_g (Iv ((r_.places.getD v_3.toNat default).cell)) rfl rfl (fun _ _ _ h=>h) (fun _ _ _ hi ht=>oq2 0 ty3 (Step.nx hi).1 (ht 71 rfl) rfl rfl<|Gz hi)<|Dw_g (Pt b1 0) rfl rfl (fun _ _ _ h=>h) (fun _ _ _ hi ht=>op2 0 ty26 rfl ty22 (ht 2 rfl) rfl<|Gz hi)<|Dw_g (Sl Aa p.cells Ca) rfl rfl (fun _ _ _ h=>h) (fun _ _ _ hi ht=>oq2 2 ty22 (Step.nx hi).1 (ht 73 rfl) rfl rfl<|Gz hi)<|Dw_g (Iv (p.cells.length:Int)) rfl rfl (fun _ _ _ h=>h) (fun _ _ _ hi ht=>op_len Try.underlying22 (ht 74 rfl)<|Gz hi)<|Dw_g (Bo (decide ((p.cells.length:Int)≤((r_.places.getD v_3.toNat default).cell)))) rfl rfl (fun _ _ _ h=>h) (fun _ _ _ hi ht=>op_geq (ht 72 rfl) (ht 75 rfl)<|Gz hi)<|Dw_p (Bo (decide ((p.cells.length:Int)≤((r_.places.getD v_3.toNat default).cell)))) (fun _ _ _ hi ht=>op_pick_f (v:=Bo (decide ((p.cells.length:Int)≤((r_.places.getD v_3.toNat default).cell)))) (ht 70 rfl) (ht 76 rfl)<|Gz hi)<|Dw_opB (decide ((p.cells.length:Int)≤((r_.places.getD v_3.toNat default).cell))) (fun _ _ _ _ hi ht=>Sj2<|ok2 (v:=Bo (decide ((p.cells.length:Int)≤((r_.places.getD v_3.toNat default).cell)))) (ht 77 rfl)<|Gz hi) (fun hg260=>?_) (fun hg260=>?_)
 replace hm:=bif_t hm hg260
 iterate 10 refine Dw_sk rfl rfl (fun _ _ _ h=>h) rfl ?_
 refine Dw_nil fun w265 g266 hl267 hi268=>?_
 obtain⟨-,hst269,-⟩:=hl267
 obtain⟨hs271,p270⟩:=Step.nx hi268
 rintro _ rfl _ rfl _ rfl _ rfl _ rfl _ rfl _ rfl _ rfl _ rfl _ rfl _ rfl _ rfl _ rfl _ rfl _ rfl _ rfl _ rfl _ rfl _ rfl _ rfl _ rfl _ rfl _ rfl _ rfl _ rfl _ rfl _ rfl _ rfl _ rfl _ rfl _ rfl _ rfl _ rfl _ rfl _ rfl
 have p272:=hs94.to hs271 (hst269.trans p270)
 iterate 3 refine Rl2 rfl (asB_ne rfl rfl) rfl ?_
 refine Pkt (Bo true) rfl rfl<|Ri2 ?_
 replace ch109:=ch109.trans p272
 exact hK99 _ _ ⟨true,_,rfl,Frm.of ⟨rfl,trivial⟩,ch109,hs271,hm⟩
 replace hm:=bif_f hm hg260
 refine Dw_g (Iv v_3) rfl rfl (fun _ _ _ h=>h) (fun _ _ _ hi ht=>ok2 (v:=Iv v_3) (ht 7 rfl)<|Gz hi)<|Dw_g (Bo (decide (0<v_3))) rfl rfl (fun _ _ _ h=>h) (fun _ _ _ hi ht=>op_gtr (ht 79 rfl) rfl<|Gz hi)<|Dw_opB (decide (0<v_3)) (fun _ _ _ _ hi ht=>StepOp_g rfl (ht 78 rfl)<|ok2 (v:=Bo (decide (0<v_3))) (ht 80 rfl)<|Gz hi) (fun hg282=>?_) (fun hg282=>?_)
 replace hm:=bif_t hm hg282
 refine Dw_g (Pt b6 1) rfl rfl (fun _ _ _ h=>h) (fun _ _ _ hi ht=>op2 1 ty34 rfl ty32 (ht 3 rfl) rfl<|Gz hi)<|Dw_g (Sl Ae r_.places Ce) rfl rfl (fun _ _ _ h=>h) (fun _ _ _ hi ht=>oq2 1 ty32 (Step.nx hi).1 (ht 82 rfl) rfl rfl<|Gz hi)<|Dw_g (Iv v_3) rfl rfl (fun _ _ _ h=>h) (fun _ _ _ hi ht=>ok2 (v:=Iv v_3) (ht 7 rfl)<|Gz hi)<|Dw_g (Iv (IntKind.wrap .i64 (v_3 - 1))) rfl rfl (fun _ _ _ h=>h) (fun _ _ _ hi ht=>op_subw (ht 84 rfl) rfl<|Gz hi) ?_
 obtain⟨hc298,hm⟩:=ck_some hm
 have p301:=(p89.trans p93)
 replace Fe:=Fe.step p301
 refine Dw_op (VP _ _ rXPlace (r_.places.getD (IntKind.wrap .i64 (v_3 - 1)).toNat default)) (VP.stab _ _) (fun ρ295 w296 g hle hi ht=>?_) ?_
 obtain⟨-,hst,-⟩:=hle
 replace Fe:=Fe.step hst
 refine StepOp_g rfl (ht 81 rfl)<|om2 (q:=rXPlace) ty32 ty45 (ht 83 rfl) (ht 85 rfl) Fe rfl hc298.1 hc298.2 ?_
 intro p299 f300
 exact Goes.same hi ⟨_,rfl,f300⟩
 refine Dw_op (VD _ _ (vA rXPlace) (r_.places.getD (IntKind.wrap .i64 (v_3 - 1)).toNat default)) (VD.stab _ _) (fun ρ302 w303 g hle hi ht=>?_) ?_
 obtain⟨p305,q306,f307⟩:=ht 86 rfl
 refine StepOp_g rfl (ht 81 rfl)<|op_loadPA ty45 q306 f307 rfl ?_
 intro vs308 h309
 obtain⟨_,_,rfl,⟨rfl,Rh⟩,⟨rfl,Ri⟩⟩:=h309
 exact Goes.same hi (show Vr.vd (vA rXPlace) _ _ _ _ from(mkA (mkVia (mk_pair (mk_int Rh) (mk_int Ri)))))
 refine Dw_g (Value.agg [Iv ((r_.places.getD v_3.toNat default).leaf),Iv ((r_.places.getD v_3.toNat default).cell)].toArray) rfl rfl (fun _ _ _ h=>h) (fun _ _ _ hi ht=>op_ldA 0 ty45 (Step.nx hi).1 (ht 8 rfl) rfl rfl<|Gz hi)<|Dw_nil fun w318 g319 hl320 hi321=>?_
 obtain⟨-,hst322,-⟩:=hl320
 obtain⟨hs324,p323⟩:=Step.nx hi321
 rintro _ rfl v325 h326
 replace h326:Vr.vd (vA rXPlace) _ _ _ _:=h326
 obtain⟨_,rfl,⟨_,_,rfl,⟨rfl,Rj⟩,⟨rfl,Rk⟩⟩⟩:=h326
 rintro _ ⟨p328,rfl,f329⟩ _ rfl _ rfl _ rfl _ rfl _ rfl _ rfl _ rfl _ rfl _ rfl _ rfl _ rfl _ rfl _ rfl _ rfl _ rfl _ rfl _ rfl _ rfl _ rfl _ rfl _ rfl _ rfl _ rfl _ rfl _ rfl _ rfl _ rfl _ rfl _ rfl _ rfl _ rfl _ rfl
 have p330:=hs94.to hs324 (hst322.trans p323)
 replace f329:=f329.step p323
 obtain⟨order_1,hv331,hm⟩:=bd hm
 refine Rog rfl rfl<|op_callE hs324 Try.call55 (c55_reason_order (a:=r_.places.getD (IntKind.wrap .i64 (v_3 - 1)).toNat default) (b:=r_.places.getD v_3.toNat default) hs324.ltw Rj Rk Rf Rg hv331) rfl ?_
 rintro v332 w333 p337 hs336 h335
 clear hs324
 obtain⟨rfl,Rl⟩:=h335
 refine Rog rfl rfl<|op_geq rfl rfl<|Rog rfl rfl<|op_pick_t (v:=Bo (decide (0≤order_1))) rfl rfl<|Pkf (Bo (decide (0≤order_1))) rfl rfl<|Ri2 ?_
 have p339:=(p330.trans p337)
 replace ch109:=ch109.trans p339
 exact hK99 _ _ ⟨decide (0≤order_1),_,rfl,Frm.of ⟨rfl,trivial⟩,ch109,hs336,hm⟩
 replace hm:=bif_f hm hg282
 iterate 7 refine Dw_sk rfl rfl (fun _ _ _ h=>h) rfl ?_
 refine Dw_nil fun w344 g345 hl346 hi347=>?_
 obtain⟨-,hst348,-⟩:=hl346
 obtain⟨hs350,p349⟩:=Step.nx hi347
 rintro _ rfl _ rfl _ rfl _ rfl _ rfl _ rfl _ rfl _ rfl _ rfl _ rfl _ rfl _ rfl _ rfl _ rfl _ rfl _ rfl _ rfl _ rfl _ rfl _ rfl _ rfl _ rfl _ rfl _ rfl _ rfl _ rfl _ rfl _ rfl _ rfl _ rfl _ rfl _ rfl _ rfl _ rfl _ rfl
 have p351:=hs94.to hs350 (hst348.trans p349)
 refine Rl2 rfl (asB_ne rfl rfl) rfl<|Rl2 rfl (asB_ne rfl rfl) rfl<|Rog rfl rfl<|op_pick_f (v:=Bo false) rfl rfl<|Pkf (Bo false) rfl rfl<|Ri2 ?_
 replace ch109:=ch109.trans p351
 exact hK99 _ _ ⟨false,_,rfl,Frm.of ⟨rfl,trivial⟩,ch109,hs350,hm⟩
 refine Wp_exit<|Wb ?_
 obtain⟨hs352,p353⟩:=hs75.sub (bs':=[]) (.cons _ (.cons _ List.Sublist.slnil))
 clear Fa Fb Fc Fd Fe
 clear hs75
 refine Wa<|Asg (Iv 0) rfl<|Ri2<|Wp_ret<|⟨_,Clo,[Iv 0],⟨rfl,trivial⟩,hs352.ext,?_⟩
 exact Vr.eq (a:=(vI .i64)) (x:=0) ⟨rfl,(show InK .i64 0 from by decide)⟩ (oi hm)

def m52_reason_Proves_1_1 (x_:XPlace) (fv0_:List (XPlace × Bool)):Option Bool:=
 some ((mget fv0_ x_).getD false)

theorem c52_reason_Proves_1_1 {w:World} {O:List Nat} {x_:XPlace} {fv0_:List (XPlace × Bool)} {p_fv0_:Addr} (hO:∀k∈O,k<w.heap.size) (Ra:InK .i64 x_.leaf) (Rb:InK .i64 x_.cell) (Fa:PtR (rMp kXPlace mvB) w O p_fv0_ fv0_) {x:Bool} (hm:m52_reason_Proves_1_1 x_ fv0_=some x):
 Ok Try.prog 52 [Value.agg [Iv x_.leaf,Iv x_.cell].toArray,Value.pointer (some p_fv0_)] w O vB x:=by
 unfold m52_reason_Proves_1_1 at hm
 refine Fn_of_Wp (n:=7) (xs:=[.tmp 3]) Try.func52 rfl Try.ntmps52 Try.results52 rfl ?_
 have hs:=St.start hO
 refine Wb<|Wa<|Rop<|op_box (cs:=[Iv x_.leaf,Iv x_.cell]) hs rfl rfl ?_
 intro b1 w2 _ p3 hs4
 refine Asg (Bo false) rfl<|Ri2<|Wb<|Wa ?_
 replace Fa:=Fa.step p3
 refine Rop<|ot2 ty98 rfl Fa rfl ?_
 intro v6 h7
 have M8:=un_mp h7;clear h7
 refine Rop<|op_ldA 0 ty45 hs4 rfl rfl rfl<|Rop<|op_lookupR (q:=kXPlace) (m:=mvB) (n:=x_) (z:=false) Try.underlying98 kok45 Try.zeroValue4 M8 (And.intro Ra Rb) rfl rfl<|Asg (Bo ((mget fv0_ x_).getD false)) rfl<|Ri2<|Wp_ret<|⟨_,Clo,[Bo ((mget fv0_ x_).getD false)],⟨rfl,trivial⟩,hs4.ext,?_⟩
 exact Vr.eq (a:=vB) (x:=(mget fv0_ x_).getD false) rfl (oi hm)

def m50_reason_Proves_1 (bad:List (XPlace × Bool)) (fv0_:XReason) (fv1_:Bool):Option (Bool × Bool):=
 (m51_api_Place_ fv0_.places (fun x13=>m52_reason_Proves_1_1 x13 bad)).bind fun place_1=>
 some (place_1,place_1)

theorem c50_reason_Proves_1 {w:World} {O:List Nat} {bad:List (XPlace × Bool)} {fv0_:XReason} {fv1_:Bool} {v_bad:Value} {p_fv0_:Addr} {b_fv1_:Nat} (hL0:Lend w O [(some b_fv1_,Oc [Bo fv1_] 4)]) (M_bad:MpR kXPlace mvB w (ks [(some b_fv1_,Oc [Bo fv1_] 4)] O) v_bad bad) (Fa:PtR rXReason w (ks [(some b_fv1_,Oc [Bo fv1_] 4)] O) p_fv0_ fv0_) {x0:Bool} {y_fv1_:Bool} (hm:m50_reason_Proves_1 bad fv0_ fv1_=some (x0,y_fv1_)):
 OkL Try.prog 50 [v_bad,Value.pointer (some p_fv0_),Pt b_fv1_ 0] w O [(some b_fv1_,Oc [Bo fv1_] 4)] vB x0 (fun w' L'=>L'=[(some b_fv1_,Obj.cells [Bo y_fv1_].toArray 4)]):=by
 unfold m50_reason_Proves_1 at hm
 refine Fn_of_Wp (n:=10) (xs:=[.tmp 4]) Try.func50 rfl Try.ntmps50 Try.results50 rfl ?_
 obtain⟨x,hxm⟩:∃x,x=(x0,y_fv1_):=⟨_,rfl⟩
 rw [← hxm] at hm
 have hs:St ⟨w,List.filterMap Prod.fst [(some b_fv1_,Oc [Bo fv1_] 4)],[]⟩ O w [(some b_fv1_,Oc [Bo fv1_] 4)]:=hL0
 have hO:=hs.lt0
 refine Wb<|Wa<|Rop<|op_box (cs:=[v_bad]) hs (show ev _ _=v_bad from rfl) (MpR.cells1 M_bad) ?_
 intro b1 w2 _ p3 hs4
 refine Asg (Bo false) rfl<|Ri2<|Wb<|Wa<|Rop<|op_fieldAddr ty34 rfl ty32 (by decide) rfl rfl ?_
 replace Fa:=Fa.step p3
 have f6:=Fa.via.snd
 refine Rop<|ot2 ty32 rfl f6 rfl ?_
 intro v7 h8
 obtain⟨Aa,Ca,rfl,Fb⟩:=un_sl h8
 replace M_bad:=M_bad.step p3
 obtain⟨hs11,p12,f10⟩:=St.publishP (p:=rMp kXPlace mvB) (i:=0) (x:=bad) hs4 rfl (mk_mp M_bad)
 clear hs4
 refine Rop<|op_makeFunc' (a':=[]) (c':=[Value.pointer (some (⟨b1,0,none⟩:Addr))]) rfl rfl ?_
 have F14:CallsTo1 Try.prog w2 (ks [(some b_fv1_,Oc [Bo fv1_] 4)] O) (Value.func (.func 52) #[] #[Value.pointer (some (⟨b1,0,none⟩:Addr))]) (vA rXPlace) vB (fun x13=>m52_reason_Proves_1_1 x13 bad):=by
  intro w15 O16 st17 hO18 v21 x13 y19 h22 hy20
  obtain⟨_,rfl,⟨_,_,rfl,⟨rfl,Ra⟩,⟨rfl,Rb⟩⟩⟩:=h22
  exact⟨52,#[],#[Value.pointer (some (⟨b1,0,none⟩:Addr))],rfl,Try.call52,c52_reason_Proves_1_1 (x_:=x13) hO18 Ra Rb (f10.step st17) hy20⟩
 obtain⟨place_1,hv24,hm⟩:=bd hm
 replace Fb:=Fb.step p12
 refine Rop<|op_callE hs11 Try.call51 (c51_api_Place_ (s:=fv0_.places) (f:=(fun x13=>m52_reason_Proves_1_1 x13 bad)) hs11.ltw Fb F14 hv24) rfl ?_
 rintro v25 w26 p30 hs29 h28
 clear hs11
 obtain rfl:=h28
 refine Rg_op_<|op_stS (Bo place_1) .z ty4 hs29 rfl rfl rfl rfl ?_
 intro w32 p33 hs34
 clear hs29
 refine Ri2<|Wb ?_
 clear M_bad Fa f6 Fb f10 F14
 refine Wa<|Rop<|oq2 0 ty4 hs34 rfl rfl rfl<|Asg (Bo place_1) rfl<|Ri2<|Wp_ret ?_
 have hq35:=(oi hm).trans hxm;simp only [Prod.mk.injEq] at hq35;obtain⟨hq36,rfl⟩:=hq35
 refine⟨_,Clo,[Bo place_1],⟨rfl,trivial⟩,_,St.backB hs34,rfl,?_⟩
 exact Vr.eq (a:=vB) (x:=place_1) rfl hq36
def S50 (b_fv1_:Nat):Sx Bool where
 rd w O E s:=E=[(some b_fv1_,Obj.cells [Bo s].toArray 4)]
 step:=fun p h=>by
  have hE:=h
  exact hE
theorem d50 {w:World} {O:List Nat} {b_fv1_:Nat} {fv0_:XReason} {p_fv0_:Addr} (Fa:PtR rXReason w O p_fv0_ fv0_):
 DoneS Try.prog kXPlace mvB (S50 b_fv1_) w O (Value.func (.func 50) #[] #[Value.pointer (some p_fv0_),Pt b_fv1_ 0]) (fun xs s=>m50_reason_Proves_1 xs fv0_ s):=by
 refine⟨⟨_,_,rfl⟩,?_⟩
 intro w1 O1 L1 b o xs s r s' p hL hb ho hM hS hm
 obtain rfl:=hS
 have hL':=hL.less (b:=b)
 have hp:=fun L=>Lend.stepless (b:=b) L O1 w1
 refine⟨50,#[],_,rfl,Try.call50,(c50_reason_Proves_1 (x0:=r) (y_fv1_:=s') hL' (hL.readM hb ho hM) ((Fa.step p).step (hp _)) hm).mono ?_⟩
 rintro u w2 ⟨L2,hB,rfl,hu⟩
 exact⟨_,hB.more hL hb,rfl,hu⟩

def m17_reason_Proves (p:XProblem) (r_:XReason):Option (Bool × Int):=
 (m23_reason_Check p r_).bind fun check_1=>
 bif (decide (check_1≠0)) then
  some (false,check_1)
 else
  (m42_reason_tabled p).bind fun tabled_1=>
  (m49_reason_table__broken tabled_1 r_.variables (fun xs s=>m50_reason_Proves_1 xs r_ s) true).bind fun lent_1=>
  some (lent_1,0)

theorem c17_reason_Proves {w:World} {O:List Nat} {p:XProblem} {r_:XReason} {Aa:Option Addr} {Ca:Nat} {Ab:Option Addr} {Cb:Nat} {Ac:Option Addr} {Cc:Nat} {Ad:Option Addr} {Cd:Nat} {Ae:Option Addr} {Ce:Nat} (hO:∀k∈O,k<w.heap.size) (Fa:SlR rXCell w O Aa Ca p.cells) (Fb:SlR (rSl (rInt .i64)) w O Ab Cb p.capacity) (Fc:SlR rXVariable w O Ac Cc p.variables) (Fd:SlR (rInt .i64) w O Ad Cd r_.variables) (Fe:SlR rXPlace w O Ae Ce r_.places) {x:Bool × Int} (hm:m17_reason_Proves p r_=some x):
 Ok Try.prog 17 [Value.agg [Sl Aa p.cells Ca,Sl Ab p.capacity Cb,Sl Ac p.variables Cc].toArray,Value.agg [Sl Ad r_.variables Cd,Sl Ae r_.places Ce].toArray] w O (vT2 vB (vI .i64)) x:=by
 unfold m17_reason_Proves at hm
 refine Fn_of_Wp (n:=19) (xs:=[.cell 4 4,.tmp 5]) Try.func17 rfl Try.ntmps17 Try.results17 rfl ?_
 have hs:=St.start hO
 refine Wb<|Wa<|Rop<|op_box (cs:=[Sl Aa p.cells Ca,Sl Ab p.capacity Cb,Sl Ac p.variables Cc]) hs rfl rfl ?_
 intro b1 w2 _ p3 hs4
 refine Rop<|op_box (cs:=[Sl Ad r_.variables Cd,Sl Ae r_.places Ce]) hs4 rfl rfl ?_
 intro b6 w7 _ p8 hs9
 clear hs4
 refine Rop<|op_alloc ty4 hs9 ?_
 intro b11 w12 _ p13 hs14
 clear hs9
 refine Asg (Iv 0) rfl<|Ri2<|Wb<|Wb<|Wa<|Rop<|op_ldA 2 ty26 hs14 rfl rfl rfl<|Rop<|op_ldA 1 ty34 hs14 rfl rfl rfl ?_
 obtain⟨check_1,hv16,hm⟩:=bd hm
 have p22:=(p3.trans (p8.trans p13))
 replace Fb:=Fb.step p22;replace Fa:=Fa.step p22;replace Fc:=Fc.step p22;replace Fe:=Fe.step p22;replace Fd:=Fd.step p22
 refine Rop<|op_callE hs14 Try.call23 (c23_reason_Check (p:=p) (r_:=r_) hs14.ltw Fa Fb Fc Fd Fe hv16) rfl ?_
 rintro v17 w18 p23 hs21 h20
 clear hs14
 obtain⟨rfl,Ra⟩:=h20
 refine Asg (Iv check_1) rfl<|Ri2<|Wb<|Wa<|Mve (Iv check_1) rfl<|Rop<|op_neq rfl rfl<|Ri2<|Wo2 hm rfl (fun hc25 hm=>?_) (fun hc25 hm=>?_)
 refine Wb ?_
 obtain⟨hs26,p27⟩:=hs21.sub (bs':=[(some b11,Oc [Bo false] 4)]) (.cons_cons _ (.cons _ (.cons _ List.Sublist.slnil)))
 clear Fa Fb Fc Fd Fe
 clear hs21
 refine Wa<|Mve (Iv check_1) rfl<|Rg_op_<|op_stS (Bo false) .z ty4 hs26 rfl rfl rfl rfl ?_
 intro w28 p29 hs30
 clear hs26
 refine Asg (Iv check_1) rfl<|Ri2<|Wp_ret<|⟨_,Clo,[Bo false,Iv check_1],⟨res1 (cs:=[Bo false]) ty4 (i:=0) hs30 rfl rfl rfl,rfl,trivial⟩,hs30.ext,?_⟩
 exact Vr.eq (a:=vT2 vB (vI .i64)) (x:=(false,check_1)) (mkT2 rfl ⟨rfl,Ra⟩) (oi hm)
 refine Ws2<|Wb<|Wa<|Rg_op_<|op_stS (Bo true) .z ty4 hs21 rfl rfl rfl rfl ?_
 intro w31 p32 hs33
 clear hs21
 refine Ri2<|Wb<|Wp_drawR (g0:=[]) (m:=5) (fl:=[]) (TS_inv hs33) rfl (.inl rfl) rfl (by decide+kernel) ?_  -- 5
 refine Dw_p (Value.agg [Sl Aa p.cells Ca,Sl Ab p.capacity Cb,Sl Ac p.variables Cc].toArray) (fun _ _ _ hi ht=>op_ldA 2 ty26 (Step.nx hi).1 (ht 2 rfl) rfl rfl<|Gz hi) ?_
 obtain⟨tabled_1,hv40,hm⟩:=bd hm
 have p46:=(p23.trans p32)
 replace Fb:=Fb.step p46;replace Fa:=Fa.step p46;replace Fc:=Fc.step p46
 refine Dw_op (VD _ _ (vA rXTable) tabled_1) (VD.stab _ _) (fun ρ37 w38 g hle hi ht=>?_) ?_
 obtain⟨-,hst,-⟩:=hle
 replace Fa:=Fa.step hst;replace Fb:=Fb.step hst;replace Fc:=Fc.step hst
 refine Sj2 (op_call Try.call42 (c42_reason_tabled (O:=ks (ents g++[(some b11,Oc [Bo true] 4),(some b6,Oc [Sl Ad r_.variables Cd,Sl Ae r_.places Ce] 34),(some b1,Oc [Sl Aa p.cells Ca,Sl Ab p.capacity Cb,Sl Ac p.variables Cc] 26)]) O) (p:=p) hi.ltw Fa Fb Fc hv40) (by simp only [List.map,Array.toList,(show ev _ (.tmp 12)=_ from(ht 12 rfl))]<;> rfl) ?_)
 rintro v41 w42 ⟨hx43,h44⟩
 exact Goes.call hi hx43 h44
 refine Dw_p (Pt b6 0) (fun _ _ _ hi ht=>op2 0 ty34 rfl ty31 (ht 3 rfl) rfl<|Gz hi)<|Dw_p (Sl Ad r_.variables Cd) (fun _ _ _ hi ht=>oq2 1 ty31 (Step.nx hi).1 (ht 14 rfl) rfl rfl<|Gz hi)<|Dw_eq (Value.func (.func 50) #[] #[Pt b6 0,Pt b11 0]) (fun ρ53 w54 g hle hi ht=>?_) ?_
 refine Sj2 (op_makeFunc' (a':=[]) (c':=[Pt b6 0,Pt b11 0]) rfl (by simp only [List.map,Array.toList,(show ev _ (.tmp 3)=_ from(ht 3 rfl)),(show ev _ (.tmp 4)=_ from(ht 4 rfl))]<;> rfl) ?_)
 exact Gz hi
 refine Dw_nil fun w60 g61 hl62 hi63=>?_
 obtain⟨-,hst64,-⟩:=hl62
 obtain⟨hs66,p65⟩:=Step.nx hi63
 rintro _ rfl _ rfl _ rfl v67 h68
 replace h68:Vr.vd (vA rXTable) _ _ _ _:=h68
 obtain⟨_,rfl,⟨_,_,rfl,⟨_,_,rfl,⟨Af,Cf,rfl,Ff⟩,⟨_,_,rfl,⟨Ag,Cg,rfl,Fg⟩,⟨Ah,Ch,rfl,Fh⟩⟩⟩,⟨Ai,Ci,rfl,Fi⟩⟩⟩:=h68
 rintro _ rfl
 have p70:=hs33.to hs66 (hst64.trans p65)
 replace Ff:=Ff.step p65;replace Fg:=Fg.step p65;replace Fh:=Fh.step p65;replace Fi:=Fi.step p65;clear hs33
 have p74:=(p46.trans p70)
 replace Fe:=Fe.step p74;replace Fd:=Fd.step p74
 obtain⟨hs72,p73,f71⟩:=St.publishP (p:=rXReason) (i:=1) (x:=r_) hs66 rfl (mkVia (mk_pair (mk_sl Fd) (mk_sl Fe)))
 clear hs66
 have hS75:SxR (S50 b11) w60 (ks [(some b11,Oc [Bo true] 4)] (ks [(some b1,Oc [Sl Aa p.cells Ca,Sl Ab p.capacity Cb,Sl Ac p.variables Cc] 26)] O)) [(some b11,Oc [Bo true] 4)] true:=by rw [← ks_app];exact rfl
 obtain⟨lent_1,hv76,hm⟩:=bd hm
 have hq77:ks [(some b11,Oc [Bo true] 4),(some b1,Oc [Sl Aa p.cells Ca,Sl Ab p.capacity Cb,Sl Ac p.variables Cc] 26)] O=ks [(some b11,Oc [Bo true] 4)] (ks [(some b1,Oc [Sl Aa p.cells Ca,Sl Ab p.capacity Cb,Sl Ac p.variables Cc] 26)] O):=ks_app [(some b11,Oc [Bo true] 4)] [(some b1,Oc [Sl Aa p.cells Ca,Sl Ab p.capacity Cb,Sl Ac p.variables Cc] 26)] O
 replace Fd:=Fd.step p73;replace Fg:=Fg.step p73;replace Ff:=Ff.step p73;replace Fh:=Fh.step p73;replace Fi:=Fi.step p73
 refine Rop<|op_callL (rest:=[(some b1,Oc [Sl Aa p.cells Ca,Sl Ab p.capacity Cb,Sl Ac p.variables Cc] 26)]) Try.call49 [(some b11,Oc [Bo true] 4)] hs72 (c49_reason_table__broken (S:=S50 b11) (t:=tabled_1) (variables:=r_.variables) (D:=(fun xs s=>m50_reason_Proves_1 xs r_ s)) (s0:=true) (St.lendL (L:=[(some b11,Oc [Bo true] 4)]) (rest:=[(some b1,Oc [Sl Aa p.cells Ca,Sl Ab p.capacity Cb,Sl Ac p.variables Cc] 26)]) hs72) (hq77 ▸ Ff) (hq77 ▸ Fg) (hq77 ▸ Fh) (hq77 ▸ Fi) (hq77 ▸ Fd) (d50 (hq77 ▸ f71)) hS75 hv76) rfl ?_
 intro v83 w78 L79 p80 hs81 hP82 _;clear hS75 hq77
 obtain rfl:=hP82
 replace hs81:St ⟨w,[],[]⟩ O w78 [(some b11,Oc [Bo lent_1] 4),(some b1,Oc [Sl Aa p.cells Ca,Sl Ab p.capacity Cb,Sl Ac p.variables Cc] 26)]:=hs81
 replace p80:Step (ks [(some b11,Oc [Bo true] 4),(some b1,Oc [Sl Aa p.cells Ca,Sl Ab p.capacity Cb,Sl Ac p.variables Cc] 26)] O) w60 (ks [(some b11,Oc [Bo lent_1] 4),(some b1,Oc [Sl Aa p.cells Ca,Sl Ab p.capacity Cb,Sl Ac p.variables Cc] 26)] O) w78:=p80
 clear hs72
 refine Ri2<|Wb ?_
 obtain⟨hs85,p86⟩:=hs81.sub (bs':=[(some b11,Oc [Bo lent_1] 4)]) (.cons_cons _ (.cons _ List.Sublist.slnil))
 clear Fa Fb Fc Fd Fe Ff Fg Fh Fi f71
 clear hs81
 refine Wa<|Rop<|oq2 0 ty4 hs85 rfl rfl rfl<|Rg_op_<|op_stS (Bo lent_1) .z ty4 hs85 rfl rfl rfl rfl ?_
 intro w87 p88 hs89
 clear hs85
 refine Asg (Iv 0) rfl<|Ri2<|Wp_ret<|⟨_,Clo,[Bo lent_1,Iv 0],⟨res1 (cs:=[Bo lent_1]) ty4 (i:=0) hs89 rfl rfl rfl,rfl,trivial⟩,hs89.ext,?_⟩
 exact Vr.eq (a:=vT2 vB (vI .i64)) (x:=(lent_1,0)) (mkT2 rfl ⟨rfl,(show InK .i64 0 from by decide)⟩) (oi hm)

def m86_bits_Mul64 (x_:Int) (y:Int):Option (Int × Int):=
 some ((IntKind.wrap .u64 ((IntKind.wrap .u64 ((IntKind.wrap .u64 ((x_ / 2 ^ min 32 (IntKind.bits .u64))*(y / 2 ^ min 32 (IntKind.bits .u64))))+((IntKind.wrap .u64 ((IntKind.wrap .u64 ((x_ / 2 ^ min 32 (IntKind.bits .u64))*(Go.bits .and .u64 y 4294967295)))+((IntKind.wrap .u64 ((Go.bits .and .u64 x_ 4294967295)*(Go.bits .and .u64 y 4294967295))) / 2 ^ min 32 (IntKind.bits .u64)))) / 2 ^ min 32 (IntKind.bits .u64))))+((IntKind.wrap .u64 ((Go.bits .and .u64 (IntKind.wrap .u64 ((IntKind.wrap .u64 ((x_ / 2 ^ min 32 (IntKind.bits .u64))*(Go.bits .and .u64 y 4294967295)))+((IntKind.wrap .u64 ((Go.bits .and .u64 x_ 4294967295)*(Go.bits .and .u64 y 4294967295))) / 2 ^ min 32 (IntKind.bits .u64)))) 4294967295)+(IntKind.wrap .u64 ((Go.bits .and .u64 x_ 4294967295)*(y / 2 ^ min 32 (IntKind.bits .u64)))))) / 2 ^ min 32 (IntKind.bits .u64)))),(IntKind.wrap .u64 (x_*y)))

theorem c86_bits_Mul64 {w:World} {O:List Nat} {x_:Int} {y:Int} (hO:∀k∈O,k<w.heap.size) (Ra:InK .u64 x_) (Rb:InK .u64 y) {x:Int × Int} (hm:m86_bits_Mul64 x_ y=some x):
 Ok Try.prog 86 [(Value.int .u64 x_),(Value.int .u64 y)] w O (vT2 (vI .u64) (vI .u64)) x:=by
 unfold m86_bits_Mul64 at hm
 refine Fn_of_Wp (n:=51) (xs:=[.tmp 4,.tmp 5]) Try.func86 rfl Try.ntmps86 Try.results86 rfl ?_
 have hs:=St.start hO
 refine Wb<|Wa<|Asg (Value.int .u64 0) rfl<|Asg (Value.int .u64 0) rfl<|Ri2<|Wb<|Wa<|Mve (Value.int .u64 x_) rfl<|Rop<|op_and rfl rfl<|Asg (Value.int .u64 (Go.bits .and .u64 x_ 4294967295)) rfl<|Ri2<|Wb<|Wa<|Mve (Value.int .u64 x_) rfl<|Rop<|op_shr rfl rfl (by decide)<|Asg (Value.int .u64 (x_ / 2 ^ min 32 (IntKind.bits .u64))) rfl<|Ri2<|Wb<|Wa<|Mve (Value.int .u64 y) rfl<|Rop<|op_and rfl rfl<|Asg (Value.int .u64 (Go.bits .and .u64 y 4294967295)) rfl<|Ri2<|Wb<|Wa<|Mve (Value.int .u64 y) rfl<|Rop<|op_shr rfl rfl (by decide)<|Asg (Value.int .u64 (y / 2 ^ min 32 (IntKind.bits .u64))) rfl<|Ri2<|Wb<|Wa<|Mve (Value.int .u64 (Go.bits .and .u64 x_ 4294967295)) rfl<|Mve (Value.int .u64 (Go.bits .and .u64 y 4294967295)) rfl<|Rop<|op_mulw rfl rfl<|Asg (Value.int .u64 (IntKind.wrap .u64 ((Go.bits .and .u64 x_ 4294967295)*(Go.bits .and .u64 y 4294967295)))) rfl<|Ri2<|Wb<|Wa<|Mve (Value.int .u64 (x_ / 2 ^ min 32 (IntKind.bits .u64))) rfl<|Mve (Value.int .u64 (Go.bits .and .u64 y 4294967295)) rfl<|Rop<|op_mulw rfl rfl<|Mve (Value.int .u64 (IntKind.wrap .u64 ((Go.bits .and .u64 x_ 4294967295)*(Go.bits .and .u64 y 4294967295)))) rfl<|Rop<|op_shr rfl rfl (by decide)<|Rop<|op_addw rfl rfl<|Asg (Value.int .u64 (IntKind.wrap .u64 ((IntKind.wrap .u64 ((x_ / 2 ^ min 32 (IntKind.bits .u64))*(Go.bits .and .u64 y 4294967295)))+((IntKind.wrap .u64 ((Go.bits .and .u64 x_ 4294967295)*(Go.bits .and .u64 y 4294967295))) / 2 ^ min 32 (IntKind.bits .u64))))) rfl<|Ri2<|Wb<|Wr [] [(0,(Value.int .u64 x_)),(1,(Value.int .u64 y)),(6,(Value.int .u64 (Go.bits .and .u64 x_ 4294967295))),(7,(Value.int .u64 (x_ / 2 ^ min 32 (IntKind.bits .u64)))),(9,(Value.int .u64 (y / 2 ^ min 32 (IntKind.bits .u64)))),(11,(Value.int .u64 (IntKind.wrap .u64 ((IntKind.wrap .u64 ((x_ / 2 ^ min 32 (IntKind.bits .u64))*(Go.bits .and .u64 y 4294967295)))+((IntKind.wrap .u64 ((Go.bits .and .u64 x_ 4294967295)*(Go.bits .and .u64 y 4294967295))) / 2 ^ min 32 (IntKind.bits .u64))))))] fun ξ1=>Wa<|Mve (Value.int .u64 (IntKind.wrap .u64 ((IntKind.wrap .u64 ((x_ / 2 ^ min 32 (IntKind.bits .u64))*(Go.bits .and .u64 y 4294967295)))+((IntKind.wrap .u64 ((Go.bits .and .u64 x_ 4294967295)*(Go.bits .and .u64 y 4294967295))) / 2 ^ min 32 (IntKind.bits .u64))))) rfl<|Rop<|op_and rfl rfl<|Asg (Value.int .u64 (Go.bits .and .u64 (IntKind.wrap .u64 ((IntKind.wrap .u64 ((x_ / 2 ^ min 32 (IntKind.bits .u64))*(Go.bits .and .u64 y 4294967295)))+((IntKind.wrap .u64 ((Go.bits .and .u64 x_ 4294967295)*(Go.bits .and .u64 y 4294967295))) / 2 ^ min 32 (IntKind.bits .u64)))) 4294967295)) rfl<|Ri2<|Wb<|Wa<|Mve (Value.int .u64 (IntKind.wrap .u64 ((IntKind.wrap .u64 ((x_ / 2 ^ min 32 (IntKind.bits .u64))*(Go.bits .and .u64 y 4294967295)))+((IntKind.wrap .u64 ((Go.bits .and .u64 x_ 4294967295)*(Go.bits .and .u64 y 4294967295))) / 2 ^ min 32 (IntKind.bits .u64))))) rfl<|Rop<|op_shr rfl rfl (by decide)<|Asg (Value.int .u64 ((IntKind.wrap .u64 ((IntKind.wrap .u64 ((x_ / 2 ^ min 32 (IntKind.bits .u64))*(Go.bits .and .u64 y 4294967295)))+((IntKind.wrap .u64 ((Go.bits .and .u64 x_ 4294967295)*(Go.bits .and .u64 y 4294967295))) / 2 ^ min 32 (IntKind.bits .u64)))) / 2 ^ min 32 (IntKind.bits .u64))) rfl<|Ri2<|Wb<|Wa<|Mve (Value.int .u64 (Go.bits .and .u64 (IntKind.wrap .u64 ((IntKind.wrap .u64 ((x_ / 2 ^ min 32 (IntKind.bits .u64))*(Go.bits .and .u64 y 4294967295)))+((IntKind.wrap .u64 ((Go.bits .and .u64 x_ 4294967295)*(Go.bits .and .u64 y 4294967295))) / 2 ^ min 32 (IntKind.bits .u64)))) 4294967295)) rfl<|Mve (Value.int .u64 (Go.bits .and .u64 x_ 4294967295)) rfl<|Mve (Value.int .u64 (y / 2 ^ min 32 (IntKind.bits .u64))) rfl<|Rop<|op_mulw rfl rfl<|Rop<|op_addw rfl rfl<|Asg (Value.int .u64 (IntKind.wrap .u64 ((Go.bits .and .u64 (IntKind.wrap .u64 ((IntKind.wrap .u64 ((x_ / 2 ^ min 32 (IntKind.bits .u64))*(Go.bits .and .u64 y 4294967295)))+((IntKind.wrap .u64 ((Go.bits .and .u64 x_ 4294967295)*(Go.bits .and .u64 y 4294967295))) / 2 ^ min 32 (IntKind.bits .u64)))) 4294967295)+(IntKind.wrap .u64 ((Go.bits .and .u64 x_ 4294967295)*(y / 2 ^ min 32 (IntKind.bits .u64))))))) rfl<|Ri2<|Wb<|Wa<|Mve (Value.int .u64 (x_ / 2 ^ min 32 (IntKind.bits .u64))) rfl<|Mve (Value.int .u64 (y / 2 ^ min 32 (IntKind.bits .u64))) rfl<|Rop<|op_mulw rfl rfl<|Mve (Value.int .u64 ((IntKind.wrap .u64 ((IntKind.wrap .u64 ((x_ / 2 ^ min 32 (IntKind.bits .u64))*(Go.bits .and .u64 y 4294967295)))+((IntKind.wrap .u64 ((Go.bits .and .u64 x_ 4294967295)*(Go.bits .and .u64 y 4294967295))) / 2 ^ min 32 (IntKind.bits .u64)))) / 2 ^ min 32 (IntKind.bits .u64))) rfl<|Rop<|op_addw rfl rfl<|Mve (Value.int .u64 (IntKind.wrap .u64 ((Go.bits .and .u64 (IntKind.wrap .u64 ((IntKind.wrap .u64 ((x_ / 2 ^ min 32 (IntKind.bits .u64))*(Go.bits .and .u64 y 4294967295)))+((IntKind.wrap .u64 ((Go.bits .and .u64 x_ 4294967295)*(Go.bits .and .u64 y 4294967295))) / 2 ^ min 32 (IntKind.bits .u64)))) 4294967295)+(IntKind.wrap .u64 ((Go.bits .and .u64 x_ 4294967295)*(y / 2 ^ min 32 (IntKind.bits .u64))))))) rfl<|Rop<|op_shr rfl rfl (by decide)<|Rop<|op_addw rfl rfl<|Asg (Value.int .u64 (IntKind.wrap .u64 ((IntKind.wrap .u64 ((IntKind.wrap .u64 ((x_ / 2 ^ min 32 (IntKind.bits .u64))*(y / 2 ^ min 32 (IntKind.bits .u64))))+((IntKind.wrap .u64 ((IntKind.wrap .u64 ((x_ / 2 ^ min 32 (IntKind.bits .u64))*(Go.bits .and .u64 y 4294967295)))+((IntKind.wrap .u64 ((Go.bits .and .u64 x_ 4294967295)*(Go.bits .and .u64 y 4294967295))) / 2 ^ min 32 (IntKind.bits .u64)))) / 2 ^ min 32 (IntKind.bits .u64))))+((IntKind.wrap .u64 ((Go.bits .and .u64 (IntKind.wrap .u64 ((IntKind.wrap .u64 ((x_ / 2 ^ min 32 (IntKind.bits .u64))*(Go.bits .and .u64 y 4294967295)))+((IntKind.wrap .u64 ((Go.bits .and .u64 x_ 4294967295)*(Go.bits .and .u64 y 4294967295))) / 2 ^ min 32 (IntKind.bits .u64)))) 4294967295)+(IntKind.wrap .u64 ((Go.bits .and .u64 x_ 4294967295)*(y / 2 ^ min 32 (IntKind.bits .u64)))))) / 2 ^ min 32 (IntKind.bits .u64))))) rfl<|Ri2<|Wb<|Wa<|Mve (Value.int .u64 x_) rfl<|Mve (Value.int .u64 y) rfl<|Rop<|op_mulw rfl rfl<|Asg (Value.int .u64 (IntKind.wrap .u64 (x_*y))) rfl<|Ri2<|Wp_ret<|⟨_,Clo,[(Value.int .u64 (IntKind.wrap .u64 ((IntKind.wrap .u64 ((IntKind.wrap .u64 ((x_ / 2 ^ min 32 (IntKind.bits .u64))*(y / 2 ^ min 32 (IntKind.bits .u64))))+((IntKind.wrap .u64 ((IntKind.wrap .u64 ((x_ / 2 ^ min 32 (IntKind.bits .u64))*(Go.bits .and .u64 y 4294967295)))+((IntKind.wrap .u64 ((Go.bits .and .u64 x_ 4294967295)*(Go.bits .and .u64 y 4294967295))) / 2 ^ min 32 (IntKind.bits .u64)))) / 2 ^ min 32 (IntKind.bits .u64))))+((IntKind.wrap .u64 ((Go.bits .and .u64 (IntKind.wrap .u64 ((IntKind.wrap .u64 ((x_ / 2 ^ min 32 (IntKind.bits .u64))*(Go.bits .and .u64 y 4294967295)))+((IntKind.wrap .u64 ((Go.bits .and .u64 x_ 4294967295)*(Go.bits .and .u64 y 4294967295))) / 2 ^ min 32 (IntKind.bits .u64)))) 4294967295)+(IntKind.wrap .u64 ((Go.bits .and .u64 x_ 4294967295)*(y / 2 ^ min 32 (IntKind.bits .u64)))))) / 2 ^ min 32 (IntKind.bits .u64))))),(Value.int .u64 (IntKind.wrap .u64 (x_*y)))],⟨rfl,rfl,trivial⟩,hs.ext,?_⟩
 exact Vr.eq (a:=vT2 (vI .u64) (vI .u64)) (x:=((IntKind.wrap .u64 ((IntKind.wrap .u64 ((IntKind.wrap .u64 ((x_ / 2 ^ min 32 (IntKind.bits .u64))*(y / 2 ^ min 32 (IntKind.bits .u64))))+((IntKind.wrap .u64 ((IntKind.wrap .u64 ((x_ / 2 ^ min 32 (IntKind.bits .u64))*(Go.bits .and .u64 y 4294967295)))+((IntKind.wrap .u64 ((Go.bits .and .u64 x_ 4294967295)*(Go.bits .and .u64 y 4294967295))) / 2 ^ min 32 (IntKind.bits .u64)))) / 2 ^ min 32 (IntKind.bits .u64))))+((IntKind.wrap .u64 ((Go.bits .and .u64 (IntKind.wrap .u64 ((IntKind.wrap .u64 ((x_ / 2 ^ min 32 (IntKind.bits .u64))*(Go.bits .and .u64 y 4294967295)))+((IntKind.wrap .u64 ((Go.bits .and .u64 x_ 4294967295)*(Go.bits .and .u64 y 4294967295))) / 2 ^ min 32 (IntKind.bits .u64)))) 4294967295)+(IntKind.wrap .u64 ((Go.bits .and .u64 x_ 4294967295)*(y / 2 ^ min 32 (IntKind.bits .u64)))))) / 2 ^ min 32 (IntKind.bits .u64)))),(IntKind.wrap .u64 (x_*y)))) (mkT2 ⟨rfl,(inK_wrap .u64 _)⟩ ⟨rfl,(inK_wrap .u64 _)⟩) (oi hm)

def m78_bits_Mul (x_:Int) (y:Int):Option (Int × Int):=
 (m86_bits_Mul64 x_ y).bind fun mul64_1=>
 some (mul64_1.1,mul64_1.2)

theorem c78_bits_Mul {w:World} {O:List Nat} {x_:Int} {y:Int} (hO:∀k∈O,k<w.heap.size) (Ra:InK .u64 x_) (Rb:InK .u64 y) {x:Int × Int} (hm:m78_bits_Mul x_ y=some x):
 Ok Try.prog 78 [(Value.int .u64 x_),(Value.int .u64 y)] w O (vT2 (vI .u64) (vI .u64)) x:=by
 unfold m78_bits_Mul at hm
 refine Fn_of_Wp (n:=30) (xs:=[.tmp 4,.tmp 5]) Try.func78 rfl Try.ntmps78 Try.results78 rfl ?_
 have hs:=St.start hO
 refine Wb<|Wa<|Asg (Value.int .u64 0) rfl<|Asg (Value.int .u64 0) rfl<|Ri2<|Wb<|Wp_cond_f rfl<|Ws2<|Wb<|Wa<|Mve (Value.int .u64 x_) rfl<|Mve (Value.int .u64 y) rfl ?_
 obtain⟨mul64_1,hv1,hm⟩:=bd hm
 refine Rop<|op_callE hs Try.call86 (c86_bits_Mul64 (x_:=x_) (y:=y) hs.ltw Ra Rb hv1) rfl ?_
 rintro v2 w3 p7 hs6 h5
 obtain⟨v8,v9,rfl,h10,h11⟩:=h5
 obtain⟨rfl,Rc⟩:=h10
 obtain⟨rfl,Rd⟩:=h11
 refine Mve (Value.tuple [(Value.int .u64 mul64_1.1),(Value.int .u64 mul64_1.2)].toArray) rfl<|Rop<|op_extract (v:=(Value.int .u64 mul64_1.1)) rfl rfl<|Rop<|op_extract (v:=(Value.int .u64 mul64_1.2)) rfl rfl<|Asg (Value.int .u64 mul64_1.1) rfl<|Asg (Value.int .u64 mul64_1.2) rfl<|Ri2<|Wb<|Wa<|Mve (Value.int .u64 mul64_1.1) rfl<|Mve (Value.int .u64 mul64_1.2) rfl<|Asg (Value.int .u64 mul64_1.1) rfl<|Asg (Value.int .u64 mul64_1.2) rfl<|Ri2<|Wp_ret<|⟨_,Clo,[(Value.int .u64 mul64_1.1),(Value.int .u64 mul64_1.2)],⟨rfl,rfl,trivial⟩,hs6.ext,?_⟩
 exact Vr.eq (a:=vT2 (vI .u64) (vI .u64)) (x:=(mul64_1.1,mul64_1.2)) (mkT2 ⟨rfl,Rc⟩ ⟨rfl,Rd⟩) (oi hm)

abbrev q53_0:List Nat:=[7,8,34,35,36,37,38,39,40,41,42,43,44,45,46]

def m53_slices_Repeatint_int__B0 (sf42:(List Int)→Int→Option (List Int)) (newslice_1:List Int) (n_1:Int):Option (List Int):=
 bif (decide (n_1<(newslice_1.length:Int))) then
  ck ((0:Int)≤n_1∧n_1<(newslice_1.length:Int)∧(newslice_1.length:Int)≤(newslice_1.length:Int))<|
  ck ((0:Int)≤(0:Int)∧(0:Int)<n_1∧n_1≤(newslice_1.length:Int))<|
  ck (n_1.toNat<newslice_1.length)<|
  sf42 (newslice_1.take n_1.toNat++(((newslice_1.drop 0).take (n_1.toNat - 0)).take (newslice_1.length - n_1.toNat)++(newslice_1.drop n_1.toNat).drop (min ((newslice_1.drop 0).take (n_1.toNat - 0)).length (newslice_1.length - n_1.toNat)))) (IntKind.wrap .i64 (n_1+((min ((newslice_1.drop 0).take (n_1.toNat - 0)).length (newslice_1.length - n_1.toNat):Nat):Int)))
 else
  some newslice_1

def m53_slices_Repeatint_int_ (x_:List Int) (count:Int):Option (List Int):=
 bif (decide (count<0)) then
  none
 else
  (m78_bits_Mul (IntKind.wrap .u64 (x_.length:Int)) (IntKind.wrap .u64 count)).bind fun mul_1=>
  jn (fun(v_1:Bool)=>
   bif v_1 then
    none
   else
    ck ((0:Int)≤(IntKind.wrap .i64 mul_1.2)∧(IntKind.wrap .i64 mul_1.2)≤(IntKind.wrap .i64 mul_1.2)∧(8:Int)*(IntKind.wrap .i64 mul_1.2)≤281474976710656∧(IntKind.wrap .i64 mul_1.2)≤281474976710656)<|
    loop2 m53_slices_Repeatint_int__B0 1000000 (x_.take (List.replicate (IntKind.wrap .i64 mul_1.2).toNat (0:Int)).length++(List.replicate (IntKind.wrap .i64 mul_1.2).toNat (0:Int)).drop x_.length) ((min x_.length (List.replicate (IntKind.wrap .i64 mul_1.2).toNat (0:Int)).length:Nat):Int))
  (fun k18=>
   bif (decide (0<mul_1.1)) then
    k18 true
   else
    k18 (decide (9223372036854775807<mul_1.2)))

theorem g53_slices_Repeatint_int_ {w:World} {O:List Nat} {x_:List Int} {count:Int} {Aa:Option Addr} {Ca:Nat} (hO:∀k∈O,k<w.heap.size) (Fa:SlR (rInt .i64) w O Aa Ca x_) (Ra:InK .i64 count) {x:(List Int)} (hm:m53_slices_Repeatint_int_ x_ count=some x):
 OkG Try.prog 53 [Sl Aa x_ Ca,Iv count] w O (rInt .i64) 3 x:=by
 unfold m53_slices_Repeatint_int_ at hm
 refine Fn_of_Wp (n:=48) (xs:=[.tmp 4]) Try.func53 rfl Try.ntmps53 Try.results53 rfl ?_
 have hs:=St.start hO
 refine Wb<|Wa<|Asg (Value.slice none 0 0) rfl<|Ri2<|Wb<|Wb<|Wa<|Mve (Iv count) rfl<|Rop<|op_lss rfl rfl<|Ri2<|Wo2 hm rfl (fun hc1 hm=>?_) (fun hc1 hm=>?_)
 refine Wa ?_
 cases hm
 refine Ws2<|Wb<|Wa<|Mve (Sl Aa x_ Ca) rfl<|Rop<|op_len Try.underlying31 rfl ?_
 have rl2:=inK_len Fa
 refine Rop<|op_conv Try.underlying3 Try.underlying123 rfl<|Mve (Iv count) rfl<|Rop<|op_conv Try.underlying3 Try.underlying123 rfl ?_
 obtain⟨mul_1,hv3,hm⟩:=bd hm
 refine Rop<|op_callE hs Try.call78 (c78_bits_Mul (x_:=(IntKind.wrap .u64 (x_.length:Int))) (y:=(IntKind.wrap .u64 count)) hs.ltw (inK_wrap .u64 _) (inK_wrap .u64 _) hv3) rfl ?_
 rintro v4 w5 p9 hs8 h7
 obtain⟨v10,v11,rfl,h12,h13⟩:=h7
 obtain⟨rfl,Rb⟩:=h12
 obtain⟨rfl,Rc⟩:=h13
 refine Mve (Value.tuple [(Value.int .u64 mul_1.1),(Value.int .u64 mul_1.2)].toArray) rfl<|Rop<|op_extract (v:=(Value.int .u64 mul_1.1)) rfl rfl<|Rop<|op_extract (v:=(Value.int .u64 mul_1.2)) rfl rfl<|Asg (Value.int .u64 mul_1.1) rfl<|Asg (Value.int .u64 mul_1.2) rfl<|Ri2<|Wb<|Wr [] [(0,Sl Aa x_ Ca),(5,(Value.int .u64 mul_1.1)),(6,(Value.int .u64 mul_1.2))] fun ξ16=>?_
 obtain⟨k18,hk19,hm⟩:=jn_elim hm
 refine Wp_seqJ [21,22,23,24,25,26] (fun fr w'=>∃(v_1:Bool) (Ebs:Ents),Ebs=[]∧fr [] [(26,Bo v_1)]∧hs8.S (ks Ebs O) w'∧St ⟨w,[],[]⟩ O w' Ebs∧k18 v_1=some x) ?_ ?_
 rintro ρ25 w21 ⟨v_1,_,rfl,hfr24,hst23,hs22,hm⟩
 replace hm:=jnE1 hk19 hm
 rw [hfr24.eq];clear hfr24
 refine Wo2 hm rfl (fun hc26 hm=>?_) (fun hc26 hm=>?_)
 refine Wa ?_
 cases hm
 refine Ws2<|Wb<|Wa<|Mve (Value.int .u64 mul_1.2) rfl<|Rop<|op_conv Try.underlying123 Try.underlying3 rfl ?_
 obtain⟨hc27,hm⟩:=ck_some hm
 refine Rop<|op_makeSliceI (q:=(rInt .i64)) (v:=Iv 0) (x0:=(0:Int)) ty31 ty3 hs22 rfl rfl hc27 rfl (fun _ _=>(mk_int (show InK .i64 0 from by decide))) ?_
 intro b28 w29 hx33 p30 hs31 f32
 clear hs22
 refine Asg (Sl (some ⟨b28,0,none⟩) (List.replicate (IntKind.wrap .i64 mul_1.2).toNat (0:Int)) ((IntKind.wrap .i64 mul_1.2).toNat)) rfl<|Ri2<|Wb<|Wa<|Mve (Sl (some ⟨b28,0,none⟩) (List.replicate (IntKind.wrap .i64 mul_1.2).toNat (0:Int)) ((IntKind.wrap .i64 mul_1.2).toNat)) rfl<|Mve (Sl Aa x_ Ca) rfl ?_
 replace Fa:=Fa.step (p9.trans (hst23.trans p30))
 refine Rop<|op_copyG (p:=(rInt .i64)) (i:=0) ty31 ty3 rfl hs31 rfl rfl f32 rfl Fa (.inr (by simp)) ?_
 intro o38 w35 p36 hs37 f39
 clear hs31
 refine Asg (Iv ((min x_.length (List.replicate (IntKind.wrap .i64 mul_1.2).toNat (0:Int)).length:Nat):Int)) rfl<|Ri2<|Wb<|Wn2 ?_
 replace Fa:=Fa.step p36
 refine Wp_loopM q53_0 (fun m fr w'=>∃(newslice_1:List Int) (n_1:Int) (Ab:Option Addr) (Cb:Nat) (k_g40:Option Nat) (o_g40:Obj) (Ebs:Ents),Ebs=[(k_g40,o_g40)]∧fr [] [(7,Sl Ab newslice_1 Cb),(8,Iv n_1)]∧hs37.S (ks Ebs O) w'∧St ⟨w,[],[]⟩ O w' Ebs∧Gs (rInt .i64) 3 w' (ks Ebs O) Ab Cb newslice_1 k_g40 o_g40∧InK .i64 n_1∧loop2 m53_slices_Repeatint_int__B0 m newslice_1 n_1=some x) 1000000 ⟨x_.take (List.replicate (IntKind.wrap .i64 mul_1.2).toNat (0:Int)).length++(List.replicate (IntKind.wrap .i64 mul_1.2).toNat (0:Int)).drop x_.length,((min x_.length (List.replicate (IntKind.wrap .i64 mul_1.2).toNat (0:Int)).length:Nat):Int),some ⟨b28,0,none⟩,(IntKind.wrap .i64 mul_1.2).toNat,some b28,o38,_,rfl,Frm.of ⟨eqlenV (show(List.replicate (IntKind.wrap .i64 mul_1.2).toNat (0:Int)).length=(x_.take (List.replicate (IntKind.wrap .i64 mul_1.2).toNat (0:Int)).length++(List.replicate (IntKind.wrap .i64 mul_1.2).toNat (0:Int)).drop x_.length).length from by first |(simp;done) |(simp;omega)),rfl,trivial⟩,Step.refl _ _,hs37,f39,inK_minlen Fa,hm⟩ ?_ ?_
 rintro _ _ ⟨_,_,_,_,_,_,_,_,_,_,_,_,_,hm⟩;exact loop2_z hm
 rintro m45 K44 hK44 ρ50 w46 ⟨newslice_1,n_1,Ab,Cb,k_g40,o_g40,_,rfl,hfr49,hst48,hs47,Fb,Rd,hm⟩
 obtain⟨sf42,hsf43,hm⟩:=loop2_s hm;unfold m53_slices_Repeatint_int__B0 at hm
 rw [hfr49.eq];clear hfr49
 have ch51:=hst48
 refine Wb<|Wb ?_
 clear Fa f39
 refine Wa<|Mve (Iv n_1) rfl<|Mve (Sl Ab newslice_1 Cb) rfl<|Rop<|op_len Try.underlying31 rfl ?_
 have rl52:=inK_lenG Fb
 refine Rop<|op_lss rfl rfl<|Ri2<|Wo2 hm rfl (fun hc53 hm=>?_) (fun hc53 hm=>?_)
 refine Ws2<|Wn2<|Wp_drawR (g0:=[]) (m:=7) (fl:=[0]) (TS_inv hs47) rfl (.inl rfl) rfl (by decide+kernel) ?_  -- 9
 refine Dw_p (Iv n_1) (fun _ _ _ hi ht=>ok2 (v:=Iv n_1) (ht 8 rfl)<|Gz hi)<|Dw_p (Sl Ab newslice_1 Cb) (fun _ _ _ hi ht=>ok2 (v:=Sl Ab newslice_1 Cb) (ht 7 rfl)<|Gz hi)<|Dw_p (Iv n_1) (fun _ _ _ hi ht=>ok2 (v:=Iv n_1) (ht 8 rfl)<|Gz hi) ?_
 obtain⟨hc66,hm⟩:=ck_some hm
 obtain⟨b67,rfl,rfl⟩:=Fb.at_ (by omega)
 refine Dw_eq (Value.slice (some ⟨b67,if Cb=n_1.toNat then 0 else 0+n_1.toNat*1,none⟩) (newslice_1.length - n_1.toNat) (Cb - n_1.toNat)) (fun ρ63 w64 g hle hi ht=>?_) ?_
 obtain⟨-,hst,-⟩:=hle
 replace Fb:=Fb.step hst
 refine Sj2 (op_sliceO (l:=n_1.toNat) (h:=newslice_1.length) (m:=Cb) ty31 ty3 (ht 39 rfl) (bndI (ht 40 rfl) (by omega)) rfl rfl (by decide) (by omega) (by have:=Fb.le;omega) (Nat.le_refl _) ?_)
 exact Gz hi
 refine Dw_p (Sl (some ⟨b67,0,none⟩) newslice_1 Cb) (fun _ _ _ hi ht=>ok2 (v:=Sl (some ⟨b67,0,none⟩) newslice_1 Cb) (ht 7 rfl)<|Gz hi)<|Dw_p (Iv n_1) (fun _ _ _ hi ht=>ok2 (v:=Iv n_1) (ht 8 rfl)<|Gz hi) ?_
 obtain⟨hc77,hm⟩:=ck_some hm
 refine Dw_eq (Value.slice (some ⟨b67,if Cb=0 then 0 else 0+0*1,none⟩) (n_1.toNat - 0) (Cb - 0)) (fun ρ74 w75 g hle hi ht=>?_) ?_
 obtain⟨-,hst,-⟩:=hle
 replace Fb:=Fb.step hst
 refine Sj2 (op_sliceO (l:=0) (h:=n_1.toNat) (m:=Cb) ty31 ty3 (ht 42 rfl) rfl (bndI (ht 43 rfl) (by omega)) rfl (by decide) (by omega) (by have:=Fb.le;omega) (Nat.le_refl _) ?_)
 exact Gz hi
 refine Dw_nil fun w82 g83 hl84 hi85=>?_
 obtain⟨-,hst86,-⟩:=hl84
 obtain⟨hs88,p87⟩:=Step.nx hi85
 rintro _ rfl _ rfl _ rfl _ rfl _ rfl _ rfl _ rfl
 have p89:=hs47.to hs88 (hst86.trans p87)
 clear hs47
 obtain⟨hc90,hm⟩:=ck_some hm
 replace Fb:=Fb.step p89
 obtain⟨ns91,he92,hr93⟩:=Gs.win (i:=0) (l:=0) (h:=n_1.toNat) rfl hs88 rfl Fb (by omega) (by omega)
 refine Rop (op_copyW (p:=(rInt .i64)) (xs:=newslice_1) (i:=0) (l:=n_1.toNat) (h:=newslice_1.length) ty31 ty3 rfl hs88 rfl rfl Fb (eqlen rfl (show n_1.toNat - 0=((newslice_1.drop 0).take (n_1.toNat - 0)).length from by simp;omega)) he92 hr93 hc90 (by omega) ?_)
 intro o97 w94 p95 hs96 f98
 clear hs88
 have r99:InK .i64 ((min ((newslice_1.drop 0).take (n_1.toNat - 0)).length (newslice_1.length - n_1.toNat):Nat):Int):=inK_of (by have:=f98.le;have hm:maxLen=9223372036854775807:=rfl;simp at this ⊢;omega)
 refine Rop<|op_addw rfl rfl<|Asg (Iv (IntKind.wrap .i64 (n_1+((min ((newslice_1.drop 0).take (n_1.toNat - 0)).length (newslice_1.length - n_1.toNat):Nat):Int)))) rfl<|Ri2 ?_
 replace ch51:=ch51.trans (p89.trans p95)
 exact hK44 _ _ ⟨newslice_1.take n_1.toNat++(((newslice_1.drop 0).take (n_1.toNat - 0)).take (newslice_1.length - n_1.toNat)++(newslice_1.drop n_1.toNat).drop (min ((newslice_1.drop 0).take (n_1.toNat - 0)).length (newslice_1.length - n_1.toNat))),(IntKind.wrap .i64 (n_1+((min ((newslice_1.drop 0).take (n_1.toNat - 0)).length (newslice_1.length - n_1.toNat):Nat):Int))),some ⟨b67,0,none⟩,Cb,some b67,o97,_,rfl,Frm.of ⟨eqlenV (show newslice_1.length=(newslice_1.take n_1.toNat++(((newslice_1.drop 0).take (n_1.toNat - 0)).take (newslice_1.length - n_1.toNat)++(newslice_1.drop n_1.toNat).drop (min ((newslice_1.drop 0).take (n_1.toNat - 0)).length (newslice_1.length - n_1.toNat)))).length from by first |(simp;done) |(simp;omega)),rfl,trivial⟩,ch51,hs96,f98,(inK_wrap .i64 _),jnE2 hsf43 hm⟩
 refine Wp_exit<|Wb<|Wa<|Mve (Sl Ab newslice_1 Cb) rfl<|Asg (Sl Ab newslice_1 Cb) rfl<|Ri2<|Wp_ret<|⟨_,Clo,[Sl Ab newslice_1 Cb],⟨rfl,trivial⟩,hs47.ext,?_⟩
 exact OkG.mk (i:=0) hs47 rfl Fb (oi hm)
 intro K20 hK20
 have ch100:=hs8.stepR
 refine Wa<|Mve (Value.int .u64 mul_1.1) rfl<|Rop<|op_gtr rfl rfl<|Mve (Bo (decide (0<mul_1.1))) rfl<|Rg_caseM hm (fun hg101 hm=>?_) (fun hg101 hm=>?_)
 exact Rl2 rfl (asB_ne rfl rfl) rfl<|Rl2 rfl (asB_ne rfl rfl) rfl<|Pkt (Bo true) rfl rfl<|Ri2<|hK20 _ _ ⟨true,_,rfl,Frm.of ⟨rfl,trivial⟩,ch100,hs8,hm⟩
 exact Rog rfl rfl<|ok2 (v:=(Value.int .u64 mul_1.2)) rfl<|Rog rfl rfl<|op_gtr rfl rfl<|Pkf (Bo (decide (9223372036854775807<mul_1.2))) rfl rfl<|Ri2<|hK20 _ _ ⟨decide (9223372036854775807<mul_1.2),_,rfl,Frm.of ⟨rfl,trivial⟩,ch100,hs8,hm⟩
abbrev q20_2:List Nat:=[23,24,25,26,27,28,29,30,31,32,33,34,35]

abbrev q20_1:List Nat:=[7,39,40,41,42,43,44,45,46,47,48,49,50,51,52,53,54,55,56,57,58,59,60,61,62]

abbrev q20_0:List Nat:=[9,66,67,68,69,70,71,72,73,74,75,76,77,78,79,80]

def m20_reason_Part_B2 (p:XProblem) (r_:XReason) (rows_2:List (List Int)) (sf318:Int→(List XVariable)→Option (XProblem × Int)) (v_3:Int) (v_4:List XVariable):Option (XProblem × Int):=
 bif (decide (v_3<(r_.variables.length:Int))) then
  ck ((0:Int)≤v_3∧v_3<(r_.variables.length:Int))<|
  ck ((0:Int)≤(r_.variables.getD v_3.toNat default)∧(r_.variables.getD v_3.toNat default)<(p.variables.length:Int))<|
  ck ((v_4.length+[p.variables.getD (r_.variables.getD v_3.toNat default).toNat default].length)*64≤140737488355328)<|
  sf318 (IntKind.wrap .i64 (v_3+1)) (v_4++[p.variables.getD (r_.variables.getD v_3.toNat default).toNat default])
 else
  some ((⟨p.cells,rows_2,v_4⟩:XProblem),0)

def m20_reason_Part_B1 (p:XProblem) (r_:XReason) (sf167:Int→(List (List Int))→Option (XProblem × Int)) (v_2:Int) (rows_2:List (List Int)):Option (XProblem × Int):=
 bif (decide (v_2<(r_.places.length:Int))) then
  ck ((0:Int)≤v_2∧v_2<(r_.places.length:Int))<|
  ck ((0:Int)≤((r_.places.getD v_2.toNat default).leaf)∧((r_.places.getD v_2.toNat default).leaf)<(rows_2.length:Int))<|
  ck ((0:Int)≤((r_.places.getD v_2.toNat default).leaf)∧((r_.places.getD v_2.toNat default).leaf)<(p.capacity.length:Int))<|
  ck ((0:Int)≤((r_.places.getD v_2.toNat default).cell)∧((r_.places.getD v_2.toNat default).cell)<((p.capacity.getD ((r_.places.getD v_2.toNat default).leaf).toNat default).length:Int))<|
  ck ((0:Int)≤((r_.places.getD v_2.toNat default).cell)∧((r_.places.getD v_2.toNat default).cell)<((rows_2.getD ((r_.places.getD v_2.toNat default).leaf).toNat default).length:Int))<|
  sf167 (IntKind.wrap .i64 (v_2+1)) (rows_2.set ((r_.places.getD v_2.toNat default).leaf).toNat ((rows_2.getD ((r_.places.getD v_2.toNat default).leaf).toNat default).set ((r_.places.getD v_2.toNat default).cell).toNat ((p.capacity.getD ((r_.places.getD v_2.toNat default).leaf).toNat default).getD ((r_.places.getD v_2.toNat default).cell).toNat default)))
 else
  loop2 (m20_reason_Part_B2 p r_ rows_2) (((r_.variables.length:Int) - 0).toNat+1) 0 ([]:List XVariable)

def m20_reason_Part_B0 (p:XProblem) (r_:XReason) (sf40:Int→(List (List Int))→Option (XProblem × Int)) (v_1:Int) (rows_1:List (List Int)):Option (XProblem × Int):=
 bif (decide (v_1<(p.capacity.length:Int))) then
  (m53_slices_Repeatint_int_ [4096] (p.cells.length:Int)).bind fun repeat_1=>
  ck ((rows_1.length+1)*24≤140737488355328)<|
  sf40 (IntKind.wrap .i64 (v_1+1)) (rows_1++[repeat_1])
 else
  loop2 (m20_reason_Part_B1 p r_) (((r_.places.length:Int) - 0).toNat+1) 0 rows_1

def m20_reason_Part (p:XProblem) (r_:XReason):Option (XProblem × Int):=
 (m23_reason_Check p r_).bind fun check_1=>
 bif (decide (check_1≠0)) then
  some ((⟨([]:List XCell),([]:List (List Int)),([]:List XVariable)⟩:XProblem),check_1)
 else
  loop2 (m20_reason_Part_B0 p r_) (((p.capacity.length:Int) - 0).toNat+1) 0 ([]:List (List Int))

theorem c20_reason_Part {w:World} {O:List Nat} {p:XProblem} {r_:XReason} {Aa:Option Addr} {Ca:Nat} {Ab:Option Addr} {Cb:Nat} {Ac:Option Addr} {Cc:Nat} {Ad:Option Addr} {Cd:Nat} {Ae:Option Addr} {Ce:Nat} (hO:∀k∈O,k<w.heap.size) (Fa:SlR rXCell w O Aa Ca p.cells) (Fb:SlR (rSl (rInt .i64)) w O Ab Cb p.capacity) (Fc:SlR rXVariable w O Ac Cc p.variables) (Fd:SlR (rInt .i64) w O Ad Cd r_.variables) (Fe:SlR rXPlace w O Ae Ce r_.places) {x:XProblem × Int} (hm:m20_reason_Part p r_=some x):
 Ok Try.prog 20 [Value.agg [Sl Aa p.cells Ca,Sl Ab p.capacity Cb,Sl Ac p.variables Cc].toArray,Value.agg [Sl Ad r_.variables Cd,Sl Ae r_.places Ce].toArray] w O (vT2 (vA rXProblem) (vI .i64)) x:=by
 unfold m20_reason_Part at hm
 refine Fn_of_Wp (n:=82) (xs:=[.cell 4 26,.tmp 5]) Try.func20 rfl Try.ntmps20 Try.results20 rfl ?_
 have hs:=St.start hO
 refine Wb<|Wa<|Rop<|op_box (cs:=[Sl Aa p.cells Ca,Sl Ab p.capacity Cb,Sl Ac p.variables Cc]) hs rfl rfl ?_
 intro b1 w2 _ p3 hs4
 refine Rop<|op_box (cs:=[Sl Ad r_.variables Cd,Sl Ae r_.places Ce]) hs4 rfl rfl ?_
 intro b6 w7 _ p8 hs9
 clear hs4
 refine Rop<|op_alloc ty26 hs9 ?_
 intro b11 w12 _ p13 hs14
 clear hs9
 refine Asg (Iv 0) rfl<|Ri2<|Wb<|Wb<|Wa<|Rop<|op_ldA 2 ty26 hs14 rfl rfl rfl<|Rop<|op_ldA 1 ty34 hs14 rfl rfl rfl ?_
 obtain⟨check_1,hv16,hm⟩:=bd hm
 have p22:=(p3.trans (p8.trans p13))
 replace Fb:=Fb.step p22;replace Fa:=Fa.step p22;replace Fc:=Fc.step p22;replace Fe:=Fe.step p22;replace Fd:=Fd.step p22
 refine Rop<|op_callE hs14 Try.call23 (c23_reason_Check (p:=p) (r_:=r_) hs14.ltw Fa Fb Fc Fd Fe hv16) rfl ?_
 rintro v17 w18 p23 hs21 h20
 clear hs14
 obtain⟨rfl,Ra⟩:=h20
 refine Asg (Iv check_1) rfl<|Ri2<|Wb<|Wa<|Mve (Iv check_1) rfl<|Rop<|op_neq rfl rfl<|Ri2<|Wo2 hm rfl (fun hc25 hm=>?_) (fun hc25 hm=>?_)
 refine Wb ?_
 obtain⟨hs26,p27⟩:=hs21.sub (bs':=(some b11,Oc [Value.slice none 0 0,Value.slice none 0 0,Value.slice none 0 0] 26)::([]:Ents)) (.cons_cons _ (.cons _ (.cons _ (List.Sublist.refl _))))
 clear Fa Fb Fc Fd Fe
 clear hs21
 refine Wa<|Rop<|op_ldA 0 ty26 hs26 rfl rfl rfl<|Mve (Iv check_1) rfl<|Rg_op_<|op_stA .z ty26 hs26 rfl rfl rfl rfl rfl ?_
 intro w28 p29 hs30
 clear hs26
 refine Asg (Iv check_1) rfl<|Ri2<|Wp_ret<|⟨_,Clo,[Value.agg [Value.slice none 0 0,Value.slice none 0 0,Value.slice none 0 0].toArray,Iv check_1],⟨resA (cs:=[Value.slice none 0 0,Value.slice none 0 0,Value.slice none 0 0]) (vs:=[Value.slice none 0 0,Value.slice none 0 0,Value.slice none 0 0]) ty26 (i:=0) hs30 rfl rfl rfl rfl,rfl,trivial⟩,hs30.ext,?_⟩
 exact Vr.eq (a:=vT2 (vA rXProblem) (vI .i64)) (x:=((⟨([]:List XCell),([]:List (List Int)),([]:List XVariable)⟩:XProblem),check_1)) (mkT2 (mkA (mkVia (mk_pair (mk_sl SlR.nil_) (mk_pair (mk_sl SlR.nil_) (mk_sl SlR.nil_))))) ⟨rfl,Ra⟩) (oi hm)
 refine Ws2<|Wb<|Wa<|Rop<|op2 0 ty26 rfl ty22 rfl rfl<|Rop<|oq2 2 ty22 hs21 rfl rfl rfl<|Rop<|op2 0 ty26 rfl ty22 rfl rfl<|Rg_op_<|op_stC (Sl Aa p.cells Ca) (cs':=[Sl Aa p.cells Ca,Value.slice none 0 0,Value.slice none 0 0]) .z ty22 hs21 rfl rfl rfl (le_lit rfl) rfl rfl ?_
 intro w31 p32 hs33
 clear hs21
 refine Ri2<|Wb<|Wb<|Wa<|Rop<|op2 1 ty26 rfl ty23 rfl rfl<|Rop<|oq2 2 ty23 hs33 rfl rfl rfl<|Rop<|op_len Try.underlying23 rfl ?_
 have p35:=(p23.trans p32)
 replace Fb:=Fb.step p35
 have rl34:=inK_len Fb
 refine Mve (Iv 0) rfl<|Ri2<|Wn2<|Wr [] [(2,Pt b1 0),(3,Pt b6 0),(4,Pt b11 0),(22,Iv (p.capacity.length:Int)),(23,Iv 0)] fun ξ39=>?_
 have hs44:=hs33.ghost (Obj.cells #[] 31)
 refine Wp_loopM q20_2 (fun m fr w'=>∃(v_1:Int) (rows_1:List (List Int)) (Af:Option Addr) (Cf:Nat) (k_g38:Option Nat) (o_g38:Obj) (hds_g38:List Hd) (R_g38:Ents) (Ebs:Ents),Ebs=((k_g38,o_g38)::(some b11,Oc [Sl Aa p.cells Ca,Value.slice Af hds_g38.length Cf,Value.slice none 0 0] 26)::(some b6,Oc [Sl Ad r_.variables Cd,Sl Ae r_.places Ce] 34)::(some b1,Oc [Sl Aa p.cells Ca,Sl Ab p.capacity Cb,Sl Ac p.variables Cc] 26)::R_g38)∧fr [] [(23,Iv v_1)]∧hs44.S (ks Ebs O) w'∧St ⟨w,[],[]⟩ O w' Ebs∧InK .i64 v_1∧Gs rHd 31 w' (ks Ebs O) Af Cf hds_g38 k_g38 o_g38∧Rows (rInt .i64) 3 w' (ks Ebs O) hds_g38 R_g38 rows_1∧hds_g38.length=rows_1.length∧loop2 (m20_reason_Part_B0 p r_) m v_1 rows_1=some x) (((p.capacity.length:Int) - 0).toNat+1) ⟨0,([]:List (List Int)),none,0,none,Obj.cells #[] 31,([]:List Hd),([]:Ents),_,rfl,Frm.of ⟨rfl,trivial⟩,Step.refl _ _,hs44,(show InK .i64 0 from by decide),Gs.nil_,Rows.nil_,rfl,hm⟩ ?_ ?_
 rintro _ _ ⟨_,_,_,_,_,_,_,_,_,_,_,_,_,_,_,_,_,hm⟩;exact loop2_z hm
 rintro m43 K42 hK42 ρ50 w46 ⟨v_1,rows_1,Af,Cf,k_g38,o_g38,hds_g38,R_g38,_,rfl,hfr49,hst48,hs47,Rb,Ff,fR_g38,lh_g38,hm⟩
 obtain⟨sf40,hsf41,hm⟩:=loop2_s hm;unfold m20_reason_Part_B0 at hm
 rw [hfr49.eq];clear hfr49
 have ch51:=hst48
 refine Wb<|Wa<|Rop<|op_lss rfl rfl<|Ri2<|Wb<|Wo2 hm rfl (fun hc52 hm=>?_) (fun hc52 hm=>?_)
 refine Ws2<|Wb<|Wn2<|Wp_drawR (g0:=[]) (m:=8) (fl:=[]) (TS_inv hs47) rfl (.inl rfl) rfl (by decide+kernel) ?_  -- 7
 refine Dw_p (Pt b11 1) (fun _ _ _ hi ht=>op2 1 ty26 rfl ty23 (ht 4 rfl) rfl<|Gz hi)<|Dw_p (Value.slice Af hds_g38.length Cf) (fun _ _ _ hi ht=>oq2 1 ty23 (Step.nx hi).1 (ht 25 rfl) rfl rfl<|Gz hi)<|Dw_op (VD _ _ (vC (rSl (rInt .i64))) [4096]) (VD.stab _ _) (fun ρ59 w60 g hle hi ht=>?_) ?_
 refine Sj2 (op_buildSlice (cs:=[Iv 4096]) (parts:=[(0,.const (.int .i64 4096))]) ty31 ty3 hi (by decide) (by simp only [List.map,(show ev _ (.const (.int .i64 4096))=.int .i64 4096 from rfl)];rfl) ?_)
 intro b62 w63 hx66 p64 hs65
 obtain⟨hs68,p69,f70⟩:=St.publish (q:=(rInt .i64)) (i:=0) (o:=0) (c:=1) (xs:=[4096]) hs65 rfl (show Els (rInt .i64) _ _ [Iv 4096] [4096] from⟨_,_,rfl,mk_int (show InK .i64 4096 from by decide),Els.nil⟩) (le_lit rfl) (le_lit rfl) (le_lit rfl)
 exact Goes.pub hi hs68 (Step.trans p64 p69) hx66 (show Vr.vd (vC (rSl (rInt .i64))) _ _ _ _ from mkC (mk_sl f70))
 refine Dw_p (Pt b1 0) (fun _ _ _ hi ht=>op2 0 ty26 rfl ty22 (ht 2 rfl) rfl<|Gz hi)<|Dw_p (Sl Aa p.cells Ca) (fun _ _ _ hi ht=>oq2 3 ty22 (Step.nx hi).1 (ht 28 rfl) rfl rfl<|Gz hi)<|Dw_p (Iv (p.cells.length:Int)) (fun _ _ _ hi ht=>op_len Try.underlying22 (ht 29 rfl)<|Gz hi) ?_
 obtain⟨repeat_1,hv86,hm⟩:=bd hm
 have p98:=(p35.trans hst48)
 replace Fa:=Fa.step p98
 refine Dw_op (VGr O ((k_g38,o_g38)::(some b11,Oc [Sl Aa p.cells Ca,Value.slice Af hds_g38.length Cf,Value.slice none 0 0] 26)::(some b6,Oc [Sl Ad r_.variables Cd,Sl Ae r_.places Ce] 34)::(some b1,Oc [Sl Aa p.cells Ca,Sl Ab p.capacity Cb,Sl Ac p.variables Cc] 26)::R_g38) 6 (rInt .i64) 3 repeat_1) VGr.stab (fun ρ80 w81 g hle hi ht=>?_) ?_
 obtain⟨-,hst,-⟩:=hle
 replace Fa:=Fa.step hst
 have h83:Vr.vd (vC (rSl (rInt .i64))) _ _ _ _:=ht 27 rfl
 obtain⟨Ag,Cg,q84,Fg⟩:=un_sl h83
 refine Sj2 (op_call Try.call53 (g53_slices_Repeatint_int_ (O:=ks (ents g++((k_g38,o_g38)::(some b11,Oc [Sl Aa p.cells Ca,Value.slice Af hds_g38.length Cf,Value.slice none 0 0] 26)::(some b6,Oc [Sl Ad r_.variables Cd,Sl Ae r_.places Ce] 34)::(some b1,Oc [Sl Aa p.cells Ca,Sl Ab p.capacity Cb,Sl Ac p.variables Cc] 26)::R_g38)) O) (x_:=[4096]) (count:=(p.cells.length:Int)) hi.ltw Fg (inK_len Fa) hv86) (by simp only [List.map,Array.toList,(show ev _ (.tmp 27)=_ from q84),(show ev _ (.tmp 30)=_ from(ht 30 rfl))]<;> rfl) ?_)
 rintro _ w88 ⟨hx89,a92,c93,k94,o95,rfl,hk96,f97⟩;exact GoesG.call hi hx89 hk96 f97
 refine Dw_op (VHd O ((k_g38,o_g38)::(some b11,Oc [Sl Aa p.cells Ca,Value.slice Af hds_g38.length Cf,Value.slice none 0 0] 26)::(some b6,Oc [Sl Ad r_.variables Cd,Sl Ae r_.places Ce] 34)::(some b1,Oc [Sl Aa p.cells Ca,Sl Ab p.capacity Cb,Sl Ac p.variables Cc] 26)::R_g38) 6 7 (rInt .i64) 3 31 repeat_1) VHd.stab (fun ρ99 w100 g hle hi ht=>?_) ?_
 obtain⟨a102,c103,k104,o105,q106,hk107,f108⟩:=ht 31 rfl
 refine Sj2 (op_buildSlice (cs:=[Sl a102 repeat_1 c103]) (parts:=[(0,.tmp 31)]) ty23 ty31 hi (by decide) (by simp only [List.map,(show ev _ (.tmp 31)=_ from q106)];rfl) ?_)
 intro b109 w110 hx113 p111 hs112
 exact GoesG.hd hx113 p111 hs112 hk107 f108
 refine Dw_nil fun w119 g120 hl121 hi122=>?_
 obtain⟨-,hst123,-⟩:=hl121
 rintro _ ⟨b126,a127,c128,k129,o130,rfl,hb131,hk132,f133⟩ _ - _ rfl _ rfl _ rfl v136 h137
 replace h137:Vr.vd (vC (rSl (rInt .i64))) _ _ _ _:=h137
 obtain⟨Ah,Ch,rfl,Fh⟩:=un_sl h137
 rintro _ rfl _ rfl
 obtain⟨hs125,p124⟩:=Step.nxK2 hi122 hb131 hk132 (by decide)
 have p139:=hs47.to hs125 (hst123.trans p124)
 replace f133:=f133.step p124;replace Fh:=Fh.step p124;clear hs47
 obtain⟨hc140,hm⟩:=ck_some hm
 have hc141:(hds_g38.length+1)*24≤140737488355328:=by have h1:=hc140;have h2:hds_g38.length=rows_1.length:=lh_g38;omega
 replace Ff:=Ff.step p139
 refine Rop (op_append (q:=rHd) (i:=2) (xs:=hds_g38) (ys:=[((a127,repeat_1.length,c128):Hd)]) (news:=[Sl a127 repeat_1 c128]) ty23 ty31 rfl (by decide) hs125 rfl rfl Ff rfl (Src.owned' (len:=1) (hs125.get (i:=0) rfl) rfl) (show Els rHd _ _ [Sl a127 repeat_1 c128] [((a127,repeat_1.length,c128):Hd)] from⟨_,_,rfl,rfl,Els.nil⟩) hc141 (show hds_g38.length+1≤maxLen from by have:=hc141;simp only [maxLen];omega) ?_)
 intro a145 c146 k147 o148 w142 p143 hs144 f149
 clear hs125
 have hs150:=hs144.drop 0
 have p151:=(hs144.dropS 0)
 clear hs144
 have p156:=(p143.trans p151)
 replace f133:=f133.step p156
 have p157:=(p139.trans (p143.trans p151))
 replace fR_g38:=fR_g38.step p157
 have fR152:Rows (rInt .i64) 3 w142 (ks ((k129,o130)::(k147,o148)::(some b11,Oc [Sl Aa p.cells Ca,Value.slice Af hds_g38.length Cf,Value.slice none 0 0] 26)::(some b6,Oc [Sl Ad r_.variables Cd,Sl Ae r_.places Ce] 34)::(some b1,Oc [Sl Aa p.cells Ca,Sl Ab p.capacity Cb,Sl Ac p.variables Cc] 26)::R_g38) O) (hds_g38++[((a127,repeat_1.length,c128):Hd)]) (R_g38++[(k129,o130)]) (rows_1++[repeat_1]):=Rows.append fR_g38 f133 rfl
 obtain⟨hs153,p154⟩:St ⟨w,[],[]⟩ O w142 ((k147,o148)::(some b11,Oc [Sl Aa p.cells Ca,Value.slice Af hds_g38.length Cf,Value.slice none 0 0] 26)::(some b6,Oc [Sl Ad r_.variables Cd,Sl Ae r_.places Ce] 34)::(some b1,Oc [Sl Aa p.cells Ca,Sl Ab p.capacity Cb,Sl Ac p.variables Cc] 26)::(R_g38++[(k129,o130)]))∧Step (ks ((k129,o130)::(k147,o148)::(some b11,Oc [Sl Aa p.cells Ca,Value.slice Af hds_g38.length Cf,Value.slice none 0 0] 26)::(some b6,Oc [Sl Ad r_.variables Cd,Sl Ae r_.places Ce] 34)::(some b1,Oc [Sl Aa p.cells Ca,Sl Ab p.capacity Cb,Sl Ac p.variables Cc] 26)::R_g38) O) w142 (ks ((k147,o148)::(some b11,Oc [Sl Aa p.cells Ca,Value.slice Af hds_g38.length Cf,Value.slice none 0 0] 26)::(some b6,Oc [Sl Ad r_.variables Cd,Sl Ae r_.places Ce] 34)::(some b1,Oc [Sl Aa p.cells Ca,Sl Ab p.capacity Cb,Sl Ac p.variables Cc] 26)::(R_g38++[(k129,o130)])) O) w142:=St.toback (i:=0) hs150 rfl
 clear hs150
 replace fR152:=fR152.step p154
 have lh155:(hds_g38++[((a127,repeat_1.length,c128):Hd)]).length=(rows_1++[repeat_1]).length:=(Rows.lens fR152).1
 refine Rop<|op2 1 ty26 rfl ty23 rfl rfl<|Rg_op_<|op_stC (Value.slice a145 (hds_g38++[((a127,repeat_1.length,c128):Hd)]).length c146) (cs':=[Sl Aa p.cells Ca,Value.slice a145 (hds_g38++[((a127,repeat_1.length,c128):Hd)]).length c146,Value.slice none 0 0]) Put.p1 ty23 hs153 rfl rfl rfl (le_lit rfl) rfl rfl ?_
 intro w158 p159 hs160
 clear hs153
 refine Ri2 ?_
 clear Fh
 refine Wa<|Rop<|op_addw rfl rfl<|Mve (Iv (IntKind.wrap .i64 (v_1+1))) rfl<|Ri2 ?_
 have p161:=(p157.trans (p154.trans p159))
 replace ch51:=ch51.trans p161
 replace f149:=f149.step (p151.trans (p154.trans p159));replace fR152:=fR152.step p159
 exact hK42 _ _ ⟨(IntKind.wrap .i64 (v_1+1)),rows_1++[repeat_1],a145,c146,k147,o148,hds_g38++[((a127,repeat_1.length,c128):Hd)],R_g38++[(k129,o130)],_,rfl,Frm.of ⟨rfl,trivial⟩,ch51,hs160,(inK_wrap .i64 _),f149,fR152,lh155,jnE2 hsf41 hm⟩
 refine Wp_exit<|Wb<|Wb<|Wa<|Rop<|op2 1 ty34 rfl ty32 rfl rfl<|Rop<|oq2 2 ty32 hs47 rfl rfl rfl<|Rop<|op_len Try.underlying32 rfl ?_
 have p163:=(p35.trans hst48)
 replace Fe:=Fe.step p163
 have rl162:=inK_len Fe
 refine Mve (Iv 0) rfl<|Ri2<|Wn2<|Wr [] [(2,Pt b1 0),(3,Pt b6 0),(4,Pt b11 0),(37,Sl Ae r_.places Ce),(38,Iv (r_.places.length:Int)),(39,Iv 0)] fun ξ166=>Wp_loopM q20_1 (fun m fr w'=>∃(v_2:Int) (rows_2:List (List Int)) (Ai:Option Addr) (Ci:Nat) (k_g165:Option Nat) (o_g165:Obj) (hds_g165:List Hd) (R_g165:Ents) (Ebs:Ents),Ebs=((k_g165,o_g165)::(some b11,Oc [Sl Aa p.cells Ca,Value.slice Ai hds_g165.length Ci,Value.slice none 0 0] 26)::(some b6,Oc [Sl Ad r_.variables Cd,Sl Ae r_.places Ce] 34)::(some b1,Oc [Sl Aa p.cells Ca,Sl Ab p.capacity Cb,Sl Ac p.variables Cc] 26)::R_g165)∧fr [] [(39,Iv v_2)]∧hs47.S (ks Ebs O) w'∧St ⟨w,[],[]⟩ O w' Ebs∧InK .i64 v_2∧Gs rHd 31 w' (ks Ebs O) Ai Ci hds_g165 k_g165 o_g165∧Rows (rInt .i64) 3 w' (ks Ebs O) hds_g165 R_g165 rows_2∧hds_g165.length=rows_2.length∧loop2 (m20_reason_Part_B1 p r_) m v_2 rows_2=some x) (((r_.places.length:Int) - 0).toNat+1) ⟨0,rows_1,Af,Cf,k_g38,o_g38,hds_g38,R_g38,_,rfl,Frm.of ⟨rfl,trivial⟩,Step.refl _ _,hs47,(show InK .i64 0 from by decide),Ff,fR_g38,lh_g38,hm⟩ ?_ ?_
 rintro _ _ ⟨_,_,_,_,_,_,_,_,_,_,_,_,_,_,_,_,_,hm⟩;exact loop2_z hm
 rintro m170 K169 hK169 ρ175 w171 ⟨v_2,rows_2,Ai,Ci,k_g165,o_g165,hds_g165,R_g165,_,rfl,hfr174,hst173,hs172,Rc,Fi,fR_g165,lh_g165,hm⟩
 obtain⟨sf167,hsf168,hm⟩:=loop2_s hm;unfold m20_reason_Part_B1 at hm
 rw [hfr174.eq];clear hfr174
 have ch176:=hst173
 refine Wb ?_
 clear Ff fR_g38
 refine Wa<|Rop<|op_lss rfl rfl<|Ri2<|Wb<|Wo2 hm rfl (fun hc177 hm=>?_) (fun hc177 hm=>?_)
 refine Ws2<|Wb<|Wn2<|Wb<|Wa ?_
 obtain⟨hc178,hm⟩:=ck_some hm
 replace Fe:=Fe.step hst173
 refine Rop<|om2 (q:=rXPlace) ty32 ty45 rfl rfl Fe rfl hc178.1 hc178.2 ?_
 intro p179 f180
 refine Rop<|op_loadPA ty45 rfl f180 rfl ?_
 intro vs181 h182
 obtain⟨_,_,rfl,⟨rfl,Rd⟩,⟨rfl,Re⟩⟩:=h182
 refine Rop<|op_alloc ty45 hs172 ?_
 intro b184 w185 _ p186 hs187
 clear hs172
 refine Rg_op_<|op_stA .z ty45 hs187 rfl rfl rfl rfl rfl ?_
 intro w189 p190 hs191
 clear hs187
 refine Ri2 ?_
 clear f180
 refine Wp_drawR (g0:=[]) (m:=18) (fl:=[]) (TS_inv hs191) rfl (.inl rfl) rfl (by decide+kernel) ?_  -- 12
 refine Dw_p (Pt b11 1) (fun _ _ _ hi ht=>op2 1 ty26 rfl ty23 (ht 4 rfl) rfl<|Gz hi)<|Dw_p (Value.slice Ai hds_g165.length Ci) (fun _ _ _ hi ht=>oq2 2 ty23 (Step.nx hi).1 (ht 43 rfl) rfl rfl<|Gz hi)<|Dw_p (Pt b184 0) (fun _ _ _ hi ht=>op2 0 ty45 rfl ty3 (ht 7 rfl) rfl<|Gz hi)<|Dw_p (Iv ((r_.places.getD v_2.toNat default).leaf)) (fun _ _ _ hi ht=>oq2 0 ty3 (Step.nx hi).1 (ht 45 rfl) rfl rfl<|Gz hi) ?_
 obtain⟨hc207,hm⟩:=ck_some hm
 have p209:=(p186.trans p190)
 replace Fi:=Fi.step p209
 obtain⟨b208,rfl,rfl⟩:=Fi.at_ (by have h1:hds_g165.length=rows_2.length:=lh_g165;omega)
 refine Dw_eq (Value.pointer (some ⟨b208,((r_.places.getD v_2.toNat default).leaf).toNat*1,none⟩)) (fun ρ204 w205 g hle hi ht=>?_) ?_
 obtain⟨-,hst,-⟩:=hle
 replace Fi:=Fi.step hst
 refine Sj2 (op_indexAddrG ty23 ty31 (ht 44 rfl) (ht 46 rfl) Fi ⟨hc207.1,by have h1:hds_g165.length=rows_2.length:=lh_g165;have h2:=hc207.2;omega⟩ ?_)
 rintro _ ⟨⟩ -
 exact Gz hi
 refine Dw_eq (Value.slice (hds_g165.getD ((r_.places.getD v_2.toNat default).leaf).toNat default).1 (hds_g165.getD ((r_.places.getD v_2.toNat default).leaf).toNat default).2.1 (hds_g165.getD ((r_.places.getD v_2.toNat default).leaf).toNat default).2.2) (fun ρ210 w211 g hle hi ht=>?_) ?_
 obtain⟨-,hst,-⟩:=hle
 replace Fi:=Fi.step hst
 have hsn:=(Step.nx hi).1
 refine Sj2 (op_loadG (p:=rHd) (m:=(r_.places.getD v_2.toNat default).leaf) (i:=1) ty31 rfl hsn rfl (ht 47 rfl) Fi ⟨hc207.1,by have h1:hds_g165.length=rows_2.length:=lh_g165;have h2:=hc207.2;omega⟩ ?_)
 intro v213 h214;obtain rfl:=un_hd h214
 exact Gz hi
 refine Dw_p (Pt b184 1) (fun _ _ _ hi ht=>op2 1 ty45 rfl ty3 (ht 7 rfl) rfl<|Gz hi)<|Dw_p (Iv ((r_.places.getD v_2.toNat default).cell)) (fun _ _ _ hi ht=>oq2 0 ty3 (Step.nx hi).1 (ht 49 rfl) rfl rfl<|Gz hi)<|Dw_p (Pt b1 1) (fun _ _ _ hi ht=>op2 1 ty26 rfl ty23 (ht 2 rfl) rfl<|Gz hi)<|Dw_p (Sl Ab p.capacity Cb) (fun _ _ _ hi ht=>oq2 4 ty23 (Step.nx hi).1 (ht 51 rfl) rfl rfl<|Gz hi)<|Dw_p (Pt b184 0) (fun _ _ _ hi ht=>op2 0 ty45 rfl ty3 (ht 7 rfl) rfl<|Gz hi)<|Dw_p (Iv ((r_.places.getD v_2.toNat default).leaf)) (fun _ _ _ hi ht=>oq2 0 ty3 (Step.nx hi).1 (ht 53 rfl) rfl rfl<|Gz hi) ?_
 obtain⟨hc236,hm⟩:=ck_some hm
 replace Fb:=Fb.step (hst48.trans (hst173.trans (p186.trans p190)))
 refine Dw_op (VP _ _ (rSl (rInt .i64)) (p.capacity.getD ((r_.places.getD v_2.toNat default).leaf).toNat default)) (VP.stab _ _) (fun ρ233 w234 g hle hi ht=>?_) ?_
 obtain⟨-,hst,-⟩:=hle
 replace Fb:=Fb.step hst
 refine Sj2<|om2 (q:=rSl (rInt .i64)) ty23 ty31 (ht 52 rfl) (ht 54 rfl) Fb rfl hc236.1 hc236.2 ?_
 intro p237 f238
 exact Goes.same hi ⟨_,rfl,f238⟩
 refine Dw_op (VD _ _ (vC (rSl (rInt .i64))) (p.capacity.getD ((r_.places.getD v_2.toNat default).leaf).toNat default)) (VD.stab _ _) (fun ρ239 w240 g hle hi ht=>?_) ?_
 obtain⟨p242,q243,f244⟩:=ht 55 rfl
 refine Sj2<|ot2 ty31 q243 f244 rfl ?_
 intro v245 h246
 obtain⟨Aj,Cj,rfl,Fj⟩:=un_sl h246
 exact Goes.same hi (show Vr.vd (vC (rSl (rInt .i64))) _ _ _ _ from(mkC (mk_sl Fj)))
 refine Dw_p (Pt b184 1) (fun _ _ _ hi ht=>op2 1 ty45 rfl ty3 (ht 7 rfl) rfl<|Gz hi)<|Dw_p (Iv ((r_.places.getD v_2.toNat default).cell)) (fun _ _ _ hi ht=>oq2 0 ty3 (Step.nx hi).1 (ht 57 rfl) rfl rfl<|Gz hi) ?_
 obtain⟨hc260,hm⟩:=ck_some hm
 refine Dw_op (VP _ _ (rInt .i64) ((p.capacity.getD ((r_.places.getD v_2.toNat default).leaf).toNat default).getD ((r_.places.getD v_2.toNat default).cell).toNat default)) (VP.stab _ _) (fun ρ254 w255 g hle hi ht=>?_) ?_
 have h257:Vr.vd (vC (rSl (rInt .i64))) _ _ _ _:=ht 56 rfl
 obtain⟨Ak,Ck,q258,Fk⟩:=un_sl h257
 refine Sj2<|om2 (q:=(rInt .i64)) ty31 ty3 q258 (ht 58 rfl) Fk rfl hc260.1 hc260.2 ?_
 intro p261 f262
 exact Goes.same hi ⟨_,rfl,f262⟩
 refine Dw_op (VD _ _ (vI .i64) ((p.capacity.getD ((r_.places.getD v_2.toNat default).leaf).toNat default).getD ((r_.places.getD v_2.toNat default).cell).toNat default)) (VD.stab _ _) (fun ρ263 w264 g hle hi ht=>?_) ?_
 obtain⟨p266,q267,f268⟩:=ht 59 rfl
 refine Sj2<|ot2 ty3 q267 f268 rfl ?_
 intro v269 h270
 obtain⟨rfl,Rf⟩:=un_int h270
 exact Goes.same hi (show Vr.vd (vI .i64) _ _ _ _ from⟨rfl,Rf⟩)
 refine Dw_nil fun w276 g277 hl278 hi279=>?_
 obtain⟨-,hst280,-⟩:=hl278
 obtain⟨hs282,p281⟩:=Step.nx hi279
 rintro v283 h284
 replace h284:Vr.vd (vI .i64) _ _ _ _:=h284
 obtain⟨rfl,Rg⟩:=h284
 rintro _ ⟨p286,rfl,f287⟩ _ rfl _ rfl v288 h289
 replace h289:Vr.vd (vC (rSl (rInt .i64))) _ _ _ _:=h289
 obtain⟨Al,Cl,rfl,Fl⟩:=un_sl h289
 rintro _ ⟨p291,rfl,f292⟩ _ rfl _ rfl _ rfl _ rfl _ rfl _ rfl _ rfl _ rfl _ rfl _ rfl _ rfl _ rfl
 have p293:=hs191.to hs282 (hst280.trans p281)
 replace f287:=f287.step p281;replace Fl:=Fl.step p281;replace f292:=f292.step p281;clear hs191
 have p299:=(p209.trans p293)
 replace fR_g165:=fR_g165.step p299
 obtain⟨hh294,hl295,hb296⟩:=fR_g165.at_ (i:=((r_.places.getD v_2.toNat default).leaf).toNat) (by have:=hc207;omega)
 obtain⟨hc300,hm⟩:=ck_some hm
 obtain⟨b297,hb298⟩:=hb296 (by have:=hc300;omega)
 refine Rop<|op_indexRow (H:=hds_g165.getD ((r_.places.getD v_2.toNat default).leaf).toNat default) (row:=rows_2.getD ((r_.places.getD v_2.toNat default).leaf).toNat default) (bl:=b297) ty31 ty3 rfl rfl hb298 hl295 hc300 ?_
 refine Rg_op_ (op_storeRow (bs:=[(some b184,Oc [Iv ((r_.places.getD v_2.toNat default).leaf),Iv ((r_.places.getD v_2.toNat default).cell)] 45),(some b208,o_g165),(some b11,Oc [Sl Aa p.cells Ca,Value.slice (some ⟨b208,0,none⟩) hds_g165.length Ci,Value.slice none 0 0] 26),(some b6,Oc [Sl Ad r_.variables Cd,Sl Ae r_.places Ce] 34),(some b1,Oc [Sl Aa p.cells Ca,Sl Ab p.capacity Cb,Sl Ac p.variables Cc] 26)]) (R:=R_g165) (vs:=[Iv ((p.capacity.getD ((r_.places.getD v_2.toNat default).leaf).toNat default).getD ((r_.places.getD v_2.toNat default).cell).toNat default)]) (m:=(r_.places.getD v_2.toNat default).cell) (i:=((r_.places.getD v_2.toNat default).leaf).toNat) (hd:=hds_g165.getD ((r_.places.getD v_2.toNat default).leaf).toNat default) ty3 rfl hs282 fR_g165 (by have:=hc207;omega) hh294 hb298 rfl rfl rfl hc300 (mk_int Rg) ?_)
 intro w301 R302 p303 hs304 fR305
 replace hs304:St ⟨w,[],[]⟩ O w301 ((some b184,Oc [Iv ((r_.places.getD v_2.toNat default).leaf),Iv ((r_.places.getD v_2.toNat default).cell)] 45)::(some b208,o_g165)::(some b11,Oc [Sl Aa p.cells Ca,Value.slice (some ⟨b208,0,none⟩) hds_g165.length Ci,Value.slice none 0 0] 26)::(some b6,Oc [Sl Ad r_.variables Cd,Sl Ae r_.places Ce] 34)::(some b1,Oc [Sl Aa p.cells Ca,Sl Ab p.capacity Cb,Sl Ac p.variables Cc] 26)::R302):=hs304
 replace p303:Step (ks ((some b184,Oc [Iv ((r_.places.getD v_2.toNat default).leaf),Iv ((r_.places.getD v_2.toNat default).cell)] 45)::(some b208,o_g165)::(some b11,Oc [Sl Aa p.cells Ca,Value.slice (some ⟨b208,0,none⟩) hds_g165.length Ci,Value.slice none 0 0] 26)::(some b6,Oc [Sl Ad r_.variables Cd,Sl Ae r_.places Ce] 34)::(some b1,Oc [Sl Aa p.cells Ca,Sl Ab p.capacity Cb,Sl Ac p.variables Cc] 26)::R_g165) O) w276 (ks ((some b184,Oc [Iv ((r_.places.getD v_2.toNat default).leaf),Iv ((r_.places.getD v_2.toNat default).cell)] 45)::(some b208,o_g165)::(some b11,Oc [Sl Aa p.cells Ca,Value.slice (some ⟨b208,0,none⟩) hds_g165.length Ci,Value.slice none 0 0] 26)::(some b6,Oc [Sl Ad r_.variables Cd,Sl Ae r_.places Ce] 34)::(some b1,Oc [Sl Aa p.cells Ca,Sl Ab p.capacity Cb,Sl Ac p.variables Cc] 26)::R302) O) w301:=p303
 replace fR305:Rows (rInt .i64) 3 w301 (ks ((some b184,Oc [Iv ((r_.places.getD v_2.toNat default).leaf),Iv ((r_.places.getD v_2.toNat default).cell)] 45)::(some b208,o_g165)::(some b11,Oc [Sl Aa p.cells Ca,Value.slice (some ⟨b208,0,none⟩) hds_g165.length Ci,Value.slice none 0 0] 26)::(some b6,Oc [Sl Ad r_.variables Cd,Sl Ae r_.places Ce] 34)::(some b1,Oc [Sl Aa p.cells Ca,Sl Ab p.capacity Cb,Sl Ac p.variables Cc] 26)::R302) O) hds_g165 R302 (rows_2.set ((r_.places.getD v_2.toNat default).leaf).toNat ((rows_2.getD ((r_.places.getD v_2.toNat default).leaf).toNat default).set ((r_.places.getD v_2.toNat default).cell).toNat ((p.capacity.getD ((r_.places.getD v_2.toNat default).leaf).toNat default).getD ((r_.places.getD v_2.toNat default).cell).toNat default))):=fR305
 clear hs282
 have lh306:hds_g165.length=(rows_2.set ((r_.places.getD v_2.toNat default).leaf).toNat ((rows_2.getD ((r_.places.getD v_2.toNat default).leaf).toNat default).set ((r_.places.getD v_2.toNat default).cell).toNat ((p.capacity.getD ((r_.places.getD v_2.toNat default).leaf).toNat default).getD ((r_.places.getD v_2.toNat default).cell).toNat default))).length:=(Rows.lens fR305).1
 have lp307:hds_g165.length=(rows_2.set ((r_.places.getD v_2.toNat default).leaf).toNat ((rows_2.getD ((r_.places.getD v_2.toNat default).leaf).toNat default).set ((r_.places.getD v_2.toNat default).cell).toNat ((p.capacity.getD ((r_.places.getD v_2.toNat default).leaf).toNat default).getD ((r_.places.getD v_2.toNat default).cell).toNat default))).length:=by have h1:hds_g165.length=rows_2.length:=lh_g165;rw [List.length_set];exact h1
 refine Ri2 ?_
 clear f287 Fl f292
 refine Wa<|Rop<|op_addw rfl rfl<|Mve (Iv (IntKind.wrap .i64 (v_2+1))) rfl<|Ri2 ?_
 have hs308:=hs304.drop 0
 have p309:=(hs304.dropS 0)
 clear hs304
 have p310:=(p299.trans (p303.trans p309))
 replace ch176:=ch176.trans p310;replace fR305:=fR305.step p309
 have p311:=(p293.trans (p303.trans p309))
 replace Fi:=Fi.step p311
 exact hK169 _ _ ⟨(IntKind.wrap .i64 (v_2+1)),rows_2.set ((r_.places.getD v_2.toNat default).leaf).toNat ((rows_2.getD ((r_.places.getD v_2.toNat default).leaf).toNat default).set ((r_.places.getD v_2.toNat default).cell).toNat ((p.capacity.getD ((r_.places.getD v_2.toNat default).leaf).toNat default).getD ((r_.places.getD v_2.toNat default).cell).toNat default)),some ⟨b208,0,none⟩,Ci,some b208,o_g165,hds_g165,R302,_,rfl,Frm.of ⟨rfl,trivial⟩,ch176,hs308,(inK_wrap .i64 _),Fi,fR305,lh306,jnE2 hsf168 hm⟩
 refine Wp_exit<|Wb<|Wb<|Wa<|Rop<|op2 0 ty34 rfl ty31 rfl rfl<|Rop<|oq2 2 ty31 hs172 rfl rfl rfl<|Rop<|op_len Try.underlying31 rfl ?_
 have p313:=(p163.trans hst173)
 replace Fd:=Fd.step p313
 have rl312:=inK_len Fd
 refine Mve (Iv 0) rfl<|Ri2<|Wn2<|Wr [] [(2,Pt b1 0),(4,Pt b11 0),(64,Sl Ad r_.variables Cd),(65,Iv (r_.variables.length:Int)),(66,Iv 0)] fun ξ317=>?_
 have hs322:=hs172.ghost (Obj.cells #[] 61)
 refine Wp_loopM q20_0 (fun m fr w'=>∃(v_3:Int) (v_4:List XVariable) (Am:Option Addr) (Cm:Nat) (k_g316:Option Nat) (o_g316:Obj) (Ebs:Ents),Ebs=((k_g316,o_g316)::(k_g165,o_g165)::(some b11,Oc [Sl Aa p.cells Ca,Value.slice Ai hds_g165.length Ci,Sl Am v_4 Cm] 26)::(some b6,Oc [Sl Ad r_.variables Cd,Sl Ae r_.places Ce] 34)::(some b1,Oc [Sl Aa p.cells Ca,Sl Ab p.capacity Cb,Sl Ac p.variables Cc] 26)::R_g165)∧fr [] [(66,Iv v_3)]∧hs322.S (ks Ebs O) w'∧St ⟨w,[],[]⟩ O w' Ebs∧InK .i64 v_3∧Gs rXVariable 61 w' (ks Ebs O) Am Cm v_4 k_g316 o_g316∧loop2 (m20_reason_Part_B2 p r_ rows_2) m v_3 v_4=some x) (((r_.variables.length:Int) - 0).toNat+1) ⟨0,([]:List XVariable),none,0,none,Obj.cells #[] 61,_,rfl,Frm.of ⟨rfl,trivial⟩,Step.refl _ _,hs322,(show InK .i64 0 from by decide),Gs.nil_,hm⟩ ?_ ?_
 rintro _ _ ⟨_,_,_,_,_,_,_,_,_,_,_,_,_,hm⟩;exact loop2_z hm
 rintro m321 K320 hK320 ρ328 w324 ⟨v_3,v_4,Am,Cm,k_g316,o_g316,_,rfl,hfr327,hst326,hs325,Rh,Fm,hm⟩
 obtain⟨sf318,hsf319,hm⟩:=loop2_s hm;unfold m20_reason_Part_B2 at hm
 rw [hfr327.eq];clear hfr327
 have ch329:=hst326
 refine Wb<|Wa<|Rop<|op_lss rfl rfl<|Ri2<|Wb<|Wo2 hm rfl (fun hc330 hm=>?_) (fun hc330 hm=>?_)
 refine Ws2<|Wb<|Wn2<|Wb<|Wa ?_
 obtain⟨hc331,hm⟩:=ck_some hm
 replace Fd:=Fd.step hst326
 refine Rop<|om2 (q:=(rInt .i64)) ty31 ty3 rfl rfl Fd rfl hc331.1 hc331.2 ?_
 intro p332 f333
 refine Rop<|ot2 ty3 rfl f333 rfl ?_
 intro v334 h335
 obtain⟨rfl,Ri⟩:=un_int h335
 refine Asg (Iv (r_.variables.getD v_3.toNat default)) rfl<|Ri2 ?_
 clear f333
 refine Wp_drawR (g0:=[]) (m:=8) (fl:=[]) (TS_inv hs325) rfl (.inl rfl) rfl (by decide+kernel) ?_  -- 17
 refine Dw_p (Pt b11 2) (fun _ _ _ hi ht=>op2 2 ty26 rfl ty24 (ht 4 rfl) rfl<|Gz hi)<|Dw_p (Sl Am v_4 Cm) (fun _ _ _ hi ht=>oq2 2 ty24 (Step.nx hi).1 (ht 70 rfl) rfl rfl<|Gz hi)<|Dw_p (Pt b1 2) (fun _ _ _ hi ht=>op2 2 ty26 rfl ty24 (ht 2 rfl) rfl<|Gz hi)<|Dw_p (Sl Ac p.variables Cc) (fun _ _ _ hi ht=>oq2 4 ty24 (Step.nx hi).1 (ht 72 rfl) rfl rfl<|Gz hi)<|Dw_p (Iv (r_.variables.getD v_3.toNat default)) (fun _ _ _ hi ht=>ok2 (v:=Iv (r_.variables.getD v_3.toNat default)) (ht 9 rfl)<|Gz hi) ?_
 obtain⟨hc355,hm⟩:=ck_some hm
 have p358:=(p313.trans hst326)
 replace Fc:=Fc.step p358
 refine Dw_op (VP _ _ rXVariable (p.variables.getD (r_.variables.getD v_3.toNat default).toNat default)) (VP.stab _ _) (fun ρ352 w353 g hle hi ht=>?_) ?_
 obtain⟨-,hst,-⟩:=hle
 replace Fc:=Fc.step hst
 refine Sj2<|om2 (q:=rXVariable) ty24 ty61 (ht 73 rfl) (ht 74 rfl) Fc rfl hc355.1 hc355.2 ?_
 intro p356 f357
 exact Goes.same hi ⟨_,rfl,f357⟩
 refine Dw_op (VD _ _ (vA rXVariable) (p.variables.getD (r_.variables.getD v_3.toNat default).toNat default)) (VD.stab _ _) (fun ρ359 w360 g hle hi ht=>?_) ?_
 obtain⟨p362,q363,f364⟩:=ht 75 rfl
 refine Sj2<|op_loadPA ty61 q363 f364 rfl ?_
 intro vs365 h366
 obtain⟨_,_,rfl,⟨rfl,Rj⟩,⟨_,_,rfl,⟨rfl,Rk⟩,⟨_,_,rfl,⟨An,Cn,rfl,Fn⟩,⟨Ao,Co,rfl,Fo⟩⟩⟩⟩:=h366
 exact Goes.same hi (show Vr.vd (vA rXVariable) _ _ _ _ from(mkA (mkVia (mk_pair (mk_int Rj) (mk_pair (mk_int Rk) (mk_pair (mk_sl Fn) (mk_sl Fo)))))))
 refine Dw_op (VD _ _ (vC (rSl rXVariable)) [p.variables.getD (r_.variables.getD v_3.toNat default).toNat default]) (VD.stab _ _) (fun ρ368 w369 g hle hi ht=>?_) ?_
 have h371:Vr.vd (vA rXVariable) _ _ _ _:=ht 76 rfl
 obtain⟨_,q372,⟨_,_,rfl,⟨rfl,Rl⟩,⟨_,_,rfl,⟨rfl,Rm⟩,⟨_,_,rfl,⟨Ap,Cp,rfl,Fp⟩,⟨Aq,Cq,rfl,Fq⟩⟩⟩⟩⟩:=h371
 refine Sj2 (op_buildSlice (cs:=[Iv ((p.variables.getD (r_.variables.getD v_3.toNat default).toNat default).flight),Iv ((p.variables.getD (r_.variables.getD v_3.toNat default).toNat default).node),Sl Ap ((p.variables.getD (r_.variables.getD v_3.toNat default).toNat default).leaves) Cp,Sl Aq ((p.variables.getD (r_.variables.getD v_3.toNat default).toNat default).choices) Cq]) (parts:=[(0,.tmp 76)]) ty24 ty61 hi (by decide) (by simp only [List.map,(show ev _ (.tmp 76)=_ from q372)];rfl) ?_)
 intro b374 w375 hx378 p376 hs377
 replace Fq:=Fq.step p376;replace Fp:=Fp.step p376
 obtain⟨hs380,p381,f382⟩:=St.publish (q:=rXVariable) (i:=0) (o:=0) (c:=1) (xs:=[p.variables.getD (r_.variables.getD v_3.toNat default).toNat default]) hs377 rfl (show Els rXVariable _ _ [Iv ((p.variables.getD (r_.variables.getD v_3.toNat default).toNat default).flight),Iv ((p.variables.getD (r_.variables.getD v_3.toNat default).toNat default).node),Sl Ap ((p.variables.getD (r_.variables.getD v_3.toNat default).toNat default).leaves) Cp,Sl Aq ((p.variables.getD (r_.variables.getD v_3.toNat default).toNat default).choices) Cq] [p.variables.getD (r_.variables.getD v_3.toNat default).toNat default] from⟨_,_,rfl,mkVia (mk_pair (mk_int Rl) (mk_pair (mk_int Rm) (mk_pair (mk_sl Fp) (mk_sl Fq)))),Els.nil⟩) (le_lit rfl) (le_lit rfl) (le_lit rfl)
 exact Goes.pub hi hs380 (Step.trans p376 p381) hx378 (show Vr.vd (vC (rSl rXVariable)) _ _ _ _ from mkC (mk_sl f382))
 refine Dw_nil fun w387 g388 hl389 hi390=>?_
 obtain⟨-,hst391,-⟩:=hl389
 obtain⟨hs393,p392⟩:=Step.nx hi390
 rintro v394 h395
 replace h395:Vr.vd (vC (rSl rXVariable)) _ _ _ _:=h395
 obtain⟨Ar,Cr,rfl,Fr⟩:=un_sl h395
 rintro v397 h398
 replace h398:Vr.vd (vA rXVariable) _ _ _ _:=h398
 obtain⟨_,rfl,⟨_,_,rfl,⟨rfl,Rn⟩,⟨_,_,rfl,⟨rfl,Ro⟩,⟨_,_,rfl,⟨As,Cs,rfl,Fs⟩,⟨At,Ct,rfl,Ft⟩⟩⟩⟩⟩:=h398
 rintro _ ⟨p400,rfl,f401⟩ _ rfl _ rfl _ rfl _ rfl _ rfl
 have p402:=hs325.to hs393 (hst391.trans p392)
 replace Fr:=Fr.step p392;replace Fs:=Fs.step p392;replace Ft:=Ft.step p392;replace f401:=f401.step p392;clear hs325
 obtain⟨hc403,hm⟩:=ck_some hm
 obtain⟨ns404,he405,hr406⟩:=Fr.src
 replace Fm:=Fm.step p402
 refine Rop (op_append (q:=rXVariable) (i:=0) (xs:=v_4) (ys:=[p.variables.getD (r_.variables.getD v_3.toNat default).toNat default]) (news:=ns404) ty24 ty61 rfl (by decide) hs393 rfl rfl Fm rfl hr406 he405 hc403 (by have:=hc403;simp only [maxLen];omega) ?_)
 intro a410 c411 k412 o413 w407 p408 hs409 f414
 clear hs393
 refine Rop<|op2 2 ty26 rfl ty24 rfl rfl<|Rg_op_<|op_stC (Sl a410 (v_4++[p.variables.getD (r_.variables.getD v_3.toNat default).toNat default]) c411) (cs':=[Sl Aa p.cells Ca,Value.slice Ai hds_g165.length Ci,Sl a410 (v_4++[p.variables.getD (r_.variables.getD v_3.toNat default).toNat default]) c411]) Put.p2 ty24 hs409 rfl rfl rfl (le_lit rfl) rfl rfl ?_
 intro w415 p416 hs417
 clear hs409
 refine Ri2 ?_
 clear Fr Fs Ft f401
 refine Wa<|Rop<|op_addw rfl rfl<|Mve (Iv (IntKind.wrap .i64 (v_3+1))) rfl<|Ri2 ?_
 have p418:=(p402.trans (p408.trans p416))
 replace ch329:=ch329.trans p418;replace f414:=f414.step p416
 exact hK320 _ _ ⟨(IntKind.wrap .i64 (v_3+1)),v_4++[p.variables.getD (r_.variables.getD v_3.toNat default).toNat default],a410,c411,k412,o413,_,rfl,Frm.of ⟨rfl,trivial⟩,ch329,hs417,(inK_wrap .i64 _),f414,jnE2 hsf319 hm⟩
 refine Wp_exit<|Wb ?_
 obtain⟨hs419,p420⟩:=hs325.sub (bs':=(k_g316,o_g316)::(k_g165,o_g165)::(some b11,Oc [Sl Aa p.cells Ca,Value.slice Ai hds_g165.length Ci,Sl Am v_4 Cm] 26)::R_g165) (.cons_cons _ (.cons_cons _ (.cons_cons _ (.cons _ (.cons _ (List.Sublist.refl _))))))
 clear Fb Fc Fd Fe
 clear hs325
 refine Wa<|Rop<|op_ldA 2 ty26 hs419 rfl rfl rfl<|Rg_op_<|op_stA Put.p2 ty26 hs419 rfl rfl rfl rfl rfl ?_
 intro w421 p422 hs423
 clear hs419
 refine Asg (Iv 0) rfl<|Ri2<|Wp_ret ?_
 have p427:=(hst326.trans (p420.trans p422))
 replace fR_g165:=fR_g165.step p427;replace Fi:=Fi.step p427
 obtain⟨hs425,p426,f424⟩:=Rows.publish (bs:=[(k_g316,o_g316),(k_g165,o_g165),(some b11,Oc [Sl Aa p.cells Ca,Value.slice Ai hds_g165.length Ci,Sl Am v_4 Cm] 26)]) (R:=R_g165) (j:=1) hs423 fR_g165 rfl Fi
 replace hs425:St _ O w421 [(k_g316,o_g316),(some b11,Oc [Sl Aa p.cells Ca,Value.slice Ai hds_g165.length Ci,Sl Am v_4 Cm] 26)]:=hs425
 clear hs423
 have p431:=(p420.trans (p422.trans p426))
 replace Fm:=Fm.step p431
 obtain⟨hs429,p430,f428⟩:=Gs.publish (i:=0) hs425 rfl Fm
 clear hs425
 have hz:=step_all hs429
 refine⟨_,Clo,[Value.agg [Sl Aa p.cells Ca,Value.slice Ai hds_g165.length Ci,Sl Am v_4 Cm].toArray,Iv 0],⟨resA (cs:=[Sl Aa p.cells Ca,Value.slice Ai hds_g165.length Ci,Sl Am v_4 Cm]) (vs:=[Sl Aa p.cells Ca,Value.slice Ai hds_g165.length Ci,Sl Am v_4 Cm]) ty26 (i:=0) hs429 rfl rfl rfl rfl,rfl,trivial⟩,hs429.ext,?_⟩
 replace f424:=f424.step (p430.trans hz);replace f428:=f428.step hz
 replace Fa:=Fa.step (p313.trans (hst326.trans (p420.trans (p422.trans (p426.trans (p430.trans hz))))))
 exact Vr.eq (a:=vT2 (vA rXProblem) (vI .i64)) (x:=((⟨p.cells,rows_2,v_4⟩:XProblem),0)) (mkT2 (mkA (mkVia (mk_pair (mk_sl Fa) (mk_pair (mk_slL lh_g165 f424) (mk_sl f428))))) ⟨rfl,(show InK .i64 0 from by decide)⟩) (oi hm)

abbrev q27_2:List Nat:=[4,5,23,24,25,26,27,28,29,30,31,32,33,34,35,36,37,38,39,40]

abbrev q27_1:List Nat:=[4,6,41,42,43,44,45,46,47,48,49,50,51,52,53,54,55,56,57,58]

abbrev q27_0:List Nat:=[7,8,9,10,11,12,13,14,15,16,17,18,19,20,21,22]

def m27_overflightref32_Same_B1 (a:XReason) (b:XReason) (sf112:Int→Option Bool) (i_2:Int):Option Bool:=
 bif (decide (i_2<(a.places.length:Int))) then
  ck ((0:Int)≤i_2∧i_2<(a.places.length:Int))<|
  ck ((0:Int)≤i_2∧i_2<(b.places.length:Int))<|
  bif (!(decide ((a.places.getD i_2.toNat default)=(b.places.getD i_2.toNat default)))) then
   some false
  else
   sf112 (IntKind.wrap .i64 (i_2+1))
 else
  some true

def m27_overflightref32_Same_B0 (a:XReason) (b:XReason) (sf26:Int→Option Bool) (i_1:Int):Option Bool:=
 bif (decide (i_1<(a.variables.length:Int))) then
  ck ((0:Int)≤i_1∧i_1<(a.variables.length:Int))<|
  ck ((0:Int)≤i_1∧i_1<(b.variables.length:Int))<|
  bif (decide ((a.variables.getD i_1.toNat default)≠(b.variables.getD i_1.toNat default))) then
   some false
  else
   sf26 (IntKind.wrap .i64 (i_1+1))
 else
  loop1 (m27_overflightref32_Same_B1 a b) (((a.places.length:Int) - 0).toNat+1) 0

def m27_overflightref32_Same (a:XReason) (b:XReason):Option Bool:=
 jn (fun(v_1:Bool)=>
  bif v_1 then
   some false
  else
   loop1 (m27_overflightref32_Same_B0 a b) (((a.variables.length:Int) - 0).toNat+1) 0)
 (fun k13=>
  bif (decide ((a.variables.length:Int)≠(b.variables.length:Int))) then
   k13 true
  else
   k13 (decide ((a.places.length:Int)≠(b.places.length:Int))))

theorem c27_overflightref32_Same {w:World} {O:List Nat} {a:XReason} {b:XReason} {Aa:Option Addr} {Ca:Nat} {Ab:Option Addr} {Cb:Nat} {Ac:Option Addr} {Cc:Nat} {Ad:Option Addr} {Cd:Nat} (hO:∀k∈O,k<w.heap.size) (Fa:SlR (rInt .i64) w O Aa Ca a.variables) (Fb:SlR rXPlace w O Ab Cb a.places) (Fc:SlR (rInt .i64) w O Ac Cc b.variables) (Fd:SlR rXPlace w O Ad Cd b.places) {x:Bool} (hm:m27_overflightref32_Same a b=some x):
 Ok Try.prog 27 [Value.agg [Sl Aa a.variables Ca,Sl Ab a.places Cb].toArray,Value.agg [Sl Ac b.variables Cc,Sl Ad b.places Cd].toArray] w O vB x:=by
 unfold m27_overflightref32_Same at hm
 refine Fn_of_Wp (n:=59) (xs:=[.tmp 4]) Try.func27 rfl Try.ntmps27 Try.results27 rfl ?_
 have hs:=St.start hO
 refine Wb<|Wa<|Rop<|op_box (cs:=[Sl Aa a.variables Ca,Sl Ab a.places Cb]) hs rfl rfl ?_
 intro b1 w2 _ p3 hs4
 refine Rop<|op_box (cs:=[Sl Ac b.variables Cc,Sl Ad b.places Cd]) hs4 rfl rfl ?_
 intro b6 w7 _ p8 hs9
 clear hs4
 refine Asg (Bo false) rfl<|Ri2<|Wb<|Wr [] [(2,Pt b1 0),(3,Pt b6 0)] fun ξ11=>?_
 obtain⟨k13,hk14,hm⟩:=jn_elim hm
 refine Wp_seqJ q27_0 (fun fr w'=>∃(v_1:Bool) (Ebs:Ents),Ebs=[(some b6,Oc [Sl Ac b.variables Cc,Sl Ad b.places Cd] 34),(some b1,Oc [Sl Aa a.variables Ca,Sl Ab a.places Cb] 34)]∧fr [] [(22,Bo v_1)]∧hs9.S (ks Ebs O) w'∧St ⟨w,[],[]⟩ O w' Ebs∧k13 v_1=some x) ?_ ?_
 rintro ρ20 w16 ⟨v_1,_,rfl,hfr19,hst18,hs17,hm⟩
 replace hm:=jnE1 hk14 hm
 rw [hfr19.eq];clear hfr19
 refine Wo2 hm rfl (fun hc21 hm=>?_) (fun hc21 hm=>?_)
 refine Wb ?_
 obtain⟨hs22,p23⟩:=hs17.sub (bs':=[]) (.cons _ (.cons _ List.Sublist.slnil))
 clear Fa Fb Fc Fd
 clear hs17
 refine Wa<|Asg (Bo false) rfl<|Ri2<|Wp_ret<|⟨_,Clo,[Bo false],⟨rfl,trivial⟩,hs22.ext,?_⟩
 exact Vr.eq (a:=vB) (x:=false) rfl (oi hm)
 refine Ws2<|Wb<|Wb<|Wa<|Asg (Iv 0) rfl<|Ri2<|Wn2<|Wr [] [(2,Pt b1 0),(3,Pt b6 0),(5,Iv 0)] fun ξ25=>Wp_loopM q27_2 (fun m fr w'=>∃(i_1:Int) (Ebs:Ents),Ebs=[(some b6,Oc [Sl Ac b.variables Cc,Sl Ad b.places Cd] 34),(some b1,Oc [Sl Aa a.variables Ca,Sl Ab a.places Cb] 34)]∧fr [] [(5,Iv i_1)]∧hs17.S (ks Ebs O) w'∧St ⟨w,[],[]⟩ O w' Ebs∧InK .i64 i_1∧loop1 (m27_overflightref32_Same_B0 a b) m i_1=some x) (((a.variables.length:Int) - 0).toNat+1) ⟨0,_,rfl,Frm.of ⟨rfl,trivial⟩,Step.refl _ _,hs17,(show InK .i64 0 from by decide),hm⟩ ?_ ?_
 rintro _ _ ⟨_,_,_,_,_,_,_,hm⟩;exact loop1_z hm
 rintro m29 K28 hK28 ρ34 w30 ⟨i_1,_,rfl,hfr33,hst32,hs31,Ra,hm⟩
 obtain⟨sf26,hsf27,hm⟩:=loop1_s hm;unfold m27_overflightref32_Same_B0 at hm
 rw [hfr33.eq];clear hfr33
 have ch35:=hst32
 refine Wb<|Wb<|Wa<|Mve (Iv i_1) rfl<|Rop<|op2 0 ty34 rfl ty31 rfl rfl<|Rop<|oq2 1 ty31 hs31 rfl rfl rfl<|Rop<|op_len Try.underlying31 rfl ?_
 have p37:=(p3.trans (p8.trans (hst18.trans hst32)))
 replace Fa:=Fa.step p37
 have rl36:=inK_len Fa
 refine Rop<|op_lss rfl rfl<|Ri2<|Wo2 hm rfl (fun hc38 hm=>?_) (fun hc38 hm=>?_)
 refine Ws2<|Wb<|Wn2<|Wb<|Wp_drawR (g0:=[]) (m:=10) (fl:=[]) (TS_inv hs31) rfl (.inl rfl) rfl (by decide+kernel) ?_  -- 6
 refine Dw_p (Pt b1 0) (fun _ _ _ hi ht=>op2 0 ty34 rfl ty31 (ht 2 rfl) rfl<|Gz hi)<|Dw_p (Sl Aa a.variables Ca) (fun _ _ _ hi ht=>oq2 1 ty31 (Step.nx hi).1 (ht 30 rfl) rfl rfl<|Gz hi)<|Dw_p (Iv i_1) (fun _ _ _ hi ht=>ok2 (v:=Iv i_1) (ht 5 rfl)<|Gz hi) ?_
 obtain⟨hc51,hm⟩:=ck_some hm
 refine Dw_op (VP _ _ (rInt .i64) (a.variables.getD i_1.toNat default)) (VP.stab _ _) (fun ρ48 w49 g hle hi ht=>?_) ?_
 obtain⟨-,hst,-⟩:=hle
 replace Fa:=Fa.step hst
 refine Sj2<|om2 (q:=(rInt .i64)) ty31 ty3 (ht 31 rfl) (ht 32 rfl) Fa rfl hc51.1 hc51.2 ?_
 intro p52 f53
 exact Goes.same hi ⟨_,rfl,f53⟩
 refine Dw_op (VD _ _ (vI .i64) (a.variables.getD i_1.toNat default)) (VD.stab _ _) (fun ρ54 w55 g hle hi ht=>?_) ?_
 obtain⟨p57,q58,f59⟩:=ht 33 rfl
 refine Sj2<|ot2 ty3 q58 f59 rfl ?_
 intro v60 h61
 obtain⟨rfl,Rb⟩:=un_int h61
 exact Goes.same hi (show Vr.vd (vI .i64) _ _ _ _ from⟨rfl,Rb⟩)
 refine Dw_p (Pt b6 0) (fun _ _ _ hi ht=>op2 0 ty34 rfl ty31 (ht 3 rfl) rfl<|Gz hi)<|Dw_p (Sl Ac b.variables Cc) (fun _ _ _ hi ht=>oq2 0 ty31 (Step.nx hi).1 (ht 35 rfl) rfl rfl<|Gz hi)<|Dw_p (Iv i_1) (fun _ _ _ hi ht=>ok2 (v:=Iv i_1) (ht 5 rfl)<|Gz hi) ?_
 obtain⟨hc75,hm⟩:=ck_some hm
 replace Fc:=Fc.step p37
 refine Dw_op (VP _ _ (rInt .i64) (b.variables.getD i_1.toNat default)) (VP.stab _ _) (fun ρ72 w73 g hle hi ht=>?_) ?_
 obtain⟨-,hst,-⟩:=hle
 replace Fc:=Fc.step hst
 refine Sj2<|om2 (q:=(rInt .i64)) ty31 ty3 (ht 36 rfl) (ht 37 rfl) Fc rfl hc75.1 hc75.2 ?_
 intro p76 f77
 exact Goes.same hi ⟨_,rfl,f77⟩
 refine Dw_op (VD _ _ (vI .i64) (b.variables.getD i_1.toNat default)) (VD.stab _ _) (fun ρ78 w79 g hle hi ht=>?_) ?_
 obtain⟨p81,q82,f83⟩:=ht 38 rfl
 refine Sj2<|ot2 ty3 q82 f83 rfl ?_
 intro v84 h85
 obtain⟨rfl,Rc⟩:=un_int h85
 exact Goes.same hi (show Vr.vd (vI .i64) _ _ _ _ from⟨rfl,Rc⟩)
 refine Dw_nil fun w91 g92 hl93 hi94=>?_
 obtain⟨-,hst95,-⟩:=hl93
 obtain⟨hs97,p96⟩:=Step.nx hi94
 rintro v98 h99
 replace h99:Vr.vd (vI .i64) _ _ _ _:=h99
 obtain⟨rfl,Rd⟩:=h99
 rintro _ ⟨p101,rfl,f102⟩ _ rfl _ rfl _ rfl v103 h104
 replace h104:Vr.vd (vI .i64) _ _ _ _:=h104
 obtain⟨rfl,Re⟩:=h104
 rintro _ ⟨p106,rfl,f107⟩ _ rfl _ rfl _ rfl
 have p108:=hs31.to hs97 (hst95.trans p96)
 replace f102:=f102.step p96;replace f107:=f107.step p96;clear hs31
 refine Rop<|op_neq rfl rfl<|Ri2<|Wo2 hm rfl (fun hc109 hm=>?_) (fun hc109 hm=>?_)
 refine Wb ?_
 clear f102 f107
 refine Wa<|Asg (Bo false) rfl<|Ri2<|Wp_ret<|⟨_,Clo,[Bo false],⟨rfl,trivial⟩,hs97.ext,?_⟩
 exact Vr.eq (a:=vB) (x:=false) rfl (oi hm)
 refine Ws2 ?_
 clear f102 f107
 refine Wa<|Mve (Iv i_1) rfl<|Rop<|op_addw rfl rfl<|Asg (Iv (IntKind.wrap .i64 (i_1+1))) rfl<|Ri2 ?_
 replace ch35:=ch35.trans p108
 exact hK28 _ _ ⟨(IntKind.wrap .i64 (i_1+1)),_,rfl,Frm.of ⟨rfl,trivial⟩,ch35,hs97,(inK_wrap .i64 _),jnE1 hsf27 hm⟩
 refine Wp_exit<|Wb<|Wb<|Wa<|Asg (Iv 0) rfl<|Ri2<|Wn2<|Wr [] [(2,Pt b1 0),(3,Pt b6 0),(6,Iv 0)] fun ξ111=>Wp_loopM q27_1 (fun m fr w'=>∃(i_2:Int) (Ebs:Ents),Ebs=[(some b6,Oc [Sl Ac b.variables Cc,Sl Ad b.places Cd] 34),(some b1,Oc [Sl Aa a.variables Ca,Sl Ab a.places Cb] 34)]∧fr [] [(6,Iv i_2)]∧hs31.S (ks Ebs O) w'∧St ⟨w,[],[]⟩ O w' Ebs∧InK .i64 i_2∧loop1 (m27_overflightref32_Same_B1 a b) m i_2=some x) (((a.places.length:Int) - 0).toNat+1) ⟨0,_,rfl,Frm.of ⟨rfl,trivial⟩,Step.refl _ _,hs31,(show InK .i64 0 from by decide),hm⟩ ?_ ?_
 rintro _ _ ⟨_,_,_,_,_,_,_,hm⟩;exact loop1_z hm
 rintro m115 K114 hK114 ρ120 w116 ⟨i_2,_,rfl,hfr119,hst118,hs117,Rf,hm⟩
 obtain⟨sf112,hsf113,hm⟩:=loop1_s hm;unfold m27_overflightref32_Same_B1 at hm
 rw [hfr119.eq];clear hfr119
 have ch121:=hst118
 refine Wb<|Wb<|Wa<|Mve (Iv i_2) rfl<|Rop<|op2 1 ty34 rfl ty32 rfl rfl<|Rop<|oq2 1 ty32 hs117 rfl rfl rfl<|Rop<|op_len Try.underlying32 rfl ?_
 have p123:=(p37.trans hst118)
 replace Fb:=Fb.step p123
 have rl122:=inK_len Fb
 refine Rop<|op_lss rfl rfl<|Ri2<|Wo2 hm rfl (fun hc124 hm=>?_) (fun hc124 hm=>?_)
 refine Ws2<|Wb<|Wn2<|Wb<|Wp_drawR (g0:=[]) (m:=10) (fl:=[]) (TS_inv hs117) rfl (.inl rfl) rfl (by decide+kernel) ?_  -- 11
 refine Dw_p (Pt b1 1) (fun _ _ _ hi ht=>op2 1 ty34 rfl ty32 (ht 2 rfl) rfl<|Gz hi)<|Dw_p (Sl Ab a.places Cb) (fun _ _ _ hi ht=>oq2 1 ty32 (Step.nx hi).1 (ht 48 rfl) rfl rfl<|Gz hi)<|Dw_p (Iv i_2) (fun _ _ _ hi ht=>ok2 (v:=Iv i_2) (ht 6 rfl)<|Gz hi) ?_
 obtain⟨hc137,hm⟩:=ck_some hm
 refine Dw_op (VP _ _ rXPlace (a.places.getD i_2.toNat default)) (VP.stab _ _) (fun ρ134 w135 g hle hi ht=>?_) ?_
 obtain⟨-,hst,-⟩:=hle
 replace Fb:=Fb.step hst
 refine Sj2<|om2 (q:=rXPlace) ty32 ty45 (ht 49 rfl) (ht 50 rfl) Fb rfl hc137.1 hc137.2 ?_
 intro p138 f139
 exact Goes.same hi ⟨_,rfl,f139⟩
 refine Dw_op (VD _ _ (vA rXPlace) (a.places.getD i_2.toNat default)) (VD.stab _ _) (fun ρ140 w141 g hle hi ht=>?_) ?_
 obtain⟨p143,q144,f145⟩:=ht 51 rfl
 refine Sj2<|op_loadPA ty45 q144 f145 rfl ?_
 intro vs146 h147
 obtain⟨_,_,rfl,⟨rfl,Rg⟩,⟨rfl,Rh⟩⟩:=h147
 exact Goes.same hi (show Vr.vd (vA rXPlace) _ _ _ _ from(mkA (mkVia (mk_pair (mk_int Rg) (mk_int Rh)))))
 refine Dw_p (Pt b6 1) (fun _ _ _ hi ht=>op2 1 ty34 rfl ty32 (ht 3 rfl) rfl<|Gz hi)<|Dw_p (Sl Ad b.places Cd) (fun _ _ _ hi ht=>oq2 0 ty32 (Step.nx hi).1 (ht 53 rfl) rfl rfl<|Gz hi)<|Dw_p (Iv i_2) (fun _ _ _ hi ht=>ok2 (v:=Iv i_2) (ht 6 rfl)<|Gz hi) ?_
 obtain⟨hc161,hm⟩:=ck_some hm
 replace Fd:=Fd.step p123
 refine Dw_op (VP _ _ rXPlace (b.places.getD i_2.toNat default)) (VP.stab _ _) (fun ρ158 w159 g hle hi ht=>?_) ?_
 obtain⟨-,hst,-⟩:=hle
 replace Fd:=Fd.step hst
 refine Sj2<|om2 (q:=rXPlace) ty32 ty45 (ht 54 rfl) (ht 55 rfl) Fd rfl hc161.1 hc161.2 ?_
 intro p162 f163
 exact Goes.same hi ⟨_,rfl,f163⟩
 refine Dw_op (VD _ _ (vA rXPlace) (b.places.getD i_2.toNat default)) (VD.stab _ _) (fun ρ164 w165 g hle hi ht=>?_) ?_
 obtain⟨p167,q168,f169⟩:=ht 56 rfl
 refine Sj2<|op_loadPA ty45 q168 f169 rfl ?_
 intro vs170 h171
 obtain⟨_,_,rfl,⟨rfl,Ri⟩,⟨rfl,Rj⟩⟩:=h171
 exact Goes.same hi (show Vr.vd (vA rXPlace) _ _ _ _ from(mkA (mkVia (mk_pair (mk_int Ri) (mk_int Rj)))))
 refine Dw_nil fun w177 g178 hl179 hi180=>?_
 obtain⟨-,hst181,-⟩:=hl179
 obtain⟨hs183,p182⟩:=Step.nx hi180
 rintro v184 h185
 replace h185:Vr.vd (vA rXPlace) _ _ _ _:=h185
 obtain⟨_,rfl,⟨_,_,rfl,⟨rfl,Rk⟩,⟨rfl,Rl⟩⟩⟩:=h185
 rintro _ ⟨p187,rfl,f188⟩ _ rfl _ rfl _ rfl v189 h190
 replace h190:Vr.vd (vA rXPlace) _ _ _ _:=h190
 obtain⟨_,rfl,⟨_,_,rfl,⟨rfl,Rm⟩,⟨rfl,Rn⟩⟩⟩:=h190
 rintro _ ⟨p192,rfl,f193⟩ _ rfl _ rfl _ rfl
 have p194:=hs117.to hs183 (hst181.trans p182)
 replace f188:=f188.step p182;replace f193:=f193.step p182;clear hs117
 refine Rop<|op_neqA (c:=decide ((a.places.getD i_2.toNat default)=(b.places.getD i_2.toNat default))) rfl rfl eqg45 (eqv45 9998 (a.places.getD i_2.toNat default) (b.places.getD i_2.toNat default) _)<|Ri2<|Wo2 hm rfl (fun hc195 hm=>?_) (fun hc195 hm=>?_)
 refine Wb ?_
 clear f188 f193
 refine Wa<|Asg (Bo false) rfl<|Ri2<|Wp_ret<|⟨_,Clo,[Bo false],⟨rfl,trivial⟩,hs183.ext,?_⟩
 exact Vr.eq (a:=vB) (x:=false) rfl (oi hm)
 refine Ws2 ?_
 clear f188 f193
 refine Wa<|Mve (Iv i_2) rfl<|Rop<|op_addw rfl rfl<|Asg (Iv (IntKind.wrap .i64 (i_2+1))) rfl<|Ri2 ?_
 replace ch121:=ch121.trans p194
 exact hK114 _ _ ⟨(IntKind.wrap .i64 (i_2+1)),_,rfl,Frm.of ⟨rfl,trivial⟩,ch121,hs183,(inK_wrap .i64 _),jnE1 hsf113 hm⟩
 refine Wp_exit<|Wb ?_
 obtain⟨hs196,p197⟩:=hs117.sub (bs':=[]) (.cons _ (.cons _ List.Sublist.slnil))
 clear Fa Fb Fc Fd
 clear hs117
 refine Wa<|Asg (Bo true) rfl<|Ri2<|Wp_ret<|⟨_,Clo,[Bo true],⟨rfl,trivial⟩,hs196.ext,?_⟩
 exact Vr.eq (a:=vB) (x:=true) rfl (oi hm)
 intro K15 hK15
 have ch198:=hs9.stepR
 refine Wa<|Rop<|op2 0 ty34 rfl ty31 rfl rfl<|Rop<|oq2 1 ty31 hs9 rfl rfl rfl<|Rop<|op_len Try.underlying31 rfl ?_
 have p200:=(p3.trans p8)
 replace Fa:=Fa.step p200
 have rl199:=inK_len Fa
 refine Rop<|op2 0 ty34 rfl ty31 rfl rfl<|Rop<|oq2 0 ty31 hs9 rfl rfl rfl<|Rop<|op_len Try.underlying31 rfl ?_
 replace Fc:=Fc.step p200
 have rl201:=inK_len Fc
 refine Rop<|op_neq rfl rfl<|Mve (Bo (decide ((a.variables.length:Int)≠(b.variables.length:Int)))) rfl<|Rg_caseM hm (fun hg202 hm=>?_) (fun hg202 hm=>?_)
 iterate 7 refine Rl2 rfl (asB_ne rfl rfl) rfl ?_
 exact Pkt (Bo true) rfl rfl<|Ri2<|hK15 _ _ ⟨true,_,rfl,Frm.of ⟨rfl,trivial⟩,ch198,hs9,hm⟩
 refine Rog rfl rfl<|op2 1 ty34 rfl ty32 rfl rfl<|Rog rfl rfl<|oq2 1 ty32 hs9 rfl rfl rfl<|Rog rfl rfl<|op_len Try.underlying32 rfl ?_
 replace Fb:=Fb.step p200
 have rl203:=inK_len Fb
 refine Rog rfl rfl<|op2 1 ty34 rfl ty32 rfl rfl<|Rog rfl rfl<|oq2 0 ty32 hs9 rfl rfl rfl<|Rog rfl rfl<|op_len Try.underlying32 rfl ?_
 replace Fd:=Fd.step p200
 have rl204:=inK_len Fd
 exact Rog rfl rfl<|op_neq rfl rfl<|Pkf (Bo (decide ((a.places.length:Int)≠(b.places.length:Int)))) rfl rfl<|Ri2<|hK15 _ _ ⟨decide ((a.places.length:Int)≠(b.places.length:Int)),_,rfl,Frm.of ⟨rfl,trivial⟩,ch198,hs9,hm⟩

abbrev q29_0:List Nat:=[5,6,18,19,20,21,22,23,24,25,26,27,28,29,30,31,32,33,34,35,36,37,38,39,40,41,42,43,44,45]

def m29_overflightlaw32_two_B0 (sf66:Int→(List XVariable)→Option XProblem) (v_1:Int) (v_2:List XVariable):Option XProblem:=
 bif (decide (v_1<3)) then
  jn (fun(v_3:List XChoice)=>
   ck ((v_2.length+[(⟨v_1,0,[0],v_3⟩:XVariable)].length)*64≤140737488355328)<|
   sf66 (IntKind.wrap .i64 (v_1+1)) (v_2++[(⟨v_1,0,[0],v_3⟩:XVariable)]))
  (fun k113=>
   bif (decide (v_1=0)) then
    ck ((0:Int)≤1∧1<([(⟨0,0,0,[(⟨(⟨false,0,61⟩:XCell),1⟩:XUse)]⟩:XChoice),(⟨10,0,0,[(⟨(⟨false,0,60⟩:XCell),1⟩:XUse),(⟨(⟨false,0,61⟩:XCell),1⟩:XUse)]⟩:XChoice)].length:Int))<|
    k113 ([(⟨0,0,0,[(⟨(⟨false,0,61⟩:XCell),1⟩:XUse)]⟩:XChoice),(⟨10,0,0,[(⟨(⟨false,0,60⟩:XCell),1⟩:XUse),(⟨(⟨false,0,61⟩:XCell),1⟩:XUse)]⟩:XChoice)].set 1 (⟨([(⟨0,0,0,[(⟨(⟨false,0,61⟩:XCell),1⟩:XUse)]⟩:XChoice),(⟨10,0,0,[(⟨(⟨false,0,60⟩:XCell),1⟩:XUse),(⟨(⟨false,0,61⟩:XCell),1⟩:XUse)]⟩:XChoice)].getD 1 default).delay,([(⟨0,0,0,[(⟨(⟨false,0,61⟩:XCell),1⟩:XUse)]⟩:XChoice),(⟨10,0,0,[(⟨(⟨false,0,60⟩:XCell),1⟩:XUse),(⟨(⟨false,0,61⟩:XCell),1⟩:XUse)]⟩:XChoice)].getD 1 default).cost,([(⟨0,0,0,[(⟨(⟨false,0,61⟩:XCell),1⟩:XUse)]⟩:XChoice),(⟨10,0,0,[(⟨(⟨false,0,60⟩:XCell),1⟩:XUse),(⟨(⟨false,0,61⟩:XCell),1⟩:XUse)]⟩:XChoice)].getD 1 default).changes,([]:List XUse)⟩:XChoice))
   else
    k113 [(⟨0,0,0,[(⟨(⟨false,0,61⟩:XCell),1⟩:XUse)]⟩:XChoice),(⟨10,0,0,[(⟨(⟨false,0,60⟩:XCell),1⟩:XUse),(⟨(⟨false,0,61⟩:XCell),1⟩:XUse)]⟩:XChoice)])
 else
  some (⟨[(⟨false,0,60⟩:XCell),(⟨false,0,61⟩:XCell)],[[1,1]],v_2⟩:XProblem)

def m29_overflightlaw32_two:Option XProblem:=
 loop2 m29_overflightlaw32_two_B0 (((3:Int) - 0).toNat+1) 0 ([]:List XVariable)

theorem c29_overflightlaw32_two {w:World} {O:List Nat} (hO:∀k∈O,k<w.heap.size) {x:XProblem} (hm:m29_overflightlaw32_two=some x):
 Ok Try.prog 29 [] w O (vA rXProblem) x:=by
 unfold m29_overflightlaw32_two at hm
 refine Fn_of_Wp (n:=47) (xs:=[.cell 0 26]) Try.func29 rfl Try.ntmps29 Try.results29 rfl ?_
 have hs:=St.start hO
 refine Wb<|Wa<|Rop<|op_alloc ty26 hs ?_
 intro b1 w2 _ p3 hs4
 refine Ri2<|Wb<|Wa<|Rop<|op_build (vs:=[Bo false,Iv 0,Iv 60]) (parts:=[(2,.const (.int .i64 60))]) ty67 pl67 rfl<|Rop<|op_build (vs:=[Bo false,Iv 0,Iv 61]) (parts:=[(2,.const (.int .i64 61))]) ty67 pl67 rfl<|Rop<|op_alloc ty67 hs4 ?_
 intro b6 w7 _ p8 hs9
 clear hs4
 refine Rop<|op_alloc ty67 hs9 ?_
 intro b11 w12 _ p13 hs14
 clear hs9
 refine Rg_op_<|op_stA Put.p1 ty67 hs14 rfl rfl rfl rfl rfl ?_
 intro w16 p17 hs18
 clear hs14
 refine Rg_op_<|op_stA .z ty67 hs18 rfl rfl rfl rfl rfl ?_
 intro w19 p20 hs21
 clear hs18
 refine Ri2<|Wb<|Wa<|Rop<|op_ldA 0 ty67 hs21 rfl rfl rfl<|Rop<|op_build (vs:=[Bo false,Iv 0,Iv 61,Iv 1]) (parts:=[(0,.tmp 9),(1,.const (.int .i64 1))]) ty76 pl76 rfl<|Rop<|op_buildSlice (cs:=[Bo false,Iv 0,Iv 61,Iv 1]) (parts:=[(0,.tmp 10)]) ty56 ty76 hs21 (by decide) rfl ?_
 intro b22 w23 hx26 p24 hs25
 clear hs21
 refine Asg (Value.slice (some ⟨b22,0,none⟩) 1 1) rfl<|Ri2<|Wb<|Wa<|Rop<|op_ldA 2 ty67 hs25 rfl rfl rfl<|Rop<|op_ldA 1 ty67 hs25 rfl rfl rfl<|Rop<|op_buildSlice (cs:=[Bo false,Iv 0,Iv 60,Bo false,Iv 0,Iv 61]) (parts:=[(0,.tmp 12),(1,.tmp 13)]) ty22 ty67 hs25 (by decide) rfl ?_
 intro b28 w29 hx32 p30 hs31
 clear hs25
 refine Rop<|op_buildSlice (cs:=[Iv 1,Iv 1]) (parts:=[(0,.const (.int .i64 1)),(1,.const (.int .i64 1))]) ty31 ty3 hs31 (by decide) rfl ?_
 intro b34 w35 hx38 p36 hs37
 clear hs31
 obtain⟨hs41,p42,f40⟩:=St.publish (i:=0) (o:=0) (c:=2) (xs:=[1,1]) hs37 rfl (show Els (rInt .i64) _ _ [Iv 1,Iv 1] [1,1] from⟨_,_,rfl,mk_int (show InK .i64 1 from by decide),⟨_,_,rfl,mk_int (show InK .i64 1 from by decide),Els.nil⟩⟩) (le_lit rfl) (le_lit rfl) (le_lit rfl)
 clear hs37
 refine Rop<|op_buildSlice (cs:=[Sl (some ⟨b34,0,none⟩) [1,1] 2]) (parts:=[(0,.tmp 15)]) ty23 ty31 hs41 (by decide) rfl ?_
 intro b43 w44 hx47 p45 hs46
 clear hs41
 have f49:=Gs.of_cells (p:=rXCell) (e:=67) (bl:=b28) (c:=2) (w:=w44) (O:=ks [(some b43,Oc [Sl (some ⟨b34,0,none⟩) [1,1] 2] 31),(some b28,Oc [Bo false,Iv 0,Iv 60,Bo false,Iv 0,Iv 61] 67),(some b22,Oc [Bo false,Iv 0,Iv 61,Iv 1] 76),(some b11,Oc [Bo false,Iv 0,Iv 61] 67),(some b6,Oc [Bo false,Iv 0,Iv 60] 67),(some b1,Oc [Value.slice none 0 0,Value.slice none 0 0,Value.slice none 0 0] 26)] O) (show Els rXCell _ _ [Bo false,Iv 0,Iv 60,Bo false,Iv 0,Iv 61] [(⟨false,0,60⟩:XCell),(⟨false,0,61⟩:XCell)] from⟨_,_,rfl,mkVia (mk_pair mkBool (mk_pair (mk_int (show InK .i64 0 from by decide)) (mk_int (show InK .i64 60 from by decide)))),⟨_,_,rfl,mkVia (mk_pair mkBool (mk_pair (mk_int (show InK .i64 0 from by decide)) (mk_int (show InK .i64 61 from by decide)))),Els.nil⟩⟩) rfl (le_lit rfl)
 replace f40:=f40.step p45
 have f50:=Gs.of_cells (p:=rSl (rInt .i64)) (e:=31) (bl:=b43) (c:=1) (w:=w44) (O:=ks [(some b43,Oc [Sl (some ⟨b34,0,none⟩) [1,1] 2] 31),(some b28,Obj.cells [Bo false,Iv 0,Iv 60,Bo false,Iv 0,Iv 61].toArray 67),(some b22,Oc [Bo false,Iv 0,Iv 61,Iv 1] 76),(some b11,Oc [Bo false,Iv 0,Iv 61] 67),(some b6,Oc [Bo false,Iv 0,Iv 60] 67),(some b1,Oc [Value.slice none 0 0,Value.slice none 0 0,Value.slice none 0 0] 26)] O) (show Els (rSl (rInt .i64)) _ _ [Sl (some ⟨b34,0,none⟩) [1,1] 2] [[1,1]] from⟨_,_,rfl,mk_sl f40,Els.nil⟩) rfl (le_lit rfl)
 refine Rop<|op_build (vs:=[Sl (some ⟨b28,0,none⟩) [(⟨false,0,60⟩:XCell),(⟨false,0,61⟩:XCell)] 2,Sl (some ⟨b43,0,none⟩) [[1,1]] 1,Value.slice none 0 0]) (parts:=[(0,.tmp 14),(1,.tmp 16)]) ty26 pl26 rfl<|Rop<|op_alloc ty26 hs46 ?_
 intro b51 w52 _ p53 hs54
 clear hs46
 refine Rg_op_<|op_stA .z ty26 hs54 rfl rfl rfl rfl rfl ?_
 intro w56 p57 hs58
 clear hs54
 refine Ri2<|Wb<|Wb ?_
 clear f40
 refine Wa<|Mve (Iv 0) rfl<|Ri2<|Wn2 ?_
 obtain⟨hs60,p61,f59⟩:=St.publish (i:=3) (o:=0) (c:=1) (xs:=[(⟨(⟨false,0,61⟩:XCell),1⟩:XUse)]) hs58 rfl (show Els rXUse _ _ [Bo false,Iv 0,Iv 61,Iv 1] [(⟨(⟨false,0,61⟩:XCell),1⟩:XUse)] from⟨_,_,rfl,mkVia (mk_pair (mkVia (mk_pair mkBool (mk_pair (mk_int (show InK .i64 0 from by decide)) (mk_int (show InK .i64 61 from by decide))))) (mk_int (show InK .i64 1 from by decide))),Els.nil⟩) (le_lit rfl) (le_lit rfl) (le_lit rfl)
 clear hs58
 refine Wr [] [(0,Pt b1 0),(1,Pt b6 0),(2,Pt b11 0),(3,Sl (some ⟨b22,0,none⟩) [(⟨(⟨false,0,61⟩:XCell),1⟩:XUse)] 1),(4,Pt b51 0),(18,Iv 0)] fun ξ65=>?_
 have hs70:=hs60.ghost (Obj.cells #[] 61)
 refine Wp_loopM q29_0 (fun m fr w'=>∃(v_1:Int) (v_2:List XVariable) (Aa:Option Addr) (Ca:Nat) (k_g64:Option Nat) (o_g64:Obj) (Ebs:Ents),Ebs=[(k_g64,o_g64),(some b51,Oc [Sl (some ⟨b28,0,none⟩) [(⟨false,0,60⟩:XCell),(⟨false,0,61⟩:XCell)] 2,Sl (some ⟨b43,0,none⟩) [[1,1]] 1,Sl Aa v_2 Ca] 26),(some b43,Obj.cells [Sl (some ⟨b34,0,none⟩) [1,1] 2].toArray 31),(some b28,Obj.cells [Bo false,Iv 0,Iv 60,Bo false,Iv 0,Iv 61].toArray 67),(some b11,Oc [Bo false,Iv 0,Iv 61] 67),(some b6,Oc [Bo false,Iv 0,Iv 60] 67),(some b1,Oc [Value.slice none 0 0,Value.slice none 0 0,Value.slice none 0 0] 26)]∧fr [] [(18,Iv v_1)]∧hs70.S (ks Ebs O) w'∧St ⟨w,[],[]⟩ O w' Ebs∧InK .i64 v_1∧Gs rXVariable 61 w' (ks Ebs O) Aa Ca v_2 k_g64 o_g64∧loop2 m29_overflightlaw32_two_B0 m v_1 v_2=some x) (((3:Int) - 0).toNat+1) ⟨0,([]:List XVariable),none,0,none,Obj.cells #[] 61,_,rfl,Frm.of ⟨rfl,trivial⟩,Step.refl _ _,hs70,(show InK .i64 0 from by decide),Gs.nil_,hm⟩ ?_ ?_
 rintro _ _ ⟨_,_,_,_,_,_,_,_,_,_,_,_,_,hm⟩;exact loop2_z hm
 rintro m69 K68 hK68 ρ76 w72 ⟨v_1,v_2,Aa,Ca,k_g64,o_g64,_,rfl,hfr75,hst74,hs73,Ra,Fa,hm⟩
 obtain⟨sf66,hsf67,hm⟩:=loop2_s hm;unfold m29_overflightlaw32_two_B0 at hm
 rw [hfr75.eq];clear hfr75
 have ch77:=hst74
 refine Wb<|Wa<|Rop<|op_lss rfl rfl<|Ri2<|Wb<|Wo2 hm rfl (fun hc78 hm=>?_) (fun hc78 hm=>?_)
 refine Ws2<|Wb<|Wn2<|Wb<|Wa<|Mve (Iv v_1) rfl<|Asg (Iv v_1) rfl<|Ri2<|Wb<|Wa<|Mve (Iv v_1) rfl<|Rop<|op_buildSlice (cs:=[Iv 0]) (parts:=[(0,.const (.int .i64 0))]) ty31 ty3 hs73 (by decide) rfl ?_
 intro b79 w80 hx83 p81 hs82
 clear hs73
 refine Mve (Sl (some ⟨b22,0,none⟩) [(⟨(⟨false,0,61⟩:XCell),1⟩:XUse)] 1) rfl<|Rop<|op_build (vs:=[Iv 0,Iv 0,Iv 0,Sl (some ⟨b22,0,none⟩) [(⟨(⟨false,0,61⟩:XCell),1⟩:XUse)] 1]) (parts:=[(3,.tmp 23)]) ty58 pl58 rfl<|Rop<|op_ldA 6 ty67 hs82 rfl rfl rfl<|Rop<|op_build (vs:=[Bo false,Iv 0,Iv 60,Iv 1]) (parts:=[(0,.tmp 25),(1,.const (.int .i64 1))]) ty76 pl76 rfl<|Rop<|op_ldA 5 ty67 hs82 rfl rfl rfl<|Rop<|op_build (vs:=[Bo false,Iv 0,Iv 61,Iv 1]) (parts:=[(0,.tmp 27),(1,.const (.int .i64 1))]) ty76 pl76 rfl<|Rop<|op_buildSlice (cs:=[Bo false,Iv 0,Iv 60,Iv 1,Bo false,Iv 0,Iv 61,Iv 1]) (parts:=[(0,.tmp 26),(1,.tmp 28)]) ty56 ty76 hs82 (by decide) rfl ?_
 intro b85 w86 hx89 p87 hs88
 clear hs82
 have f91:=Gs.of_cells (p:=rXUse) (e:=76) (bl:=b85) (c:=2) (w:=w86) (O:=ks [(some b85,Oc [Bo false,Iv 0,Iv 60,Iv 1,Bo false,Iv 0,Iv 61,Iv 1] 76),(some b79,Oc [Iv 0] 3),(k_g64,o_g64),(some b51,Oc [Sl (some ⟨b28,0,none⟩) [(⟨false,0,60⟩:XCell),(⟨false,0,61⟩:XCell)] 2,Sl (some ⟨b43,0,none⟩) [[1,1]] 1,Sl Aa v_2 Ca] 26),(some b43,Obj.cells [Sl (some ⟨b34,0,none⟩) [1,1] 2].toArray 31),(some b28,Obj.cells [Bo false,Iv 0,Iv 60,Bo false,Iv 0,Iv 61].toArray 67),(some b11,Oc [Bo false,Iv 0,Iv 61] 67),(some b6,Oc [Bo false,Iv 0,Iv 60] 67),(some b1,Oc [Value.slice none 0 0,Value.slice none 0 0,Value.slice none 0 0] 26)] O) (show Els rXUse _ _ [Bo false,Iv 0,Iv 60,Iv 1,Bo false,Iv 0,Iv 61,Iv 1] [(⟨(⟨false,0,60⟩:XCell),1⟩:XUse),(⟨(⟨false,0,61⟩:XCell),1⟩:XUse)] from⟨_,_,rfl,mkVia (mk_pair (mkVia (mk_pair mkBool (mk_pair (mk_int (show InK .i64 0 from by decide)) (mk_int (show InK .i64 60 from by decide))))) (mk_int (show InK .i64 1 from by decide))),⟨_,_,rfl,mkVia (mk_pair (mkVia (mk_pair mkBool (mk_pair (mk_int (show InK .i64 0 from by decide)) (mk_int (show InK .i64 61 from by decide))))) (mk_int (show InK .i64 1 from by decide))),Els.nil⟩⟩) rfl (le_lit rfl)
 refine Rop<|op_build (vs:=[Iv 10,Iv 0,Iv 0,Sl (some ⟨b85,0,none⟩) [(⟨(⟨false,0,60⟩:XCell),1⟩:XUse),(⟨(⟨false,0,61⟩:XCell),1⟩:XUse)] 2]) (parts:=[(0,.const (.int .i64 10)),(3,.tmp 29)]) ty58 pl58 rfl ?_
 obtain⟨hs93,p94,f92⟩:=Gs.publish (i:=0) hs88 rfl f91
 clear hs88
 refine Rop<|op_buildSlice (cs:=[Iv 0,Iv 0,Iv 0,Sl (some ⟨b22,0,none⟩) [(⟨(⟨false,0,61⟩:XCell),1⟩:XUse)] 1,Iv 10,Iv 0,Iv 0,Sl (some ⟨b85,0,none⟩) [(⟨(⟨false,0,60⟩:XCell),1⟩:XUse),(⟨(⟨false,0,61⟩:XCell),1⟩:XUse)] 2]) (parts:=[(0,.tmp 24),(1,.tmp 30)]) ty59 ty58 hs93 (by decide) rfl ?_
 intro b95 w96 hx99 p97 hs98
 clear hs93
 have f101:=Gs.of_cells (p:=(rInt .i64)) (e:=3) (bl:=b79) (c:=1) (w:=w96) (O:=ks [(some b95,Oc [Iv 0,Iv 0,Iv 0,Sl (some ⟨b22,0,none⟩) [(⟨(⟨false,0,61⟩:XCell),1⟩:XUse)] 1,Iv 10,Iv 0,Iv 0,Sl (some ⟨b85,0,none⟩) [(⟨(⟨false,0,60⟩:XCell),1⟩:XUse),(⟨(⟨false,0,61⟩:XCell),1⟩:XUse)] 2] 58),(some b79,Oc [Iv 0] 3),(k_g64,o_g64),(some b51,Oc [Sl (some ⟨b28,0,none⟩) [(⟨false,0,60⟩:XCell),(⟨false,0,61⟩:XCell)] 2,Sl (some ⟨b43,0,none⟩) [[1,1]] 1,Sl Aa v_2 Ca] 26),(some b43,Obj.cells [Sl (some ⟨b34,0,none⟩) [1,1] 2].toArray 31),(some b28,Obj.cells [Bo false,Iv 0,Iv 60,Bo false,Iv 0,Iv 61].toArray 67),(some b11,Oc [Bo false,Iv 0,Iv 61] 67),(some b6,Oc [Bo false,Iv 0,Iv 60] 67),(some b1,Oc [Value.slice none 0 0,Value.slice none 0 0,Value.slice none 0 0] 26)] O) (show Els (rInt .i64) _ _ [Iv 0] [0] from⟨_,_,rfl,mk_int (show InK .i64 0 from by decide),Els.nil⟩) rfl (le_lit rfl)
 replace f59:=f59.step (hst74.trans (p81.trans (p87.trans (p94.trans p97))));replace f92:=f92.step p97
 have f102:=Gs.of_cells (p:=rXChoice) (e:=58) (bl:=b95) (c:=2) (w:=w96) (O:=ks [(some b95,Oc [Iv 0,Iv 0,Iv 0,Sl (some ⟨b22,0,none⟩) [(⟨(⟨false,0,61⟩:XCell),1⟩:XUse)] 1,Iv 10,Iv 0,Iv 0,Sl (some ⟨b85,0,none⟩) [(⟨(⟨false,0,60⟩:XCell),1⟩:XUse),(⟨(⟨false,0,61⟩:XCell),1⟩:XUse)] 2] 58),(some b79,Obj.cells [Iv 0].toArray 3),(k_g64,o_g64),(some b51,Oc [Sl (some ⟨b28,0,none⟩) [(⟨false,0,60⟩:XCell),(⟨false,0,61⟩:XCell)] 2,Sl (some ⟨b43,0,none⟩) [[1,1]] 1,Sl Aa v_2 Ca] 26),(some b43,Obj.cells [Sl (some ⟨b34,0,none⟩) [1,1] 2].toArray 31),(some b28,Obj.cells [Bo false,Iv 0,Iv 60,Bo false,Iv 0,Iv 61].toArray 67),(some b11,Oc [Bo false,Iv 0,Iv 61] 67),(some b6,Oc [Bo false,Iv 0,Iv 60] 67),(some b1,Oc [Value.slice none 0 0,Value.slice none 0 0,Value.slice none 0 0] 26)] O) (show Els rXChoice _ _ [Iv 0,Iv 0,Iv 0,Sl (some ⟨b22,0,none⟩) [(⟨(⟨false,0,61⟩:XCell),1⟩:XUse)] 1,Iv 10,Iv 0,Iv 0,Sl (some ⟨b85,0,none⟩) [(⟨(⟨false,0,60⟩:XCell),1⟩:XUse),(⟨(⟨false,0,61⟩:XCell),1⟩:XUse)] 2] [(⟨0,0,0,[(⟨(⟨false,0,61⟩:XCell),1⟩:XUse)]⟩:XChoice),(⟨10,0,0,[(⟨(⟨false,0,60⟩:XCell),1⟩:XUse),(⟨(⟨false,0,61⟩:XCell),1⟩:XUse)]⟩:XChoice)] from⟨_,_,rfl,mkVia (mk_pair (mk_int (show InK .i64 0 from by decide)) (mk_pair (mk_int (show InK .i64 0 from by decide)) (mk_pair (mk_int (show InK .i64 0 from by decide)) (mk_sl f59)))),⟨_,_,rfl,mkVia (mk_pair (mk_int (show InK .i64 10 from by decide)) (mk_pair (mk_int (show InK .i64 0 from by decide)) (mk_pair (mk_int (show InK .i64 0 from by decide)) (mk_sl f92)))),Els.nil⟩⟩) rfl (le_lit rfl)
 refine Rop<|op_build (vs:=[Iv v_1,Iv 0,Sl (some ⟨b79,0,none⟩) [0] 1,Sl (some ⟨b95,0,none⟩) [(⟨0,0,0,[(⟨(⟨false,0,61⟩:XCell),1⟩:XUse)]⟩:XChoice),(⟨10,0,0,[(⟨(⟨false,0,60⟩:XCell),1⟩:XUse),(⟨(⟨false,0,61⟩:XCell),1⟩:XUse)]⟩:XChoice)] 2]) (parts:=[(0,.tmp 21),(2,.tmp 22),(3,.tmp 31)]) ty61 pl61 rfl<|Rop<|op_alloc ty61 hs98 ?_
 intro b103 w104 _ p105 hs106
 clear hs98
 refine Rg_op_<|op_stA .z ty61 hs106 rfl rfl rfl rfl rfl ?_
 intro w108 p109 hs110
 clear hs106
 refine Ri2<|Wr2 q29_0 [] (updL ⟨ξ65,[]⟩ [(0,Pt b1 0),(1,Pt b6 0),(2,Pt b11 0),(3,Sl (some ⟨b22,0,none⟩) [(⟨(⟨false,0,61⟩:XCell),1⟩:XUse)] 1),(4,Pt b51 0),(18,Iv 0)]) [(5,Iv v_1),(6,Pt b103 0),(18,Iv v_1)] fun ξ111=>?_
 obtain⟨k113,hk114,hm⟩:=jn_elim hm
 refine Wp_seqJ [33,34,35,36,37,38] (fun fr w'=>∃(v_3:List XChoice) (Ab:Option Addr) (Cb:Nat) (k_g112:Option Nat) (o_g112:Obj) (Ebs:Ents),Ebs=[(some b103,Oc [Iv v_1,Iv 0,Sl (some ⟨b79,0,none⟩) [0] 1,Sl Ab v_3 Cb] 61),(k_g112,o_g112),(some b79,Obj.cells [Iv 0].toArray 3),(k_g64,o_g64),(some b51,Oc [Sl (some ⟨b28,0,none⟩) [(⟨false,0,60⟩:XCell),(⟨false,0,61⟩:XCell)] 2,Sl (some ⟨b43,0,none⟩) [[1,1]] 1,Sl Aa v_2 Ca] 26),(some b43,Obj.cells [Sl (some ⟨b34,0,none⟩) [1,1] 2].toArray 31),(some b28,Obj.cells [Bo false,Iv 0,Iv 60,Bo false,Iv 0,Iv 61].toArray 67),(some b11,Oc [Bo false,Iv 0,Iv 61] 67),(some b6,Oc [Bo false,Iv 0,Iv 60] 67),(some b1,Oc [Value.slice none 0 0,Value.slice none 0 0,Value.slice none 0 0] 26)]∧fr [] []∧hs110.S (ks Ebs O) w'∧St ⟨w,[],[]⟩ O w' Ebs∧Gs rXChoice 58 w' (ks Ebs O) Ab Cb v_3 k_g112 o_g112∧k113 v_3=some x) ?_ ?_
 rintro ρ120 w116 ⟨v_3,Ab,Cb,k_g112,o_g112,_,rfl,hfr119,hst118,hs117,Fb,hm⟩
 replace hm:=jnE1 hk114 hm
 rw [hfr119.eq];clear hfr119
 clear f92 f102
 refine Wa<|Rop<|op2 2 ty26 rfl ty24 rfl rfl<|Rop<|oq2 4 ty24 hs117 rfl rfl rfl<|Rop<|op_ldA 0 ty61 hs117 rfl rfl rfl ?_
 have p124:=(p105.trans (p109.trans hst118))
 replace f101:=f101.step p124
 obtain⟨hs122,p123,f121⟩:=Gs.publish (i:=2) hs117 rfl f101
 clear hs117
 replace Fb:=Fb.step p123
 obtain⟨hs126,p127,f125⟩:=Gs.publish (i:=1) hs122 rfl Fb
 clear hs122
 refine Rop<|op_buildSlice (cs:=[Iv v_1,Iv 0,Sl (some ⟨b79,0,none⟩) [0] 1,Sl Ab v_3 Cb]) (parts:=[(0,.tmp 41)]) ty24 ty61 hs126 (by decide) rfl ?_
 intro b128 w129 hx132 p130 hs131
 clear hs126
 obtain⟨hc134,hm⟩:=ck_some hm
 replace f121:=f121.step (p127.trans p130);replace f125:=f125.step p130
 have p143:=(p81.trans (p87.trans (p94.trans (p97.trans (p105.trans (p109.trans (hst118.trans (p123.trans (p127.trans p130)))))))))
 replace Fa:=Fa.step p143
 refine Rop (op_append (q:=rXVariable) (i:=2) (xs:=v_2) (ys:=[(⟨v_1,0,[0],v_3⟩:XVariable)]) (news:=[Iv v_1,Iv 0,Sl (some ⟨b79,0,none⟩) [0] 1,Sl Ab v_3 Cb]) ty24 ty61 rfl (by decide) hs131 rfl rfl Fa rfl (Src.owned' (len:=4) (hs131.get (i:=0) rfl) rfl) (show Els rXVariable _ _ [Iv v_1,Iv 0,Sl (some ⟨b79,0,none⟩) [0] 1,Sl Ab v_3 Cb] [(⟨v_1,0,[0],v_3⟩:XVariable)] from⟨_,_,rfl,mkVia (mk_pair (mk_int Ra) (mk_pair (mk_int (show InK .i64 0 from by decide)) (mk_pair (mk_sl f121) (mk_sl f125)))),Els.nil⟩) hc134 (by have:=hc134;simp only [maxLen];omega) ?_)
 intro a138 c139 k140 o141 w135 p136 hs137 f142
 clear hs131
 have hs144:=hs137.drop 0
 have p145:=(hs137.dropS 0)
 clear hs137
 refine Rop<|op2 2 ty26 rfl ty24 rfl rfl<|Rg_op_<|op_stC (Sl a138 (v_2++[(⟨v_1,0,[0],v_3⟩:XVariable)]) c139) (cs':=[Sl (some ⟨b28,0,none⟩) [(⟨false,0,60⟩:XCell),(⟨false,0,61⟩:XCell)] 2,Sl (some ⟨b43,0,none⟩) [[1,1]] 1,Sl a138 (v_2++[(⟨v_1,0,[0],v_3⟩:XVariable)]) c139]) Put.p2 ty24 hs144 rfl rfl rfl (le_lit rfl) rfl rfl ?_
 intro w146 p147 hs148
 clear hs144
 refine Ri2<|Wa<|Rop<|op_addw rfl rfl<|Mve (Iv (IntKind.wrap .i64 (v_1+1))) rfl<|Ri2 ?_
 have hs149:=hs148.drop 0
 have p150:=(hs148.dropS 0)
 clear hs148
 replace ch77:=ch77.trans (p143.trans (p136.trans (p145.trans (p147.trans p150))))
 replace f142:=f142.step (p145.trans (p147.trans p150))
 exact hK68 _ _ ⟨(IntKind.wrap .i64 (v_1+1)),v_2++[(⟨v_1,0,[0],v_3⟩:XVariable)],a138,c139,k140,o141,_,rfl,Frm.of ⟨rfl,trivial⟩,ch77,hs149,(inK_wrap .i64 _),f142,jnE2 hsf67 hm⟩
 intro K115 hK115
 have ch151:=hs110.stepR
 refine Wb ?_
 clear f92
 refine Wa<|Mve (Iv v_1) rfl<|Rop<|op_eql rfl rfl<|Ri2<|Wo2 hm rfl (fun hc152 hm=>?_) (fun hc152 hm=>?_)
 refine Wa<|Rop<|op2 3 ty61 rfl ty59 rfl rfl<|Rop<|oq2 0 ty59 hs110 rfl rfl rfl ?_
 obtain⟨hc153,hm⟩:=ck_some hm
 have p155:=(p105.trans p109)
 replace f102:=f102.step p155
 refine Rop<|op_indexAddrG ty59 ty58 rfl rfl f102 hc153 ?_
 rintro _ ⟨⟩ -
 refine Rop<|op_fieldAddr ty58 rfl ty56 (by decide) rfl (rfl:_=(⟨_,1*4+3,none⟩:Addr)) ?_
 have hr161:∀vs,Rp.rd rXChoice w108 (ks [(some b103,Oc [Iv v_1,Iv 0,Sl (some ⟨b79,0,none⟩) [0] 1,Sl (some ⟨b95,0,none⟩) [(⟨0,0,0,[(⟨(⟨false,0,61⟩:XCell),1⟩:XUse)]⟩:XChoice),(⟨10,0,0,[(⟨(⟨false,0,60⟩:XCell),1⟩:XUse),(⟨(⟨false,0,61⟩:XCell),1⟩:XUse)]⟩:XChoice)] 2] 61),(some b95,Obj.cells [Iv 0,Iv 0,Iv 0,Sl (some ⟨b22,0,none⟩) [(⟨(⟨false,0,61⟩:XCell),1⟩:XUse)] 1,Iv 10,Iv 0,Iv 0,Sl (some ⟨b85,0,none⟩) [(⟨(⟨false,0,60⟩:XCell),1⟩:XUse),(⟨(⟨false,0,61⟩:XCell),1⟩:XUse)] 2].toArray 58),(some b79,Obj.cells [Iv 0].toArray 3),(k_g64,o_g64),(some b51,Oc [Sl (some ⟨b28,0,none⟩) [(⟨false,0,60⟩:XCell),(⟨false,0,61⟩:XCell)] 2,Sl (some ⟨b43,0,none⟩) [[1,1]] 1,Sl Aa v_2 Ca] 26),(some b43,Obj.cells [Sl (some ⟨b34,0,none⟩) [1,1] 2].toArray 31),(some b28,Obj.cells [Bo false,Iv 0,Iv 60,Bo false,Iv 0,Iv 61].toArray 67),(some b11,Oc [Bo false,Iv 0,Iv 61] 67),(some b6,Oc [Bo false,Iv 0,Iv 60] 67),(some b1,Oc [Value.slice none 0 0,Value.slice none 0 0,Value.slice none 0 0] 26)] O) vs ([(⟨0,0,0,[(⟨(⟨false,0,61⟩:XCell),1⟩:XUse)]⟩:XChoice),(⟨10,0,0,[(⟨(⟨false,0,60⟩:XCell),1⟩:XUse),(⟨(⟨false,0,61⟩:XCell),1⟩:XUse)]⟩:XChoice)].getD 1 default)→Rp.rd rXChoice w108 (ks [(some b103,Oc [Iv v_1,Iv 0,Sl (some ⟨b79,0,none⟩) [0] 1,Sl (some ⟨b95,0,none⟩) [(⟨0,0,0,[(⟨(⟨false,0,61⟩:XCell),1⟩:XUse)]⟩:XChoice),(⟨10,0,0,[(⟨(⟨false,0,60⟩:XCell),1⟩:XUse),(⟨(⟨false,0,61⟩:XCell),1⟩:XUse)]⟩:XChoice)] 2] 61),(some b95,Obj.cells [Iv 0,Iv 0,Iv 0,Sl (some ⟨b22,0,none⟩) [(⟨(⟨false,0,61⟩:XCell),1⟩:XUse)] 1,Iv 10,Iv 0,Iv 0,Sl (some ⟨b85,0,none⟩) [(⟨(⟨false,0,60⟩:XCell),1⟩:XUse),(⟨(⟨false,0,61⟩:XCell),1⟩:XUse)] 2].toArray 58),(some b79,Obj.cells [Iv 0].toArray 3),(k_g64,o_g64),(some b51,Oc [Sl (some ⟨b28,0,none⟩) [(⟨false,0,60⟩:XCell),(⟨false,0,61⟩:XCell)] 2,Sl (some ⟨b43,0,none⟩) [[1,1]] 1,Sl Aa v_2 Ca] 26),(some b43,Obj.cells [Sl (some ⟨b34,0,none⟩) [1,1] 2].toArray 31),(some b28,Obj.cells [Bo false,Iv 0,Iv 60,Bo false,Iv 0,Iv 61].toArray 67),(some b11,Oc [Bo false,Iv 0,Iv 61] 67),(some b6,Oc [Bo false,Iv 0,Iv 60] 67),(some b1,Oc [Value.slice none 0 0,Value.slice none 0 0,Value.slice none 0 0] 26)] O) (vs.set 3 (Value.slice none 0 0)) (⟨([(⟨0,0,0,[(⟨(⟨false,0,61⟩:XCell),1⟩:XUse)]⟩:XChoice),(⟨10,0,0,[(⟨(⟨false,0,60⟩:XCell),1⟩:XUse),(⟨(⟨false,0,61⟩:XCell),1⟩:XUse)]⟩:XChoice)].getD 1 default).delay,([(⟨0,0,0,[(⟨(⟨false,0,61⟩:XCell),1⟩:XUse)]⟩:XChoice),(⟨10,0,0,[(⟨(⟨false,0,60⟩:XCell),1⟩:XUse),(⟨(⟨false,0,61⟩:XCell),1⟩:XUse)]⟩:XChoice)].getD 1 default).cost,([(⟨0,0,0,[(⟨(⟨false,0,61⟩:XCell),1⟩:XUse)]⟩:XChoice),(⟨10,0,0,[(⟨(⟨false,0,60⟩:XCell),1⟩:XUse),(⟨(⟨false,0,61⟩:XCell),1⟩:XUse)]⟩:XChoice)].getD 1 default).changes,([]:List XUse)⟩:XChoice):=by
  intro vs162 h163
  obtain⟨_,_,rfl,⟨rfl,Rb⟩,⟨_,_,rfl,⟨rfl,Rc⟩,⟨_,_,rfl,⟨rfl,Rd⟩,⟨Ac,Cc,rfl,Fc⟩⟩⟩⟩:=h163
  exact(mkVia (mk_pair (mk_int Rb) (mk_pair (mk_int Rc) (mk_pair (mk_int Rd) (mk_sl SlR.nil_)))))
 refine Rg_op_<|op_storeGF (m:=1) (nn:=4) (off:=3) (i:=1) ty56 rfl hs110 rfl rfl rfl rfl rfl f102 hc153 (by decide) hr161 ?_
 intro w156 o159 p157 hs158 f160;clear hr161
 refine Ri2 ?_
 have q165: [(⟨0,0,0,[(⟨(⟨false,0,61⟩:XCell),1⟩:XUse)]⟩:XChoice),(⟨10,0,0,[(⟨(⟨false,0,60⟩:XCell),1⟩:XUse),(⟨(⟨false,0,61⟩:XCell),1⟩:XUse)]⟩:XChoice)].length=([(⟨0,0,0,[(⟨(⟨false,0,61⟩:XCell),1⟩:XUse)]⟩:XChoice),(⟨10,0,0,[(⟨(⟨false,0,60⟩:XCell),1⟩:XUse),(⟨(⟨false,0,61⟩:XCell),1⟩:XUse)]⟩:XChoice)].set 1 (⟨([(⟨0,0,0,[(⟨(⟨false,0,61⟩:XCell),1⟩:XUse)]⟩:XChoice),(⟨10,0,0,[(⟨(⟨false,0,60⟩:XCell),1⟩:XUse),(⟨(⟨false,0,61⟩:XCell),1⟩:XUse)]⟩:XChoice)].getD 1 default).delay,([(⟨0,0,0,[(⟨(⟨false,0,61⟩:XCell),1⟩:XUse)]⟩:XChoice),(⟨10,0,0,[(⟨(⟨false,0,60⟩:XCell),1⟩:XUse),(⟨(⟨false,0,61⟩:XCell),1⟩:XUse)]⟩:XChoice)].getD 1 default).cost,([(⟨0,0,0,[(⟨(⟨false,0,61⟩:XCell),1⟩:XUse)]⟩:XChoice),(⟨10,0,0,[(⟨(⟨false,0,60⟩:XCell),1⟩:XUse),(⟨(⟨false,0,61⟩:XCell),1⟩:XUse)]⟩:XChoice)].getD 1 default).changes,([]:List XUse)⟩:XChoice)).length:=(show [(⟨0,0,0,[(⟨(⟨false,0,61⟩:XCell),1⟩:XUse)]⟩:XChoice),(⟨10,0,0,[(⟨(⟨false,0,60⟩:XCell),1⟩:XUse),(⟨(⟨false,0,61⟩:XCell),1⟩:XUse)]⟩:XChoice)].length=([(⟨0,0,0,[(⟨(⟨false,0,61⟩:XCell),1⟩:XUse)]⟩:XChoice),(⟨10,0,0,[(⟨(⟨false,0,60⟩:XCell),1⟩:XUse),(⟨(⟨false,0,61⟩:XCell),1⟩:XUse)]⟩:XChoice)].set 1 (⟨([(⟨0,0,0,[(⟨(⟨false,0,61⟩:XCell),1⟩:XUse)]⟩:XChoice),(⟨10,0,0,[(⟨(⟨false,0,60⟩:XCell),1⟩:XUse),(⟨(⟨false,0,61⟩:XCell),1⟩:XUse)]⟩:XChoice)].getD 1 default).delay,([(⟨0,0,0,[(⟨(⟨false,0,61⟩:XCell),1⟩:XUse)]⟩:XChoice),(⟨10,0,0,[(⟨(⟨false,0,60⟩:XCell),1⟩:XUse),(⟨(⟨false,0,61⟩:XCell),1⟩:XUse)]⟩:XChoice)].getD 1 default).cost,([(⟨0,0,0,[(⟨(⟨false,0,61⟩:XCell),1⟩:XUse)]⟩:XChoice),(⟨10,0,0,[(⟨(⟨false,0,60⟩:XCell),1⟩:XUse),(⟨(⟨false,0,61⟩:XCell),1⟩:XUse)]⟩:XChoice)].getD 1 default).changes,([]:List XUse)⟩:XChoice)).length from by first |(simp;done) |(simp;omega))
 have hs166:St ⟨w,[],[]⟩ O w156 [(some b103,Oc [Iv v_1,Iv 0,Sl (some ⟨b79,0,none⟩) [0] 1,Sl (some ⟨b95,0,none⟩) ([(⟨0,0,0,[(⟨(⟨false,0,61⟩:XCell),1⟩:XUse)]⟩:XChoice),(⟨10,0,0,[(⟨(⟨false,0,60⟩:XCell),1⟩:XUse),(⟨(⟨false,0,61⟩:XCell),1⟩:XUse)]⟩:XChoice)].set 1 (⟨([(⟨0,0,0,[(⟨(⟨false,0,61⟩:XCell),1⟩:XUse)]⟩:XChoice),(⟨10,0,0,[(⟨(⟨false,0,60⟩:XCell),1⟩:XUse),(⟨(⟨false,0,61⟩:XCell),1⟩:XUse)]⟩:XChoice)].getD 1 default).delay,([(⟨0,0,0,[(⟨(⟨false,0,61⟩:XCell),1⟩:XUse)]⟩:XChoice),(⟨10,0,0,[(⟨(⟨false,0,60⟩:XCell),1⟩:XUse),(⟨(⟨false,0,61⟩:XCell),1⟩:XUse)]⟩:XChoice)].getD 1 default).cost,([(⟨0,0,0,[(⟨(⟨false,0,61⟩:XCell),1⟩:XUse)]⟩:XChoice),(⟨10,0,0,[(⟨(⟨false,0,60⟩:XCell),1⟩:XUse),(⟨(⟨false,0,61⟩:XCell),1⟩:XUse)]⟩:XChoice)].getD 1 default).changes,([]:List XUse)⟩:XChoice)) 2] 61),(some b95,o159),(some b79,Obj.cells [Iv 0].toArray 3),(k_g64,o_g64),(some b51,Oc [Sl (some ⟨b28,0,none⟩) [(⟨false,0,60⟩:XCell),(⟨false,0,61⟩:XCell)] 2,Sl (some ⟨b43,0,none⟩) [[1,1]] 1,Sl Aa v_2 Ca] 26),(some b43,Obj.cells [Sl (some ⟨b34,0,none⟩) [1,1] 2].toArray 31),(some b28,Obj.cells [Bo false,Iv 0,Iv 60,Bo false,Iv 0,Iv 61].toArray 67),(some b11,Oc [Bo false,Iv 0,Iv 61] 67),(some b6,Oc [Bo false,Iv 0,Iv 60] 67),(some b1,Oc [Value.slice none 0 0,Value.slice none 0 0,Value.slice none 0 0] 26)]:=by unfold Sl;rw [← q165];exact hs158
 have p167:=St.stepR hs166
 clear hs158
 replace ch151:=ch151.trans (p157.trans p167);replace f160:=f160.step p167
 exact hK115 _ _ ⟨[(⟨0,0,0,[(⟨(⟨false,0,61⟩:XCell),1⟩:XUse)]⟩:XChoice),(⟨10,0,0,[(⟨(⟨false,0,60⟩:XCell),1⟩:XUse),(⟨(⟨false,0,61⟩:XCell),1⟩:XUse)]⟩:XChoice)].set 1 (⟨([(⟨0,0,0,[(⟨(⟨false,0,61⟩:XCell),1⟩:XUse)]⟩:XChoice),(⟨10,0,0,[(⟨(⟨false,0,60⟩:XCell),1⟩:XUse),(⟨(⟨false,0,61⟩:XCell),1⟩:XUse)]⟩:XChoice)].getD 1 default).delay,([(⟨0,0,0,[(⟨(⟨false,0,61⟩:XCell),1⟩:XUse)]⟩:XChoice),(⟨10,0,0,[(⟨(⟨false,0,60⟩:XCell),1⟩:XUse),(⟨(⟨false,0,61⟩:XCell),1⟩:XUse)]⟩:XChoice)].getD 1 default).cost,([(⟨0,0,0,[(⟨(⟨false,0,61⟩:XCell),1⟩:XUse)]⟩:XChoice),(⟨10,0,0,[(⟨(⟨false,0,60⟩:XCell),1⟩:XUse),(⟨(⟨false,0,61⟩:XCell),1⟩:XUse)]⟩:XChoice)].getD 1 default).changes,([]:List XUse)⟩:XChoice),some ⟨b95,0,none⟩,2,some b95,o159,_,rfl,Frm.of trivial,ch151,hs166,f160,hm⟩
 refine Ws2 ?_
 have p168:=(p105.trans p109)
 replace f102:=f102.step p168
 exact hK115 _ _ ⟨[(⟨0,0,0,[(⟨(⟨false,0,61⟩:XCell),1⟩:XUse)]⟩:XChoice),(⟨10,0,0,[(⟨(⟨false,0,60⟩:XCell),1⟩:XUse),(⟨(⟨false,0,61⟩:XCell),1⟩:XUse)]⟩:XChoice)],some ⟨b95,0,none⟩,2,some b95,Obj.cells [Iv 0,Iv 0,Iv 0,Sl (some ⟨b22,0,none⟩) [(⟨(⟨false,0,61⟩:XCell),1⟩:XUse)] 1,Iv 10,Iv 0,Iv 0,Sl (some ⟨b85,0,none⟩) [(⟨(⟨false,0,60⟩:XCell),1⟩:XUse),(⟨(⟨false,0,61⟩:XCell),1⟩:XUse)] 2].toArray 58,_,rfl,Frm.of trivial,ch151,hs110,f102,hm⟩
 refine Wp_exit<|Wb ?_
 obtain⟨hs169,p170⟩:=hs73.sub (bs':=[(k_g64,o_g64),(some b51,Oc [Sl (some ⟨b28,0,none⟩) [(⟨false,0,60⟩:XCell),(⟨false,0,61⟩:XCell)] 2,Sl (some ⟨b43,0,none⟩) [[1,1]] 1,Sl Aa v_2 Ca] 26),(some b43,Obj.cells [Sl (some ⟨b34,0,none⟩) [1,1] 2].toArray 31),(some b28,Obj.cells [Bo false,Iv 0,Iv 60,Bo false,Iv 0,Iv 61].toArray 67),(some b1,Oc [Value.slice none 0 0,Value.slice none 0 0,Value.slice none 0 0] 26)]) (.cons_cons _ (.cons_cons _ (.cons_cons _ (.cons_cons _ (.cons _ (.cons _ (.cons_cons _ List.Sublist.slnil)))))))
 clear f59
 clear hs73
 refine Wa<|Rop<|op_ldA 1 ty26 hs169 rfl rfl rfl<|Rg_op_<|op_stA Put.p4 ty26 hs169 rfl rfl rfl rfl rfl ?_
 intro w171 p172 hs173
 clear hs169
 refine Ri2<|Wp_ret ?_
 have p177:=(p53.trans (p57.trans (p61.trans (hst74.trans (p170.trans p172)))))
 replace f49:=f49.step p177
 obtain⟨hs175,p176,f174⟩:=Gs.publish (i:=3) hs173 rfl f49
 clear hs173
 replace f50:=f50.step (p177.trans p176)
 obtain⟨hs179,p180,f178⟩:=Gs.publish (i:=2) hs175 rfl f50
 clear hs175
 have p184:=(p170.trans (p172.trans (p176.trans p180)))
 replace Fa:=Fa.step p184
 obtain⟨hs182,p183,f181⟩:=Gs.publish (i:=0) hs179 rfl Fa
 clear hs179
 have hz:=step_all hs182
 refine⟨_,Clo,[Value.agg [Sl (some ⟨b28,0,none⟩) [(⟨false,0,60⟩:XCell),(⟨false,0,61⟩:XCell)] 2,Sl (some ⟨b43,0,none⟩) [[1,1]] 1,Sl Aa v_2 Ca].toArray],⟨resA (cs:=[Sl (some ⟨b28,0,none⟩) [(⟨false,0,60⟩:XCell),(⟨false,0,61⟩:XCell)] 2,Sl (some ⟨b43,0,none⟩) [[1,1]] 1,Sl Aa v_2 Ca]) (vs:=[Sl (some ⟨b28,0,none⟩) [(⟨false,0,60⟩:XCell),(⟨false,0,61⟩:XCell)] 2,Sl (some ⟨b43,0,none⟩) [[1,1]] 1,Sl Aa v_2 Ca]) ty26 (i:=1) hs182 rfl rfl rfl rfl,trivial⟩,hs182.ext,?_⟩
 replace f174:=f174.step (p180.trans (p183.trans hz))
 replace f178:=f178.step (p183.trans hz);replace f181:=f181.step hz
 exact Vr.eq (a:=vA rXProblem) (x:=(⟨[(⟨false,0,60⟩:XCell),(⟨false,0,61⟩:XCell)],[[1,1]],v_2⟩:XProblem)) (mkA (mkVia (mk_pair (mk_sl f174) (mk_pair (mk_sl f178) (mk_sl f181))))) (oi hm)

abbrev q10_2:List Nat:=[63,64,65,66,67,68,69,70,71,72,73,74]

abbrev q10_1:List Nat:=[0,120,121,122,123,124,125,126,127,128,129,130,131,132,133,134,135,136,137,138,139,140,141,142,143,144,145,146,147,148,149,150,151,152,153,154,155,156,157,158,159,160,161,162,163,164,165,166,167,168,169,170,171,172,173,174,175,176,177,178]

abbrev q10_0:List Nat:=[87,88,89,90,91,92,93,94,95,96,97,98,99,100,101,102,103,104,105,106,107,108,109,110,111,112,113,114,115,116,117,118,119]

def m10_overflightlaw32_sane_B0 (two_1:XProblem) (smallest_1:XReason × Bool × Int) (proves_1:Bool × Int) (proves_2:Bool × Int) (proves_3:Bool × Int) (smallest_2:XReason × Bool × Int) (sf190:Int→(List XVariable)→Option Bool) (v_1:Int) (v_2:List XVariable):Option Bool:=
 bif (decide (v_1<17)) then
  ck ((v_2.length+[(⟨0,0,[0],[(⟨0,0,0,([]:List XUse)⟩:XChoice)]⟩:XVariable)].length)*64≤140737488355328)<|
  sf190 (IntKind.wrap .i64 (v_1+1)) (v_2++[(⟨0,0,[0],[(⟨0,0,0,([]:List XUse)⟩:XChoice)]⟩:XVariable)])
 else
  (m13_reason_Smallest (⟨([]:List XCell),[([]:List Int)],v_2⟩:XProblem)).bind fun smallest_3=>
  (m20_reason_Part two_1 (⟨[1,2],[(⟨0,1⟩:XPlace)]⟩:XReason)).bind fun part_1=>
  jn (fun(v_3:Bool)=>
   bif v_3 then
    some false
   else
    jn (fun(v_4:Bool)=>
     some v_4)
    (fun k313=>
     bif smallest_1.2.1 then
      (m27_overflightref32_Same smallest_1.1 (⟨[1,2],[(⟨0,1⟩:XPlace)]⟩:XReason)).bind fun same_1=>
      bif same_1 then
       bif proves_1.1 then
        bif (!proves_2.1) then
         bif (!proves_3.1) then
          bif (!smallest_2.2.1) then
           bif (decide ((part_1.1.variables.length:Int)=2)) then
            bif (decide ((part_1.1.capacity.length:Int)=1)) then
             ck ((0:Int)≤0∧0<(part_1.1.capacity.length:Int))<|
             bif (decide (((part_1.1.capacity.getD 0 default).length:Int)=2)) then
              ck ((0:Int)≤0∧0<(part_1.1.capacity.length:Int))<|
              ck ((0:Int)≤0∧0<((part_1.1.capacity.getD 0 default).length:Int))<|
              bif (decide (((part_1.1.capacity.getD 0 default).getD 0 default)=4096)) then
               ck ((0:Int)≤0∧0<(part_1.1.capacity.length:Int))<|
               ck ((0:Int)≤1∧1<((part_1.1.capacity.getD 0 default).length:Int))<|
               k313 (decide (((part_1.1.capacity.getD 0 default).getD 1 default)=1))
              else
               k313 false
             else
              k313 false
            else
             k313 false
           else
            k313 false
          else
           k313 false
         else
          k313 false
        else
         k313 false
       else
        k313 false
      else
       k313 false
     else
      k313 false))
  (fun k300=>
   bif (decide (smallest_1.2.2≠0)) then
    k300 true
   else
    bif (decide (proves_1.2≠0)) then
     k300 true
    else
     bif (decide (proves_2.2≠0)) then
      k300 true
     else
      bif (decide (proves_3.2≠0)) then
       k300 true
      else
       bif (decide (smallest_2.2.2≠0)) then
        k300 true
       else
        bif (decide (smallest_3.2.2≠2)) then
         k300 true
        else
         bif (decide (part_1.2≠0)) then
          k300 true
         else
          (m23_reason_Check two_1 (⟨[0,0],([]:List XPlace)⟩:XReason)).bind fun check_1=>
          k300 (decide (check_1≠320)))

def m10_overflightlaw32_sane:Option Bool:=
 m29_overflightlaw32_two.bind fun two_1=>
 (m13_reason_Smallest two_1).bind fun smallest_1=>
 (m17_reason_Proves two_1 (⟨[1,2],[(⟨0,1⟩:XPlace)]⟩:XReason)).bind fun proves_1=>
 (m17_reason_Proves two_1 (⟨[0,1],[(⟨0,1⟩:XPlace)]⟩:XReason)).bind fun proves_2=>
 (m17_reason_Proves two_1 (⟨[1,2],([]:List XPlace)⟩:XReason)).bind fun proves_3=>
 (m13_reason_Smallest (⟨([]:List XCell),[([]:List Int)],([]:List XVariable)⟩:XProblem)).bind fun smallest_2=>
 loop2 (m10_overflightlaw32_sane_B0 two_1 smallest_1 proves_1 proves_2 proves_3 smallest_2) (((17:Int) - 0).toNat+1) 0 ([]:List XVariable)

theorem c10_overflightlaw32_sane {w:World} {O:List Nat} (hO:∀k∈O,k<w.heap.size) {x:Bool} (hm:m10_overflightlaw32_sane=some x):
 Ok Try.prog 10 [] w O vB x:=by
 unfold m10_overflightlaw32_sane at hm
 refine Fn_of_Wp (n:=179) (xs:=[.tmp 0]) Try.func10 rfl Try.ntmps10 Try.results10 rfl ?_
 have hs:=St.start hO
 refine Wb<|Wa<|Asg (Bo false) rfl<|Ri2<|Wb<|Wa ?_
 obtain⟨two_1,hv1,hm⟩:=bd hm
 refine Rop<|op_callE hs Try.call29 (c29_overflightlaw32_two hs.ltw hv1) rfl ?_
 rintro v2 w3 p7 hs6 h5
 obtain⟨_,rfl,⟨_,_,rfl,⟨Aa,Ca,rfl,Fa⟩,⟨_,_,rfl,⟨Ab,Cb,rfl,Fb⟩,⟨Ac,Cc,rfl,Fc⟩⟩⟩⟩:=h5
 refine Rop<|op_alloc ty26 hs6 ?_
 intro b9 w10 _ p11 hs12
 clear hs6
 refine Rg_op_<|op_stA .z ty26 hs12 rfl rfl rfl rfl rfl ?_
 intro w14 p15 hs16
 clear hs12
 refine Ri2<|Wb<|Wa<|Rop<|op_ldA 0 ty26 hs16 rfl rfl rfl ?_
 obtain⟨smallest_1,hv17,hm⟩:=bd hm
 have p23:=(p11.trans p15)
 replace Fb:=Fb.step p23;replace Fa:=Fa.step p23;replace Fc:=Fc.step p23
 refine Rop<|op_callE hs16 Try.call13 (c13_reason_Smallest (p:=two_1) hs16.ltw Fa Fb Fc hv17) rfl ?_
 rintro v18 w19 p24 hs22 h21
 clear hs16
 obtain⟨v25,v26,v27,rfl,h28,h29,h30⟩:=h21
 obtain⟨_,rfl,⟨_,_,rfl,⟨Ad,Cd,rfl,Fd⟩,⟨Ae,Ce,rfl,Fe⟩⟩⟩:=h28
 obtain rfl:=h29
 obtain⟨rfl,Ra⟩:=h30
 refine Mve (Value.tuple [Value.agg [Sl Ad smallest_1.1.variables Cd,Sl Ae smallest_1.1.places Ce].toArray,Bo smallest_1.2.1,Iv smallest_1.2.2].toArray) rfl<|Rop<|op_extract (v:=Value.agg [Sl Ad smallest_1.1.variables Cd,Sl Ae smallest_1.1.places Ce].toArray) rfl rfl<|Rop<|op_extract (v:=Bo smallest_1.2.1) rfl rfl<|Rop<|op_extract (v:=Iv smallest_1.2.2) rfl rfl<|Rop<|op_alloc ty34 hs22 ?_
 intro b34 w35 _ p36 hs37
 clear hs22
 refine Rg_op_<|op_stA .z ty34 hs37 rfl rfl rfl rfl rfl ?_
 intro w39 p40 hs41
 clear hs37
 refine Asg (Bo smallest_1.2.1) rfl<|Asg (Iv smallest_1.2.2) rfl<|Ri2<|Wb<|Wa<|Rop<|op_buildSlice (cs:=[Iv 1,Iv 2]) (parts:=[(0,.const (.int .i64 1)),(1,.const (.int .i64 2))]) ty31 ty3 hs41 (by decide) rfl ?_
 intro b42 w43 hx46 p44 hs45
 clear hs41
 refine Rop<|op_build (vs:=[Iv 0,Iv 1]) (parts:=[(1,.const (.int .i64 1))]) ty45 pl45 rfl<|Rop<|op_buildSlice (cs:=[Iv 0,Iv 1]) (parts:=[(0,.tmp 29)]) ty32 ty45 hs45 (by decide) rfl ?_
 intro b48 w49 hx52 p50 hs51
 clear hs45
 have f54:=Gs.of_cells (p:=(rInt .i64)) (e:=3) (bl:=b42) (c:=2) (w:=w49) (O:=ks [(some b48,Oc [Iv 0,Iv 1] 45),(some b42,Oc [Iv 1,Iv 2] 3),(some b34,Oc [Sl Ad smallest_1.1.variables Cd,Sl Ae smallest_1.1.places Ce] 34),(some b9,Oc [Sl Aa two_1.cells Ca,Sl Ab two_1.capacity Cb,Sl Ac two_1.variables Cc] 26)] O) (show Els (rInt .i64) _ _ [Iv 1,Iv 2] [1,2] from⟨_,_,rfl,mk_int (show InK .i64 1 from by decide),⟨_,_,rfl,mk_int (show InK .i64 2 from by decide),Els.nil⟩⟩) rfl (le_lit rfl)
 have f55:=Gs.of_cells (p:=rXPlace) (e:=45) (bl:=b48) (c:=1) (w:=w49) (O:=ks [(some b48,Oc [Iv 0,Iv 1] 45),(some b42,Obj.cells [Iv 1,Iv 2].toArray 3),(some b34,Oc [Sl Ad smallest_1.1.variables Cd,Sl Ae smallest_1.1.places Ce] 34),(some b9,Oc [Sl Aa two_1.cells Ca,Sl Ab two_1.capacity Cb,Sl Ac two_1.variables Cc] 26)] O) (show Els rXPlace _ _ [Iv 0,Iv 1] [(⟨0,1⟩:XPlace)] from⟨_,_,rfl,mkVia (mk_pair (mk_int (show InK .i64 0 from by decide)) (mk_int (show InK .i64 1 from by decide))),Els.nil⟩) rfl (le_lit rfl)
 refine Rop<|op_build (vs:=[Sl (some ⟨b42,0,none⟩) [1,2] 2,Sl (some ⟨b48,0,none⟩) [(⟨0,1⟩:XPlace)] 1]) (parts:=[(0,.tmp 28),(1,.tmp 30)]) ty34 pl34 rfl<|Rop<|op_alloc ty34 hs51 ?_
 intro b56 w57 _ p58 hs59
 clear hs51
 refine Rg_op_<|op_stA .z ty34 hs59 rfl rfl rfl rfl rfl ?_
 intro w61 p62 hs63
 clear hs59
 refine Ri2<|Wb<|Wa<|Rop<|op_ldA 4 ty26 hs63 rfl rfl rfl<|Rop<|op_ldA 0 ty34 hs63 rfl rfl rfl ?_
 have p67:=(p58.trans p62)
 replace f54:=f54.step p67
 obtain⟨hs65,p66,f64⟩:=Gs.publish (i:=2) hs63 rfl f54
 clear hs63
 replace f55:=f55.step (p67.trans p66)
 obtain⟨hs69,p70,f68⟩:=Gs.publish (i:=1) hs65 rfl f55
 clear hs65
 obtain⟨proves_1,hv71,hm⟩:=bd hm
 replace f64:=f64.step p70
 have p77:=(p24.trans (p36.trans (p40.trans (p44.trans (p50.trans (p58.trans (p62.trans (p66.trans p70))))))))
 replace Fb:=Fb.step p77;replace Fa:=Fa.step p77;replace Fc:=Fc.step p77
 refine Rop<|op_callE hs69 Try.call17 (c17_reason_Proves (p:=two_1) (r_:=(⟨[1,2],[(⟨0,1⟩:XPlace)]⟩:XReason)) hs69.ltw Fa Fb Fc f64 f68 hv71) rfl ?_
 rintro v72 w73 p78 hs76 h75
 clear hs69
 obtain⟨v79,v80,rfl,h81,h82⟩:=h75
 obtain rfl:=h81
 obtain⟨rfl,Rb⟩:=h82
 refine Mve (Value.tuple [Bo proves_1.1,Iv proves_1.2].toArray) rfl<|Rop<|op_extract (v:=Bo proves_1.1) rfl rfl<|Rop<|op_extract (v:=Iv proves_1.2) rfl rfl<|Asg (Bo proves_1.1) rfl<|Asg (Iv proves_1.2) rfl<|Ri2<|Wb<|Wr [] [(1,Pt b9 0),(2,Pt b34 0),(3,Bo smallest_1.2.1),(4,Iv smallest_1.2.2),(5,Pt b56 0),(6,Bo proves_1.1),(7,Iv proves_1.2)] fun ξ85=>Wa<|Rop<|op_ldA 2 ty26 hs76 rfl rfl rfl<|Rop<|op_buildSlice (cs:=[Iv 0,Iv 1]) (parts:=[(0,.const (.int .i64 0)),(1,.const (.int .i64 1))]) ty31 ty3 hs76 (by decide) rfl ?_
 intro b86 w87 hx90 p88 hs89
 clear hs76
 refine Rop<|op2 1 ty34 rfl ty32 rfl rfl<|Rop<|oq2 1 ty32 hs89 rfl rfl rfl ?_
 have f92:=Gs.of_cells (p:=(rInt .i64)) (e:=3) (bl:=b86) (c:=2) (w:=w87) (O:=ks [(some b86,Oc [Iv 0,Iv 1] 3),(some b56,Oc [Sl (some ⟨b42,0,none⟩) [1,2] 2,Sl (some ⟨b48,0,none⟩) [(⟨0,1⟩:XPlace)] 1] 34),(some b34,Oc [Sl Ad smallest_1.1.variables Cd,Sl Ae smallest_1.1.places Ce] 34),(some b9,Oc [Sl Aa two_1.cells Ca,Sl Ab two_1.capacity Cb,Sl Ac two_1.variables Cc] 26)] O) (show Els (rInt .i64) _ _ [Iv 0,Iv 1] [0,1] from⟨_,_,rfl,mk_int (show InK .i64 0 from by decide),⟨_,_,rfl,mk_int (show InK .i64 1 from by decide),Els.nil⟩⟩) rfl (le_lit rfl)
 refine Rop<|op_build (vs:=[Sl (some ⟨b86,0,none⟩) [0,1] 2,Sl (some ⟨b48,0,none⟩) [(⟨0,1⟩:XPlace)] 1]) (parts:=[(0,.tmp 40),(1,.tmp 42)]) ty34 pl34 rfl ?_
 obtain⟨hs94,p95,f93⟩:=Gs.publish (i:=0) hs89 rfl f92
 clear hs89
 obtain⟨proves_2,hv96,hm⟩:=bd hm
 have p102:=(p78.trans (p88.trans p95))
 replace f68:=f68.step p102;replace Fb:=Fb.step p102;replace Fa:=Fa.step p102;replace Fc:=Fc.step p102
 refine Rop<|op_callE hs94 Try.call17 (c17_reason_Proves (p:=two_1) (r_:=(⟨[0,1],[(⟨0,1⟩:XPlace)]⟩:XReason)) hs94.ltw Fa Fb Fc f93 f68 hv96) rfl ?_
 rintro v97 w98 p103 hs101 h100
 clear hs94
 obtain⟨v104,v105,rfl,h106,h107⟩:=h100
 obtain rfl:=h106
 obtain⟨rfl,Rc⟩:=h107
 refine Mve (Value.tuple [Bo proves_2.1,Iv proves_2.2].toArray) rfl<|Rop<|op_extract (v:=Bo proves_2.1) rfl rfl<|Rop<|op_extract (v:=Iv proves_2.2) rfl rfl<|Asg (Bo proves_2.1) rfl<|Asg (Iv proves_2.2) rfl<|Ri2<|Wb ?_
 clear f93
 refine Wa<|Rop<|op_ldA 2 ty26 hs101 rfl rfl rfl<|Rop<|op_buildSlice (cs:=[Iv 1,Iv 2]) (parts:=[(0,.const (.int .i64 1)),(1,.const (.int .i64 2))]) ty31 ty3 hs101 (by decide) rfl ?_
 intro b110 w111 hx114 p112 hs113
 clear hs101
 have f116:=Gs.of_cells (p:=(rInt .i64)) (e:=3) (bl:=b110) (c:=2) (w:=w111) (O:=ks [(some b110,Oc [Iv 1,Iv 2] 3),(some b56,Oc [Sl (some ⟨b42,0,none⟩) [1,2] 2,Sl (some ⟨b48,0,none⟩) [(⟨0,1⟩:XPlace)] 1] 34),(some b34,Oc [Sl Ad smallest_1.1.variables Cd,Sl Ae smallest_1.1.places Ce] 34),(some b9,Oc [Sl Aa two_1.cells Ca,Sl Ab two_1.capacity Cb,Sl Ac two_1.variables Cc] 26)] O) (show Els (rInt .i64) _ _ [Iv 1,Iv 2] [1,2] from⟨_,_,rfl,mk_int (show InK .i64 1 from by decide),⟨_,_,rfl,mk_int (show InK .i64 2 from by decide),Els.nil⟩⟩) rfl (le_lit rfl)
 refine Rop<|op_build (vs:=[Sl (some ⟨b110,0,none⟩) [1,2] 2,Value.slice none 0 0]) (parts:=[(0,.tmp 49)]) ty34 pl34 rfl ?_
 obtain⟨hs118,p119,f117⟩:=Gs.publish (i:=0) hs113 rfl f116
 clear hs113
 obtain⟨proves_3,hv120,hm⟩:=bd hm
 have p126:=(p103.trans (p112.trans p119))
 replace Fb:=Fb.step p126;replace Fa:=Fa.step p126;replace Fc:=Fc.step p126
 refine Rop<|op_callE hs118 Try.call17 (c17_reason_Proves (p:=two_1) (r_:=(⟨[1,2],([]:List XPlace)⟩:XReason)) hs118.ltw Fa Fb Fc f117 SlR.nil_ hv120) rfl ?_
 rintro v121 w122 p127 hs125 h124
 clear hs118
 obtain⟨v128,v129,rfl,h130,h131⟩:=h124
 obtain rfl:=h130
 obtain⟨rfl,Rd⟩:=h131
 refine Mve (Value.tuple [Bo proves_3.1,Iv proves_3.2].toArray) rfl<|Rop<|op_extract (v:=Bo proves_3.1) rfl rfl<|Rop<|op_extract (v:=Iv proves_3.2) rfl rfl<|Asg (Bo proves_3.1) rfl<|Asg (Iv proves_3.2) rfl<|Ri2<|Wb ?_
 clear f117
 refine Wa<|Rop<|op_buildSlice (cs:=[Value.slice none 0 0]) (parts:=[(0,.const (.slice none 0 0))]) ty23 ty31 hs125 (by decide) rfl ?_
 intro b134 w135 hx138 p136 hs137
 clear hs125
 have f140:=Gs.of_cells (p:=rSl (rInt .i64)) (e:=31) (bl:=b134) (c:=1) (w:=w135) (O:=ks [(some b134,Oc [Value.slice none 0 0] 31),(some b56,Oc [Sl (some ⟨b42,0,none⟩) [1,2] 2,Sl (some ⟨b48,0,none⟩) [(⟨0,1⟩:XPlace)] 1] 34),(some b34,Oc [Sl Ad smallest_1.1.variables Cd,Sl Ae smallest_1.1.places Ce] 34),(some b9,Oc [Sl Aa two_1.cells Ca,Sl Ab two_1.capacity Cb,Sl Ac two_1.variables Cc] 26)] O) (show Els (rSl (rInt .i64)) _ _ [Value.slice none 0 0] [([]:List Int)] from⟨_,_,rfl,mk_sl SlR.nil_,Els.nil⟩) rfl (le_lit rfl)
 refine Rop<|op_build (vs:=[Value.slice none 0 0,Sl (some ⟨b134,0,none⟩) [([]:List Int)] 1,Value.slice none 0 0]) (parts:=[(1,.tmp 55)]) ty26 pl26 rfl ?_
 obtain⟨hs142,p143,f141⟩:=Gs.publish (i:=0) hs137 rfl f140
 clear hs137
 obtain⟨smallest_2,hv144,hm⟩:=bd hm
 refine Rop<|op_callE hs142 Try.call13 (c13_reason_Smallest (p:=(⟨([]:List XCell),[([]:List Int)],([]:List XVariable)⟩:XProblem)) hs142.ltw SlR.nil_ f141 SlR.nil_ hv144) rfl ?_
 rintro v145 w146 p150 hs149 h148
 clear hs142
 obtain⟨v151,v152,v153,rfl,h154,h155,h156⟩:=h148
 obtain⟨_,rfl,⟨_,_,rfl,⟨Af,Cf,rfl,Ff⟩,⟨Ag,Cg,rfl,Fg⟩⟩⟩:=h154
 obtain rfl:=h155
 obtain⟨rfl,Re⟩:=h156
 refine Mve (Value.tuple [Value.agg [Sl Af smallest_2.1.variables Cf,Sl Ag smallest_2.1.places Cg].toArray,Bo smallest_2.2.1,Iv smallest_2.2.2].toArray) rfl<|Rop<|op_extract (v:=Value.agg [Sl Af smallest_2.1.variables Cf,Sl Ag smallest_2.1.places Cg].toArray) rfl rfl<|Rop<|op_extract (v:=Bo smallest_2.2.1) rfl rfl<|Rop<|op_extract (v:=Iv smallest_2.2.2) rfl rfl<|Rop<|op_alloc ty34 hs149 ?_
 intro b160 w161 _ p162 hs163
 clear hs149
 refine Rg_op_<|op_stA .z ty34 hs163 rfl rfl rfl rfl rfl ?_
 intro w165 p166 hs167
 clear hs163
 refine Asg (Bo smallest_2.2.1) rfl<|Asg (Iv smallest_2.2.2) rfl<|Ri2<|Wb ?_
 obtain⟨hs168,p169⟩:=hs167.sub (bs':=[(some b56,Oc [Sl (some ⟨b42,0,none⟩) [1,2] 2,Sl (some ⟨b48,0,none⟩) [(⟨0,1⟩:XPlace)] 1] 34),(some b34,Oc [Sl Ad smallest_1.1.variables Cd,Sl Ae smallest_1.1.places Ce] 34),(some b9,Oc [Sl Aa two_1.cells Ca,Sl Ab two_1.capacity Cb,Sl Ac two_1.variables Cc] 26)]) (.cons _ (.cons_cons _ (.cons_cons _ (.cons_cons _ List.Sublist.slnil))))
 clear f141 Ff Fg
 clear hs167
 refine Wr [] [(1,Pt b9 0),(2,Pt b34 0),(3,Bo smallest_1.2.1),(4,Iv smallest_1.2.2),(5,Pt b56 0),(6,Bo proves_1.1),(7,Iv proves_1.2),(8,Bo proves_2.1),(9,Iv proves_2.2),(10,Bo proves_3.1),(11,Iv proves_3.2),(13,Bo smallest_2.2.1),(14,Iv smallest_2.2.2)] fun ξ170=>Wa<|Rop<|op_buildSlice (cs:=[Value.slice none 0 0]) (parts:=[(0,.const (.slice none 0 0))]) ty23 ty31 hs168 (by decide) rfl ?_
 intro b171 w172 hx175 p173 hs174
 clear hs168
 have f177:=Gs.of_cells (p:=rSl (rInt .i64)) (e:=31) (bl:=b171) (c:=1) (w:=w172) (O:=ks [(some b171,Oc [Value.slice none 0 0] 31),(some b56,Oc [Sl (some ⟨b42,0,none⟩) [1,2] 2,Sl (some ⟨b48,0,none⟩) [(⟨0,1⟩:XPlace)] 1] 34),(some b34,Oc [Sl Ad smallest_1.1.variables Cd,Sl Ae smallest_1.1.places Ce] 34),(some b9,Oc [Sl Aa two_1.cells Ca,Sl Ab two_1.capacity Cb,Sl Ac two_1.variables Cc] 26)] O) (show Els (rSl (rInt .i64)) _ _ [Value.slice none 0 0] [([]:List Int)] from⟨_,_,rfl,mk_sl SlR.nil_,Els.nil⟩) rfl (le_lit rfl)
 refine Rop<|op_build (vs:=[Value.slice none 0 0,Sl (some ⟨b171,0,none⟩) [([]:List Int)] 1,Value.slice none 0 0]) (parts:=[(1,.tmp 61)]) ty26 pl26 rfl<|Rop<|op_alloc ty26 hs174 ?_
 intro b178 w179 _ p180 hs181
 clear hs174
 refine Rg_op_<|op_stA .z ty26 hs181 rfl rfl rfl rfl rfl ?_
 intro w183 p184 hs185
 clear hs181
 refine Ri2<|Wb<|Wb<|Wa<|Mve (Iv 0) rfl<|Ri2<|Wn2<|Wr [] [(1,Pt b9 0),(2,Pt b34 0),(3,Bo smallest_1.2.1),(4,Iv smallest_1.2.2),(5,Pt b56 0),(6,Bo proves_1.1),(7,Iv proves_1.2),(8,Bo proves_2.1),(9,Iv proves_2.2),(10,Bo proves_3.1),(11,Iv proves_3.2),(13,Bo smallest_2.2.1),(14,Iv smallest_2.2.2),(15,Pt b178 0),(63,Iv 0)] fun ξ189=>?_
 have hs194:=hs185.ghost (Obj.cells #[] 61)
 refine Wp_loopM q10_2 (fun m fr w'=>∃(v_1:Int) (v_2:List XVariable) (Ah:Option Addr) (Ch:Nat) (k_g188:Option Nat) (o_g188:Obj) (Ebs:Ents),Ebs=[(k_g188,o_g188),(some b178,Oc [Value.slice none 0 0,Sl (some ⟨b171,0,none⟩) [([]:List Int)] 1,Sl Ah v_2 Ch] 26),(some b171,Obj.cells [Value.slice none 0 0].toArray 31),(some b56,Oc [Sl (some ⟨b42,0,none⟩) [1,2] 2,Sl (some ⟨b48,0,none⟩) [(⟨0,1⟩:XPlace)] 1] 34),(some b34,Oc [Sl Ad smallest_1.1.variables Cd,Sl Ae smallest_1.1.places Ce] 34),(some b9,Oc [Sl Aa two_1.cells Ca,Sl Ab two_1.capacity Cb,Sl Ac two_1.variables Cc] 26)]∧fr [] [(63,Iv v_1)]∧hs194.S (ks Ebs O) w'∧St ⟨w,[],[]⟩ O w' Ebs∧InK .i64 v_1∧Gs rXVariable 61 w' (ks Ebs O) Ah Ch v_2 k_g188 o_g188∧loop2 (m10_overflightlaw32_sane_B0 two_1 smallest_1 proves_1 proves_2 proves_3 smallest_2) m v_1 v_2=some x) (((17:Int) - 0).toNat+1) ⟨0,([]:List XVariable),none,0,none,Obj.cells #[] 61,_,rfl,Frm.of ⟨rfl,trivial⟩,Step.refl _ _,hs194,(show InK .i64 0 from by decide),Gs.nil_,hm⟩ ?_ ?_
 rintro _ _ ⟨_,_,_,_,_,_,_,_,_,_,_,_,_,hm⟩;exact loop2_z hm
 rintro m193 K192 hK192 ρ200 w196 ⟨v_1,v_2,Ah,Ch,k_g188,o_g188,_,rfl,hfr199,hst198,hs197,Rf,Fh,hm⟩
 obtain⟨sf190,hsf191,hm⟩:=loop2_s hm;unfold m10_overflightlaw32_sane_B0 at hm
 rw [hfr199.eq];clear hfr199
 have ch201:=hst198
 refine Wb<|Wa<|Rop<|op_lss rfl rfl<|Ri2<|Wb<|Wo2 hm rfl (fun hc202 hm=>?_) (fun hc202 hm=>?_)
 refine Ws2<|Wb<|Wn2<|Wa<|Rop<|op2 2 ty26 rfl ty24 rfl rfl<|Rop<|oq2 1 ty24 hs197 rfl rfl rfl<|Rop<|op_buildSlice (cs:=[Iv 0]) (parts:=[(0,.const (.int .i64 0))]) ty31 ty3 hs197 (by decide) rfl ?_
 intro b203 w204 hx207 p205 hs206
 clear hs197
 refine Rop<|op_build (vs:=[Iv 0,Iv 0,Iv 0,Value.slice none 0 0]) (parts:=[]) ty58 pl58 rfl<|Rop<|op_buildSlice (cs:=[Iv 0,Iv 0,Iv 0,Value.slice none 0 0]) (parts:=[(0,.tmp 68)]) ty59 ty58 hs206 (by decide) rfl ?_
 intro b209 w210 hx213 p211 hs212
 clear hs206
 have f215:=Gs.of_cells (p:=(rInt .i64)) (e:=3) (bl:=b203) (c:=1) (w:=w210) (O:=ks [(some b209,Oc [Iv 0,Iv 0,Iv 0,Value.slice none 0 0] 58),(some b203,Oc [Iv 0] 3),(k_g188,o_g188),(some b178,Oc [Value.slice none 0 0,Sl (some ⟨b171,0,none⟩) [([]:List Int)] 1,Sl Ah v_2 Ch] 26),(some b171,Obj.cells [Value.slice none 0 0].toArray 31),(some b56,Oc [Sl (some ⟨b42,0,none⟩) [1,2] 2,Sl (some ⟨b48,0,none⟩) [(⟨0,1⟩:XPlace)] 1] 34),(some b34,Oc [Sl Ad smallest_1.1.variables Cd,Sl Ae smallest_1.1.places Ce] 34),(some b9,Oc [Sl Aa two_1.cells Ca,Sl Ab two_1.capacity Cb,Sl Ac two_1.variables Cc] 26)] O) (show Els (rInt .i64) _ _ [Iv 0] [0] from⟨_,_,rfl,mk_int (show InK .i64 0 from by decide),Els.nil⟩) rfl (le_lit rfl)
 have f216:=Gs.of_cells (p:=rXChoice) (e:=58) (bl:=b209) (c:=1) (w:=w210) (O:=ks [(some b209,Oc [Iv 0,Iv 0,Iv 0,Value.slice none 0 0] 58),(some b203,Obj.cells [Iv 0].toArray 3),(k_g188,o_g188),(some b178,Oc [Value.slice none 0 0,Sl (some ⟨b171,0,none⟩) [([]:List Int)] 1,Sl Ah v_2 Ch] 26),(some b171,Obj.cells [Value.slice none 0 0].toArray 31),(some b56,Oc [Sl (some ⟨b42,0,none⟩) [1,2] 2,Sl (some ⟨b48,0,none⟩) [(⟨0,1⟩:XPlace)] 1] 34),(some b34,Oc [Sl Ad smallest_1.1.variables Cd,Sl Ae smallest_1.1.places Ce] 34),(some b9,Oc [Sl Aa two_1.cells Ca,Sl Ab two_1.capacity Cb,Sl Ac two_1.variables Cc] 26)] O) (show Els rXChoice _ _ [Iv 0,Iv 0,Iv 0,Value.slice none 0 0] [(⟨0,0,0,([]:List XUse)⟩:XChoice)] from⟨_,_,rfl,mkVia (mk_pair (mk_int (show InK .i64 0 from by decide)) (mk_pair (mk_int (show InK .i64 0 from by decide)) (mk_pair (mk_int (show InK .i64 0 from by decide)) (mk_sl SlR.nil_)))),Els.nil⟩) rfl (le_lit rfl)
 refine Rop<|op_build (vs:=[Iv 0,Iv 0,Sl (some ⟨b203,0,none⟩) [0] 1,Sl (some ⟨b209,0,none⟩) [(⟨0,0,0,([]:List XUse)⟩:XChoice)] 1]) (parts:=[(2,.tmp 67),(3,.tmp 69)]) ty61 pl61 rfl ?_
 obtain⟨hs218,p219,f217⟩:=Gs.publish (i:=1) hs212 rfl f215
 clear hs212
 replace f216:=f216.step p219
 obtain⟨hs221,p222,f220⟩:=Gs.publish (i:=0) hs218 rfl f216
 clear hs218
 refine Rop<|op_buildSlice (cs:=[Iv 0,Iv 0,Sl (some ⟨b203,0,none⟩) [0] 1,Sl (some ⟨b209,0,none⟩) [(⟨0,0,0,([]:List XUse)⟩:XChoice)] 1]) (parts:=[(0,.tmp 70)]) ty24 ty61 hs221 (by decide) rfl ?_
 intro b223 w224 hx227 p225 hs226
 clear hs221
 obtain⟨hc229,hm⟩:=ck_some hm
 replace f217:=f217.step (p222.trans p225);replace f220:=f220.step p225
 have p238:=(p205.trans (p211.trans (p219.trans (p222.trans p225))))
 replace Fh:=Fh.step p238
 refine Rop (op_append (q:=rXVariable) (i:=1) (xs:=v_2) (ys:=[(⟨0,0,[0],[(⟨0,0,0,([]:List XUse)⟩:XChoice)]⟩:XVariable)]) (news:=[Iv 0,Iv 0,Sl (some ⟨b203,0,none⟩) [0] 1,Sl (some ⟨b209,0,none⟩) [(⟨0,0,0,([]:List XUse)⟩:XChoice)] 1]) ty24 ty61 rfl (by decide) hs226 rfl rfl Fh rfl (Src.owned' (len:=4) (hs226.get (i:=0) rfl) rfl) (show Els rXVariable _ _ [Iv 0,Iv 0,Sl (some ⟨b203,0,none⟩) [0] 1,Sl (some ⟨b209,0,none⟩) [(⟨0,0,0,([]:List XUse)⟩:XChoice)] 1] [(⟨0,0,[0],[(⟨0,0,0,([]:List XUse)⟩:XChoice)]⟩:XVariable)] from⟨_,_,rfl,mkVia (mk_pair (mk_int (show InK .i64 0 from by decide)) (mk_pair (mk_int (show InK .i64 0 from by decide)) (mk_pair (mk_sl f217) (mk_sl f220)))),Els.nil⟩) hc229 (by have:=hc229;simp only [maxLen];omega) ?_)
 intro a233 c234 k235 o236 w230 p231 hs232 f237
 clear hs226
 have hs239:=hs232.drop 0
 have p240:=(hs232.dropS 0)
 clear hs232
 refine Rop<|op2 2 ty26 rfl ty24 rfl rfl<|Rg_op_<|op_stC (Sl a233 (v_2++[(⟨0,0,[0],[(⟨0,0,0,([]:List XUse)⟩:XChoice)]⟩:XVariable)]) c234) (cs':=[Value.slice none 0 0,Sl (some ⟨b171,0,none⟩) [([]:List Int)] 1,Sl a233 (v_2++[(⟨0,0,[0],[(⟨0,0,0,([]:List XUse)⟩:XChoice)]⟩:XVariable)]) c234]) Put.p1 ty24 hs239 rfl rfl rfl (le_lit rfl) rfl rfl ?_
 intro w241 p242 hs243
 clear hs239
 refine Ri2 ?_
 clear f217 f220
 refine Wa<|Rop<|op_addw rfl rfl<|Mve (Iv (IntKind.wrap .i64 (v_1+1))) rfl<|Ri2 ?_
 replace ch201:=ch201.trans (p238.trans (p231.trans (p240.trans p242)))
 replace f237:=f237.step (p240.trans p242)
 exact hK192 _ _ ⟨(IntKind.wrap .i64 (v_1+1)),v_2++[(⟨0,0,[0],[(⟨0,0,0,([]:List XUse)⟩:XChoice)]⟩:XVariable)],a233,c234,k235,o236,_,rfl,Frm.of ⟨rfl,trivial⟩,ch201,hs243,(inK_wrap .i64 _),f237,jnE2 hsf191 hm⟩
 refine Wp_exit<|Wb<|Wa<|Rop<|op_ldA 1 ty26 hs197 rfl rfl rfl ?_
 replace f177:=f177.step (p180.trans (p184.trans hst198))
 obtain⟨hs245,p246,f244⟩:=Gs.publish (i:=2) hs197 rfl f177
 clear hs197
 replace Fh:=Fh.step p246
 obtain⟨hs248,p249,f247⟩:=Gs.publish (i:=0) hs245 rfl Fh
 clear hs245
 obtain⟨smallest_3,hv250,hm⟩:=bd hm
 replace f244:=f244.step p249
 refine Rop<|op_callE hs248 Try.call13 (c13_reason_Smallest (p:=(⟨([]:List XCell),[([]:List Int)],v_2⟩:XProblem)) hs248.ltw SlR.nil_ f244 f247 hv250) rfl ?_
 rintro v251 w252 p256 hs255 h254
 clear hs248
 obtain⟨v257,v258,v259,rfl,h260,h261,h262⟩:=h254
 obtain⟨_,rfl,⟨_,_,rfl,⟨Ai,Ci,rfl,Fi⟩,⟨Aj,Cj,rfl,Fj⟩⟩⟩:=h260
 obtain rfl:=h261
 obtain⟨rfl,Rg⟩:=h262
 refine Mve (Value.tuple [Value.agg [Sl Ai smallest_3.1.variables Ci,Sl Aj smallest_3.1.places Cj].toArray,Bo smallest_3.2.1,Iv smallest_3.2.2].toArray) rfl<|Rop<|op_extract (v:=Value.agg [Sl Ai smallest_3.1.variables Ci,Sl Aj smallest_3.1.places Cj].toArray) rfl rfl<|Rop<|op_extract (v:=Bo smallest_3.2.1) rfl rfl<|Rop<|op_extract (v:=Iv smallest_3.2.2) rfl rfl<|Rop<|op_alloc ty34 hs255 ?_
 intro b266 w267 _ p268 hs269
 clear hs255
 refine Rg_op_<|op_stA .z ty34 hs269 rfl rfl rfl rfl rfl ?_
 intro w271 p272 hs273
 clear hs269
 refine Asg (Bo smallest_3.2.1) rfl<|Asg (Iv smallest_3.2.2) rfl<|Ri2<|Wb ?_
 obtain⟨hs274,p275⟩:=hs273.sub (bs':=[(some b56,Oc [Sl (some ⟨b42,0,none⟩) [1,2] 2,Sl (some ⟨b48,0,none⟩) [(⟨0,1⟩:XPlace)] 1] 34),(some b34,Oc [Sl Ad smallest_1.1.variables Cd,Sl Ae smallest_1.1.places Ce] 34),(some b9,Oc [Sl Aa two_1.cells Ca,Sl Ab two_1.capacity Cb,Sl Ac two_1.variables Cc] 26)]) (.cons _ (.cons _ (.cons_cons _ (.cons_cons _ (.cons_cons _ List.Sublist.slnil)))))
 clear f244 f247 Fi Fj
 clear hs273
 refine Wa<|Rop<|op_ldA 2 ty26 hs274 rfl rfl rfl<|Rop<|op_ldA 0 ty34 hs274 rfl rfl rfl ?_
 obtain⟨part_1,hv276,hm⟩:=bd hm
 replace f64:=f64.step (p102.trans (p103.trans (p112.trans (p119.trans (p127.trans (p136.trans (p143.trans (p150.trans (p162.trans (p166.trans (p169.trans (p173.trans (p180.trans (p184.trans (hst198.trans (p246.trans (p249.trans (p256.trans (p268.trans (p272.trans p275))))))))))))))))))))
 replace f68:=f68.step (p126.trans (p127.trans (p136.trans (p143.trans (p150.trans (p162.trans (p166.trans (p169.trans (p173.trans (p180.trans (p184.trans (hst198.trans (p246.trans (p249.trans (p256.trans (p268.trans (p272.trans p275)))))))))))))))))
 have p282:=(p127.trans (p136.trans (p143.trans (p150.trans (p162.trans (p166.trans (p169.trans (p173.trans (p180.trans (p184.trans (hst198.trans (p246.trans (p249.trans (p256.trans (p268.trans (p272.trans p275))))))))))))))))
 replace Fb:=Fb.step p282;replace Fa:=Fa.step p282;replace Fc:=Fc.step p282
 refine Rop<|op_callE hs274 Try.call20 (c20_reason_Part (p:=two_1) (r_:=(⟨[1,2],[(⟨0,1⟩:XPlace)]⟩:XReason)) hs274.ltw Fa Fb Fc f64 f68 hv276) rfl ?_
 rintro v277 w278 p283 hs281 h280
 clear hs274
 obtain⟨v284,v285,rfl,h286,h287⟩:=h280
 obtain⟨_,rfl,⟨_,_,rfl,⟨Ak,Ck,rfl,Fk⟩,⟨_,_,rfl,⟨Al,Cl,rfl,Fl⟩,⟨Am,Cm,rfl,Fm⟩⟩⟩⟩:=h286
 obtain⟨rfl,Rh⟩:=h287
 refine Mve (Value.tuple [Value.agg [Sl Ak part_1.1.cells Ck,Sl Al part_1.1.capacity Cl,Sl Am part_1.1.variables Cm].toArray,Iv part_1.2].toArray) rfl<|Rop<|op_extract (v:=Value.agg [Sl Ak part_1.1.cells Ck,Sl Al part_1.1.capacity Cl,Sl Am part_1.1.variables Cm].toArray) rfl rfl<|Rop<|op_extract (v:=Iv part_1.2) rfl rfl<|Rop<|op_alloc ty26 hs281 ?_
 intro b290 w291 _ p292 hs293
 clear hs281
 refine Rg_op_<|op_stA .z ty26 hs293 rfl rfl rfl rfl rfl ?_
 intro w295 p296 hs297
 clear hs293
 refine Asg (Iv part_1.2) rfl<|Ri2<|Wb<|Wr [] [(1,Pt b9 0),(2,Pt b34 0),(3,Bo smallest_1.2.1),(4,Iv smallest_1.2.2),(5,Pt b56 0),(6,Bo proves_1.1),(7,Iv proves_1.2),(8,Bo proves_2.1),(9,Iv proves_2.2),(10,Bo proves_3.1),(11,Iv proves_3.2),(13,Bo smallest_2.2.1),(14,Iv smallest_2.2.2),(18,Iv smallest_3.2.2),(19,Pt b290 0),(20,Iv part_1.2)] fun ξ298=>?_
 obtain⟨k300,hk301,hm⟩:=jn_elim hm
 refine Wp_seqJ q10_0 (fun fr w'=>∃(v_3:Bool) (Ebs:Ents),Ebs=[(some b290,Oc [Sl Ak part_1.1.cells Ck,Sl Al part_1.1.capacity Cl,Sl Am part_1.1.variables Cm] 26),(some b56,Oc [Sl (some ⟨b42,0,none⟩) [1,2] 2,Sl (some ⟨b48,0,none⟩) [(⟨0,1⟩:XPlace)] 1] 34),(some b34,Oc [Sl Ad smallest_1.1.variables Cd,Sl Ae smallest_1.1.places Ce] 34),(some b9,Oc [Sl Aa two_1.cells Ca,Sl Ab two_1.capacity Cb,Sl Ac two_1.variables Cc] 26)]∧fr [] [(119,Bo v_3)]∧hs297.S (ks Ebs O) w'∧St ⟨w,[],[]⟩ O w' Ebs∧k300 v_3=some x) ?_ ?_
 rintro ρ307 w303 ⟨v_3,_,rfl,hfr306,hst305,hs304,hm⟩
 replace hm:=jnE1 hk301 hm
 rw [hfr306.eq];clear hfr306
 refine Wo2 hm rfl (fun hc308 hm=>?_) (fun hc308 hm=>?_)
 refine Wb ?_
 obtain⟨hs309,p310⟩:=hs304.sub (bs':=[]) (.cons _ (.cons _ (.cons _ (.cons _ List.Sublist.slnil))))
 clear Fa Fb Fc Fd Fe f64 f68 Fk Fl Fm
 clear hs304
 refine Wa<|Asg (Bo false) rfl<|Ri2<|Wp_ret<|⟨_,Clo,[Bo false],⟨rfl,trivial⟩,hs309.ext,?_⟩
 exact Vr.eq (a:=vB) (x:=false) rfl (oi hm)
 refine Ws2<|Wr [] [(2,Pt b34 0),(3,Bo smallest_1.2.1),(5,Pt b56 0),(6,Bo proves_1.1),(8,Bo proves_2.1),(10,Bo proves_3.1),(13,Bo smallest_2.2.1),(19,Pt b290 0)] fun ξ311=>?_
 obtain⟨k313,hk314,hm⟩:=jn_elim hm
 refine Wp_seqJ q10_1 (fun fr w'=>∃(v_4:Bool) (Ebs:Ents),Ebs=[(some b290,Oc [Sl Ak part_1.1.cells Ck,Sl Al part_1.1.capacity Cl,Sl Am part_1.1.variables Cm] 26),(some b56,Oc [Sl (some ⟨b42,0,none⟩) [1,2] 2,Sl (some ⟨b48,0,none⟩) [(⟨0,1⟩:XPlace)] 1] 34),(some b34,Oc [Sl Ad smallest_1.1.variables Cd,Sl Ae smallest_1.1.places Ce] 34),(some b9,Oc [Sl Aa two_1.cells Ca,Sl Ab two_1.capacity Cb,Sl Ac two_1.variables Cc] 26)]∧fr [] [(0,Bo v_4)]∧hs304.S (ks Ebs O) w'∧St ⟨w,[],[]⟩ O w' Ebs∧k313 v_4=some x) ?_ ?_
 rintro ρ320 w316 ⟨v_4,_,rfl,hfr319,hst318,hs317,hm⟩
 replace hm:=jnE1 hk314 hm
 rw [hfr319.eq];clear hfr319
 refine Wp_ret<|⟨_,Clo,[Bo v_4],⟨rfl,trivial⟩,hs317.ext,?_⟩
 exact Vr.eq (a:=vB) (x:=v_4) rfl (oi hm)
 intro K315 hK315
 have ch321:=hs304.stepR
 refine Wa<|Mve (Bo smallest_1.2.1) rfl<|Mve (Bo smallest_1.2.1) rfl<|Rg_caseM hm (fun hg322 hm=>?_) (fun hg322 hm=>?_)
 refine Rog rfl rfl<|op_ldA 2 ty34 hs304 rfl rfl rfl<|Rog rfl rfl<|op_ldA 1 ty34 hs304 rfl rfl rfl ?_
 obtain⟨same_1,hv323,hm⟩:=bd hm
 have p329:=(p283.trans (p292.trans (p296.trans hst305)))
 replace f64:=f64.step p329;replace f68:=f68.step p329
 have p330:=(p36.trans (p40.trans (p44.trans (p50.trans (p58.trans (p62.trans (p66.trans (p70.trans (p78.trans (p88.trans (p95.trans (p103.trans (p112.trans (p119.trans (p127.trans (p136.trans (p143.trans (p150.trans (p162.trans (p166.trans (p169.trans (p173.trans (p180.trans (p184.trans (hst198.trans (p246.trans (p249.trans (p256.trans (p268.trans (p272.trans (p275.trans (p283.trans (p292.trans (p296.trans hst305))))))))))))))))))))))))))))))))))
 replace Fe:=Fe.step p330;replace Fd:=Fd.step p330
 refine Rog rfl rfl<|op_callE hs304 Try.call27 (c27_overflightref32_Same (a:=smallest_1.1) (b:=(⟨[1,2],[(⟨0,1⟩:XPlace)]⟩:XReason)) hs304.ltw Fd Fe f64 f68 hv323) rfl ?_
 rintro v324 w325 p331 hs328 h327
 obtain rfl:=h327
 refine Pkt (Bo same_1) rfl rfl<|Mve (Bo same_1) rfl<|Rg_caseM hm (fun hg333 hm=>?_) (fun hg333 hm=>?_)
 refine Rog rfl rfl<|ok2 (v:=Bo proves_1.1) rfl<|Pkt (Bo proves_1.1) rfl rfl<|Mve (Bo proves_1.1) rfl<|Rg_caseM hm (fun hg334 hm=>?_) (fun hg334 hm=>?_)
 refine Rog rfl rfl<|ok2 (v:=Bo proves_2.1) rfl<|Rog rfl rfl<|op_not rfl<|Pkt (Bo (!proves_2.1)) rfl rfl<|Mve (Bo (!proves_2.1)) rfl<|Rg_caseM hm (fun hg335 hm=>?_) (fun hg335 hm=>?_)
 refine Rog rfl rfl<|ok2 (v:=Bo proves_3.1) rfl<|Rog rfl rfl<|op_not rfl<|Pkt (Bo (!proves_3.1)) rfl rfl<|Mve (Bo (!proves_3.1)) rfl<|Rg_caseM hm (fun hg336 hm=>?_) (fun hg336 hm=>?_)
 refine Rog rfl rfl<|ok2 (v:=Bo smallest_2.2.1) rfl<|Rog rfl rfl<|op_not rfl<|Pkt (Bo (!smallest_2.2.1)) rfl rfl<|Mve (Bo (!smallest_2.2.1)) rfl<|Rg_caseM hm (fun hg337 hm=>?_) (fun hg337 hm=>?_)
 refine Rog rfl rfl<|op2 2 ty26 rfl ty24 rfl rfl<|Rog rfl rfl<|oq2 0 ty24 hs328 rfl rfl rfl<|Rog rfl rfl<|op_len Try.underlying24 rfl ?_
 have p339:=(p292.trans (p296.trans (hst305.trans p331)))
 replace Fm:=Fm.step p339
 have rl338:=inK_len Fm
 refine Rog rfl rfl<|op_eql rfl rfl<|Pkt (Bo (decide ((part_1.1.variables.length:Int)=2))) rfl rfl<|Mve (Bo (decide ((part_1.1.variables.length:Int)=2))) rfl<|Rg_caseM hm (fun hg340 hm=>?_) (fun hg340 hm=>?_)
 refine Rog rfl rfl<|op2 1 ty26 rfl ty23 rfl rfl<|Rog rfl rfl<|oq2 0 ty23 hs328 rfl rfl rfl<|Rog rfl rfl<|op_len Try.underlying23 rfl ?_
 replace Fl:=Fl.step p339
 have rl341:=inK_len Fl
 refine Rog rfl rfl<|op_eql rfl rfl<|Pkt (Bo (decide ((part_1.1.capacity.length:Int)=1))) rfl rfl<|Mve (Bo (decide ((part_1.1.capacity.length:Int)=1))) rfl<|Rg_caseM hm (fun hg342 hm=>?_) (fun hg342 hm=>?_)
 refine Rog rfl rfl<|op2 1 ty26 rfl ty23 rfl rfl<|Rog rfl rfl<|oq2 0 ty23 hs328 rfl rfl rfl ?_
 obtain⟨hc343,hm⟩:=ck_some hm
 refine Rog rfl rfl<|om2 (q:=rSl (rInt .i64)) ty23 ty31 rfl rfl Fl rfl hc343.1 hc343.2 ?_
 intro p344 f345
 refine Rog rfl rfl<|ot2 ty31 rfl f345 rfl ?_
 intro v346 h347
 obtain⟨An,Cn,rfl,Fn⟩:=un_sl h347
 refine Rog rfl rfl<|op_len Try.underlying31 rfl ?_
 have rl349:=inK_len Fn
 refine Rog rfl rfl<|op_eql rfl rfl<|Pkt (Bo (decide (((part_1.1.capacity.getD 0 default).length:Int)=2))) rfl rfl<|Mve (Bo (decide (((part_1.1.capacity.getD 0 default).length:Int)=2))) rfl<|Rg_caseM hm (fun hg350 hm=>?_) (fun hg350 hm=>?_)
 refine Rog rfl rfl<|op2 1 ty26 rfl ty23 rfl rfl<|Rog rfl rfl<|oq2 0 ty23 hs328 rfl rfl rfl ?_
 obtain⟨hc351,hm⟩:=ck_some hm
 refine Rog rfl rfl<|om2 (q:=rSl (rInt .i64)) ty23 ty31 rfl rfl Fl rfl hc351.1 hc351.2 ?_
 intro p352 f353
 refine Rog rfl rfl<|ot2 ty31 rfl f353 rfl ?_
 intro v354 h355
 obtain⟨Ao,Co,rfl,Fo⟩:=un_sl h355
 obtain⟨hc357,hm⟩:=ck_some hm
 refine Rog rfl rfl<|om2 (q:=(rInt .i64)) ty31 ty3 rfl rfl Fo rfl hc357.1 hc357.2 ?_
 intro p358 f359
 refine Rog rfl rfl<|ot2 ty3 rfl f359 rfl ?_
 intro v360 h361
 obtain⟨rfl,Ri⟩:=un_int h361
 refine Rog rfl rfl<|op_eql rfl rfl<|Pkt (Bo (decide (((part_1.1.capacity.getD 0 default).getD 0 default)=4096))) rfl rfl<|Mve (Bo (decide (((part_1.1.capacity.getD 0 default).getD 0 default)=4096))) rfl<|Rg_caseM hm (fun hg363 hm=>?_) (fun hg363 hm=>?_)
 refine Rog rfl rfl<|op2 1 ty26 rfl ty23 rfl rfl<|Rog rfl rfl<|oq2 0 ty23 hs328 rfl rfl rfl ?_
 obtain⟨hc364,hm⟩:=ck_some hm
 refine Rog rfl rfl<|om2 (q:=rSl (rInt .i64)) ty23 ty31 rfl rfl Fl rfl hc364.1 hc364.2 ?_
 intro p365 f366
 refine Rog rfl rfl<|ot2 ty31 rfl f366 rfl ?_
 intro v367 h368
 obtain⟨Ap,Cp,rfl,Fp⟩:=un_sl h368
 obtain⟨hc370,hm⟩:=ck_some hm
 refine Rog rfl rfl<|om2 (q:=(rInt .i64)) ty31 ty3 rfl rfl Fp rfl hc370.1 hc370.2 ?_
 intro p371 f372
 replace f372:PtR (rInt .i64) _ _ p371 ((part_1.1.capacity.getD 0 default).getD 1 default):=f372
 refine Rog rfl rfl<|ot2 ty3 rfl f372 rfl ?_
 intro v373 h374
 obtain⟨rfl,Rj⟩:=un_int h374
 refine Rog rfl rfl<|op_eql rfl rfl<|Pkt (Bo (decide (((part_1.1.capacity.getD 0 default).getD 1 default)=1))) rfl rfl<|Asg (Bo (decide (((part_1.1.capacity.getD 0 default).getD 1 default)=1))) rfl<|Ri2 ?_
 replace ch321:=ch321.trans p331
 exact hK315 _ _ ⟨decide (((part_1.1.capacity.getD 0 default).getD 1 default)=1),_,rfl,Frm.of ⟨rfl,trivial⟩,ch321,hs328,hm⟩
 iterate 7 refine Rl2 rfl (asB_ne rfl rfl) rfl ?_
 refine Pkf (Bo false) rfl rfl<|Asg (Bo false) rfl<|Ri2 ?_
 replace ch321:=ch321.trans p331
 exact hK315 _ _ ⟨false,_,rfl,Frm.of ⟨rfl,trivial⟩,ch321,hs328,hm⟩
 iterate 7 refine Rl2 rfl (asB_ne rfl rfl) rfl ?_
 refine Pkf (Bo false) rfl rfl<|Mve (Bo false) rfl ?_
 iterate 7 refine Rl2 rfl (asB_ne rfl rfl) rfl ?_
 refine Pkf (Bo false) rfl rfl<|Asg (Bo false) rfl<|Ri2 ?_
 replace ch321:=ch321.trans p331
 exact hK315 _ _ ⟨false,_,rfl,Frm.of ⟨rfl,trivial⟩,ch321,hs328,hm⟩
 iterate 6 refine Rl2 rfl (asB_ne rfl rfl) rfl ?_
 refine Pkf (Bo false) rfl rfl<|Mve (Bo false) rfl ?_
 iterate 7 refine Rl2 rfl (asB_ne rfl rfl) rfl ?_
 refine Pkf (Bo false) rfl rfl<|Mve (Bo false) rfl ?_
 iterate 7 refine Rl2 rfl (asB_ne rfl rfl) rfl ?_
 refine Pkf (Bo false) rfl rfl<|Asg (Bo false) rfl<|Ri2 ?_
 replace ch321:=ch321.trans p331
 exact hK315 _ _ ⟨false,_,rfl,Frm.of ⟨rfl,trivial⟩,ch321,hs328,hm⟩
 iterate 4 refine Rl2 rfl (asB_ne rfl rfl) rfl ?_
 refine Pkf (Bo false) rfl rfl<|Mve (Bo false) rfl ?_
 iterate 6 refine Rl2 rfl (asB_ne rfl rfl) rfl ?_
 refine Pkf (Bo false) rfl rfl<|Mve (Bo false) rfl ?_
 iterate 7 refine Rl2 rfl (asB_ne rfl rfl) rfl ?_
 refine Pkf (Bo false) rfl rfl<|Mve (Bo false) rfl ?_
 iterate 7 refine Rl2 rfl (asB_ne rfl rfl) rfl ?_
 refine Pkf (Bo false) rfl rfl<|Asg (Bo false) rfl<|Ri2 ?_
 replace ch321:=ch321.trans p331
 exact hK315 _ _ ⟨false,_,rfl,Frm.of ⟨rfl,trivial⟩,ch321,hs328,hm⟩
 iterate 4 refine Rl2 rfl (asB_ne rfl rfl) rfl ?_
 refine Pkf (Bo false) rfl rfl<|Mve (Bo false) rfl ?_
 iterate 4 refine Rl2 rfl (asB_ne rfl rfl) rfl ?_
 refine Pkf (Bo false) rfl rfl<|Mve (Bo false) rfl ?_
 iterate 6 refine Rl2 rfl (asB_ne rfl rfl) rfl ?_
 refine Pkf (Bo false) rfl rfl<|Mve (Bo false) rfl ?_
 iterate 7 refine Rl2 rfl (asB_ne rfl rfl) rfl ?_
 refine Pkf (Bo false) rfl rfl<|Mve (Bo false) rfl ?_
 iterate 7 refine Rl2 rfl (asB_ne rfl rfl) rfl ?_
 refine Pkf (Bo false) rfl rfl<|Asg (Bo false) rfl<|Ri2 ?_
 replace ch321:=ch321.trans p331
 exact hK315 _ _ ⟨false,_,rfl,Frm.of ⟨rfl,trivial⟩,ch321,hs328,hm⟩
 refine Rl2 rfl (asB_ne rfl rfl) rfl<|Rl2 rfl (asB_ne rfl rfl) rfl<|Pkf (Bo false) rfl rfl<|Mve (Bo false) rfl ?_
 iterate 4 refine Rl2 rfl (asB_ne rfl rfl) rfl ?_
 refine Pkf (Bo false) rfl rfl<|Mve (Bo false) rfl ?_
 iterate 4 refine Rl2 rfl (asB_ne rfl rfl) rfl ?_
 refine Pkf (Bo false) rfl rfl<|Mve (Bo false) rfl ?_
 iterate 6 refine Rl2 rfl (asB_ne rfl rfl) rfl ?_
 refine Pkf (Bo false) rfl rfl<|Mve (Bo false) rfl ?_
 iterate 7 refine Rl2 rfl (asB_ne rfl rfl) rfl ?_
 refine Pkf (Bo false) rfl rfl<|Mve (Bo false) rfl ?_
 iterate 7 refine Rl2 rfl (asB_ne rfl rfl) rfl ?_
 refine Pkf (Bo false) rfl rfl<|Asg (Bo false) rfl<|Ri2 ?_
 replace ch321:=ch321.trans p331
 exact hK315 _ _ ⟨false,_,rfl,Frm.of ⟨rfl,trivial⟩,ch321,hs328,hm⟩
 refine Rl2 rfl (asB_ne rfl rfl) rfl<|Rl2 rfl (asB_ne rfl rfl) rfl<|Pkf (Bo false) rfl rfl<|Mve (Bo false) rfl<|Rl2 rfl (asB_ne rfl rfl) rfl<|Rl2 rfl (asB_ne rfl rfl) rfl<|Pkf (Bo false) rfl rfl<|Mve (Bo false) rfl ?_
 iterate 4 refine Rl2 rfl (asB_ne rfl rfl) rfl ?_
 refine Pkf (Bo false) rfl rfl<|Mve (Bo false) rfl ?_
 iterate 4 refine Rl2 rfl (asB_ne rfl rfl) rfl ?_
 refine Pkf (Bo false) rfl rfl<|Mve (Bo false) rfl ?_
 iterate 6 refine Rl2 rfl (asB_ne rfl rfl) rfl ?_
 refine Pkf (Bo false) rfl rfl<|Mve (Bo false) rfl ?_
 iterate 7 refine Rl2 rfl (asB_ne rfl rfl) rfl ?_
 refine Pkf (Bo false) rfl rfl<|Mve (Bo false) rfl ?_
 iterate 7 refine Rl2 rfl (asB_ne rfl rfl) rfl ?_
 refine Pkf (Bo false) rfl rfl<|Asg (Bo false) rfl<|Ri2 ?_
 replace ch321:=ch321.trans p331
 exact hK315 _ _ ⟨false,_,rfl,Frm.of ⟨rfl,trivial⟩,ch321,hs328,hm⟩
 refine Rl2 rfl (asB_ne rfl rfl) rfl<|Rl2 rfl (asB_ne rfl rfl) rfl<|Pkf (Bo false) rfl rfl<|Mve (Bo false) rfl<|Rl2 rfl (asB_ne rfl rfl) rfl<|Rl2 rfl (asB_ne rfl rfl) rfl<|Pkf (Bo false) rfl rfl<|Mve (Bo false) rfl<|Rl2 rfl (asB_ne rfl rfl) rfl<|Rl2 rfl (asB_ne rfl rfl) rfl<|Pkf (Bo false) rfl rfl<|Mve (Bo false) rfl ?_
 iterate 4 refine Rl2 rfl (asB_ne rfl rfl) rfl ?_
 refine Pkf (Bo false) rfl rfl<|Mve (Bo false) rfl ?_
 iterate 4 refine Rl2 rfl (asB_ne rfl rfl) rfl ?_
 refine Pkf (Bo false) rfl rfl<|Mve (Bo false) rfl ?_
 iterate 6 refine Rl2 rfl (asB_ne rfl rfl) rfl ?_
 refine Pkf (Bo false) rfl rfl<|Mve (Bo false) rfl ?_
 iterate 7 refine Rl2 rfl (asB_ne rfl rfl) rfl ?_
 refine Pkf (Bo false) rfl rfl<|Mve (Bo false) rfl ?_
 iterate 7 refine Rl2 rfl (asB_ne rfl rfl) rfl ?_
 refine Pkf (Bo false) rfl rfl<|Asg (Bo false) rfl<|Ri2 ?_
 replace ch321:=ch321.trans p331
 exact hK315 _ _ ⟨false,_,rfl,Frm.of ⟨rfl,trivial⟩,ch321,hs328,hm⟩
 refine Rl2 rfl (asB_ne rfl rfl) rfl<|Pkf (Bo false) rfl rfl<|Mve (Bo false) rfl<|Rl2 rfl (asB_ne rfl rfl) rfl<|Rl2 rfl (asB_ne rfl rfl) rfl<|Pkf (Bo false) rfl rfl<|Mve (Bo false) rfl<|Rl2 rfl (asB_ne rfl rfl) rfl<|Rl2 rfl (asB_ne rfl rfl) rfl<|Pkf (Bo false) rfl rfl<|Mve (Bo false) rfl<|Rl2 rfl (asB_ne rfl rfl) rfl<|Rl2 rfl (asB_ne rfl rfl) rfl<|Pkf (Bo false) rfl rfl<|Mve (Bo false) rfl ?_
 iterate 4 refine Rl2 rfl (asB_ne rfl rfl) rfl ?_
 refine Pkf (Bo false) rfl rfl<|Mve (Bo false) rfl ?_
 iterate 4 refine Rl2 rfl (asB_ne rfl rfl) rfl ?_
 refine Pkf (Bo false) rfl rfl<|Mve (Bo false) rfl ?_
 iterate 6 refine Rl2 rfl (asB_ne rfl rfl) rfl ?_
 refine Pkf (Bo false) rfl rfl<|Mve (Bo false) rfl ?_
 iterate 7 refine Rl2 rfl (asB_ne rfl rfl) rfl ?_
 refine Pkf (Bo false) rfl rfl<|Mve (Bo false) rfl ?_
 iterate 7 refine Rl2 rfl (asB_ne rfl rfl) rfl ?_
 refine Pkf (Bo false) rfl rfl<|Asg (Bo false) rfl<|Ri2 ?_
 replace ch321:=ch321.trans p331
 exact hK315 _ _ ⟨false,_,rfl,Frm.of ⟨rfl,trivial⟩,ch321,hs328,hm⟩
 iterate 3 refine Rl2 rfl (asB_ne rfl rfl) rfl ?_
 refine Pkf (Bo false) rfl rfl<|Mve (Bo false) rfl<|Rl2 rfl (asB_ne rfl rfl) rfl<|Pkf (Bo false) rfl rfl<|Mve (Bo false) rfl<|Rl2 rfl (asB_ne rfl rfl) rfl<|Rl2 rfl (asB_ne rfl rfl) rfl<|Pkf (Bo false) rfl rfl<|Mve (Bo false) rfl<|Rl2 rfl (asB_ne rfl rfl) rfl<|Rl2 rfl (asB_ne rfl rfl) rfl<|Pkf (Bo false) rfl rfl<|Mve (Bo false) rfl<|Rl2 rfl (asB_ne rfl rfl) rfl<|Rl2 rfl (asB_ne rfl rfl) rfl<|Pkf (Bo false) rfl rfl<|Mve (Bo false) rfl ?_
 iterate 4 refine Rl2 rfl (asB_ne rfl rfl) rfl ?_
 refine Pkf (Bo false) rfl rfl<|Mve (Bo false) rfl ?_
 iterate 4 refine Rl2 rfl (asB_ne rfl rfl) rfl ?_
 refine Pkf (Bo false) rfl rfl<|Mve (Bo false) rfl ?_
 iterate 6 refine Rl2 rfl (asB_ne rfl rfl) rfl ?_
 refine Pkf (Bo false) rfl rfl<|Mve (Bo false) rfl ?_
 iterate 7 refine Rl2 rfl (asB_ne rfl rfl) rfl ?_
 refine Pkf (Bo false) rfl rfl<|Mve (Bo false) rfl ?_
 iterate 7 refine Rl2 rfl (asB_ne rfl rfl) rfl ?_
 exact Pkf (Bo false) rfl rfl<|Asg (Bo false) rfl<|Ri2<|hK315 _ _ ⟨false,_,rfl,Frm.of ⟨rfl,trivial⟩,ch321,hs304,hm⟩
 intro K302 hK302
 have ch376:=hs297.stepR
 refine Wa<|Mve (Iv smallest_1.2.2) rfl<|Rop<|op_neq rfl rfl<|Mve (Bo (decide (smallest_1.2.2≠0))) rfl<|Rg_caseM hm (fun hg377 hm=>?_) (fun hg377 hm=>?_)
 refine Rl2 rfl (asB_ne rfl rfl) rfl<|Rl2 rfl (asB_ne rfl rfl) rfl<|Pkt (Bo true) rfl rfl<|Mve (Bo true) rfl<|Rl2 rfl (asB_ne rfl rfl) rfl<|Rl2 rfl (asB_ne rfl rfl) rfl<|Pkt (Bo true) rfl rfl<|Mve (Bo true) rfl<|Rl2 rfl (asB_ne rfl rfl) rfl<|Rl2 rfl (asB_ne rfl rfl) rfl<|Pkt (Bo true) rfl rfl<|Mve (Bo true) rfl<|Rl2 rfl (asB_ne rfl rfl) rfl<|Rl2 rfl (asB_ne rfl rfl) rfl<|Pkt (Bo true) rfl rfl<|Mve (Bo true) rfl<|Rl2 rfl (asB_ne rfl rfl) rfl<|Rl2 rfl (asB_ne rfl rfl) rfl<|Pkt (Bo true) rfl rfl<|Mve (Bo true) rfl<|Rl2 rfl (asB_ne rfl rfl) rfl<|Rl2 rfl (asB_ne rfl rfl) rfl<|Pkt (Bo true) rfl rfl<|Mve (Bo true) rfl ?_
 iterate 5 refine Rl2 rfl (asB_ne rfl rfl) rfl ?_
 exact Pkt (Bo true) rfl rfl<|Ri2<|hK302 _ _ ⟨true,_,rfl,Frm.of ⟨rfl,trivial⟩,ch376,hs297,hm⟩
 refine Rog rfl rfl<|ok2 (v:=Iv proves_1.2) rfl<|Rog rfl rfl<|op_neq rfl rfl<|Pkf (Bo (decide (proves_1.2≠0))) rfl rfl<|Mve (Bo (decide (proves_1.2≠0))) rfl<|Rg_caseM hm (fun hg378 hm=>?_) (fun hg378 hm=>?_)
 refine Rl2 rfl (asB_ne rfl rfl) rfl<|Rl2 rfl (asB_ne rfl rfl) rfl<|Pkt (Bo true) rfl rfl<|Mve (Bo true) rfl<|Rl2 rfl (asB_ne rfl rfl) rfl<|Rl2 rfl (asB_ne rfl rfl) rfl<|Pkt (Bo true) rfl rfl<|Mve (Bo true) rfl<|Rl2 rfl (asB_ne rfl rfl) rfl<|Rl2 rfl (asB_ne rfl rfl) rfl<|Pkt (Bo true) rfl rfl<|Mve (Bo true) rfl<|Rl2 rfl (asB_ne rfl rfl) rfl<|Rl2 rfl (asB_ne rfl rfl) rfl<|Pkt (Bo true) rfl rfl<|Mve (Bo true) rfl<|Rl2 rfl (asB_ne rfl rfl) rfl<|Rl2 rfl (asB_ne rfl rfl) rfl<|Pkt (Bo true) rfl rfl<|Mve (Bo true) rfl ?_
 iterate 5 refine Rl2 rfl (asB_ne rfl rfl) rfl ?_
 exact Pkt (Bo true) rfl rfl<|Ri2<|hK302 _ _ ⟨true,_,rfl,Frm.of ⟨rfl,trivial⟩,ch376,hs297,hm⟩
 refine Rog rfl rfl<|ok2 (v:=Iv proves_2.2) rfl<|Rog rfl rfl<|op_neq rfl rfl<|Pkf (Bo (decide (proves_2.2≠0))) rfl rfl<|Mve (Bo (decide (proves_2.2≠0))) rfl<|Rg_caseM hm (fun hg379 hm=>?_) (fun hg379 hm=>?_)
 refine Rl2 rfl (asB_ne rfl rfl) rfl<|Rl2 rfl (asB_ne rfl rfl) rfl<|Pkt (Bo true) rfl rfl<|Mve (Bo true) rfl<|Rl2 rfl (asB_ne rfl rfl) rfl<|Rl2 rfl (asB_ne rfl rfl) rfl<|Pkt (Bo true) rfl rfl<|Mve (Bo true) rfl<|Rl2 rfl (asB_ne rfl rfl) rfl<|Rl2 rfl (asB_ne rfl rfl) rfl<|Pkt (Bo true) rfl rfl<|Mve (Bo true) rfl<|Rl2 rfl (asB_ne rfl rfl) rfl<|Rl2 rfl (asB_ne rfl rfl) rfl<|Pkt (Bo true) rfl rfl<|Mve (Bo true) rfl ?_
 iterate 5 refine Rl2 rfl (asB_ne rfl rfl) rfl ?_
 exact Pkt (Bo true) rfl rfl<|Ri2<|hK302 _ _ ⟨true,_,rfl,Frm.of ⟨rfl,trivial⟩,ch376,hs297,hm⟩
 refine Rog rfl rfl<|ok2 (v:=Iv proves_3.2) rfl<|Rog rfl rfl<|op_neq rfl rfl<|Pkf (Bo (decide (proves_3.2≠0))) rfl rfl<|Mve (Bo (decide (proves_3.2≠0))) rfl<|Rg_caseM hm (fun hg380 hm=>?_) (fun hg380 hm=>?_)
 refine Rl2 rfl (asB_ne rfl rfl) rfl<|Rl2 rfl (asB_ne rfl rfl) rfl<|Pkt (Bo true) rfl rfl<|Mve (Bo true) rfl<|Rl2 rfl (asB_ne rfl rfl) rfl<|Rl2 rfl (asB_ne rfl rfl) rfl<|Pkt (Bo true) rfl rfl<|Mve (Bo true) rfl<|Rl2 rfl (asB_ne rfl rfl) rfl<|Rl2 rfl (asB_ne rfl rfl) rfl<|Pkt (Bo true) rfl rfl<|Mve (Bo true) rfl ?_
 iterate 5 refine Rl2 rfl (asB_ne rfl rfl) rfl ?_
 exact Pkt (Bo true) rfl rfl<|Ri2<|hK302 _ _ ⟨true,_,rfl,Frm.of ⟨rfl,trivial⟩,ch376,hs297,hm⟩
 refine Rog rfl rfl<|ok2 (v:=Iv smallest_2.2.2) rfl<|Rog rfl rfl<|op_neq rfl rfl<|Pkf (Bo (decide (smallest_2.2.2≠0))) rfl rfl<|Mve (Bo (decide (smallest_2.2.2≠0))) rfl<|Rg_caseM hm (fun hg381 hm=>?_) (fun hg381 hm=>?_)
 refine Rl2 rfl (asB_ne rfl rfl) rfl<|Rl2 rfl (asB_ne rfl rfl) rfl<|Pkt (Bo true) rfl rfl<|Mve (Bo true) rfl<|Rl2 rfl (asB_ne rfl rfl) rfl<|Rl2 rfl (asB_ne rfl rfl) rfl<|Pkt (Bo true) rfl rfl<|Mve (Bo true) rfl ?_
 iterate 5 refine Rl2 rfl (asB_ne rfl rfl) rfl ?_
 exact Pkt (Bo true) rfl rfl<|Ri2<|hK302 _ _ ⟨true,_,rfl,Frm.of ⟨rfl,trivial⟩,ch376,hs297,hm⟩
 refine Rog rfl rfl<|ok2 (v:=Iv smallest_3.2.2) rfl<|Rog rfl rfl<|op_neq rfl rfl<|Pkf (Bo (decide (smallest_3.2.2≠2))) rfl rfl<|Mve (Bo (decide (smallest_3.2.2≠2))) rfl<|Rg_caseM hm (fun hg382 hm=>?_) (fun hg382 hm=>?_)
 refine Rl2 rfl (asB_ne rfl rfl) rfl<|Rl2 rfl (asB_ne rfl rfl) rfl<|Pkt (Bo true) rfl rfl<|Mve (Bo true) rfl ?_
 iterate 5 refine Rl2 rfl (asB_ne rfl rfl) rfl ?_
 exact Pkt (Bo true) rfl rfl<|Ri2<|hK302 _ _ ⟨true,_,rfl,Frm.of ⟨rfl,trivial⟩,ch376,hs297,hm⟩
 refine Rog rfl rfl<|ok2 (v:=Iv part_1.2) rfl<|Rog rfl rfl<|op_neq rfl rfl<|Pkf (Bo (decide (part_1.2≠0))) rfl rfl<|Mve (Bo (decide (part_1.2≠0))) rfl<|Rg_caseM hm (fun hg383 hm=>?_) (fun hg383 hm=>?_)
 iterate 5 refine Rl2 rfl (asB_ne rfl rfl) rfl ?_
 exact Pkt (Bo true) rfl rfl<|Ri2<|hK302 _ _ ⟨true,_,rfl,Frm.of ⟨rfl,trivial⟩,ch376,hs297,hm⟩
 refine Rog rfl rfl<|op_ldA 3 ty26 hs297 rfl rfl rfl<|Rog rfl rfl<|op_buildSlice (cs:=[Iv 0,Iv 0]) (parts:=[(0,.const (.int .i64 0)),(1,.const (.int .i64 0))]) ty31 ty3 hs297 (by decide) rfl ?_
 intro b384 w385 hx388 p386 hs387
 have f390:=Gs.of_cells (p:=(rInt .i64)) (e:=3) (bl:=b384) (c:=2) (w:=w385) (O:=ks [(some b384,Oc [Iv 0,Iv 0] 3),(some b290,Oc [Sl Ak part_1.1.cells Ck,Sl Al part_1.1.capacity Cl,Sl Am part_1.1.variables Cm] 26),(some b56,Oc [Sl (some ⟨b42,0,none⟩) [1,2] 2,Sl (some ⟨b48,0,none⟩) [(⟨0,1⟩:XPlace)] 1] 34),(some b34,Oc [Sl Ad smallest_1.1.variables Cd,Sl Ae smallest_1.1.places Ce] 34),(some b9,Oc [Sl Aa two_1.cells Ca,Sl Ab two_1.capacity Cb,Sl Ac two_1.variables Cc] 26)] O) (show Els (rInt .i64) _ _ [Iv 0,Iv 0] [0,0] from⟨_,_,rfl,mk_int (show InK .i64 0 from by decide),⟨_,_,rfl,mk_int (show InK .i64 0 from by decide),Els.nil⟩⟩) rfl (le_lit rfl)
 refine Rog rfl rfl<|op_build (vs:=[Sl (some ⟨b384,0,none⟩) [0,0] 2,Value.slice none 0 0]) (parts:=[(0,.tmp 115)]) ty34 pl34 rfl ?_
 obtain⟨hs392,p393,f391⟩:=Gs.publish (i:=0) hs387 rfl f390
 clear hs387
 obtain⟨check_1,hv394,hm⟩:=bd hm
 have p400:=(p283.trans (p292.trans (p296.trans (p386.trans p393))))
 replace Fb:=Fb.step p400;replace Fa:=Fa.step p400;replace Fc:=Fc.step p400
 refine Rog rfl rfl<|op_callE hs392 Try.call23 (c23_reason_Check (p:=two_1) (r_:=(⟨[0,0],([]:List XPlace)⟩:XReason)) hs392.ltw Fa Fb Fc f391 SlR.nil_ hv394) rfl ?_
 rintro v395 w396 p401 hs399 h398
 clear hs392
 obtain⟨rfl,Rk⟩:=h398
 refine Rog rfl rfl<|op_neq rfl rfl<|Pkf (Bo (decide (check_1≠320))) rfl rfl<|Ri2 ?_
 replace ch376:=ch376.trans (p386.trans (p393.trans p401))
 exact hK302 _ _ ⟨decide (check_1≠320),_,rfl,Frm.of ⟨rfl,trivial⟩,ch376,hs399,hm⟩

abbrev q30_0:List Nat:=[7,8,9,10,11,12,13,14,15,16]

abbrev q30_1:List Nat:=[5,6,7,8,9,10,11,12,13,14,15,16,17,18,19,20,21,22,23,24,25,26,27,28]

def m30_overflightref27_Many_B0 (p:XProblem) (limit:Int) (sf9:Int→Int→Option Int) (n_1:Int) (i_1:Int):Option Int:=
 jn (fun(v_1:Bool)=>
  bif v_1 then
   ck ((0:Int)≤i_1∧i_1<(p.variables.length:Int))<|
   sf9 (IntKind.wrap .i64 (n_1*(max 1 (((p.variables.getD i_1.toNat default).choices).length:Int)))) (IntKind.wrap .i64 (i_1+1))
  else
   some (min n_1 limit))
 (fun k21=>
  bif (decide (i_1<(p.variables.length:Int))) then
   k21 (decide (n_1<limit))
  else
   k21 false)

def m30_overflightref27_Many (p:XProblem) (limit:Int):Option Int:=
 loop2 (m30_overflightref27_Many_B0 p limit) 1000000 1 0

theorem c30_overflightref27_Many {w:World} {O:List Nat} {p:XProblem} {limit:Int} {Aa:Option Addr} {Ca:Nat} {Ab:Option Addr} {Cb:Nat} {Ac:Option Addr} {Cc:Nat} (hO:∀k∈O,k<w.heap.size) (Fa:SlR rXCell w O Aa Ca p.cells) (Fb:SlR (rSl (rInt .i64)) w O Ab Cb p.capacity) (Fc:SlR rXVariable w O Ac Cc p.variables) (Ra:InK .i64 limit) {x:Int} (hm:m30_overflightref27_Many p limit=some x):
 Ok Try.prog 30 [Value.agg [Sl Aa p.cells Ca,Sl Ab p.capacity Cb,Sl Ac p.variables Cc].toArray,Iv limit] w O (vI .i64) x:=by
 unfold m30_overflightref27_Many at hm
 refine Fn_of_Wp (n:=32) (xs:=[.tmp 4]) Try.func30 rfl Try.ntmps30 Try.results30 rfl ?_
 have hs:=St.start hO
 refine Wb<|Wa<|Rop<|op_box (cs:=[Sl Aa p.cells Ca,Sl Ab p.capacity Cb,Sl Ac p.variables Cc]) hs rfl rfl ?_
 intro b1 w2 _ p3 hs4
 refine Asg (Iv 0) rfl<|Ri2<|Wb<|Wa<|Asg (Iv 1) rfl<|Ri2<|Wb<|Wb<|Wa<|Asg (Iv 0) rfl<|Ri2<|Wn2<|Wr [] [(1,Iv limit),(2,Pt b1 0),(5,Iv 1),(6,Iv 0)] fun ξ8=>Wp_loopM q30_1 (fun m fr w'=>∃(n_1:Int) (i_1:Int) (Ebs:Ents),Ebs=[(some b1,Oc [Sl Aa p.cells Ca,Sl Ab p.capacity Cb,Sl Ac p.variables Cc] 26)]∧fr [] [(5,Iv n_1),(6,Iv i_1)]∧hs4.S (ks Ebs O) w'∧St ⟨w,[],[]⟩ O w' Ebs∧InK .i64 n_1∧InK .i64 i_1∧loop2 (m30_overflightref27_Many_B0 p limit) m n_1 i_1=some x) 1000000 ⟨1,0,_,rfl,Frm.of ⟨rfl,rfl,trivial⟩,Step.refl _ _,hs4,(show InK .i64 1 from by decide),(show InK .i64 0 from by decide),hm⟩ ?_ ?_
 rintro _ _ ⟨_,_,_,_,_,_,_,_,_,hm⟩;exact loop2_z hm
 rintro m12 K11 hK11 ρ17 w13 ⟨n_1,i_1,_,rfl,hfr16,hst15,hs14,Rb,Rc,hm⟩
 obtain⟨sf9,hsf10,hm⟩:=loop2_s hm;unfold m30_overflightref27_Many_B0 at hm
 rw [hfr16.eq];clear hfr16
 have ch18:=hst15
 refine Wb<|Wr2 q30_1 [] (updL ⟨ξ8,[]⟩ [(1,Iv limit),(2,Pt b1 0),(5,Iv 1),(6,Iv 0)]) [(5,Iv n_1),(6,Iv i_1)] fun ξ19=>?_
 obtain⟨k21,hk22,hm⟩:=jn_elim hm
 refine Wp_seqJ q30_0 (fun fr w'=>∃(v_1:Bool) (Ebs:Ents),Ebs=[(some b1,Oc [Sl Aa p.cells Ca,Sl Ab p.capacity Cb,Sl Ac p.variables Cc] 26)]∧fr [] [(16,Bo v_1)]∧hs14.S (ks Ebs O) w'∧St ⟨w,[],[]⟩ O w' Ebs∧k21 v_1=some x) ?_ ?_
 rintro ρ28 w24 ⟨v_1,_,rfl,hfr27,hst26,hs25,hm⟩
 replace hm:=jnE1 hk22 hm
 rw [hfr27.eq];clear hfr27
 refine Wo2 hm rfl (fun hc29 hm=>?_) (fun hc29 hm=>?_)
 refine Ws2<|Wb<|Wn2<|Wa<|Mve (Iv n_1) rfl<|Rop<|op2 2 ty26 rfl ty24 rfl rfl<|Rop<|oq2 0 ty24 hs25 rfl rfl rfl<|Mve (Iv i_1) rfl ?_
 obtain⟨hc30,hm⟩:=ck_some hm
 have p33:=(p3.trans (hst15.trans hst26))
 replace Fc:=Fc.step p33
 refine Rop<|om2 (q:=rXVariable) ty24 ty61 rfl rfl Fc rfl hc30.1 hc30.2 ?_
 intro p31 f32
 refine Rop<|op_fieldAddr ty61 rfl ty59 (by decide) rfl rfl ?_
 have f34:=f32.via.snd.snd.snd
 refine Rop<|ot2 ty59 rfl f34 rfl ?_
 intro v35 h36
 obtain⟨Ad,Cd,rfl,Fd⟩:=un_sl h36
 refine Rop<|op_len Try.underlying59 rfl ?_
 have rl38:=inK_len Fd
 refine Rop<|op_max rfl rfl<|Rop<|op_mulw rfl rfl<|Asg (Iv (IntKind.wrap .i64 (n_1*(max 1 (((p.variables.getD i_1.toNat default).choices).length:Int))))) rfl<|Ri2 ?_
 clear f32 f34 Fd
 refine Wa<|Mve (Iv i_1) rfl<|Rop<|op_addw rfl rfl<|Asg (Iv (IntKind.wrap .i64 (i_1+1))) rfl<|Ri2 ?_
 replace ch18:=ch18.trans hst26
 exact hK11 _ _ ⟨(IntKind.wrap .i64 (n_1*(max 1 (((p.variables.getD i_1.toNat default).choices).length:Int)))),(IntKind.wrap .i64 (i_1+1)),_,rfl,Frm.of ⟨rfl,rfl,trivial⟩,ch18,hs25,(inK_wrap .i64 _),(inK_wrap .i64 _),jnE2 hsf10 hm⟩
 refine Wp_exit<|Wb ?_
 obtain⟨hs39,p40⟩:=hs25.sub (bs':=[]) (.cons _ List.Sublist.slnil)
 clear Fa Fb Fc
 clear hs25
 refine Wa<|Mve (Iv n_1) rfl<|Mve (Iv limit) rfl<|Rop<|op_min rfl rfl<|Asg (Iv (min n_1 limit)) rfl<|Ri2<|Wp_ret<|⟨_,Clo,[Iv (min n_1 limit)],⟨rfl,trivial⟩,hs39.ext,?_⟩
 exact Vr.eq (a:=(vI .i64)) (x:=min n_1 limit) ⟨rfl,inK_min Rb Ra⟩ (oi hm)
 intro K23 hK23
 have ch41:=hs14.stepR
 refine Wa<|Mve (Iv i_1) rfl<|Rop<|op2 2 ty26 rfl ty24 rfl rfl<|Rop<|oq2 0 ty24 hs14 rfl rfl rfl<|Rop<|op_len Try.underlying24 rfl ?_
 have p43:=(p3.trans hst15)
 replace Fc:=Fc.step p43
 have rl42:=inK_len Fc
 refine Rop<|op_lss rfl rfl<|Mve (Bo (decide (i_1<(p.variables.length:Int)))) rfl<|Rg_caseM hm (fun hg44 hm=>?_) (fun hg44 hm=>?_)
 exact Rog rfl rfl<|ok2 (v:=Iv n_1) rfl<|Rog rfl rfl<|ok2 (v:=Iv limit) rfl<|Rog rfl rfl<|op_lss rfl rfl<|Pkt (Bo (decide (n_1<limit))) rfl rfl<|Ri2<|hK23 _ _ ⟨decide (n_1<limit),_,rfl,Frm.of ⟨rfl,trivial⟩,ch41,hs14,hm⟩
 iterate 3 refine Rl2 rfl (asB_ne rfl rfl) rfl ?_
 exact Pkf (Bo false) rfl rfl<|Ri2<|hK23 _ _ ⟨false,_,rfl,Frm.of ⟨rfl,trivial⟩,ch41,hs14,hm⟩

abbrev q18_4:List Nat:=[2,3,23,24,25,26,27,28,29,30,31,32,33,34,35,36]

abbrev q18_2:List Nat:=[2,6,59,60,61,62,63,64,65,66,67,68,69,70,71,72,73]

abbrev q18_1:List Nat:=[49,50,51,52,53,54,55,56,57,58]

abbrev q18_3:List Nat:=[2,4,5,6,37,38,39,40,41,42,43,44,45,46,47,48,49,50,51,52,53,54,55,56,57,58,59,60,61,62,63,64,65,66,67,68,69,70,71,72,73]

abbrev q18_0:List Nat:=[7,8,9,10,11,12,13,14,15,16,17,18,19,20,21,22]

def m18_overflightref27_Few_B2 (p:XProblem) (i_2:Int) (sf44:Int→Option Bool) (sf84:Int→Option Bool) (k_1:Int):Option Bool:=
 bif (decide (k_1<(((p.variables.getD i_2.toNat default).choices).length:Int))) then
  ck ((0:Int)≤k_1∧k_1<(((p.variables.getD i_2.toNat default).choices).length:Int))<|
  bif (decide (12<(((((p.variables.getD i_2.toNat default).choices).getD k_1.toNat default).uses).length:Int))) then
   some false
  else
   sf84 (IntKind.wrap .i64 (k_1+1))
 else
  sf44 (IntKind.wrap .i64 (i_2+1))

def m18_overflightref27_Few_B1 (p:XProblem) (sf44:Int→Option Bool) (i_2:Int):Option Bool:=
 bif (decide (i_2<(p.variables.length:Int))) then
  ck ((0:Int)≤i_2∧i_2<(p.variables.length:Int))<|
  jn (fun(v_2:Bool)=>
   bif v_2 then
    some false
   else
    loop1 (m18_overflightref27_Few_B2 p i_2 sf44) (((((p.variables.getD i_2.toNat default).choices).length:Int) - 0).toNat+1) 0)
  (fun k73=>
   bif (decide (8<(((p.variables.getD i_2.toNat default).leaves).length:Int))) then
    k73 true
   else
    k73 (decide (8<(((p.variables.getD i_2.toNat default).choices).length:Int))))
 else
  (m30_overflightref27_Many p 2000).bind fun many_1=>
  some (decide (many_1<2000))

def m18_overflightref27_Few_B0 (p:XProblem) (sf21:Int→Option Bool) (i_1:Int):Option Bool:=
 bif (decide (i_1<(p.capacity.length:Int))) then
  ck ((0:Int)≤i_1∧i_1<(p.capacity.length:Int))<|
  bif (decide (16<((p.capacity.getD i_1.toNat default).length:Int))) then
   some false
  else
   sf21 (IntKind.wrap .i64 (i_1+1))
 else
  loop1 (m18_overflightref27_Few_B1 p) (((p.variables.length:Int) - 0).toNat+1) 0

def m18_overflightref27_Few (p:XProblem):Option Bool:=
 jn (fun(v_1:Bool)=>
  bif v_1 then
   some false
  else
   loop1 (m18_overflightref27_Few_B0 p) (((p.capacity.length:Int) - 0).toNat+1) 0)
 (fun k8=>
  bif (decide (12<(p.cells.length:Int))) then
   k8 true
  else
   bif (decide (4<(p.capacity.length:Int))) then
    k8 true
   else
    k8 (decide (6<(p.variables.length:Int))))

theorem c18_overflightref27_Few {w:World} {O:List Nat} {p:XProblem} {Aa:Option Addr} {Ca:Nat} {Ab:Option Addr} {Cb:Nat} {Ac:Option Addr} {Cc:Nat} (hO:∀k∈O,k<w.heap.size) (Fa:SlR rXCell w O Aa Ca p.cells) (Fb:SlR (rSl (rInt .i64)) w O Ab Cb p.capacity) (Fc:SlR rXVariable w O Ac Cc p.variables) {x:Bool} (hm:m18_overflightref27_Few p=some x):
 Ok Try.prog 18 [Value.agg [Sl Aa p.cells Ca,Sl Ab p.capacity Cb,Sl Ac p.variables Cc].toArray] w O vB x:=by
 unfold m18_overflightref27_Few at hm
 refine Fn_of_Wp (n:=77) (xs:=[.tmp 2]) Try.func18 rfl Try.ntmps18 Try.results18 rfl ?_
 have hs:=St.start hO
 refine Wb<|Wa<|Rop<|op_box (cs:=[Sl Aa p.cells Ca,Sl Ab p.capacity Cb,Sl Ac p.variables Cc]) hs rfl rfl ?_
 intro b1 w2 _ p3 hs4
 refine Asg (Bo false) rfl<|Ri2<|Wb<|Wr [] [(1,Pt b1 0)] fun ξ6=>?_
 obtain⟨k8,hk9,hm⟩:=jn_elim hm
 refine Wp_seqJ q18_0 (fun fr w'=>∃(v_1:Bool) (Ebs:Ents),Ebs=[(some b1,Oc [Sl Aa p.cells Ca,Sl Ab p.capacity Cb,Sl Ac p.variables Cc] 26)]∧fr [] [(22,Bo v_1)]∧hs4.S (ks Ebs O) w'∧St ⟨w,[],[]⟩ O w' Ebs∧k8 v_1=some x) ?_ ?_
 rintro ρ15 w11 ⟨v_1,_,rfl,hfr14,hst13,hs12,hm⟩
 replace hm:=jnE1 hk9 hm
 rw [hfr14.eq];clear hfr14
 refine Wo2 hm rfl (fun hc16 hm=>?_) (fun hc16 hm=>?_)
 refine Wb ?_
 obtain⟨hs17,p18⟩:=hs12.sub (bs':=[]) (.cons _ List.Sublist.slnil)
 clear Fa Fb Fc
 clear hs12
 refine Wa<|Asg (Bo false) rfl<|Ri2<|Wp_ret<|⟨_,Clo,[Bo false],⟨rfl,trivial⟩,hs17.ext,?_⟩
 exact Vr.eq (a:=vB) (x:=false) rfl (oi hm)
 refine Ws2<|Wb<|Wb<|Wa<|Asg (Iv 0) rfl<|Ri2<|Wn2<|Wr [] [(1,Pt b1 0),(3,Iv 0)] fun ξ20=>Wp_loopM q18_4 (fun m fr w'=>∃(i_1:Int) (Ebs:Ents),Ebs=[(some b1,Oc [Sl Aa p.cells Ca,Sl Ab p.capacity Cb,Sl Ac p.variables Cc] 26)]∧fr [] [(3,Iv i_1)]∧hs12.S (ks Ebs O) w'∧St ⟨w,[],[]⟩ O w' Ebs∧InK .i64 i_1∧loop1 (m18_overflightref27_Few_B0 p) m i_1=some x) (((p.capacity.length:Int) - 0).toNat+1) ⟨0,_,rfl,Frm.of ⟨rfl,trivial⟩,Step.refl _ _,hs12,(show InK .i64 0 from by decide),hm⟩ ?_ ?_
 rintro _ _ ⟨_,_,_,_,_,_,_,hm⟩;exact loop1_z hm
 rintro m24 K23 hK23 ρ29 w25 ⟨i_1,_,rfl,hfr28,hst27,hs26,Ra,hm⟩
 obtain⟨sf21,hsf22,hm⟩:=loop1_s hm;unfold m18_overflightref27_Few_B0 at hm
 rw [hfr28.eq];clear hfr28
 have ch30:=hst27
 refine Wb<|Wb<|Wa<|Mve (Iv i_1) rfl<|Rop<|op2 1 ty26 rfl ty23 rfl rfl<|Rop<|oq2 0 ty23 hs26 rfl rfl rfl<|Rop<|op_len Try.underlying23 rfl ?_
 have p32:=(p3.trans (hst13.trans hst27))
 replace Fb:=Fb.step p32
 have rl31:=inK_len Fb
 refine Rop<|op_lss rfl rfl<|Ri2<|Wo2 hm rfl (fun hc33 hm=>?_) (fun hc33 hm=>?_)
 refine Ws2<|Wb<|Wn2<|Wb<|Wa<|Rop<|op2 1 ty26 rfl ty23 rfl rfl<|Rop<|oq2 0 ty23 hs26 rfl rfl rfl<|Mve (Iv i_1) rfl ?_
 obtain⟨hc34,hm⟩:=ck_some hm
 refine Rop<|om2 (q:=rSl (rInt .i64)) ty23 ty31 rfl rfl Fb rfl hc34.1 hc34.2 ?_
 intro p35 f36
 refine Rop<|ot2 ty31 rfl f36 rfl ?_
 intro v37 h38
 obtain⟨Ad,Cd,rfl,Fd⟩:=un_sl h38
 refine Rop<|op_len Try.underlying31 rfl ?_
 have rl40:=inK_len Fd
 refine Rop<|op_gtr rfl rfl<|Ri2<|Wo2 hm rfl (fun hc41 hm=>?_) (fun hc41 hm=>?_)
 refine Wb ?_
 clear f36 Fd
 refine Wa<|Asg (Bo false) rfl<|Ri2<|Wp_ret<|⟨_,Clo,[Bo false],⟨rfl,trivial⟩,hs26.ext,?_⟩
 exact Vr.eq (a:=vB) (x:=false) rfl (oi hm)
 refine Ws2 ?_
 clear f36 Fd
 exact Wa<|Mve (Iv i_1) rfl<|Rop<|op_addw rfl rfl<|Asg (Iv (IntKind.wrap .i64 (i_1+1))) rfl<|Ri2<|hK23 _ _ ⟨(IntKind.wrap .i64 (i_1+1)),_,rfl,Frm.of ⟨rfl,trivial⟩,ch30,hs26,(inK_wrap .i64 _),jnE1 hsf22 hm⟩
 refine Wp_exit<|Wb<|Wb<|Wa<|Asg (Iv 0) rfl<|Ri2<|Wn2<|Wr [] [(1,Pt b1 0),(4,Iv 0)] fun ξ43=>Wp_loopM q18_3 (fun m fr w'=>∃(i_2:Int) (Ebs:Ents),Ebs=[(some b1,Oc [Sl Aa p.cells Ca,Sl Ab p.capacity Cb,Sl Ac p.variables Cc] 26)]∧fr [] [(4,Iv i_2)]∧hs26.S (ks Ebs O) w'∧St ⟨w,[],[]⟩ O w' Ebs∧InK .i64 i_2∧loop1 (m18_overflightref27_Few_B1 p) m i_2=some x) (((p.variables.length:Int) - 0).toNat+1) ⟨0,_,rfl,Frm.of ⟨rfl,trivial⟩,Step.refl _ _,hs26,(show InK .i64 0 from by decide),hm⟩ ?_ ?_
 rintro _ _ ⟨_,_,_,_,_,_,_,hm⟩;exact loop1_z hm
 rintro m47 K46 hK46 ρ52 w48 ⟨i_2,_,rfl,hfr51,hst50,hs49,Rb,hm⟩
 obtain⟨sf44,hsf45,hm⟩:=loop1_s hm;unfold m18_overflightref27_Few_B1 at hm
 rw [hfr51.eq];clear hfr51
 have ch53:=hst50
 refine Wb<|Wb<|Wa<|Mve (Iv i_2) rfl<|Rop<|op2 2 ty26 rfl ty24 rfl rfl<|Rop<|oq2 0 ty24 hs49 rfl rfl rfl<|Rop<|op_len Try.underlying24 rfl ?_
 have p55:=(p32.trans hst50)
 replace Fc:=Fc.step p55
 have rl54:=inK_len Fc
 refine Rop<|op_lss rfl rfl<|Ri2<|Wo2 hm rfl (fun hc56 hm=>?_) (fun hc56 hm=>?_)
 refine Ws2<|Wb<|Wn2<|Wb<|Wa<|Rop<|op2 2 ty26 rfl ty24 rfl rfl<|Rop<|oq2 0 ty24 hs49 rfl rfl rfl<|Mve (Iv i_2) rfl ?_
 obtain⟨hc57,hm⟩:=ck_some hm
 refine Rop<|om2 (q:=rXVariable) ty24 ty61 rfl rfl Fc rfl hc57.1 hc57.2 ?_
 intro p58 f59
 refine Rop<|op_loadPA ty61 rfl f59 rfl ?_
 intro vs60 h61
 obtain⟨_,_,rfl,⟨rfl,Rc⟩,⟨_,_,rfl,⟨rfl,Rd⟩,⟨_,_,rfl,⟨Ae,Ce,rfl,Fe⟩,⟨Af,Cf,rfl,Ff⟩⟩⟩⟩:=h61
 refine Rop<|op_alloc ty61 hs49 ?_
 intro b63 w64 _ p65 hs66
 clear hs49
 refine Rg_op_<|op_stA .z ty61 hs66 rfl rfl rfl rfl rfl ?_
 intro w68 p69 hs70
 clear hs66
 refine Ri2<|Wb<|Wr2 q18_3 [] (updL ⟨ξ43,[]⟩ [(1,Pt b1 0),(4,Iv 0)]) [(4,Iv i_2),(5,Pt b63 0)] fun ξ71=>?_
 obtain⟨k73,hk74,hm⟩:=jn_elim hm
 refine Wp_seqJ q18_1 (fun fr w'=>∃(v_2:Bool) (Ebs:Ents),Ebs=[(some b63,Oc [Iv ((p.variables.getD i_2.toNat default).flight),Iv ((p.variables.getD i_2.toNat default).node),Sl Ae ((p.variables.getD i_2.toNat default).leaves) Ce,Sl Af ((p.variables.getD i_2.toNat default).choices) Cf] 61),(some b1,Oc [Sl Aa p.cells Ca,Sl Ab p.capacity Cb,Sl Ac p.variables Cc] 26)]∧fr [] [(58,Bo v_2)]∧hs70.S (ks Ebs O) w'∧St ⟨w,[],[]⟩ O w' Ebs∧k73 v_2=some x) ?_ ?_
 rintro ρ80 w76 ⟨v_2,_,rfl,hfr79,hst78,hs77,hm⟩
 replace hm:=jnE1 hk74 hm
 rw [hfr79.eq];clear hfr79
 refine Wo2 hm rfl (fun hc81 hm=>?_) (fun hc81 hm=>?_)
 refine Wb ?_
 clear f59
 refine Wa<|Asg (Bo false) rfl<|Ri2<|Wp_ret<|⟨_,Clo,[Bo false],⟨rfl,trivial⟩,hs77.ext,?_⟩
 exact Vr.eq (a:=vB) (x:=false) rfl (oi hm)
 refine Ws2<|Wb ?_
 clear f59
 refine Wa<|Asg (Iv 0) rfl<|Ri2<|Wn2<|Wr2 q18_3 [] (updL ⟨ξ43,[]⟩ [(1,Pt b1 0),(4,Iv 0)]) [(4,Iv i_2),(5,Pt b63 0),(6,Iv 0)] fun ξ83=>Wp_loopM q18_2 (fun m fr w'=>∃(k_1:Int) (Ebs:Ents),Ebs=[(some b63,Oc [Iv ((p.variables.getD i_2.toNat default).flight),Iv ((p.variables.getD i_2.toNat default).node),Sl Ae ((p.variables.getD i_2.toNat default).leaves) Ce,Sl Af ((p.variables.getD i_2.toNat default).choices) Cf] 61),(some b1,Oc [Sl Aa p.cells Ca,Sl Ab p.capacity Cb,Sl Ac p.variables Cc] 26)]∧fr [] [(6,Iv k_1)]∧hs77.S (ks Ebs O) w'∧St ⟨w,[],[]⟩ O w' Ebs∧InK .i64 k_1∧loop1 (m18_overflightref27_Few_B2 p i_2 sf44) m k_1=some x) (((((p.variables.getD i_2.toNat default).choices).length:Int) - 0).toNat+1) ⟨0,_,rfl,Frm.of ⟨rfl,trivial⟩,Step.refl _ _,hs77,(show InK .i64 0 from by decide),hm⟩ ?_ ?_
 rintro _ _ ⟨_,_,_,_,_,_,_,hm⟩;exact loop1_z hm
 rintro m87 K86 hK86 ρ92 w88 ⟨k_1,_,rfl,hfr91,hst90,hs89,Re,hm⟩
 obtain⟨sf84,hsf85,hm⟩:=loop1_s hm;unfold m18_overflightref27_Few_B2 at hm
 rw [hfr91.eq];clear hfr91
 have ch93:=hst90
 refine Wb<|Wb<|Wa<|Mve (Iv k_1) rfl<|Rop<|op2 3 ty61 rfl ty59 rfl rfl<|Rop<|oq2 0 ty59 hs89 rfl rfl rfl<|Rop<|op_len Try.underlying59 rfl ?_
 have p95:=(p65.trans (p69.trans (hst78.trans hst90)))
 replace Ff:=Ff.step p95
 have rl94:=inK_len Ff
 refine Rop<|op_lss rfl rfl<|Ri2<|Wo2 hm rfl (fun hc96 hm=>?_) (fun hc96 hm=>?_)
 refine Ws2<|Wb<|Wn2<|Wb<|Wa<|Rop<|op2 3 ty61 rfl ty59 rfl rfl<|Rop<|oq2 0 ty59 hs89 rfl rfl rfl<|Mve (Iv k_1) rfl ?_
 obtain⟨hc97,hm⟩:=ck_some hm
 refine Rop<|om2 (q:=rXChoice) ty59 ty58 rfl rfl Ff rfl hc97.1 hc97.2 ?_
 intro p98 f99
 refine Rop<|op_fieldAddr ty58 rfl ty56 (by decide) rfl rfl ?_
 have f100:=f99.via.snd.snd.snd
 refine Rop<|ot2 ty56 rfl f100 rfl ?_
 intro v101 h102
 obtain⟨Ag,Cg,rfl,Fg⟩:=un_sl h102
 refine Rop<|op_len Try.underlying56 rfl ?_
 have rl104:=inK_len Fg
 refine Rop<|op_gtr rfl rfl<|Ri2<|Wo2 hm rfl (fun hc105 hm=>?_) (fun hc105 hm=>?_)
 refine Wb ?_
 clear f99 f100 Fg
 refine Wa<|Asg (Bo false) rfl<|Ri2<|Wp_ret<|⟨_,Clo,[Bo false],⟨rfl,trivial⟩,hs89.ext,?_⟩
 exact Vr.eq (a:=vB) (x:=false) rfl (oi hm)
 refine Ws2 ?_
 clear f99 f100 Fg
 exact Wa<|Mve (Iv k_1) rfl<|Rop<|op_addw rfl rfl<|Asg (Iv (IntKind.wrap .i64 (k_1+1))) rfl<|Ri2<|hK86 _ _ ⟨(IntKind.wrap .i64 (k_1+1)),_,rfl,Frm.of ⟨rfl,trivial⟩,ch93,hs89,(inK_wrap .i64 _),jnE1 hsf85 hm⟩
 refine Wp_exit<|Wa<|Mve (Iv i_2) rfl<|Rop<|op_addw rfl rfl<|Asg (Iv (IntKind.wrap .i64 (i_2+1))) rfl<|Ri2 ?_
 have hs106:=hs89.drop 0
 have p107:=(hs89.dropS 0)
 clear hs89
 have p108:=(p95.trans p107)
 replace ch53:=ch53.trans p108
 exact hK46 _ _ ⟨(IntKind.wrap .i64 (i_2+1)),_,rfl,Frm.of ⟨rfl,trivial⟩,ch53,hs106,(inK_wrap .i64 _),jnE1 hsf45 hm⟩
 intro K75 hK75
 have ch109:=hs70.stepR
 clear f59
 refine Wa<|Rop<|op2 2 ty61 rfl ty31 rfl rfl<|Rop<|oq2 0 ty31 hs70 rfl rfl rfl<|Rop<|op_len Try.underlying31 rfl ?_
 have p111:=(p65.trans p69)
 replace Fe:=Fe.step p111
 have rl110:=inK_len Fe
 refine Rop<|op_gtr rfl rfl<|Mve (Bo (decide (8<(((p.variables.getD i_2.toNat default).leaves).length:Int)))) rfl<|Rg_caseM hm (fun hg112 hm=>?_) (fun hg112 hm=>?_)
 iterate 4 refine Rl2 rfl (asB_ne rfl rfl) rfl ?_
 exact Pkt (Bo true) rfl rfl<|Ri2<|hK75 _ _ ⟨true,_,rfl,Frm.of ⟨rfl,trivial⟩,ch109,hs70,hm⟩
 refine Rog rfl rfl<|op2 3 ty61 rfl ty59 rfl rfl<|Rog rfl rfl<|oq2 0 ty59 hs70 rfl rfl rfl<|Rog rfl rfl<|op_len Try.underlying59 rfl ?_
 replace Ff:=Ff.step p111
 have rl113:=inK_len Ff
 exact Rog rfl rfl<|op_gtr rfl rfl<|Pkf (Bo (decide (8<(((p.variables.getD i_2.toNat default).choices).length:Int)))) rfl rfl<|Ri2<|hK75 _ _ ⟨decide (8<(((p.variables.getD i_2.toNat default).choices).length:Int)),_,rfl,Frm.of ⟨rfl,trivial⟩,ch109,hs70,hm⟩
 refine Wp_exit<|Wb<|Wa<|Rop<|op_ldA 0 ty26 hs49 rfl rfl rfl ?_
 obtain⟨many_1,hv114,hm⟩:=bd hm
 replace Fb:=Fb.step hst50;replace Fa:=Fa.step p55
 refine Rop<|op_callE hs49 Try.call30 (c30_overflightref27_Many (p:=p) (limit:=2000) hs49.ltw Fa Fb Fc (show InK .i64 2000 from by decide) hv114) rfl ?_
 rintro v115 w116 p120 hs119 h118
 clear hs49
 obtain⟨rfl,Rf⟩:=h118
 refine Rop<|op_lss rfl rfl<|Asg (Bo (decide (many_1<2000))) rfl<|Ri2<|Wp_ret<|⟨_,Clo,[Bo (decide (many_1<2000))],⟨rfl,trivial⟩,hs119.ext,?_⟩
 exact Vr.eq (a:=vB) (x:=decide (many_1<2000)) rfl (oi hm)
 intro K10 hK10
 have ch122:=hs4.stepR
 refine Wa<|Rop<|op2 0 ty26 rfl ty22 rfl rfl<|Rop<|oq2 0 ty22 hs4 rfl rfl rfl<|Rop<|op_len Try.underlying22 rfl ?_
 replace Fa:=Fa.step p3
 have rl123:=inK_len Fa
 refine Rop<|op_gtr rfl rfl<|Mve (Bo (decide (12<(p.cells.length:Int)))) rfl<|Rg_caseM hm (fun hg124 hm=>?_) (fun hg124 hm=>?_)
 iterate 4 refine Rl2 rfl (asB_ne rfl rfl) rfl ?_
 refine Pkt (Bo true) rfl rfl<|Mve (Bo true) rfl ?_
 iterate 4 refine Rl2 rfl (asB_ne rfl rfl) rfl ?_
 exact Pkt (Bo true) rfl rfl<|Ri2<|hK10 _ _ ⟨true,_,rfl,Frm.of ⟨rfl,trivial⟩,ch122,hs4,hm⟩
 refine Rog rfl rfl<|op2 1 ty26 rfl ty23 rfl rfl<|Rog rfl rfl<|oq2 0 ty23 hs4 rfl rfl rfl<|Rog rfl rfl<|op_len Try.underlying23 rfl ?_
 replace Fb:=Fb.step p3
 have rl125:=inK_len Fb
 refine Rog rfl rfl<|op_gtr rfl rfl<|Pkf (Bo (decide (4<(p.capacity.length:Int)))) rfl rfl<|Mve (Bo (decide (4<(p.capacity.length:Int)))) rfl<|Rg_caseM hm (fun hg126 hm=>?_) (fun hg126 hm=>?_)
 iterate 4 refine Rl2 rfl (asB_ne rfl rfl) rfl ?_
 exact Pkt (Bo true) rfl rfl<|Ri2<|hK10 _ _ ⟨true,_,rfl,Frm.of ⟨rfl,trivial⟩,ch122,hs4,hm⟩
 refine Rog rfl rfl<|op2 2 ty26 rfl ty24 rfl rfl<|Rog rfl rfl<|oq2 0 ty24 hs4 rfl rfl rfl<|Rog rfl rfl<|op_len Try.underlying24 rfl ?_
 replace Fc:=Fc.step p3
 have rl127:=inK_len Fc
 exact Rog rfl rfl<|op_gtr rfl rfl<|Pkf (Bo (decide (6<(p.variables.length:Int)))) rfl rfl<|Ri2<|hK10 _ _ ⟨decide (6<(p.variables.length:Int)),_,rfl,Frm.of ⟨rfl,trivial⟩,ch122,hs4,hm⟩

def m60_overflightref27_Before (a:XCell) (b:XCell):Option Bool:=
 bif (!(a.airport == b.airport)) then
  some b.airport
 else
  bif (decide (a.index≠b.index)) then
   some (decide (a.index<b.index))
  else
   some (decide (a.minute<b.minute))

theorem c60_overflightref27_Before {w:World} {O:List Nat} {a:XCell} {b:XCell} (hO:∀k∈O,k<w.heap.size) (Ra:InK .i64 a.index) (Rb:InK .i64 a.minute) (Rc:InK .i64 b.index) (Rd:InK .i64 b.minute) {x:Bool} (hm:m60_overflightref27_Before a b=some x):
 Ok Try.prog 60 [Value.agg [Bo a.airport,Iv a.index,Iv a.minute].toArray,Value.agg [Bo b.airport,Iv b.index,Iv b.minute].toArray] w O vB x:=by
 unfold m60_overflightref27_Before at hm
 refine Fn_of_Wp (n:=27) (xs:=[.tmp 4]) Try.func60 rfl Try.ntmps60 Try.results60 rfl ?_
 have hs:=St.start hO
 refine Wb<|Wa<|Rop<|op_box (cs:=[Bo a.airport,Iv a.index,Iv a.minute]) hs rfl rfl ?_
 intro b1 w2 _ p3 hs4
 refine Rop<|op_box (cs:=[Bo b.airport,Iv b.index,Iv b.minute]) hs4 rfl rfl ?_
 intro b6 w7 _ p8 hs9
 clear hs4
 refine Asg (Bo false) rfl<|Ri2<|Wb<|Wb<|Wa<|Rop<|op2 0 ty67 rfl ty4 rfl rfl<|Rop<|oq2 1 ty4 hs9 rfl rfl rfl<|Rop<|op2 0 ty67 rfl ty4 rfl rfl<|Rop<|oq2 0 ty4 hs9 rfl rfl rfl<|Rop<|op_neqb Try.underlying4 rfl rfl<|Ri2<|Wo2 hm rfl (fun hc11 hm=>?_) (fun hc11 hm=>?_)
 refine Wb ?_
 obtain⟨hs12,p13⟩:=hs9.sub (bs':=[(some b6,Oc [Bo b.airport,Iv b.index,Iv b.minute] 67)]) (.cons_cons _ (.cons _ List.Sublist.slnil))
 clear hs9
 refine Wa<|Rop<|op2 0 ty67 rfl ty4 rfl rfl<|Rop<|oq2 0 ty4 hs12 rfl rfl rfl<|Asg (Bo b.airport) rfl<|Ri2<|Wp_ret<|⟨_,Clo,[Bo b.airport],⟨rfl,trivial⟩,hs12.ext,?_⟩
 exact Vr.eq (a:=vB) (x:=b.airport) rfl (oi hm)
 refine Ws2<|Wb<|Wb<|Wa<|Rop<|op2 1 ty67 rfl ty3 rfl rfl<|Rop<|oq2 1 ty3 hs9 rfl rfl rfl<|Rop<|op2 1 ty67 rfl ty3 rfl rfl<|Rop<|oq2 0 ty3 hs9 rfl rfl rfl<|Rop<|op_neq rfl rfl<|Ri2<|Wo2 hm rfl (fun hc14 hm=>?_) (fun hc14 hm=>?_)
 refine Wb<|Wa<|Rop<|op2 1 ty67 rfl ty3 rfl rfl<|Rop<|oq2 1 ty3 hs9 rfl rfl rfl<|Rop<|op2 1 ty67 rfl ty3 rfl rfl<|Rop<|oq2 0 ty3 hs9 rfl rfl rfl<|Rop<|op_lss rfl rfl<|Asg (Bo (decide (a.index<b.index))) rfl<|Ri2<|Wp_ret<|⟨_,Clo,[Bo (decide (a.index<b.index))],⟨rfl,trivial⟩,hs9.ext,?_⟩
 exact Vr.eq (a:=vB) (x:=decide (a.index<b.index)) rfl (oi hm)
 refine Ws2<|Wb<|Wa<|Rop<|op2 2 ty67 rfl ty3 rfl rfl<|Rop<|oq2 1 ty3 hs9 rfl rfl rfl<|Rop<|op2 2 ty67 rfl ty3 rfl rfl<|Rop<|oq2 0 ty3 hs9 rfl rfl rfl<|Rop<|op_lss rfl rfl<|Asg (Bo (decide (a.minute<b.minute))) rfl<|Ri2<|Wp_ret<|⟨_,Clo,[Bo (decide (a.minute<b.minute))],⟨rfl,trivial⟩,hs9.ext,?_⟩
 exact Vr.eq (a:=vB) (x:=decide (a.minute<b.minute)) rfl (oi hm)

def m61_overflightref27_within (n:Int) (lo:Int) (hi:Int):Option Bool:=
 bif (decide (lo≤n)) then
  some (decide (n≤hi))
 else
  some false

theorem c61_overflightref27_within {w:World} {O:List Nat} {n:Int} {lo:Int} {hi:Int} (hO:∀k∈O,k<w.heap.size) (Ra:InK .i64 n) (Rb:InK .i64 lo) (Rc:InK .i64 hi) {x:Bool} (hm:m61_overflightref27_within n lo hi=some x):
 Ok Try.prog 61 [Iv n,Iv lo,Iv hi] w O vB x:=by
 unfold m61_overflightref27_within at hm
 refine Fn_of_Wp (n:=15) (xs:=[.tmp 6]) Try.func61 rfl Try.ntmps61 Try.results61 rfl ?_
 have hs:=St.start hO
 refine Wb<|Wa<|Asg (Bo false) rfl<|Ri2<|Wb<|Wa<|Mve (Iv lo) rfl<|Mve (Iv n) rfl<|Rop<|op_leq rfl rfl<|Mve (Bo (decide (lo≤n))) rfl<|Rg_caseM hm (fun hg1 hm=>?_) (fun hg1 hm=>?_)
 refine Rog rfl rfl<|ok2 (v:=Iv n) rfl<|Rog rfl rfl<|ok2 (v:=Iv hi) rfl<|Rog rfl rfl<|op_leq rfl rfl<|Pkt (Bo (decide (n≤hi))) rfl rfl<|Asg (Bo (decide (n≤hi))) rfl<|Ri2<|Wp_ret<|⟨_,Clo,[Bo (decide (n≤hi))],⟨rfl,trivial⟩,hs.ext,?_⟩
 exact Vr.eq (a:=vB) (x:=decide (n≤hi)) rfl (oi hm)
 iterate 3 refine Rl2 rfl (asB_ne rfl rfl) rfl ?_
 refine Pkf (Bo false) rfl rfl<|Asg (Bo false) rfl<|Ri2<|Wp_ret<|⟨_,Clo,[Bo false],⟨rfl,trivial⟩,hs.ext,?_⟩
 exact Vr.eq (a:=vB) (x:=false) rfl (oi hm)

abbrev q81_0:List Nat:=[4,5,6,7,8,9,10,11,12,13,14,15,16,17,18]

def m81_overflightref27_at_B0 (l:List XCell) (c:XCell) (sf8:Int→Option Int) (i_1:Int):Option Int:=
 bif (decide (i_1<(l.length:Int))) then
  ck ((0:Int)≤i_1∧i_1<(l.length:Int))<|
  bif (decide ((l.getD i_1.toNat default)=c)) then
   some i_1
  else
   sf8 (IntKind.wrap .i64 (i_1+1))
 else
  some (-1)

def m81_overflightref27_at (l:List XCell) (c:XCell):Option Int:=
 loop1 (m81_overflightref27_at_B0 l c) (((l.length:Int) - 0).toNat+1) 0

theorem c81_overflightref27_at {w:World} {O:List Nat} {l:List XCell} {c:XCell} {Aa:Option Addr} {Ca:Nat} (hO:∀k∈O,k<w.heap.size) (Fa:SlR rXCell w O Aa Ca l) (Ra:InK .i64 c.index) (Rb:InK .i64 c.minute) {x:Int} (hm:m81_overflightref27_at l c=some x):
 Ok Try.prog 81 [Sl Aa l Ca,Value.agg [Bo c.airport,Iv c.index,Iv c.minute].toArray] w O (vI .i64) x:=by
 unfold m81_overflightref27_at at hm
 refine Fn_of_Wp (n:=19) (xs:=[.tmp 4]) Try.func81 rfl Try.ntmps81 Try.results81 rfl ?_
 have hs:=St.start hO
 refine Wb<|Wa<|Rop<|op_box (cs:=[Bo c.airport,Iv c.index,Iv c.minute]) hs rfl rfl ?_
 intro b1 w2 _ p3 hs4
 refine Asg (Iv 0) rfl<|Ri2<|Wb<|Wb<|Wa<|Asg (Iv 0) rfl<|Ri2<|Wn2<|Wr [] [(0,Sl Aa l Ca),(3,Pt b1 0),(5,Iv 0)] fun ξ7=>Wp_loopM q81_0 (fun m fr w'=>∃(i_1:Int) (Ebs:Ents),Ebs=[(some b1,Oc [Bo c.airport,Iv c.index,Iv c.minute] 67)]∧fr [] [(5,Iv i_1)]∧hs4.S (ks Ebs O) w'∧St ⟨w,[],[]⟩ O w' Ebs∧InK .i64 i_1∧loop1 (m81_overflightref27_at_B0 l c) m i_1=some x) (((l.length:Int) - 0).toNat+1) ⟨0,_,rfl,Frm.of ⟨rfl,trivial⟩,Step.refl _ _,hs4,(show InK .i64 0 from by decide),hm⟩ ?_ ?_
 rintro _ _ ⟨_,_,_,_,_,_,_,hm⟩;exact loop1_z hm
 rintro m11 K10 hK10 ρ16 w12 ⟨i_1,_,rfl,hfr15,hst14,hs13,Rc,hm⟩
 obtain⟨sf8,hsf9,hm⟩:=loop1_s hm;unfold m81_overflightref27_at_B0 at hm
 rw [hfr15.eq];clear hfr15
 have ch17:=hst14
 refine Wb<|Wb<|Wa<|Mve (Iv i_1) rfl<|Mve (Sl Aa l Ca) rfl<|Rop<|op_len Try.underlying22 rfl ?_
 replace Fa:=Fa.step (p3.trans hst14)
 have rl18:=inK_len Fa
 refine Rop<|op_lss rfl rfl<|Ri2<|Wo2 hm rfl (fun hc19 hm=>?_) (fun hc19 hm=>?_)
 refine Ws2<|Wb<|Wn2<|Wb<|Wp_drawR (g0:=[]) (m:=5) (fl:=[]) (TS_inv hs13) rfl (.inl rfl) rfl (by decide+kernel) ?_  -- 4
 refine Dw_p (Sl Aa l Ca) (fun _ _ _ hi ht=>ok2 (v:=Sl Aa l Ca) (ht 0 rfl)<|Gz hi)<|Dw_p (Iv i_1) (fun _ _ _ hi ht=>ok2 (v:=Iv i_1) (ht 5 rfl)<|Gz hi) ?_
 obtain⟨hc29,hm⟩:=ck_some hm
 refine Dw_op (VP _ _ rXCell (l.getD i_1.toNat default)) (VP.stab _ _) (fun ρ26 w27 g hle hi ht=>?_) ?_
 obtain⟨-,hst,-⟩:=hle
 replace Fa:=Fa.step hst
 refine Sj2<|om2 (q:=rXCell) ty22 ty67 (ht 12 rfl) (ht 13 rfl) Fa rfl hc29.1 hc29.2 ?_
 intro p30 f31
 exact Goes.same hi ⟨_,rfl,f31⟩
 refine Dw_op (VD _ _ (vA rXCell) (l.getD i_1.toNat default)) (VD.stab _ _) (fun ρ32 w33 g hle hi ht=>?_) ?_
 obtain⟨p35,q36,f37⟩:=ht 14 rfl
 refine Sj2<|op_loadPA ty67 q36 f37 rfl ?_
 intro vs38 h39
 obtain⟨_,_,rfl,rfl,⟨_,_,rfl,⟨rfl,Rd⟩,⟨rfl,Re⟩⟩⟩:=h39
 exact Goes.same hi (show Vr.vd (vA rXCell) _ _ _ _ from(mkA (mkVia (mk_pair mkBool (mk_pair (mk_int Rd) (mk_int Re))))))
 refine Dw_p (Value.agg [Bo c.airport,Iv c.index,Iv c.minute].toArray) (fun _ _ _ hi ht=>op_ldA 0 ty67 (Step.nx hi).1 (ht 3 rfl) rfl rfl<|Gz hi)<|Dw_nil fun w48 g49 hl50 hi51=>?_
 obtain⟨-,hst52,-⟩:=hl50
 obtain⟨hs54,p53⟩:=Step.nx hi51
 rintro _ rfl v55 h56
 replace h56:Vr.vd (vA rXCell) _ _ _ _:=h56
 obtain⟨_,rfl,⟨_,_,rfl,rfl,⟨_,_,rfl,⟨rfl,Rf⟩,⟨rfl,Rg⟩⟩⟩⟩:=h56
 rintro _ ⟨p58,rfl,f59⟩ _ rfl _ rfl
 have p60:=hs13.to hs54 (hst52.trans p53)
 replace f59:=f59.step p53;clear hs13
 refine Rop<|op_eqlA (c:=decide ((l.getD i_1.toNat default)=c)) rfl rfl eqg67 (eqv67 9998 (l.getD i_1.toNat default) c _)<|Ri2<|Wo2 hm rfl (fun hc61 hm=>?_) (fun hc61 hm=>?_)
 refine Wb ?_
 clear Fa f59
 refine Wa<|Mve (Iv i_1) rfl<|Asg (Iv i_1) rfl<|Ri2<|Wp_ret<|⟨_,Clo,[Iv i_1],⟨rfl,trivial⟩,hs54.ext,?_⟩
 exact Vr.eq (a:=(vI .i64)) (x:=i_1) ⟨rfl,Rc⟩ (oi hm)
 refine Ws2 ?_
 clear f59
 refine Wa<|Mve (Iv i_1) rfl<|Rop<|op_addw rfl rfl<|Asg (Iv (IntKind.wrap .i64 (i_1+1))) rfl<|Ri2 ?_
 replace ch17:=ch17.trans p60
 exact hK10 _ _ ⟨(IntKind.wrap .i64 (i_1+1)),_,rfl,Frm.of ⟨rfl,trivial⟩,ch17,hs54,(inK_wrap .i64 _),jnE1 hsf9 hm⟩
 refine Wp_exit<|Wb ?_
 obtain⟨hs62,p63⟩:=hs13.sub (bs':=[]) (.cons _ List.Sublist.slnil)
 clear Fa
 clear hs13
 refine Wa<|Asg (Iv (-1)) rfl<|Ri2<|Wp_ret<|⟨_,Clo,[Iv (-1)],⟨rfl,trivial⟩,hs62.ext,?_⟩
 exact Vr.eq (a:=(vI .i64)) (x:=(-1)) ⟨rfl,(show InK .i64 (-1) from by decide)⟩ (oi hm)

abbrev q62_4:List Nat:=[102,103,104,105,106,107,108,109,110,111,112,113,114,115,116,117,118,119,120,121,122,123,124,125,126,127,128,129,130]

abbrev q62_5:List Nat:=[4,8,9,90,91,92,93,94,95,96,97,98,99,100,101,102,103,104,105,106,107,108,109,110,111,112,113,114,115,116,117,118,119,120,121,122,123,124,125,126,127,128,129,130]

abbrev q62_3:List Nat:=[74,75,76,77,78,79,80,81,82,83,84,85,86,87,88,89]

abbrev q62_6:List Nat:=[4,6,7,8,9,62,63,64,65,66,67,68,69,70,71,72,73,74,75,76,77,78,79,80,81,82,83,84,85,86,87,88,89,90,91,92,93,94,95,96,97,98,99,100,101,102,103,104,105,106,107,108,109,110,111,112,113,114,115,116,117,118,119,120,121,122,123,124,125,126,127,128,129,130]

abbrev q62_1:List Nat:=[33,34,35,36,37,38,39,40,41,42,43,44,45,46,47,48,49,50,51,52,53,54,55,56,57,58,59,60,61]

abbrev q62_2:List Nat:=[4,5,26,27,28,29,30,31,32,33,34,35,36,37,38,39,40,41,42,43,44,45,46,47,48,49,50,51,52,53,54,55,56,57,58,59,60,61]

abbrev q62_0:List Nat:=[10,11,12,13,14,15,16,17,18,19,20,21,22,23,24,25]

def m62_overflightref27_variable_B2 (p:XProblem) (v:XVariable) (i_2:Int) (sf242:Int→Option Bool) (sf282:Int→Option Bool) (k_1:Int):Option Bool:=
 bif (decide (k_1<(((v.choices.getD i_2.toNat default).uses).length:Int))) then
  ck ((0:Int)≤k_1∧k_1<(((v.choices.getD i_2.toNat default).uses).length:Int))<|
  jn (fun(v_4:Bool)=>
   bif v_4 then
    some false
   else
    sf282 (IntKind.wrap .i64 (k_1+1)))
  (fun k311=>
   (m81_overflightref27_at p.cells ((((v.choices.getD i_2.toNat default).uses).getD k_1.toNat default).cell)).bind fun at_1=>
   bif (decide (at_1<0)) then
    k311 true
   else
    (m61_overflightref27_within ((((v.choices.getD i_2.toNat default).uses).getD k_1.toNat default).places) 1 8).bind fun within_2=>
    bif (!within_2) then
     k311 true
    else
     bif (decide (0<k_1)) then
      ck ((0:Int)≤(IntKind.wrap .i64 (k_1 - 1))∧(IntKind.wrap .i64 (k_1 - 1))<(((v.choices.getD i_2.toNat default).uses).length:Int))<|
      (m60_overflightref27_Before ((((v.choices.getD i_2.toNat default).uses).getD (IntKind.wrap .i64 (k_1 - 1)).toNat default).cell) ((((v.choices.getD i_2.toNat default).uses).getD k_1.toNat default).cell)).bind fun before_1=>
      k311 (!before_1)
     else
      k311 false)
 else
  sf242 (IntKind.wrap .i64 (i_2+1))

def m62_overflightref27_variable_B1 (p:XProblem) (v:XVariable) (sf242:Int→Option Bool) (i_2:Int):Option Bool:=
 bif (decide (i_2<(v.choices.length:Int))) then
  ck ((0:Int)≤i_2∧i_2<(v.choices.length:Int))<|
  jn (fun(v_3:Bool)=>
   bif v_3 then
    some false
   else
    loop1 (m62_overflightref27_variable_B2 p v i_2 sf242) (((((v.choices.getD i_2.toNat default).uses).length:Int) - 0).toNat+1) 0)
  (fun k271=>
   (m61_overflightref27_within ((v.choices.getD i_2.toNat default).delay) 0 1048576).bind fun within_3=>
   bif (!within_3) then
    k271 true
   else
    (m61_overflightref27_within ((v.choices.getD i_2.toNat default).cost) 0 1048576).bind fun within_4=>
    bif (!within_4) then
     k271 true
    else
     (m61_overflightref27_within ((v.choices.getD i_2.toNat default).changes) 0 1048576).bind fun within_5=>
     k271 (!within_5))
 else
  some true

def m62_overflightref27_variable_B0 (p:XProblem) (v:XVariable) (sf26:Int→Option Bool) (i_1:Int):Option Bool:=
 bif (decide (i_1<(v.leaves.length:Int))) then
  jn (fun(v_2:Bool)=>
   bif v_2 then
    some false
   else
    sf26 (IntKind.wrap .i64 (i_1+1)))
  (fun k41=>
   ck ((0:Int)≤i_1∧i_1<(v.leaves.length:Int))<|
   (m61_overflightref27_within (v.leaves.getD i_1.toNat default) 0 (IntKind.wrap .i64 ((p.capacity.length:Int) - 1))).bind fun within_1=>
   bif (!within_1) then
    k41 true
   else
    bif (decide (0<i_1)) then
     ck ((0:Int)≤(IntKind.wrap .i64 (i_1 - 1))∧(IntKind.wrap .i64 (i_1 - 1))<(v.leaves.length:Int))<|
     ck ((0:Int)≤i_1∧i_1<(v.leaves.length:Int))<|
     k41 (decide ((v.leaves.getD i_1.toNat default)≤(v.leaves.getD (IntKind.wrap .i64 (i_1 - 1)).toNat default)))
    else
     k41 false)
 else
  loop1 (m62_overflightref27_variable_B1 p v) (((v.choices.length:Int) - 0).toNat+1) 0

def m62_overflightref27_variable (p:XProblem) (v:XVariable):Option Bool:=
 jn (fun(v_1:Bool)=>
  bif v_1 then
   some false
  else
   loop1 (m62_overflightref27_variable_B0 p v) (((v.leaves.length:Int) - 0).toNat+1) 0)
 (fun k13=>
  bif (decide ((v.leaves.length:Int)<1)) then
   k13 true
  else
   bif (decide ((v.choices.length:Int)<1)) then
    k13 true
   else
    k13 (decide (96<(v.choices.length:Int))))

theorem c62_overflightref27_variable {w:World} {O:List Nat} {p:XProblem} {v:XVariable} {Aa:Option Addr} {Ca:Nat} {Ab:Option Addr} {Cb:Nat} {Ac:Option Addr} {Cc:Nat} {Ad:Option Addr} {Cd:Nat} {Ae:Option Addr} {Ce:Nat} (hO:∀k∈O,k<w.heap.size) (Fa:SlR rXCell w O Aa Ca p.cells) (Fb:SlR (rSl (rInt .i64)) w O Ab Cb p.capacity) (Fc:SlR rXVariable w O Ac Cc p.variables) (Ra:InK .i64 v.flight) (Rb:InK .i64 v.node) (Fd:SlR (rInt .i64) w O Ad Cd v.leaves) (Fe:SlR rXChoice w O Ae Ce v.choices) {x:Bool} (hm:m62_overflightref27_variable p v=some x):
 Ok Try.prog 62 [Value.agg [Sl Aa p.cells Ca,Sl Ab p.capacity Cb,Sl Ac p.variables Cc].toArray,Value.agg [Iv v.flight,Iv v.node,Sl Ad v.leaves Cd,Sl Ae v.choices Ce].toArray] w O vB x:=by
 unfold m62_overflightref27_variable at hm
 refine Fn_of_Wp (n:=131) (xs:=[.tmp 4]) Try.func62 rfl Try.ntmps62 Try.results62 rfl ?_
 have hs:=St.start hO
 refine Wb<|Wa<|Rop<|op_box (cs:=[Sl Aa p.cells Ca,Sl Ab p.capacity Cb,Sl Ac p.variables Cc]) hs rfl rfl ?_
 intro b1 w2 _ p3 hs4
 refine Rop<|op_box (cs:=[Iv v.flight,Iv v.node,Sl Ad v.leaves Cd,Sl Ae v.choices Ce]) hs4 rfl rfl ?_
 intro b6 w7 _ p8 hs9
 clear hs4
 refine Asg (Bo false) rfl<|Ri2<|Wb<|Wr [] [(2,Pt b1 0),(3,Pt b6 0)] fun ξ11=>?_
 obtain⟨k13,hk14,hm⟩:=jn_elim hm
 refine Wp_seqJ q62_0 (fun fr w'=>∃(v_1:Bool) (Ebs:Ents),Ebs=[(some b6,Oc [Iv v.flight,Iv v.node,Sl Ad v.leaves Cd,Sl Ae v.choices Ce] 61),(some b1,Oc [Sl Aa p.cells Ca,Sl Ab p.capacity Cb,Sl Ac p.variables Cc] 26)]∧fr [] [(25,Bo v_1)]∧hs9.S (ks Ebs O) w'∧St ⟨w,[],[]⟩ O w' Ebs∧k13 v_1=some x) ?_ ?_
 rintro ρ20 w16 ⟨v_1,_,rfl,hfr19,hst18,hs17,hm⟩
 replace hm:=jnE1 hk14 hm
 rw [hfr19.eq];clear hfr19
 refine Wo2 hm rfl (fun hc21 hm=>?_) (fun hc21 hm=>?_)
 refine Wb ?_
 obtain⟨hs22,p23⟩:=hs17.sub (bs':=[]) (.cons _ (.cons _ List.Sublist.slnil))
 clear Fa Fb Fc Fd Fe
 clear hs17
 refine Wa<|Asg (Bo false) rfl<|Ri2<|Wp_ret<|⟨_,Clo,[Bo false],⟨rfl,trivial⟩,hs22.ext,?_⟩
 exact Vr.eq (a:=vB) (x:=false) rfl (oi hm)
 refine Ws2<|Wb<|Wb<|Wa<|Asg (Iv 0) rfl<|Ri2<|Wn2<|Wr [] [(2,Pt b1 0),(3,Pt b6 0),(5,Iv 0)] fun ξ25=>Wp_loopM q62_2 (fun m fr w'=>∃(i_1:Int) (Ebs:Ents),Ebs=[(some b6,Oc [Iv v.flight,Iv v.node,Sl Ad v.leaves Cd,Sl Ae v.choices Ce] 61),(some b1,Oc [Sl Aa p.cells Ca,Sl Ab p.capacity Cb,Sl Ac p.variables Cc] 26)]∧fr [] [(5,Iv i_1)]∧hs17.S (ks Ebs O) w'∧St ⟨w,[],[]⟩ O w' Ebs∧InK .i64 i_1∧loop1 (m62_overflightref27_variable_B0 p v) m i_1=some x) (((v.leaves.length:Int) - 0).toNat+1) ⟨0,_,rfl,Frm.of ⟨rfl,trivial⟩,Step.refl _ _,hs17,(show InK .i64 0 from by decide),hm⟩ ?_ ?_
 rintro _ _ ⟨_,_,_,_,_,_,_,hm⟩;exact loop1_z hm
 rintro m29 K28 hK28 ρ34 w30 ⟨i_1,_,rfl,hfr33,hst32,hs31,Rc,hm⟩
 obtain⟨sf26,hsf27,hm⟩:=loop1_s hm;unfold m62_overflightref27_variable_B0 at hm
 rw [hfr33.eq];clear hfr33
 have ch35:=hst32
 refine Wb<|Wb<|Wa<|Mve (Iv i_1) rfl<|Rop<|op2 2 ty61 rfl ty31 rfl rfl<|Rop<|oq2 0 ty31 hs31 rfl rfl rfl<|Rop<|op_len Try.underlying31 rfl ?_
 have p37:=(p3.trans (p8.trans (hst18.trans hst32)))
 replace Fd:=Fd.step p37
 have rl36:=inK_len Fd
 refine Rop<|op_lss rfl rfl<|Ri2<|Wo2 hm rfl (fun hc38 hm=>?_) (fun hc38 hm=>?_)
 refine Ws2<|Wb<|Wn2<|Wr2 q62_2 [] (updL ⟨ξ25,[]⟩ [(2,Pt b1 0),(3,Pt b6 0),(5,Iv 0)]) [(5,Iv i_1)] fun ξ39=>?_
 obtain⟨k41,hk42,hm⟩:=jn_elim hm
 refine Wp_seqJ q62_1 (fun fr w'=>∃(v_2:Bool) (Ebs:Ents),Ebs=[(some b6,Oc [Iv v.flight,Iv v.node,Sl Ad v.leaves Cd,Sl Ae v.choices Ce] 61),(some b1,Oc [Sl Aa p.cells Ca,Sl Ab p.capacity Cb,Sl Ac p.variables Cc] 26)]∧fr [] [(61,Bo v_2)]∧hs31.S (ks Ebs O) w'∧St ⟨w,[],[]⟩ O w' Ebs∧k41 v_2=some x) ?_ ?_
 rintro ρ48 w44 ⟨v_2,_,rfl,hfr47,hst46,hs45,hm⟩
 replace hm:=jnE1 hk42 hm
 rw [hfr47.eq];clear hfr47
 refine Wo2 hm rfl (fun hc49 hm=>?_) (fun hc49 hm=>?_)
 refine Wb<|Wa<|Asg (Bo false) rfl<|Ri2<|Wp_ret<|⟨_,Clo,[Bo false],⟨rfl,trivial⟩,hs45.ext,?_⟩
 exact Vr.eq (a:=vB) (x:=false) rfl (oi hm)
 refine Ws2<|Wa<|Mve (Iv i_1) rfl<|Rop<|op_addw rfl rfl<|Asg (Iv (IntKind.wrap .i64 (i_1+1))) rfl<|Ri2 ?_
 replace ch35:=ch35.trans hst46
 exact hK28 _ _ ⟨(IntKind.wrap .i64 (i_1+1)),_,rfl,Frm.of ⟨rfl,trivial⟩,ch35,hs45,(inK_wrap .i64 _),jnE1 hsf27 hm⟩
 intro K43 hK43
 have ch50:=hs31.stepR
 refine Wp_drawR (g0:=[]) (m:=26) (fl:=[]) (TS_inv hs31) rfl (.inl rfl) rfl (by decide+kernel) ?_  -- 6
 refine Dw_p (Pt b6 2) (fun _ _ _ hi ht=>op2 2 ty61 rfl ty31 (ht 3 rfl) rfl<|Gz hi)<|Dw_p (Sl Ad v.leaves Cd) (fun _ _ _ hi ht=>oq2 0 ty31 (Step.nx hi).1 (ht 33 rfl) rfl rfl<|Gz hi)<|Dw_p (Iv i_1) (fun _ _ _ hi ht=>ok2 (v:=Iv i_1) (ht 5 rfl)<|Gz hi) ?_
 obtain⟨hc63,hm⟩:=ck_some hm
 refine Dw_op (VP _ _ (rInt .i64) (v.leaves.getD i_1.toNat default)) (VP.stab _ _) (fun ρ60 w61 g hle hi ht=>?_) ?_
 obtain⟨-,hst,-⟩:=hle
 replace Fd:=Fd.step hst
 refine Sj2<|om2 (q:=(rInt .i64)) ty31 ty3 (ht 34 rfl) (ht 35 rfl) Fd rfl hc63.1 hc63.2 ?_
 intro p64 f65
 exact Goes.same hi ⟨_,rfl,f65⟩
 refine Dw_op (VD _ _ (vI .i64) (v.leaves.getD i_1.toNat default)) (VD.stab _ _) (fun ρ66 w67 g hle hi ht=>?_) ?_
 obtain⟨p69,q70,f71⟩:=ht 36 rfl
 refine Sj2<|ot2 ty3 q70 f71 rfl ?_
 intro v72 h73
 obtain⟨rfl,Rd⟩:=un_int h73
 exact Goes.same hi (show Vr.vd (vI .i64) _ _ _ _ from⟨rfl,Rd⟩)
 refine Dw_p (Pt b1 1) (fun _ _ _ hi ht=>op2 1 ty26 rfl ty23 (ht 2 rfl) rfl<|Gz hi)<|Dw_p (Sl Ab p.capacity Cb) (fun _ _ _ hi ht=>oq2 1 ty23 (Step.nx hi).1 (ht 38 rfl) rfl rfl<|Gz hi)<|Dw_p (Iv (p.capacity.length:Int)) (fun _ _ _ hi ht=>op_len Try.underlying23 (ht 39 rfl)<|Gz hi)<|Dw_p (Iv (IntKind.wrap .i64 ((p.capacity.length:Int) - 1))) (fun _ _ _ hi ht=>op_subw (ht 40 rfl) rfl<|Gz hi) ?_
 obtain⟨within_1,hv93,hm⟩:=bd hm
 refine Dw_op (VD _ _ vB within_1) (VD.stab _ _) (fun ρ87 w88 g hle hi ht=>?_) ?_
 have h90:Vr.vd (vI .i64) _ _ _ _:=ht 37 rfl
 obtain⟨q91,Re⟩:=h90
 refine Sj2 (op_call Try.call61 (c61_overflightref27_within (O:=ks (ents g++[(some b6,Oc [Iv v.flight,Iv v.node,Sl Ad v.leaves Cd,Sl Ae v.choices Ce] 61),(some b1,Oc [Sl Aa p.cells Ca,Sl Ab p.capacity Cb,Sl Ac p.variables Cc] 26)]) O) (n:=v.leaves.getD i_1.toNat default) (lo:=0) (hi:=(IntKind.wrap .i64 ((p.capacity.length:Int) - 1))) hi.ltw Re (show InK .i64 0 from by decide) (inK_wrap .i64 _) hv93) (by simp only [List.map,Array.toList,(show ev _ (.tmp 37)=_ from q91),(show ev _ (.const (.int .i64 0))=.int .i64 0 from rfl),(show ev _ (.tmp 41)=_ from(ht 41 rfl))]<;> rfl) ?_)
 rintro v94 w95 ⟨hx96,h97⟩
 exact Goes.call hi hx96 h97
 refine Dw_eq (Bo (!within_1)) (fun ρ99 w100 g hle hi ht=>?_) ?_
 have h102:Vr.vd vB _ _ _ _:=ht 42 rfl
 have q103:_=(Bo within_1):=h102
 exact Sj2<|op_not q103<|Gz hi
 refine Dw_opB (!within_1) (fun _ _ _ _ hi ht=>Sj2<|ok2 (v:=Bo (!within_1)) (ht 43 rfl)<|Gz hi) (fun hg108=>?_) (fun hg108=>?_)
 replace hm:=bif_t hm hg108
 iterate 14 refine Dw_sk rfl rfl (fun _ _ _ h=>h) rfl ?_
 refine Dw_nil fun w113 g114 hl115 hi116=>?_
 obtain⟨-,hst117,-⟩:=hl115
 obtain⟨hs119,p118⟩:=Step.nx hi116
 rintro _ rfl _ rfl _ rfl _ rfl _ rfl _ rfl _ rfl _ rfl _ rfl _ rfl _ rfl _ rfl _ rfl _ rfl _ rfl _ rfl v120 h121
 replace h121:Vr.vd vB _ _ _ _:=h121
 obtain rfl:=h121
 rintro _ rfl _ rfl _ rfl _ rfl v123 h124
 replace h124:Vr.vd (vI .i64) _ _ _ _:=h124
 obtain⟨rfl,Rf⟩:=h124
 rintro _ ⟨p126,rfl,f127⟩ _ rfl _ rfl _ rfl
 have p128:=hs31.to hs119 (hst117.trans p118)
 replace f127:=f127.step p118
 refine Rl2 rfl (asB_ne rfl rfl) rfl<|Rl2 rfl (asB_ne rfl rfl) rfl<|Pkt (Bo true) rfl rfl<|Ri2 ?_
 replace ch50:=ch50.trans p128
 exact hK43 _ _ ⟨true,_,rfl,Frm.of ⟨rfl,trivial⟩,ch50,hs119,hm⟩
 replace hm:=bif_f hm hg108
 refine Dw_g (Iv i_1) rfl rfl (fun _ _ _ h=>h) (fun _ _ _ hi ht=>ok2 (v:=Iv i_1) (ht 5 rfl)<|Gz hi)<|Dw_g (Bo (decide (0<i_1))) rfl rfl (fun _ _ _ h=>h) (fun _ _ _ hi ht=>op_gtr (ht 45 rfl) rfl<|Gz hi)<|Dw_opB (decide (0<i_1)) (fun _ _ _ _ hi ht=>StepOp_g rfl (ht 44 rfl)<|ok2 (v:=Bo (decide (0<i_1))) (ht 46 rfl)<|Gz hi) (fun hg138=>?_) (fun hg138=>?_)
 replace hm:=bif_t hm hg138
 refine Dw_g (Pt b6 2) rfl rfl (fun _ _ _ h=>h) (fun _ _ _ hi ht=>op2 2 ty61 rfl ty31 (ht 3 rfl) rfl<|Gz hi)<|Dw_g (Sl Ad v.leaves Cd) rfl rfl (fun _ _ _ h=>h) (fun _ _ _ hi ht=>oq2 0 ty31 (Step.nx hi).1 (ht 48 rfl) rfl rfl<|Gz hi)<|Dw_g (Iv i_1) rfl rfl (fun _ _ _ h=>h) (fun _ _ _ hi ht=>ok2 (v:=Iv i_1) (ht 5 rfl)<|Gz hi)<|Dw_g (Iv (IntKind.wrap .i64 (i_1 - 1))) rfl rfl (fun _ _ _ h=>h) (fun _ _ _ hi ht=>op_subw (ht 50 rfl) rfl<|Gz hi) ?_
 obtain⟨hc154,hm⟩:=ck_some hm
 refine Dw_op (VP _ _ (rInt .i64) (v.leaves.getD (IntKind.wrap .i64 (i_1 - 1)).toNat default)) (VP.stab _ _) (fun ρ151 w152 g hle hi ht=>?_) ?_
 obtain⟨-,hst,-⟩:=hle
 replace Fd:=Fd.step hst
 refine StepOp_g rfl (ht 47 rfl)<|om2 (q:=(rInt .i64)) ty31 ty3 (ht 49 rfl) (ht 51 rfl) Fd rfl hc154.1 hc154.2 ?_
 intro p155 f156
 exact Goes.same hi ⟨_,rfl,f156⟩
 refine Dw_op (VD _ _ (vI .i64) (v.leaves.getD (IntKind.wrap .i64 (i_1 - 1)).toNat default)) (VD.stab _ _) (fun ρ157 w158 g hle hi ht=>?_) ?_
 obtain⟨p160,q161,f162⟩:=ht 52 rfl
 refine StepOp_g rfl (ht 47 rfl)<|ot2 ty3 q161 f162 rfl ?_
 intro v163 h164
 obtain⟨rfl,Rg⟩:=un_int h164
 exact Goes.same hi (show Vr.vd (vI .i64) _ _ _ _ from⟨rfl,Rg⟩)
 refine Dw_g (Pt b6 2) rfl rfl (fun _ _ _ h=>h) (fun _ _ _ hi ht=>op2 2 ty61 rfl ty31 (ht 3 rfl) rfl<|Gz hi)<|Dw_g (Sl Ad v.leaves Cd) rfl rfl (fun _ _ _ h=>h) (fun _ _ _ hi ht=>oq2 0 ty31 (Step.nx hi).1 (ht 54 rfl) rfl rfl<|Gz hi)<|Dw_g (Iv i_1) rfl rfl (fun _ _ _ h=>h) (fun _ _ _ hi ht=>ok2 (v:=Iv i_1) (ht 5 rfl)<|Gz hi) ?_
 obtain⟨hc178,hm⟩:=ck_some hm
 refine Dw_op (VP _ _ (rInt .i64) (v.leaves.getD i_1.toNat default)) (VP.stab _ _) (fun ρ175 w176 g hle hi ht=>?_) ?_
 obtain⟨-,hst,-⟩:=hle
 replace Fd:=Fd.step hst
 refine StepOp_g rfl (ht 47 rfl)<|om2 (q:=(rInt .i64)) ty31 ty3 (ht 55 rfl) (ht 56 rfl) Fd rfl hc178.1 hc178.2 ?_
 intro p179 f180
 exact Goes.same hi ⟨_,rfl,f180⟩
 refine Dw_op (VD _ _ (vI .i64) (v.leaves.getD i_1.toNat default)) (VD.stab _ _) (fun ρ181 w182 g hle hi ht=>?_) ?_
 obtain⟨p184,q185,f186⟩:=ht 57 rfl
 refine StepOp_g rfl (ht 47 rfl)<|ot2 ty3 q185 f186 rfl ?_
 intro v187 h188
 obtain⟨rfl,Rh⟩:=un_int h188
 exact Goes.same hi (show Vr.vd (vI .i64) _ _ _ _ from⟨rfl,Rh⟩)
 refine Dw_nil fun w194 g195 hl196 hi197=>?_
 obtain⟨-,hst198,-⟩:=hl196
 obtain⟨hs200,p199⟩:=Step.nx hi197
 rintro v201 h202
 replace h202:Vr.vd (vI .i64) _ _ _ _:=h202
 obtain⟨rfl,Ri⟩:=h202
 rintro _ ⟨p204,rfl,f205⟩ _ rfl _ rfl _ rfl v206 h207
 replace h207:Vr.vd (vI .i64) _ _ _ _:=h207
 obtain⟨rfl,Rj⟩:=h207
 rintro _ ⟨p209,rfl,f210⟩ _ rfl _ rfl _ rfl _ rfl _ rfl _ rfl _ rfl _ rfl _ rfl v211 h212
 replace h212:Vr.vd vB _ _ _ _:=h212
 obtain rfl:=h212
 rintro _ rfl _ rfl _ rfl _ rfl v214 h215
 replace h215:Vr.vd (vI .i64) _ _ _ _:=h215
 obtain⟨rfl,Rk⟩:=h215
 rintro _ ⟨p217,rfl,f218⟩ _ rfl _ rfl _ rfl
 have p219:=hs31.to hs200 (hst198.trans p199)
 replace f205:=f205.step p199;replace f210:=f210.step p199;replace f218:=f218.step p199
 refine Rog rfl rfl<|op_geq rfl rfl<|Rog rfl rfl<|op_pick_t (v:=Bo (decide ((v.leaves.getD i_1.toNat default)≤(v.leaves.getD (IntKind.wrap .i64 (i_1 - 1)).toNat default)))) rfl rfl<|Pkf (Bo (decide ((v.leaves.getD i_1.toNat default)≤(v.leaves.getD (IntKind.wrap .i64 (i_1 - 1)).toNat default)))) rfl rfl<|Ri2 ?_
 replace ch50:=ch50.trans p219
 exact hK43 _ _ ⟨decide ((v.leaves.getD i_1.toNat default)≤(v.leaves.getD (IntKind.wrap .i64 (i_1 - 1)).toNat default)),_,rfl,Frm.of ⟨rfl,trivial⟩,ch50,hs200,hm⟩
 replace hm:=bif_f hm hg138
 iterate 11 refine Dw_sk rfl rfl (fun _ _ _ h=>h) rfl ?_
 refine Dw_nil fun w224 g225 hl226 hi227=>?_
 obtain⟨-,hst228,-⟩:=hl226
 obtain⟨hs230,p229⟩:=Step.nx hi227
 rintro _ rfl _ rfl _ rfl _ rfl _ rfl _ rfl _ rfl _ rfl _ rfl _ rfl _ rfl _ rfl _ rfl _ rfl _ rfl _ rfl v231 h232
 replace h232:Vr.vd vB _ _ _ _:=h232
 obtain rfl:=h232
 rintro _ rfl _ rfl _ rfl _ rfl v234 h235
 replace h235:Vr.vd (vI .i64) _ _ _ _:=h235
 obtain⟨rfl,Rl⟩:=h235
 rintro _ ⟨p237,rfl,f238⟩ _ rfl _ rfl _ rfl
 have p239:=hs31.to hs230 (hst228.trans p229)
 replace f238:=f238.step p229
 refine Rl2 rfl (asB_ne rfl rfl) rfl<|Rog rfl rfl<|op_pick_f (v:=Bo false) rfl rfl<|Pkf (Bo false) rfl rfl<|Ri2 ?_
 replace ch50:=ch50.trans p239
 exact hK43 _ _ ⟨false,_,rfl,Frm.of ⟨rfl,trivial⟩,ch50,hs230,hm⟩
 refine Wp_exit<|Wb<|Wb<|Wa<|Asg (Iv 0) rfl<|Ri2<|Wn2<|Wr [] [(2,Pt b1 0),(3,Pt b6 0),(6,Iv 0)] fun ξ241=>Wp_loopM q62_6 (fun m fr w'=>∃(i_2:Int) (Ebs:Ents),Ebs=[(some b6,Oc [Iv v.flight,Iv v.node,Sl Ad v.leaves Cd,Sl Ae v.choices Ce] 61),(some b1,Oc [Sl Aa p.cells Ca,Sl Ab p.capacity Cb,Sl Ac p.variables Cc] 26)]∧fr [] [(6,Iv i_2)]∧hs31.S (ks Ebs O) w'∧St ⟨w,[],[]⟩ O w' Ebs∧InK .i64 i_2∧loop1 (m62_overflightref27_variable_B1 p v) m i_2=some x) (((v.choices.length:Int) - 0).toNat+1) ⟨0,_,rfl,Frm.of ⟨rfl,trivial⟩,Step.refl _ _,hs31,(show InK .i64 0 from by decide),hm⟩ ?_ ?_
 rintro _ _ ⟨_,_,_,_,_,_,_,hm⟩;exact loop1_z hm
 rintro m245 K244 hK244 ρ250 w246 ⟨i_2,_,rfl,hfr249,hst248,hs247,Rm,hm⟩
 obtain⟨sf242,hsf243,hm⟩:=loop1_s hm;unfold m62_overflightref27_variable_B1 at hm
 rw [hfr249.eq];clear hfr249
 have ch251:=hst248
 refine Wb<|Wb<|Wa<|Mve (Iv i_2) rfl<|Rop<|op2 3 ty61 rfl ty59 rfl rfl<|Rop<|oq2 0 ty59 hs247 rfl rfl rfl<|Rop<|op_len Try.underlying59 rfl ?_
 have p253:=(p37.trans hst248)
 replace Fe:=Fe.step p253
 have rl252:=inK_len Fe
 refine Rop<|op_lss rfl rfl<|Ri2<|Wo2 hm rfl (fun hc254 hm=>?_) (fun hc254 hm=>?_)
 refine Ws2<|Wb<|Wn2<|Wb<|Wa<|Rop<|op2 3 ty61 rfl ty59 rfl rfl<|Rop<|oq2 0 ty59 hs247 rfl rfl rfl<|Mve (Iv i_2) rfl ?_
 obtain⟨hc255,hm⟩:=ck_some hm
 refine Rop<|om2 (q:=rXChoice) ty59 ty58 rfl rfl Fe rfl hc255.1 hc255.2 ?_
 intro p256 f257
 refine Rop<|op_loadPA ty58 rfl f257 rfl ?_
 intro vs258 h259
 obtain⟨_,_,rfl,⟨rfl,Rn⟩,⟨_,_,rfl,⟨rfl,Ro⟩,⟨_,_,rfl,⟨rfl,Rp⟩,⟨Af,Cf,rfl,Ff⟩⟩⟩⟩:=h259
 refine Rop<|op_alloc ty58 hs247 ?_
 intro b261 w262 _ p263 hs264
 clear hs247
 refine Rg_op_<|op_stA .z ty58 hs264 rfl rfl rfl rfl rfl ?_
 intro w266 p267 hs268
 clear hs264
 refine Ri2<|Wb<|Wr2 q62_6 [] (updL ⟨ξ241,[]⟩ [(2,Pt b1 0),(3,Pt b6 0),(6,Iv 0)]) [(6,Iv i_2),(7,Pt b261 0)] fun ξ269=>?_
 obtain⟨k271,hk272,hm⟩:=jn_elim hm
 refine Wp_seqJ q62_3 (fun fr w'=>∃(v_3:Bool) (Ebs:Ents),Ebs=[(some b261,Oc [Iv ((v.choices.getD i_2.toNat default).delay),Iv ((v.choices.getD i_2.toNat default).cost),Iv ((v.choices.getD i_2.toNat default).changes),Sl Af ((v.choices.getD i_2.toNat default).uses) Cf] 58),(some b6,Oc [Iv v.flight,Iv v.node,Sl Ad v.leaves Cd,Sl Ae v.choices Ce] 61),(some b1,Oc [Sl Aa p.cells Ca,Sl Ab p.capacity Cb,Sl Ac p.variables Cc] 26)]∧fr [] [(89,Bo v_3)]∧hs268.S (ks Ebs O) w'∧St ⟨w,[],[]⟩ O w' Ebs∧k271 v_3=some x) ?_ ?_
 rintro ρ278 w274 ⟨v_3,_,rfl,hfr277,hst276,hs275,hm⟩
 replace hm:=jnE1 hk272 hm
 rw [hfr277.eq];clear hfr277
 refine Wo2 hm rfl (fun hc279 hm=>?_) (fun hc279 hm=>?_)
 refine Wb ?_
 clear f257
 refine Wa<|Asg (Bo false) rfl<|Ri2<|Wp_ret<|⟨_,Clo,[Bo false],⟨rfl,trivial⟩,hs275.ext,?_⟩
 exact Vr.eq (a:=vB) (x:=false) rfl (oi hm)
 refine Ws2<|Wb ?_
 clear f257
 refine Wa<|Asg (Iv 0) rfl<|Ri2<|Wn2<|Wr2 q62_6 [] (updL ⟨ξ241,[]⟩ [(2,Pt b1 0),(3,Pt b6 0),(6,Iv 0)]) [(6,Iv i_2),(7,Pt b261 0),(8,Iv 0)] fun ξ281=>Wp_loopM q62_5 (fun m fr w'=>∃(k_1:Int) (Ebs:Ents),Ebs=[(some b261,Oc [Iv ((v.choices.getD i_2.toNat default).delay),Iv ((v.choices.getD i_2.toNat default).cost),Iv ((v.choices.getD i_2.toNat default).changes),Sl Af ((v.choices.getD i_2.toNat default).uses) Cf] 58),(some b6,Oc [Iv v.flight,Iv v.node,Sl Ad v.leaves Cd,Sl Ae v.choices Ce] 61),(some b1,Oc [Sl Aa p.cells Ca,Sl Ab p.capacity Cb,Sl Ac p.variables Cc] 26)]∧fr [] [(8,Iv k_1)]∧hs275.S (ks Ebs O) w'∧St ⟨w,[],[]⟩ O w' Ebs∧InK .i64 k_1∧loop1 (m62_overflightref27_variable_B2 p v i_2 sf242) m k_1=some x) (((((v.choices.getD i_2.toNat default).uses).length:Int) - 0).toNat+1) ⟨0,_,rfl,Frm.of ⟨rfl,trivial⟩,Step.refl _ _,hs275,(show InK .i64 0 from by decide),hm⟩ ?_ ?_
 rintro _ _ ⟨_,_,_,_,_,_,_,hm⟩;exact loop1_z hm
 rintro m285 K284 hK284 ρ290 w286 ⟨k_1,_,rfl,hfr289,hst288,hs287,Rq,hm⟩
 obtain⟨sf282,hsf283,hm⟩:=loop1_s hm;unfold m62_overflightref27_variable_B2 at hm
 rw [hfr289.eq];clear hfr289
 have ch291:=hst288
 refine Wb<|Wb<|Wa<|Mve (Iv k_1) rfl<|Rop<|op2 3 ty58 rfl ty56 rfl rfl<|Rop<|oq2 0 ty56 hs287 rfl rfl rfl<|Rop<|op_len Try.underlying56 rfl ?_
 have p293:=(p263.trans (p267.trans (hst276.trans hst288)))
 replace Ff:=Ff.step p293
 have rl292:=inK_len Ff
 refine Rop<|op_lss rfl rfl<|Ri2<|Wo2 hm rfl (fun hc294 hm=>?_) (fun hc294 hm=>?_)
 refine Ws2<|Wb<|Wn2<|Wb<|Wa<|Rop<|op2 3 ty58 rfl ty56 rfl rfl<|Rop<|oq2 0 ty56 hs287 rfl rfl rfl<|Mve (Iv k_1) rfl ?_
 obtain⟨hc295,hm⟩:=ck_some hm
 refine Rop<|om2 (q:=rXUse) ty56 ty76 rfl rfl Ff rfl hc295.1 hc295.2 ?_
 intro p296 f297
 refine Rop<|op_loadPA ty76 rfl f297 rfl ?_
 intro vs298 h299
 obtain⟨_,_,rfl,⟨_,_,rfl,rfl,⟨_,_,rfl,⟨rfl,Rr⟩,⟨rfl,Rs⟩⟩⟩,⟨rfl,Rt⟩⟩:=h299
 refine Rop<|op_alloc ty76 hs287 ?_
 intro b301 w302 _ p303 hs304
 clear hs287
 refine Rg_op_<|op_stA .z ty76 hs304 rfl rfl rfl rfl rfl ?_
 intro w306 p307 hs308
 clear hs304
 refine Ri2<|Wr2 q62_5 [] (updL (mix q62_6 [] ξ281 (updL ⟨ξ241,[]⟩ [(2,Pt b1 0),(3,Pt b6 0),(6,Iv 0)])) [(6,Iv i_2),(7,Pt b261 0),(8,Iv 0)]) [(8,Iv k_1),(9,Pt b301 0)] fun ξ309=>?_
 obtain⟨k311,hk312,hm⟩:=jn_elim hm
 refine Wp_seqJ q62_4 (fun fr w'=>∃(v_4:Bool) (Ebs:Ents),Ebs=[(some b301,Oc [Bo (((((v.choices.getD i_2.toNat default).uses).getD k_1.toNat default).cell).airport),Iv (((((v.choices.getD i_2.toNat default).uses).getD k_1.toNat default).cell).index),Iv (((((v.choices.getD i_2.toNat default).uses).getD k_1.toNat default).cell).minute),Iv ((((v.choices.getD i_2.toNat default).uses).getD k_1.toNat default).places)] 76),(some b261,Oc [Iv ((v.choices.getD i_2.toNat default).delay),Iv ((v.choices.getD i_2.toNat default).cost),Iv ((v.choices.getD i_2.toNat default).changes),Sl Af ((v.choices.getD i_2.toNat default).uses) Cf] 58),(some b6,Oc [Iv v.flight,Iv v.node,Sl Ad v.leaves Cd,Sl Ae v.choices Ce] 61),(some b1,Oc [Sl Aa p.cells Ca,Sl Ab p.capacity Cb,Sl Ac p.variables Cc] 26)]∧fr [] [(130,Bo v_4)]∧hs308.S (ks Ebs O) w'∧St ⟨w,[],[]⟩ O w' Ebs∧k311 v_4=some x) ?_ ?_
 rintro ρ318 w314 ⟨v_4,_,rfl,hfr317,hst316,hs315,hm⟩
 replace hm:=jnE1 hk312 hm
 rw [hfr317.eq];clear hfr317
 refine Wo2 hm rfl (fun hc319 hm=>?_) (fun hc319 hm=>?_)
 refine Wb ?_
 clear f297
 refine Wa<|Asg (Bo false) rfl<|Ri2<|Wp_ret<|⟨_,Clo,[Bo false],⟨rfl,trivial⟩,hs315.ext,?_⟩
 exact Vr.eq (a:=vB) (x:=false) rfl (oi hm)
 refine Ws2 ?_
 clear f297
 refine Wa<|Mve (Iv k_1) rfl<|Rop<|op_addw rfl rfl<|Asg (Iv (IntKind.wrap .i64 (k_1+1))) rfl<|Ri2 ?_
 have hs320:=hs315.drop 0
 have p321:=(hs315.dropS 0)
 clear hs315
 have p322:=(p303.trans (p307.trans (hst316.trans p321)))
 replace ch291:=ch291.trans p322
 exact hK284 _ _ ⟨(IntKind.wrap .i64 (k_1+1)),_,rfl,Frm.of ⟨rfl,trivial⟩,ch291,hs320,(inK_wrap .i64 _),jnE1 hsf283 hm⟩
 intro K313 hK313
 have ch323:=hs308.stepR
 clear f297
 refine Wp_drawR (g0:=[]) (m:=25) (fl:=[]) (TS_inv hs308) rfl (.inl rfl) rfl (by decide+kernel) ?_  -- 18
 refine Dw_p (Pt b1 0) (fun _ _ _ hi ht=>op2 0 ty26 rfl ty22 (ht 2 rfl) rfl<|Gz hi)<|Dw_p (Sl Aa p.cells Ca) (fun _ _ _ hi ht=>oq2 3 ty22 (Step.nx hi).1 (ht 102 rfl) rfl rfl<|Gz hi)<|Dw_p (Pt b301 0) (fun _ _ _ hi ht=>op2 0 ty76 rfl ty67 (ht 9 rfl) rfl<|Gz hi)<|Dw_p (Value.agg [Bo (((((v.choices.getD i_2.toNat default).uses).getD k_1.toNat default).cell).airport),Iv (((((v.choices.getD i_2.toNat default).uses).getD k_1.toNat default).cell).index),Iv (((((v.choices.getD i_2.toNat default).uses).getD k_1.toNat default).cell).minute)].toArray) (fun _ _ _ hi ht=>op_loadA (vs:=[Bo (((((v.choices.getD i_2.toNat default).uses).getD k_1.toNat default).cell).airport),Iv (((((v.choices.getD i_2.toNat default).uses).getD k_1.toNat default).cell).index),Iv (((((v.choices.getD i_2.toNat default).uses).getD k_1.toNat default).cell).minute)]) (i:=0) ty67 (Step.nx hi).1 (ht 104 rfl) rfl rfl rfl<|Gz hi) ?_
 obtain⟨at_1,hv339,hm⟩:=bd hm
 have p345:=(p253.trans (p263.trans (p267.trans (hst276.trans (hst288.trans (p303.trans p307))))))
 replace Fa:=Fa.step p345
 refine Dw_op (VD _ _ (vI .i64) at_1) (VD.stab _ _) (fun ρ336 w337 g hle hi ht=>?_) ?_
 obtain⟨-,hst,-⟩:=hle
 replace Fa:=Fa.step hst
 refine Sj2 (op_call Try.call81 (c81_overflightref27_at (O:=ks (ents g++[(some b301,Oc [Bo (((((v.choices.getD i_2.toNat default).uses).getD k_1.toNat default).cell).airport),Iv (((((v.choices.getD i_2.toNat default).uses).getD k_1.toNat default).cell).index),Iv (((((v.choices.getD i_2.toNat default).uses).getD k_1.toNat default).cell).minute),Iv ((((v.choices.getD i_2.toNat default).uses).getD k_1.toNat default).places)] 76),(some b261,Oc [Iv ((v.choices.getD i_2.toNat default).delay),Iv ((v.choices.getD i_2.toNat default).cost),Iv ((v.choices.getD i_2.toNat default).changes),Sl Af ((v.choices.getD i_2.toNat default).uses) Cf] 58),(some b6,Oc [Iv v.flight,Iv v.node,Sl Ad v.leaves Cd,Sl Ae v.choices Ce] 61),(some b1,Oc [Sl Aa p.cells Ca,Sl Ab p.capacity Cb,Sl Ac p.variables Cc] 26)]) O) (l:=p.cells) (c:=(((v.choices.getD i_2.toNat default).uses).getD k_1.toNat default).cell) hi.ltw Fa Rr Rs hv339) (by simp only [List.map,Array.toList,(show ev _ (.tmp 103)=_ from(ht 103 rfl)),(show ev _ (.tmp 105)=_ from(ht 105 rfl))]<;> rfl) ?_)
 rintro v340 w341 ⟨hx342,h343⟩
 exact Goes.call hi hx342 h343
 refine Dw_eq (Bo (decide (at_1<0))) (fun ρ346 w347 g hle hi ht=>?_) ?_
 have h349:Vr.vd (vI .i64) _ _ _ _:=ht 106 rfl
 obtain⟨q350,Ru⟩:=h349
 exact Sj2<|op_lss q350 rfl<|Gz hi
 refine Dw_opB (decide (at_1<0)) (fun _ _ _ _ hi ht=>Sj2<|ok2 (v:=Bo (decide (at_1<0))) (ht 107 rfl)<|Gz hi) (fun hg355=>?_) (fun hg355=>?_)
 replace hm:=bif_t hm hg355
 iterate 4 refine Dw_sk rfl rfl (fun _ _ _ h=>h) rfl ?_
 refine Dw_p (Bo true) (fun _ _ _ hi ht=>op_pick_t (v:=Bo true) (ht 108 rfl) rfl<|Gz hi)<|Dw_p (Bo true) (fun _ _ _ hi ht=>ok2 (v:=Bo true) (ht 113 rfl)<|Gz hi) ?_
 iterate 12 refine Dw_sk rfl rfl (fun _ _ _ h=>h) rfl ?_
 refine Dw_nil fun w366 g367 hl368 hi369=>?_
 obtain⟨-,hst370,-⟩:=hl368
 obtain⟨hs372,p371⟩:=Step.nx hi369
 rintro _ rfl _ rfl _ rfl _ rfl _ rfl _ rfl _ rfl _ rfl _ rfl _ rfl _ rfl _ rfl _ rfl _ rfl _ rfl _ rfl _ rfl _ rfl _ rfl _ rfl v373 h374
 replace h374:Vr.vd (vI .i64) _ _ _ _:=h374
 obtain⟨rfl,Rv⟩:=h374
 rintro _ rfl _ rfl _ rfl _ rfl
 have p376:=hs308.to hs372 (hst370.trans p371)
 iterate 3 refine Rl2 rfl (asB_ne rfl rfl) rfl ?_
 refine Pkt (Bo true) rfl rfl<|Ri2 ?_
 replace ch323:=ch323.trans p376
 exact hK313 _ _ ⟨true,_,rfl,Frm.of ⟨rfl,trivial⟩,ch323,hs372,hm⟩
 replace hm:=bif_f hm hg355
 refine Dw_g (Pt b301 3) rfl rfl (fun _ _ _ h=>h) (fun _ _ _ hi ht=>op2 3 ty76 rfl ty3 (ht 9 rfl) rfl<|Gz hi)<|Dw_g (Iv ((((v.choices.getD i_2.toNat default).uses).getD k_1.toNat default).places)) rfl rfl (fun _ _ _ h=>h) (fun _ _ _ hi ht=>oq2 0 ty3 (Step.nx hi).1 (ht 109 rfl) rfl rfl<|Gz hi) ?_
 obtain⟨within_2,hv386,hm⟩:=bd hm
 refine Dw_op (VD _ _ vB within_2) (VD.stab _ _) (fun ρ383 w384 g hle hi ht=>?_) ?_
 refine StepOp_g rfl (ht 108 rfl) (op_call Try.call61 (c61_overflightref27_within (O:=ks (ents g++[(some b301,Oc [Bo (((((v.choices.getD i_2.toNat default).uses).getD k_1.toNat default).cell).airport),Iv (((((v.choices.getD i_2.toNat default).uses).getD k_1.toNat default).cell).index),Iv (((((v.choices.getD i_2.toNat default).uses).getD k_1.toNat default).cell).minute),Iv ((((v.choices.getD i_2.toNat default).uses).getD k_1.toNat default).places)] 76),(some b261,Oc [Iv ((v.choices.getD i_2.toNat default).delay),Iv ((v.choices.getD i_2.toNat default).cost),Iv ((v.choices.getD i_2.toNat default).changes),Sl Af ((v.choices.getD i_2.toNat default).uses) Cf] 58),(some b6,Oc [Iv v.flight,Iv v.node,Sl Ad v.leaves Cd,Sl Ae v.choices Ce] 61),(some b1,Oc [Sl Aa p.cells Ca,Sl Ab p.capacity Cb,Sl Ac p.variables Cc] 26)]) O) (n:=(((v.choices.getD i_2.toNat default).uses).getD k_1.toNat default).places) (lo:=1) (hi:=8) hi.ltw Rt (show InK .i64 1 from by decide) (show InK .i64 8 from by decide) hv386) (by simp only [List.map,Array.toList,(show ev _ (.tmp 110)=_ from(ht 110 rfl)),(show ev _ (.const (.int .i64 1))=.int .i64 1 from rfl),(show ev _ (.const (.int .i64 8))=.int .i64 8 from rfl)]<;> rfl) ?_)
 rintro v387 w388 ⟨hx389,h390⟩
 exact Goes.call hi hx389 h390
 refine Dw_eq (Bo (!within_2)) (fun ρ392 w393 g hle hi ht=>?_) ?_
 have h395:Vr.vd vB _ _ _ _:=ht 111 rfl
 have q396:_=(Bo within_2):=h395
 exact StepOp_g rfl (ht 108 rfl)<|op_not q396<|Gz hi
 refine Dw_p (Bo (!within_2)) (fun _ _ _ hi ht=>op_pick_f (v:=Bo (!within_2)) (ht 108 rfl) (ht 112 rfl)<|Gz hi)<|Dw_opB (!within_2) (fun _ _ _ _ hi ht=>Sj2<|ok2 (v:=Bo (!within_2)) (ht 113 rfl)<|Gz hi) (fun hg404=>?_) (fun hg404=>?_)
 replace hm:=bif_t hm hg404
 iterate 12 refine Dw_sk rfl rfl (fun _ _ _ h=>h) rfl ?_
 refine Dw_nil fun w409 g410 hl411 hi412=>?_
 obtain⟨-,hst413,-⟩:=hl411
 obtain⟨hs415,p414⟩:=Step.nx hi412
 rintro _ rfl _ rfl _ rfl _ rfl _ rfl _ rfl _ rfl _ rfl _ rfl _ rfl _ rfl _ rfl _ rfl _ rfl _ rfl v416 h417
 replace h417:Vr.vd vB _ _ _ _:=h417
 obtain rfl:=h417
 rintro _ rfl _ rfl _ rfl _ rfl v419 h420
 replace h420:Vr.vd (vI .i64) _ _ _ _:=h420
 obtain⟨rfl,Rw⟩:=h420
 rintro _ rfl _ rfl _ rfl _ rfl
 have p422:=hs308.to hs415 (hst413.trans p414)
 iterate 3 refine Rl2 rfl (asB_ne rfl rfl) rfl ?_
 refine Pkt (Bo true) rfl rfl<|Ri2 ?_
 replace ch323:=ch323.trans p422
 exact hK313 _ _ ⟨true,_,rfl,Frm.of ⟨rfl,trivial⟩,ch323,hs415,hm⟩
 replace hm:=bif_f hm hg404
 refine Dw_g (Iv k_1) rfl rfl (fun _ _ _ h=>h) (fun _ _ _ hi ht=>ok2 (v:=Iv k_1) (ht 8 rfl)<|Gz hi)<|Dw_g (Bo (decide (0<k_1))) rfl rfl (fun _ _ _ h=>h) (fun _ _ _ hi ht=>op_gtr (ht 115 rfl) rfl<|Gz hi)<|Dw_opB (decide (0<k_1)) (fun _ _ _ _ hi ht=>StepOp_g rfl (ht 114 rfl)<|ok2 (v:=Bo (decide (0<k_1))) (ht 116 rfl)<|Gz hi) (fun hg432=>?_) (fun hg432=>?_)
 replace hm:=bif_t hm hg432
 refine Dw_g (Pt b261 3) rfl rfl (fun _ _ _ h=>h) (fun _ _ _ hi ht=>op2 3 ty58 rfl ty56 (ht 7 rfl) rfl<|Gz hi)<|Dw_g (Sl Af ((v.choices.getD i_2.toNat default).uses) Cf) rfl rfl (fun _ _ _ h=>h) (fun _ _ _ hi ht=>oq2 1 ty56 (Step.nx hi).1 (ht 118 rfl) rfl rfl<|Gz hi)<|Dw_g (Iv k_1) rfl rfl (fun _ _ _ h=>h) (fun _ _ _ hi ht=>ok2 (v:=Iv k_1) (ht 8 rfl)<|Gz hi)<|Dw_g (Iv (IntKind.wrap .i64 (k_1 - 1))) rfl rfl (fun _ _ _ h=>h) (fun _ _ _ hi ht=>op_subw (ht 120 rfl) rfl<|Gz hi) ?_
 obtain⟨hc448,hm⟩:=ck_some hm
 have p451:=(p303.trans p307)
 replace Ff:=Ff.step p451
 refine Dw_op (VP _ _ rXUse (((v.choices.getD i_2.toNat default).uses).getD (IntKind.wrap .i64 (k_1 - 1)).toNat default)) (VP.stab _ _) (fun ρ445 w446 g hle hi ht=>?_) ?_
 obtain⟨-,hst,-⟩:=hle
 replace Ff:=Ff.step hst
 refine StepOp_g rfl (ht 117 rfl)<|om2 (q:=rXUse) ty56 ty76 (ht 119 rfl) (ht 121 rfl) Ff rfl hc448.1 hc448.2 ?_
 intro p449 f450
 exact Goes.same hi ⟨_,rfl,f450⟩
 refine Dw_op (VP _ _ rXCell ((((v.choices.getD i_2.toNat default).uses).getD (IntKind.wrap .i64 (k_1 - 1)).toNat default).cell)) (VP.stab _ _) (fun ρ452 w453 g hle hi ht=>?_) ?_
 obtain⟨p455,q456,f457⟩:=ht 122 rfl
 refine StepOp_g rfl (ht 117 rfl)<|op_fieldAddr ty76 rfl ty67 (by decide) q456 rfl ?_
 have f458:=f457.via.fst
 exact Goes.same hi ⟨_,rfl,f458⟩
 refine Dw_op (VD _ _ (vA rXCell) ((((v.choices.getD i_2.toNat default).uses).getD (IntKind.wrap .i64 (k_1 - 1)).toNat default).cell)) (VD.stab _ _) (fun ρ459 w460 g hle hi ht=>?_) ?_
 obtain⟨p462,q463,f464⟩:=ht 123 rfl
 refine StepOp_g rfl (ht 117 rfl)<|op_loadPA ty67 q463 f464 rfl ?_
 intro vs465 h466
 obtain⟨_,_,rfl,rfl,⟨_,_,rfl,⟨rfl,Rx⟩,⟨rfl,Ry⟩⟩⟩:=h466
 exact Goes.same hi (show Vr.vd (vA rXCell) _ _ _ _ from(mkA (mkVia (mk_pair mkBool (mk_pair (mk_int Rx) (mk_int Ry))))))
 refine Dw_g (Pt b301 0) rfl rfl (fun _ _ _ h=>h) (fun _ _ _ hi ht=>op2 0 ty76 rfl ty67 (ht 9 rfl) rfl<|Gz hi)<|Dw_g (Value.agg [Bo (((((v.choices.getD i_2.toNat default).uses).getD k_1.toNat default).cell).airport),Iv (((((v.choices.getD i_2.toNat default).uses).getD k_1.toNat default).cell).index),Iv (((((v.choices.getD i_2.toNat default).uses).getD k_1.toNat default).cell).minute)].toArray) rfl rfl (fun _ _ _ h=>h) (fun _ _ _ hi ht=>op_loadA (vs:=[Bo (((((v.choices.getD i_2.toNat default).uses).getD k_1.toNat default).cell).airport),Iv (((((v.choices.getD i_2.toNat default).uses).getD k_1.toNat default).cell).index),Iv (((((v.choices.getD i_2.toNat default).uses).getD k_1.toNat default).cell).minute)]) (i:=0) ty67 (Step.nx hi).1 (ht 125 rfl) rfl rfl rfl<|Gz hi)<|Dw_nil fun w478 g479 hl480 hi481=>?_
 obtain⟨-,hst482,-⟩:=hl480
 obtain⟨hs484,p483⟩:=Step.nx hi481
 rintro _ rfl _ rfl v485 h486
 replace h486:Vr.vd (vA rXCell) _ _ _ _:=h486
 obtain⟨_,rfl,⟨_,_,rfl,rfl,⟨_,_,rfl,⟨rfl,Rz⟩,⟨rfl,Ra1⟩⟩⟩⟩:=h486
 rintro _ ⟨p488,rfl,f489⟩ _ ⟨p490,rfl,f491⟩ _ rfl _ rfl _ rfl _ rfl _ rfl _ rfl _ rfl _ rfl _ rfl _ rfl v492 h493
 replace h493:Vr.vd vB _ _ _ _:=h493
 obtain rfl:=h493
 rintro _ rfl _ rfl _ rfl _ rfl v495 h496
 replace h496:Vr.vd (vI .i64) _ _ _ _:=h496
 obtain⟨rfl,Rb1⟩:=h496
 rintro _ rfl _ rfl _ rfl _ rfl
 have p498:=hs308.to hs484 (hst482.trans p483)
 replace f489:=f489.step p483;replace f491:=f491.step p483
 obtain⟨before_1,hv499,hm⟩:=bd hm
 refine Rog rfl rfl<|op_callE hs484 Try.call60 (c60_overflightref27_Before (a:=(((v.choices.getD i_2.toNat default).uses).getD (IntKind.wrap .i64 (k_1 - 1)).toNat default).cell) (b:=(((v.choices.getD i_2.toNat default).uses).getD k_1.toNat default).cell) hs484.ltw Rz Ra1 Rr Rs hv499) rfl ?_
 rintro v500 w501 p505 hs504 h503
 clear hs484
 obtain rfl:=h503
 refine Rog rfl rfl<|op_not rfl<|Rog rfl rfl<|op_pick_t (v:=Bo (!before_1)) rfl rfl<|Pkf (Bo (!before_1)) rfl rfl<|Ri2 ?_
 have p507:=(p498.trans p505)
 replace ch323:=ch323.trans p507
 exact hK313 _ _ ⟨!before_1,_,rfl,Frm.of ⟨rfl,trivial⟩,ch323,hs504,hm⟩
 replace hm:=bif_f hm hg432
 iterate 9 refine Dw_sk rfl rfl (fun _ _ _ h=>h) rfl ?_
 refine Dw_nil fun w512 g513 hl514 hi515=>?_
 obtain⟨-,hst516,-⟩:=hl514
 obtain⟨hs518,p517⟩:=Step.nx hi515
 rintro _ rfl _ rfl _ rfl _ rfl _ rfl _ rfl _ rfl _ rfl _ rfl _ rfl _ rfl _ rfl _ rfl _ rfl _ rfl v519 h520
 replace h520:Vr.vd vB _ _ _ _:=h520
 obtain rfl:=h520
 rintro _ rfl _ rfl _ rfl _ rfl v522 h523
 replace h523:Vr.vd (vI .i64) _ _ _ _:=h523
 obtain⟨rfl,Rc1⟩:=h523
 rintro _ rfl _ rfl _ rfl _ rfl
 have p525:=hs308.to hs518 (hst516.trans p517)
 refine Rl2 rfl (asB_ne rfl rfl) rfl<|Rl2 rfl (asB_ne rfl rfl) rfl<|Rog rfl rfl<|op_pick_f (v:=Bo false) rfl rfl<|Pkf (Bo false) rfl rfl<|Ri2 ?_
 replace ch323:=ch323.trans p525
 exact hK313 _ _ ⟨false,_,rfl,Frm.of ⟨rfl,trivial⟩,ch323,hs518,hm⟩
 refine Wp_exit<|Wa<|Mve (Iv i_2) rfl<|Rop<|op_addw rfl rfl<|Asg (Iv (IntKind.wrap .i64 (i_2+1))) rfl<|Ri2 ?_
 have hs526:=hs287.drop 0
 have p527:=(hs287.dropS 0)
 clear hs287
 have p528:=(p293.trans p527)
 replace ch251:=ch251.trans p528
 exact hK244 _ _ ⟨(IntKind.wrap .i64 (i_2+1)),_,rfl,Frm.of ⟨rfl,trivial⟩,ch251,hs526,(inK_wrap .i64 _),jnE1 hsf243 hm⟩
 intro K273 hK273
 have ch529:=hs268.stepR
 clear f257
 refine Wa<|Rop<|op2 0 ty58 rfl ty3 rfl rfl<|Rop<|oq2 0 ty3 hs268 rfl rfl rfl ?_
 obtain⟨within_3,hv530,hm⟩:=bd hm
 refine Rop<|op_callE hs268 Try.call61 (c61_overflightref27_within (n:=(v.choices.getD i_2.toNat default).delay) (lo:=0) (hi:=1048576) hs268.ltw Rn (show InK .i64 0 from by decide) (show InK .i64 1048576 from by decide) hv530) rfl ?_
 rintro v531 w532 p536 hs535 h534
 obtain rfl:=h534
 refine Rop<|op_not rfl<|Mve (Bo (!within_3)) rfl<|Rg_caseM hm (fun hg538 hm=>?_) (fun hg538 hm=>?_)
 iterate 4 refine Rl2 rfl (asB_ne rfl rfl) rfl ?_
 refine Pkt (Bo true) rfl rfl<|Mve (Bo true) rfl ?_
 iterate 4 refine Rl2 rfl (asB_ne rfl rfl) rfl ?_
 refine Pkt (Bo true) rfl rfl<|Ri2 ?_
 replace ch529:=ch529.trans p536
 exact hK273 _ _ ⟨true,_,rfl,Frm.of ⟨rfl,trivial⟩,ch529,hs535,hm⟩
 refine Rog rfl rfl<|op2 1 ty58 rfl ty3 rfl rfl<|Rog rfl rfl<|oq2 0 ty3 hs535 rfl rfl rfl ?_
 obtain⟨within_4,hv539,hm⟩:=bd hm
 refine Rog rfl rfl<|op_callE hs535 Try.call61 (c61_overflightref27_within (n:=(v.choices.getD i_2.toNat default).cost) (lo:=0) (hi:=1048576) hs535.ltw Ro (show InK .i64 0 from by decide) (show InK .i64 1048576 from by decide) hv539) rfl ?_
 rintro v540 w541 p545 hs544 h543
 clear hs535
 obtain rfl:=h543
 refine Rog rfl rfl<|op_not rfl<|Pkf (Bo (!within_4)) rfl rfl<|Mve (Bo (!within_4)) rfl<|Rg_caseM hm (fun hg547 hm=>?_) (fun hg547 hm=>?_)
 iterate 4 refine Rl2 rfl (asB_ne rfl rfl) rfl ?_
 refine Pkt (Bo true) rfl rfl<|Ri2 ?_
 replace ch529:=ch529.trans (p536.trans p545)
 exact hK273 _ _ ⟨true,_,rfl,Frm.of ⟨rfl,trivial⟩,ch529,hs544,hm⟩
 refine Rog rfl rfl<|op2 2 ty58 rfl ty3 rfl rfl<|Rog rfl rfl<|oq2 0 ty3 hs544 rfl rfl rfl ?_
 obtain⟨within_5,hv548,hm⟩:=bd hm
 refine Rog rfl rfl<|op_callE hs544 Try.call61 (c61_overflightref27_within (n:=(v.choices.getD i_2.toNat default).changes) (lo:=0) (hi:=1048576) hs544.ltw Rp (show InK .i64 0 from by decide) (show InK .i64 1048576 from by decide) hv548) rfl ?_
 rintro v549 w550 p554 hs553 h552
 clear hs544
 obtain rfl:=h552
 refine Rog rfl rfl<|op_not rfl<|Pkf (Bo (!within_5)) rfl rfl<|Ri2 ?_
 replace ch529:=ch529.trans (p536.trans (p545.trans p554))
 exact hK273 _ _ ⟨!within_5,_,rfl,Frm.of ⟨rfl,trivial⟩,ch529,hs553,hm⟩
 refine Wp_exit<|Wb ?_
 obtain⟨hs556,p557⟩:=hs247.sub (bs':=[]) (.cons _ (.cons _ List.Sublist.slnil))
 clear Fa Fb Fc Fd Fe
 clear hs247
 refine Wa<|Asg (Bo true) rfl<|Ri2<|Wp_ret<|⟨_,Clo,[Bo true],⟨rfl,trivial⟩,hs556.ext,?_⟩
 exact Vr.eq (a:=vB) (x:=true) rfl (oi hm)
 intro K15 hK15
 have ch558:=hs9.stepR
 refine Wa<|Rop<|op2 2 ty61 rfl ty31 rfl rfl<|Rop<|oq2 0 ty31 hs9 rfl rfl rfl<|Rop<|op_len Try.underlying31 rfl ?_
 have p560:=(p3.trans p8)
 replace Fd:=Fd.step p560
 have rl559:=inK_len Fd
 refine Rop<|op_lss rfl rfl<|Mve (Bo (decide ((v.leaves.length:Int)<1))) rfl<|Rg_caseM hm (fun hg561 hm=>?_) (fun hg561 hm=>?_)
 iterate 4 refine Rl2 rfl (asB_ne rfl rfl) rfl ?_
 refine Pkt (Bo true) rfl rfl<|Mve (Bo true) rfl ?_
 iterate 4 refine Rl2 rfl (asB_ne rfl rfl) rfl ?_
 exact Pkt (Bo true) rfl rfl<|Ri2<|hK15 _ _ ⟨true,_,rfl,Frm.of ⟨rfl,trivial⟩,ch558,hs9,hm⟩
 refine Rog rfl rfl<|op2 3 ty61 rfl ty59 rfl rfl<|Rog rfl rfl<|oq2 0 ty59 hs9 rfl rfl rfl<|Rog rfl rfl<|op_len Try.underlying59 rfl ?_
 replace Fe:=Fe.step p560
 have rl562:=inK_len Fe
 refine Rog rfl rfl<|op_lss rfl rfl<|Pkf (Bo (decide ((v.choices.length:Int)<1))) rfl rfl<|Mve (Bo (decide ((v.choices.length:Int)<1))) rfl<|Rg_caseM hm (fun hg563 hm=>?_) (fun hg563 hm=>?_)
 iterate 4 refine Rl2 rfl (asB_ne rfl rfl) rfl ?_
 exact Pkt (Bo true) rfl rfl<|Ri2<|hK15 _ _ ⟨true,_,rfl,Frm.of ⟨rfl,trivial⟩,ch558,hs9,hm⟩
 refine Rog rfl rfl<|op2 3 ty61 rfl ty59 rfl rfl<|Rog rfl rfl<|oq2 0 ty59 hs9 rfl rfl rfl<|Rog rfl rfl<|op_len Try.underlying59 rfl ?_
 have rl564:=inK_len Fe
 exact Rog rfl rfl<|op_gtr rfl rfl<|Pkf (Bo (decide (96<(v.choices.length:Int)))) rfl rfl<|Ri2<|hK15 _ _ ⟨decide (96<(v.choices.length:Int)),_,rfl,Frm.of ⟨rfl,trivial⟩,ch558,hs9,hm⟩

abbrev q31_5:List Nat:=[2,6,105,106,107,108,109,110,111,112,113,114,115,116,117,118,119]

abbrev q31_3:List Nat:=[2,5,88,89,90,91,92,93,94,95,96,97,98,99,100,101,102,103,104]

abbrev q31_4:List Nat:=[2,4,5,71,72,73,74,75,76,77,78,79,80,81,82,83,84,85,86,87,88,89,90,91,92,93,94,95,96,97,98,99,100,101,102,103,104]

abbrev q31_1:List Nat:=[36,37,38,39,40,41,42,43,44,45,46,47,48,49,50,51,52,53,54,55,56,57,58,59,60,61,62,63,64,65,66,67,68,69,70]

abbrev q31_2:List Nat:=[2,3,29,30,31,32,33,34,35,36,37,38,39,40,41,42,43,44,45,46,47,48,49,50,51,52,53,54,55,56,57,58,59,60,61,62,63,64,65,66,67,68,69,70]

abbrev q31_0:List Nat:=[7,8,9,10,11,12,13,14,15,16,17,18,19,20,21,22,23,24,25,26,27,28]

def m31_overflightref27_Check_B2 (p:XProblem) (i_2:Int) (sf316:Int→Option Int) (sf391:Int→Option Int) (k_1:Int):Option Int:=
 bif (decide (k_1<(p.cells.length:Int))) then
  ck ((0:Int)≤i_2∧i_2<(p.capacity.length:Int))<|
  ck ((0:Int)≤k_1∧k_1<((p.capacity.getD i_2.toNat default).length:Int))<|
  (m61_overflightref27_within ((p.capacity.getD i_2.toNat default).getD k_1.toNat default) 0 4096).bind fun within_1=>
  bif (!within_1) then
   some 270
  else
   sf391 (IntKind.wrap .i64 (k_1+1))
 else
  sf316 (IntKind.wrap .i64 (i_2+1))

def m31_overflightref27_Check_B3 (p:XProblem) (sf429:Int→Option Int) (i_3:Int):Option Int:=
 bif (decide (i_3<(p.variables.length:Int))) then
  ck ((0:Int)≤i_3∧i_3<(p.variables.length:Int))<|
  (m62_overflightref27_variable p (p.variables.getD i_3.toNat default)).bind fun variable_1=>
  bif (!variable_1) then
   some 270
  else
   sf429 (IntKind.wrap .i64 (i_3+1))
 else
  some 0

def m31_overflightref27_Check_B1 (p:XProblem) (sf316:Int→Option Int) (i_2:Int):Option Int:=
 bif (decide (i_2<(p.capacity.length:Int))) then
  ck ((0:Int)≤i_2∧i_2<(p.capacity.length:Int))<|
  bif (decide (((p.capacity.getD i_2.toNat default).length:Int)≠(p.cells.length:Int))) then
   some 270
  else
   loop1 (m31_overflightref27_Check_B2 p i_2 sf316) (((p.cells.length:Int) - 0).toNat+1) 0
 else
  loop1 (m31_overflightref27_Check_B3 p) (((p.variables.length:Int) - 0).toNat+1) 0

def m31_overflightref27_Check_B0 (p:XProblem) (sf21:Int→Option Int) (i_1:Int):Option Int:=
 bif (decide (i_1<(p.cells.length:Int))) then
  jn (fun(v_2:Bool)=>
   bif v_2 then
    some 270
   else
    sf21 (IntKind.wrap .i64 (i_1+1)))
  (fun k36=>
   ck ((0:Int)≤i_1∧i_1<(p.cells.length:Int))<|
   bif (decide (((p.cells.getD i_1.toNat default).index)<0)) then
    k36 true
   else
    ck ((0:Int)≤i_1∧i_1<(p.cells.length:Int))<|
    bif (decide (((p.cells.getD i_1.toNat default).minute)<0)) then
     k36 true
    else
     bif (decide (0<i_1)) then
      ck ((0:Int)≤(IntKind.wrap .i64 (i_1 - 1))∧(IntKind.wrap .i64 (i_1 - 1))<(p.cells.length:Int))<|
      ck ((0:Int)≤i_1∧i_1<(p.cells.length:Int))<|
      (m60_overflightref27_Before (p.cells.getD (IntKind.wrap .i64 (i_1 - 1)).toNat default) (p.cells.getD i_1.toNat default)).bind fun before_1=>
      k36 (!before_1)
     else
      k36 false)
 else
  loop1 (m31_overflightref27_Check_B1 p) (((p.capacity.length:Int) - 0).toNat+1) 0

def m31_overflightref27_Check (p:XProblem):Option Int:=
 jn (fun(v_1:Bool)=>
  bif v_1 then
   some 270
  else
   loop1 (m31_overflightref27_Check_B0 p) (((p.cells.length:Int) - 0).toNat+1) 0)
 (fun k8=>
  bif (decide (4096<(p.cells.length:Int))) then
   k8 true
  else
   bif (decide ((p.capacity.length:Int)<1)) then
    k8 true
   else
    bif (decide (32<(p.capacity.length:Int))) then
     k8 true
    else
     k8 (decide (64<(p.variables.length:Int))))

theorem c31_overflightref27_Check {w:World} {O:List Nat} {p:XProblem} {Aa:Option Addr} {Ca:Nat} {Ab:Option Addr} {Cb:Nat} {Ac:Option Addr} {Cc:Nat} (hO:∀k∈O,k<w.heap.size) (Fa:SlR rXCell w O Aa Ca p.cells) (Fb:SlR (rSl (rInt .i64)) w O Ab Cb p.capacity) (Fc:SlR rXVariable w O Ac Cc p.variables) {x:Int} (hm:m31_overflightref27_Check p=some x):
 Ok Try.prog 31 [Value.agg [Sl Aa p.cells Ca,Sl Ab p.capacity Cb,Sl Ac p.variables Cc].toArray] w O (vI .i64) x:=by
 unfold m31_overflightref27_Check at hm
 refine Fn_of_Wp (n:=120) (xs:=[.tmp 2]) Try.func31 rfl Try.ntmps31 Try.results31 rfl ?_
 have hs:=St.start hO
 refine Wb<|Wa<|Rop<|op_box (cs:=[Sl Aa p.cells Ca,Sl Ab p.capacity Cb,Sl Ac p.variables Cc]) hs rfl rfl ?_
 intro b1 w2 _ p3 hs4
 refine Asg (Iv 0) rfl<|Ri2<|Wb<|Wr [] [(1,Pt b1 0)] fun ξ6=>?_
 obtain⟨k8,hk9,hm⟩:=jn_elim hm
 refine Wp_seqJ q31_0 (fun fr w'=>∃(v_1:Bool) (Ebs:Ents),Ebs=[(some b1,Oc [Sl Aa p.cells Ca,Sl Ab p.capacity Cb,Sl Ac p.variables Cc] 26)]∧fr [] [(28,Bo v_1)]∧hs4.S (ks Ebs O) w'∧St ⟨w,[],[]⟩ O w' Ebs∧k8 v_1=some x) ?_ ?_
 rintro ρ15 w11 ⟨v_1,_,rfl,hfr14,hst13,hs12,hm⟩
 replace hm:=jnE1 hk9 hm
 rw [hfr14.eq];clear hfr14
 refine Wo2 hm rfl (fun hc16 hm=>?_) (fun hc16 hm=>?_)
 refine Wb ?_
 obtain⟨hs17,p18⟩:=hs12.sub (bs':=[]) (.cons _ List.Sublist.slnil)
 clear Fa Fb Fc
 clear hs12
 refine Wa<|Asg (Iv 270) rfl<|Ri2<|Wp_ret<|⟨_,Clo,[Iv 270],⟨rfl,trivial⟩,hs17.ext,?_⟩
 exact Vr.eq (a:=(vI .i64)) (x:=270) ⟨rfl,(show InK .i64 270 from by decide)⟩ (oi hm)
 refine Ws2<|Wb<|Wb<|Wa<|Asg (Iv 0) rfl<|Ri2<|Wn2<|Wr [] [(1,Pt b1 0),(3,Iv 0)] fun ξ20=>Wp_loopM q31_2 (fun m fr w'=>∃(i_1:Int) (Ebs:Ents),Ebs=[(some b1,Oc [Sl Aa p.cells Ca,Sl Ab p.capacity Cb,Sl Ac p.variables Cc] 26)]∧fr [] [(3,Iv i_1)]∧hs12.S (ks Ebs O) w'∧St ⟨w,[],[]⟩ O w' Ebs∧InK .i64 i_1∧loop1 (m31_overflightref27_Check_B0 p) m i_1=some x) (((p.cells.length:Int) - 0).toNat+1) ⟨0,_,rfl,Frm.of ⟨rfl,trivial⟩,Step.refl _ _,hs12,(show InK .i64 0 from by decide),hm⟩ ?_ ?_
 rintro _ _ ⟨_,_,_,_,_,_,_,hm⟩;exact loop1_z hm
 rintro m24 K23 hK23 ρ29 w25 ⟨i_1,_,rfl,hfr28,hst27,hs26,Ra,hm⟩
 obtain⟨sf21,hsf22,hm⟩:=loop1_s hm;unfold m31_overflightref27_Check_B0 at hm
 rw [hfr28.eq];clear hfr28
 have ch30:=hst27
 refine Wb<|Wb<|Wa<|Mve (Iv i_1) rfl<|Rop<|op2 0 ty26 rfl ty22 rfl rfl<|Rop<|oq2 0 ty22 hs26 rfl rfl rfl<|Rop<|op_len Try.underlying22 rfl ?_
 have p32:=(p3.trans (hst13.trans hst27))
 replace Fa:=Fa.step p32
 have rl31:=inK_len Fa
 refine Rop<|op_lss rfl rfl<|Ri2<|Wo2 hm rfl (fun hc33 hm=>?_) (fun hc33 hm=>?_)
 refine Ws2<|Wb<|Wn2<|Wr2 q31_2 [] (updL ⟨ξ20,[]⟩ [(1,Pt b1 0),(3,Iv 0)]) [(3,Iv i_1)] fun ξ34=>?_
 obtain⟨k36,hk37,hm⟩:=jn_elim hm
 refine Wp_seqJ q31_1 (fun fr w'=>∃(v_2:Bool) (Ebs:Ents),Ebs=[(some b1,Oc [Sl Aa p.cells Ca,Sl Ab p.capacity Cb,Sl Ac p.variables Cc] 26)]∧fr [] [(70,Bo v_2)]∧hs26.S (ks Ebs O) w'∧St ⟨w,[],[]⟩ O w' Ebs∧k36 v_2=some x) ?_ ?_
 rintro ρ43 w39 ⟨v_2,_,rfl,hfr42,hst41,hs40,hm⟩
 replace hm:=jnE1 hk37 hm
 rw [hfr42.eq];clear hfr42
 refine Wo2 hm rfl (fun hc44 hm=>?_) (fun hc44 hm=>?_)
 refine Wb<|Wa<|Asg (Iv 270) rfl<|Ri2<|Wp_ret<|⟨_,Clo,[Iv 270],⟨rfl,trivial⟩,hs40.ext,?_⟩
 exact Vr.eq (a:=(vI .i64)) (x:=270) ⟨rfl,(show InK .i64 270 from by decide)⟩ (oi hm)
 refine Ws2<|Wa<|Mve (Iv i_1) rfl<|Rop<|op_addw rfl rfl<|Asg (Iv (IntKind.wrap .i64 (i_1+1))) rfl<|Ri2 ?_
 replace ch30:=ch30.trans hst41
 exact hK23 _ _ ⟨(IntKind.wrap .i64 (i_1+1)),_,rfl,Frm.of ⟨rfl,trivial⟩,ch30,hs40,(inK_wrap .i64 _),jnE1 hsf22 hm⟩
 intro K38 hK38
 have ch45:=hs26.stepR
 refine Wp_drawR (g0:=[]) (m:=31) (fl:=[]) (TS_inv hs26) rfl (.inl rfl) rfl (by decide+kernel) ?_  -- 6
 refine Dw_p (Pt b1 0) (fun _ _ _ hi ht=>op2 0 ty26 rfl ty22 (ht 1 rfl) rfl<|Gz hi)<|Dw_p (Sl Aa p.cells Ca) (fun _ _ _ hi ht=>oq2 0 ty22 (Step.nx hi).1 (ht 36 rfl) rfl rfl<|Gz hi)<|Dw_p (Iv i_1) (fun _ _ _ hi ht=>ok2 (v:=Iv i_1) (ht 3 rfl)<|Gz hi) ?_
 obtain⟨hc58,hm⟩:=ck_some hm
 refine Dw_op (VP _ _ rXCell (p.cells.getD i_1.toNat default)) (VP.stab _ _) (fun ρ55 w56 g hle hi ht=>?_) ?_
 obtain⟨-,hst,-⟩:=hle
 replace Fa:=Fa.step hst
 refine Sj2<|om2 (q:=rXCell) ty22 ty67 (ht 37 rfl) (ht 38 rfl) Fa rfl hc58.1 hc58.2 ?_
 intro p59 f60
 exact Goes.same hi ⟨_,rfl,f60⟩
 refine Dw_op (VP _ _ (rInt .i64) ((p.cells.getD i_1.toNat default).index)) (VP.stab _ _) (fun ρ61 w62 g hle hi ht=>?_) ?_
 obtain⟨p64,q65,f66⟩:=ht 39 rfl
 refine Sj2<|op_fieldAddr ty67 rfl ty3 (by decide) q65 rfl ?_
 have f67:=f66.via.snd.fst
 exact Goes.same hi ⟨_,rfl,f67⟩
 refine Dw_op (VD _ _ (vI .i64) ((p.cells.getD i_1.toNat default).index)) (VD.stab _ _) (fun ρ68 w69 g hle hi ht=>?_) ?_
 obtain⟨p71,q72,f73⟩:=ht 40 rfl
 refine Sj2<|ot2 ty3 q72 f73 rfl ?_
 intro v74 h75
 obtain⟨rfl,Rb⟩:=un_int h75
 exact Goes.same hi (show Vr.vd (vI .i64) _ _ _ _ from⟨rfl,Rb⟩)
 refine Dw_eq (Bo (decide (((p.cells.getD i_1.toNat default).index)<0))) (fun ρ77 w78 g hle hi ht=>?_) ?_
 have h80:Vr.vd (vI .i64) _ _ _ _:=ht 41 rfl
 obtain⟨q81,Rc⟩:=h80
 exact Sj2<|op_lss q81 rfl<|Gz hi
 refine Dw_opB (decide (((p.cells.getD i_1.toNat default).index)<0)) (fun _ _ _ _ hi ht=>Sj2<|ok2 (v:=Bo (decide (((p.cells.getD i_1.toNat default).index)<0))) (ht 42 rfl)<|Gz hi) (fun hg86=>?_) (fun hg86=>?_)
 replace hm:=bif_t hm hg86
 iterate 7 refine Dw_sk rfl rfl (fun _ _ _ h=>h) rfl ?_
 refine Dw_p (Bo true) (fun _ _ _ hi ht=>op_pick_t (v:=Bo true) (ht 43 rfl) rfl<|Gz hi)<|Dw_p (Bo true) (fun _ _ _ hi ht=>ok2 (v:=Bo true) (ht 51 rfl)<|Gz hi) ?_
 iterate 14 refine Dw_sk rfl rfl (fun _ _ _ h=>h) rfl ?_
 refine Dw_nil fun w97 g98 hl99 hi100=>?_
 obtain⟨-,hst101,-⟩:=hl99
 obtain⟨hs103,p102⟩:=Step.nx hi100
 rintro _ rfl _ rfl _ rfl _ rfl _ rfl _ rfl _ rfl _ rfl _ rfl _ rfl _ rfl _ rfl _ rfl _ rfl _ rfl _ rfl _ rfl _ rfl _ rfl _ rfl _ rfl _ rfl _ rfl _ rfl _ rfl v104 h105
 replace h105:Vr.vd (vI .i64) _ _ _ _:=h105
 obtain⟨rfl,Rd⟩:=h105
 rintro _ ⟨p107,rfl,f108⟩ _ ⟨p109,rfl,f110⟩ _ rfl _ rfl _ rfl
 have p111:=hs26.to hs103 (hst101.trans p102)
 replace f108:=f108.step p102;replace f110:=f110.step p102
 iterate 3 refine Rl2 rfl (asB_ne rfl rfl) rfl ?_
 refine Pkt (Bo true) rfl rfl<|Ri2 ?_
 replace ch45:=ch45.trans p111
 exact hK38 _ _ ⟨true,_,rfl,Frm.of ⟨rfl,trivial⟩,ch45,hs103,hm⟩
 replace hm:=bif_f hm hg86
 refine Dw_g (Pt b1 0) rfl rfl (fun _ _ _ h=>h) (fun _ _ _ hi ht=>op2 0 ty26 rfl ty22 (ht 1 rfl) rfl<|Gz hi)<|Dw_g (Sl Aa p.cells Ca) rfl rfl (fun _ _ _ h=>h) (fun _ _ _ hi ht=>oq2 0 ty22 (Step.nx hi).1 (ht 44 rfl) rfl rfl<|Gz hi)<|Dw_g (Iv i_1) rfl rfl (fun _ _ _ h=>h) (fun _ _ _ hi ht=>ok2 (v:=Iv i_1) (ht 3 rfl)<|Gz hi) ?_
 obtain⟨hc124,hm⟩:=ck_some hm
 refine Dw_op (VP _ _ rXCell (p.cells.getD i_1.toNat default)) (VP.stab _ _) (fun ρ121 w122 g hle hi ht=>?_) ?_
 obtain⟨-,hst,-⟩:=hle
 replace Fa:=Fa.step hst
 refine StepOp_g rfl (ht 43 rfl)<|om2 (q:=rXCell) ty22 ty67 (ht 45 rfl) (ht 46 rfl) Fa rfl hc124.1 hc124.2 ?_
 intro p125 f126
 exact Goes.same hi ⟨_,rfl,f126⟩
 refine Dw_op (VP _ _ (rInt .i64) ((p.cells.getD i_1.toNat default).minute)) (VP.stab _ _) (fun ρ127 w128 g hle hi ht=>?_) ?_
 obtain⟨p130,q131,f132⟩:=ht 47 rfl
 refine StepOp_g rfl (ht 43 rfl)<|op_fieldAddr ty67 rfl ty3 (by decide) q131 rfl ?_
 have f133:=f132.via.snd.snd
 exact Goes.same hi ⟨_,rfl,f133⟩
 refine Dw_op (VD _ _ (vI .i64) ((p.cells.getD i_1.toNat default).minute)) (VD.stab _ _) (fun ρ134 w135 g hle hi ht=>?_) ?_
 obtain⟨p137,q138,f139⟩:=ht 48 rfl
 refine StepOp_g rfl (ht 43 rfl)<|ot2 ty3 q138 f139 rfl ?_
 intro v140 h141
 obtain⟨rfl,Re⟩:=un_int h141
 exact Goes.same hi (show Vr.vd (vI .i64) _ _ _ _ from⟨rfl,Re⟩)
 refine Dw_eq (Bo (decide (((p.cells.getD i_1.toNat default).minute)<0))) (fun ρ143 w144 g hle hi ht=>?_) ?_
 have h146:Vr.vd (vI .i64) _ _ _ _:=ht 49 rfl
 obtain⟨q147,Rf⟩:=h146
 exact StepOp_g rfl (ht 43 rfl)<|op_lss q147 rfl<|Gz hi
 refine Dw_p (Bo (decide (((p.cells.getD i_1.toNat default).minute)<0))) (fun _ _ _ hi ht=>op_pick_f (v:=Bo (decide (((p.cells.getD i_1.toNat default).minute)<0))) (ht 43 rfl) (ht 50 rfl)<|Gz hi)<|Dw_opB (decide (((p.cells.getD i_1.toNat default).minute)<0)) (fun _ _ _ _ hi ht=>Sj2<|ok2 (v:=Bo (decide (((p.cells.getD i_1.toNat default).minute)<0))) (ht 51 rfl)<|Gz hi) (fun hg155=>?_) (fun hg155=>?_)
 replace hm:=bif_t hm hg155
 iterate 14 refine Dw_sk rfl rfl (fun _ _ _ h=>h) rfl ?_
 refine Dw_nil fun w160 g161 hl162 hi163=>?_
 obtain⟨-,hst164,-⟩:=hl162
 obtain⟨hs166,p165⟩:=Step.nx hi163
 rintro _ rfl _ rfl _ rfl _ rfl _ rfl _ rfl _ rfl _ rfl _ rfl _ rfl _ rfl _ rfl _ rfl _ rfl _ rfl _ rfl _ rfl v167 h168
 replace h168:Vr.vd (vI .i64) _ _ _ _:=h168
 obtain⟨rfl,Rg⟩:=h168
 rintro _ ⟨p170,rfl,f171⟩ _ ⟨p172,rfl,f173⟩ _ rfl _ rfl _ rfl _ rfl _ rfl v174 h175
 replace h175:Vr.vd (vI .i64) _ _ _ _:=h175
 obtain⟨rfl,Rh⟩:=h175
 rintro _ ⟨p177,rfl,f178⟩ _ ⟨p179,rfl,f180⟩ _ rfl _ rfl _ rfl
 have p181:=hs26.to hs166 (hst164.trans p165)
 replace f171:=f171.step p165;replace f173:=f173.step p165;replace f178:=f178.step p165;replace f180:=f180.step p165
 iterate 3 refine Rl2 rfl (asB_ne rfl rfl) rfl ?_
 refine Pkt (Bo true) rfl rfl<|Ri2 ?_
 replace ch45:=ch45.trans p181
 exact hK38 _ _ ⟨true,_,rfl,Frm.of ⟨rfl,trivial⟩,ch45,hs166,hm⟩
 replace hm:=bif_f hm hg155
 refine Dw_g (Iv i_1) rfl rfl (fun _ _ _ h=>h) (fun _ _ _ hi ht=>ok2 (v:=Iv i_1) (ht 3 rfl)<|Gz hi)<|Dw_g (Bo (decide (0<i_1))) rfl rfl (fun _ _ _ h=>h) (fun _ _ _ hi ht=>op_gtr (ht 53 rfl) rfl<|Gz hi)<|Dw_opB (decide (0<i_1)) (fun _ _ _ _ hi ht=>StepOp_g rfl (ht 52 rfl)<|ok2 (v:=Bo (decide (0<i_1))) (ht 54 rfl)<|Gz hi) (fun hg191=>?_) (fun hg191=>?_)
 replace hm:=bif_t hm hg191
 refine Dw_g (Pt b1 0) rfl rfl (fun _ _ _ h=>h) (fun _ _ _ hi ht=>op2 0 ty26 rfl ty22 (ht 1 rfl) rfl<|Gz hi)<|Dw_g (Sl Aa p.cells Ca) rfl rfl (fun _ _ _ h=>h) (fun _ _ _ hi ht=>oq2 0 ty22 (Step.nx hi).1 (ht 56 rfl) rfl rfl<|Gz hi)<|Dw_g (Iv i_1) rfl rfl (fun _ _ _ h=>h) (fun _ _ _ hi ht=>ok2 (v:=Iv i_1) (ht 3 rfl)<|Gz hi)<|Dw_g (Iv (IntKind.wrap .i64 (i_1 - 1))) rfl rfl (fun _ _ _ h=>h) (fun _ _ _ hi ht=>op_subw (ht 58 rfl) rfl<|Gz hi) ?_
 obtain⟨hc207,hm⟩:=ck_some hm
 refine Dw_op (VP _ _ rXCell (p.cells.getD (IntKind.wrap .i64 (i_1 - 1)).toNat default)) (VP.stab _ _) (fun ρ204 w205 g hle hi ht=>?_) ?_
 obtain⟨-,hst,-⟩:=hle
 replace Fa:=Fa.step hst
 refine StepOp_g rfl (ht 55 rfl)<|om2 (q:=rXCell) ty22 ty67 (ht 57 rfl) (ht 59 rfl) Fa rfl hc207.1 hc207.2 ?_
 intro p208 f209
 exact Goes.same hi ⟨_,rfl,f209⟩
 refine Dw_op (VD _ _ (vA rXCell) (p.cells.getD (IntKind.wrap .i64 (i_1 - 1)).toNat default)) (VD.stab _ _) (fun ρ210 w211 g hle hi ht=>?_) ?_
 obtain⟨p213,q214,f215⟩:=ht 60 rfl
 refine StepOp_g rfl (ht 55 rfl)<|op_loadPA ty67 q214 f215 rfl ?_
 intro vs216 h217
 obtain⟨_,_,rfl,rfl,⟨_,_,rfl,⟨rfl,Ri⟩,⟨rfl,Rj⟩⟩⟩:=h217
 exact Goes.same hi (show Vr.vd (vA rXCell) _ _ _ _ from(mkA (mkVia (mk_pair mkBool (mk_pair (mk_int Ri) (mk_int Rj))))))
 refine Dw_g (Pt b1 0) rfl rfl (fun _ _ _ h=>h) (fun _ _ _ hi ht=>op2 0 ty26 rfl ty22 (ht 1 rfl) rfl<|Gz hi)<|Dw_g (Sl Aa p.cells Ca) rfl rfl (fun _ _ _ h=>h) (fun _ _ _ hi ht=>oq2 0 ty22 (Step.nx hi).1 (ht 62 rfl) rfl rfl<|Gz hi)<|Dw_g (Iv i_1) rfl rfl (fun _ _ _ h=>h) (fun _ _ _ hi ht=>ok2 (v:=Iv i_1) (ht 3 rfl)<|Gz hi) ?_
 obtain⟨hc231,hm⟩:=ck_some hm
 refine Dw_op (VP _ _ rXCell (p.cells.getD i_1.toNat default)) (VP.stab _ _) (fun ρ228 w229 g hle hi ht=>?_) ?_
 obtain⟨-,hst,-⟩:=hle
 replace Fa:=Fa.step hst
 refine StepOp_g rfl (ht 55 rfl)<|om2 (q:=rXCell) ty22 ty67 (ht 63 rfl) (ht 64 rfl) Fa rfl hc231.1 hc231.2 ?_
 intro p232 f233
 exact Goes.same hi ⟨_,rfl,f233⟩
 refine Dw_op (VD _ _ (vA rXCell) (p.cells.getD i_1.toNat default)) (VD.stab _ _) (fun ρ234 w235 g hle hi ht=>?_) ?_
 obtain⟨p237,q238,f239⟩:=ht 65 rfl
 refine StepOp_g rfl (ht 55 rfl)<|op_loadPA ty67 q238 f239 rfl ?_
 intro vs240 h241
 obtain⟨_,_,rfl,rfl,⟨_,_,rfl,⟨rfl,Rk⟩,⟨rfl,Rl⟩⟩⟩:=h241
 exact Goes.same hi (show Vr.vd (vA rXCell) _ _ _ _ from(mkA (mkVia (mk_pair mkBool (mk_pair (mk_int Rk) (mk_int Rl))))))
 refine Dw_nil fun w247 g248 hl249 hi250=>?_
 obtain⟨-,hst251,-⟩:=hl249
 obtain⟨hs253,p252⟩:=Step.nx hi250
 rintro v254 h255
 replace h255:Vr.vd (vA rXCell) _ _ _ _:=h255
 obtain⟨_,rfl,⟨_,_,rfl,rfl,⟨_,_,rfl,⟨rfl,Rm⟩,⟨rfl,Rn⟩⟩⟩⟩:=h255
 rintro _ ⟨p257,rfl,f258⟩ _ rfl _ rfl _ rfl v259 h260
 replace h260:Vr.vd (vA rXCell) _ _ _ _:=h260
 obtain⟨_,rfl,⟨_,_,rfl,rfl,⟨_,_,rfl,⟨rfl,Ro⟩,⟨rfl,Rp⟩⟩⟩⟩:=h260
 rintro _ ⟨p262,rfl,f263⟩ _ rfl _ rfl _ rfl _ rfl _ rfl _ rfl _ rfl _ rfl _ rfl _ rfl v264 h265
 replace h265:Vr.vd (vI .i64) _ _ _ _:=h265
 obtain⟨rfl,Rq⟩:=h265
 rintro _ ⟨p267,rfl,f268⟩ _ ⟨p269,rfl,f270⟩ _ rfl _ rfl _ rfl _ rfl _ rfl v271 h272
 replace h272:Vr.vd (vI .i64) _ _ _ _:=h272
 obtain⟨rfl,Rr⟩:=h272
 rintro _ ⟨p274,rfl,f275⟩ _ ⟨p276,rfl,f277⟩ _ rfl _ rfl _ rfl
 have p278:=hs26.to hs253 (hst251.trans p252)
 replace f258:=f258.step p252;replace f263:=f263.step p252;replace f268:=f268.step p252;replace f270:=f270.step p252;replace f275:=f275.step p252;replace f277:=f277.step p252
 obtain⟨before_1,hv279,hm⟩:=bd hm
 refine Rog rfl rfl<|op_callE hs253 Try.call60 (c60_overflightref27_Before (a:=p.cells.getD (IntKind.wrap .i64 (i_1 - 1)).toNat default) (b:=p.cells.getD i_1.toNat default) hs253.ltw Ro Rp Rm Rn hv279) rfl ?_
 rintro v280 w281 p285 hs284 h283
 clear hs253
 obtain rfl:=h283
 refine Rog rfl rfl<|op_not rfl<|Rog rfl rfl<|op_pick_t (v:=Bo (!before_1)) rfl rfl<|Pkf (Bo (!before_1)) rfl rfl<|Ri2 ?_
 have p287:=(p278.trans p285)
 replace ch45:=ch45.trans p287
 exact hK38 _ _ ⟨!before_1,_,rfl,Frm.of ⟨rfl,trivial⟩,ch45,hs284,hm⟩
 replace hm:=bif_f hm hg191
 iterate 11 refine Dw_sk rfl rfl (fun _ _ _ h=>h) rfl ?_
 refine Dw_nil fun w292 g293 hl294 hi295=>?_
 obtain⟨-,hst296,-⟩:=hl294
 obtain⟨hs298,p297⟩:=Step.nx hi295
 rintro _ rfl _ rfl _ rfl _ rfl _ rfl _ rfl _ rfl _ rfl _ rfl _ rfl _ rfl _ rfl _ rfl _ rfl _ rfl _ rfl _ rfl v299 h300
 replace h300:Vr.vd (vI .i64) _ _ _ _:=h300
 obtain⟨rfl,Rs⟩:=h300
 rintro _ ⟨p302,rfl,f303⟩ _ ⟨p304,rfl,f305⟩ _ rfl _ rfl _ rfl _ rfl _ rfl v306 h307
 replace h307:Vr.vd (vI .i64) _ _ _ _:=h307
 obtain⟨rfl,Rt⟩:=h307
 rintro _ ⟨p309,rfl,f310⟩ _ ⟨p311,rfl,f312⟩ _ rfl _ rfl _ rfl
 have p313:=hs26.to hs298 (hst296.trans p297)
 replace f303:=f303.step p297;replace f305:=f305.step p297;replace f310:=f310.step p297;replace f312:=f312.step p297
 refine Rl2 rfl (asB_ne rfl rfl) rfl<|Rl2 rfl (asB_ne rfl rfl) rfl<|Rog rfl rfl<|op_pick_f (v:=Bo false) rfl rfl<|Pkf (Bo false) rfl rfl<|Ri2 ?_
 replace ch45:=ch45.trans p313
 exact hK38 _ _ ⟨false,_,rfl,Frm.of ⟨rfl,trivial⟩,ch45,hs298,hm⟩
 refine Wp_exit<|Wb<|Wb<|Wa<|Asg (Iv 0) rfl<|Ri2<|Wn2<|Wr [] [(1,Pt b1 0),(4,Iv 0)] fun ξ315=>Wp_loopM q31_4 (fun m fr w'=>∃(i_2:Int) (Ebs:Ents),Ebs=[(some b1,Oc [Sl Aa p.cells Ca,Sl Ab p.capacity Cb,Sl Ac p.variables Cc] 26)]∧fr [] [(4,Iv i_2)]∧hs26.S (ks Ebs O) w'∧St ⟨w,[],[]⟩ O w' Ebs∧InK .i64 i_2∧loop1 (m31_overflightref27_Check_B1 p) m i_2=some x) (((p.capacity.length:Int) - 0).toNat+1) ⟨0,_,rfl,Frm.of ⟨rfl,trivial⟩,Step.refl _ _,hs26,(show InK .i64 0 from by decide),hm⟩ ?_ ?_
 rintro _ _ ⟨_,_,_,_,_,_,_,hm⟩;exact loop1_z hm
 rintro m319 K318 hK318 ρ324 w320 ⟨i_2,_,rfl,hfr323,hst322,hs321,Ru,hm⟩
 obtain⟨sf316,hsf317,hm⟩:=loop1_s hm;unfold m31_overflightref27_Check_B1 at hm
 rw [hfr323.eq];clear hfr323
 have ch325:=hst322
 refine Wb<|Wb<|Wa<|Mve (Iv i_2) rfl<|Rop<|op2 1 ty26 rfl ty23 rfl rfl<|Rop<|oq2 0 ty23 hs321 rfl rfl rfl<|Rop<|op_len Try.underlying23 rfl ?_
 have p327:=(p32.trans hst322)
 replace Fb:=Fb.step p327
 have rl326:=inK_len Fb
 refine Rop<|op_lss rfl rfl<|Ri2<|Wo2 hm rfl (fun hc328 hm=>?_) (fun hc328 hm=>?_)
 refine Ws2<|Wb<|Wn2<|Wb<|Wb<|Wp_drawR (g0:=[]) (m:=9) (fl:=[]) (TS_inv hs321) rfl (.inl rfl) rfl (by decide+kernel) ?_  -- 11
 refine Dw_p (Pt b1 1) (fun _ _ _ hi ht=>op2 1 ty26 rfl ty23 (ht 1 rfl) rfl<|Gz hi)<|Dw_p (Sl Ab p.capacity Cb) (fun _ _ _ hi ht=>oq2 0 ty23 (Step.nx hi).1 (ht 78 rfl) rfl rfl<|Gz hi)<|Dw_p (Iv i_2) (fun _ _ _ hi ht=>ok2 (v:=Iv i_2) (ht 4 rfl)<|Gz hi) ?_
 obtain⟨hc341,hm⟩:=ck_some hm
 refine Dw_op (VP _ _ (rSl (rInt .i64)) (p.capacity.getD i_2.toNat default)) (VP.stab _ _) (fun ρ338 w339 g hle hi ht=>?_) ?_
 obtain⟨-,hst,-⟩:=hle
 replace Fb:=Fb.step hst
 refine Sj2<|om2 (q:=rSl (rInt .i64)) ty23 ty31 (ht 79 rfl) (ht 80 rfl) Fb rfl hc341.1 hc341.2 ?_
 intro p342 f343
 exact Goes.same hi ⟨_,rfl,f343⟩
 refine Dw_op (VD _ _ (vC (rSl (rInt .i64))) (p.capacity.getD i_2.toNat default)) (VD.stab _ _) (fun ρ344 w345 g hle hi ht=>?_) ?_
 obtain⟨p347,q348,f349⟩:=ht 81 rfl
 refine Sj2<|ot2 ty31 q348 f349 rfl ?_
 intro v350 h351
 obtain⟨Ad,Cd,rfl,Fd⟩:=un_sl h351
 exact Goes.same hi (show Vr.vd (vC (rSl (rInt .i64))) _ _ _ _ from(mkC (mk_sl Fd)))
 refine Dw_op (VD _ _ (vI .i64) ((p.capacity.getD i_2.toNat default).length:Int)) (VD.stab _ _) (fun ρ353 w354 g hle hi ht=>?_) ?_
 have h356:Vr.vd (vC (rSl (rInt .i64))) _ _ _ _:=ht 82 rfl
 obtain⟨Ae,Ce,q357,Fe⟩:=un_sl h356
 exact Sj2<|op_len Try.underlying31 q357<|Goes.same hi (show Vr.vd (vI .i64) _ _ _ _ from⟨rfl,inK_len Fe⟩)
 refine Dw_p (Pt b1 0) (fun _ _ _ hi ht=>op2 0 ty26 rfl ty22 (ht 1 rfl) rfl<|Gz hi)<|Dw_p (Sl Aa p.cells Ca) (fun _ _ _ hi ht=>oq2 0 ty22 (Step.nx hi).1 (ht 84 rfl) rfl rfl<|Gz hi)<|Dw_p (Iv (p.cells.length:Int)) (fun _ _ _ hi ht=>op_len Try.underlying22 (ht 85 rfl)<|Gz hi)<|Dw_nil fun w372 g373 hl374 hi375=>?_
 obtain⟨-,hst376,-⟩:=hl374
 obtain⟨hs378,p377⟩:=Step.nx hi375
 rintro _ rfl _ rfl _ rfl v379 h380
 replace h380:Vr.vd (vI .i64) _ _ _ _:=h380
 obtain⟨rfl,Rv⟩:=h380
 rintro v382 h383
 replace h383:Vr.vd (vC (rSl (rInt .i64))) _ _ _ _:=h383
 obtain⟨Af,Cf,rfl,Ff⟩:=un_sl h383
 rintro _ ⟨p385,rfl,f386⟩ _ rfl _ rfl _ rfl
 have p387:=hs321.to hs378 (hst376.trans p377)
 replace Ff:=Ff.step p377;replace f386:=f386.step p377;clear hs321
 refine Rop<|op_neq rfl rfl<|Ri2<|Wo2 hm rfl (fun hc388 hm=>?_) (fun hc388 hm=>?_)
 refine Wb ?_
 clear Ff f386
 refine Wa<|Asg (Iv 270) rfl<|Ri2<|Wp_ret<|⟨_,Clo,[Iv 270],⟨rfl,trivial⟩,hs378.ext,?_⟩
 exact Vr.eq (a:=(vI .i64)) (x:=270) ⟨rfl,(show InK .i64 270 from by decide)⟩ (oi hm)
 refine Ws2<|Wb ?_
 clear Ff f386
 refine Wa<|Asg (Iv 0) rfl<|Ri2<|Wn2<|Wr2 q31_4 [] (updL ⟨ξ315,[]⟩ [(1,Pt b1 0),(4,Iv 0)]) [(4,Iv i_2),(5,Iv 0)] fun ξ390=>Wp_loopM q31_3 (fun m fr w'=>∃(k_1:Int) (Ebs:Ents),Ebs=[(some b1,Oc [Sl Aa p.cells Ca,Sl Ab p.capacity Cb,Sl Ac p.variables Cc] 26)]∧fr [] [(5,Iv k_1)]∧hs378.S (ks Ebs O) w'∧St ⟨w,[],[]⟩ O w' Ebs∧InK .i64 k_1∧loop1 (m31_overflightref27_Check_B2 p i_2 sf316) m k_1=some x) (((p.cells.length:Int) - 0).toNat+1) ⟨0,_,rfl,Frm.of ⟨rfl,trivial⟩,Step.refl _ _,hs378,(show InK .i64 0 from by decide),hm⟩ ?_ ?_
 rintro _ _ ⟨_,_,_,_,_,_,_,hm⟩;exact loop1_z hm
 rintro m394 K393 hK393 ρ399 w395 ⟨k_1,_,rfl,hfr398,hst397,hs396,Rw,hm⟩
 obtain⟨sf391,hsf392,hm⟩:=loop1_s hm;unfold m31_overflightref27_Check_B2 at hm
 rw [hfr398.eq];clear hfr398
 have ch400:=hst397
 refine Wb<|Wb<|Wa<|Mve (Iv k_1) rfl<|Rop<|op2 0 ty26 rfl ty22 rfl rfl<|Rop<|oq2 0 ty22 hs396 rfl rfl rfl<|Rop<|op_len Try.underlying22 rfl ?_
 have p402:=(hst322.trans (p387.trans hst397))
 replace Fa:=Fa.step p402
 have rl401:=inK_len Fa
 refine Rop<|op_lss rfl rfl<|Ri2<|Wo2 hm rfl (fun hc403 hm=>?_) (fun hc403 hm=>?_)
 refine Ws2<|Wb<|Wn2<|Wb<|Wa<|Rop<|op2 1 ty26 rfl ty23 rfl rfl<|Rop<|oq2 0 ty23 hs396 rfl rfl rfl<|Mve (Iv i_2) rfl ?_
 obtain⟨hc404,hm⟩:=ck_some hm
 have p407:=(p387.trans hst397)
 replace Fb:=Fb.step p407
 refine Rop<|om2 (q:=rSl (rInt .i64)) ty23 ty31 rfl rfl Fb rfl hc404.1 hc404.2 ?_
 intro p405 f406
 refine Rop<|ot2 ty31 rfl f406 rfl ?_
 intro v408 h409
 obtain⟨Ag,Cg,rfl,Fg⟩:=un_sl h409
 refine Mve (Iv k_1) rfl ?_
 obtain⟨hc411,hm⟩:=ck_some hm
 refine Rop<|om2 (q:=(rInt .i64)) ty31 ty3 rfl rfl Fg rfl hc411.1 hc411.2 ?_
 intro p412 f413
 refine Rop<|ot2 ty3 rfl f413 rfl ?_
 intro v414 h415
 obtain⟨rfl,Rx⟩:=un_int h415
 obtain⟨within_1,hv417,hm⟩:=bd hm
 refine Rop<|op_callE hs396 Try.call61 (c61_overflightref27_within (n:=(p.capacity.getD i_2.toNat default).getD k_1.toNat default) (lo:=0) (hi:=4096) hs396.ltw Rx (show InK .i64 0 from by decide) (show InK .i64 4096 from by decide) hv417) rfl ?_
 rintro v418 w419 p423 hs422 h421
 clear hs396
 obtain rfl:=h421
 refine Rop<|op_not rfl<|Ri2<|Wo2 hm rfl (fun hc425 hm=>?_) (fun hc425 hm=>?_)
 refine Wb ?_
 clear f406 Fg f413
 refine Wa<|Asg (Iv 270) rfl<|Ri2<|Wp_ret<|⟨_,Clo,[Iv 270],⟨rfl,trivial⟩,hs422.ext,?_⟩
 exact Vr.eq (a:=(vI .i64)) (x:=270) ⟨rfl,(show InK .i64 270 from by decide)⟩ (oi hm)
 refine Ws2 ?_
 clear f406 Fg f413
 refine Wa<|Mve (Iv k_1) rfl<|Rop<|op_addw rfl rfl<|Asg (Iv (IntKind.wrap .i64 (k_1+1))) rfl<|Ri2 ?_
 replace ch400:=ch400.trans p423
 exact hK393 _ _ ⟨(IntKind.wrap .i64 (k_1+1)),_,rfl,Frm.of ⟨rfl,trivial⟩,ch400,hs422,(inK_wrap .i64 _),jnE1 hsf392 hm⟩
 refine Wp_exit<|Wa<|Mve (Iv i_2) rfl<|Rop<|op_addw rfl rfl<|Asg (Iv (IntKind.wrap .i64 (i_2+1))) rfl<|Ri2 ?_
 have p426:=(p387.trans hst397)
 replace ch325:=ch325.trans p426
 exact hK318 _ _ ⟨(IntKind.wrap .i64 (i_2+1)),_,rfl,Frm.of ⟨rfl,trivial⟩,ch325,hs396,(inK_wrap .i64 _),jnE1 hsf317 hm⟩
 refine Wp_exit<|Wb<|Wb<|Wa<|Asg (Iv 0) rfl<|Ri2<|Wn2<|Wr [] [(1,Pt b1 0),(6,Iv 0)] fun ξ428=>Wp_loopM q31_5 (fun m fr w'=>∃(i_3:Int) (Ebs:Ents),Ebs=[(some b1,Oc [Sl Aa p.cells Ca,Sl Ab p.capacity Cb,Sl Ac p.variables Cc] 26)]∧fr [] [(6,Iv i_3)]∧hs321.S (ks Ebs O) w'∧St ⟨w,[],[]⟩ O w' Ebs∧InK .i64 i_3∧loop1 (m31_overflightref27_Check_B3 p) m i_3=some x) (((p.variables.length:Int) - 0).toNat+1) ⟨0,_,rfl,Frm.of ⟨rfl,trivial⟩,Step.refl _ _,hs321,(show InK .i64 0 from by decide),hm⟩ ?_ ?_
 rintro _ _ ⟨_,_,_,_,_,_,_,hm⟩;exact loop1_z hm
 rintro m432 K431 hK431 ρ437 w433 ⟨i_3,_,rfl,hfr436,hst435,hs434,Ry,hm⟩
 obtain⟨sf429,hsf430,hm⟩:=loop1_s hm;unfold m31_overflightref27_Check_B3 at hm
 rw [hfr436.eq];clear hfr436
 have ch438:=hst435
 refine Wb<|Wb<|Wa<|Mve (Iv i_3) rfl<|Rop<|op2 2 ty26 rfl ty24 rfl rfl<|Rop<|oq2 0 ty24 hs434 rfl rfl rfl<|Rop<|op_len Try.underlying24 rfl ?_
 replace Fc:=Fc.step (p327.trans hst435)
 have rl439:=inK_len Fc
 refine Rop<|op_lss rfl rfl<|Ri2<|Wo2 hm rfl (fun hc440 hm=>?_) (fun hc440 hm=>?_)
 refine Ws2<|Wb<|Wn2<|Wb<|Wp_drawR (g0:=[]) (m:=6) (fl:=[]) (TS_inv hs434) rfl (.inl rfl) rfl (by decide+kernel) ?_  -- 21
 refine Dw_p (Value.agg [Sl Aa p.cells Ca,Sl Ab p.capacity Cb,Sl Ac p.variables Cc].toArray) (fun _ _ _ hi ht=>op_ldA 0 ty26 (Step.nx hi).1 (ht 1 rfl) rfl rfl<|Gz hi)<|Dw_p (Pt b1 2) (fun _ _ _ hi ht=>op2 2 ty26 rfl ty24 (ht 1 rfl) rfl<|Gz hi)<|Dw_p (Sl Ac p.variables Cc) (fun _ _ _ hi ht=>oq2 0 ty24 (Step.nx hi).1 (ht 113 rfl) rfl rfl<|Gz hi)<|Dw_p (Iv i_3) (fun _ _ _ hi ht=>ok2 (v:=Iv i_3) (ht 6 rfl)<|Gz hi) ?_
 obtain⟨hc456,hm⟩:=ck_some hm
 refine Dw_op (VP _ _ rXVariable (p.variables.getD i_3.toNat default)) (VP.stab _ _) (fun ρ453 w454 g hle hi ht=>?_) ?_
 obtain⟨-,hst,-⟩:=hle
 replace Fc:=Fc.step hst
 refine Sj2<|om2 (q:=rXVariable) ty24 ty61 (ht 114 rfl) (ht 115 rfl) Fc rfl hc456.1 hc456.2 ?_
 intro p457 f458
 exact Goes.same hi ⟨_,rfl,f458⟩
 refine Dw_op (VD _ _ (vA rXVariable) (p.variables.getD i_3.toNat default)) (VD.stab _ _) (fun ρ459 w460 g hle hi ht=>?_) ?_
 obtain⟨p462,q463,f464⟩:=ht 116 rfl
 refine Sj2<|op_loadPA ty61 q463 f464 rfl ?_
 intro vs465 h466
 obtain⟨_,_,rfl,⟨rfl,Rz⟩,⟨_,_,rfl,⟨rfl,Ra1⟩,⟨_,_,rfl,⟨Ah,Ch,rfl,Fh⟩,⟨Ai,Ci,rfl,Fi⟩⟩⟩⟩:=h466
 exact Goes.same hi (show Vr.vd (vA rXVariable) _ _ _ _ from(mkA (mkVia (mk_pair (mk_int Rz) (mk_pair (mk_int Ra1) (mk_pair (mk_sl Fh) (mk_sl Fi)))))))
 refine Dw_nil fun w472 g473 hl474 hi475=>?_
 obtain⟨-,hst476,-⟩:=hl474
 obtain⟨hs478,p477⟩:=Step.nx hi475
 rintro v479 h480
 replace h480:Vr.vd (vA rXVariable) _ _ _ _:=h480
 obtain⟨_,rfl,⟨_,_,rfl,⟨rfl,Rb1⟩,⟨_,_,rfl,⟨rfl,Rc1⟩,⟨_,_,rfl,⟨Aj,Cj,rfl,Fj⟩,⟨Ak,Ck,rfl,Fk⟩⟩⟩⟩⟩:=h480
 rintro _ ⟨p482,rfl,f483⟩ _ rfl _ rfl _ rfl _ rfl
 have p484:=hs434.to hs478 (hst476.trans p477)
 replace Fj:=Fj.step p477;replace Fk:=Fk.step p477;replace f483:=f483.step p477;clear hs434
 obtain⟨variable_1,hv485,hm⟩:=bd hm
 have p491:=(hst435.trans p484)
 replace Fb:=Fb.step p491
 have p492:=(hst322.trans (hst435.trans p484))
 replace Fa:=Fa.step p492;replace Fc:=Fc.step p484
 refine Rop<|op_callE hs478 Try.call62 (c62_overflightref27_variable (p:=p) (v:=p.variables.getD i_3.toNat default) hs478.ltw Fa Fb Fc Rb1 Rc1 Fj Fk hv485) rfl ?_
 rintro v486 w487 p493 hs490 h489
 clear hs478
 obtain rfl:=h489
 refine Rop<|op_not rfl<|Ri2<|Wo2 hm rfl (fun hc495 hm=>?_) (fun hc495 hm=>?_)
 refine Wb ?_
 clear Fj Fk f483
 refine Wa<|Asg (Iv 270) rfl<|Ri2<|Wp_ret<|⟨_,Clo,[Iv 270],⟨rfl,trivial⟩,hs490.ext,?_⟩
 exact Vr.eq (a:=(vI .i64)) (x:=270) ⟨rfl,(show InK .i64 270 from by decide)⟩ (oi hm)
 refine Ws2 ?_
 clear Fj Fk f483
 refine Wa<|Mve (Iv i_3) rfl<|Rop<|op_addw rfl rfl<|Asg (Iv (IntKind.wrap .i64 (i_3+1))) rfl<|Ri2 ?_
 replace ch438:=ch438.trans (p484.trans p493)
 exact hK431 _ _ ⟨(IntKind.wrap .i64 (i_3+1)),_,rfl,Frm.of ⟨rfl,trivial⟩,ch438,hs490,(inK_wrap .i64 _),jnE1 hsf430 hm⟩
 refine Wp_exit<|Wb ?_
 obtain⟨hs496,p497⟩:=hs434.sub (bs':=[]) (.cons _ List.Sublist.slnil)
 clear Fa Fb Fc
 clear hs434
 refine Wa<|Asg (Iv 0) rfl<|Ri2<|Wp_ret<|⟨_,Clo,[Iv 0],⟨rfl,trivial⟩,hs496.ext,?_⟩
 exact Vr.eq (a:=(vI .i64)) (x:=0) ⟨rfl,(show InK .i64 0 from by decide)⟩ (oi hm)
 intro K10 hK10
 have ch498:=hs4.stepR
 refine Wa<|Rop<|op2 0 ty26 rfl ty22 rfl rfl<|Rop<|oq2 0 ty22 hs4 rfl rfl rfl<|Rop<|op_len Try.underlying22 rfl ?_
 replace Fa:=Fa.step p3
 have rl499:=inK_len Fa
 refine Rop<|op_gtr rfl rfl<|Mve (Bo (decide (4096<(p.cells.length:Int)))) rfl<|Rg_caseM hm (fun hg500 hm=>?_) (fun hg500 hm=>?_)
 iterate 4 refine Rl2 rfl (asB_ne rfl rfl) rfl ?_
 refine Pkt (Bo true) rfl rfl<|Mve (Bo true) rfl ?_
 iterate 4 refine Rl2 rfl (asB_ne rfl rfl) rfl ?_
 refine Pkt (Bo true) rfl rfl<|Mve (Bo true) rfl ?_
 iterate 4 refine Rl2 rfl (asB_ne rfl rfl) rfl ?_
 exact Pkt (Bo true) rfl rfl<|Ri2<|hK10 _ _ ⟨true,_,rfl,Frm.of ⟨rfl,trivial⟩,ch498,hs4,hm⟩
 refine Rog rfl rfl<|op2 1 ty26 rfl ty23 rfl rfl<|Rog rfl rfl<|oq2 0 ty23 hs4 rfl rfl rfl<|Rog rfl rfl<|op_len Try.underlying23 rfl ?_
 replace Fb:=Fb.step p3
 have rl501:=inK_len Fb
 refine Rog rfl rfl<|op_lss rfl rfl<|Pkf (Bo (decide ((p.capacity.length:Int)<1))) rfl rfl<|Mve (Bo (decide ((p.capacity.length:Int)<1))) rfl<|Rg_caseM hm (fun hg502 hm=>?_) (fun hg502 hm=>?_)
 iterate 4 refine Rl2 rfl (asB_ne rfl rfl) rfl ?_
 refine Pkt (Bo true) rfl rfl<|Mve (Bo true) rfl ?_
 iterate 4 refine Rl2 rfl (asB_ne rfl rfl) rfl ?_
 exact Pkt (Bo true) rfl rfl<|Ri2<|hK10 _ _ ⟨true,_,rfl,Frm.of ⟨rfl,trivial⟩,ch498,hs4,hm⟩
 refine Rog rfl rfl<|op2 1 ty26 rfl ty23 rfl rfl<|Rog rfl rfl<|oq2 0 ty23 hs4 rfl rfl rfl<|Rog rfl rfl<|op_len Try.underlying23 rfl ?_
 have rl503:=inK_len Fb
 refine Rog rfl rfl<|op_gtr rfl rfl<|Pkf (Bo (decide (32<(p.capacity.length:Int)))) rfl rfl<|Mve (Bo (decide (32<(p.capacity.length:Int)))) rfl<|Rg_caseM hm (fun hg504 hm=>?_) (fun hg504 hm=>?_)
 iterate 4 refine Rl2 rfl (asB_ne rfl rfl) rfl ?_
 exact Pkt (Bo true) rfl rfl<|Ri2<|hK10 _ _ ⟨true,_,rfl,Frm.of ⟨rfl,trivial⟩,ch498,hs4,hm⟩
 refine Rog rfl rfl<|op2 2 ty26 rfl ty24 rfl rfl<|Rog rfl rfl<|oq2 0 ty24 hs4 rfl rfl rfl<|Rog rfl rfl<|op_len Try.underlying24 rfl ?_
 replace Fc:=Fc.step p3
 have rl505:=inK_len Fc
 exact Rog rfl rfl<|op_gtr rfl rfl<|Pkf (Bo (decide (64<(p.variables.length:Int)))) rfl rfl<|Ri2<|hK10 _ _ ⟨decide (64<(p.variables.length:Int)),_,rfl,Frm.of ⟨rfl,trivial⟩,ch498,hs4,hm⟩

end Go.Fx
