/- Part 4 of the proof: more variables, more places and less capacity do not spoil a proof. -/
import Derived.Test.YtijekcoafilmeaaMo3
set_option linter.unusedVariables false
set_option linter.unusedSimpArgs false
set_option maxRecDepth 100000
set_option maxHeartbeats 0
namespace Go.Fx
open Go Go.RowKit Go.Proofs
abbrev q23_2:List Nat:=[54,55,56,57,58,59,60,61,62,63,64,65,66,67,68,69,70,71,72,73,74,75,76,77,78,79,80,81,82,83,84,85,86,87,88,89,90,91,92]

abbrev q23_3:List Nat:=[4,7,8,49,50,51,52,53,54,55,56,57,58,59,60,61,62,63,64,65,66,67,68,69,70,71,72,73,74,75,76,77,78,79,80,81,82,83,84,85,86,87,88,89,90,91,92,93]

abbrev q23_0:List Nat:=[22,23,24,25,26,27,28,29,30,31,32,33,34,35,36,37,38,39,40,41,42,43,44]

abbrev q23_1:List Nat:=[4,5,6,17,18,19,20,21,22,23,24,25,26,27,28,29,30,31,32,33,34,35,36,37,38,39,40,41,42,43,44,45]

def m23_reason_Check_B1 (p:XProblem) (r_:XReason) (sf70:Int→Option Int) (v_3:Int):Option Int:=
 bif (decide (v_3<(r_.places.length:Int))) then
  ck ((0:Int)≤v_3∧v_3<(r_.places.length:Int))<|
  jn (fun(v_4:Bool)=>
   bif v_4 then
    some 320
   else
    sf70 (IntKind.wrap .i64 (v_3+1)))
  (fun k97=>
   bif (decide (((r_.places.getD v_3.toNat default).leaf)<0)) then
    k97 true
   else
    bif (decide ((p.capacity.length:Int)≤((r_.places.getD v_3.toNat default).leaf))) then
     k97 true
    else
     bif (decide (((r_.places.getD v_3.toNat default).cell)<0)) then
      k97 true
     else
      bif (decide ((p.cells.length:Int)≤((r_.places.getD v_3.toNat default).cell))) then
       k97 true
      else
       bif (decide (0<v_3)) then
        ck ((0:Int)≤(IntKind.wrap .i64 (v_3 - 1))∧(IntKind.wrap .i64 (v_3 - 1))<(r_.places.length:Int))<|
        (m55_reason_order (r_.places.getD (IntKind.wrap .i64 (v_3 - 1)).toNat default) (r_.places.getD v_3.toNat default)).bind fun order_1=>
        k97 (decide (0≤order_1))
       else
        k97 false)
 else
  some 0

def m23_reason_Check_B0 (p:XProblem) (r_:XReason) (sf27:Int→Option Int) (v_1:Int):Option Int:=
 bif (decide (v_1<(r_.variables.length:Int))) then
  ck ((0:Int)≤v_1∧v_1<(r_.variables.length:Int))<|
  jn (fun(v_2:Bool)=>
   bif v_2 then
    some 320
   else
    sf27 (IntKind.wrap .i64 (v_1+1)))
  (fun k46=>
   bif (decide ((r_.variables.getD v_1.toNat default)<0)) then
    k46 true
   else
    bif (decide ((p.variables.length:Int)≤(r_.variables.getD v_1.toNat default))) then
     k46 true
    else
     bif (decide (0<v_1)) then
      ck ((0:Int)≤(IntKind.wrap .i64 (v_1 - 1))∧(IntKind.wrap .i64 (v_1 - 1))<(r_.variables.length:Int))<|
      k46 (decide ((r_.variables.getD v_1.toNat default)≤(r_.variables.getD (IntKind.wrap .i64 (v_1 - 1)).toNat default)))
     else
      k46 false)
 else
  loop1 (m23_reason_Check_B1 p r_) (((r_.places.length:Int) - 0).toNat+1) 0

def m23_reason_Check (p:XProblem) (r_:XReason):Option Int:=
 (m12_problem_Check p).bind fun check_1=>
 bif (decide (check_1≠0)) then
  some check_1
 else
  loop1 (m23_reason_Check_B0 p r_) (((r_.variables.length:Int) - 0).toNat+1) 0

theorem c23_reason_Check {w:World} {O:List Nat} {p:XProblem} {r_:XReason} {Aa:Option Addr} {Ca:Nat} {Ab:Option Addr} {Cb:Nat} {Ac:Option Addr} {Cc:Nat} {Ad:Option Addr} {Cd:Nat} {Ae:Option Addr} {Ce:Nat} (hO:∀k∈O,k<w.heap.size) (Fa:SlR rXCell w O Aa Ca p.cells) (Fb:SlR (rSl (rInt .i64)) w O Ab Cb p.capacity) (Fc:SlR rXVariable w O Ac Cc p.variables) (Fd:SlR (rInt .i64) w O Ad Cd r_.variables) (Fe:SlR rXPlace w O Ae Ce r_.places) {x:Int} (hm:m23_reason_Check p r_=some x):
 Ok Try.prog 23 [Value.agg [Sl Aa p.cells Ca,Sl Ab p.capacity Cb,Sl Ac p.variables Cc].toArray,Value.agg [Sl Ad r_.variables Cd,Sl Ae r_.places Ce].toArray] w O (vI .i64) x:=by
 unfold m23_reason_Check at hm
 refine Fn_of_Wp (n:=94) (xs:=[.tmp 4]) Try.func23 rfl Try.ntmps23 Try.results23 rfl ?_
 have hs:=St.start hO
 refine Wp_seq<|Wp_region<|Rop<|op_box (cs:=[Sl Aa p.cells Ca,Sl Ab p.capacity Cb,Sl Ac p.variables Cc]) hs rfl rfl ?_
 intro b1 w2 _ p3 hs4
 refine Rop<|op_box (cs:=[Sl Ad r_.variables Cd,Sl Ae r_.places Ce]) hs4 rfl rfl ?_
 intro b6 w7 _ p8 hs9
 clear hs4
 refine Asg (Iv 0) rfl<|Rg_nil<|Wp_seq<|Wp_seq<|Wp_region<|Rop<|op_ldA 1 ty26 hs9 rfl rfl rfl ?_
 obtain⟨check_1,hv11,hm⟩:=bd hm
 have p17:=(p3.trans p8)
 replace Fb:=Fb.step p17;replace Fa:=Fa.step p17;replace Fc:=Fc.step p17
 refine Rop<|op_callE hs9 Try.call12 (c12_problem_Check (p:=p) hs9.ltw Fa Fb Fc hv11) rfl ?_
 rintro v12 w13 p18 hs16 h15
 clear hs9
 obtain⟨rfl,Ra⟩:=h15
 refine Asg (Iv check_1) rfl<|Rg_nil<|Wp_seq<|Wp_region<|Mve (Iv check_1) rfl<|Rop<|op_neq rfl rfl<|Rg_nil<|Wp_condM hm rfl (fun hc20 hm=>?_) (fun hc20 hm=>?_)
 refine Wp_seq ?_
 obtain⟨hs21,p22⟩:=hs16.sub (bs':=[]) (.cons _ (.cons _ List.Sublist.slnil))
 clear Fa Fb Fc Fd Fe
 clear hs16
 refine Wp_region<|Mve (Iv check_1) rfl<|Asg (Iv check_1) rfl<|Rg_nil<|Wp_ret<|⟨_,Clo,[Iv check_1],⟨rfl,trivial⟩,hs21.ext,?_⟩
 exact Vr.eq (a:=(vI .i64)) (x:=check_1) ⟨rfl,Ra⟩ (oi hm)
 refine Wp_skip<|Wp_seq<|Wp_seq<|Wp_region<|Rop<|op_fA 0 ty34 rfl ty31 rfl rfl<|Rop<|op_ld 0 ty31 hs16 rfl rfl rfl<|Rop<|op_len Try.underlying31 rfl ?_
 have p24:=(p17.trans p18)
 replace Fd:=Fd.step p24
 have rl23:=inK_len Fd
 refine Mve (Iv 0) rfl<|Rg_nil<|Wp_block<|Wr [] [(2,Pt b1 0),(3,Pt b6 0),(15,Sl Ad r_.variables Cd),(16,Iv (r_.variables.length:Int)),(17,Iv 0)] fun ξ26=>Wp_loopM q23_1 (fun m fr w'=>∃(v_1:Int) (Ebs:Ents),Ebs=[(some b6,Oc [Sl Ad r_.variables Cd,Sl Ae r_.places Ce] 34),(some b1,Oc [Sl Aa p.cells Ca,Sl Ab p.capacity Cb,Sl Ac p.variables Cc] 26)]∧fr [] [(17,Iv v_1)]∧hs16.S (ks Ebs O) w'∧St ⟨w,[],[]⟩ O w' Ebs∧InK .i64 v_1∧loop1 (m23_reason_Check_B0 p r_) m v_1=some x) (((r_.variables.length:Int) - 0).toNat+1) ⟨0,_,rfl,Frm.of ⟨rfl,trivial⟩,Step.refl _ _,hs16,(show InK .i64 0 from by decide),hm⟩ ?_ ?_
 rintro _ _ ⟨_,_,_,_,_,_,_,hm⟩;exact loop1_z hm
 rintro m30 K29 hK29 ρ35 w31 ⟨v_1,_,rfl,hfr34,hst33,hs32,Rb,hm⟩
 obtain⟨sf27,hsf28,hm⟩:=loop1_s hm;unfold m23_reason_Check_B0 at hm
 rw [hfr34.eq];clear hfr34
 have ch36:=hst33
 refine Wp_seq<|Wp_region<|Rop<|op_lss rfl rfl<|Rg_nil<|Wp_seq<|Wp_condM hm rfl (fun hc37 hm=>?_) (fun hc37 hm=>?_)
 refine Wp_skip<|Wp_seq<|Wp_block<|Wp_seq<|Wp_region<|Mve (Iv v_1) rfl ?_
 obtain⟨hc38,hm⟩:=ck_some hm
 replace Fd:=Fd.step hst33
 refine Rop<|op_indexAddr (q:=(rInt .i64)) ty31 ty3 rfl rfl Fd rfl hc38.1 hc38.2 ?_
 intro p39 f40
 refine Rop<|op_loadP ty3 rfl f40 rfl ?_
 intro v41 h42
 obtain⟨rfl,Rc⟩:=un_int h42
 refine Asg (Iv v_1) rfl<|Asg (Iv (r_.variables.getD v_1.toNat default)) rfl<|Rg_nil<|Wr2 q23_1 [] (updL ⟨ξ26,[]⟩ [(2,Pt b1 0),(3,Pt b6 0),(15,Sl Ad r_.variables Cd),(16,Iv (r_.variables.length:Int)),(17,Iv 0)]) [(5,Iv v_1),(6,Iv (r_.variables.getD v_1.toNat default)),(17,Iv v_1)] fun ξ44=>?_
 obtain⟨k46,hk47,hm⟩:=jn_elim hm
 refine Wp_seqJ q23_0 (fun fr w'=>∃(v_2:Bool) (Ebs:Ents),Ebs=[(some b6,Oc [Sl Ad r_.variables Cd,Sl Ae r_.places Ce] 34),(some b1,Oc [Sl Aa p.cells Ca,Sl Ab p.capacity Cb,Sl Ac p.variables Cc] 26)]∧fr [] [(44,Bo v_2)]∧hs32.S (ks Ebs O) w'∧St ⟨w,[],[]⟩ O w' Ebs∧k46 v_2=some x) ?_ ?_
 rintro ρ53 w49 ⟨v_2,_,rfl,hfr52,hst51,hs50,hm⟩
 replace hm:=jnE1 hk47 hm
 rw [hfr52.eq];clear hfr52
 refine Wp_condM hm rfl (fun hc54 hm=>?_) (fun hc54 hm=>?_)
 refine Wp_seq ?_
 clear f40
 refine Wp_region<|Asg (Iv 320) rfl<|Rg_nil<|Wp_ret<|⟨_,Clo,[Iv 320],⟨rfl,trivial⟩,hs50.ext,?_⟩
 exact Vr.eq (a:=(vI .i64)) (x:=320) ⟨rfl,(show InK .i64 320 from by decide)⟩ (oi hm)
 refine Wp_skip ?_
 clear f40
 refine Wp_region<|Rop<|op_addw rfl rfl<|Mve (Iv (IntKind.wrap .i64 (v_1+1))) rfl<|Rg_nil ?_
 replace ch36:=ch36.trans hst51
 exact hK29 _ _ ⟨(IntKind.wrap .i64 (v_1+1)),_,rfl,Frm.of ⟨rfl,trivial⟩,ch36,hs50,(inK_wrap .i64 _),jnE1 hsf28 hm⟩
 intro K48 hK48
 have ch55:=hs32.stepR
 clear f40
 refine Wp_region<|Mve (Iv (r_.variables.getD v_1.toNat default)) rfl<|Rop<|op_lss rfl rfl<|Mve (Bo (decide ((r_.variables.getD v_1.toNat default)<0))) rfl<|Rg_caseM hm (fun hg56 hm=>?_) (fun hg56 hm=>?_)
 iterate 5 refine Rg_opx rfl (asB_ne rfl rfl) rfl ?_
 refine Pkt (Bo true) rfl rfl<|Mve (Bo true) rfl ?_
 iterate 12 refine Rg_opx rfl (asB_ne rfl rfl) rfl ?_
 exact Pkt (Bo true) rfl rfl<|Rg_nil<|hK48 _ _ ⟨true,_,rfl,Frm.of ⟨rfl,trivial⟩,ch55,hs32,hm⟩
 refine Rog rfl rfl<|op_move (v:=Iv (r_.variables.getD v_1.toNat default)) rfl<|Rog rfl rfl<|op_fA 2 ty26 rfl ty24 rfl rfl<|Rog rfl rfl<|op_ld 1 ty24 hs32 rfl rfl rfl<|Rog rfl rfl<|op_len Try.underlying24 rfl ?_
 have p58:=(p18.trans hst33)
 replace Fc:=Fc.step p58
 have rl57:=inK_len Fc
 refine Rog rfl rfl<|op_geq rfl rfl<|Pkf (Bo (decide ((p.variables.length:Int)≤(r_.variables.getD v_1.toNat default)))) rfl rfl<|Mve (Bo (decide ((p.variables.length:Int)≤(r_.variables.getD v_1.toNat default)))) rfl<|Rg_caseM hm (fun hg59 hm=>?_) (fun hg59 hm=>?_)
 iterate 12 refine Rg_opx rfl (asB_ne rfl rfl) rfl ?_
 exact Pkt (Bo true) rfl rfl<|Rg_nil<|hK48 _ _ ⟨true,_,rfl,Frm.of ⟨rfl,trivial⟩,ch55,hs32,hm⟩
 refine Rog rfl rfl<|op_move (v:=Iv v_1) rfl<|Rog rfl rfl<|op_gtr rfl rfl<|Rog rfl rfl<|op_move (v:=Bo (decide (0<v_1))) rfl<|Rg_caseM hm (fun hg60 hm=>?_) (fun hg60 hm=>?_)
 refine Rog rfl rfl<|op_move (v:=Iv (r_.variables.getD v_1.toNat default)) rfl<|Rog rfl rfl<|op_fA 0 ty34 rfl ty31 rfl rfl<|Rog rfl rfl<|op_ld 0 ty31 hs32 rfl rfl rfl<|Rog rfl rfl<|op_move (v:=Iv v_1) rfl<|Rog rfl rfl<|op_subw rfl rfl ?_
 obtain⟨hc61,hm⟩:=ck_some hm
 refine Rog rfl rfl<|op_indexAddr (q:=(rInt .i64)) ty31 ty3 rfl rfl Fd rfl hc61.1 hc61.2 ?_
 intro p62 f63
 refine Rog rfl rfl<|op_loadP ty3 rfl f63 rfl ?_
 intro v64 h65
 obtain⟨rfl,Rd⟩:=un_int h65
 exact Rog rfl rfl<|op_leq rfl rfl<|Rog rfl rfl<|op_pick_t (v:=Bo (decide ((r_.variables.getD v_1.toNat default)≤(r_.variables.getD (IntKind.wrap .i64 (v_1 - 1)).toNat default)))) rfl rfl<|Pkf (Bo (decide ((r_.variables.getD v_1.toNat default)≤(r_.variables.getD (IntKind.wrap .i64 (v_1 - 1)).toNat default)))) rfl rfl<|Rg_nil<|hK48 _ _ ⟨decide ((r_.variables.getD v_1.toNat default)≤(r_.variables.getD (IntKind.wrap .i64 (v_1 - 1)).toNat default)),_,rfl,Frm.of ⟨rfl,trivial⟩,ch55,hs32,hm⟩
 iterate 8 refine Rg_opx rfl (asB_ne rfl rfl) rfl ?_
 exact Rog rfl rfl<|op_pick_f (v:=Bo false) rfl rfl<|Pkf (Bo false) rfl rfl<|Rg_nil<|hK48 _ _ ⟨false,_,rfl,Frm.of ⟨rfl,trivial⟩,ch55,hs32,hm⟩
 refine Wp_exit<|Wp_seq<|Wp_seq<|Wp_region<|Rop<|op_fA 1 ty34 rfl ty32 rfl rfl<|Rop<|op_ld 0 ty32 hs32 rfl rfl rfl<|Rop<|op_len Try.underlying32 rfl ?_
 replace Fe:=Fe.step (p24.trans hst33)
 have rl67:=inK_len Fe
 refine Mve (Iv 0) rfl<|Rg_nil<|Wp_block<|Wr [] [(2,Pt b1 0),(3,Pt b6 0),(47,Sl Ae r_.places Ce),(48,Iv (r_.places.length:Int)),(49,Iv 0)] fun ξ69=>Wp_loopM q23_3 (fun m fr w'=>∃(v_3:Int) (Ebs:Ents),Ebs=[(some b6,Oc [Sl Ad r_.variables Cd,Sl Ae r_.places Ce] 34),(some b1,Oc [Sl Aa p.cells Ca,Sl Ab p.capacity Cb,Sl Ac p.variables Cc] 26)]∧fr [] [(49,Iv v_3)]∧hs32.S (ks Ebs O) w'∧St ⟨w,[],[]⟩ O w' Ebs∧InK .i64 v_3∧loop1 (m23_reason_Check_B1 p r_) m v_3=some x) (((r_.places.length:Int) - 0).toNat+1) ⟨0,_,rfl,Frm.of ⟨rfl,trivial⟩,Step.refl _ _,hs32,(show InK .i64 0 from by decide),hm⟩ ?_ ?_
 rintro _ _ ⟨_,_,_,_,_,_,_,hm⟩;exact loop1_z hm
 rintro m73 K72 hK72 ρ78 w74 ⟨v_3,_,rfl,hfr77,hst76,hs75,Re,hm⟩
 obtain⟨sf70,hsf71,hm⟩:=loop1_s hm;unfold m23_reason_Check_B1 at hm
 rw [hfr77.eq];clear hfr77
 have ch79:=hst76
 refine Wp_seq<|Wp_region<|Rop<|op_lss rfl rfl<|Rg_nil<|Wp_seq<|Wp_condM hm rfl (fun hc80 hm=>?_) (fun hc80 hm=>?_)
 refine Wp_skip<|Wp_seq<|Wp_block<|Wp_seq<|Wp_region<|Mve (Iv v_3) rfl ?_
 obtain⟨hc81,hm⟩:=ck_some hm
 replace Fe:=Fe.step hst76
 refine Rop<|op_indexAddr (q:=rXPlace) ty32 ty45 rfl rfl Fe rfl hc81.1 hc81.2 ?_
 intro p82 f83
 refine Rop<|op_loadPA ty45 rfl f83 rfl ?_
 intro vs84 h85
 obtain⟨_,_,rfl,⟨rfl,Rf⟩,⟨rfl,Rg⟩⟩:=h85
 refine Rop<|op_alloc ty45 hs75 ?_
 intro b87 w88 _ p89 hs90
 clear hs75
 refine Asg (Iv v_3) rfl<|Rg_op_<|op_stA .z ty45 hs90 rfl rfl rfl rfl rfl ?_
 intro w92 p93 hs94
 clear hs90
 refine Rg_nil<|Wr2 q23_3 [] (updL ⟨ξ69,[]⟩ [(2,Pt b1 0),(3,Pt b6 0),(47,Sl Ae r_.places Ce),(48,Iv (r_.places.length:Int)),(49,Iv 0)]) [(7,Iv v_3),(8,Pt b87 0),(49,Iv v_3)] fun ξ95=>?_
 obtain⟨k97,hk98,hm⟩:=jn_elim hm
 refine Wp_seqJ q23_2 (fun fr w'=>∃(v_4:Bool) (Ebs:Ents),Ebs=[(some b87,Oc [Iv ((r_.places.getD v_3.toNat default).leaf),Iv ((r_.places.getD v_3.toNat default).cell)] 45),(some b6,Oc [Sl Ad r_.variables Cd,Sl Ae r_.places Ce] 34),(some b1,Oc [Sl Aa p.cells Ca,Sl Ab p.capacity Cb,Sl Ac p.variables Cc] 26)]∧fr [] [(92,Bo v_4)]∧hs94.S (ks Ebs O) w'∧St ⟨w,[],[]⟩ O w' Ebs∧k97 v_4=some x) ?_ ?_
 rintro ρ104 w100 ⟨v_4,_,rfl,hfr103,hst102,hs101,hm⟩
 replace hm:=jnE1 hk98 hm
 rw [hfr103.eq];clear hfr103
 refine Wp_condM hm rfl (fun hc105 hm=>?_) (fun hc105 hm=>?_)
 refine Wp_seq ?_
 clear f83
 refine Wp_region<|Asg (Iv 320) rfl<|Rg_nil<|Wp_ret<|⟨_,Clo,[Iv 320],⟨rfl,trivial⟩,hs101.ext,?_⟩
 exact Vr.eq (a:=(vI .i64)) (x:=320) ⟨rfl,(show InK .i64 320 from by decide)⟩ (oi hm)
 refine Wp_skip ?_
 clear f83
 refine Wp_region<|Rop<|op_addw rfl rfl<|Mve (Iv (IntKind.wrap .i64 (v_3+1))) rfl<|Rg_nil ?_
 have hs106:=hs101.drop 0
 have p107:=(hs101.dropS 0)
 clear hs101
 have p108:=(p89.trans (p93.trans (hst102.trans p107)))
 replace ch79:=ch79.trans p108
 exact hK72 _ _ ⟨(IntKind.wrap .i64 (v_3+1)),_,rfl,Frm.of ⟨rfl,trivial⟩,ch79,hs106,(inK_wrap .i64 _),jnE1 hsf71 hm⟩
 intro K99 hK99
 have ch109:=hs94.stepR
 clear f83
 refine Wp_drawR (g0:=[]) (m:=35) (fl:=[]) (TS_inv hs94) rfl (.inl rfl) rfl (by decide+kernel) ?_  -- 13
 refine Dw_p (Pt b87 0) (fun _ _ _ hi ht=>op_fA 0 ty45 rfl ty3 (ht 8 rfl) rfl<|Gz hi)<|Dw_p (Iv ((r_.places.getD v_3.toNat default).leaf)) (fun _ _ _ hi ht=>op_ld 0 ty3 (Step.nx hi).1 (ht 54 rfl) rfl rfl<|Gz hi)<|Dw_p (Bo (decide (((r_.places.getD v_3.toNat default).leaf)<0))) (fun _ _ _ hi ht=>op_lss (ht 55 rfl) rfl<|Gz hi)<|Dw_opB (decide (((r_.places.getD v_3.toNat default).leaf)<0)) (fun _ _ _ _ hi ht=>StepOp_plain<|op_move (v:=Bo (decide (((r_.places.getD v_3.toNat default).leaf)<0))) (ht 56 rfl)<|Gz hi) (fun hg122=>?_) (fun hg122=>?_)
 replace hm:=bif_t hm hg122
 iterate 6 refine Dw_sk rfl rfl (fun _ _ _ h=>h) rfl ?_
 refine Dw_p (Bo true) (fun _ _ _ hi ht=>op_pick_t (v:=Bo true) (ht 57 rfl) rfl<|Gz hi)<|Dw_p (Bo true) (fun _ _ _ hi ht=>op_move (v:=Bo true) (ht 64 rfl)<|Gz hi) ?_
 iterate 3 refine Dw_sk rfl rfl (fun _ _ _ h=>h) rfl ?_
 refine Dw_p (Bo true) (fun _ _ _ hi ht=>op_pick_t (v:=Bo true) (ht 65 rfl) rfl<|Gz hi)<|Dw_p (Bo true) (fun _ _ _ hi ht=>op_move (v:=Bo true) (ht 69 rfl)<|Gz hi) ?_
 iterate 6 refine Dw_sk rfl rfl (fun _ _ _ h=>h) rfl ?_
 refine Dw_p (Bo true) (fun _ _ _ hi ht=>op_pick_t (v:=Bo true) (ht 70 rfl) rfl<|Gz hi)<|Dw_p (Bo true) (fun _ _ _ hi ht=>op_move (v:=Bo true) (ht 77 rfl)<|Gz hi) ?_
 iterate 10 refine Dw_sk rfl rfl (fun _ _ _ h=>h) rfl ?_
 refine Dw_nil fun w145 g146 hl147 hi148=>?_
 obtain⟨-,hst149,-⟩:=hl147
 obtain⟨hs151,p150⟩:=Step.nx hi148
 rintro _ rfl _ rfl _ rfl _ rfl _ rfl _ rfl _ rfl _ rfl _ rfl _ rfl _ rfl _ rfl _ rfl _ rfl _ rfl _ rfl _ rfl _ rfl _ rfl _ rfl _ rfl _ rfl _ rfl _ rfl _ rfl _ rfl _ rfl _ rfl _ rfl _ rfl _ rfl _ rfl _ rfl _ rfl _ rfl
 have p152:=hs94.to hs151 (hst149.trans p150)
 iterate 3 refine Rg_opx rfl (asB_ne rfl rfl) rfl ?_
 refine Pkt (Bo true) rfl rfl<|Rg_nil ?_
 replace ch109:=ch109.trans p152
 exact hK99 _ _ ⟨true,_,rfl,Frm.of ⟨rfl,trivial⟩,ch109,hs151,hm⟩
 replace hm:=bif_f hm hg122
 refine Dw_g (Pt b87 0) rfl rfl (fun _ _ _ h=>h) (fun _ _ _ hi ht=>op_fA 0 ty45 rfl ty3 (ht 8 rfl) rfl<|Gz hi)<|Dw_g (Iv ((r_.places.getD v_3.toNat default).leaf)) rfl rfl (fun _ _ _ h=>h) (fun _ _ _ hi ht=>op_ld 0 ty3 (Step.nx hi).1 (ht 58 rfl) rfl rfl<|Gz hi)<|Dw_g (Pt b1 1) rfl rfl (fun _ _ _ h=>h) (fun _ _ _ hi ht=>op_fA 1 ty26 rfl ty23 (ht 2 rfl) rfl<|Gz hi)<|Dw_g (Sl Ab p.capacity Cb) rfl rfl (fun _ _ _ h=>h) (fun _ _ _ hi ht=>op_ld 2 ty23 (Step.nx hi).1 (ht 60 rfl) rfl rfl<|Gz hi)<|Dw_g (Iv (p.capacity.length:Int)) rfl rfl (fun _ _ _ h=>h) (fun _ _ _ hi ht=>op_len Try.underlying23 (ht 61 rfl)<|Gz hi)<|Dw_g (Bo (decide ((p.capacity.length:Int)≤((r_.places.getD v_3.toNat default).leaf)))) rfl rfl (fun _ _ _ h=>h) (fun _ _ _ hi ht=>op_geq (ht 59 rfl) (ht 62 rfl)<|Gz hi)<|Dw_p (Bo (decide ((p.capacity.length:Int)≤((r_.places.getD v_3.toNat default).leaf)))) (fun _ _ _ hi ht=>op_pick_f (v:=Bo (decide ((p.capacity.length:Int)≤((r_.places.getD v_3.toNat default).leaf)))) (ht 57 rfl) (ht 63 rfl)<|Gz hi)<|Dw_opB (decide ((p.capacity.length:Int)≤((r_.places.getD v_3.toNat default).leaf))) (fun _ _ _ _ hi ht=>StepOp_plain<|op_move (v:=Bo (decide ((p.capacity.length:Int)≤((r_.places.getD v_3.toNat default).leaf)))) (ht 64 rfl)<|Gz hi) (fun hg177=>?_) (fun hg177=>?_)
 replace hm:=bif_t hm hg177
 iterate 3 refine Dw_sk rfl rfl (fun _ _ _ h=>h) rfl ?_
 refine Dw_p (Bo true) (fun _ _ _ hi ht=>op_pick_t (v:=Bo true) (ht 65 rfl) rfl<|Gz hi)<|Dw_p (Bo true) (fun _ _ _ hi ht=>op_move (v:=Bo true) (ht 69 rfl)<|Gz hi) ?_
 iterate 6 refine Dw_sk rfl rfl (fun _ _ _ h=>h) rfl ?_
 refine Dw_p (Bo true) (fun _ _ _ hi ht=>op_pick_t (v:=Bo true) (ht 70 rfl) rfl<|Gz hi)<|Dw_p (Bo true) (fun _ _ _ hi ht=>op_move (v:=Bo true) (ht 77 rfl)<|Gz hi) ?_
 iterate 10 refine Dw_sk rfl rfl (fun _ _ _ h=>h) rfl ?_
 refine Dw_nil fun w194 g195 hl196 hi197=>?_
 obtain⟨-,hst198,-⟩:=hl196
 obtain⟨hs200,p199⟩:=Step.nx hi197
 rintro _ rfl _ rfl _ rfl _ rfl _ rfl _ rfl _ rfl _ rfl _ rfl _ rfl _ rfl _ rfl _ rfl _ rfl _ rfl _ rfl _ rfl _ rfl _ rfl _ rfl _ rfl _ rfl _ rfl _ rfl _ rfl _ rfl _ rfl _ rfl _ rfl _ rfl _ rfl _ rfl _ rfl _ rfl _ rfl
 have p201:=hs94.to hs200 (hst198.trans p199)
 iterate 3 refine Rg_opx rfl (asB_ne rfl rfl) rfl ?_
 refine Pkt (Bo true) rfl rfl<|Rg_nil ?_
 replace ch109:=ch109.trans p201
 exact hK99 _ _ ⟨true,_,rfl,Frm.of ⟨rfl,trivial⟩,ch109,hs200,hm⟩
 replace hm:=bif_f hm hg177
 refine Dw_g (Pt b87 1) rfl rfl (fun _ _ _ h=>h) (fun _ _ _ hi ht=>op_fA 1 ty45 rfl ty3 (ht 8 rfl) rfl<|Gz hi)<|Dw_g (Iv ((r_.places.getD v_3.toNat default).cell)) rfl rfl (fun _ _ _ h=>h) (fun _ _ _ hi ht=>op_ld 0 ty3 (Step.nx hi).1 (ht 66 rfl) rfl rfl<|Gz hi)<|Dw_g (Bo (decide (((r_.places.getD v_3.toNat default).cell)<0))) rfl rfl (fun _ _ _ h=>h) (fun _ _ _ hi ht=>op_lss (ht 67 rfl) rfl<|Gz hi)<|Dw_p (Bo (decide (((r_.places.getD v_3.toNat default).cell)<0))) (fun _ _ _ hi ht=>op_pick_f (v:=Bo (decide (((r_.places.getD v_3.toNat default).cell)<0))) (ht 65 rfl) (ht 68 rfl)<|Gz hi)<|Dw_opB (decide (((r_.places.getD v_3.toNat default).cell)<0)) (fun _ _ _ _ hi ht=>StepOp_plain<|op_move (v:=Bo (decide (((r_.places.getD v_3.toNat default).cell)<0))) (ht 69 rfl)<|Gz hi) (fun hg217=>?_) (fun hg217=>?_)
 replace hm:=bif_t hm hg217
 iterate 6 refine Dw_sk rfl rfl (fun _ _ _ h=>h) rfl ?_
 refine Dw_p (Bo true) (fun _ _ _ hi ht=>op_pick_t (v:=Bo true) (ht 70 rfl) rfl<|Gz hi)<|Dw_p (Bo true) (fun _ _ _ hi ht=>op_move (v:=Bo true) (ht 77 rfl)<|Gz hi) ?_
 iterate 10 refine Dw_sk rfl rfl (fun _ _ _ h=>h) rfl ?_
 refine Dw_nil fun w228 g229 hl230 hi231=>?_
 obtain⟨-,hst232,-⟩:=hl230
 obtain⟨hs234,p233⟩:=Step.nx hi231
 rintro _ rfl _ rfl _ rfl _ rfl _ rfl _ rfl _ rfl _ rfl _ rfl _ rfl _ rfl _ rfl _ rfl _ rfl _ rfl _ rfl _ rfl _ rfl _ rfl _ rfl _ rfl _ rfl _ rfl _ rfl _ rfl _ rfl _ rfl _ rfl _ rfl _ rfl _ rfl _ rfl _ rfl _ rfl _ rfl
 have p235:=hs94.to hs234 (hst232.trans p233)
 iterate 3 refine Rg_opx rfl (asB_ne rfl rfl) rfl ?_
 refine Pkt (Bo true) rfl rfl<|Rg_nil ?_
 replace ch109:=ch109.trans p235
 exact hK99 _ _ ⟨true,_,rfl,Frm.of ⟨rfl,trivial⟩,ch109,hs234,hm⟩
 replace hm:=bif_f hm hg217
 refine Dw_g (Pt b87 1) rfl rfl (fun _ _ _ h=>h) (fun _ _ _ hi ht=>op_fA 1 ty45 rfl ty3 (ht 8 rfl) rfl<|Gz hi)<|Dw_g (Iv ((r_.places.getD v_3.toNat default).cell)) rfl rfl (fun _ _ _ h=>h) (fun _ _ _ hi ht=>op_ld 0 ty3 (Step.nx hi).1 (ht 71 rfl) rfl rfl<|Gz hi)<|Dw_g (Pt b1 0) rfl rfl (fun _ _ _ h=>h) (fun _ _ _ hi ht=>op_fA 0 ty26 rfl ty22 (ht 2 rfl) rfl<|Gz hi)<|Dw_g (Sl Aa p.cells Ca) rfl rfl (fun _ _ _ h=>h) (fun _ _ _ hi ht=>op_ld 2 ty22 (Step.nx hi).1 (ht 73 rfl) rfl rfl<|Gz hi)<|Dw_g (Iv (p.cells.length:Int)) rfl rfl (fun _ _ _ h=>h) (fun _ _ _ hi ht=>op_len Try.underlying22 (ht 74 rfl)<|Gz hi)<|Dw_g (Bo (decide ((p.cells.length:Int)≤((r_.places.getD v_3.toNat default).cell)))) rfl rfl (fun _ _ _ h=>h) (fun _ _ _ hi ht=>op_geq (ht 72 rfl) (ht 75 rfl)<|Gz hi)<|Dw_p (Bo (decide ((p.cells.length:Int)≤((r_.places.getD v_3.toNat default).cell)))) (fun _ _ _ hi ht=>op_pick_f (v:=Bo (decide ((p.cells.length:Int)≤((r_.places.getD v_3.toNat default).cell)))) (ht 70 rfl) (ht 76 rfl)<|Gz hi)<|Dw_opB (decide ((p.cells.length:Int)≤((r_.places.getD v_3.toNat default).cell))) (fun _ _ _ _ hi ht=>StepOp_plain<|op_move (v:=Bo (decide ((p.cells.length:Int)≤((r_.places.getD v_3.toNat default).cell)))) (ht 77 rfl)<|Gz hi) (fun hg260=>?_) (fun hg260=>?_)
 replace hm:=bif_t hm hg260
 iterate 10 refine Dw_sk rfl rfl (fun _ _ _ h=>h) rfl ?_
 refine Dw_nil fun w265 g266 hl267 hi268=>?_
 obtain⟨-,hst269,-⟩:=hl267
 obtain⟨hs271,p270⟩:=Step.nx hi268
 rintro _ rfl _ rfl _ rfl _ rfl _ rfl _ rfl _ rfl _ rfl _ rfl _ rfl _ rfl _ rfl _ rfl _ rfl _ rfl _ rfl _ rfl _ rfl _ rfl _ rfl _ rfl _ rfl _ rfl _ rfl _ rfl _ rfl _ rfl _ rfl _ rfl _ rfl _ rfl _ rfl _ rfl _ rfl _ rfl
 have p272:=hs94.to hs271 (hst269.trans p270)
 iterate 3 refine Rg_opx rfl (asB_ne rfl rfl) rfl ?_
 refine Pkt (Bo true) rfl rfl<|Rg_nil ?_
 replace ch109:=ch109.trans p272
 exact hK99 _ _ ⟨true,_,rfl,Frm.of ⟨rfl,trivial⟩,ch109,hs271,hm⟩
 replace hm:=bif_f hm hg260
 refine Dw_g (Iv v_3) rfl rfl (fun _ _ _ h=>h) (fun _ _ _ hi ht=>op_move (v:=Iv v_3) (ht 7 rfl)<|Gz hi)<|Dw_g (Bo (decide (0<v_3))) rfl rfl (fun _ _ _ h=>h) (fun _ _ _ hi ht=>op_gtr (ht 79 rfl) rfl<|Gz hi)<|Dw_opB (decide (0<v_3)) (fun _ _ _ _ hi ht=>StepOp_g rfl (ht 78 rfl)<|op_move (v:=Bo (decide (0<v_3))) (ht 80 rfl)<|Gz hi) (fun hg282=>?_) (fun hg282=>?_)
 replace hm:=bif_t hm hg282
 refine Dw_g (Pt b6 1) rfl rfl (fun _ _ _ h=>h) (fun _ _ _ hi ht=>op_fA 1 ty34 rfl ty32 (ht 3 rfl) rfl<|Gz hi)<|Dw_g (Sl Ae r_.places Ce) rfl rfl (fun _ _ _ h=>h) (fun _ _ _ hi ht=>op_ld 1 ty32 (Step.nx hi).1 (ht 82 rfl) rfl rfl<|Gz hi)<|Dw_g (Iv v_3) rfl rfl (fun _ _ _ h=>h) (fun _ _ _ hi ht=>op_move (v:=Iv v_3) (ht 7 rfl)<|Gz hi)<|Dw_g (Iv (IntKind.wrap .i64 (v_3 - 1))) rfl rfl (fun _ _ _ h=>h) (fun _ _ _ hi ht=>op_subw (ht 84 rfl) rfl<|Gz hi) ?_
 obtain⟨hc298,hm⟩:=ck_some hm
 have p301:=(p89.trans p93)
 replace Fe:=Fe.step p301
 refine Dw_op (VP _ _ rXPlace (r_.places.getD (IntKind.wrap .i64 (v_3 - 1)).toNat default)) (VP.stab _ _) (fun ρ295 w296 g hle hi ht=>?_) ?_
 obtain⟨-,hst,-⟩:=hle
 replace Fe:=Fe.step hst
 refine StepOp_g rfl (ht 81 rfl)<|op_indexAddr (q:=rXPlace) ty32 ty45 (ht 83 rfl) (ht 85 rfl) Fe rfl hc298.1 hc298.2 ?_
 intro p299 f300
 exact Goes.same hi ⟨_,rfl,f300⟩
 refine Dw_op (VD _ _ (vA rXPlace) (r_.places.getD (IntKind.wrap .i64 (v_3 - 1)).toNat default)) (VD.stab _ _) (fun ρ302 w303 g hle hi ht=>?_) ?_
 obtain⟨p305,q306,f307⟩:=ht 86 rfl
 refine StepOp_g rfl (ht 81 rfl)<|op_loadPA ty45 q306 f307 rfl ?_
 intro vs308 h309
 obtain⟨_,_,rfl,⟨rfl,Rh⟩,⟨rfl,Ri⟩⟩:=h309
 exact Goes.same hi (show Vr.vd (vA rXPlace) _ _ _ _ from(mkA (mkVia (mk_pair (mk_int Rh) (mk_int Ri)))))
 refine Dw_g (Value.agg [Iv ((r_.places.getD v_3.toNat default).leaf),Iv ((r_.places.getD v_3.toNat default).cell)].toArray) rfl rfl (fun _ _ _ h=>h) (fun _ _ _ hi ht=>op_ldA 0 ty45 (Step.nx hi).1 (ht 8 rfl) rfl rfl<|Gz hi)<|Dw_nil fun w318 g319 hl320 hi321=>?_
 obtain⟨-,hst322,-⟩:=hl320
 obtain⟨hs324,p323⟩:=Step.nx hi321
 rintro _ rfl v325 h326
 replace h326:Vr.vd (vA rXPlace) _ _ _ _:=h326
 obtain⟨_,rfl,⟨_,_,rfl,⟨rfl,Rj⟩,⟨rfl,Rk⟩⟩⟩:=h326
 rintro _ ⟨p328,rfl,f329⟩ _ rfl _ rfl _ rfl _ rfl _ rfl _ rfl _ rfl _ rfl _ rfl _ rfl _ rfl _ rfl _ rfl _ rfl _ rfl _ rfl _ rfl _ rfl _ rfl _ rfl _ rfl _ rfl _ rfl _ rfl _ rfl _ rfl _ rfl _ rfl _ rfl _ rfl _ rfl _ rfl
 have p330:=hs94.to hs324 (hst322.trans p323)
 replace f329:=f329.step p323
 obtain⟨order_1,hv331,hm⟩:=bd hm
 refine Rog rfl rfl<|op_callE hs324 Try.call55 (c55_reason_order (a:=r_.places.getD (IntKind.wrap .i64 (v_3 - 1)).toNat default) (b:=r_.places.getD v_3.toNat default) hs324.ltw Rj Rk Rf Rg hv331) rfl ?_
 rintro v332 w333 p337 hs336 h335
 clear hs324
 obtain⟨rfl,Rl⟩:=h335
 refine Rog rfl rfl<|op_geq rfl rfl<|Rog rfl rfl<|op_pick_t (v:=Bo (decide (0≤order_1))) rfl rfl<|Pkf (Bo (decide (0≤order_1))) rfl rfl<|Rg_nil ?_
 have p339:=(p330.trans p337)
 replace ch109:=ch109.trans p339
 exact hK99 _ _ ⟨decide (0≤order_1),_,rfl,Frm.of ⟨rfl,trivial⟩,ch109,hs336,hm⟩
 replace hm:=bif_f hm hg282
 iterate 7 refine Dw_sk rfl rfl (fun _ _ _ h=>h) rfl ?_
 refine Dw_nil fun w344 g345 hl346 hi347=>?_
 obtain⟨-,hst348,-⟩:=hl346
 obtain⟨hs350,p349⟩:=Step.nx hi347
 rintro _ rfl _ rfl _ rfl _ rfl _ rfl _ rfl _ rfl _ rfl _ rfl _ rfl _ rfl _ rfl _ rfl _ rfl _ rfl _ rfl _ rfl _ rfl _ rfl _ rfl _ rfl _ rfl _ rfl _ rfl _ rfl _ rfl _ rfl _ rfl _ rfl _ rfl _ rfl _ rfl _ rfl _ rfl _ rfl
 have p351:=hs94.to hs350 (hst348.trans p349)
 refine Rg_opx rfl (asB_ne rfl rfl) rfl<|Rg_opx rfl (asB_ne rfl rfl) rfl<|Rog rfl rfl<|op_pick_f (v:=Bo false) rfl rfl<|Pkf (Bo false) rfl rfl<|Rg_nil ?_
 replace ch109:=ch109.trans p351
 exact hK99 _ _ ⟨false,_,rfl,Frm.of ⟨rfl,trivial⟩,ch109,hs350,hm⟩
 refine Wp_exit<|Wp_seq ?_
 obtain⟨hs352,p353⟩:=hs75.sub (bs':=[]) (.cons _ (.cons _ List.Sublist.slnil))
 clear Fa Fb Fc Fd Fe
 clear hs75
 refine Wp_region<|Asg (Iv 0) rfl<|Rg_nil<|Wp_ret<|⟨_,Clo,[Iv 0],⟨rfl,trivial⟩,hs352.ext,?_⟩
 exact Vr.eq (a:=(vI .i64)) (x:=0) ⟨rfl,(show InK .i64 0 from by decide)⟩ (oi hm)

def m52_reason_Proves_1_1 (x_:XPlace) (fv0_:List (XPlace × Bool)):Option Bool:=
 some ((mget fv0_ x_).getD false)

theorem c52_reason_Proves_1_1 {w:World} {O:List Nat} {x_:XPlace} {fv0_:List (XPlace × Bool)} {p_fv0_:Addr} (hO:∀k∈O,k<w.heap.size) (Ra:InK .i64 x_.leaf) (Rb:InK .i64 x_.cell) (Fa:PtR (rMp kXPlace mvB) w O p_fv0_ fv0_) {x:Bool} (hm:m52_reason_Proves_1_1 x_ fv0_=some x):
 Ok Try.prog 52 [Value.agg [Iv x_.leaf,Iv x_.cell].toArray,Value.pointer (some p_fv0_)] w O vB x:=by
 unfold m52_reason_Proves_1_1 at hm
 refine Fn_of_Wp (n:=7) (xs:=[.tmp 3]) Try.func52 rfl Try.ntmps52 Try.results52 rfl ?_
 have hs:=St.start hO
 refine Wp_seq<|Wp_region<|Rop<|op_box (cs:=[Iv x_.leaf,Iv x_.cell]) hs rfl rfl ?_
 intro b1 w2 _ p3 hs4
 refine Asg (Bo false) rfl<|Rg_nil<|Wp_seq<|Wp_region ?_
 replace Fa:=Fa.step p3
 refine Rop<|op_loadP ty98 rfl Fa rfl ?_
 intro v6 h7
 have M8:=un_mp h7;clear h7
 refine Rop<|op_ldA 0 ty45 hs4 rfl rfl rfl<|Rop<|op_lookupR (q:=kXPlace) (m:=mvB) (n:=x_) (z:=false) Try.underlying98 kok45 Try.zeroValue4 M8 (And.intro Ra Rb) rfl rfl<|Asg (Bo ((mget fv0_ x_).getD false)) rfl<|Rg_nil<|Wp_ret<|⟨_,Clo,[Bo ((mget fv0_ x_).getD false)],⟨rfl,trivial⟩,hs4.ext,?_⟩
 exact Vr.eq (a:=vB) (x:=(mget fv0_ x_).getD false) rfl (oi hm)

def m50_reason_Proves_1 (bad:List (XPlace × Bool)) (fv0_:XReason) (fv1_:Bool):Option (Bool × Bool):=
 (m51_api_Place_ fv0_.places (fun x13=>m52_reason_Proves_1_1 x13 bad)).bind fun place_1=>
 some (place_1,place_1)

theorem c50_reason_Proves_1 {w:World} {O:List Nat} {bad:List (XPlace × Bool)} {fv0_:XReason} {fv1_:Bool} {v_bad:Value} {p_fv0_:Addr} {b_fv1_:Nat} (hL0:Lend w O [(some b_fv1_,Oc [Bo fv1_] 4)]) (M_bad:MpR kXPlace mvB w (ks [(some b_fv1_,Oc [Bo fv1_] 4)] O) v_bad bad) (Fa:PtR rXReason w (ks [(some b_fv1_,Oc [Bo fv1_] 4)] O) p_fv0_ fv0_) {x0:Bool} {y_fv1_:Bool} (hm:m50_reason_Proves_1 bad fv0_ fv1_=some (x0,y_fv1_)):
 OkL Try.prog 50 [v_bad,Value.pointer (some p_fv0_),Pt b_fv1_ 0] w O [(some b_fv1_,Oc [Bo fv1_] 4)] vB x0 (fun w' L'=>L'=[(some b_fv1_,Obj.cells [Bo y_fv1_].toArray 4)]):=by
 unfold m50_reason_Proves_1 at hm
 refine Fn_of_Wp (n:=10) (xs:=[.tmp 4]) Try.func50 rfl Try.ntmps50 Try.results50 rfl ?_
 obtain⟨x,hxm⟩:∃x,x=(x0,y_fv1_):=⟨_,rfl⟩
 rw [← hxm] at hm
 have hs:St ⟨w,List.filterMap Prod.fst [(some b_fv1_,Oc [Bo fv1_] 4)],[]⟩ O w [(some b_fv1_,Oc [Bo fv1_] 4)]:=hL0
 have hO:=hs.lt0
 refine Wp_seq<|Wp_region<|Rop<|op_box (cs:=[v_bad]) hs (show ev _ _=v_bad from rfl) (MpR.cells1 M_bad) ?_
 intro b1 w2 _ p3 hs4
 refine Asg (Bo false) rfl<|Rg_nil<|Wp_seq<|Wp_region<|Rop<|op_fieldAddr ty34 rfl ty32 (by decide) rfl rfl ?_
 replace Fa:=Fa.step p3
 have f6:=Fa.via.snd
 refine Rop<|op_loadP ty32 rfl f6 rfl ?_
 intro v7 h8
 obtain⟨Aa,Ca,rfl,Fb⟩:=un_sl h8
 replace M_bad:=M_bad.step p3
 obtain⟨hs11,p12,f10⟩:=St.publishP (p:=rMp kXPlace mvB) (i:=0) (x:=bad) hs4 rfl (mk_mp M_bad)
 clear hs4
 refine Rop<|op_makeFunc' (a':=[]) (c':=[Value.pointer (some (⟨b1,0,none⟩:Addr))]) rfl rfl ?_
 have F14:CallsTo1 Try.prog w2 (ks [(some b_fv1_,Oc [Bo fv1_] 4)] O) (Value.func (.func 52) #[] #[Value.pointer (some (⟨b1,0,none⟩:Addr))]) (vA rXPlace) vB (fun x13=>m52_reason_Proves_1_1 x13 bad):=by
  intro w15 O16 st17 hO18 v21 x13 y19 h22 hy20
  obtain⟨_,rfl,⟨_,_,rfl,⟨rfl,Ra⟩,⟨rfl,Rb⟩⟩⟩:=h22
  exact⟨52,#[],#[Value.pointer (some (⟨b1,0,none⟩:Addr))],rfl,Try.call52,c52_reason_Proves_1_1 (x_:=x13) hO18 Ra Rb (f10.step st17) hy20⟩
 obtain⟨place_1,hv24,hm⟩:=bd hm
 replace Fb:=Fb.step p12
 refine Rop<|op_callE hs11 Try.call51 (c51_api_Place_ (s:=fv0_.places) (f:=(fun x13=>m52_reason_Proves_1_1 x13 bad)) hs11.ltw Fb F14 hv24) rfl ?_
 rintro v25 w26 p30 hs29 h28
 clear hs11
 obtain rfl:=h28
 refine Rg_op_<|op_stS (Bo place_1) .z ty4 hs29 rfl rfl rfl rfl ?_
 intro w32 p33 hs34
 clear hs29
 refine Rg_nil<|Wp_seq ?_
 clear M_bad Fa f6 Fb f10 F14
 refine Wp_region<|Rop<|op_ld 0 ty4 hs34 rfl rfl rfl<|Asg (Bo place_1) rfl<|Rg_nil<|Wp_ret ?_
 have hq35:=(oi hm).trans hxm;simp only [Prod.mk.injEq] at hq35;obtain⟨hq36,rfl⟩:=hq35
 refine⟨_,Clo,[Bo place_1],⟨rfl,trivial⟩,_,St.backB hs34,rfl,?_⟩
 exact Vr.eq (a:=vB) (x:=place_1) rfl hq36
def S50 (b_fv1_:Nat):Sx Bool where
 rd w O E s:=E=[(some b_fv1_,Obj.cells [Bo s].toArray 4)]
 step:=fun p h=>by
  have hE:=h
  exact hE
theorem d50 {w:World} {O:List Nat} {b_fv1_:Nat} {fv0_:XReason} {p_fv0_:Addr} (Fa:PtR rXReason w O p_fv0_ fv0_):
 DoneS Try.prog kXPlace mvB (S50 b_fv1_) w O (Value.func (.func 50) #[] #[Value.pointer (some p_fv0_),Pt b_fv1_ 0]) (fun xs s=>m50_reason_Proves_1 xs fv0_ s):=by
 refine⟨⟨_,_,rfl⟩,?_⟩
 intro w1 O1 L1 b o xs s r s' p hL hb ho hM hS hm
 obtain rfl:=hS
 have hL':=hL.less (b:=b)
 have hp:=fun L=>Lend.stepless (b:=b) L O1 w1
 refine⟨50,#[],_,rfl,Try.call50,(c50_reason_Proves_1 (x0:=r) (y_fv1_:=s') hL' (hL.readM hb ho hM) ((Fa.step p).step (hp _)) hm).mono ?_⟩
 rintro u w2 ⟨L2,hB,rfl,hu⟩
 exact⟨_,hB.more hL hb,rfl,hu⟩

def m17_reason_Proves (p:XProblem) (r_:XReason):Option (Bool × Int):=
 (m23_reason_Check p r_).bind fun check_1=>
 bif (decide (check_1≠0)) then
  some (false,check_1)
 else
  (m42_reason_tabled p).bind fun tabled_1=>
  (m49_reason_table__broken tabled_1 r_.variables (fun xs s=>m50_reason_Proves_1 xs r_ s) true).bind fun lent_1=>
  some (lent_1,0)

theorem c17_reason_Proves {w:World} {O:List Nat} {p:XProblem} {r_:XReason} {Aa:Option Addr} {Ca:Nat} {Ab:Option Addr} {Cb:Nat} {Ac:Option Addr} {Cc:Nat} {Ad:Option Addr} {Cd:Nat} {Ae:Option Addr} {Ce:Nat} (hO:∀k∈O,k<w.heap.size) (Fa:SlR rXCell w O Aa Ca p.cells) (Fb:SlR (rSl (rInt .i64)) w O Ab Cb p.capacity) (Fc:SlR rXVariable w O Ac Cc p.variables) (Fd:SlR (rInt .i64) w O Ad Cd r_.variables) (Fe:SlR rXPlace w O Ae Ce r_.places) {x:Bool × Int} (hm:m17_reason_Proves p r_=some x):
 Ok Try.prog 17 [Value.agg [Sl Aa p.cells Ca,Sl Ab p.capacity Cb,Sl Ac p.variables Cc].toArray,Value.agg [Sl Ad r_.variables Cd,Sl Ae r_.places Ce].toArray] w O (vT2 vB (vI .i64)) x:=by
 unfold m17_reason_Proves at hm
 refine Fn_of_Wp (n:=19) (xs:=[.cell 4 4,.tmp 5]) Try.func17 rfl Try.ntmps17 Try.results17 rfl ?_
 have hs:=St.start hO
 refine Wp_seq<|Wp_region<|Rop<|op_box (cs:=[Sl Aa p.cells Ca,Sl Ab p.capacity Cb,Sl Ac p.variables Cc]) hs rfl rfl ?_
 intro b1 w2 _ p3 hs4
 refine Rop<|op_box (cs:=[Sl Ad r_.variables Cd,Sl Ae r_.places Ce]) hs4 rfl rfl ?_
 intro b6 w7 _ p8 hs9
 clear hs4
 refine Rop<|op_alloc ty4 hs9 ?_
 intro b11 w12 _ p13 hs14
 clear hs9
 refine Asg (Iv 0) rfl<|Rg_nil<|Wp_seq<|Wp_seq<|Wp_region<|Rop<|op_ldA 2 ty26 hs14 rfl rfl rfl<|Rop<|op_ldA 1 ty34 hs14 rfl rfl rfl ?_
 obtain⟨check_1,hv16,hm⟩:=bd hm
 have p22:=(p3.trans (p8.trans p13))
 replace Fb:=Fb.step p22;replace Fa:=Fa.step p22;replace Fc:=Fc.step p22;replace Fe:=Fe.step p22;replace Fd:=Fd.step p22
 refine Rop<|op_callE hs14 Try.call23 (c23_reason_Check (p:=p) (r_:=r_) hs14.ltw Fa Fb Fc Fd Fe hv16) rfl ?_
 rintro v17 w18 p23 hs21 h20
 clear hs14
 obtain⟨rfl,Ra⟩:=h20
 refine Asg (Iv check_1) rfl<|Rg_nil<|Wp_seq<|Wp_region<|Mve (Iv check_1) rfl<|Rop<|op_neq rfl rfl<|Rg_nil<|Wp_condM hm rfl (fun hc25 hm=>?_) (fun hc25 hm=>?_)
 refine Wp_seq ?_
 obtain⟨hs26,p27⟩:=hs21.sub (bs':=[(some b11,Oc [Bo false] 4)]) (.cons_cons _ (.cons _ (.cons _ List.Sublist.slnil)))
 clear Fa Fb Fc Fd Fe
 clear hs21
 refine Wp_region<|Mve (Iv check_1) rfl<|Rg_op_<|op_stS (Bo false) .z ty4 hs26 rfl rfl rfl rfl ?_
 intro w28 p29 hs30
 clear hs26
 refine Asg (Iv check_1) rfl<|Rg_nil<|Wp_ret<|⟨_,Clo,[Bo false,Iv check_1],⟨res1 (cs:=[Bo false]) ty4 (i:=0) hs30 rfl rfl rfl,rfl,trivial⟩,hs30.ext,?_⟩
 exact Vr.eq (a:=vT2 vB (vI .i64)) (x:=(false,check_1)) (mkT2 rfl ⟨rfl,Ra⟩) (oi hm)
 refine Wp_skip<|Wp_seq<|Wp_region<|Rg_op_<|op_stS (Bo true) .z ty4 hs21 rfl rfl rfl rfl ?_
 intro w31 p32 hs33
 clear hs21
 refine Rg_nil<|Wp_seq<|Wp_drawR (g0:=[]) (m:=5) (fl:=[]) (TS_inv hs33) rfl (.inl rfl) rfl (by decide+kernel) ?_  -- 5
 refine Dw_p (Value.agg [Sl Aa p.cells Ca,Sl Ab p.capacity Cb,Sl Ac p.variables Cc].toArray) (fun _ _ _ hi ht=>op_ldA 2 ty26 (Step.nx hi).1 (ht 2 rfl) rfl rfl<|Gz hi) ?_
 obtain⟨tabled_1,hv40,hm⟩:=bd hm
 have p46:=(p23.trans p32)
 replace Fb:=Fb.step p46;replace Fa:=Fa.step p46;replace Fc:=Fc.step p46
 refine Dw_op (VD _ _ (vA rXTable) tabled_1) (VD.stab _ _) (fun ρ37 w38 g hle hi ht=>?_) ?_
 obtain⟨-,hst,-⟩:=hle
 replace Fa:=Fa.step hst;replace Fb:=Fb.step hst;replace Fc:=Fc.step hst
 refine StepOp_plain (op_call Try.call42 (c42_reason_tabled (O:=ks (ents g++[(some b11,Oc [Bo true] 4),(some b6,Oc [Sl Ad r_.variables Cd,Sl Ae r_.places Ce] 34),(some b1,Oc [Sl Aa p.cells Ca,Sl Ab p.capacity Cb,Sl Ac p.variables Cc] 26)]) O) (p:=p) hi.ltw Fa Fb Fc hv40) (by simp only [List.map,Array.toList,(show ev _ (.tmp 12)=_ from(ht 12 rfl))]<;> rfl) ?_)
 rintro v41 w42 ⟨hx43,h44⟩
 exact Goes.call hi hx43 h44
 refine Dw_p (Pt b6 0) (fun _ _ _ hi ht=>op_fA 0 ty34 rfl ty31 (ht 3 rfl) rfl<|Gz hi)<|Dw_p (Sl Ad r_.variables Cd) (fun _ _ _ hi ht=>op_ld 1 ty31 (Step.nx hi).1 (ht 14 rfl) rfl rfl<|Gz hi)<|Dw_eq (Value.func (.func 50) #[] #[Pt b6 0,Pt b11 0]) (fun ρ53 w54 g hle hi ht=>?_) ?_
 refine StepOp_plain (op_makeFunc' (a':=[]) (c':=[Pt b6 0,Pt b11 0]) rfl (by simp only [List.map,Array.toList,(show ev _ (.tmp 3)=_ from(ht 3 rfl)),(show ev _ (.tmp 4)=_ from(ht 4 rfl))]<;> rfl) ?_)
 exact Gz hi
 refine Dw_nil fun w60 g61 hl62 hi63=>?_
 obtain⟨-,hst64,-⟩:=hl62
 obtain⟨hs66,p65⟩:=Step.nx hi63
 rintro _ rfl _ rfl _ rfl v67 h68
 replace h68:Vr.vd (vA rXTable) _ _ _ _:=h68
 obtain⟨_,rfl,⟨_,_,rfl,⟨_,_,rfl,⟨Af,Cf,rfl,Ff⟩,⟨_,_,rfl,⟨Ag,Cg,rfl,Fg⟩,⟨Ah,Ch,rfl,Fh⟩⟩⟩,⟨Ai,Ci,rfl,Fi⟩⟩⟩:=h68
 rintro _ rfl
 have p70:=hs33.to hs66 (hst64.trans p65)
 replace Ff:=Ff.step p65;replace Fg:=Fg.step p65;replace Fh:=Fh.step p65;replace Fi:=Fi.step p65;clear hs33
 have p74:=(p46.trans p70)
 replace Fe:=Fe.step p74;replace Fd:=Fd.step p74
 obtain⟨hs72,p73,f71⟩:=St.publishP (p:=rXReason) (i:=1) (x:=r_) hs66 rfl (mkVia (mk_pair (mk_sl Fd) (mk_sl Fe)))
 clear hs66
 have hS75:SxR (S50 b11) w60 (ks [(some b11,Oc [Bo true] 4)] (ks [(some b1,Oc [Sl Aa p.cells Ca,Sl Ab p.capacity Cb,Sl Ac p.variables Cc] 26)] O)) [(some b11,Oc [Bo true] 4)] true:=by rw [← ks_app];exact rfl
 obtain⟨lent_1,hv76,hm⟩:=bd hm
 have hq77:ks [(some b11,Oc [Bo true] 4),(some b1,Oc [Sl Aa p.cells Ca,Sl Ab p.capacity Cb,Sl Ac p.variables Cc] 26)] O=ks [(some b11,Oc [Bo true] 4)] (ks [(some b1,Oc [Sl Aa p.cells Ca,Sl Ab p.capacity Cb,Sl Ac p.variables Cc] 26)] O):=ks_app [(some b11,Oc [Bo true] 4)] [(some b1,Oc [Sl Aa p.cells Ca,Sl Ab p.capacity Cb,Sl Ac p.variables Cc] 26)] O
 replace Fd:=Fd.step p73;replace Fg:=Fg.step p73;replace Ff:=Ff.step p73;replace Fh:=Fh.step p73;replace Fi:=Fi.step p73
 refine Rop<|op_callL (rest:=[(some b1,Oc [Sl Aa p.cells Ca,Sl Ab p.capacity Cb,Sl Ac p.variables Cc] 26)]) Try.call49 [(some b11,Oc [Bo true] 4)] hs72 (c49_reason_table__broken (S:=S50 b11) (t:=tabled_1) (variables:=r_.variables) (D:=(fun xs s=>m50_reason_Proves_1 xs r_ s)) (s0:=true) (St.lendL (L:=[(some b11,Oc [Bo true] 4)]) (rest:=[(some b1,Oc [Sl Aa p.cells Ca,Sl Ab p.capacity Cb,Sl Ac p.variables Cc] 26)]) hs72) (hq77 ▸ Ff) (hq77 ▸ Fg) (hq77 ▸ Fh) (hq77 ▸ Fi) (hq77 ▸ Fd) (d50 (hq77 ▸ f71)) hS75 hv76) rfl ?_
 intro v83 w78 L79 p80 hs81 hP82 _;clear hS75 hq77
 obtain rfl:=hP82
 replace hs81:St ⟨w,[],[]⟩ O w78 [(some b11,Oc [Bo lent_1] 4),(some b1,Oc [Sl Aa p.cells Ca,Sl Ab p.capacity Cb,Sl Ac p.variables Cc] 26)]:=hs81
 replace p80:Step (ks [(some b11,Oc [Bo true] 4),(some b1,Oc [Sl Aa p.cells Ca,Sl Ab p.capacity Cb,Sl Ac p.variables Cc] 26)] O) w60 (ks [(some b11,Oc [Bo lent_1] 4),(some b1,Oc [Sl Aa p.cells Ca,Sl Ab p.capacity Cb,Sl Ac p.variables Cc] 26)] O) w78:=p80
 clear hs72
 refine Rg_nil<|Wp_seq ?_
 obtain⟨hs85,p86⟩:=hs81.sub (bs':=[(some b11,Oc [Bo lent_1] 4)]) (.cons_cons _ (.cons _ List.Sublist.slnil))
 clear Fa Fb Fc Fd Fe Ff Fg Fh Fi f71
 clear hs81
 refine Wp_region<|Rop<|op_ld 0 ty4 hs85 rfl rfl rfl<|Rg_op_<|op_stS (Bo lent_1) .z ty4 hs85 rfl rfl rfl rfl ?_
 intro w87 p88 hs89
 clear hs85
 refine Asg (Iv 0) rfl<|Rg_nil<|Wp_ret<|⟨_,Clo,[Bo lent_1,Iv 0],⟨res1 (cs:=[Bo lent_1]) ty4 (i:=0) hs89 rfl rfl rfl,rfl,trivial⟩,hs89.ext,?_⟩
 exact Vr.eq (a:=vT2 vB (vI .i64)) (x:=(lent_1,0)) (mkT2 rfl ⟨rfl,(show InK .i64 0 from by decide)⟩) (oi hm)

def m86_bits_Mul64 (x_:Int) (y:Int):Option (Int × Int):=
 some ((IntKind.wrap .u64 ((IntKind.wrap .u64 ((IntKind.wrap .u64 ((x_ / 2 ^ min 32 (IntKind.bits .u64))*(y / 2 ^ min 32 (IntKind.bits .u64))))+((IntKind.wrap .u64 ((IntKind.wrap .u64 ((x_ / 2 ^ min 32 (IntKind.bits .u64))*(Go.bits .and .u64 y 4294967295)))+((IntKind.wrap .u64 ((Go.bits .and .u64 x_ 4294967295)*(Go.bits .and .u64 y 4294967295))) / 2 ^ min 32 (IntKind.bits .u64)))) / 2 ^ min 32 (IntKind.bits .u64))))+((IntKind.wrap .u64 ((Go.bits .and .u64 (IntKind.wrap .u64 ((IntKind.wrap .u64 ((x_ / 2 ^ min 32 (IntKind.bits .u64))*(Go.bits .and .u64 y 4294967295)))+((IntKind.wrap .u64 ((Go.bits .and .u64 x_ 4294967295)*(Go.bits .and .u64 y 4294967295))) / 2 ^ min 32 (IntKind.bits .u64)))) 4294967295)+(IntKind.wrap .u64 ((Go.bits .and .u64 x_ 4294967295)*(y / 2 ^ min 32 (IntKind.bits .u64)))))) / 2 ^ min 32 (IntKind.bits .u64)))),(IntKind.wrap .u64 (x_*y)))

theorem c86_bits_Mul64 {w:World} {O:List Nat} {x_:Int} {y:Int} (hO:∀k∈O,k<w.heap.size) (Ra:InK .u64 x_) (Rb:InK .u64 y) {x:Int × Int} (hm:m86_bits_Mul64 x_ y=some x):
 Ok Try.prog 86 [(Value.int .u64 x_),(Value.int .u64 y)] w O (vT2 (vI .u64) (vI .u64)) x:=by
 unfold m86_bits_Mul64 at hm
 refine Fn_of_Wp (n:=51) (xs:=[.tmp 4,.tmp 5]) Try.func86 rfl Try.ntmps86 Try.results86 rfl ?_
 have hs:=St.start hO
 refine Wp_seq<|Wp_region<|Asg (Value.int .u64 0) rfl<|Asg (Value.int .u64 0) rfl<|Rg_nil<|Wp_seq<|Wp_region<|Mve (Value.int .u64 x_) rfl<|Rop<|op_and rfl rfl<|Asg (Value.int .u64 (Go.bits .and .u64 x_ 4294967295)) rfl<|Rg_nil<|Wp_seq<|Wp_region<|Mve (Value.int .u64 x_) rfl<|Rop<|op_shr rfl rfl (by decide)<|Asg (Value.int .u64 (x_ / 2 ^ min 32 (IntKind.bits .u64))) rfl<|Rg_nil<|Wp_seq<|Wp_region<|Mve (Value.int .u64 y) rfl<|Rop<|op_and rfl rfl<|Asg (Value.int .u64 (Go.bits .and .u64 y 4294967295)) rfl<|Rg_nil<|Wp_seq<|Wp_region<|Mve (Value.int .u64 y) rfl<|Rop<|op_shr rfl rfl (by decide)<|Asg (Value.int .u64 (y / 2 ^ min 32 (IntKind.bits .u64))) rfl<|Rg_nil<|Wp_seq<|Wp_region<|Mve (Value.int .u64 (Go.bits .and .u64 x_ 4294967295)) rfl<|Mve (Value.int .u64 (Go.bits .and .u64 y 4294967295)) rfl<|Rop<|op_mulw rfl rfl<|Asg (Value.int .u64 (IntKind.wrap .u64 ((Go.bits .and .u64 x_ 4294967295)*(Go.bits .and .u64 y 4294967295)))) rfl<|Rg_nil<|Wp_seq<|Wp_region<|Mve (Value.int .u64 (x_ / 2 ^ min 32 (IntKind.bits .u64))) rfl<|Mve (Value.int .u64 (Go.bits .and .u64 y 4294967295)) rfl<|Rop<|op_mulw rfl rfl<|Mve (Value.int .u64 (IntKind.wrap .u64 ((Go.bits .and .u64 x_ 4294967295)*(Go.bits .and .u64 y 4294967295)))) rfl<|Rop<|op_shr rfl rfl (by decide)<|Rop<|op_addw rfl rfl<|Asg (Value.int .u64 (IntKind.wrap .u64 ((IntKind.wrap .u64 ((x_ / 2 ^ min 32 (IntKind.bits .u64))*(Go.bits .and .u64 y 4294967295)))+((IntKind.wrap .u64 ((Go.bits .and .u64 x_ 4294967295)*(Go.bits .and .u64 y 4294967295))) / 2 ^ min 32 (IntKind.bits .u64))))) rfl<|Rg_nil<|Wp_seq<|Wr [] [(0,(Value.int .u64 x_)),(1,(Value.int .u64 y)),(6,(Value.int .u64 (Go.bits .and .u64 x_ 4294967295))),(7,(Value.int .u64 (x_ / 2 ^ min 32 (IntKind.bits .u64)))),(9,(Value.int .u64 (y / 2 ^ min 32 (IntKind.bits .u64)))),(11,(Value.int .u64 (IntKind.wrap .u64 ((IntKind.wrap .u64 ((x_ / 2 ^ min 32 (IntKind.bits .u64))*(Go.bits .and .u64 y 4294967295)))+((IntKind.wrap .u64 ((Go.bits .and .u64 x_ 4294967295)*(Go.bits .and .u64 y 4294967295))) / 2 ^ min 32 (IntKind.bits .u64))))))] fun ξ1=>Wp_region<|Mve (Value.int .u64 (IntKind.wrap .u64 ((IntKind.wrap .u64 ((x_ / 2 ^ min 32 (IntKind.bits .u64))*(Go.bits .and .u64 y 4294967295)))+((IntKind.wrap .u64 ((Go.bits .and .u64 x_ 4294967295)*(Go.bits .and .u64 y 4294967295))) / 2 ^ min 32 (IntKind.bits .u64))))) rfl<|Rop<|op_and rfl rfl<|Asg (Value.int .u64 (Go.bits .and .u64 (IntKind.wrap .u64 ((IntKind.wrap .u64 ((x_ / 2 ^ min 32 (IntKind.bits .u64))*(Go.bits .and .u64 y 4294967295)))+((IntKind.wrap .u64 ((Go.bits .and .u64 x_ 4294967295)*(Go.bits .and .u64 y 4294967295))) / 2 ^ min 32 (IntKind.bits .u64)))) 4294967295)) rfl<|Rg_nil<|Wp_seq<|Wp_region<|Mve (Value.int .u64 (IntKind.wrap .u64 ((IntKind.wrap .u64 ((x_ / 2 ^ min 32 (IntKind.bits .u64))*(Go.bits .and .u64 y 4294967295)))+((IntKind.wrap .u64 ((Go.bits .and .u64 x_ 4294967295)*(Go.bits .and .u64 y 4294967295))) / 2 ^ min 32 (IntKind.bits .u64))))) rfl<|Rop<|op_shr rfl rfl (by decide)<|Asg (Value.int .u64 ((IntKind.wrap .u64 ((IntKind.wrap .u64 ((x_ / 2 ^ min 32 (IntKind.bits .u64))*(Go.bits .and .u64 y 4294967295)))+((IntKind.wrap .u64 ((Go.bits .and .u64 x_ 4294967295)*(Go.bits .and .u64 y 4294967295))) / 2 ^ min 32 (IntKind.bits .u64)))) / 2 ^ min 32 (IntKind.bits .u64))) rfl<|Rg_nil<|Wp_seq<|Wp_region<|Mve (Value.int .u64 (Go.bits .and .u64 (IntKind.wrap .u64 ((IntKind.wrap .u64 ((x_ / 2 ^ min 32 (IntKind.bits .u64))*(Go.bits .and .u64 y 4294967295)))+((IntKind.wrap .u64 ((Go.bits .and .u64 x_ 4294967295)*(Go.bits .and .u64 y 4294967295))) / 2 ^ min 32 (IntKind.bits .u64)))) 4294967295)) rfl<|Mve (Value.int .u64 (Go.bits .and .u64 x_ 4294967295)) rfl<|Mve (Value.int .u64 (y / 2 ^ min 32 (IntKind.bits .u64))) rfl<|Rop<|op_mulw rfl rfl<|Rop<|op_addw rfl rfl<|Asg (Value.int .u64 (IntKind.wrap .u64 ((Go.bits .and .u64 (IntKind.wrap .u64 ((IntKind.wrap .u64 ((x_ / 2 ^ min 32 (IntKind.bits .u64))*(Go.bits .and .u64 y 4294967295)))+((IntKind.wrap .u64 ((Go.bits .and .u64 x_ 4294967295)*(Go.bits .and .u64 y 4294967295))) / 2 ^ min 32 (IntKind.bits .u64)))) 4294967295)+(IntKind.wrap .u64 ((Go.bits .and .u64 x_ 4294967295)*(y / 2 ^ min 32 (IntKind.bits .u64))))))) rfl<|Rg_nil<|Wp_seq<|Wp_region<|Mve (Value.int .u64 (x_ / 2 ^ min 32 (IntKind.bits .u64))) rfl<|Mve (Value.int .u64 (y / 2 ^ min 32 (IntKind.bits .u64))) rfl<|Rop<|op_mulw rfl rfl<|Mve (Value.int .u64 ((IntKind.wrap .u64 ((IntKind.wrap .u64 ((x_ / 2 ^ min 32 (IntKind.bits .u64))*(Go.bits .and .u64 y 4294967295)))+((IntKind.wrap .u64 ((Go.bits .and .u64 x_ 4294967295)*(Go.bits .and .u64 y 4294967295))) / 2 ^ min 32 (IntKind.bits .u64)))) / 2 ^ min 32 (IntKind.bits .u64))) rfl<|Rop<|op_addw rfl rfl<|Mve (Value.int .u64 (IntKind.wrap .u64 ((Go.bits .and .u64 (IntKind.wrap .u64 ((IntKind.wrap .u64 ((x_ / 2 ^ min 32 (IntKind.bits .u64))*(Go.bits .and .u64 y 4294967295)))+((IntKind.wrap .u64 ((Go.bits .and .u64 x_ 4294967295)*(Go.bits .and .u64 y 4294967295))) / 2 ^ min 32 (IntKind.bits .u64)))) 4294967295)+(IntKind.wrap .u64 ((Go.bits .and .u64 x_ 4294967295)*(y / 2 ^ min 32 (IntKind.bits .u64))))))) rfl<|Rop<|op_shr rfl rfl (by decide)<|Rop<|op_addw rfl rfl<|Asg (Value.int .u64 (IntKind.wrap .u64 ((IntKind.wrap .u64 ((IntKind.wrap .u64 ((x_ / 2 ^ min 32 (IntKind.bits .u64))*(y / 2 ^ min 32 (IntKind.bits .u64))))+((IntKind.wrap .u64 ((IntKind.wrap .u64 ((x_ / 2 ^ min 32 (IntKind.bits .u64))*(Go.bits .and .u64 y 4294967295)))+((IntKind.wrap .u64 ((Go.bits .and .u64 x_ 4294967295)*(Go.bits .and .u64 y 4294967295))) / 2 ^ min 32 (IntKind.bits .u64)))) / 2 ^ min 32 (IntKind.bits .u64))))+((IntKind.wrap .u64 ((Go.bits .and .u64 (IntKind.wrap .u64 ((IntKind.wrap .u64 ((x_ / 2 ^ min 32 (IntKind.bits .u64))*(Go.bits .and .u64 y 4294967295)))+((IntKind.wrap .u64 ((Go.bits .and .u64 x_ 4294967295)*(Go.bits .and .u64 y 4294967295))) / 2 ^ min 32 (IntKind.bits .u64)))) 4294967295)+(IntKind.wrap .u64 ((Go.bits .and .u64 x_ 4294967295)*(y / 2 ^ min 32 (IntKind.bits .u64)))))) / 2 ^ min 32 (IntKind.bits .u64))))) rfl<|Rg_nil<|Wp_seq<|Wp_region<|Mve (Value.int .u64 x_) rfl<|Mve (Value.int .u64 y) rfl<|Rop<|op_mulw rfl rfl<|Asg (Value.int .u64 (IntKind.wrap .u64 (x_*y))) rfl<|Rg_nil<|Wp_ret<|⟨_,Clo,[(Value.int .u64 (IntKind.wrap .u64 ((IntKind.wrap .u64 ((IntKind.wrap .u64 ((x_ / 2 ^ min 32 (IntKind.bits .u64))*(y / 2 ^ min 32 (IntKind.bits .u64))))+((IntKind.wrap .u64 ((IntKind.wrap .u64 ((x_ / 2 ^ min 32 (IntKind.bits .u64))*(Go.bits .and .u64 y 4294967295)))+((IntKind.wrap .u64 ((Go.bits .and .u64 x_ 4294967295)*(Go.bits .and .u64 y 4294967295))) / 2 ^ min 32 (IntKind.bits .u64)))) / 2 ^ min 32 (IntKind.bits .u64))))+((IntKind.wrap .u64 ((Go.bits .and .u64 (IntKind.wrap .u64 ((IntKind.wrap .u64 ((x_ / 2 ^ min 32 (IntKind.bits .u64))*(Go.bits .and .u64 y 4294967295)))+((IntKind.wrap .u64 ((Go.bits .and .u64 x_ 4294967295)*(Go.bits .and .u64 y 4294967295))) / 2 ^ min 32 (IntKind.bits .u64)))) 4294967295)+(IntKind.wrap .u64 ((Go.bits .and .u64 x_ 4294967295)*(y / 2 ^ min 32 (IntKind.bits .u64)))))) / 2 ^ min 32 (IntKind.bits .u64))))),(Value.int .u64 (IntKind.wrap .u64 (x_*y)))],⟨rfl,rfl,trivial⟩,hs.ext,?_⟩
 exact Vr.eq (a:=vT2 (vI .u64) (vI .u64)) (x:=((IntKind.wrap .u64 ((IntKind.wrap .u64 ((IntKind.wrap .u64 ((x_ / 2 ^ min 32 (IntKind.bits .u64))*(y / 2 ^ min 32 (IntKind.bits .u64))))+((IntKind.wrap .u64 ((IntKind.wrap .u64 ((x_ / 2 ^ min 32 (IntKind.bits .u64))*(Go.bits .and .u64 y 4294967295)))+((IntKind.wrap .u64 ((Go.bits .and .u64 x_ 4294967295)*(Go.bits .and .u64 y 4294967295))) / 2 ^ min 32 (IntKind.bits .u64)))) / 2 ^ min 32 (IntKind.bits .u64))))+((IntKind.wrap .u64 ((Go.bits .and .u64 (IntKind.wrap .u64 ((IntKind.wrap .u64 ((x_ / 2 ^ min 32 (IntKind.bits .u64))*(Go.bits .and .u64 y 4294967295)))+((IntKind.wrap .u64 ((Go.bits .and .u64 x_ 4294967295)*(Go.bits .and .u64 y 4294967295))) / 2 ^ min 32 (IntKind.bits .u64)))) 4294967295)+(IntKind.wrap .u64 ((Go.bits .and .u64 x_ 4294967295)*(y / 2 ^ min 32 (IntKind.bits .u64)))))) / 2 ^ min 32 (IntKind.bits .u64)))),(IntKind.wrap .u64 (x_*y)))) (mkT2 ⟨rfl,(inK_wrap .u64 _)⟩ ⟨rfl,(inK_wrap .u64 _)⟩) (oi hm)

def m78_bits_Mul (x_:Int) (y:Int):Option (Int × Int):=
 (m86_bits_Mul64 x_ y).bind fun mul64_1=>
 some (mul64_1.1,mul64_1.2)

theorem c78_bits_Mul {w:World} {O:List Nat} {x_:Int} {y:Int} (hO:∀k∈O,k<w.heap.size) (Ra:InK .u64 x_) (Rb:InK .u64 y) {x:Int × Int} (hm:m78_bits_Mul x_ y=some x):
 Ok Try.prog 78 [(Value.int .u64 x_),(Value.int .u64 y)] w O (vT2 (vI .u64) (vI .u64)) x:=by
 unfold m78_bits_Mul at hm
 refine Fn_of_Wp (n:=30) (xs:=[.tmp 4,.tmp 5]) Try.func78 rfl Try.ntmps78 Try.results78 rfl ?_
 have hs:=St.start hO
 refine Wp_seq<|Wp_region<|Asg (Value.int .u64 0) rfl<|Asg (Value.int .u64 0) rfl<|Rg_nil<|Wp_seq<|Wp_cond_f rfl<|Wp_skip<|Wp_seq<|Wp_region<|Mve (Value.int .u64 x_) rfl<|Mve (Value.int .u64 y) rfl ?_
 obtain⟨mul64_1,hv1,hm⟩:=bd hm
 refine Rop<|op_callE hs Try.call86 (c86_bits_Mul64 (x_:=x_) (y:=y) hs.ltw Ra Rb hv1) rfl ?_
 rintro v2 w3 p7 hs6 h5
 obtain⟨v8,v9,rfl,h10,h11⟩:=h5
 obtain⟨rfl,Rc⟩:=h10
 obtain⟨rfl,Rd⟩:=h11
 refine Mve (Value.tuple [(Value.int .u64 mul64_1.1),(Value.int .u64 mul64_1.2)].toArray) rfl<|Rop<|op_extract (v:=(Value.int .u64 mul64_1.1)) rfl rfl<|Rop<|op_extract (v:=(Value.int .u64 mul64_1.2)) rfl rfl<|Asg (Value.int .u64 mul64_1.1) rfl<|Asg (Value.int .u64 mul64_1.2) rfl<|Rg_nil<|Wp_seq<|Wp_region<|Mve (Value.int .u64 mul64_1.1) rfl<|Mve (Value.int .u64 mul64_1.2) rfl<|Asg (Value.int .u64 mul64_1.1) rfl<|Asg (Value.int .u64 mul64_1.2) rfl<|Rg_nil<|Wp_ret<|⟨_,Clo,[(Value.int .u64 mul64_1.1),(Value.int .u64 mul64_1.2)],⟨rfl,rfl,trivial⟩,hs6.ext,?_⟩
 exact Vr.eq (a:=vT2 (vI .u64) (vI .u64)) (x:=(mul64_1.1,mul64_1.2)) (mkT2 ⟨rfl,Rc⟩ ⟨rfl,Rd⟩) (oi hm)

abbrev q53_0:List Nat:=[7,8,34,35,36,37,38,39,40,41,42,43,44,45,46]

def m53_slices_Repeatint_int__B0 (sf42:(List Int)→Int→Option (List Int)) (newslice_1:List Int) (n_1:Int):Option (List Int):=
 bif (decide (n_1<(newslice_1.length:Int))) then
  ck ((0:Int)≤n_1∧n_1<(newslice_1.length:Int)∧(newslice_1.length:Int)≤(newslice_1.length:Int))<|
  ck ((0:Int)≤(0:Int)∧(0:Int)<n_1∧n_1≤(newslice_1.length:Int))<|
  ck (n_1.toNat<newslice_1.length)<|
  sf42 (newslice_1.take n_1.toNat++(((newslice_1.drop 0).take (n_1.toNat - 0)).take (newslice_1.length - n_1.toNat)++(newslice_1.drop n_1.toNat).drop (min ((newslice_1.drop 0).take (n_1.toNat - 0)).length (newslice_1.length - n_1.toNat)))) (IntKind.wrap .i64 (n_1+((min ((newslice_1.drop 0).take (n_1.toNat - 0)).length (newslice_1.length - n_1.toNat):Nat):Int)))
 else
  some newslice_1

def m53_slices_Repeatint_int_ (x_:List Int) (count:Int):Option (List Int):=
 bif (decide (count<0)) then
  none
 else
  (m78_bits_Mul (IntKind.wrap .u64 (x_.length:Int)) (IntKind.wrap .u64 count)).bind fun mul_1=>
  jn (fun(v_1:Bool)=>
   bif v_1 then
    none
   else
    ck ((0:Int)≤(IntKind.wrap .i64 mul_1.2)∧(IntKind.wrap .i64 mul_1.2)≤(IntKind.wrap .i64 mul_1.2)∧(8:Int)*(IntKind.wrap .i64 mul_1.2)≤281474976710656∧(IntKind.wrap .i64 mul_1.2)≤281474976710656)<|
    loop2 m53_slices_Repeatint_int__B0 1000000 (x_.take (List.replicate (IntKind.wrap .i64 mul_1.2).toNat (0:Int)).length++(List.replicate (IntKind.wrap .i64 mul_1.2).toNat (0:Int)).drop x_.length) ((min x_.length (List.replicate (IntKind.wrap .i64 mul_1.2).toNat (0:Int)).length:Nat):Int))
  (fun k18=>
   bif (decide (0<mul_1.1)) then
    k18 true
   else
    k18 (decide (9223372036854775807<mul_1.2)))

theorem g53_slices_Repeatint_int_ {w:World} {O:List Nat} {x_:List Int} {count:Int} {Aa:Option Addr} {Ca:Nat} (hO:∀k∈O,k<w.heap.size) (Fa:SlR (rInt .i64) w O Aa Ca x_) (Ra:InK .i64 count) {x:(List Int)} (hm:m53_slices_Repeatint_int_ x_ count=some x):
 OkG Try.prog 53 [Sl Aa x_ Ca,Iv count] w O (rInt .i64) 3 x:=by
 unfold m53_slices_Repeatint_int_ at hm
 refine Fn_of_Wp (n:=48) (xs:=[.tmp 4]) Try.func53 rfl Try.ntmps53 Try.results53 rfl ?_
 have hs:=St.start hO
 refine Wp_seq<|Wp_region<|Asg (Value.slice none 0 0) rfl<|Rg_nil<|Wp_seq<|Wp_seq<|Wp_region<|Mve (Iv count) rfl<|Rop<|op_lss rfl rfl<|Rg_nil<|Wp_condM hm rfl (fun hc1 hm=>?_) (fun hc1 hm=>?_)
 refine Wp_region ?_
 cases hm
 refine Wp_skip<|Wp_seq<|Wp_region<|Mve (Sl Aa x_ Ca) rfl<|Rop<|op_len Try.underlying31 rfl ?_
 have rl2:=inK_len Fa
 refine Rop<|op_conv Try.underlying3 Try.underlying123 rfl<|Mve (Iv count) rfl<|Rop<|op_conv Try.underlying3 Try.underlying123 rfl ?_
 obtain⟨mul_1,hv3,hm⟩:=bd hm
 refine Rop<|op_callE hs Try.call78 (c78_bits_Mul (x_:=(IntKind.wrap .u64 (x_.length:Int))) (y:=(IntKind.wrap .u64 count)) hs.ltw (inK_wrap .u64 _) (inK_wrap .u64 _) hv3) rfl ?_
 rintro v4 w5 p9 hs8 h7
 obtain⟨v10,v11,rfl,h12,h13⟩:=h7
 obtain⟨rfl,Rb⟩:=h12
 obtain⟨rfl,Rc⟩:=h13
 refine Mve (Value.tuple [(Value.int .u64 mul_1.1),(Value.int .u64 mul_1.2)].toArray) rfl<|Rop<|op_extract (v:=(Value.int .u64 mul_1.1)) rfl rfl<|Rop<|op_extract (v:=(Value.int .u64 mul_1.2)) rfl rfl<|Asg (Value.int .u64 mul_1.1) rfl<|Asg (Value.int .u64 mul_1.2) rfl<|Rg_nil<|Wp_seq<|Wr [] [(0,Sl Aa x_ Ca),(5,(Value.int .u64 mul_1.1)),(6,(Value.int .u64 mul_1.2))] fun ξ16=>?_
 obtain⟨k18,hk19,hm⟩:=jn_elim hm
 refine Wp_seqJ [21,22,23,24,25,26] (fun fr w'=>∃(v_1:Bool) (Ebs:Ents),Ebs=[]∧fr [] [(26,Bo v_1)]∧hs8.S (ks Ebs O) w'∧St ⟨w,[],[]⟩ O w' Ebs∧k18 v_1=some x) ?_ ?_
 rintro ρ25 w21 ⟨v_1,_,rfl,hfr24,hst23,hs22,hm⟩
 replace hm:=jnE1 hk19 hm
 rw [hfr24.eq];clear hfr24
 refine Wp_condM hm rfl (fun hc26 hm=>?_) (fun hc26 hm=>?_)
 refine Wp_region ?_
 cases hm
 refine Wp_skip<|Wp_seq<|Wp_region<|Mve (Value.int .u64 mul_1.2) rfl<|Rop<|op_conv Try.underlying123 Try.underlying3 rfl ?_
 obtain⟨hc27,hm⟩:=ck_some hm
 refine Rop<|op_makeSliceI (q:=(rInt .i64)) (v:=Iv 0) (x0:=(0:Int)) ty31 ty3 hs22 rfl rfl hc27 rfl (fun _ _=>(mk_int (show InK .i64 0 from by decide))) ?_
 intro b28 w29 hx33 p30 hs31 f32
 clear hs22
 refine Asg (Sl (some ⟨b28,0,none⟩) (List.replicate (IntKind.wrap .i64 mul_1.2).toNat (0:Int)) ((IntKind.wrap .i64 mul_1.2).toNat)) rfl<|Rg_nil<|Wp_seq<|Wp_region<|Mve (Sl (some ⟨b28,0,none⟩) (List.replicate (IntKind.wrap .i64 mul_1.2).toNat (0:Int)) ((IntKind.wrap .i64 mul_1.2).toNat)) rfl<|Mve (Sl Aa x_ Ca) rfl ?_
 replace Fa:=Fa.step (p9.trans (hst23.trans p30))
 refine Rop<|op_copyG (p:=(rInt .i64)) (i:=0) ty31 ty3 rfl hs31 rfl rfl f32 rfl Fa (.inr (by simp)) ?_
 intro o38 w35 p36 hs37 f39
 clear hs31
 refine Asg (Iv ((min x_.length (List.replicate (IntKind.wrap .i64 mul_1.2).toNat (0:Int)).length:Nat):Int)) rfl<|Rg_nil<|Wp_seq<|Wp_block ?_
 replace Fa:=Fa.step p36
 refine Wp_loopM q53_0 (fun m fr w'=>∃(newslice_1:List Int) (n_1:Int) (Ab:Option Addr) (Cb:Nat) (k_g40:Option Nat) (o_g40:Obj) (Ebs:Ents),Ebs=[(k_g40,o_g40)]∧fr [] [(7,Sl Ab newslice_1 Cb),(8,Iv n_1)]∧hs37.S (ks Ebs O) w'∧St ⟨w,[],[]⟩ O w' Ebs∧Gs (rInt .i64) 3 w' (ks Ebs O) Ab Cb newslice_1 k_g40 o_g40∧InK .i64 n_1∧loop2 m53_slices_Repeatint_int__B0 m newslice_1 n_1=some x) 1000000 ⟨x_.take (List.replicate (IntKind.wrap .i64 mul_1.2).toNat (0:Int)).length++(List.replicate (IntKind.wrap .i64 mul_1.2).toNat (0:Int)).drop x_.length,((min x_.length (List.replicate (IntKind.wrap .i64 mul_1.2).toNat (0:Int)).length:Nat):Int),some ⟨b28,0,none⟩,(IntKind.wrap .i64 mul_1.2).toNat,some b28,o38,_,rfl,Frm.of ⟨eqlenV (show(List.replicate (IntKind.wrap .i64 mul_1.2).toNat (0:Int)).length=(x_.take (List.replicate (IntKind.wrap .i64 mul_1.2).toNat (0:Int)).length++(List.replicate (IntKind.wrap .i64 mul_1.2).toNat (0:Int)).drop x_.length).length from by first |(simp;done) |(simp;omega)),rfl,trivial⟩,Step.refl _ _,hs37,f39,inK_minlen Fa,hm⟩ ?_ ?_
 rintro _ _ ⟨_,_,_,_,_,_,_,_,_,_,_,_,_,hm⟩;exact loop2_z hm
 rintro m45 K44 hK44 ρ50 w46 ⟨newslice_1,n_1,Ab,Cb,k_g40,o_g40,_,rfl,hfr49,hst48,hs47,Fb,Rd,hm⟩
 obtain⟨sf42,hsf43,hm⟩:=loop2_s hm;unfold m53_slices_Repeatint_int__B0 at hm
 rw [hfr49.eq];clear hfr49
 have ch51:=hst48
 refine Wp_seq<|Wp_seq ?_
 clear Fa f39
 refine Wp_region<|Mve (Iv n_1) rfl<|Mve (Sl Ab newslice_1 Cb) rfl<|Rop<|op_len Try.underlying31 rfl ?_
 have rl52:=inK_lenG Fb
 refine Rop<|op_lss rfl rfl<|Rg_nil<|Wp_condM hm rfl (fun hc53 hm=>?_) (fun hc53 hm=>?_)
 refine Wp_skip<|Wp_block<|Wp_drawR (g0:=[]) (m:=7) (fl:=[0]) (TS_inv hs47) rfl (.inl rfl) rfl (by decide+kernel) ?_  -- 9
 refine Dw_p (Iv n_1) (fun _ _ _ hi ht=>op_move (v:=Iv n_1) (ht 8 rfl)<|Gz hi)<|Dw_p (Sl Ab newslice_1 Cb) (fun _ _ _ hi ht=>op_move (v:=Sl Ab newslice_1 Cb) (ht 7 rfl)<|Gz hi)<|Dw_p (Iv n_1) (fun _ _ _ hi ht=>op_move (v:=Iv n_1) (ht 8 rfl)<|Gz hi) ?_
 obtain⟨hc66,hm⟩:=ck_some hm
 obtain⟨b67,rfl,rfl⟩:=Fb.at_ (by omega)
 refine Dw_eq (Value.slice (some ⟨b67,if Cb=n_1.toNat then 0 else 0+n_1.toNat*1,none⟩) (newslice_1.length - n_1.toNat) (Cb - n_1.toNat)) (fun ρ63 w64 g hle hi ht=>?_) ?_
 obtain⟨-,hst,-⟩:=hle
 replace Fb:=Fb.step hst
 refine StepOp_plain (op_sliceO (l:=n_1.toNat) (h:=newslice_1.length) (m:=Cb) ty31 ty3 (ht 39 rfl) (bndI (ht 40 rfl) (by omega)) rfl rfl (by decide) (by omega) (by have:=Fb.le;omega) (Nat.le_refl _) ?_)
 exact Gz hi
 refine Dw_p (Sl (some ⟨b67,0,none⟩) newslice_1 Cb) (fun _ _ _ hi ht=>op_move (v:=Sl (some ⟨b67,0,none⟩) newslice_1 Cb) (ht 7 rfl)<|Gz hi)<|Dw_p (Iv n_1) (fun _ _ _ hi ht=>op_move (v:=Iv n_1) (ht 8 rfl)<|Gz hi) ?_
 obtain⟨hc77,hm⟩:=ck_some hm
 refine Dw_eq (Value.slice (some ⟨b67,if Cb=0 then 0 else 0+0*1,none⟩) (n_1.toNat - 0) (Cb - 0)) (fun ρ74 w75 g hle hi ht=>?_) ?_
 obtain⟨-,hst,-⟩:=hle
 replace Fb:=Fb.step hst
 refine StepOp_plain (op_sliceO (l:=0) (h:=n_1.toNat) (m:=Cb) ty31 ty3 (ht 42 rfl) rfl (bndI (ht 43 rfl) (by omega)) rfl (by decide) (by omega) (by have:=Fb.le;omega) (Nat.le_refl _) ?_)
 exact Gz hi
 refine Dw_nil fun w82 g83 hl84 hi85=>?_
 obtain⟨-,hst86,-⟩:=hl84
 obtain⟨hs88,p87⟩:=Step.nx hi85
 rintro _ rfl _ rfl _ rfl _ rfl _ rfl _ rfl _ rfl
 have p89:=hs47.to hs88 (hst86.trans p87)
 clear hs47
 obtain⟨hc90,hm⟩:=ck_some hm
 replace Fb:=Fb.step p89
 obtain⟨ns91,he92,hr93⟩:=Gs.win (i:=0) (l:=0) (h:=n_1.toNat) rfl hs88 rfl Fb (by omega) (by omega)
 refine Rop (op_copyW (p:=(rInt .i64)) (xs:=newslice_1) (i:=0) (l:=n_1.toNat) (h:=newslice_1.length) ty31 ty3 rfl hs88 rfl rfl Fb (eqlen rfl (show n_1.toNat - 0=((newslice_1.drop 0).take (n_1.toNat - 0)).length from by simp;omega)) he92 hr93 hc90 (by omega) ?_)
 intro o97 w94 p95 hs96 f98
 clear hs88
 have r99:InK .i64 ((min ((newslice_1.drop 0).take (n_1.toNat - 0)).length (newslice_1.length - n_1.toNat):Nat):Int):=inK_of (by have:=f98.le;have hm:maxLen=9223372036854775807:=rfl;simp at this ⊢;omega)
 refine Rop<|op_addw rfl rfl<|Asg (Iv (IntKind.wrap .i64 (n_1+((min ((newslice_1.drop 0).take (n_1.toNat - 0)).length (newslice_1.length - n_1.toNat):Nat):Int)))) rfl<|Rg_nil ?_
 replace ch51:=ch51.trans (p89.trans p95)
 exact hK44 _ _ ⟨newslice_1.take n_1.toNat++(((newslice_1.drop 0).take (n_1.toNat - 0)).take (newslice_1.length - n_1.toNat)++(newslice_1.drop n_1.toNat).drop (min ((newslice_1.drop 0).take (n_1.toNat - 0)).length (newslice_1.length - n_1.toNat))),(IntKind.wrap .i64 (n_1+((min ((newslice_1.drop 0).take (n_1.toNat - 0)).length (newslice_1.length - n_1.toNat):Nat):Int))),some ⟨b67,0,none⟩,Cb,some b67,o97,_,rfl,Frm.of ⟨eqlenV (show newslice_1.length=(newslice_1.take n_1.toNat++(((newslice_1.drop 0).take (n_1.toNat - 0)).take (newslice_1.length - n_1.toNat)++(newslice_1.drop n_1.toNat).drop (min ((newslice_1.drop 0).take (n_1.toNat - 0)).length (newslice_1.length - n_1.toNat)))).length from by first |(simp;done) |(simp;omega)),rfl,trivial⟩,ch51,hs96,f98,(inK_wrap .i64 _),jnE2 hsf43 hm⟩
 refine Wp_exit<|Wp_seq<|Wp_region<|Mve (Sl Ab newslice_1 Cb) rfl<|Asg (Sl Ab newslice_1 Cb) rfl<|Rg_nil<|Wp_ret<|⟨_,Clo,[Sl Ab newslice_1 Cb],⟨rfl,trivial⟩,hs47.ext,?_⟩
 exact OkG.mk (i:=0) hs47 rfl Fb (oi hm)
 intro K20 hK20
 have ch100:=hs8.stepR
 refine Wp_region<|Mve (Value.int .u64 mul_1.1) rfl<|Rop<|op_gtr rfl rfl<|Mve (Bo (decide (0<mul_1.1))) rfl<|Rg_caseM hm (fun hg101 hm=>?_) (fun hg101 hm=>?_)
 exact Rg_opx rfl (asB_ne rfl rfl) rfl<|Rg_opx rfl (asB_ne rfl rfl) rfl<|Pkt (Bo true) rfl rfl<|Rg_nil<|hK20 _ _ ⟨true,_,rfl,Frm.of ⟨rfl,trivial⟩,ch100,hs8,hm⟩
 exact Rog rfl rfl<|op_move (v:=(Value.int .u64 mul_1.2)) rfl<|Rog rfl rfl<|op_gtr rfl rfl<|Pkf (Bo (decide (9223372036854775807<mul_1.2))) rfl rfl<|Rg_nil<|hK20 _ _ ⟨decide (9223372036854775807<mul_1.2),_,rfl,Frm.of ⟨rfl,trivial⟩,ch100,hs8,hm⟩
abbrev q20_2:List Nat:=[23,24,25,26,27,28,29,30,31,32,33,34,35]

abbrev q20_1:List Nat:=[7,39,40,41,42,43,44,45,46,47,48,49,50,51,52,53,54,55,56,57,58,59,60,61,62]

abbrev q20_0:List Nat:=[9,66,67,68,69,70,71,72,73,74,75,76,77,78,79,80]

def m20_reason_Part_B2 (p:XProblem) (r_:XReason) (rows_2:List (List Int)) (sf318:Int→(List XVariable)→Option (XProblem × Int)) (v_3:Int) (v_4:List XVariable):Option (XProblem × Int):=
 bif (decide (v_3<(r_.variables.length:Int))) then
  ck ((0:Int)≤v_3∧v_3<(r_.variables.length:Int))<|
  ck ((0:Int)≤(r_.variables.getD v_3.toNat default)∧(r_.variables.getD v_3.toNat default)<(p.variables.length:Int))<|
  ck ((v_4.length+[p.variables.getD (r_.variables.getD v_3.toNat default).toNat default].length)*64≤140737488355328)<|
  sf318 (IntKind.wrap .i64 (v_3+1)) (v_4++[p.variables.getD (r_.variables.getD v_3.toNat default).toNat default])
 else
  some ((⟨p.cells,rows_2,v_4⟩:XProblem),0)

def m20_reason_Part_B1 (p:XProblem) (r_:XReason) (sf167:Int→(List (List Int))→Option (XProblem × Int)) (v_2:Int) (rows_2:List (List Int)):Option (XProblem × Int):=
 bif (decide (v_2<(r_.places.length:Int))) then
  ck ((0:Int)≤v_2∧v_2<(r_.places.length:Int))<|
  ck ((0:Int)≤((r_.places.getD v_2.toNat default).leaf)∧((r_.places.getD v_2.toNat default).leaf)<(rows_2.length:Int))<|
  ck ((0:Int)≤((r_.places.getD v_2.toNat default).leaf)∧((r_.places.getD v_2.toNat default).leaf)<(p.capacity.length:Int))<|
  ck ((0:Int)≤((r_.places.getD v_2.toNat default).cell)∧((r_.places.getD v_2.toNat default).cell)<((p.capacity.getD ((r_.places.getD v_2.toNat default).leaf).toNat default).length:Int))<|
  ck ((0:Int)≤((r_.places.getD v_2.toNat default).cell)∧((r_.places.getD v_2.toNat default).cell)<((rows_2.getD ((r_.places.getD v_2.toNat default).leaf).toNat default).length:Int))<|
  sf167 (IntKind.wrap .i64 (v_2+1)) (rows_2.set ((r_.places.getD v_2.toNat default).leaf).toNat ((rows_2.getD ((r_.places.getD v_2.toNat default).leaf).toNat default).set ((r_.places.getD v_2.toNat default).cell).toNat ((p.capacity.getD ((r_.places.getD v_2.toNat default).leaf).toNat default).getD ((r_.places.getD v_2.toNat default).cell).toNat default)))
 else
  loop2 (m20_reason_Part_B2 p r_ rows_2) (((r_.variables.length:Int) - 0).toNat+1) 0 ([]:List XVariable)

def m20_reason_Part_B0 (p:XProblem) (r_:XReason) (sf40:Int→(List (List Int))→Option (XProblem × Int)) (v_1:Int) (rows_1:List (List Int)):Option (XProblem × Int):=
 bif (decide (v_1<(p.capacity.length:Int))) then
  (m53_slices_Repeatint_int_ [4096] (p.cells.length:Int)).bind fun repeat_1=>
  ck ((rows_1.length+1)*24≤140737488355328)<|
  sf40 (IntKind.wrap .i64 (v_1+1)) (rows_1++[repeat_1])
 else
  loop2 (m20_reason_Part_B1 p r_) (((r_.places.length:Int) - 0).toNat+1) 0 rows_1

def m20_reason_Part (p:XProblem) (r_:XReason):Option (XProblem × Int):=
 (m23_reason_Check p r_).bind fun check_1=>
 bif (decide (check_1≠0)) then
  some ((⟨([]:List XCell),([]:List (List Int)),([]:List XVariable)⟩:XProblem),check_1)
 else
  loop2 (m20_reason_Part_B0 p r_) (((p.capacity.length:Int) - 0).toNat+1) 0 ([]:List (List Int))

theorem c20_reason_Part {w:World} {O:List Nat} {p:XProblem} {r_:XReason} {Aa:Option Addr} {Ca:Nat} {Ab:Option Addr} {Cb:Nat} {Ac:Option Addr} {Cc:Nat} {Ad:Option Addr} {Cd:Nat} {Ae:Option Addr} {Ce:Nat} (hO:∀k∈O,k<w.heap.size) (Fa:SlR rXCell w O Aa Ca p.cells) (Fb:SlR (rSl (rInt .i64)) w O Ab Cb p.capacity) (Fc:SlR rXVariable w O Ac Cc p.variables) (Fd:SlR (rInt .i64) w O Ad Cd r_.variables) (Fe:SlR rXPlace w O Ae Ce r_.places) {x:XProblem × Int} (hm:m20_reason_Part p r_=some x):
 Ok Try.prog 20 [Value.agg [Sl Aa p.cells Ca,Sl Ab p.capacity Cb,Sl Ac p.variables Cc].toArray,Value.agg [Sl Ad r_.variables Cd,Sl Ae r_.places Ce].toArray] w O (vT2 (vA rXProblem) (vI .i64)) x:=by
 unfold m20_reason_Part at hm
 refine Fn_of_Wp (n:=82) (xs:=[.cell 4 26,.tmp 5]) Try.func20 rfl Try.ntmps20 Try.results20 rfl ?_
 have hs:=St.start hO
 refine Wp_seq<|Wp_region<|Rop<|op_box (cs:=[Sl Aa p.cells Ca,Sl Ab p.capacity Cb,Sl Ac p.variables Cc]) hs rfl rfl ?_
 intro b1 w2 _ p3 hs4
 refine Rop<|op_box (cs:=[Sl Ad r_.variables Cd,Sl Ae r_.places Ce]) hs4 rfl rfl ?_
 intro b6 w7 _ p8 hs9
 clear hs4
 refine Rop<|op_alloc ty26 hs9 ?_
 intro b11 w12 _ p13 hs14
 clear hs9
 refine Asg (Iv 0) rfl<|Rg_nil<|Wp_seq<|Wp_seq<|Wp_region<|Rop<|op_ldA 2 ty26 hs14 rfl rfl rfl<|Rop<|op_ldA 1 ty34 hs14 rfl rfl rfl ?_
 obtain⟨check_1,hv16,hm⟩:=bd hm
 have p22:=(p3.trans (p8.trans p13))
 replace Fb:=Fb.step p22;replace Fa:=Fa.step p22;replace Fc:=Fc.step p22;replace Fe:=Fe.step p22;replace Fd:=Fd.step p22
 refine Rop<|op_callE hs14 Try.call23 (c23_reason_Check (p:=p) (r_:=r_) hs14.ltw Fa Fb Fc Fd Fe hv16) rfl ?_
 rintro v17 w18 p23 hs21 h20
 clear hs14
 obtain⟨rfl,Ra⟩:=h20
 refine Asg (Iv check_1) rfl<|Rg_nil<|Wp_seq<|Wp_region<|Mve (Iv check_1) rfl<|Rop<|op_neq rfl rfl<|Rg_nil<|Wp_condM hm rfl (fun hc25 hm=>?_) (fun hc25 hm=>?_)
 refine Wp_seq ?_
 obtain⟨hs26,p27⟩:=hs21.sub (bs':=(some b11,Oc [Value.slice none 0 0,Value.slice none 0 0,Value.slice none 0 0] 26)::([]:Ents)) (.cons_cons _ (.cons _ (.cons _ (List.Sublist.refl _))))
 clear Fa Fb Fc Fd Fe
 clear hs21
 refine Wp_region<|Rop<|op_ldA 0 ty26 hs26 rfl rfl rfl<|Mve (Iv check_1) rfl<|Rg_op_<|op_stA .z ty26 hs26 rfl rfl rfl rfl rfl ?_
 intro w28 p29 hs30
 clear hs26
 refine Asg (Iv check_1) rfl<|Rg_nil<|Wp_ret<|⟨_,Clo,[Value.agg [Value.slice none 0 0,Value.slice none 0 0,Value.slice none 0 0].toArray,Iv check_1],⟨resA (cs:=[Value.slice none 0 0,Value.slice none 0 0,Value.slice none 0 0]) (vs:=[Value.slice none 0 0,Value.slice none 0 0,Value.slice none 0 0]) ty26 (i:=0) hs30 rfl rfl rfl rfl,rfl,trivial⟩,hs30.ext,?_⟩
 exact Vr.eq (a:=vT2 (vA rXProblem) (vI .i64)) (x:=((⟨([]:List XCell),([]:List (List Int)),([]:List XVariable)⟩:XProblem),check_1)) (mkT2 (mkA (mkVia (mk_pair (mk_sl SlR.nil_) (mk_pair (mk_sl SlR.nil_) (mk_sl SlR.nil_))))) ⟨rfl,Ra⟩) (oi hm)
 refine Wp_skip<|Wp_seq<|Wp_region<|Rop<|op_fA 0 ty26 rfl ty22 rfl rfl<|Rop<|op_ld 2 ty22 hs21 rfl rfl rfl<|Rop<|op_fA 0 ty26 rfl ty22 rfl rfl<|Rg_op_<|op_stC (Sl Aa p.cells Ca) (cs':=[Sl Aa p.cells Ca,Value.slice none 0 0,Value.slice none 0 0]) .z ty22 hs21 rfl rfl rfl (le_lit rfl) rfl rfl ?_
 intro w31 p32 hs33
 clear hs21
 refine Rg_nil<|Wp_seq<|Wp_seq<|Wp_region<|Rop<|op_fA 1 ty26 rfl ty23 rfl rfl<|Rop<|op_ld 2 ty23 hs33 rfl rfl rfl<|Rop<|op_len Try.underlying23 rfl ?_
 have p35:=(p23.trans p32)
 replace Fb:=Fb.step p35
 have rl34:=inK_len Fb
 refine Mve (Iv 0) rfl<|Rg_nil<|Wp_block<|Wr [] [(2,Pt b1 0),(3,Pt b6 0),(4,Pt b11 0),(22,Iv (p.capacity.length:Int)),(23,Iv 0)] fun ξ39=>?_
 have hs44:=hs33.ghost (Obj.cells #[] 31)
 refine Wp_loopM q20_2 (fun m fr w'=>∃(v_1:Int) (rows_1:List (List Int)) (Af:Option Addr) (Cf:Nat) (k_g38:Option Nat) (o_g38:Obj) (hds_g38:List Hd) (R_g38:Ents) (Ebs:Ents),Ebs=((k_g38,o_g38)::(some b11,Oc [Sl Aa p.cells Ca,Value.slice Af hds_g38.length Cf,Value.slice none 0 0] 26)::(some b6,Oc [Sl Ad r_.variables Cd,Sl Ae r_.places Ce] 34)::(some b1,Oc [Sl Aa p.cells Ca,Sl Ab p.capacity Cb,Sl Ac p.variables Cc] 26)::R_g38)∧fr [] [(23,Iv v_1)]∧hs44.S (ks Ebs O) w'∧St ⟨w,[],[]⟩ O w' Ebs∧InK .i64 v_1∧Gs rHd 31 w' (ks Ebs O) Af Cf hds_g38 k_g38 o_g38∧Rows (rInt .i64) 3 w' (ks Ebs O) hds_g38 R_g38 rows_1∧hds_g38.length=rows_1.length∧loop2 (m20_reason_Part_B0 p r_) m v_1 rows_1=some x) (((p.capacity.length:Int) - 0).toNat+1) ⟨0,([]:List (List Int)),none,0,none,Obj.cells #[] 31,([]:List Hd),([]:Ents),_,rfl,Frm.of ⟨rfl,trivial⟩,Step.refl _ _,hs44,(show InK .i64 0 from by decide),Gs.nil_,Rows.nil_,rfl,hm⟩ ?_ ?_
 rintro _ _ ⟨_,_,_,_,_,_,_,_,_,_,_,_,_,_,_,_,_,hm⟩;exact loop2_z hm
 rintro m43 K42 hK42 ρ50 w46 ⟨v_1,rows_1,Af,Cf,k_g38,o_g38,hds_g38,R_g38,_,rfl,hfr49,hst48,hs47,Rb,Ff,fR_g38,lh_g38,hm⟩
 obtain⟨sf40,hsf41,hm⟩:=loop2_s hm;unfold m20_reason_Part_B0 at hm
 rw [hfr49.eq];clear hfr49
 have ch51:=hst48
 refine Wp_seq<|Wp_region<|Rop<|op_lss rfl rfl<|Rg_nil<|Wp_seq<|Wp_condM hm rfl (fun hc52 hm=>?_) (fun hc52 hm=>?_)
 refine Wp_skip<|Wp_seq<|Wp_block<|Wp_drawR (g0:=[]) (m:=8) (fl:=[]) (TS_inv hs47) rfl (.inl rfl) rfl (by decide+kernel) ?_  -- 7
 refine Dw_p (Pt b11 1) (fun _ _ _ hi ht=>op_fA 1 ty26 rfl ty23 (ht 4 rfl) rfl<|Gz hi)<|Dw_p (Value.slice Af hds_g38.length Cf) (fun _ _ _ hi ht=>op_ld 1 ty23 (Step.nx hi).1 (ht 25 rfl) rfl rfl<|Gz hi)<|Dw_op (VD _ _ (vC (rSl (rInt .i64))) [4096]) (VD.stab _ _) (fun ρ59 w60 g hle hi ht=>?_) ?_
 refine StepOp_plain (op_buildSlice (cs:=[Iv 4096]) (parts:=[(0,.const (.int .i64 4096))]) ty31 ty3 hi (by decide) (by simp only [List.map,(show ev _ (.const (.int .i64 4096))=.int .i64 4096 from rfl)];rfl) ?_)
 intro b62 w63 hx66 p64 hs65
 obtain⟨hs68,p69,f70⟩:=St.publish (q:=(rInt .i64)) (i:=0) (o:=0) (c:=1) (xs:=[4096]) hs65 rfl (show Els (rInt .i64) _ _ [Iv 4096] [4096] from⟨_,_,rfl,mk_int (show InK .i64 4096 from by decide),Els.nil⟩) (le_lit rfl) (le_lit rfl) (le_lit rfl)
 exact Goes.pub hi hs68 (Step.trans p64 p69) hx66 (show Vr.vd (vC (rSl (rInt .i64))) _ _ _ _ from mkC (mk_sl f70))
 refine Dw_p (Pt b1 0) (fun _ _ _ hi ht=>op_fA 0 ty26 rfl ty22 (ht 2 rfl) rfl<|Gz hi)<|Dw_p (Sl Aa p.cells Ca) (fun _ _ _ hi ht=>op_ld 3 ty22 (Step.nx hi).1 (ht 28 rfl) rfl rfl<|Gz hi)<|Dw_p (Iv (p.cells.length:Int)) (fun _ _ _ hi ht=>op_len Try.underlying22 (ht 29 rfl)<|Gz hi) ?_
 obtain⟨repeat_1,hv86,hm⟩:=bd hm
 have p98:=(p35.trans hst48)
 replace Fa:=Fa.step p98
 refine Dw_op (VGr O ((k_g38,o_g38)::(some b11,Oc [Sl Aa p.cells Ca,Value.slice Af hds_g38.length Cf,Value.slice none 0 0] 26)::(some b6,Oc [Sl Ad r_.variables Cd,Sl Ae r_.places Ce] 34)::(some b1,Oc [Sl Aa p.cells Ca,Sl Ab p.capacity Cb,Sl Ac p.variables Cc] 26)::R_g38) 6 (rInt .i64) 3 repeat_1) VGr.stab (fun ρ80 w81 g hle hi ht=>?_) ?_
 obtain⟨-,hst,-⟩:=hle
 replace Fa:=Fa.step hst
 have h83:Vr.vd (vC (rSl (rInt .i64))) _ _ _ _:=ht 27 rfl
 obtain⟨Ag,Cg,q84,Fg⟩:=un_sl h83
 refine StepOp_plain (op_call Try.call53 (g53_slices_Repeatint_int_ (O:=ks (ents g++((k_g38,o_g38)::(some b11,Oc [Sl Aa p.cells Ca,Value.slice Af hds_g38.length Cf,Value.slice none 0 0] 26)::(some b6,Oc [Sl Ad r_.variables Cd,Sl Ae r_.places Ce] 34)::(some b1,Oc [Sl Aa p.cells Ca,Sl Ab p.capacity Cb,Sl Ac p.variables Cc] 26)::R_g38)) O) (x_:=[4096]) (count:=(p.cells.length:Int)) hi.ltw Fg (inK_len Fa) hv86) (by simp only [List.map,Array.toList,(show ev _ (.tmp 27)=_ from q84),(show ev _ (.tmp 30)=_ from(ht 30 rfl))]<;> rfl) ?_)
 rintro _ w88 ⟨hx89,a92,c93,k94,o95,rfl,hk96,f97⟩;exact GoesG.call hi hx89 hk96 f97
 refine Dw_op (VHd O ((k_g38,o_g38)::(some b11,Oc [Sl Aa p.cells Ca,Value.slice Af hds_g38.length Cf,Value.slice none 0 0] 26)::(some b6,Oc [Sl Ad r_.variables Cd,Sl Ae r_.places Ce] 34)::(some b1,Oc [Sl Aa p.cells Ca,Sl Ab p.capacity Cb,Sl Ac p.variables Cc] 26)::R_g38) 6 7 (rInt .i64) 3 31 repeat_1) VHd.stab (fun ρ99 w100 g hle hi ht=>?_) ?_
 obtain⟨a102,c103,k104,o105,q106,hk107,f108⟩:=ht 31 rfl
 refine StepOp_plain (op_buildSlice (cs:=[Sl a102 repeat_1 c103]) (parts:=[(0,.tmp 31)]) ty23 ty31 hi (by decide) (by simp only [List.map,(show ev _ (.tmp 31)=_ from q106)];rfl) ?_)
 intro b109 w110 hx113 p111 hs112
 exact GoesG.hd hx113 p111 hs112 hk107 f108
 refine Dw_nil fun w119 g120 hl121 hi122=>?_
 obtain⟨-,hst123,-⟩:=hl121
 rintro _ ⟨b126,a127,c128,k129,o130,rfl,hb131,hk132,f133⟩ _ - _ rfl _ rfl _ rfl v136 h137
 replace h137:Vr.vd (vC (rSl (rInt .i64))) _ _ _ _:=h137
 obtain⟨Ah,Ch,rfl,Fh⟩:=un_sl h137
 rintro _ rfl _ rfl
 obtain⟨hs125,p124⟩:=Step.nxK2 hi122 hb131 hk132 (by decide)
 have p139:=hs47.to hs125 (hst123.trans p124)
 replace f133:=f133.step p124;replace Fh:=Fh.step p124;clear hs47
 obtain⟨hc140,hm⟩:=ck_some hm
 have hc141:(hds_g38.length+1)*24≤140737488355328:=by have h1:=hc140;have h2:hds_g38.length=rows_1.length:=lh_g38;omega
 replace Ff:=Ff.step p139
 refine Rop (op_append (q:=rHd) (i:=2) (xs:=hds_g38) (ys:=[((a127,repeat_1.length,c128):Hd)]) (news:=[Sl a127 repeat_1 c128]) ty23 ty31 rfl (by decide) hs125 rfl rfl Ff rfl (Src.owned' (len:=1) (hs125.get (i:=0) rfl) rfl) (show Els rHd _ _ [Sl a127 repeat_1 c128] [((a127,repeat_1.length,c128):Hd)] from⟨_,_,rfl,rfl,Els.nil⟩) hc141 (show hds_g38.length+1≤maxLen from by have:=hc141;simp only [maxLen];omega) ?_)
 intro a145 c146 k147 o148 w142 p143 hs144 f149
 clear hs125
 have hs150:=hs144.drop 0
 have p151:=(hs144.dropS 0)
 clear hs144
 have p156:=(p143.trans p151)
 replace f133:=f133.step p156
 have p157:=(p139.trans (p143.trans p151))
 replace fR_g38:=fR_g38.step p157
 have fR152:Rows (rInt .i64) 3 w142 (ks ((k129,o130)::(k147,o148)::(some b11,Oc [Sl Aa p.cells Ca,Value.slice Af hds_g38.length Cf,Value.slice none 0 0] 26)::(some b6,Oc [Sl Ad r_.variables Cd,Sl Ae r_.places Ce] 34)::(some b1,Oc [Sl Aa p.cells Ca,Sl Ab p.capacity Cb,Sl Ac p.variables Cc] 26)::R_g38) O) (hds_g38++[((a127,repeat_1.length,c128):Hd)]) (R_g38++[(k129,o130)]) (rows_1++[repeat_1]):=Rows.append fR_g38 f133 rfl
 obtain⟨hs153,p154⟩:St ⟨w,[],[]⟩ O w142 ((k147,o148)::(some b11,Oc [Sl Aa p.cells Ca,Value.slice Af hds_g38.length Cf,Value.slice none 0 0] 26)::(some b6,Oc [Sl Ad r_.variables Cd,Sl Ae r_.places Ce] 34)::(some b1,Oc [Sl Aa p.cells Ca,Sl Ab p.capacity Cb,Sl Ac p.variables Cc] 26)::(R_g38++[(k129,o130)]))∧Step (ks ((k129,o130)::(k147,o148)::(some b11,Oc [Sl Aa p.cells Ca,Value.slice Af hds_g38.length Cf,Value.slice none 0 0] 26)::(some b6,Oc [Sl Ad r_.variables Cd,Sl Ae r_.places Ce] 34)::(some b1,Oc [Sl Aa p.cells Ca,Sl Ab p.capacity Cb,Sl Ac p.variables Cc] 26)::R_g38) O) w142 (ks ((k147,o148)::(some b11,Oc [Sl Aa p.cells Ca,Value.slice Af hds_g38.length Cf,Value.slice none 0 0] 26)::(some b6,Oc [Sl Ad r_.variables Cd,Sl Ae r_.places Ce] 34)::(some b1,Oc [Sl Aa p.cells Ca,Sl Ab p.capacity Cb,Sl Ac p.variables Cc] 26)::(R_g38++[(k129,o130)])) O) w142:=St.toback (i:=0) hs150 rfl
 clear hs150
 replace fR152:=fR152.step p154
 have lh155:(hds_g38++[((a127,repeat_1.length,c128):Hd)]).length=(rows_1++[repeat_1]).length:=(Rows.lens fR152).1
 refine Rop<|op_fA 1 ty26 rfl ty23 rfl rfl<|Rg_op_<|op_stC (Value.slice a145 (hds_g38++[((a127,repeat_1.length,c128):Hd)]).length c146) (cs':=[Sl Aa p.cells Ca,Value.slice a145 (hds_g38++[((a127,repeat_1.length,c128):Hd)]).length c146,Value.slice none 0 0]) Put.p1 ty23 hs153 rfl rfl rfl (le_lit rfl) rfl rfl ?_
 intro w158 p159 hs160
 clear hs153
 refine Rg_nil ?_
 clear Fh
 refine Wp_region<|Rop<|op_addw rfl rfl<|Mve (Iv (IntKind.wrap .i64 (v_1+1))) rfl<|Rg_nil ?_
 have p161:=(p157.trans (p154.trans p159))
 replace ch51:=ch51.trans p161
 replace f149:=f149.step (p151.trans (p154.trans p159));replace fR152:=fR152.step p159
 exact hK42 _ _ ⟨(IntKind.wrap .i64 (v_1+1)),rows_1++[repeat_1],a145,c146,k147,o148,hds_g38++[((a127,repeat_1.length,c128):Hd)],R_g38++[(k129,o130)],_,rfl,Frm.of ⟨rfl,trivial⟩,ch51,hs160,(inK_wrap .i64 _),f149,fR152,lh155,jnE2 hsf41 hm⟩
 refine Wp_exit<|Wp_seq<|Wp_seq<|Wp_region<|Rop<|op_fA 1 ty34 rfl ty32 rfl rfl<|Rop<|op_ld 2 ty32 hs47 rfl rfl rfl<|Rop<|op_len Try.underlying32 rfl ?_
 have p163:=(p35.trans hst48)
 replace Fe:=Fe.step p163
 have rl162:=inK_len Fe
 refine Mve (Iv 0) rfl<|Rg_nil<|Wp_block<|Wr [] [(2,Pt b1 0),(3,Pt b6 0),(4,Pt b11 0),(37,Sl Ae r_.places Ce),(38,Iv (r_.places.length:Int)),(39,Iv 0)] fun ξ166=>Wp_loopM q20_1 (fun m fr w'=>∃(v_2:Int) (rows_2:List (List Int)) (Ai:Option Addr) (Ci:Nat) (k_g165:Option Nat) (o_g165:Obj) (hds_g165:List Hd) (R_g165:Ents) (Ebs:Ents),Ebs=((k_g165,o_g165)::(some b11,Oc [Sl Aa p.cells Ca,Value.slice Ai hds_g165.length Ci,Value.slice none 0 0] 26)::(some b6,Oc [Sl Ad r_.variables Cd,Sl Ae r_.places Ce] 34)::(some b1,Oc [Sl Aa p.cells Ca,Sl Ab p.capacity Cb,Sl Ac p.variables Cc] 26)::R_g165)∧fr [] [(39,Iv v_2)]∧hs47.S (ks Ebs O) w'∧St ⟨w,[],[]⟩ O w' Ebs∧InK .i64 v_2∧Gs rHd 31 w' (ks Ebs O) Ai Ci hds_g165 k_g165 o_g165∧Rows (rInt .i64) 3 w' (ks Ebs O) hds_g165 R_g165 rows_2∧hds_g165.length=rows_2.length∧loop2 (m20_reason_Part_B1 p r_) m v_2 rows_2=some x) (((r_.places.length:Int) - 0).toNat+1) ⟨0,rows_1,Af,Cf,k_g38,o_g38,hds_g38,R_g38,_,rfl,Frm.of ⟨rfl,trivial⟩,Step.refl _ _,hs47,(show InK .i64 0 from by decide),Ff,fR_g38,lh_g38,hm⟩ ?_ ?_
 rintro _ _ ⟨_,_,_,_,_,_,_,_,_,_,_,_,_,_,_,_,_,hm⟩;exact loop2_z hm
 rintro m170 K169 hK169 ρ175 w171 ⟨v_2,rows_2,Ai,Ci,k_g165,o_g165,hds_g165,R_g165,_,rfl,hfr174,hst173,hs172,Rc,Fi,fR_g165,lh_g165,hm⟩
 obtain⟨sf167,hsf168,hm⟩:=loop2_s hm;unfold m20_reason_Part_B1 at hm
 rw [hfr174.eq];clear hfr174
 have ch176:=hst173
 refine Wp_seq ?_
 clear Ff fR_g38
 refine Wp_region<|Rop<|op_lss rfl rfl<|Rg_nil<|Wp_seq<|Wp_condM hm rfl (fun hc177 hm=>?_) (fun hc177 hm=>?_)
 refine Wp_skip<|Wp_seq<|Wp_block<|Wp_seq<|Wp_region ?_
 obtain⟨hc178,hm⟩:=ck_some hm
 replace Fe:=Fe.step hst173
 refine Rop<|op_indexAddr (q:=rXPlace) ty32 ty45 rfl rfl Fe rfl hc178.1 hc178.2 ?_
 intro p179 f180
 refine Rop<|op_loadPA ty45 rfl f180 rfl ?_
 intro vs181 h182
 obtain⟨_,_,rfl,⟨rfl,Rd⟩,⟨rfl,Re⟩⟩:=h182
 refine Rop<|op_alloc ty45 hs172 ?_
 intro b184 w185 _ p186 hs187
 clear hs172
 refine Rg_op_<|op_stA .z ty45 hs187 rfl rfl rfl rfl rfl ?_
 intro w189 p190 hs191
 clear hs187
 refine Rg_nil ?_
 clear f180
 refine Wp_drawR (g0:=[]) (m:=18) (fl:=[]) (TS_inv hs191) rfl (.inl rfl) rfl (by decide+kernel) ?_  -- 12
 refine Dw_p (Pt b11 1) (fun _ _ _ hi ht=>op_fA 1 ty26 rfl ty23 (ht 4 rfl) rfl<|Gz hi)<|Dw_p (Value.slice Ai hds_g165.length Ci) (fun _ _ _ hi ht=>op_ld 2 ty23 (Step.nx hi).1 (ht 43 rfl) rfl rfl<|Gz hi)<|Dw_p (Pt b184 0) (fun _ _ _ hi ht=>op_fA 0 ty45 rfl ty3 (ht 7 rfl) rfl<|Gz hi)<|Dw_p (Iv ((r_.places.getD v_2.toNat default).leaf)) (fun _ _ _ hi ht=>op_ld 0 ty3 (Step.nx hi).1 (ht 45 rfl) rfl rfl<|Gz hi) ?_
 obtain⟨hc207,hm⟩:=ck_some hm
 have p209:=(p186.trans p190)
 replace Fi:=Fi.step p209
 obtain⟨b208,rfl,rfl⟩:=Fi.at_ (by have h1:hds_g165.length=rows_2.length:=lh_g165;omega)
 refine Dw_eq (Value.pointer (some ⟨b208,((r_.places.getD v_2.toNat default).leaf).toNat*1,none⟩)) (fun ρ204 w205 g hle hi ht=>?_) ?_
 obtain⟨-,hst,-⟩:=hle
 replace Fi:=Fi.step hst
 refine StepOp_plain (op_indexAddrG ty23 ty31 (ht 44 rfl) (ht 46 rfl) Fi ⟨hc207.1,by have h1:hds_g165.length=rows_2.length:=lh_g165;have h2:=hc207.2;omega⟩ ?_)
 rintro _ ⟨⟩ -
 exact Gz hi
 refine Dw_eq (Value.slice (hds_g165.getD ((r_.places.getD v_2.toNat default).leaf).toNat default).1 (hds_g165.getD ((r_.places.getD v_2.toNat default).leaf).toNat default).2.1 (hds_g165.getD ((r_.places.getD v_2.toNat default).leaf).toNat default).2.2) (fun ρ210 w211 g hle hi ht=>?_) ?_
 obtain⟨-,hst,-⟩:=hle
 replace Fi:=Fi.step hst
 have hsn:=(Step.nx hi).1
 refine StepOp_plain (op_loadG (p:=rHd) (m:=(r_.places.getD v_2.toNat default).leaf) (i:=1) ty31 rfl hsn rfl (ht 47 rfl) Fi ⟨hc207.1,by have h1:hds_g165.length=rows_2.length:=lh_g165;have h2:=hc207.2;omega⟩ ?_)
 intro v213 h214;obtain rfl:=un_hd h214
 exact Gz hi
 refine Dw_p (Pt b184 1) (fun _ _ _ hi ht=>op_fA 1 ty45 rfl ty3 (ht 7 rfl) rfl<|Gz hi)<|Dw_p (Iv ((r_.places.getD v_2.toNat default).cell)) (fun _ _ _ hi ht=>op_ld 0 ty3 (Step.nx hi).1 (ht 49 rfl) rfl rfl<|Gz hi)<|Dw_p (Pt b1 1) (fun _ _ _ hi ht=>op_fA 1 ty26 rfl ty23 (ht 2 rfl) rfl<|Gz hi)<|Dw_p (Sl Ab p.capacity Cb) (fun _ _ _ hi ht=>op_ld 4 ty23 (Step.nx hi).1 (ht 51 rfl) rfl rfl<|Gz hi)<|Dw_p (Pt b184 0) (fun _ _ _ hi ht=>op_fA 0 ty45 rfl ty3 (ht 7 rfl) rfl<|Gz hi)<|Dw_p (Iv ((r_.places.getD v_2.toNat default).leaf)) (fun _ _ _ hi ht=>op_ld 0 ty3 (Step.nx hi).1 (ht 53 rfl) rfl rfl<|Gz hi) ?_
 obtain⟨hc236,hm⟩:=ck_some hm
 replace Fb:=Fb.step (hst48.trans (hst173.trans (p186.trans p190)))
 refine Dw_op (VP _ _ (rSl (rInt .i64)) (p.capacity.getD ((r_.places.getD v_2.toNat default).leaf).toNat default)) (VP.stab _ _) (fun ρ233 w234 g hle hi ht=>?_) ?_
 obtain⟨-,hst,-⟩:=hle
 replace Fb:=Fb.step hst
 refine StepOp_plain<|op_indexAddr (q:=rSl (rInt .i64)) ty23 ty31 (ht 52 rfl) (ht 54 rfl) Fb rfl hc236.1 hc236.2 ?_
 intro p237 f238
 exact Goes.same hi ⟨_,rfl,f238⟩
 refine Dw_op (VD _ _ (vC (rSl (rInt .i64))) (p.capacity.getD ((r_.places.getD v_2.toNat default).leaf).toNat default)) (VD.stab _ _) (fun ρ239 w240 g hle hi ht=>?_) ?_
 obtain⟨p242,q243,f244⟩:=ht 55 rfl
 refine StepOp_plain<|op_loadP ty31 q243 f244 rfl ?_
 intro v245 h246
 obtain⟨Aj,Cj,rfl,Fj⟩:=un_sl h246
 exact Goes.same hi (show Vr.vd (vC (rSl (rInt .i64))) _ _ _ _ from(mkC (mk_sl Fj)))
 refine Dw_p (Pt b184 1) (fun _ _ _ hi ht=>op_fA 1 ty45 rfl ty3 (ht 7 rfl) rfl<|Gz hi)<|Dw_p (Iv ((r_.places.getD v_2.toNat default).cell)) (fun _ _ _ hi ht=>op_ld 0 ty3 (Step.nx hi).1 (ht 57 rfl) rfl rfl<|Gz hi) ?_
 obtain⟨hc260,hm⟩:=ck_some hm
 refine Dw_op (VP _ _ (rInt .i64) ((p.capacity.getD ((r_.places.getD v_2.toNat default).leaf).toNat default).getD ((r_.places.getD v_2.toNat default).cell).toNat default)) (VP.stab _ _) (fun ρ254 w255 g hle hi ht=>?_) ?_
 have h257:Vr.vd (vC (rSl (rInt .i64))) _ _ _ _:=ht 56 rfl
 obtain⟨Ak,Ck,q258,Fk⟩:=un_sl h257
 refine StepOp_plain<|op_indexAddr (q:=(rInt .i64)) ty31 ty3 q258 (ht 58 rfl) Fk rfl hc260.1 hc260.2 ?_
 intro p261 f262
 exact Goes.same hi ⟨_,rfl,f262⟩
 refine Dw_op (VD _ _ (vI .i64) ((p.capacity.getD ((r_.places.getD v_2.toNat default).leaf).toNat default).getD ((r_.places.getD v_2.toNat default).cell).toNat default)) (VD.stab _ _) (fun ρ263 w264 g hle hi ht=>?_) ?_
 obtain⟨p266,q267,f268⟩:=ht 59 rfl
 refine StepOp_plain<|op_loadP ty3 q267 f268 rfl ?_
 intro v269 h270
 obtain⟨rfl,Rf⟩:=un_int h270
 exact Goes.same hi (show Vr.vd (vI .i64) _ _ _ _ from⟨rfl,Rf⟩)
 refine Dw_nil fun w276 g277 hl278 hi279=>?_
 obtain⟨-,hst280,-⟩:=hl278
 obtain⟨hs282,p281⟩:=Step.nx hi279
 rintro v283 h284
 replace h284:Vr.vd (vI .i64) _ _ _ _:=h284
 obtain⟨rfl,Rg⟩:=h284
 rintro _ ⟨p286,rfl,f287⟩ _ rfl _ rfl v288 h289
 replace h289:Vr.vd (vC (rSl (rInt .i64))) _ _ _ _:=h289
 obtain⟨Al,Cl,rfl,Fl⟩:=un_sl h289
 rintro _ ⟨p291,rfl,f292⟩ _ rfl _ rfl _ rfl _ rfl _ rfl _ rfl _ rfl _ rfl _ rfl _ rfl _ rfl _ rfl
 have p293:=hs191.to hs282 (hst280.trans p281)
 replace f287:=f287.step p281;replace Fl:=Fl.step p281;replace f292:=f292.step p281;clear hs191
 have p299:=(p209.trans p293)
 replace fR_g165:=fR_g165.step p299
 obtain⟨hh294,hl295,hb296⟩:=fR_g165.at_ (i:=((r_.places.getD v_2.toNat default).leaf).toNat) (by have:=hc207;omega)
 obtain⟨hc300,hm⟩:=ck_some hm
 obtain⟨b297,hb298⟩:=hb296 (by have:=hc300;omega)
 refine Rop<|op_indexRow (H:=hds_g165.getD ((r_.places.getD v_2.toNat default).leaf).toNat default) (row:=rows_2.getD ((r_.places.getD v_2.toNat default).leaf).toNat default) (bl:=b297) ty31 ty3 rfl rfl hb298 hl295 hc300 ?_
 refine Rg_op_ (op_storeRow (bs:=[(some b184,Oc [Iv ((r_.places.getD v_2.toNat default).leaf),Iv ((r_.places.getD v_2.toNat default).cell)] 45),(some b208,o_g165),(some b11,Oc [Sl Aa p.cells Ca,Value.slice (some ⟨b208,0,none⟩) hds_g165.length Ci,Value.slice none 0 0] 26),(some b6,Oc [Sl Ad r_.variables Cd,Sl Ae r_.places Ce] 34),(some b1,Oc [Sl Aa p.cells Ca,Sl Ab p.capacity Cb,Sl Ac p.variables Cc] 26)]) (R:=R_g165) (vs:=[Iv ((p.capacity.getD ((r_.places.getD v_2.toNat default).leaf).toNat default).getD ((r_.places.getD v_2.toNat default).cell).toNat default)]) (m:=(r_.places.getD v_2.toNat default).cell) (i:=((r_.places.getD v_2.toNat default).leaf).toNat) (hd:=hds_g165.getD ((r_.places.getD v_2.toNat default).leaf).toNat default) ty3 rfl hs282 fR_g165 (by have:=hc207;omega) hh294 hb298 rfl rfl rfl hc300 (mk_int Rg) ?_)
 intro w301 R302 p303 hs304 fR305
 replace hs304:St ⟨w,[],[]⟩ O w301 ((some b184,Oc [Iv ((r_.places.getD v_2.toNat default).leaf),Iv ((r_.places.getD v_2.toNat default).cell)] 45)::(some b208,o_g165)::(some b11,Oc [Sl Aa p.cells Ca,Value.slice (some ⟨b208,0,none⟩) hds_g165.length Ci,Value.slice none 0 0] 26)::(some b6,Oc [Sl Ad r_.variables Cd,Sl Ae r_.places Ce] 34)::(some b1,Oc [Sl Aa p.cells Ca,Sl Ab p.capacity Cb,Sl Ac p.variables Cc] 26)::R302):=hs304
 replace p303:Step (ks ((some b184,Oc [Iv ((r_.places.getD v_2.toNat default).leaf),Iv ((r_.places.getD v_2.toNat default).cell)] 45)::(some b208,o_g165)::(some b11,Oc [Sl Aa p.cells Ca,Value.slice (some ⟨b208,0,none⟩) hds_g165.length Ci,Value.slice none 0 0] 26)::(some b6,Oc [Sl Ad r_.variables Cd,Sl Ae r_.places Ce] 34)::(some b1,Oc [Sl Aa p.cells Ca,Sl Ab p.capacity Cb,Sl Ac p.variables Cc] 26)::R_g165) O) w276 (ks ((some b184,Oc [Iv ((r_.places.getD v_2.toNat default).leaf),Iv ((r_.places.getD v_2.toNat default).cell)] 45)::(some b208,o_g165)::(some b11,Oc [Sl Aa p.cells Ca,Value.slice (some ⟨b208,0,none⟩) hds_g165.length Ci,Value.slice none 0 0] 26)::(some b6,Oc [Sl Ad r_.variables Cd,Sl Ae r_.places Ce] 34)::(some b1,Oc [Sl Aa p.cells Ca,Sl Ab p.capacity Cb,Sl Ac p.variables Cc] 26)::R302) O) w301:=p303
 replace fR305:Rows (rInt .i64) 3 w301 (ks ((some b184,Oc [Iv ((r_.places.getD v_2.toNat default).leaf),Iv ((r_.places.getD v_2.toNat default).cell)] 45)::(some b208,o_g165)::(some b11,Oc [Sl Aa p.cells Ca,Value.slice (some ⟨b208,0,none⟩) hds_g165.length Ci,Value.slice none 0 0] 26)::(some b6,Oc [Sl Ad r_.variables Cd,Sl Ae r_.places Ce] 34)::(some b1,Oc [Sl Aa p.cells Ca,Sl Ab p.capacity Cb,Sl Ac p.variables Cc] 26)::R302) O) hds_g165 R302 (rows_2.set ((r_.places.getD v_2.toNat default).leaf).toNat ((rows_2.getD ((r_.places.getD v_2.toNat default).leaf).toNat default).set ((r_.places.getD v_2.toNat default).cell).toNat ((p.capacity.getD ((r_.places.getD v_2.toNat default).leaf).toNat default).getD ((r_.places.getD v_2.toNat default).cell).toNat default))):=fR305
 clear hs282
 have lh306:hds_g165.length=(rows_2.set ((r_.places.getD v_2.toNat default).leaf).toNat ((rows_2.getD ((r_.places.getD v_2.toNat default).leaf).toNat default).set ((r_.places.getD v_2.toNat default).cell).toNat ((p.capacity.getD ((r_.places.getD v_2.toNat default).leaf).toNat default).getD ((r_.places.getD v_2.toNat default).cell).toNat default))).length:=(Rows.lens fR305).1
 have lp307:hds_g165.length=(rows_2.set ((r_.places.getD v_2.toNat default).leaf).toNat ((rows_2.getD ((r_.places.getD v_2.toNat default).leaf).toNat default).set ((r_.places.getD v_2.toNat default).cell).toNat ((p.capacity.getD ((r_.places.getD v_2.toNat default).leaf).toNat default).getD ((r_.places.getD v_2.toNat default).cell).toNat default))).length:=by have h1:hds_g165.length=rows_2.length:=lh_g165;rw [List.length_set];exact h1
 refine Rg_nil ?_
 clear f287 Fl f292
 refine Wp_region<|Rop<|op_addw rfl rfl<|Mve (Iv (IntKind.wrap .i64 (v_2+1))) rfl<|Rg_nil ?_
 have hs308:=hs304.drop 0
 have p309:=(hs304.dropS 0)
 clear hs304
 have p310:=(p299.trans (p303.trans p309))
 replace ch176:=ch176.trans p310;replace fR305:=fR305.step p309
 have p311:=(p293.trans (p303.trans p309))
 replace Fi:=Fi.step p311
 exact hK169 _ _ ⟨(IntKind.wrap .i64 (v_2+1)),rows_2.set ((r_.places.getD v_2.toNat default).leaf).toNat ((rows_2.getD ((r_.places.getD v_2.toNat default).leaf).toNat default).set ((r_.places.getD v_2.toNat default).cell).toNat ((p.capacity.getD ((r_.places.getD v_2.toNat default).leaf).toNat default).getD ((r_.places.getD v_2.toNat default).cell).toNat default)),some ⟨b208,0,none⟩,Ci,some b208,o_g165,hds_g165,R302,_,rfl,Frm.of ⟨rfl,trivial⟩,ch176,hs308,(inK_wrap .i64 _),Fi,fR305,lh306,jnE2 hsf168 hm⟩
 refine Wp_exit<|Wp_seq<|Wp_seq<|Wp_region<|Rop<|op_fA 0 ty34 rfl ty31 rfl rfl<|Rop<|op_ld 2 ty31 hs172 rfl rfl rfl<|Rop<|op_len Try.underlying31 rfl ?_
 have p313:=(p163.trans hst173)
 replace Fd:=Fd.step p313
 have rl312:=inK_len Fd
 refine Mve (Iv 0) rfl<|Rg_nil<|Wp_block<|Wr [] [(2,Pt b1 0),(4,Pt b11 0),(64,Sl Ad r_.variables Cd),(65,Iv (r_.variables.length:Int)),(66,Iv 0)] fun ξ317=>?_
 have hs322:=hs172.ghost (Obj.cells #[] 61)
 refine Wp_loopM q20_0 (fun m fr w'=>∃(v_3:Int) (v_4:List XVariable) (Am:Option Addr) (Cm:Nat) (k_g316:Option Nat) (o_g316:Obj) (Ebs:Ents),Ebs=((k_g316,o_g316)::(k_g165,o_g165)::(some b11,Oc [Sl Aa p.cells Ca,Value.slice Ai hds_g165.length Ci,Sl Am v_4 Cm] 26)::(some b6,Oc [Sl Ad r_.variables Cd,Sl Ae r_.places Ce] 34)::(some b1,Oc [Sl Aa p.cells Ca,Sl Ab p.capacity Cb,Sl Ac p.variables Cc] 26)::R_g165)∧fr [] [(66,Iv v_3)]∧hs322.S (ks Ebs O) w'∧St ⟨w,[],[]⟩ O w' Ebs∧InK .i64 v_3∧Gs rXVariable 61 w' (ks Ebs O) Am Cm v_4 k_g316 o_g316∧loop2 (m20_reason_Part_B2 p r_ rows_2) m v_3 v_4=some x) (((r_.variables.length:Int) - 0).toNat+1) ⟨0,([]:List XVariable),none,0,none,Obj.cells #[] 61,_,rfl,Frm.of ⟨rfl,trivial⟩,Step.refl _ _,hs322,(show InK .i64 0 from by decide),Gs.nil_,hm⟩ ?_ ?_
 rintro _ _ ⟨_,_,_,_,_,_,_,_,_,_,_,_,_,hm⟩;exact loop2_z hm
 rintro m321 K320 hK320 ρ328 w324 ⟨v_3,v_4,Am,Cm,k_g316,o_g316,_,rfl,hfr327,hst326,hs325,Rh,Fm,hm⟩
 obtain⟨sf318,hsf319,hm⟩:=loop2_s hm;unfold m20_reason_Part_B2 at hm
 rw [hfr327.eq];clear hfr327
 have ch329:=hst326
 refine Wp_seq<|Wp_region<|Rop<|op_lss rfl rfl<|Rg_nil<|Wp_seq<|Wp_condM hm rfl (fun hc330 hm=>?_) (fun hc330 hm=>?_)
 refine Wp_skip<|Wp_seq<|Wp_block<|Wp_seq<|Wp_region ?_
 obtain⟨hc331,hm⟩:=ck_some hm
 replace Fd:=Fd.step hst326
 refine Rop<|op_indexAddr (q:=(rInt .i64)) ty31 ty3 rfl rfl Fd rfl hc331.1 hc331.2 ?_
 intro p332 f333
 refine Rop<|op_loadP ty3 rfl f333 rfl ?_
 intro v334 h335
 obtain⟨rfl,Ri⟩:=un_int h335
 refine Asg (Iv (r_.variables.getD v_3.toNat default)) rfl<|Rg_nil ?_
 clear f333
 refine Wp_drawR (g0:=[]) (m:=8) (fl:=[]) (TS_inv hs325) rfl (.inl rfl) rfl (by decide+kernel) ?_  -- 17
 refine Dw_p (Pt b11 2) (fun _ _ _ hi ht=>op_fA 2 ty26 rfl ty24 (ht 4 rfl) rfl<|Gz hi)<|Dw_p (Sl Am v_4 Cm) (fun _ _ _ hi ht=>op_ld 2 ty24 (Step.nx hi).1 (ht 70 rfl) rfl rfl<|Gz hi)<|Dw_p (Pt b1 2) (fun _ _ _ hi ht=>op_fA 2 ty26 rfl ty24 (ht 2 rfl) rfl<|Gz hi)<|Dw_p (Sl Ac p.variables Cc) (fun _ _ _ hi ht=>op_ld 4 ty24 (Step.nx hi).1 (ht 72 rfl) rfl rfl<|Gz hi)<|Dw_p (Iv (r_.variables.getD v_3.toNat default)) (fun _ _ _ hi ht=>op_move (v:=Iv (r_.variables.getD v_3.toNat default)) (ht 9 rfl)<|Gz hi) ?_
 obtain⟨hc355,hm⟩:=ck_some hm
 have p358:=(p313.trans hst326)
 replace Fc:=Fc.step p358
 refine Dw_op (VP _ _ rXVariable (p.variables.getD (r_.variables.getD v_3.toNat default).toNat default)) (VP.stab _ _) (fun ρ352 w353 g hle hi ht=>?_) ?_
 obtain⟨-,hst,-⟩:=hle
 replace Fc:=Fc.step hst
 refine StepOp_plain<|op_indexAddr (q:=rXVariable) ty24 ty61 (ht 73 rfl) (ht 74 rfl) Fc rfl hc355.1 hc355.2 ?_
 intro p356 f357
 exact Goes.same hi ⟨_,rfl,f357⟩
 refine Dw_op (VD _ _ (vA rXVariable) (p.variables.getD (r_.variables.getD v_3.toNat default).toNat default)) (VD.stab _ _) (fun ρ359 w360 g hle hi ht=>?_) ?_
 obtain⟨p362,q363,f364⟩:=ht 75 rfl
 refine StepOp_plain<|op_loadPA ty61 q363 f364 rfl ?_
 intro vs365 h366
 obtain⟨_,_,rfl,⟨rfl,Rj⟩,⟨_,_,rfl,⟨rfl,Rk⟩,⟨_,_,rfl,⟨An,Cn,rfl,Fn⟩,⟨Ao,Co,rfl,Fo⟩⟩⟩⟩:=h366
 exact Goes.same hi (show Vr.vd (vA rXVariable) _ _ _ _ from(mkA (mkVia (mk_pair (mk_int Rj) (mk_pair (mk_int Rk) (mk_pair (mk_sl Fn) (mk_sl Fo)))))))
 refine Dw_op (VD _ _ (vC (rSl rXVariable)) [p.variables.getD (r_.variables.getD v_3.toNat default).toNat default]) (VD.stab _ _) (fun ρ368 w369 g hle hi ht=>?_) ?_
 have h371:Vr.vd (vA rXVariable) _ _ _ _:=ht 76 rfl
 obtain⟨_,q372,⟨_,_,rfl,⟨rfl,Rl⟩,⟨_,_,rfl,⟨rfl,Rm⟩,⟨_,_,rfl,⟨Ap,Cp,rfl,Fp⟩,⟨Aq,Cq,rfl,Fq⟩⟩⟩⟩⟩:=h371
 refine StepOp_plain (op_buildSlice (cs:=[Iv ((p.variables.getD (r_.variables.getD v_3.toNat default).toNat default).flight),Iv ((p.variables.getD (r_.variables.getD v_3.toNat default).toNat default).node),Sl Ap ((p.variables.getD (r_.variables.getD v_3.toNat default).toNat default).leaves) Cp,Sl Aq ((p.variables.getD (r_.variables.getD v_3.toNat default).toNat default).choices) Cq]) (parts:=[(0,.tmp 76)]) ty24 ty61 hi (by decide) (by simp only [List.map,(show ev _ (.tmp 76)=_ from q372)];rfl) ?_)
 intro b374 w375 hx378 p376 hs377
 replace Fq:=Fq.step p376;replace Fp:=Fp.step p376
 obtain⟨hs380,p381,f382⟩:=St.publish (q:=rXVariable) (i:=0) (o:=0) (c:=1) (xs:=[p.variables.getD (r_.variables.getD v_3.toNat default).toNat default]) hs377 rfl (show Els rXVariable _ _ [Iv ((p.variables.getD (r_.variables.getD v_3.toNat default).toNat default).flight),Iv ((p.variables.getD (r_.variables.getD v_3.toNat default).toNat default).node),Sl Ap ((p.variables.getD (r_.variables.getD v_3.toNat default).toNat default).leaves) Cp,Sl Aq ((p.variables.getD (r_.variables.getD v_3.toNat default).toNat default).choices) Cq] [p.variables.getD (r_.variables.getD v_3.toNat default).toNat default] from⟨_,_,rfl,mkVia (mk_pair (mk_int Rl) (mk_pair (mk_int Rm) (mk_pair (mk_sl Fp) (mk_sl Fq)))),Els.nil⟩) (le_lit rfl) (le_lit rfl) (le_lit rfl)
 exact Goes.pub hi hs380 (Step.trans p376 p381) hx378 (show Vr.vd (vC (rSl rXVariable)) _ _ _ _ from mkC (mk_sl f382))
 refine Dw_nil fun w387 g388 hl389 hi390=>?_
 obtain⟨-,hst391,-⟩:=hl389
 obtain⟨hs393,p392⟩:=Step.nx hi390
 rintro v394 h395
 replace h395:Vr.vd (vC (rSl rXVariable)) _ _ _ _:=h395
 obtain⟨Ar,Cr,rfl,Fr⟩:=un_sl h395
 rintro v397 h398
 replace h398:Vr.vd (vA rXVariable) _ _ _ _:=h398
 obtain⟨_,rfl,⟨_,_,rfl,⟨rfl,Rn⟩,⟨_,_,rfl,⟨rfl,Ro⟩,⟨_,_,rfl,⟨As,Cs,rfl,Fs⟩,⟨At,Ct,rfl,Ft⟩⟩⟩⟩⟩:=h398
 rintro _ ⟨p400,rfl,f401⟩ _ rfl _ rfl _ rfl _ rfl _ rfl
 have p402:=hs325.to hs393 (hst391.trans p392)
 replace Fr:=Fr.step p392;replace Fs:=Fs.step p392;replace Ft:=Ft.step p392;replace f401:=f401.step p392;clear hs325
 obtain⟨hc403,hm⟩:=ck_some hm
 obtain⟨ns404,he405,hr406⟩:=Fr.src
 replace Fm:=Fm.step p402
 refine Rop (op_append (q:=rXVariable) (i:=0) (xs:=v_4) (ys:=[p.variables.getD (r_.variables.getD v_3.toNat default).toNat default]) (news:=ns404) ty24 ty61 rfl (by decide) hs393 rfl rfl Fm rfl hr406 he405 hc403 (by have:=hc403;simp only [maxLen];omega) ?_)
 intro a410 c411 k412 o413 w407 p408 hs409 f414
 clear hs393
 refine Rop<|op_fA 2 ty26 rfl ty24 rfl rfl<|Rg_op_<|op_stC (Sl a410 (v_4++[p.variables.getD (r_.variables.getD v_3.toNat default).toNat default]) c411) (cs':=[Sl Aa p.cells Ca,Value.slice Ai hds_g165.length Ci,Sl a410 (v_4++[p.variables.getD (r_.variables.getD v_3.toNat default).toNat default]) c411]) Put.p2 ty24 hs409 rfl rfl rfl (le_lit rfl) rfl rfl ?_
 intro w415 p416 hs417
 clear hs409
 refine Rg_nil ?_
 clear Fr Fs Ft f401
 refine Wp_region<|Rop<|op_addw rfl rfl<|Mve (Iv (IntKind.wrap .i64 (v_3+1))) rfl<|Rg_nil ?_
 have p418:=(p402.trans (p408.trans p416))
 replace ch329:=ch329.trans p418;replace f414:=f414.step p416
 exact hK320 _ _ ⟨(IntKind.wrap .i64 (v_3+1)),v_4++[p.variables.getD (r_.variables.getD v_3.toNat default).toNat default],a410,c411,k412,o413,_,rfl,Frm.of ⟨rfl,trivial⟩,ch329,hs417,(inK_wrap .i64 _),f414,jnE2 hsf319 hm⟩
 refine Wp_exit<|Wp_seq ?_
 obtain⟨hs419,p420⟩:=hs325.sub (bs':=(k_g316,o_g316)::(k_g165,o_g165)::(some b11,Oc [Sl Aa p.cells Ca,Value.slice Ai hds_g165.length Ci,Sl Am v_4 Cm] 26)::R_g165) (.cons_cons _ (.cons_cons _ (.cons_cons _ (.cons _ (.cons _ (List.Sublist.refl _))))))
 clear Fb Fc Fd Fe
 clear hs325
 refine Wp_region<|Rop<|op_ldA 2 ty26 hs419 rfl rfl rfl<|Rg_op_<|op_stA Put.p2 ty26 hs419 rfl rfl rfl rfl rfl ?_
 intro w421 p422 hs423
 clear hs419
 refine Asg (Iv 0) rfl<|Rg_nil<|Wp_ret ?_
 have p427:=(hst326.trans (p420.trans p422))
 replace fR_g165:=fR_g165.step p427;replace Fi:=Fi.step p427
 obtain⟨hs425,p426,f424⟩:=Rows.publish (bs:=[(k_g316,o_g316),(k_g165,o_g165),(some b11,Oc [Sl Aa p.cells Ca,Value.slice Ai hds_g165.length Ci,Sl Am v_4 Cm] 26)]) (R:=R_g165) (j:=1) hs423 fR_g165 rfl Fi
 replace hs425:St _ O w421 [(k_g316,o_g316),(some b11,Oc [Sl Aa p.cells Ca,Value.slice Ai hds_g165.length Ci,Sl Am v_4 Cm] 26)]:=hs425
 clear hs423
 have p431:=(p420.trans (p422.trans p426))
 replace Fm:=Fm.step p431
 obtain⟨hs429,p430,f428⟩:=Gs.publish (i:=0) hs425 rfl Fm
 clear hs425
 have hz:=step_all hs429
 refine⟨_,Clo,[Value.agg [Sl Aa p.cells Ca,Value.slice Ai hds_g165.length Ci,Sl Am v_4 Cm].toArray,Iv 0],⟨resA (cs:=[Sl Aa p.cells Ca,Value.slice Ai hds_g165.length Ci,Sl Am v_4 Cm]) (vs:=[Sl Aa p.cells Ca,Value.slice Ai hds_g165.length Ci,Sl Am v_4 Cm]) ty26 (i:=0) hs429 rfl rfl rfl rfl,rfl,trivial⟩,hs429.ext,?_⟩
 replace f424:=f424.step (p430.trans hz);replace f428:=f428.step hz
 replace Fa:=Fa.step (p313.trans (hst326.trans (p420.trans (p422.trans (p426.trans (p430.trans hz))))))
 exact Vr.eq (a:=vT2 (vA rXProblem) (vI .i64)) (x:=((⟨p.cells,rows_2,v_4⟩:XProblem),0)) (mkT2 (mkA (mkVia (mk_pair (mk_sl Fa) (mk_pair (mk_slL lh_g165 f424) (mk_sl f428))))) ⟨rfl,(show InK .i64 0 from by decide)⟩) (oi hm)

abbrev q27_2:List Nat:=[4,5,23,24,25,26,27,28,29,30,31,32,33,34,35,36,37,38,39,40]

abbrev q27_1:List Nat:=[4,6,41,42,43,44,45,46,47,48,49,50,51,52,53,54,55,56,57,58]

abbrev q27_0:List Nat:=[7,8,9,10,11,12,13,14,15,16,17,18,19,20,21,22]

def m27_overflightref32_Same_B1 (a:XReason) (b:XReason) (sf112:Int→Option Bool) (i_2:Int):Option Bool:=
 bif (decide (i_2<(a.places.length:Int))) then
  ck ((0:Int)≤i_2∧i_2<(a.places.length:Int))<|
  ck ((0:Int)≤i_2∧i_2<(b.places.length:Int))<|
  bif (!(decide ((a.places.getD i_2.toNat default)=(b.places.getD i_2.toNat default)))) then
   some false
  else
   sf112 (IntKind.wrap .i64 (i_2+1))
 else
  some true

def m27_overflightref32_Same_B0 (a:XReason) (b:XReason) (sf26:Int→Option Bool) (i_1:Int):Option Bool:=
 bif (decide (i_1<(a.variables.length:Int))) then
  ck ((0:Int)≤i_1∧i_1<(a.variables.length:Int))<|
  ck ((0:Int)≤i_1∧i_1<(b.variables.length:Int))<|
  bif (decide ((a.variables.getD i_1.toNat default)≠(b.variables.getD i_1.toNat default))) then
   some false
  else
   sf26 (IntKind.wrap .i64 (i_1+1))
 else
  loop1 (m27_overflightref32_Same_B1 a b) (((a.places.length:Int) - 0).toNat+1) 0

def m27_overflightref32_Same (a:XReason) (b:XReason):Option Bool:=
 jn (fun(v_1:Bool)=>
  bif v_1 then
   some false
  else
   loop1 (m27_overflightref32_Same_B0 a b) (((a.variables.length:Int) - 0).toNat+1) 0)
 (fun k13=>
  bif (decide ((a.variables.length:Int)≠(b.variables.length:Int))) then
   k13 true
  else
   k13 (decide ((a.places.length:Int)≠(b.places.length:Int))))

theorem c27_overflightref32_Same {w:World} {O:List Nat} {a:XReason} {b:XReason} {Aa:Option Addr} {Ca:Nat} {Ab:Option Addr} {Cb:Nat} {Ac:Option Addr} {Cc:Nat} {Ad:Option Addr} {Cd:Nat} (hO:∀k∈O,k<w.heap.size) (Fa:SlR (rInt .i64) w O Aa Ca a.variables) (Fb:SlR rXPlace w O Ab Cb a.places) (Fc:SlR (rInt .i64) w O Ac Cc b.variables) (Fd:SlR rXPlace w O Ad Cd b.places) {x:Bool} (hm:m27_overflightref32_Same a b=some x):
 Ok Try.prog 27 [Value.agg [Sl Aa a.variables Ca,Sl Ab a.places Cb].toArray,Value.agg [Sl Ac b.variables Cc,Sl Ad b.places Cd].toArray] w O vB x:=by
 unfold m27_overflightref32_Same at hm
 refine Fn_of_Wp (n:=59) (xs:=[.tmp 4]) Try.func27 rfl Try.ntmps27 Try.results27 rfl ?_
 have hs:=St.start hO
 refine Wp_seq<|Wp_region<|Rop<|op_box (cs:=[Sl Aa a.variables Ca,Sl Ab a.places Cb]) hs rfl rfl ?_
 intro b1 w2 _ p3 hs4
 refine Rop<|op_box (cs:=[Sl Ac b.variables Cc,Sl Ad b.places Cd]) hs4 rfl rfl ?_
 intro b6 w7 _ p8 hs9
 clear hs4
 refine Asg (Bo false) rfl<|Rg_nil<|Wp_seq<|Wr [] [(2,Pt b1 0),(3,Pt b6 0)] fun ξ11=>?_
 obtain⟨k13,hk14,hm⟩:=jn_elim hm
 refine Wp_seqJ q27_0 (fun fr w'=>∃(v_1:Bool) (Ebs:Ents),Ebs=[(some b6,Oc [Sl Ac b.variables Cc,Sl Ad b.places Cd] 34),(some b1,Oc [Sl Aa a.variables Ca,Sl Ab a.places Cb] 34)]∧fr [] [(22,Bo v_1)]∧hs9.S (ks Ebs O) w'∧St ⟨w,[],[]⟩ O w' Ebs∧k13 v_1=some x) ?_ ?_
 rintro ρ20 w16 ⟨v_1,_,rfl,hfr19,hst18,hs17,hm⟩
 replace hm:=jnE1 hk14 hm
 rw [hfr19.eq];clear hfr19
 refine Wp_condM hm rfl (fun hc21 hm=>?_) (fun hc21 hm=>?_)
 refine Wp_seq ?_
 obtain⟨hs22,p23⟩:=hs17.sub (bs':=[]) (.cons _ (.cons _ List.Sublist.slnil))
 clear Fa Fb Fc Fd
 clear hs17
 refine Wp_region<|Asg (Bo false) rfl<|Rg_nil<|Wp_ret<|⟨_,Clo,[Bo false],⟨rfl,trivial⟩,hs22.ext,?_⟩
 exact Vr.eq (a:=vB) (x:=false) rfl (oi hm)
 refine Wp_skip<|Wp_seq<|Wp_seq<|Wp_region<|Asg (Iv 0) rfl<|Rg_nil<|Wp_block<|Wr [] [(2,Pt b1 0),(3,Pt b6 0),(5,Iv 0)] fun ξ25=>Wp_loopM q27_2 (fun m fr w'=>∃(i_1:Int) (Ebs:Ents),Ebs=[(some b6,Oc [Sl Ac b.variables Cc,Sl Ad b.places Cd] 34),(some b1,Oc [Sl Aa a.variables Ca,Sl Ab a.places Cb] 34)]∧fr [] [(5,Iv i_1)]∧hs17.S (ks Ebs O) w'∧St ⟨w,[],[]⟩ O w' Ebs∧InK .i64 i_1∧loop1 (m27_overflightref32_Same_B0 a b) m i_1=some x) (((a.variables.length:Int) - 0).toNat+1) ⟨0,_,rfl,Frm.of ⟨rfl,trivial⟩,Step.refl _ _,hs17,(show InK .i64 0 from by decide),hm⟩ ?_ ?_
 rintro _ _ ⟨_,_,_,_,_,_,_,hm⟩;exact loop1_z hm
 rintro m29 K28 hK28 ρ34 w30 ⟨i_1,_,rfl,hfr33,hst32,hs31,Ra,hm⟩
 obtain⟨sf26,hsf27,hm⟩:=loop1_s hm;unfold m27_overflightref32_Same_B0 at hm
 rw [hfr33.eq];clear hfr33
 have ch35:=hst32
 refine Wp_seq<|Wp_seq<|Wp_region<|Mve (Iv i_1) rfl<|Rop<|op_fA 0 ty34 rfl ty31 rfl rfl<|Rop<|op_ld 1 ty31 hs31 rfl rfl rfl<|Rop<|op_len Try.underlying31 rfl ?_
 have p37:=(p3.trans (p8.trans (hst18.trans hst32)))
 replace Fa:=Fa.step p37
 have rl36:=inK_len Fa
 refine Rop<|op_lss rfl rfl<|Rg_nil<|Wp_condM hm rfl (fun hc38 hm=>?_) (fun hc38 hm=>?_)
 refine Wp_skip<|Wp_seq<|Wp_block<|Wp_seq<|Wp_drawR (g0:=[]) (m:=10) (fl:=[]) (TS_inv hs31) rfl (.inl rfl) rfl (by decide+kernel) ?_  -- 6
 refine Dw_p (Pt b1 0) (fun _ _ _ hi ht=>op_fA 0 ty34 rfl ty31 (ht 2 rfl) rfl<|Gz hi)<|Dw_p (Sl Aa a.variables Ca) (fun _ _ _ hi ht=>op_ld 1 ty31 (Step.nx hi).1 (ht 30 rfl) rfl rfl<|Gz hi)<|Dw_p (Iv i_1) (fun _ _ _ hi ht=>op_move (v:=Iv i_1) (ht 5 rfl)<|Gz hi) ?_
 obtain⟨hc51,hm⟩:=ck_some hm
 refine Dw_op (VP _ _ (rInt .i64) (a.variables.getD i_1.toNat default)) (VP.stab _ _) (fun ρ48 w49 g hle hi ht=>?_) ?_
 obtain⟨-,hst,-⟩:=hle
 replace Fa:=Fa.step hst
 refine StepOp_plain<|op_indexAddr (q:=(rInt .i64)) ty31 ty3 (ht 31 rfl) (ht 32 rfl) Fa rfl hc51.1 hc51.2 ?_
 intro p52 f53
 exact Goes.same hi ⟨_,rfl,f53⟩
 refine Dw_op (VD _ _ (vI .i64) (a.variables.getD i_1.toNat default)) (VD.stab _ _) (fun ρ54 w55 g hle hi ht=>?_) ?_
 obtain⟨p57,q58,f59⟩:=ht 33 rfl
 refine StepOp_plain<|op_loadP ty3 q58 f59 rfl ?_
 intro v60 h61
 obtain⟨rfl,Rb⟩:=un_int h61
 exact Goes.same hi (show Vr.vd (vI .i64) _ _ _ _ from⟨rfl,Rb⟩)
 refine Dw_p (Pt b6 0) (fun _ _ _ hi ht=>op_fA 0 ty34 rfl ty31 (ht 3 rfl) rfl<|Gz hi)<|Dw_p (Sl Ac b.variables Cc) (fun _ _ _ hi ht=>op_ld 0 ty31 (Step.nx hi).1 (ht 35 rfl) rfl rfl<|Gz hi)<|Dw_p (Iv i_1) (fun _ _ _ hi ht=>op_move (v:=Iv i_1) (ht 5 rfl)<|Gz hi) ?_
 obtain⟨hc75,hm⟩:=ck_some hm
 replace Fc:=Fc.step p37
 refine Dw_op (VP _ _ (rInt .i64) (b.variables.getD i_1.toNat default)) (VP.stab _ _) (fun ρ72 w73 g hle hi ht=>?_) ?_
 obtain⟨-,hst,-⟩:=hle
 replace Fc:=Fc.step hst
 refine StepOp_plain<|op_indexAddr (q:=(rInt .i64)) ty31 ty3 (ht 36 rfl) (ht 37 rfl) Fc rfl hc75.1 hc75.2 ?_
 intro p76 f77
 exact Goes.same hi ⟨_,rfl,f77⟩
 refine Dw_op (VD _ _ (vI .i64) (b.variables.getD i_1.toNat default)) (VD.stab _ _) (fun ρ78 w79 g hle hi ht=>?_) ?_
 obtain⟨p81,q82,f83⟩:=ht 38 rfl
 refine StepOp_plain<|op_loadP ty3 q82 f83 rfl ?_
 intro v84 h85
 obtain⟨rfl,Rc⟩:=un_int h85
 exact Goes.same hi (show Vr.vd (vI .i64) _ _ _ _ from⟨rfl,Rc⟩)
 refine Dw_nil fun w91 g92 hl93 hi94=>?_
 obtain⟨-,hst95,-⟩:=hl93
 obtain⟨hs97,p96⟩:=Step.nx hi94
 rintro v98 h99
 replace h99:Vr.vd (vI .i64) _ _ _ _:=h99
 obtain⟨rfl,Rd⟩:=h99
 rintro _ ⟨p101,rfl,f102⟩ _ rfl _ rfl _ rfl v103 h104
 replace h104:Vr.vd (vI .i64) _ _ _ _:=h104
 obtain⟨rfl,Re⟩:=h104
 rintro _ ⟨p106,rfl,f107⟩ _ rfl _ rfl _ rfl
 have p108:=hs31.to hs97 (hst95.trans p96)
 replace f102:=f102.step p96;replace f107:=f107.step p96;clear hs31
 refine Rop<|op_neq rfl rfl<|Rg_nil<|Wp_condM hm rfl (fun hc109 hm=>?_) (fun hc109 hm=>?_)
 refine Wp_seq ?_
 clear f102 f107
 refine Wp_region<|Asg (Bo false) rfl<|Rg_nil<|Wp_ret<|⟨_,Clo,[Bo false],⟨rfl,trivial⟩,hs97.ext,?_⟩
 exact Vr.eq (a:=vB) (x:=false) rfl (oi hm)
 refine Wp_skip ?_
 clear f102 f107
 refine Wp_region<|Mve (Iv i_1) rfl<|Rop<|op_addw rfl rfl<|Asg (Iv (IntKind.wrap .i64 (i_1+1))) rfl<|Rg_nil ?_
 replace ch35:=ch35.trans p108
 exact hK28 _ _ ⟨(IntKind.wrap .i64 (i_1+1)),_,rfl,Frm.of ⟨rfl,trivial⟩,ch35,hs97,(inK_wrap .i64 _),jnE1 hsf27 hm⟩
 refine Wp_exit<|Wp_seq<|Wp_seq<|Wp_region<|Asg (Iv 0) rfl<|Rg_nil<|Wp_block<|Wr [] [(2,Pt b1 0),(3,Pt b6 0),(6,Iv 0)] fun ξ111=>Wp_loopM q27_1 (fun m fr w'=>∃(i_2:Int) (Ebs:Ents),Ebs=[(some b6,Oc [Sl Ac b.variables Cc,Sl Ad b.places Cd] 34),(some b1,Oc [Sl Aa a.variables Ca,Sl Ab a.places Cb] 34)]∧fr [] [(6,Iv i_2)]∧hs31.S (ks Ebs O) w'∧St ⟨w,[],[]⟩ O w' Ebs∧InK .i64 i_2∧loop1 (m27_overflightref32_Same_B1 a b) m i_2=some x) (((a.places.length:Int) - 0).toNat+1) ⟨0,_,rfl,Frm.of ⟨rfl,trivial⟩,Step.refl _ _,hs31,(show InK .i64 0 from by decide),hm⟩ ?_ ?_
 rintro _ _ ⟨_,_,_,_,_,_,_,hm⟩;exact loop1_z hm
 rintro m115 K114 hK114 ρ120 w116 ⟨i_2,_,rfl,hfr119,hst118,hs117,Rf,hm⟩
 obtain⟨sf112,hsf113,hm⟩:=loop1_s hm;unfold m27_overflightref32_Same_B1 at hm
 rw [hfr119.eq];clear hfr119
 have ch121:=hst118
 refine Wp_seq<|Wp_seq<|Wp_region<|Mve (Iv i_2) rfl<|Rop<|op_fA 1 ty34 rfl ty32 rfl rfl<|Rop<|op_ld 1 ty32 hs117 rfl rfl rfl<|Rop<|op_len Try.underlying32 rfl ?_
 have p123:=(p37.trans hst118)
 replace Fb:=Fb.step p123
 have rl122:=inK_len Fb
 refine Rop<|op_lss rfl rfl<|Rg_nil<|Wp_condM hm rfl (fun hc124 hm=>?_) (fun hc124 hm=>?_)
 refine Wp_skip<|Wp_seq<|Wp_block<|Wp_seq<|Wp_drawR (g0:=[]) (m:=10) (fl:=[]) (TS_inv hs117) rfl (.inl rfl) rfl (by decide+kernel) ?_  -- 11
 refine Dw_p (Pt b1 1) (fun _ _ _ hi ht=>op_fA 1 ty34 rfl ty32 (ht 2 rfl) rfl<|Gz hi)<|Dw_p (Sl Ab a.places Cb) (fun _ _ _ hi ht=>op_ld 1 ty32 (Step.nx hi).1 (ht 48 rfl) rfl rfl<|Gz hi)<|Dw_p (Iv i_2) (fun _ _ _ hi ht=>op_move (v:=Iv i_2) (ht 6 rfl)<|Gz hi) ?_
 obtain⟨hc137,hm⟩:=ck_some hm
 refine Dw_op (VP _ _ rXPlace (a.places.getD i_2.toNat default)) (VP.stab _ _) (fun ρ134 w135 g hle hi ht=>?_) ?_
 obtain⟨-,hst,-⟩:=hle
 replace Fb:=Fb.step hst
 refine StepOp_plain<|op_indexAddr (q:=rXPlace) ty32 ty45 (ht 49 rfl) (ht 50 rfl) Fb rfl hc137.1 hc137.2 ?_
 intro p138 f139
 exact Goes.same hi ⟨_,rfl,f139⟩
 refine Dw_op (VD _ _ (vA rXPlace) (a.places.getD i_2.toNat default)) (VD.stab _ _) (fun ρ140 w141 g hle hi ht=>?_) ?_
 obtain⟨p143,q144,f145⟩:=ht 51 rfl
 refine StepOp_plain<|op_loadPA ty45 q144 f145 rfl ?_
 intro vs146 h147
 obtain⟨_,_,rfl,⟨rfl,Rg⟩,⟨rfl,Rh⟩⟩:=h147
 exact Goes.same hi (show Vr.vd (vA rXPlace) _ _ _ _ from(mkA (mkVia (mk_pair (mk_int Rg) (mk_int Rh)))))
 refine Dw_p (Pt b6 1) (fun _ _ _ hi ht=>op_fA 1 ty34 rfl ty32 (ht 3 rfl) rfl<|Gz hi)<|Dw_p (Sl Ad b.places Cd) (fun _ _ _ hi ht=>op_ld 0 ty32 (Step.nx hi).1 (ht 53 rfl) rfl rfl<|Gz hi)<|Dw_p (Iv i_2) (fun _ _ _ hi ht=>op_move (v:=Iv i_2) (ht 6 rfl)<|Gz hi) ?_
 obtain⟨hc161,hm⟩:=ck_some hm
 replace Fd:=Fd.step p123
 refine Dw_op (VP _ _ rXPlace (b.places.getD i_2.toNat default)) (VP.stab _ _) (fun ρ158 w159 g hle hi ht=>?_) ?_
 obtain⟨-,hst,-⟩:=hle
 replace Fd:=Fd.step hst
 refine StepOp_plain<|op_indexAddr (q:=rXPlace) ty32 ty45 (ht 54 rfl) (ht 55 rfl) Fd rfl hc161.1 hc161.2 ?_
 intro p162 f163
 exact Goes.same hi ⟨_,rfl,f163⟩
 refine Dw_op (VD _ _ (vA rXPlace) (b.places.getD i_2.toNat default)) (VD.stab _ _) (fun ρ164 w165 g hle hi ht=>?_) ?_
 obtain⟨p167,q168,f169⟩:=ht 56 rfl
 refine StepOp_plain<|op_loadPA ty45 q168 f169 rfl ?_
 intro vs170 h171
 obtain⟨_,_,rfl,⟨rfl,Ri⟩,⟨rfl,Rj⟩⟩:=h171
 exact Goes.same hi (show Vr.vd (vA rXPlace) _ _ _ _ from(mkA (mkVia (mk_pair (mk_int Ri) (mk_int Rj)))))
 refine Dw_nil fun w177 g178 hl179 hi180=>?_
 obtain⟨-,hst181,-⟩:=hl179
 obtain⟨hs183,p182⟩:=Step.nx hi180
 rintro v184 h185
 replace h185:Vr.vd (vA rXPlace) _ _ _ _:=h185
 obtain⟨_,rfl,⟨_,_,rfl,⟨rfl,Rk⟩,⟨rfl,Rl⟩⟩⟩:=h185
 rintro _ ⟨p187,rfl,f188⟩ _ rfl _ rfl _ rfl v189 h190
 replace h190:Vr.vd (vA rXPlace) _ _ _ _:=h190
 obtain⟨_,rfl,⟨_,_,rfl,⟨rfl,Rm⟩,⟨rfl,Rn⟩⟩⟩:=h190
 rintro _ ⟨p192,rfl,f193⟩ _ rfl _ rfl _ rfl
 have p194:=hs117.to hs183 (hst181.trans p182)
 replace f188:=f188.step p182;replace f193:=f193.step p182;clear hs117
 refine Rop<|op_neqA (c:=decide ((a.places.getD i_2.toNat default)=(b.places.getD i_2.toNat default))) rfl rfl eqg45 (eqv45 9998 (a.places.getD i_2.toNat default) (b.places.getD i_2.toNat default) _)<|Rg_nil<|Wp_condM hm rfl (fun hc195 hm=>?_) (fun hc195 hm=>?_)
 refine Wp_seq ?_
 clear f188 f193
 refine Wp_region<|Asg (Bo false) rfl<|Rg_nil<|Wp_ret<|⟨_,Clo,[Bo false],⟨rfl,trivial⟩,hs183.ext,?_⟩
 exact Vr.eq (a:=vB) (x:=false) rfl (oi hm)
 refine Wp_skip ?_
 clear f188 f193
 refine Wp_region<|Mve (Iv i_2) rfl<|Rop<|op_addw rfl rfl<|Asg (Iv (IntKind.wrap .i64 (i_2+1))) rfl<|Rg_nil ?_
 replace ch121:=ch121.trans p194
 exact hK114 _ _ ⟨(IntKind.wrap .i64 (i_2+1)),_,rfl,Frm.of ⟨rfl,trivial⟩,ch121,hs183,(inK_wrap .i64 _),jnE1 hsf113 hm⟩
 refine Wp_exit<|Wp_seq ?_
 obtain⟨hs196,p197⟩:=hs117.sub (bs':=[]) (.cons _ (.cons _ List.Sublist.slnil))
 clear Fa Fb Fc Fd
 clear hs117
 refine Wp_region<|Asg (Bo true) rfl<|Rg_nil<|Wp_ret<|⟨_,Clo,[Bo true],⟨rfl,trivial⟩,hs196.ext,?_⟩
 exact Vr.eq (a:=vB) (x:=true) rfl (oi hm)
 intro K15 hK15
 have ch198:=hs9.stepR
 refine Wp_region<|Rop<|op_fA 0 ty34 rfl ty31 rfl rfl<|Rop<|op_ld 1 ty31 hs9 rfl rfl rfl<|Rop<|op_len Try.underlying31 rfl ?_
 have p200:=(p3.trans p8)
 replace Fa:=Fa.step p200
 have rl199:=inK_len Fa
 refine Rop<|op_fA 0 ty34 rfl ty31 rfl rfl<|Rop<|op_ld 0 ty31 hs9 rfl rfl rfl<|Rop<|op_len Try.underlying31 rfl ?_
 replace Fc:=Fc.step p200
 have rl201:=inK_len Fc
 refine Rop<|op_neq rfl rfl<|Mve (Bo (decide ((a.variables.length:Int)≠(b.variables.length:Int)))) rfl<|Rg_caseM hm (fun hg202 hm=>?_) (fun hg202 hm=>?_)
 iterate 7 refine Rg_opx rfl (asB_ne rfl rfl) rfl ?_
 exact Pkt (Bo true) rfl rfl<|Rg_nil<|hK15 _ _ ⟨true,_,rfl,Frm.of ⟨rfl,trivial⟩,ch198,hs9,hm⟩
 refine Rog rfl rfl<|op_fA 1 ty34 rfl ty32 rfl rfl<|Rog rfl rfl<|op_ld 1 ty32 hs9 rfl rfl rfl<|Rog rfl rfl<|op_len Try.underlying32 rfl ?_
 replace Fb:=Fb.step p200
 have rl203:=inK_len Fb
 refine Rog rfl rfl<|op_fA 1 ty34 rfl ty32 rfl rfl<|Rog rfl rfl<|op_ld 0 ty32 hs9 rfl rfl rfl<|Rog rfl rfl<|op_len Try.underlying32 rfl ?_
 replace Fd:=Fd.step p200
 have rl204:=inK_len Fd
 exact Rog rfl rfl<|op_neq rfl rfl<|Pkf (Bo (decide ((a.places.length:Int)≠(b.places.length:Int)))) rfl rfl<|Rg_nil<|hK15 _ _ ⟨decide ((a.places.length:Int)≠(b.places.length:Int)),_,rfl,Frm.of ⟨rfl,trivial⟩,ch198,hs9,hm⟩

abbrev q29_0:List Nat:=[5,6,18,19,20,21,22,23,24,25,26,27,28,29,30,31,32,33,34,35,36,37,38,39,40,41,42,43,44,45]

def m29_overflightlaw32_two_B0 (sf66:Int→(List XVariable)→Option XProblem) (v_1:Int) (v_2:List XVariable):Option XProblem:=
 bif (decide (v_1<3)) then
  jn (fun(v_3:List XChoice)=>
   ck ((v_2.length+[(⟨v_1,0,[0],v_3⟩:XVariable)].length)*64≤140737488355328)<|
   sf66 (IntKind.wrap .i64 (v_1+1)) (v_2++[(⟨v_1,0,[0],v_3⟩:XVariable)]))
  (fun k113=>
   bif (decide (v_1=0)) then
    ck ((0:Int)≤1∧1<([(⟨0,0,0,[(⟨(⟨false,0,61⟩:XCell),1⟩:XUse)]⟩:XChoice),(⟨10,0,0,[(⟨(⟨false,0,60⟩:XCell),1⟩:XUse),(⟨(⟨false,0,61⟩:XCell),1⟩:XUse)]⟩:XChoice)].length:Int))<|
    k113 ([(⟨0,0,0,[(⟨(⟨false,0,61⟩:XCell),1⟩:XUse)]⟩:XChoice),(⟨10,0,0,[(⟨(⟨false,0,60⟩:XCell),1⟩:XUse),(⟨(⟨false,0,61⟩:XCell),1⟩:XUse)]⟩:XChoice)].set 1 (⟨([(⟨0,0,0,[(⟨(⟨false,0,61⟩:XCell),1⟩:XUse)]⟩:XChoice),(⟨10,0,0,[(⟨(⟨false,0,60⟩:XCell),1⟩:XUse),(⟨(⟨false,0,61⟩:XCell),1⟩:XUse)]⟩:XChoice)].getD 1 default).delay,([(⟨0,0,0,[(⟨(⟨false,0,61⟩:XCell),1⟩:XUse)]⟩:XChoice),(⟨10,0,0,[(⟨(⟨false,0,60⟩:XCell),1⟩:XUse),(⟨(⟨false,0,61⟩:XCell),1⟩:XUse)]⟩:XChoice)].getD 1 default).cost,([(⟨0,0,0,[(⟨(⟨false,0,61⟩:XCell),1⟩:XUse)]⟩:XChoice),(⟨10,0,0,[(⟨(⟨false,0,60⟩:XCell),1⟩:XUse),(⟨(⟨false,0,61⟩:XCell),1⟩:XUse)]⟩:XChoice)].getD 1 default).changes,([]:List XUse)⟩:XChoice))
   else
    k113 [(⟨0,0,0,[(⟨(⟨false,0,61⟩:XCell),1⟩:XUse)]⟩:XChoice),(⟨10,0,0,[(⟨(⟨false,0,60⟩:XCell),1⟩:XUse),(⟨(⟨false,0,61⟩:XCell),1⟩:XUse)]⟩:XChoice)])
 else
  some (⟨[(⟨false,0,60⟩:XCell),(⟨false,0,61⟩:XCell)],[[1,1]],v_2⟩:XProblem)

def m29_overflightlaw32_two:Option XProblem:=
 loop2 m29_overflightlaw32_two_B0 (((3:Int) - 0).toNat+1) 0 ([]:List XVariable)

theorem c29_overflightlaw32_two {w:World} {O:List Nat} (hO:∀k∈O,k<w.heap.size) {x:XProblem} (hm:m29_overflightlaw32_two=some x):
 Ok Try.prog 29 [] w O (vA rXProblem) x:=by
 unfold m29_overflightlaw32_two at hm
 refine Fn_of_Wp (n:=47) (xs:=[.cell 0 26]) Try.func29 rfl Try.ntmps29 Try.results29 rfl ?_
 have hs:=St.start hO
 refine Wp_seq<|Wp_region<|Rop<|op_alloc ty26 hs ?_
 intro b1 w2 _ p3 hs4
 refine Rg_nil<|Wp_seq<|Wp_region<|Rop<|op_build (vs:=[Bo false,Iv 0,Iv 60]) (parts:=[(2,.const (.int .i64 60))]) ty67 pl67 rfl<|Rop<|op_build (vs:=[Bo false,Iv 0,Iv 61]) (parts:=[(2,.const (.int .i64 61))]) ty67 pl67 rfl<|Rop<|op_alloc ty67 hs4 ?_
 intro b6 w7 _ p8 hs9
 clear hs4
 refine Rop<|op_alloc ty67 hs9 ?_
 intro b11 w12 _ p13 hs14
 clear hs9
 refine Rg_op_<|op_stA Put.p1 ty67 hs14 rfl rfl rfl rfl rfl ?_
 intro w16 p17 hs18
 clear hs14
 refine Rg_op_<|op_stA .z ty67 hs18 rfl rfl rfl rfl rfl ?_
 intro w19 p20 hs21
 clear hs18
 refine Rg_nil<|Wp_seq<|Wp_region<|Rop<|op_ldA 0 ty67 hs21 rfl rfl rfl<|Rop<|op_build (vs:=[Bo false,Iv 0,Iv 61,Iv 1]) (parts:=[(0,.tmp 9),(1,.const (.int .i64 1))]) ty76 pl76 rfl<|Rop<|op_buildSlice (cs:=[Bo false,Iv 0,Iv 61,Iv 1]) (parts:=[(0,.tmp 10)]) ty56 ty76 hs21 (by decide) rfl ?_
 intro b22 w23 hx26 p24 hs25
 clear hs21
 refine Asg (Value.slice (some ⟨b22,0,none⟩) 1 1) rfl<|Rg_nil<|Wp_seq<|Wp_region<|Rop<|op_ldA 2 ty67 hs25 rfl rfl rfl<|Rop<|op_ldA 1 ty67 hs25 rfl rfl rfl<|Rop<|op_buildSlice (cs:=[Bo false,Iv 0,Iv 60,Bo false,Iv 0,Iv 61]) (parts:=[(0,.tmp 12),(1,.tmp 13)]) ty22 ty67 hs25 (by decide) rfl ?_
 intro b28 w29 hx32 p30 hs31
 clear hs25
 refine Rop<|op_buildSlice (cs:=[Iv 1,Iv 1]) (parts:=[(0,.const (.int .i64 1)),(1,.const (.int .i64 1))]) ty31 ty3 hs31 (by decide) rfl ?_
 intro b34 w35 hx38 p36 hs37
 clear hs31
 obtain⟨hs41,p42,f40⟩:=St.publish (i:=0) (o:=0) (c:=2) (xs:=[1,1]) hs37 rfl (show Els (rInt .i64) _ _ [Iv 1,Iv 1] [1,1] from⟨_,_,rfl,mk_int (show InK .i64 1 from by decide),⟨_,_,rfl,mk_int (show InK .i64 1 from by decide),Els.nil⟩⟩) (le_lit rfl) (le_lit rfl) (le_lit rfl)
 clear hs37
 refine Rop<|op_buildSlice (cs:=[Sl (some ⟨b34,0,none⟩) [1,1] 2]) (parts:=[(0,.tmp 15)]) ty23 ty31 hs41 (by decide) rfl ?_
 intro b43 w44 hx47 p45 hs46
 clear hs41
 have f49:=Gs.of_cells (p:=rXCell) (e:=67) (bl:=b28) (c:=2) (w:=w44) (O:=ks [(some b43,Oc [Sl (some ⟨b34,0,none⟩) [1,1] 2] 31),(some b28,Oc [Bo false,Iv 0,Iv 60,Bo false,Iv 0,Iv 61] 67),(some b22,Oc [Bo false,Iv 0,Iv 61,Iv 1] 76),(some b11,Oc [Bo false,Iv 0,Iv 61] 67),(some b6,Oc [Bo false,Iv 0,Iv 60] 67),(some b1,Oc [Value.slice none 0 0,Value.slice none 0 0,Value.slice none 0 0] 26)] O) (show Els rXCell _ _ [Bo false,Iv 0,Iv 60,Bo false,Iv 0,Iv 61] [(⟨false,0,60⟩:XCell),(⟨false,0,61⟩:XCell)] from⟨_,_,rfl,mkVia (mk_pair mkBool (mk_pair (mk_int (show InK .i64 0 from by decide)) (mk_int (show InK .i64 60 from by decide)))),⟨_,_,rfl,mkVia (mk_pair mkBool (mk_pair (mk_int (show InK .i64 0 from by decide)) (mk_int (show InK .i64 61 from by decide)))),Els.nil⟩⟩) rfl (le_lit rfl)
 replace f40:=f40.step p45
 have f50:=Gs.of_cells (p:=rSl (rInt .i64)) (e:=31) (bl:=b43) (c:=1) (w:=w44) (O:=ks [(some b43,Oc [Sl (some ⟨b34,0,none⟩) [1,1] 2] 31),(some b28,Obj.cells [Bo false,Iv 0,Iv 60,Bo false,Iv 0,Iv 61].toArray 67),(some b22,Oc [Bo false,Iv 0,Iv 61,Iv 1] 76),(some b11,Oc [Bo false,Iv 0,Iv 61] 67),(some b6,Oc [Bo false,Iv 0,Iv 60] 67),(some b1,Oc [Value.slice none 0 0,Value.slice none 0 0,Value.slice none 0 0] 26)] O) (show Els (rSl (rInt .i64)) _ _ [Sl (some ⟨b34,0,none⟩) [1,1] 2] [[1,1]] from⟨_,_,rfl,mk_sl f40,Els.nil⟩) rfl (le_lit rfl)
 refine Rop<|op_build (vs:=[Sl (some ⟨b28,0,none⟩) [(⟨false,0,60⟩:XCell),(⟨false,0,61⟩:XCell)] 2,Sl (some ⟨b43,0,none⟩) [[1,1]] 1,Value.slice none 0 0]) (parts:=[(0,.tmp 14),(1,.tmp 16)]) ty26 pl26 rfl<|Rop<|op_alloc ty26 hs46 ?_
 intro b51 w52 _ p53 hs54
 clear hs46
 refine Rg_op_<|op_stA .z ty26 hs54 rfl rfl rfl rfl rfl ?_
 intro w56 p57 hs58
 clear hs54
 refine Rg_nil<|Wp_seq<|Wp_seq ?_
 clear f40
 refine Wp_region<|Mve (Iv 0) rfl<|Rg_nil<|Wp_block ?_
 obtain⟨hs60,p61,f59⟩:=St.publish (i:=3) (o:=0) (c:=1) (xs:=[(⟨(⟨false,0,61⟩:XCell),1⟩:XUse)]) hs58 rfl (show Els rXUse _ _ [Bo false,Iv 0,Iv 61,Iv 1] [(⟨(⟨false,0,61⟩:XCell),1⟩:XUse)] from⟨_,_,rfl,mkVia (mk_pair (mkVia (mk_pair mkBool (mk_pair (mk_int (show InK .i64 0 from by decide)) (mk_int (show InK .i64 61 from by decide))))) (mk_int (show InK .i64 1 from by decide))),Els.nil⟩) (le_lit rfl) (le_lit rfl) (le_lit rfl)
 clear hs58
 refine Wr [] [(0,Pt b1 0),(1,Pt b6 0),(2,Pt b11 0),(3,Sl (some ⟨b22,0,none⟩) [(⟨(⟨false,0,61⟩:XCell),1⟩:XUse)] 1),(4,Pt b51 0),(18,Iv 0)] fun ξ65=>?_
 have hs70:=hs60.ghost (Obj.cells #[] 61)
 refine Wp_loopM q29_0 (fun m fr w'=>∃(v_1:Int) (v_2:List XVariable) (Aa:Option Addr) (Ca:Nat) (k_g64:Option Nat) (o_g64:Obj) (Ebs:Ents),Ebs=[(k_g64,o_g64),(some b51,Oc [Sl (some ⟨b28,0,none⟩) [(⟨false,0,60⟩:XCell),(⟨false,0,61⟩:XCell)] 2,Sl (some ⟨b43,0,none⟩) [[1,1]] 1,Sl Aa v_2 Ca] 26),(some b43,Obj.cells [Sl (some ⟨b34,0,none⟩) [1,1] 2].toArray 31),(some b28,Obj.cells [Bo false,Iv 0,Iv 60,Bo false,Iv 0,Iv 61].toArray 67),(some b11,Oc [Bo false,Iv 0,Iv 61] 67),(some b6,Oc [Bo false,Iv 0,Iv 60] 67),(some b1,Oc [Value.slice none 0 0,Value.slice none 0 0,Value.slice none 0 0] 26)]∧fr [] [(18,Iv v_1)]∧hs70.S (ks Ebs O) w'∧St ⟨w,[],[]⟩ O w' Ebs∧InK .i64 v_1∧Gs rXVariable 61 w' (ks Ebs O) Aa Ca v_2 k_g64 o_g64∧loop2 m29_overflightlaw32_two_B0 m v_1 v_2=some x) (((3:Int) - 0).toNat+1) ⟨0,([]:List XVariable),none,0,none,Obj.cells #[] 61,_,rfl,Frm.of ⟨rfl,trivial⟩,Step.refl _ _,hs70,(show InK .i64 0 from by decide),Gs.nil_,hm⟩ ?_ ?_
 rintro _ _ ⟨_,_,_,_,_,_,_,_,_,_,_,_,_,hm⟩;exact loop2_z hm
 rintro m69 K68 hK68 ρ76 w72 ⟨v_1,v_2,Aa,Ca,k_g64,o_g64,_,rfl,hfr75,hst74,hs73,Ra,Fa,hm⟩
 obtain⟨sf66,hsf67,hm⟩:=loop2_s hm;unfold m29_overflightlaw32_two_B0 at hm
 rw [hfr75.eq];clear hfr75
 have ch77:=hst74
 refine Wp_seq<|Wp_region<|Rop<|op_lss rfl rfl<|Rg_nil<|Wp_seq<|Wp_condM hm rfl (fun hc78 hm=>?_) (fun hc78 hm=>?_)
 refine Wp_skip<|Wp_seq<|Wp_block<|Wp_seq<|Wp_region<|Mve (Iv v_1) rfl<|Asg (Iv v_1) rfl<|Rg_nil<|Wp_seq<|Wp_region<|Mve (Iv v_1) rfl<|Rop<|op_buildSlice (cs:=[Iv 0]) (parts:=[(0,.const (.int .i64 0))]) ty31 ty3 hs73 (by decide) rfl ?_
 intro b79 w80 hx83 p81 hs82
 clear hs73
 refine Mve (Sl (some ⟨b22,0,none⟩) [(⟨(⟨false,0,61⟩:XCell),1⟩:XUse)] 1) rfl<|Rop<|op_build (vs:=[Iv 0,Iv 0,Iv 0,Sl (some ⟨b22,0,none⟩) [(⟨(⟨false,0,61⟩:XCell),1⟩:XUse)] 1]) (parts:=[(3,.tmp 23)]) ty58 pl58 rfl<|Rop<|op_ldA 6 ty67 hs82 rfl rfl rfl<|Rop<|op_build (vs:=[Bo false,Iv 0,Iv 60,Iv 1]) (parts:=[(0,.tmp 25),(1,.const (.int .i64 1))]) ty76 pl76 rfl<|Rop<|op_ldA 5 ty67 hs82 rfl rfl rfl<|Rop<|op_build (vs:=[Bo false,Iv 0,Iv 61,Iv 1]) (parts:=[(0,.tmp 27),(1,.const (.int .i64 1))]) ty76 pl76 rfl<|Rop<|op_buildSlice (cs:=[Bo false,Iv 0,Iv 60,Iv 1,Bo false,Iv 0,Iv 61,Iv 1]) (parts:=[(0,.tmp 26),(1,.tmp 28)]) ty56 ty76 hs82 (by decide) rfl ?_
 intro b85 w86 hx89 p87 hs88
 clear hs82
 have f91:=Gs.of_cells (p:=rXUse) (e:=76) (bl:=b85) (c:=2) (w:=w86) (O:=ks [(some b85,Oc [Bo false,Iv 0,Iv 60,Iv 1,Bo false,Iv 0,Iv 61,Iv 1] 76),(some b79,Oc [Iv 0] 3),(k_g64,o_g64),(some b51,Oc [Sl (some ⟨b28,0,none⟩) [(⟨false,0,60⟩:XCell),(⟨false,0,61⟩:XCell)] 2,Sl (some ⟨b43,0,none⟩) [[1,1]] 1,Sl Aa v_2 Ca] 26),(some b43,Obj.cells [Sl (some ⟨b34,0,none⟩) [1,1] 2].toArray 31),(some b28,Obj.cells [Bo false,Iv 0,Iv 60,Bo false,Iv 0,Iv 61].toArray 67),(some b11,Oc [Bo false,Iv 0,Iv 61] 67),(some b6,Oc [Bo false,Iv 0,Iv 60] 67),(some b1,Oc [Value.slice none 0 0,Value.slice none 0 0,Value.slice none 0 0] 26)] O) (show Els rXUse _ _ [Bo false,Iv 0,Iv 60,Iv 1,Bo false,Iv 0,Iv 61,Iv 1] [(⟨(⟨false,0,60⟩:XCell),1⟩:XUse),(⟨(⟨false,0,61⟩:XCell),1⟩:XUse)] from⟨_,_,rfl,mkVia (mk_pair (mkVia (mk_pair mkBool (mk_pair (mk_int (show InK .i64 0 from by decide)) (mk_int (show InK .i64 60 from by decide))))) (mk_int (show InK .i64 1 from by decide))),⟨_,_,rfl,mkVia (mk_pair (mkVia (mk_pair mkBool (mk_pair (mk_int (show InK .i64 0 from by decide)) (mk_int (show InK .i64 61 from by decide))))) (mk_int (show InK .i64 1 from by decide))),Els.nil⟩⟩) rfl (le_lit rfl)
 refine Rop<|op_build (vs:=[Iv 10,Iv 0,Iv 0,Sl (some ⟨b85,0,none⟩) [(⟨(⟨false,0,60⟩:XCell),1⟩:XUse),(⟨(⟨false,0,61⟩:XCell),1⟩:XUse)] 2]) (parts:=[(0,.const (.int .i64 10)),(3,.tmp 29)]) ty58 pl58 rfl ?_
 obtain⟨hs93,p94,f92⟩:=Gs.publish (i:=0) hs88 rfl f91
 clear hs88
 refine Rop<|op_buildSlice (cs:=[Iv 0,Iv 0,Iv 0,Sl (some ⟨b22,0,none⟩) [(⟨(⟨false,0,61⟩:XCell),1⟩:XUse)] 1,Iv 10,Iv 0,Iv 0,Sl (some ⟨b85,0,none⟩) [(⟨(⟨false,0,60⟩:XCell),1⟩:XUse),(⟨(⟨false,0,61⟩:XCell),1⟩:XUse)] 2]) (parts:=[(0,.tmp 24),(1,.tmp 30)]) ty59 ty58 hs93 (by decide) rfl ?_
 intro b95 w96 hx99 p97 hs98
 clear hs93
 have f101:=Gs.of_cells (p:=(rInt .i64)) (e:=3) (bl:=b79) (c:=1) (w:=w96) (O:=ks [(some b95,Oc [Iv 0,Iv 0,Iv 0,Sl (some ⟨b22,0,none⟩) [(⟨(⟨false,0,61⟩:XCell),1⟩:XUse)] 1,Iv 10,Iv 0,Iv 0,Sl (some ⟨b85,0,none⟩) [(⟨(⟨false,0,60⟩:XCell),1⟩:XUse),(⟨(⟨false,0,61⟩:XCell),1⟩:XUse)] 2] 58),(some b79,Oc [Iv 0] 3),(k_g64,o_g64),(some b51,Oc [Sl (some ⟨b28,0,none⟩) [(⟨false,0,60⟩:XCell),(⟨false,0,61⟩:XCell)] 2,Sl (some ⟨b43,0,none⟩) [[1,1]] 1,Sl Aa v_2 Ca] 26),(some b43,Obj.cells [Sl (some ⟨b34,0,none⟩) [1,1] 2].toArray 31),(some b28,Obj.cells [Bo false,Iv 0,Iv 60,Bo false,Iv 0,Iv 61].toArray 67),(some b11,Oc [Bo false,Iv 0,Iv 61] 67),(some b6,Oc [Bo false,Iv 0,Iv 60] 67),(some b1,Oc [Value.slice none 0 0,Value.slice none 0 0,Value.slice none 0 0] 26)] O) (show Els (rInt .i64) _ _ [Iv 0] [0] from⟨_,_,rfl,mk_int (show InK .i64 0 from by decide),Els.nil⟩) rfl (le_lit rfl)
 replace f59:=f59.step (hst74.trans (p81.trans (p87.trans (p94.trans p97))));replace f92:=f92.step p97
 have f102:=Gs.of_cells (p:=rXChoice) (e:=58) (bl:=b95) (c:=2) (w:=w96) (O:=ks [(some b95,Oc [Iv 0,Iv 0,Iv 0,Sl (some ⟨b22,0,none⟩) [(⟨(⟨false,0,61⟩:XCell),1⟩:XUse)] 1,Iv 10,Iv 0,Iv 0,Sl (some ⟨b85,0,none⟩) [(⟨(⟨false,0,60⟩:XCell),1⟩:XUse),(⟨(⟨false,0,61⟩:XCell),1⟩:XUse)] 2] 58),(some b79,Obj.cells [Iv 0].toArray 3),(k_g64,o_g64),(some b51,Oc [Sl (some ⟨b28,0,none⟩) [(⟨false,0,60⟩:XCell),(⟨false,0,61⟩:XCell)] 2,Sl (some ⟨b43,0,none⟩) [[1,1]] 1,Sl Aa v_2 Ca] 26),(some b43,Obj.cells [Sl (some ⟨b34,0,none⟩) [1,1] 2].toArray 31),(some b28,Obj.cells [Bo false,Iv 0,Iv 60,Bo false,Iv 0,Iv 61].toArray 67),(some b11,Oc [Bo false,Iv 0,Iv 61] 67),(some b6,Oc [Bo false,Iv 0,Iv 60] 67),(some b1,Oc [Value.slice none 0 0,Value.slice none 0 0,Value.slice none 0 0] 26)] O) (show Els rXChoice _ _ [Iv 0,Iv 0,Iv 0,Sl (some ⟨b22,0,none⟩) [(⟨(⟨false,0,61⟩:XCell),1⟩:XUse)] 1,Iv 10,Iv 0,Iv 0,Sl (some ⟨b85,0,none⟩) [(⟨(⟨false,0,60⟩:XCell),1⟩:XUse),(⟨(⟨false,0,61⟩:XCell),1⟩:XUse)] 2] [(⟨0,0,0,[(⟨(⟨false,0,61⟩:XCell),1⟩:XUse)]⟩:XChoice),(⟨10,0,0,[(⟨(⟨false,0,60⟩:XCell),1⟩:XUse),(⟨(⟨false,0,61⟩:XCell),1⟩:XUse)]⟩:XChoice)] from⟨_,_,rfl,mkVia (mk_pair (mk_int (show InK .i64 0 from by decide)) (mk_pair (mk_int (show InK .i64 0 from by decide)) (mk_pair (mk_int (show InK .i64 0 from by decide)) (mk_sl f59)))),⟨_,_,rfl,mkVia (mk_pair (mk_int (show InK .i64 10 from by decide)) (mk_pair (mk_int (show InK .i64 0 from by decide)) (mk_pair (mk_int (show InK .i64 0 from by decide)) (mk_sl f92)))),Els.nil⟩⟩) rfl (le_lit rfl)
 refine Rop<|op_build (vs:=[Iv v_1,Iv 0,Sl (some ⟨b79,0,none⟩) [0] 1,Sl (some ⟨b95,0,none⟩) [(⟨0,0,0,[(⟨(⟨false,0,61⟩:XCell),1⟩:XUse)]⟩:XChoice),(⟨10,0,0,[(⟨(⟨false,0,60⟩:XCell),1⟩:XUse),(⟨(⟨false,0,61⟩:XCell),1⟩:XUse)]⟩:XChoice)] 2]) (parts:=[(0,.tmp 21),(2,.tmp 22),(3,.tmp 31)]) ty61 pl61 rfl<|Rop<|op_alloc ty61 hs98 ?_
 intro b103 w104 _ p105 hs106
 clear hs98
 refine Rg_op_<|op_stA .z ty61 hs106 rfl rfl rfl rfl rfl ?_
 intro w108 p109 hs110
 clear hs106
 refine Rg_nil<|Wr2 q29_0 [] (updL ⟨ξ65,[]⟩ [(0,Pt b1 0),(1,Pt b6 0),(2,Pt b11 0),(3,Sl (some ⟨b22,0,none⟩) [(⟨(⟨false,0,61⟩:XCell),1⟩:XUse)] 1),(4,Pt b51 0),(18,Iv 0)]) [(5,Iv v_1),(6,Pt b103 0),(18,Iv v_1)] fun ξ111=>?_
 obtain⟨k113,hk114,hm⟩:=jn_elim hm
 refine Wp_seqJ [33,34,35,36,37,38] (fun fr w'=>∃(v_3:List XChoice) (Ab:Option Addr) (Cb:Nat) (k_g112:Option Nat) (o_g112:Obj) (Ebs:Ents),Ebs=[(some b103,Oc [Iv v_1,Iv 0,Sl (some ⟨b79,0,none⟩) [0] 1,Sl Ab v_3 Cb] 61),(k_g112,o_g112),(some b79,Obj.cells [Iv 0].toArray 3),(k_g64,o_g64),(some b51,Oc [Sl (some ⟨b28,0,none⟩) [(⟨false,0,60⟩:XCell),(⟨false,0,61⟩:XCell)] 2,Sl (some ⟨b43,0,none⟩) [[1,1]] 1,Sl Aa v_2 Ca] 26),(some b43,Obj.cells [Sl (some ⟨b34,0,none⟩) [1,1] 2].toArray 31),(some b28,Obj.cells [Bo false,Iv 0,Iv 60,Bo false,Iv 0,Iv 61].toArray 67),(some b11,Oc [Bo false,Iv 0,Iv 61] 67),(some b6,Oc [Bo false,Iv 0,Iv 60] 67),(some b1,Oc [Value.slice none 0 0,Value.slice none 0 0,Value.slice none 0 0] 26)]∧fr [] []∧hs110.S (ks Ebs O) w'∧St ⟨w,[],[]⟩ O w' Ebs∧Gs rXChoice 58 w' (ks Ebs O) Ab Cb v_3 k_g112 o_g112∧k113 v_3=some x) ?_ ?_
 rintro ρ120 w116 ⟨v_3,Ab,Cb,k_g112,o_g112,_,rfl,hfr119,hst118,hs117,Fb,hm⟩
 replace hm:=jnE1 hk114 hm
 rw [hfr119.eq];clear hfr119
 clear f92 f102
 refine Wp_region<|Rop<|op_fA 2 ty26 rfl ty24 rfl rfl<|Rop<|op_ld 4 ty24 hs117 rfl rfl rfl<|Rop<|op_ldA 0 ty61 hs117 rfl rfl rfl ?_
 have p124:=(p105.trans (p109.trans hst118))
 replace f101:=f101.step p124
 obtain⟨hs122,p123,f121⟩:=Gs.publish (i:=2) hs117 rfl f101
 clear hs117
 replace Fb:=Fb.step p123
 obtain⟨hs126,p127,f125⟩:=Gs.publish (i:=1) hs122 rfl Fb
 clear hs122
 refine Rop<|op_buildSlice (cs:=[Iv v_1,Iv 0,Sl (some ⟨b79,0,none⟩) [0] 1,Sl Ab v_3 Cb]) (parts:=[(0,.tmp 41)]) ty24 ty61 hs126 (by decide) rfl ?_
 intro b128 w129 hx132 p130 hs131
 clear hs126
 obtain⟨hc134,hm⟩:=ck_some hm
 replace f121:=f121.step (p127.trans p130);replace f125:=f125.step p130
 have p143:=(p81.trans (p87.trans (p94.trans (p97.trans (p105.trans (p109.trans (hst118.trans (p123.trans (p127.trans p130)))))))))
 replace Fa:=Fa.step p143
 refine Rop (op_append (q:=rXVariable) (i:=2) (xs:=v_2) (ys:=[(⟨v_1,0,[0],v_3⟩:XVariable)]) (news:=[Iv v_1,Iv 0,Sl (some ⟨b79,0,none⟩) [0] 1,Sl Ab v_3 Cb]) ty24 ty61 rfl (by decide) hs131 rfl rfl Fa rfl (Src.owned' (len:=4) (hs131.get (i:=0) rfl) rfl) (show Els rXVariable _ _ [Iv v_1,Iv 0,Sl (some ⟨b79,0,none⟩) [0] 1,Sl Ab v_3 Cb] [(⟨v_1,0,[0],v_3⟩:XVariable)] from⟨_,_,rfl,mkVia (mk_pair (mk_int Ra) (mk_pair (mk_int (show InK .i64 0 from by decide)) (mk_pair (mk_sl f121) (mk_sl f125)))),Els.nil⟩) hc134 (by have:=hc134;simp only [maxLen];omega) ?_)
 intro a138 c139 k140 o141 w135 p136 hs137 f142
 clear hs131
 have hs144:=hs137.drop 0
 have p145:=(hs137.dropS 0)
 clear hs137
 refine Rop<|op_fA 2 ty26 rfl ty24 rfl rfl<|Rg_op_<|op_stC (Sl a138 (v_2++[(⟨v_1,0,[0],v_3⟩:XVariable)]) c139) (cs':=[Sl (some ⟨b28,0,none⟩) [(⟨false,0,60⟩:XCell),(⟨false,0,61⟩:XCell)] 2,Sl (some ⟨b43,0,none⟩) [[1,1]] 1,Sl a138 (v_2++[(⟨v_1,0,[0],v_3⟩:XVariable)]) c139]) Put.p2 ty24 hs144 rfl rfl rfl (le_lit rfl) rfl rfl ?_
 intro w146 p147 hs148
 clear hs144
 refine Rg_nil<|Wp_region<|Rop<|op_addw rfl rfl<|Mve (Iv (IntKind.wrap .i64 (v_1+1))) rfl<|Rg_nil ?_
 have hs149:=hs148.drop 0
 have p150:=(hs148.dropS 0)
 clear hs148
 replace ch77:=ch77.trans (p143.trans (p136.trans (p145.trans (p147.trans p150))))
 replace f142:=f142.step (p145.trans (p147.trans p150))
 exact hK68 _ _ ⟨(IntKind.wrap .i64 (v_1+1)),v_2++[(⟨v_1,0,[0],v_3⟩:XVariable)],a138,c139,k140,o141,_,rfl,Frm.of ⟨rfl,trivial⟩,ch77,hs149,(inK_wrap .i64 _),f142,jnE2 hsf67 hm⟩
 intro K115 hK115
 have ch151:=hs110.stepR
 refine Wp_seq ?_
 clear f92
 refine Wp_region<|Mve (Iv v_1) rfl<|Rop<|op_eql rfl rfl<|Rg_nil<|Wp_condM hm rfl (fun hc152 hm=>?_) (fun hc152 hm=>?_)
 refine Wp_region<|Rop<|op_fA 3 ty61 rfl ty59 rfl rfl<|Rop<|op_ld 0 ty59 hs110 rfl rfl rfl ?_
 obtain⟨hc153,hm⟩:=ck_some hm
 have p155:=(p105.trans p109)
 replace f102:=f102.step p155
 refine Rop<|op_indexAddrG ty59 ty58 rfl rfl f102 hc153 ?_
 rintro _ ⟨⟩ -
 refine Rop<|op_fieldAddr ty58 rfl ty56 (by decide) rfl (rfl:_=(⟨_,1*4+3,none⟩:Addr)) ?_
 have hr161:∀vs,Rp.rd rXChoice w108 (ks [(some b103,Oc [Iv v_1,Iv 0,Sl (some ⟨b79,0,none⟩) [0] 1,Sl (some ⟨b95,0,none⟩) [(⟨0,0,0,[(⟨(⟨false,0,61⟩:XCell),1⟩:XUse)]⟩:XChoice),(⟨10,0,0,[(⟨(⟨false,0,60⟩:XCell),1⟩:XUse),(⟨(⟨false,0,61⟩:XCell),1⟩:XUse)]⟩:XChoice)] 2] 61),(some b95,Obj.cells [Iv 0,Iv 0,Iv 0,Sl (some ⟨b22,0,none⟩) [(⟨(⟨false,0,61⟩:XCell),1⟩:XUse)] 1,Iv 10,Iv 0,Iv 0,Sl (some ⟨b85,0,none⟩) [(⟨(⟨false,0,60⟩:XCell),1⟩:XUse),(⟨(⟨false,0,61⟩:XCell),1⟩:XUse)] 2].toArray 58),(some b79,Obj.cells [Iv 0].toArray 3),(k_g64,o_g64),(some b51,Oc [Sl (some ⟨b28,0,none⟩) [(⟨false,0,60⟩:XCell),(⟨false,0,61⟩:XCell)] 2,Sl (some ⟨b43,0,none⟩) [[1,1]] 1,Sl Aa v_2 Ca] 26),(some b43,Obj.cells [Sl (some ⟨b34,0,none⟩) [1,1] 2].toArray 31),(some b28,Obj.cells [Bo false,Iv 0,Iv 60,Bo false,Iv 0,Iv 61].toArray 67),(some b11,Oc [Bo false,Iv 0,Iv 61] 67),(some b6,Oc [Bo false,Iv 0,Iv 60] 67),(some b1,Oc [Value.slice none 0 0,Value.slice none 0 0,Value.slice none 0 0] 26)] O) vs ([(⟨0,0,0,[(⟨(⟨false,0,61⟩:XCell),1⟩:XUse)]⟩:XChoice),(⟨10,0,0,[(⟨(⟨false,0,60⟩:XCell),1⟩:XUse),(⟨(⟨false,0,61⟩:XCell),1⟩:XUse)]⟩:XChoice)].getD 1 default)→Rp.rd rXChoice w108 (ks [(some b103,Oc [Iv v_1,Iv 0,Sl (some ⟨b79,0,none⟩) [0] 1,Sl (some ⟨b95,0,none⟩) [(⟨0,0,0,[(⟨(⟨false,0,61⟩:XCell),1⟩:XUse)]⟩:XChoice),(⟨10,0,0,[(⟨(⟨false,0,60⟩:XCell),1⟩:XUse),(⟨(⟨false,0,61⟩:XCell),1⟩:XUse)]⟩:XChoice)] 2] 61),(some b95,Obj.cells [Iv 0,Iv 0,Iv 0,Sl (some ⟨b22,0,none⟩) [(⟨(⟨false,0,61⟩:XCell),1⟩:XUse)] 1,Iv 10,Iv 0,Iv 0,Sl (some ⟨b85,0,none⟩) [(⟨(⟨false,0,60⟩:XCell),1⟩:XUse),(⟨(⟨false,0,61⟩:XCell),1⟩:XUse)] 2].toArray 58),(some b79,Obj.cells [Iv 0].toArray 3),(k_g64,o_g64),(some b51,Oc [Sl (some ⟨b28,0,none⟩) [(⟨false,0,60⟩:XCell),(⟨false,0,61⟩:XCell)] 2,Sl (some ⟨b43,0,none⟩) [[1,1]] 1,Sl Aa v_2 Ca] 26),(some b43,Obj.cells [Sl (some ⟨b34,0,none⟩) [1,1] 2].toArray 31),(some b28,Obj.cells [Bo false,Iv 0,Iv 60,Bo false,Iv 0,Iv 61].toArray 67),(some b11,Oc [Bo false,Iv 0,Iv 61] 67),(some b6,Oc [Bo false,Iv 0,Iv 60] 67),(some b1,Oc [Value.slice none 0 0,Value.slice none 0 0,Value.slice none 0 0] 26)] O) (vs.set 3 (Value.slice none 0 0)) (⟨([(⟨0,0,0,[(⟨(⟨false,0,61⟩:XCell),1⟩:XUse)]⟩:XChoice),(⟨10,0,0,[(⟨(⟨false,0,60⟩:XCell),1⟩:XUse),(⟨(⟨false,0,61⟩:XCell),1⟩:XUse)]⟩:XChoice)].getD 1 default).delay,([(⟨0,0,0,[(⟨(⟨false,0,61⟩:XCell),1⟩:XUse)]⟩:XChoice),(⟨10,0,0,[(⟨(⟨false,0,60⟩:XCell),1⟩:XUse),(⟨(⟨false,0,61⟩:XCell),1⟩:XUse)]⟩:XChoice)].getD 1 default).cost,([(⟨0,0,0,[(⟨(⟨false,0,61⟩:XCell),1⟩:XUse)]⟩:XChoice),(⟨10,0,0,[(⟨(⟨false,0,60⟩:XCell),1⟩:XUse),(⟨(⟨false,0,61⟩:XCell),1⟩:XUse)]⟩:XChoice)].getD 1 default).changes,([]:List XUse)⟩:XChoice):=by
  intro vs162 h163
  obtain⟨_,_,rfl,⟨rfl,Rb⟩,⟨_,_,rfl,⟨rfl,Rc⟩,⟨_,_,rfl,⟨rfl,Rd⟩,⟨Ac,Cc,rfl,Fc⟩⟩⟩⟩:=h163
  exact(mkVia (mk_pair (mk_int Rb) (mk_pair (mk_int Rc) (mk_pair (mk_int Rd) (mk_sl SlR.nil_)))))
 refine Rg_op_<|op_storeGF (m:=1) (nn:=4) (off:=3) (i:=1) ty56 rfl hs110 rfl rfl rfl rfl rfl f102 hc153 (by decide) hr161 ?_
 intro w156 o159 p157 hs158 f160;clear hr161
 refine Rg_nil ?_
 have q165: [(⟨0,0,0,[(⟨(⟨false,0,61⟩:XCell),1⟩:XUse)]⟩:XChoice),(⟨10,0,0,[(⟨(⟨false,0,60⟩:XCell),1⟩:XUse),(⟨(⟨false,0,61⟩:XCell),1⟩:XUse)]⟩:XChoice)].length=([(⟨0,0,0,[(⟨(⟨false,0,61⟩:XCell),1⟩:XUse)]⟩:XChoice),(⟨10,0,0,[(⟨(⟨false,0,60⟩:XCell),1⟩:XUse),(⟨(⟨false,0,61⟩:XCell),1⟩:XUse)]⟩:XChoice)].set 1 (⟨([(⟨0,0,0,[(⟨(⟨false,0,61⟩:XCell),1⟩:XUse)]⟩:XChoice),(⟨10,0,0,[(⟨(⟨false,0,60⟩:XCell),1⟩:XUse),(⟨(⟨false,0,61⟩:XCell),1⟩:XUse)]⟩:XChoice)].getD 1 default).delay,([(⟨0,0,0,[(⟨(⟨false,0,61⟩:XCell),1⟩:XUse)]⟩:XChoice),(⟨10,0,0,[(⟨(⟨false,0,60⟩:XCell),1⟩:XUse),(⟨(⟨false,0,61⟩:XCell),1⟩:XUse)]⟩:XChoice)].getD 1 default).cost,([(⟨0,0,0,[(⟨(⟨false,0,61⟩:XCell),1⟩:XUse)]⟩:XChoice),(⟨10,0,0,[(⟨(⟨false,0,60⟩:XCell),1⟩:XUse),(⟨(⟨false,0,61⟩:XCell),1⟩:XUse)]⟩:XChoice)].getD 1 default).changes,([]:List XUse)⟩:XChoice)).length:=(show [(⟨0,0,0,[(⟨(⟨false,0,61⟩:XCell),1⟩:XUse)]⟩:XChoice),(⟨10,0,0,[(⟨(⟨false,0,60⟩:XCell),1⟩:XUse),(⟨(⟨false,0,61⟩:XCell),1⟩:XUse)]⟩:XChoice)].length=([(⟨0,0,0,[(⟨(⟨false,0,61⟩:XCell),1⟩:XUse)]⟩:XChoice),(⟨10,0,0,[(⟨(⟨false,0,60⟩:XCell),1⟩:XUse),(⟨(⟨false,0,61⟩:XCell),1⟩:XUse)]⟩:XChoice)].set 1 (⟨([(⟨0,0,0,[(⟨(⟨false,0,61⟩:XCell),1⟩:XUse)]⟩:XChoice),(⟨10,0,0,[(⟨(⟨false,0,60⟩:XCell),1⟩:XUse),(⟨(⟨false,0,61⟩:XCell),1⟩:XUse)]⟩:XChoice)].getD 1 default).delay,([(⟨0,0,0,[(⟨(⟨false,0,61⟩:XCell),1⟩:XUse)]⟩:XChoice),(⟨10,0,0,[(⟨(⟨false,0,60⟩:XCell),1⟩:XUse),(⟨(⟨false,0,61⟩:XCell),1⟩:XUse)]⟩:XChoice)].getD 1 default).cost,([(⟨0,0,0,[(⟨(⟨false,0,61⟩:XCell),1⟩:XUse)]⟩:XChoice),(⟨10,0,0,[(⟨(⟨false,0,60⟩:XCell),1⟩:XUse),(⟨(⟨false,0,61⟩:XCell),1⟩:XUse)]⟩:XChoice)].getD 1 default).changes,([]:List XUse)⟩:XChoice)).length from by first |(simp;done) |(simp;omega))
 have hs166:St ⟨w,[],[]⟩ O w156 [(some b103,Oc [Iv v_1,Iv 0,Sl (some ⟨b79,0,none⟩) [0] 1,Sl (some ⟨b95,0,none⟩) ([(⟨0,0,0,[(⟨(⟨false,0,61⟩:XCell),1⟩:XUse)]⟩:XChoice),(⟨10,0,0,[(⟨(⟨false,0,60⟩:XCell),1⟩:XUse),(⟨(⟨false,0,61⟩:XCell),1⟩:XUse)]⟩:XChoice)].set 1 (⟨([(⟨0,0,0,[(⟨(⟨false,0,61⟩:XCell),1⟩:XUse)]⟩:XChoice),(⟨10,0,0,[(⟨(⟨false,0,60⟩:XCell),1⟩:XUse),(⟨(⟨false,0,61⟩:XCell),1⟩:XUse)]⟩:XChoice)].getD 1 default).delay,([(⟨0,0,0,[(⟨(⟨false,0,61⟩:XCell),1⟩:XUse)]⟩:XChoice),(⟨10,0,0,[(⟨(⟨false,0,60⟩:XCell),1⟩:XUse),(⟨(⟨false,0,61⟩:XCell),1⟩:XUse)]⟩:XChoice)].getD 1 default).cost,([(⟨0,0,0,[(⟨(⟨false,0,61⟩:XCell),1⟩:XUse)]⟩:XChoice),(⟨10,0,0,[(⟨(⟨false,0,60⟩:XCell),1⟩:XUse),(⟨(⟨false,0,61⟩:XCell),1⟩:XUse)]⟩:XChoice)].getD 1 default).changes,([]:List XUse)⟩:XChoice)) 2] 61),(some b95,o159),(some b79,Obj.cells [Iv 0].toArray 3),(k_g64,o_g64),(some b51,Oc [Sl (some ⟨b28,0,none⟩) [(⟨false,0,60⟩:XCell),(⟨false,0,61⟩:XCell)] 2,Sl (some ⟨b43,0,none⟩) [[1,1]] 1,Sl Aa v_2 Ca] 26),(some b43,Obj.cells [Sl (some ⟨b34,0,none⟩) [1,1] 2].toArray 31),(some b28,Obj.cells [Bo false,Iv 0,Iv 60,Bo false,Iv 0,Iv 61].toArray 67),(some b11,Oc [Bo false,Iv 0,Iv 61] 67),(some b6,Oc [Bo false,Iv 0,Iv 60] 67),(some b1,Oc [Value.slice none 0 0,Value.slice none 0 0,Value.slice none 0 0] 26)]:=by unfold Sl;rw [← q165];exact hs158
 have p167:=St.stepR hs166
 clear hs158
 replace ch151:=ch151.trans (p157.trans p167);replace f160:=f160.step p167
 exact hK115 _ _ ⟨[(⟨0,0,0,[(⟨(⟨false,0,61⟩:XCell),1⟩:XUse)]⟩:XChoice),(⟨10,0,0,[(⟨(⟨false,0,60⟩:XCell),1⟩:XUse),(⟨(⟨false,0,61⟩:XCell),1⟩:XUse)]⟩:XChoice)].set 1 (⟨([(⟨0,0,0,[(⟨(⟨false,0,61⟩:XCell),1⟩:XUse)]⟩:XChoice),(⟨10,0,0,[(⟨(⟨false,0,60⟩:XCell),1⟩:XUse),(⟨(⟨false,0,61⟩:XCell),1⟩:XUse)]⟩:XChoice)].getD 1 default).delay,([(⟨0,0,0,[(⟨(⟨false,0,61⟩:XCell),1⟩:XUse)]⟩:XChoice),(⟨10,0,0,[(⟨(⟨false,0,60⟩:XCell),1⟩:XUse),(⟨(⟨false,0,61⟩:XCell),1⟩:XUse)]⟩:XChoice)].getD 1 default).cost,([(⟨0,0,0,[(⟨(⟨false,0,61⟩:XCell),1⟩:XUse)]⟩:XChoice),(⟨10,0,0,[(⟨(⟨false,0,60⟩:XCell),1⟩:XUse),(⟨(⟨false,0,61⟩:XCell),1⟩:XUse)]⟩:XChoice)].getD 1 default).changes,([]:List XUse)⟩:XChoice),some ⟨b95,0,none⟩,2,some b95,o159,_,rfl,Frm.of trivial,ch151,hs166,f160,hm⟩
 refine Wp_skip ?_
 have p168:=(p105.trans p109)
 replace f102:=f102.step p168
 exact hK115 _ _ ⟨[(⟨0,0,0,[(⟨(⟨false,0,61⟩:XCell),1⟩:XUse)]⟩:XChoice),(⟨10,0,0,[(⟨(⟨false,0,60⟩:XCell),1⟩:XUse),(⟨(⟨false,0,61⟩:XCell),1⟩:XUse)]⟩:XChoice)],some ⟨b95,0,none⟩,2,some b95,Obj.cells [Iv 0,Iv 0,Iv 0,Sl (some ⟨b22,0,none⟩) [(⟨(⟨false,0,61⟩:XCell),1⟩:XUse)] 1,Iv 10,Iv 0,Iv 0,Sl (some ⟨b85,0,none⟩) [(⟨(⟨false,0,60⟩:XCell),1⟩:XUse),(⟨(⟨false,0,61⟩:XCell),1⟩:XUse)] 2].toArray 58,_,rfl,Frm.of trivial,ch151,hs110,f102,hm⟩
 refine Wp_exit<|Wp_seq ?_
 obtain⟨hs169,p170⟩:=hs73.sub (bs':=[(k_g64,o_g64),(some b51,Oc [Sl (some ⟨b28,0,none⟩) [(⟨false,0,60⟩:XCell),(⟨false,0,61⟩:XCell)] 2,Sl (some ⟨b43,0,none⟩) [[1,1]] 1,Sl Aa v_2 Ca] 26),(some b43,Obj.cells [Sl (some ⟨b34,0,none⟩) [1,1] 2].toArray 31),(some b28,Obj.cells [Bo false,Iv 0,Iv 60,Bo false,Iv 0,Iv 61].toArray 67),(some b1,Oc [Value.slice none 0 0,Value.slice none 0 0,Value.slice none 0 0] 26)]) (.cons_cons _ (.cons_cons _ (.cons_cons _ (.cons_cons _ (.cons _ (.cons _ (.cons_cons _ List.Sublist.slnil)))))))
 clear f59
 clear hs73
 refine Wp_region<|Rop<|op_ldA 1 ty26 hs169 rfl rfl rfl<|Rg_op_<|op_stA Put.p4 ty26 hs169 rfl rfl rfl rfl rfl ?_
 intro w171 p172 hs173
 clear hs169
 refine Rg_nil<|Wp_ret ?_
 have p177:=(p53.trans (p57.trans (p61.trans (hst74.trans (p170.trans p172)))))
 replace f49:=f49.step p177
 obtain⟨hs175,p176,f174⟩:=Gs.publish (i:=3) hs173 rfl f49
 clear hs173
 replace f50:=f50.step (p177.trans p176)
 obtain⟨hs179,p180,f178⟩:=Gs.publish (i:=2) hs175 rfl f50
 clear hs175
 have p184:=(p170.trans (p172.trans (p176.trans p180)))
 replace Fa:=Fa.step p184
 obtain⟨hs182,p183,f181⟩:=Gs.publish (i:=0) hs179 rfl Fa
 clear hs179
 have hz:=step_all hs182
 refine⟨_,Clo,[Value.agg [Sl (some ⟨b28,0,none⟩) [(⟨false,0,60⟩:XCell),(⟨false,0,61⟩:XCell)] 2,Sl (some ⟨b43,0,none⟩) [[1,1]] 1,Sl Aa v_2 Ca].toArray],⟨resA (cs:=[Sl (some ⟨b28,0,none⟩) [(⟨false,0,60⟩:XCell),(⟨false,0,61⟩:XCell)] 2,Sl (some ⟨b43,0,none⟩) [[1,1]] 1,Sl Aa v_2 Ca]) (vs:=[Sl (some ⟨b28,0,none⟩) [(⟨false,0,60⟩:XCell),(⟨false,0,61⟩:XCell)] 2,Sl (some ⟨b43,0,none⟩) [[1,1]] 1,Sl Aa v_2 Ca]) ty26 (i:=1) hs182 rfl rfl rfl rfl,trivial⟩,hs182.ext,?_⟩
 replace f174:=f174.step (p180.trans (p183.trans hz))
 replace f178:=f178.step (p183.trans hz);replace f181:=f181.step hz
 exact Vr.eq (a:=vA rXProblem) (x:=(⟨[(⟨false,0,60⟩:XCell),(⟨false,0,61⟩:XCell)],[[1,1]],v_2⟩:XProblem)) (mkA (mkVia (mk_pair (mk_sl f174) (mk_pair (mk_sl f178) (mk_sl f181))))) (oi hm)

abbrev q10_2:List Nat:=[63,64,65,66,67,68,69,70,71,72,73,74]

abbrev q10_1:List Nat:=[0,120,121,122,123,124,125,126,127,128,129,130,131,132,133,134,135,136,137,138,139,140,141,142,143,144,145,146,147,148,149,150,151,152,153,154,155,156,157,158,159,160,161,162,163,164,165,166,167,168,169,170,171,172,173,174,175,176,177,178]

abbrev q10_0:List Nat:=[87,88,89,90,91,92,93,94,95,96,97,98,99,100,101,102,103,104,105,106,107,108,109,110,111,112,113,114,115,116,117,118,119]

def m10_overflightlaw32_sane_B0 (two_1:XProblem) (smallest_1:XReason × Bool × Int) (proves_1:Bool × Int) (proves_2:Bool × Int) (proves_3:Bool × Int) (smallest_2:XReason × Bool × Int) (sf190:Int→(List XVariable)→Option Bool) (v_1:Int) (v_2:List XVariable):Option Bool:=
 bif (decide (v_1<17)) then
  ck ((v_2.length+[(⟨0,0,[0],[(⟨0,0,0,([]:List XUse)⟩:XChoice)]⟩:XVariable)].length)*64≤140737488355328)<|
  sf190 (IntKind.wrap .i64 (v_1+1)) (v_2++[(⟨0,0,[0],[(⟨0,0,0,([]:List XUse)⟩:XChoice)]⟩:XVariable)])
 else
  (m13_reason_Smallest (⟨([]:List XCell),[([]:List Int)],v_2⟩:XProblem)).bind fun smallest_3=>
  (m20_reason_Part two_1 (⟨[1,2],[(⟨0,1⟩:XPlace)]⟩:XReason)).bind fun part_1=>
  jn (fun(v_3:Bool)=>
   bif v_3 then
    some false
   else
    jn (fun(v_4:Bool)=>
     some v_4)
    (fun k313=>
     bif smallest_1.2.1 then
      (m27_overflightref32_Same smallest_1.1 (⟨[1,2],[(⟨0,1⟩:XPlace)]⟩:XReason)).bind fun same_1=>
      bif same_1 then
       bif proves_1.1 then
        bif (!proves_2.1) then
         bif (!proves_3.1) then
          bif (!smallest_2.2.1) then
           bif (decide ((part_1.1.variables.length:Int)=2)) then
            bif (decide ((part_1.1.capacity.length:Int)=1)) then
             ck ((0:Int)≤0∧0<(part_1.1.capacity.length:Int))<|
             bif (decide (((part_1.1.capacity.getD 0 default).length:Int)=2)) then
              ck ((0:Int)≤0∧0<(part_1.1.capacity.length:Int))<|
              ck ((0:Int)≤0∧0<((part_1.1.capacity.getD 0 default).length:Int))<|
              bif (decide (((part_1.1.capacity.getD 0 default).getD 0 default)=4096)) then
               ck ((0:Int)≤0∧0<(part_1.1.capacity.length:Int))<|
               ck ((0:Int)≤1∧1<((part_1.1.capacity.getD 0 default).length:Int))<|
               k313 (decide (((part_1.1.capacity.getD 0 default).getD 1 default)=1))
              else
               k313 false
             else
              k313 false
            else
             k313 false
           else
            k313 false
          else
           k313 false
         else
          k313 false
        else
         k313 false
       else
        k313 false
      else
       k313 false
     else
      k313 false))
  (fun k300=>
   bif (decide (smallest_1.2.2≠0)) then
    k300 true
   else
    bif (decide (proves_1.2≠0)) then
     k300 true
    else
     bif (decide (proves_2.2≠0)) then
      k300 true
     else
      bif (decide (proves_3.2≠0)) then
       k300 true
      else
       bif (decide (smallest_2.2.2≠0)) then
        k300 true
       else
        bif (decide (smallest_3.2.2≠2)) then
         k300 true
        else
         bif (decide (part_1.2≠0)) then
          k300 true
         else
          (m23_reason_Check two_1 (⟨[0,0],([]:List XPlace)⟩:XReason)).bind fun check_1=>
          k300 (decide (check_1≠320)))

def m10_overflightlaw32_sane:Option Bool:=
 m29_overflightlaw32_two.bind fun two_1=>
 (m13_reason_Smallest two_1).bind fun smallest_1=>
 (m17_reason_Proves two_1 (⟨[1,2],[(⟨0,1⟩:XPlace)]⟩:XReason)).bind fun proves_1=>
 (m17_reason_Proves two_1 (⟨[0,1],[(⟨0,1⟩:XPlace)]⟩:XReason)).bind fun proves_2=>
 (m17_reason_Proves two_1 (⟨[1,2],([]:List XPlace)⟩:XReason)).bind fun proves_3=>
 (m13_reason_Smallest (⟨([]:List XCell),[([]:List Int)],([]:List XVariable)⟩:XProblem)).bind fun smallest_2=>
 loop2 (m10_overflightlaw32_sane_B0 two_1 smallest_1 proves_1 proves_2 proves_3 smallest_2) (((17:Int) - 0).toNat+1) 0 ([]:List XVariable)

theorem c10_overflightlaw32_sane {w:World} {O:List Nat} (hO:∀k∈O,k<w.heap.size) {x:Bool} (hm:m10_overflightlaw32_sane=some x):
 Ok Try.prog 10 [] w O vB x:=by
 unfold m10_overflightlaw32_sane at hm
 refine Fn_of_Wp (n:=179) (xs:=[.tmp 0]) Try.func10 rfl Try.ntmps10 Try.results10 rfl ?_
 have hs:=St.start hO
 refine Wp_seq<|Wp_region<|Asg (Bo false) rfl<|Rg_nil<|Wp_seq<|Wp_region ?_
 obtain⟨two_1,hv1,hm⟩:=bd hm
 refine Rop<|op_callE hs Try.call29 (c29_overflightlaw32_two hs.ltw hv1) rfl ?_
 rintro v2 w3 p7 hs6 h5
 obtain⟨_,rfl,⟨_,_,rfl,⟨Aa,Ca,rfl,Fa⟩,⟨_,_,rfl,⟨Ab,Cb,rfl,Fb⟩,⟨Ac,Cc,rfl,Fc⟩⟩⟩⟩:=h5
 refine Rop<|op_alloc ty26 hs6 ?_
 intro b9 w10 _ p11 hs12
 clear hs6
 refine Rg_op_<|op_stA .z ty26 hs12 rfl rfl rfl rfl rfl ?_
 intro w14 p15 hs16
 clear hs12
 refine Rg_nil<|Wp_seq<|Wp_region<|Rop<|op_ldA 0 ty26 hs16 rfl rfl rfl ?_
 obtain⟨smallest_1,hv17,hm⟩:=bd hm
 have p23:=(p11.trans p15)
 replace Fb:=Fb.step p23;replace Fa:=Fa.step p23;replace Fc:=Fc.step p23
 refine Rop<|op_callE hs16 Try.call13 (c13_reason_Smallest (p:=two_1) hs16.ltw Fa Fb Fc hv17) rfl ?_
 rintro v18 w19 p24 hs22 h21
 clear hs16
 obtain⟨v25,v26,v27,rfl,h28,h29,h30⟩:=h21
 obtain⟨_,rfl,⟨_,_,rfl,⟨Ad,Cd,rfl,Fd⟩,⟨Ae,Ce,rfl,Fe⟩⟩⟩:=h28
 obtain rfl:=h29
 obtain⟨rfl,Ra⟩:=h30
 refine Mve (Value.tuple [Value.agg [Sl Ad smallest_1.1.variables Cd,Sl Ae smallest_1.1.places Ce].toArray,Bo smallest_1.2.1,Iv smallest_1.2.2].toArray) rfl<|Rop<|op_extract (v:=Value.agg [Sl Ad smallest_1.1.variables Cd,Sl Ae smallest_1.1.places Ce].toArray) rfl rfl<|Rop<|op_extract (v:=Bo smallest_1.2.1) rfl rfl<|Rop<|op_extract (v:=Iv smallest_1.2.2) rfl rfl<|Rop<|op_alloc ty34 hs22 ?_
 intro b34 w35 _ p36 hs37
 clear hs22
 refine Rg_op_<|op_stA .z ty34 hs37 rfl rfl rfl rfl rfl ?_
 intro w39 p40 hs41
 clear hs37
 refine Asg (Bo smallest_1.2.1) rfl<|Asg (Iv smallest_1.2.2) rfl<|Rg_nil<|Wp_seq<|Wp_region<|Rop<|op_buildSlice (cs:=[Iv 1,Iv 2]) (parts:=[(0,.const (.int .i64 1)),(1,.const (.int .i64 2))]) ty31 ty3 hs41 (by decide) rfl ?_
 intro b42 w43 hx46 p44 hs45
 clear hs41
 refine Rop<|op_build (vs:=[Iv 0,Iv 1]) (parts:=[(1,.const (.int .i64 1))]) ty45 pl45 rfl<|Rop<|op_buildSlice (cs:=[Iv 0,Iv 1]) (parts:=[(0,.tmp 29)]) ty32 ty45 hs45 (by decide) rfl ?_
 intro b48 w49 hx52 p50 hs51
 clear hs45
 have f54:=Gs.of_cells (p:=(rInt .i64)) (e:=3) (bl:=b42) (c:=2) (w:=w49) (O:=ks [(some b48,Oc [Iv 0,Iv 1] 45),(some b42,Oc [Iv 1,Iv 2] 3),(some b34,Oc [Sl Ad smallest_1.1.variables Cd,Sl Ae smallest_1.1.places Ce] 34),(some b9,Oc [Sl Aa two_1.cells Ca,Sl Ab two_1.capacity Cb,Sl Ac two_1.variables Cc] 26)] O) (show Els (rInt .i64) _ _ [Iv 1,Iv 2] [1,2] from⟨_,_,rfl,mk_int (show InK .i64 1 from by decide),⟨_,_,rfl,mk_int (show InK .i64 2 from by decide),Els.nil⟩⟩) rfl (le_lit rfl)
 have f55:=Gs.of_cells (p:=rXPlace) (e:=45) (bl:=b48) (c:=1) (w:=w49) (O:=ks [(some b48,Oc [Iv 0,Iv 1] 45),(some b42,Obj.cells [Iv 1,Iv 2].toArray 3),(some b34,Oc [Sl Ad smallest_1.1.variables Cd,Sl Ae smallest_1.1.places Ce] 34),(some b9,Oc [Sl Aa two_1.cells Ca,Sl Ab two_1.capacity Cb,Sl Ac two_1.variables Cc] 26)] O) (show Els rXPlace _ _ [Iv 0,Iv 1] [(⟨0,1⟩:XPlace)] from⟨_,_,rfl,mkVia (mk_pair (mk_int (show InK .i64 0 from by decide)) (mk_int (show InK .i64 1 from by decide))),Els.nil⟩) rfl (le_lit rfl)
 refine Rop<|op_build (vs:=[Sl (some ⟨b42,0,none⟩) [1,2] 2,Sl (some ⟨b48,0,none⟩) [(⟨0,1⟩:XPlace)] 1]) (parts:=[(0,.tmp 28),(1,.tmp 30)]) ty34 pl34 rfl<|Rop<|op_alloc ty34 hs51 ?_
 intro b56 w57 _ p58 hs59
 clear hs51
 refine Rg_op_<|op_stA .z ty34 hs59 rfl rfl rfl rfl rfl ?_
 intro w61 p62 hs63
 clear hs59
 refine Rg_nil<|Wp_seq<|Wp_region<|Rop<|op_ldA 4 ty26 hs63 rfl rfl rfl<|Rop<|op_ldA 0 ty34 hs63 rfl rfl rfl ?_
 have p67:=(p58.trans p62)
 replace f54:=f54.step p67
 obtain⟨hs65,p66,f64⟩:=Gs.publish (i:=2) hs63 rfl f54
 clear hs63
 replace f55:=f55.step (p67.trans p66)
 obtain⟨hs69,p70,f68⟩:=Gs.publish (i:=1) hs65 rfl f55
 clear hs65
 obtain⟨proves_1,hv71,hm⟩:=bd hm
 replace f64:=f64.step p70
 have p77:=(p24.trans (p36.trans (p40.trans (p44.trans (p50.trans (p58.trans (p62.trans (p66.trans p70))))))))
 replace Fb:=Fb.step p77;replace Fa:=Fa.step p77;replace Fc:=Fc.step p77
 refine Rop<|op_callE hs69 Try.call17 (c17_reason_Proves (p:=two_1) (r_:=(⟨[1,2],[(⟨0,1⟩:XPlace)]⟩:XReason)) hs69.ltw Fa Fb Fc f64 f68 hv71) rfl ?_
 rintro v72 w73 p78 hs76 h75
 clear hs69
 obtain⟨v79,v80,rfl,h81,h82⟩:=h75
 obtain rfl:=h81
 obtain⟨rfl,Rb⟩:=h82
 refine Mve (Value.tuple [Bo proves_1.1,Iv proves_1.2].toArray) rfl<|Rop<|op_extract (v:=Bo proves_1.1) rfl rfl<|Rop<|op_extract (v:=Iv proves_1.2) rfl rfl<|Asg (Bo proves_1.1) rfl<|Asg (Iv proves_1.2) rfl<|Rg_nil<|Wp_seq<|Wr [] [(1,Pt b9 0),(2,Pt b34 0),(3,Bo smallest_1.2.1),(4,Iv smallest_1.2.2),(5,Pt b56 0),(6,Bo proves_1.1),(7,Iv proves_1.2)] fun ξ85=>Wp_region<|Rop<|op_ldA 2 ty26 hs76 rfl rfl rfl<|Rop<|op_buildSlice (cs:=[Iv 0,Iv 1]) (parts:=[(0,.const (.int .i64 0)),(1,.const (.int .i64 1))]) ty31 ty3 hs76 (by decide) rfl ?_
 intro b86 w87 hx90 p88 hs89
 clear hs76
 refine Rop<|op_fA 1 ty34 rfl ty32 rfl rfl<|Rop<|op_ld 1 ty32 hs89 rfl rfl rfl ?_
 have f92:=Gs.of_cells (p:=(rInt .i64)) (e:=3) (bl:=b86) (c:=2) (w:=w87) (O:=ks [(some b86,Oc [Iv 0,Iv 1] 3),(some b56,Oc [Sl (some ⟨b42,0,none⟩) [1,2] 2,Sl (some ⟨b48,0,none⟩) [(⟨0,1⟩:XPlace)] 1] 34),(some b34,Oc [Sl Ad smallest_1.1.variables Cd,Sl Ae smallest_1.1.places Ce] 34),(some b9,Oc [Sl Aa two_1.cells Ca,Sl Ab two_1.capacity Cb,Sl Ac two_1.variables Cc] 26)] O) (show Els (rInt .i64) _ _ [Iv 0,Iv 1] [0,1] from⟨_,_,rfl,mk_int (show InK .i64 0 from by decide),⟨_,_,rfl,mk_int (show InK .i64 1 from by decide),Els.nil⟩⟩) rfl (le_lit rfl)
 refine Rop<|op_build (vs:=[Sl (some ⟨b86,0,none⟩) [0,1] 2,Sl (some ⟨b48,0,none⟩) [(⟨0,1⟩:XPlace)] 1]) (parts:=[(0,.tmp 40),(1,.tmp 42)]) ty34 pl34 rfl ?_
 obtain⟨hs94,p95,f93⟩:=Gs.publish (i:=0) hs89 rfl f92
 clear hs89
 obtain⟨proves_2,hv96,hm⟩:=bd hm
 have p102:=(p78.trans (p88.trans p95))
 replace f68:=f68.step p102;replace Fb:=Fb.step p102;replace Fa:=Fa.step p102;replace Fc:=Fc.step p102
 refine Rop<|op_callE hs94 Try.call17 (c17_reason_Proves (p:=two_1) (r_:=(⟨[0,1],[(⟨0,1⟩:XPlace)]⟩:XReason)) hs94.ltw Fa Fb Fc f93 f68 hv96) rfl ?_
 rintro v97 w98 p103 hs101 h100
 clear hs94
 obtain⟨v104,v105,rfl,h106,h107⟩:=h100
 obtain rfl:=h106
 obtain⟨rfl,Rc⟩:=h107
 refine Mve (Value.tuple [Bo proves_2.1,Iv proves_2.2].toArray) rfl<|Rop<|op_extract (v:=Bo proves_2.1) rfl rfl<|Rop<|op_extract (v:=Iv proves_2.2) rfl rfl<|Asg (Bo proves_2.1) rfl<|Asg (Iv proves_2.2) rfl<|Rg_nil<|Wp_seq ?_
 clear f93
 refine Wp_region<|Rop<|op_ldA 2 ty26 hs101 rfl rfl rfl<|Rop<|op_buildSlice (cs:=[Iv 1,Iv 2]) (parts:=[(0,.const (.int .i64 1)),(1,.const (.int .i64 2))]) ty31 ty3 hs101 (by decide) rfl ?_
 intro b110 w111 hx114 p112 hs113
 clear hs101
 have f116:=Gs.of_cells (p:=(rInt .i64)) (e:=3) (bl:=b110) (c:=2) (w:=w111) (O:=ks [(some b110,Oc [Iv 1,Iv 2] 3),(some b56,Oc [Sl (some ⟨b42,0,none⟩) [1,2] 2,Sl (some ⟨b48,0,none⟩) [(⟨0,1⟩:XPlace)] 1] 34),(some b34,Oc [Sl Ad smallest_1.1.variables Cd,Sl Ae smallest_1.1.places Ce] 34),(some b9,Oc [Sl Aa two_1.cells Ca,Sl Ab two_1.capacity Cb,Sl Ac two_1.variables Cc] 26)] O) (show Els (rInt .i64) _ _ [Iv 1,Iv 2] [1,2] from⟨_,_,rfl,mk_int (show InK .i64 1 from by decide),⟨_,_,rfl,mk_int (show InK .i64 2 from by decide),Els.nil⟩⟩) rfl (le_lit rfl)
 refine Rop<|op_build (vs:=[Sl (some ⟨b110,0,none⟩) [1,2] 2,Value.slice none 0 0]) (parts:=[(0,.tmp 49)]) ty34 pl34 rfl ?_
 obtain⟨hs118,p119,f117⟩:=Gs.publish (i:=0) hs113 rfl f116
 clear hs113
 obtain⟨proves_3,hv120,hm⟩:=bd hm
 have p126:=(p103.trans (p112.trans p119))
 replace Fb:=Fb.step p126;replace Fa:=Fa.step p126;replace Fc:=Fc.step p126
 refine Rop<|op_callE hs118 Try.call17 (c17_reason_Proves (p:=two_1) (r_:=(⟨[1,2],([]:List XPlace)⟩:XReason)) hs118.ltw Fa Fb Fc f117 SlR.nil_ hv120) rfl ?_
 rintro v121 w122 p127 hs125 h124
 clear hs118
 obtain⟨v128,v129,rfl,h130,h131⟩:=h124
 obtain rfl:=h130
 obtain⟨rfl,Rd⟩:=h131
 refine Mve (Value.tuple [Bo proves_3.1,Iv proves_3.2].toArray) rfl<|Rop<|op_extract (v:=Bo proves_3.1) rfl rfl<|Rop<|op_extract (v:=Iv proves_3.2) rfl rfl<|Asg (Bo proves_3.1) rfl<|Asg (Iv proves_3.2) rfl<|Rg_nil<|Wp_seq ?_
 clear f117
 refine Wp_region<|Rop<|op_buildSlice (cs:=[Value.slice none 0 0]) (parts:=[(0,.const (.slice none 0 0))]) ty23 ty31 hs125 (by decide) rfl ?_
 intro b134 w135 hx138 p136 hs137
 clear hs125
 have f140:=Gs.of_cells (p:=rSl (rInt .i64)) (e:=31) (bl:=b134) (c:=1) (w:=w135) (O:=ks [(some b134,Oc [Value.slice none 0 0] 31),(some b56,Oc [Sl (some ⟨b42,0,none⟩) [1,2] 2,Sl (some ⟨b48,0,none⟩) [(⟨0,1⟩:XPlace)] 1] 34),(some b34,Oc [Sl Ad smallest_1.1.variables Cd,Sl Ae smallest_1.1.places Ce] 34),(some b9,Oc [Sl Aa two_1.cells Ca,Sl Ab two_1.capacity Cb,Sl Ac two_1.variables Cc] 26)] O) (show Els (rSl (rInt .i64)) _ _ [Value.slice none 0 0] [([]:List Int)] from⟨_,_,rfl,mk_sl SlR.nil_,Els.nil⟩) rfl (le_lit rfl)
 refine Rop<|op_build (vs:=[Value.slice none 0 0,Sl (some ⟨b134,0,none⟩) [([]:List Int)] 1,Value.slice none 0 0]) (parts:=[(1,.tmp 55)]) ty26 pl26 rfl ?_
 obtain⟨hs142,p143,f141⟩:=Gs.publish (i:=0) hs137 rfl f140
 clear hs137
 obtain⟨smallest_2,hv144,hm⟩:=bd hm
 refine Rop<|op_callE hs142 Try.call13 (c13_reason_Smallest (p:=(⟨([]:List XCell),[([]:List Int)],([]:List XVariable)⟩:XProblem)) hs142.ltw SlR.nil_ f141 SlR.nil_ hv144) rfl ?_
 rintro v145 w146 p150 hs149 h148
 clear hs142
 obtain⟨v151,v152,v153,rfl,h154,h155,h156⟩:=h148
 obtain⟨_,rfl,⟨_,_,rfl,⟨Af,Cf,rfl,Ff⟩,⟨Ag,Cg,rfl,Fg⟩⟩⟩:=h154
 obtain rfl:=h155
 obtain⟨rfl,Re⟩:=h156
 refine Mve (Value.tuple [Value.agg [Sl Af smallest_2.1.variables Cf,Sl Ag smallest_2.1.places Cg].toArray,Bo smallest_2.2.1,Iv smallest_2.2.2].toArray) rfl<|Rop<|op_extract (v:=Value.agg [Sl Af smallest_2.1.variables Cf,Sl Ag smallest_2.1.places Cg].toArray) rfl rfl<|Rop<|op_extract (v:=Bo smallest_2.2.1) rfl rfl<|Rop<|op_extract (v:=Iv smallest_2.2.2) rfl rfl<|Rop<|op_alloc ty34 hs149 ?_
 intro b160 w161 _ p162 hs163
 clear hs149
 refine Rg_op_<|op_stA .z ty34 hs163 rfl rfl rfl rfl rfl ?_
 intro w165 p166 hs167
 clear hs163
 refine Asg (Bo smallest_2.2.1) rfl<|Asg (Iv smallest_2.2.2) rfl<|Rg_nil<|Wp_seq ?_
 obtain⟨hs168,p169⟩:=hs167.sub (bs':=[(some b56,Oc [Sl (some ⟨b42,0,none⟩) [1,2] 2,Sl (some ⟨b48,0,none⟩) [(⟨0,1⟩:XPlace)] 1] 34),(some b34,Oc [Sl Ad smallest_1.1.variables Cd,Sl Ae smallest_1.1.places Ce] 34),(some b9,Oc [Sl Aa two_1.cells Ca,Sl Ab two_1.capacity Cb,Sl Ac two_1.variables Cc] 26)]) (.cons _ (.cons_cons _ (.cons_cons _ (.cons_cons _ List.Sublist.slnil))))
 clear f141 Ff Fg
 clear hs167
 refine Wr [] [(1,Pt b9 0),(2,Pt b34 0),(3,Bo smallest_1.2.1),(4,Iv smallest_1.2.2),(5,Pt b56 0),(6,Bo proves_1.1),(7,Iv proves_1.2),(8,Bo proves_2.1),(9,Iv proves_2.2),(10,Bo proves_3.1),(11,Iv proves_3.2),(13,Bo smallest_2.2.1),(14,Iv smallest_2.2.2)] fun ξ170=>Wp_region<|Rop<|op_buildSlice (cs:=[Value.slice none 0 0]) (parts:=[(0,.const (.slice none 0 0))]) ty23 ty31 hs168 (by decide) rfl ?_
 intro b171 w172 hx175 p173 hs174
 clear hs168
 have f177:=Gs.of_cells (p:=rSl (rInt .i64)) (e:=31) (bl:=b171) (c:=1) (w:=w172) (O:=ks [(some b171,Oc [Value.slice none 0 0] 31),(some b56,Oc [Sl (some ⟨b42,0,none⟩) [1,2] 2,Sl (some ⟨b48,0,none⟩) [(⟨0,1⟩:XPlace)] 1] 34),(some b34,Oc [Sl Ad smallest_1.1.variables Cd,Sl Ae smallest_1.1.places Ce] 34),(some b9,Oc [Sl Aa two_1.cells Ca,Sl Ab two_1.capacity Cb,Sl Ac two_1.variables Cc] 26)] O) (show Els (rSl (rInt .i64)) _ _ [Value.slice none 0 0] [([]:List Int)] from⟨_,_,rfl,mk_sl SlR.nil_,Els.nil⟩) rfl (le_lit rfl)
 refine Rop<|op_build (vs:=[Value.slice none 0 0,Sl (some ⟨b171,0,none⟩) [([]:List Int)] 1,Value.slice none 0 0]) (parts:=[(1,.tmp 61)]) ty26 pl26 rfl<|Rop<|op_alloc ty26 hs174 ?_
 intro b178 w179 _ p180 hs181
 clear hs174
 refine Rg_op_<|op_stA .z ty26 hs181 rfl rfl rfl rfl rfl ?_
 intro w183 p184 hs185
 clear hs181
 refine Rg_nil<|Wp_seq<|Wp_seq<|Wp_region<|Mve (Iv 0) rfl<|Rg_nil<|Wp_block<|Wr [] [(1,Pt b9 0),(2,Pt b34 0),(3,Bo smallest_1.2.1),(4,Iv smallest_1.2.2),(5,Pt b56 0),(6,Bo proves_1.1),(7,Iv proves_1.2),(8,Bo proves_2.1),(9,Iv proves_2.2),(10,Bo proves_3.1),(11,Iv proves_3.2),(13,Bo smallest_2.2.1),(14,Iv smallest_2.2.2),(15,Pt b178 0),(63,Iv 0)] fun ξ189=>?_
 have hs194:=hs185.ghost (Obj.cells #[] 61)
 refine Wp_loopM q10_2 (fun m fr w'=>∃(v_1:Int) (v_2:List XVariable) (Ah:Option Addr) (Ch:Nat) (k_g188:Option Nat) (o_g188:Obj) (Ebs:Ents),Ebs=[(k_g188,o_g188),(some b178,Oc [Value.slice none 0 0,Sl (some ⟨b171,0,none⟩) [([]:List Int)] 1,Sl Ah v_2 Ch] 26),(some b171,Obj.cells [Value.slice none 0 0].toArray 31),(some b56,Oc [Sl (some ⟨b42,0,none⟩) [1,2] 2,Sl (some ⟨b48,0,none⟩) [(⟨0,1⟩:XPlace)] 1] 34),(some b34,Oc [Sl Ad smallest_1.1.variables Cd,Sl Ae smallest_1.1.places Ce] 34),(some b9,Oc [Sl Aa two_1.cells Ca,Sl Ab two_1.capacity Cb,Sl Ac two_1.variables Cc] 26)]∧fr [] [(63,Iv v_1)]∧hs194.S (ks Ebs O) w'∧St ⟨w,[],[]⟩ O w' Ebs∧InK .i64 v_1∧Gs rXVariable 61 w' (ks Ebs O) Ah Ch v_2 k_g188 o_g188∧loop2 (m10_overflightlaw32_sane_B0 two_1 smallest_1 proves_1 proves_2 proves_3 smallest_2) m v_1 v_2=some x) (((17:Int) - 0).toNat+1) ⟨0,([]:List XVariable),none,0,none,Obj.cells #[] 61,_,rfl,Frm.of ⟨rfl,trivial⟩,Step.refl _ _,hs194,(show InK .i64 0 from by decide),Gs.nil_,hm⟩ ?_ ?_
 rintro _ _ ⟨_,_,_,_,_,_,_,_,_,_,_,_,_,hm⟩;exact loop2_z hm
 rintro m193 K192 hK192 ρ200 w196 ⟨v_1,v_2,Ah,Ch,k_g188,o_g188,_,rfl,hfr199,hst198,hs197,Rf,Fh,hm⟩
 obtain⟨sf190,hsf191,hm⟩:=loop2_s hm;unfold m10_overflightlaw32_sane_B0 at hm
 rw [hfr199.eq];clear hfr199
 have ch201:=hst198
 refine Wp_seq<|Wp_region<|Rop<|op_lss rfl rfl<|Rg_nil<|Wp_seq<|Wp_condM hm rfl (fun hc202 hm=>?_) (fun hc202 hm=>?_)
 refine Wp_skip<|Wp_seq<|Wp_block<|Wp_region<|Rop<|op_fA 2 ty26 rfl ty24 rfl rfl<|Rop<|op_ld 1 ty24 hs197 rfl rfl rfl<|Rop<|op_buildSlice (cs:=[Iv 0]) (parts:=[(0,.const (.int .i64 0))]) ty31 ty3 hs197 (by decide) rfl ?_
 intro b203 w204 hx207 p205 hs206
 clear hs197
 refine Rop<|op_build (vs:=[Iv 0,Iv 0,Iv 0,Value.slice none 0 0]) (parts:=[]) ty58 pl58 rfl<|Rop<|op_buildSlice (cs:=[Iv 0,Iv 0,Iv 0,Value.slice none 0 0]) (parts:=[(0,.tmp 68)]) ty59 ty58 hs206 (by decide) rfl ?_
 intro b209 w210 hx213 p211 hs212
 clear hs206
 have f215:=Gs.of_cells (p:=(rInt .i64)) (e:=3) (bl:=b203) (c:=1) (w:=w210) (O:=ks [(some b209,Oc [Iv 0,Iv 0,Iv 0,Value.slice none 0 0] 58),(some b203,Oc [Iv 0] 3),(k_g188,o_g188),(some b178,Oc [Value.slice none 0 0,Sl (some ⟨b171,0,none⟩) [([]:List Int)] 1,Sl Ah v_2 Ch] 26),(some b171,Obj.cells [Value.slice none 0 0].toArray 31),(some b56,Oc [Sl (some ⟨b42,0,none⟩) [1,2] 2,Sl (some ⟨b48,0,none⟩) [(⟨0,1⟩:XPlace)] 1] 34),(some b34,Oc [Sl Ad smallest_1.1.variables Cd,Sl Ae smallest_1.1.places Ce] 34),(some b9,Oc [Sl Aa two_1.cells Ca,Sl Ab two_1.capacity Cb,Sl Ac two_1.variables Cc] 26)] O) (show Els (rInt .i64) _ _ [Iv 0] [0] from⟨_,_,rfl,mk_int (show InK .i64 0 from by decide),Els.nil⟩) rfl (le_lit rfl)
 have f216:=Gs.of_cells (p:=rXChoice) (e:=58) (bl:=b209) (c:=1) (w:=w210) (O:=ks [(some b209,Oc [Iv 0,Iv 0,Iv 0,Value.slice none 0 0] 58),(some b203,Obj.cells [Iv 0].toArray 3),(k_g188,o_g188),(some b178,Oc [Value.slice none 0 0,Sl (some ⟨b171,0,none⟩) [([]:List Int)] 1,Sl Ah v_2 Ch] 26),(some b171,Obj.cells [Value.slice none 0 0].toArray 31),(some b56,Oc [Sl (some ⟨b42,0,none⟩) [1,2] 2,Sl (some ⟨b48,0,none⟩) [(⟨0,1⟩:XPlace)] 1] 34),(some b34,Oc [Sl Ad smallest_1.1.variables Cd,Sl Ae smallest_1.1.places Ce] 34),(some b9,Oc [Sl Aa two_1.cells Ca,Sl Ab two_1.capacity Cb,Sl Ac two_1.variables Cc] 26)] O) (show Els rXChoice _ _ [Iv 0,Iv 0,Iv 0,Value.slice none 0 0] [(⟨0,0,0,([]:List XUse)⟩:XChoice)] from⟨_,_,rfl,mkVia (mk_pair (mk_int (show InK .i64 0 from by decide)) (mk_pair (mk_int (show InK .i64 0 from by decide)) (mk_pair (mk_int (show InK .i64 0 from by decide)) (mk_sl SlR.nil_)))),Els.nil⟩) rfl (le_lit rfl)
 refine Rop<|op_build (vs:=[Iv 0,Iv 0,Sl (some ⟨b203,0,none⟩) [0] 1,Sl (some ⟨b209,0,none⟩) [(⟨0,0,0,([]:List XUse)⟩:XChoice)] 1]) (parts:=[(2,.tmp 67),(3,.tmp 69)]) ty61 pl61 rfl ?_
 obtain⟨hs218,p219,f217⟩:=Gs.publish (i:=1) hs212 rfl f215
 clear hs212
 replace f216:=f216.step p219
 obtain⟨hs221,p222,f220⟩:=Gs.publish (i:=0) hs218 rfl f216
 clear hs218
 refine Rop<|op_buildSlice (cs:=[Iv 0,Iv 0,Sl (some ⟨b203,0,none⟩) [0] 1,Sl (some ⟨b209,0,none⟩) [(⟨0,0,0,([]:List XUse)⟩:XChoice)] 1]) (parts:=[(0,.tmp 70)]) ty24 ty61 hs221 (by decide) rfl ?_
 intro b223 w224 hx227 p225 hs226
 clear hs221
 obtain⟨hc229,hm⟩:=ck_some hm
 replace f217:=f217.step (p222.trans p225);replace f220:=f220.step p225
 have p238:=(p205.trans (p211.trans (p219.trans (p222.trans p225))))
 replace Fh:=Fh.step p238
 refine Rop (op_append (q:=rXVariable) (i:=1) (xs:=v_2) (ys:=[(⟨0,0,[0],[(⟨0,0,0,([]:List XUse)⟩:XChoice)]⟩:XVariable)]) (news:=[Iv 0,Iv 0,Sl (some ⟨b203,0,none⟩) [0] 1,Sl (some ⟨b209,0,none⟩) [(⟨0,0,0,([]:List XUse)⟩:XChoice)] 1]) ty24 ty61 rfl (by decide) hs226 rfl rfl Fh rfl (Src.owned' (len:=4) (hs226.get (i:=0) rfl) rfl) (show Els rXVariable _ _ [Iv 0,Iv 0,Sl (some ⟨b203,0,none⟩) [0] 1,Sl (some ⟨b209,0,none⟩) [(⟨0,0,0,([]:List XUse)⟩:XChoice)] 1] [(⟨0,0,[0],[(⟨0,0,0,([]:List XUse)⟩:XChoice)]⟩:XVariable)] from⟨_,_,rfl,mkVia (mk_pair (mk_int (show InK .i64 0 from by decide)) (mk_pair (mk_int (show InK .i64 0 from by decide)) (mk_pair (mk_sl f217) (mk_sl f220)))),Els.nil⟩) hc229 (by have:=hc229;simp only [maxLen];omega) ?_)
 intro a233 c234 k235 o236 w230 p231 hs232 f237
 clear hs226
 have hs239:=hs232.drop 0
 have p240:=(hs232.dropS 0)
 clear hs232
 refine Rop<|op_fA 2 ty26 rfl ty24 rfl rfl<|Rg_op_<|op_stC (Sl a233 (v_2++[(⟨0,0,[0],[(⟨0,0,0,([]:List XUse)⟩:XChoice)]⟩:XVariable)]) c234) (cs':=[Value.slice none 0 0,Sl (some ⟨b171,0,none⟩) [([]:List Int)] 1,Sl a233 (v_2++[(⟨0,0,[0],[(⟨0,0,0,([]:List XUse)⟩:XChoice)]⟩:XVariable)]) c234]) Put.p1 ty24 hs239 rfl rfl rfl (le_lit rfl) rfl rfl ?_
 intro w241 p242 hs243
 clear hs239
 refine Rg_nil ?_
 clear f217 f220
 refine Wp_region<|Rop<|op_addw rfl rfl<|Mve (Iv (IntKind.wrap .i64 (v_1+1))) rfl<|Rg_nil ?_
 replace ch201:=ch201.trans (p238.trans (p231.trans (p240.trans p242)))
 replace f237:=f237.step (p240.trans p242)
 exact hK192 _ _ ⟨(IntKind.wrap .i64 (v_1+1)),v_2++[(⟨0,0,[0],[(⟨0,0,0,([]:List XUse)⟩:XChoice)]⟩:XVariable)],a233,c234,k235,o236,_,rfl,Frm.of ⟨rfl,trivial⟩,ch201,hs243,(inK_wrap .i64 _),f237,jnE2 hsf191 hm⟩
 refine Wp_exit<|Wp_seq<|Wp_region<|Rop<|op_ldA 1 ty26 hs197 rfl rfl rfl ?_
 replace f177:=f177.step (p180.trans (p184.trans hst198))
 obtain⟨hs245,p246,f244⟩:=Gs.publish (i:=2) hs197 rfl f177
 clear hs197
 replace Fh:=Fh.step p246
 obtain⟨hs248,p249,f247⟩:=Gs.publish (i:=0) hs245 rfl Fh
 clear hs245
 obtain⟨smallest_3,hv250,hm⟩:=bd hm
 replace f244:=f244.step p249
 refine Rop<|op_callE hs248 Try.call13 (c13_reason_Smallest (p:=(⟨([]:List XCell),[([]:List Int)],v_2⟩:XProblem)) hs248.ltw SlR.nil_ f244 f247 hv250) rfl ?_
 rintro v251 w252 p256 hs255 h254
 clear hs248
 obtain⟨v257,v258,v259,rfl,h260,h261,h262⟩:=h254
 obtain⟨_,rfl,⟨_,_,rfl,⟨Ai,Ci,rfl,Fi⟩,⟨Aj,Cj,rfl,Fj⟩⟩⟩:=h260
 obtain rfl:=h261
 obtain⟨rfl,Rg⟩:=h262
 refine Mve (Value.tuple [Value.agg [Sl Ai smallest_3.1.variables Ci,Sl Aj smallest_3.1.places Cj].toArray,Bo smallest_3.2.1,Iv smallest_3.2.2].toArray) rfl<|Rop<|op_extract (v:=Value.agg [Sl Ai smallest_3.1.variables Ci,Sl Aj smallest_3.1.places Cj].toArray) rfl rfl<|Rop<|op_extract (v:=Bo smallest_3.2.1) rfl rfl<|Rop<|op_extract (v:=Iv smallest_3.2.2) rfl rfl<|Rop<|op_alloc ty34 hs255 ?_
 intro b266 w267 _ p268 hs269
 clear hs255
 refine Rg_op_<|op_stA .z ty34 hs269 rfl rfl rfl rfl rfl ?_
 intro w271 p272 hs273
 clear hs269
 refine Asg (Bo smallest_3.2.1) rfl<|Asg (Iv smallest_3.2.2) rfl<|Rg_nil<|Wp_seq ?_
 obtain⟨hs274,p275⟩:=hs273.sub (bs':=[(some b56,Oc [Sl (some ⟨b42,0,none⟩) [1,2] 2,Sl (some ⟨b48,0,none⟩) [(⟨0,1⟩:XPlace)] 1] 34),(some b34,Oc [Sl Ad smallest_1.1.variables Cd,Sl Ae smallest_1.1.places Ce] 34),(some b9,Oc [Sl Aa two_1.cells Ca,Sl Ab two_1.capacity Cb,Sl Ac two_1.variables Cc] 26)]) (.cons _ (.cons _ (.cons_cons _ (.cons_cons _ (.cons_cons _ List.Sublist.slnil)))))
 clear f244 f247 Fi Fj
 clear hs273
 refine Wp_region<|Rop<|op_ldA 2 ty26 hs274 rfl rfl rfl<|Rop<|op_ldA 0 ty34 hs274 rfl rfl rfl ?_
 obtain⟨part_1,hv276,hm⟩:=bd hm
 replace f64:=f64.step (p102.trans (p103.trans (p112.trans (p119.trans (p127.trans (p136.trans (p143.trans (p150.trans (p162.trans (p166.trans (p169.trans (p173.trans (p180.trans (p184.trans (hst198.trans (p246.trans (p249.trans (p256.trans (p268.trans (p272.trans p275))))))))))))))))))))
 replace f68:=f68.step (p126.trans (p127.trans (p136.trans (p143.trans (p150.trans (p162.trans (p166.trans (p169.trans (p173.trans (p180.trans (p184.trans (hst198.trans (p246.trans (p249.trans (p256.trans (p268.trans (p272.trans p275)))))))))))))))))
 have p282:=(p127.trans (p136.trans (p143.trans (p150.trans (p162.trans (p166.trans (p169.trans (p173.trans (p180.trans (p184.trans (hst198.trans (p246.trans (p249.trans (p256.trans (p268.trans (p272.trans p275))))))))))))))))
 replace Fb:=Fb.step p282;replace Fa:=Fa.step p282;replace Fc:=Fc.step p282
 refine Rop<|op_callE hs274 Try.call20 (c20_reason_Part (p:=two_1) (r_:=(⟨[1,2],[(⟨0,1⟩:XPlace)]⟩:XReason)) hs274.ltw Fa Fb Fc f64 f68 hv276) rfl ?_
 rintro v277 w278 p283 hs281 h280
 clear hs274
 obtain⟨v284,v285,rfl,h286,h287⟩:=h280
 obtain⟨_,rfl,⟨_,_,rfl,⟨Ak,Ck,rfl,Fk⟩,⟨_,_,rfl,⟨Al,Cl,rfl,Fl⟩,⟨Am,Cm,rfl,Fm⟩⟩⟩⟩:=h286
 obtain⟨rfl,Rh⟩:=h287
 refine Mve (Value.tuple [Value.agg [Sl Ak part_1.1.cells Ck,Sl Al part_1.1.capacity Cl,Sl Am part_1.1.variables Cm].toArray,Iv part_1.2].toArray) rfl<|Rop<|op_extract (v:=Value.agg [Sl Ak part_1.1.cells Ck,Sl Al part_1.1.capacity Cl,Sl Am part_1.1.variables Cm].toArray) rfl rfl<|Rop<|op_extract (v:=Iv part_1.2) rfl rfl<|Rop<|op_alloc ty26 hs281 ?_
 intro b290 w291 _ p292 hs293
 clear hs281
 refine Rg_op_<|op_stA .z ty26 hs293 rfl rfl rfl rfl rfl ?_
 intro w295 p296 hs297
 clear hs293
 refine Asg (Iv part_1.2) rfl<|Rg_nil<|Wp_seq<|Wr [] [(1,Pt b9 0),(2,Pt b34 0),(3,Bo smallest_1.2.1),(4,Iv smallest_1.2.2),(5,Pt b56 0),(6,Bo proves_1.1),(7,Iv proves_1.2),(8,Bo proves_2.1),(9,Iv proves_2.2),(10,Bo proves_3.1),(11,Iv proves_3.2),(13,Bo smallest_2.2.1),(14,Iv smallest_2.2.2),(18,Iv smallest_3.2.2),(19,Pt b290 0),(20,Iv part_1.2)] fun ξ298=>?_
 obtain⟨k300,hk301,hm⟩:=jn_elim hm
 refine Wp_seqJ q10_0 (fun fr w'=>∃(v_3:Bool) (Ebs:Ents),Ebs=[(some b290,Oc [Sl Ak part_1.1.cells Ck,Sl Al part_1.1.capacity Cl,Sl Am part_1.1.variables Cm] 26),(some b56,Oc [Sl (some ⟨b42,0,none⟩) [1,2] 2,Sl (some ⟨b48,0,none⟩) [(⟨0,1⟩:XPlace)] 1] 34),(some b34,Oc [Sl Ad smallest_1.1.variables Cd,Sl Ae smallest_1.1.places Ce] 34),(some b9,Oc [Sl Aa two_1.cells Ca,Sl Ab two_1.capacity Cb,Sl Ac two_1.variables Cc] 26)]∧fr [] [(119,Bo v_3)]∧hs297.S (ks Ebs O) w'∧St ⟨w,[],[]⟩ O w' Ebs∧k300 v_3=some x) ?_ ?_
 rintro ρ307 w303 ⟨v_3,_,rfl,hfr306,hst305,hs304,hm⟩
 replace hm:=jnE1 hk301 hm
 rw [hfr306.eq];clear hfr306
 refine Wp_condM hm rfl (fun hc308 hm=>?_) (fun hc308 hm=>?_)
 refine Wp_seq ?_
 obtain⟨hs309,p310⟩:=hs304.sub (bs':=[]) (.cons _ (.cons _ (.cons _ (.cons _ List.Sublist.slnil))))
 clear Fa Fb Fc Fd Fe f64 f68 Fk Fl Fm
 clear hs304
 refine Wp_region<|Asg (Bo false) rfl<|Rg_nil<|Wp_ret<|⟨_,Clo,[Bo false],⟨rfl,trivial⟩,hs309.ext,?_⟩
 exact Vr.eq (a:=vB) (x:=false) rfl (oi hm)
 refine Wp_skip<|Wr [] [(2,Pt b34 0),(3,Bo smallest_1.2.1),(5,Pt b56 0),(6,Bo proves_1.1),(8,Bo proves_2.1),(10,Bo proves_3.1),(13,Bo smallest_2.2.1),(19,Pt b290 0)] fun ξ311=>?_
 obtain⟨k313,hk314,hm⟩:=jn_elim hm
 refine Wp_seqJ q10_1 (fun fr w'=>∃(v_4:Bool) (Ebs:Ents),Ebs=[(some b290,Oc [Sl Ak part_1.1.cells Ck,Sl Al part_1.1.capacity Cl,Sl Am part_1.1.variables Cm] 26),(some b56,Oc [Sl (some ⟨b42,0,none⟩) [1,2] 2,Sl (some ⟨b48,0,none⟩) [(⟨0,1⟩:XPlace)] 1] 34),(some b34,Oc [Sl Ad smallest_1.1.variables Cd,Sl Ae smallest_1.1.places Ce] 34),(some b9,Oc [Sl Aa two_1.cells Ca,Sl Ab two_1.capacity Cb,Sl Ac two_1.variables Cc] 26)]∧fr [] [(0,Bo v_4)]∧hs304.S (ks Ebs O) w'∧St ⟨w,[],[]⟩ O w' Ebs∧k313 v_4=some x) ?_ ?_
 rintro ρ320 w316 ⟨v_4,_,rfl,hfr319,hst318,hs317,hm⟩
 replace hm:=jnE1 hk314 hm
 rw [hfr319.eq];clear hfr319
 refine Wp_ret<|⟨_,Clo,[Bo v_4],⟨rfl,trivial⟩,hs317.ext,?_⟩
 exact Vr.eq (a:=vB) (x:=v_4) rfl (oi hm)
 intro K315 hK315
 have ch321:=hs304.stepR
 refine Wp_region<|Mve (Bo smallest_1.2.1) rfl<|Mve (Bo smallest_1.2.1) rfl<|Rg_caseM hm (fun hg322 hm=>?_) (fun hg322 hm=>?_)
 refine Rog rfl rfl<|op_ldA 2 ty34 hs304 rfl rfl rfl<|Rog rfl rfl<|op_ldA 1 ty34 hs304 rfl rfl rfl ?_
 obtain⟨same_1,hv323,hm⟩:=bd hm
 have p329:=(p283.trans (p292.trans (p296.trans hst305)))
 replace f64:=f64.step p329;replace f68:=f68.step p329
 have p330:=(p36.trans (p40.trans (p44.trans (p50.trans (p58.trans (p62.trans (p66.trans (p70.trans (p78.trans (p88.trans (p95.trans (p103.trans (p112.trans (p119.trans (p127.trans (p136.trans (p143.trans (p150.trans (p162.trans (p166.trans (p169.trans (p173.trans (p180.trans (p184.trans (hst198.trans (p246.trans (p249.trans (p256.trans (p268.trans (p272.trans (p275.trans (p283.trans (p292.trans (p296.trans hst305))))))))))))))))))))))))))))))))))
 replace Fe:=Fe.step p330;replace Fd:=Fd.step p330
 refine Rog rfl rfl<|op_callE hs304 Try.call27 (c27_overflightref32_Same (a:=smallest_1.1) (b:=(⟨[1,2],[(⟨0,1⟩:XPlace)]⟩:XReason)) hs304.ltw Fd Fe f64 f68 hv323) rfl ?_
 rintro v324 w325 p331 hs328 h327
 obtain rfl:=h327
 refine Pkt (Bo same_1) rfl rfl<|Mve (Bo same_1) rfl<|Rg_caseM hm (fun hg333 hm=>?_) (fun hg333 hm=>?_)
 refine Rog rfl rfl<|op_move (v:=Bo proves_1.1) rfl<|Pkt (Bo proves_1.1) rfl rfl<|Mve (Bo proves_1.1) rfl<|Rg_caseM hm (fun hg334 hm=>?_) (fun hg334 hm=>?_)
 refine Rog rfl rfl<|op_move (v:=Bo proves_2.1) rfl<|Rog rfl rfl<|op_not rfl<|Pkt (Bo (!proves_2.1)) rfl rfl<|Mve (Bo (!proves_2.1)) rfl<|Rg_caseM hm (fun hg335 hm=>?_) (fun hg335 hm=>?_)
 refine Rog rfl rfl<|op_move (v:=Bo proves_3.1) rfl<|Rog rfl rfl<|op_not rfl<|Pkt (Bo (!proves_3.1)) rfl rfl<|Mve (Bo (!proves_3.1)) rfl<|Rg_caseM hm (fun hg336 hm=>?_) (fun hg336 hm=>?_)
 refine Rog rfl rfl<|op_move (v:=Bo smallest_2.2.1) rfl<|Rog rfl rfl<|op_not rfl<|Pkt (Bo (!smallest_2.2.1)) rfl rfl<|Mve (Bo (!smallest_2.2.1)) rfl<|Rg_caseM hm (fun hg337 hm=>?_) (fun hg337 hm=>?_)
 refine Rog rfl rfl<|op_fA 2 ty26 rfl ty24 rfl rfl<|Rog rfl rfl<|op_ld 0 ty24 hs328 rfl rfl rfl<|Rog rfl rfl<|op_len Try.underlying24 rfl ?_
 have p339:=(p292.trans (p296.trans (hst305.trans p331)))
 replace Fm:=Fm.step p339
 have rl338:=inK_len Fm
 refine Rog rfl rfl<|op_eql rfl rfl<|Pkt (Bo (decide ((part_1.1.variables.length:Int)=2))) rfl rfl<|Mve (Bo (decide ((part_1.1.variables.length:Int)=2))) rfl<|Rg_caseM hm (fun hg340 hm=>?_) (fun hg340 hm=>?_)
 refine Rog rfl rfl<|op_fA 1 ty26 rfl ty23 rfl rfl<|Rog rfl rfl<|op_ld 0 ty23 hs328 rfl rfl rfl<|Rog rfl rfl<|op_len Try.underlying23 rfl ?_
 replace Fl:=Fl.step p339
 have rl341:=inK_len Fl
 refine Rog rfl rfl<|op_eql rfl rfl<|Pkt (Bo (decide ((part_1.1.capacity.length:Int)=1))) rfl rfl<|Mve (Bo (decide ((part_1.1.capacity.length:Int)=1))) rfl<|Rg_caseM hm (fun hg342 hm=>?_) (fun hg342 hm=>?_)
 refine Rog rfl rfl<|op_fA 1 ty26 rfl ty23 rfl rfl<|Rog rfl rfl<|op_ld 0 ty23 hs328 rfl rfl rfl ?_
 obtain⟨hc343,hm⟩:=ck_some hm
 refine Rog rfl rfl<|op_indexAddr (q:=rSl (rInt .i64)) ty23 ty31 rfl rfl Fl rfl hc343.1 hc343.2 ?_
 intro p344 f345
 refine Rog rfl rfl<|op_loadP ty31 rfl f345 rfl ?_
 intro v346 h347
 obtain⟨An,Cn,rfl,Fn⟩:=un_sl h347
 refine Rog rfl rfl<|op_len Try.underlying31 rfl ?_
 have rl349:=inK_len Fn
 refine Rog rfl rfl<|op_eql rfl rfl<|Pkt (Bo (decide (((part_1.1.capacity.getD 0 default).length:Int)=2))) rfl rfl<|Mve (Bo (decide (((part_1.1.capacity.getD 0 default).length:Int)=2))) rfl<|Rg_caseM hm (fun hg350 hm=>?_) (fun hg350 hm=>?_)
 refine Rog rfl rfl<|op_fA 1 ty26 rfl ty23 rfl rfl<|Rog rfl rfl<|op_ld 0 ty23 hs328 rfl rfl rfl ?_
 obtain⟨hc351,hm⟩:=ck_some hm
 refine Rog rfl rfl<|op_indexAddr (q:=rSl (rInt .i64)) ty23 ty31 rfl rfl Fl rfl hc351.1 hc351.2 ?_
 intro p352 f353
 refine Rog rfl rfl<|op_loadP ty31 rfl f353 rfl ?_
 intro v354 h355
 obtain⟨Ao,Co,rfl,Fo⟩:=un_sl h355
 obtain⟨hc357,hm⟩:=ck_some hm
 refine Rog rfl rfl<|op_indexAddr (q:=(rInt .i64)) ty31 ty3 rfl rfl Fo rfl hc357.1 hc357.2 ?_
 intro p358 f359
 refine Rog rfl rfl<|op_loadP ty3 rfl f359 rfl ?_
 intro v360 h361
 obtain⟨rfl,Ri⟩:=un_int h361
 refine Rog rfl rfl<|op_eql rfl rfl<|Pkt (Bo (decide (((part_1.1.capacity.getD 0 default).getD 0 default)=4096))) rfl rfl<|Mve (Bo (decide (((part_1.1.capacity.getD 0 default).getD 0 default)=4096))) rfl<|Rg_caseM hm (fun hg363 hm=>?_) (fun hg363 hm=>?_)
 refine Rog rfl rfl<|op_fA 1 ty26 rfl ty23 rfl rfl<|Rog rfl rfl<|op_ld 0 ty23 hs328 rfl rfl rfl ?_
 obtain⟨hc364,hm⟩:=ck_some hm
 refine Rog rfl rfl<|op_indexAddr (q:=rSl (rInt .i64)) ty23 ty31 rfl rfl Fl rfl hc364.1 hc364.2 ?_
 intro p365 f366
 refine Rog rfl rfl<|op_loadP ty31 rfl f366 rfl ?_
 intro v367 h368
 obtain⟨Ap,Cp,rfl,Fp⟩:=un_sl h368
 obtain⟨hc370,hm⟩:=ck_some hm
 refine Rog rfl rfl<|op_indexAddr (q:=(rInt .i64)) ty31 ty3 rfl rfl Fp rfl hc370.1 hc370.2 ?_
 intro p371 f372
 replace f372:PtR (rInt .i64) _ _ p371 ((part_1.1.capacity.getD 0 default).getD 1 default):=f372
 refine Rog rfl rfl<|op_loadP ty3 rfl f372 rfl ?_
 intro v373 h374
 obtain⟨rfl,Rj⟩:=un_int h374
 refine Rog rfl rfl<|op_eql rfl rfl<|Pkt (Bo (decide (((part_1.1.capacity.getD 0 default).getD 1 default)=1))) rfl rfl<|Asg (Bo (decide (((part_1.1.capacity.getD 0 default).getD 1 default)=1))) rfl<|Rg_nil ?_
 replace ch321:=ch321.trans p331
 exact hK315 _ _ ⟨decide (((part_1.1.capacity.getD 0 default).getD 1 default)=1),_,rfl,Frm.of ⟨rfl,trivial⟩,ch321,hs328,hm⟩
 iterate 7 refine Rg_opx rfl (asB_ne rfl rfl) rfl ?_
 refine Pkf (Bo false) rfl rfl<|Asg (Bo false) rfl<|Rg_nil ?_
 replace ch321:=ch321.trans p331
 exact hK315 _ _ ⟨false,_,rfl,Frm.of ⟨rfl,trivial⟩,ch321,hs328,hm⟩
 iterate 7 refine Rg_opx rfl (asB_ne rfl rfl) rfl ?_
 refine Pkf (Bo false) rfl rfl<|Mve (Bo false) rfl ?_
 iterate 7 refine Rg_opx rfl (asB_ne rfl rfl) rfl ?_
 refine Pkf (Bo false) rfl rfl<|Asg (Bo false) rfl<|Rg_nil ?_
 replace ch321:=ch321.trans p331
 exact hK315 _ _ ⟨false,_,rfl,Frm.of ⟨rfl,trivial⟩,ch321,hs328,hm⟩
 iterate 6 refine Rg_opx rfl (asB_ne rfl rfl) rfl ?_
 refine Pkf (Bo false) rfl rfl<|Mve (Bo false) rfl ?_
 iterate 7 refine Rg_opx rfl (asB_ne rfl rfl) rfl ?_
 refine Pkf (Bo false) rfl rfl<|Mve (Bo false) rfl ?_
 iterate 7 refine Rg_opx rfl (asB_ne rfl rfl) rfl ?_
 refine Pkf (Bo false) rfl rfl<|Asg (Bo false) rfl<|Rg_nil ?_
 replace ch321:=ch321.trans p331
 exact hK315 _ _ ⟨false,_,rfl,Frm.of ⟨rfl,trivial⟩,ch321,hs328,hm⟩
 iterate 4 refine Rg_opx rfl (asB_ne rfl rfl) rfl ?_
 refine Pkf (Bo false) rfl rfl<|Mve (Bo false) rfl ?_
 iterate 6 refine Rg_opx rfl (asB_ne rfl rfl) rfl ?_
 refine Pkf (Bo false) rfl rfl<|Mve (Bo false) rfl ?_
 iterate 7 refine Rg_opx rfl (asB_ne rfl rfl) rfl ?_
 refine Pkf (Bo false) rfl rfl<|Mve (Bo false) rfl ?_
 iterate 7 refine Rg_opx rfl (asB_ne rfl rfl) rfl ?_
 refine Pkf (Bo false) rfl rfl<|Asg (Bo false) rfl<|Rg_nil ?_
 replace ch321:=ch321.trans p331
 exact hK315 _ _ ⟨false,_,rfl,Frm.of ⟨rfl,trivial⟩,ch321,hs328,hm⟩
 iterate 4 refine Rg_opx rfl (asB_ne rfl rfl) rfl ?_
 refine Pkf (Bo false) rfl rfl<|Mve (Bo false) rfl ?_
 iterate 4 refine Rg_opx rfl (asB_ne rfl rfl) rfl ?_
 refine Pkf (Bo false) rfl rfl<|Mve (Bo false) rfl ?_
 iterate 6 refine Rg_opx rfl (asB_ne rfl rfl) rfl ?_
 refine Pkf (Bo false) rfl rfl<|Mve (Bo false) rfl ?_
 iterate 7 refine Rg_opx rfl (asB_ne rfl rfl) rfl ?_
 refine Pkf (Bo false) rfl rfl<|Mve (Bo false) rfl ?_
 iterate 7 refine Rg_opx rfl (asB_ne rfl rfl) rfl ?_
 refine Pkf (Bo false) rfl rfl<|Asg (Bo false) rfl<|Rg_nil ?_
 replace ch321:=ch321.trans p331
 exact hK315 _ _ ⟨false,_,rfl,Frm.of ⟨rfl,trivial⟩,ch321,hs328,hm⟩
 refine Rg_opx rfl (asB_ne rfl rfl) rfl<|Rg_opx rfl (asB_ne rfl rfl) rfl<|Pkf (Bo false) rfl rfl<|Mve (Bo false) rfl ?_
 iterate 4 refine Rg_opx rfl (asB_ne rfl rfl) rfl ?_
 refine Pkf (Bo false) rfl rfl<|Mve (Bo false) rfl ?_
 iterate 4 refine Rg_opx rfl (asB_ne rfl rfl) rfl ?_
 refine Pkf (Bo false) rfl rfl<|Mve (Bo false) rfl ?_
 iterate 6 refine Rg_opx rfl (asB_ne rfl rfl) rfl ?_
 refine Pkf (Bo false) rfl rfl<|Mve (Bo false) rfl ?_
 iterate 7 refine Rg_opx rfl (asB_ne rfl rfl) rfl ?_
 refine Pkf (Bo false) rfl rfl<|Mve (Bo false) rfl ?_
 iterate 7 refine Rg_opx rfl (asB_ne rfl rfl) rfl ?_
 refine Pkf (Bo false) rfl rfl<|Asg (Bo false) rfl<|Rg_nil ?_
 replace ch321:=ch321.trans p331
 exact hK315 _ _ ⟨false,_,rfl,Frm.of ⟨rfl,trivial⟩,ch321,hs328,hm⟩
 refine Rg_opx rfl (asB_ne rfl rfl) rfl<|Rg_opx rfl (asB_ne rfl rfl) rfl<|Pkf (Bo false) rfl rfl<|Mve (Bo false) rfl<|Rg_opx rfl (asB_ne rfl rfl) rfl<|Rg_opx rfl (asB_ne rfl rfl) rfl<|Pkf (Bo false) rfl rfl<|Mve (Bo false) rfl ?_
 iterate 4 refine Rg_opx rfl (asB_ne rfl rfl) rfl ?_
 refine Pkf (Bo false) rfl rfl<|Mve (Bo false) rfl ?_
 iterate 4 refine Rg_opx rfl (asB_ne rfl rfl) rfl ?_
 refine Pkf (Bo false) rfl rfl<|Mve (Bo false) rfl ?_
 iterate 6 refine Rg_opx rfl (asB_ne rfl rfl) rfl ?_
 refine Pkf (Bo false) rfl rfl<|Mve (Bo false) rfl ?_
 iterate 7 refine Rg_opx rfl (asB_ne rfl rfl) rfl ?_
 refine Pkf (Bo false) rfl rfl<|Mve (Bo false) rfl ?_
 iterate 7 refine Rg_opx rfl (asB_ne rfl rfl) rfl ?_
 refine Pkf (Bo false) rfl rfl<|Asg (Bo false) rfl<|Rg_nil ?_
 replace ch321:=ch321.trans p331
 exact hK315 _ _ ⟨false,_,rfl,Frm.of ⟨rfl,trivial⟩,ch321,hs328,hm⟩
 refine Rg_opx rfl (asB_ne rfl rfl) rfl<|Rg_opx rfl (asB_ne rfl rfl) rfl<|Pkf (Bo false) rfl rfl<|Mve (Bo false) rfl<|Rg_opx rfl (asB_ne rfl rfl) rfl<|Rg_opx rfl (asB_ne rfl rfl) rfl<|Pkf (Bo false) rfl rfl<|Mve (Bo false) rfl<|Rg_opx rfl (asB_ne rfl rfl) rfl<|Rg_opx rfl (asB_ne rfl rfl) rfl<|Pkf (Bo false) rfl rfl<|Mve (Bo false) rfl ?_
 iterate 4 refine Rg_opx rfl (asB_ne rfl rfl) rfl ?_
 refine Pkf (Bo false) rfl rfl<|Mve (Bo false) rfl ?_
 iterate 4 refine Rg_opx rfl (asB_ne rfl rfl) rfl ?_
 refine Pkf (Bo false) rfl rfl<|Mve (Bo false) rfl ?_
 iterate 6 refine Rg_opx rfl (asB_ne rfl rfl) rfl ?_
 refine Pkf (Bo false) rfl rfl<|Mve (Bo false) rfl ?_
 iterate 7 refine Rg_opx rfl (asB_ne rfl rfl) rfl ?_
 refine Pkf (Bo false) rfl rfl<|Mve (Bo false) rfl ?_
 iterate 7 refine Rg_opx rfl (asB_ne rfl rfl) rfl ?_
 refine Pkf (Bo false) rfl rfl<|Asg (Bo false) rfl<|Rg_nil ?_
 replace ch321:=ch321.trans p331
 exact hK315 _ _ ⟨false,_,rfl,Frm.of ⟨rfl,trivial⟩,ch321,hs328,hm⟩
 refine Rg_opx rfl (asB_ne rfl rfl) rfl<|Pkf (Bo false) rfl rfl<|Mve (Bo false) rfl<|Rg_opx rfl (asB_ne rfl rfl) rfl<|Rg_opx rfl (asB_ne rfl rfl) rfl<|Pkf (Bo false) rfl rfl<|Mve (Bo false) rfl<|Rg_opx rfl (asB_ne rfl rfl) rfl<|Rg_opx rfl (asB_ne rfl rfl) rfl<|Pkf (Bo false) rfl rfl<|Mve (Bo false) rfl<|Rg_opx rfl (asB_ne rfl rfl) rfl<|Rg_opx rfl (asB_ne rfl rfl) rfl<|Pkf (Bo false) rfl rfl<|Mve (Bo false) rfl ?_
 iterate 4 refine Rg_opx rfl (asB_ne rfl rfl) rfl ?_
 refine Pkf (Bo false) rfl rfl<|Mve (Bo false) rfl ?_
 iterate 4 refine Rg_opx rfl (asB_ne rfl rfl) rfl ?_
 refine Pkf (Bo false) rfl rfl<|Mve (Bo false) rfl ?_
 iterate 6 refine Rg_opx rfl (asB_ne rfl rfl) rfl ?_
 refine Pkf (Bo false) rfl rfl<|Mve (Bo false) rfl ?_
 iterate 7 refine Rg_opx rfl (asB_ne rfl rfl) rfl ?_
 refine Pkf (Bo false) rfl rfl<|Mve (Bo false) rfl ?_
 iterate 7 refine Rg_opx rfl (asB_ne rfl rfl) rfl ?_
 refine Pkf (Bo false) rfl rfl<|Asg (Bo false) rfl<|Rg_nil ?_
 replace ch321:=ch321.trans p331
 exact hK315 _ _ ⟨false,_,rfl,Frm.of ⟨rfl,trivial⟩,ch321,hs328,hm⟩
 iterate 3 refine Rg_opx rfl (asB_ne rfl rfl) rfl ?_
 refine Pkf (Bo false) rfl rfl<|Mve (Bo false) rfl<|Rg_opx rfl (asB_ne rfl rfl) rfl<|Pkf (Bo false) rfl rfl<|Mve (Bo false) rfl<|Rg_opx rfl (asB_ne rfl rfl) rfl<|Rg_opx rfl (asB_ne rfl rfl) rfl<|Pkf (Bo false) rfl rfl<|Mve (Bo false) rfl<|Rg_opx rfl (asB_ne rfl rfl) rfl<|Rg_opx rfl (asB_ne rfl rfl) rfl<|Pkf (Bo false) rfl rfl<|Mve (Bo false) rfl<|Rg_opx rfl (asB_ne rfl rfl) rfl<|Rg_opx rfl (asB_ne rfl rfl) rfl<|Pkf (Bo false) rfl rfl<|Mve (Bo false) rfl ?_
 iterate 4 refine Rg_opx rfl (asB_ne rfl rfl) rfl ?_
 refine Pkf (Bo false) rfl rfl<|Mve (Bo false) rfl ?_
 iterate 4 refine Rg_opx rfl (asB_ne rfl rfl) rfl ?_
 refine Pkf (Bo false) rfl rfl<|Mve (Bo false) rfl ?_
 iterate 6 refine Rg_opx rfl (asB_ne rfl rfl) rfl ?_
 refine Pkf (Bo false) rfl rfl<|Mve (Bo false) rfl ?_
 iterate 7 refine Rg_opx rfl (asB_ne rfl rfl) rfl ?_
 refine Pkf (Bo false) rfl rfl<|Mve (Bo false) rfl ?_
 iterate 7 refine Rg_opx rfl (asB_ne rfl rfl) rfl ?_
 exact Pkf (Bo false) rfl rfl<|Asg (Bo false) rfl<|Rg_nil<|hK315 _ _ ⟨false,_,rfl,Frm.of ⟨rfl,trivial⟩,ch321,hs304,hm⟩
 intro K302 hK302
 have ch376:=hs297.stepR
 refine Wp_region<|Mve (Iv smallest_1.2.2) rfl<|Rop<|op_neq rfl rfl<|Mve (Bo (decide (smallest_1.2.2≠0))) rfl<|Rg_caseM hm (fun hg377 hm=>?_) (fun hg377 hm=>?_)
 refine Rg_opx rfl (asB_ne rfl rfl) rfl<|Rg_opx rfl (asB_ne rfl rfl) rfl<|Pkt (Bo true) rfl rfl<|Mve (Bo true) rfl<|Rg_opx rfl (asB_ne rfl rfl) rfl<|Rg_opx rfl (asB_ne rfl rfl) rfl<|Pkt (Bo true) rfl rfl<|Mve (Bo true) rfl<|Rg_opx rfl (asB_ne rfl rfl) rfl<|Rg_opx rfl (asB_ne rfl rfl) rfl<|Pkt (Bo true) rfl rfl<|Mve (Bo true) rfl<|Rg_opx rfl (asB_ne rfl rfl) rfl<|Rg_opx rfl (asB_ne rfl rfl) rfl<|Pkt (Bo true) rfl rfl<|Mve (Bo true) rfl<|Rg_opx rfl (asB_ne rfl rfl) rfl<|Rg_opx rfl (asB_ne rfl rfl) rfl<|Pkt (Bo true) rfl rfl<|Mve (Bo true) rfl<|Rg_opx rfl (asB_ne rfl rfl) rfl<|Rg_opx rfl (asB_ne rfl rfl) rfl<|Pkt (Bo true) rfl rfl<|Mve (Bo true) rfl ?_
 iterate 5 refine Rg_opx rfl (asB_ne rfl rfl) rfl ?_
 exact Pkt (Bo true) rfl rfl<|Rg_nil<|hK302 _ _ ⟨true,_,rfl,Frm.of ⟨rfl,trivial⟩,ch376,hs297,hm⟩
 refine Rog rfl rfl<|op_move (v:=Iv proves_1.2) rfl<|Rog rfl rfl<|op_neq rfl rfl<|Pkf (Bo (decide (proves_1.2≠0))) rfl rfl<|Mve (Bo (decide (proves_1.2≠0))) rfl<|Rg_caseM hm (fun hg378 hm=>?_) (fun hg378 hm=>?_)
 refine Rg_opx rfl (asB_ne rfl rfl) rfl<|Rg_opx rfl (asB_ne rfl rfl) rfl<|Pkt (Bo true) rfl rfl<|Mve (Bo true) rfl<|Rg_opx rfl (asB_ne rfl rfl) rfl<|Rg_opx rfl (asB_ne rfl rfl) rfl<|Pkt (Bo true) rfl rfl<|Mve (Bo true) rfl<|Rg_opx rfl (asB_ne rfl rfl) rfl<|Rg_opx rfl (asB_ne rfl rfl) rfl<|Pkt (Bo true) rfl rfl<|Mve (Bo true) rfl<|Rg_opx rfl (asB_ne rfl rfl) rfl<|Rg_opx rfl (asB_ne rfl rfl) rfl<|Pkt (Bo true) rfl rfl<|Mve (Bo true) rfl<|Rg_opx rfl (asB_ne rfl rfl) rfl<|Rg_opx rfl (asB_ne rfl rfl) rfl<|Pkt (Bo true) rfl rfl<|Mve (Bo true) rfl ?_
 iterate 5 refine Rg_opx rfl (asB_ne rfl rfl) rfl ?_
 exact Pkt (Bo true) rfl rfl<|Rg_nil<|hK302 _ _ ⟨true,_,rfl,Frm.of ⟨rfl,trivial⟩,ch376,hs297,hm⟩
 refine Rog rfl rfl<|op_move (v:=Iv proves_2.2) rfl<|Rog rfl rfl<|op_neq rfl rfl<|Pkf (Bo (decide (proves_2.2≠0))) rfl rfl<|Mve (Bo (decide (proves_2.2≠0))) rfl<|Rg_caseM hm (fun hg379 hm=>?_) (fun hg379 hm=>?_)
 refine Rg_opx rfl (asB_ne rfl rfl) rfl<|Rg_opx rfl (asB_ne rfl rfl) rfl<|Pkt (Bo true) rfl rfl<|Mve (Bo true) rfl<|Rg_opx rfl (asB_ne rfl rfl) rfl<|Rg_opx rfl (asB_ne rfl rfl) rfl<|Pkt (Bo true) rfl rfl<|Mve (Bo true) rfl<|Rg_opx rfl (asB_ne rfl rfl) rfl<|Rg_opx rfl (asB_ne rfl rfl) rfl<|Pkt (Bo true) rfl rfl<|Mve (Bo true) rfl<|Rg_opx rfl (asB_ne rfl rfl) rfl<|Rg_opx rfl (asB_ne rfl rfl) rfl<|Pkt (Bo true) rfl rfl<|Mve (Bo true) rfl ?_
 iterate 5 refine Rg_opx rfl (asB_ne rfl rfl) rfl ?_
 exact Pkt (Bo true) rfl rfl<|Rg_nil<|hK302 _ _ ⟨true,_,rfl,Frm.of ⟨rfl,trivial⟩,ch376,hs297,hm⟩
 refine Rog rfl rfl<|op_move (v:=Iv proves_3.2) rfl<|Rog rfl rfl<|op_neq rfl rfl<|Pkf (Bo (decide (proves_3.2≠0))) rfl rfl<|Mve (Bo (decide (proves_3.2≠0))) rfl<|Rg_caseM hm (fun hg380 hm=>?_) (fun hg380 hm=>?_)
 refine Rg_opx rfl (asB_ne rfl rfl) rfl<|Rg_opx rfl (asB_ne rfl rfl) rfl<|Pkt (Bo true) rfl rfl<|Mve (Bo true) rfl<|Rg_opx rfl (asB_ne rfl rfl) rfl<|Rg_opx rfl (asB_ne rfl rfl) rfl<|Pkt (Bo true) rfl rfl<|Mve (Bo true) rfl<|Rg_opx rfl (asB_ne rfl rfl) rfl<|Rg_opx rfl (asB_ne rfl rfl) rfl<|Pkt (Bo true) rfl rfl<|Mve (Bo true) rfl ?_
 iterate 5 refine Rg_opx rfl (asB_ne rfl rfl) rfl ?_
 exact Pkt (Bo true) rfl rfl<|Rg_nil<|hK302 _ _ ⟨true,_,rfl,Frm.of ⟨rfl,trivial⟩,ch376,hs297,hm⟩
 refine Rog rfl rfl<|op_move (v:=Iv smallest_2.2.2) rfl<|Rog rfl rfl<|op_neq rfl rfl<|Pkf (Bo (decide (smallest_2.2.2≠0))) rfl rfl<|Mve (Bo (decide (smallest_2.2.2≠0))) rfl<|Rg_caseM hm (fun hg381 hm=>?_) (fun hg381 hm=>?_)
 refine Rg_opx rfl (asB_ne rfl rfl) rfl<|Rg_opx rfl (asB_ne rfl rfl) rfl<|Pkt (Bo true) rfl rfl<|Mve (Bo true) rfl<|Rg_opx rfl (asB_ne rfl rfl) rfl<|Rg_opx rfl (asB_ne rfl rfl) rfl<|Pkt (Bo true) rfl rfl<|Mve (Bo true) rfl ?_
 iterate 5 refine Rg_opx rfl (asB_ne rfl rfl) rfl ?_
 exact Pkt (Bo true) rfl rfl<|Rg_nil<|hK302 _ _ ⟨true,_,rfl,Frm.of ⟨rfl,trivial⟩,ch376,hs297,hm⟩
 refine Rog rfl rfl<|op_move (v:=Iv smallest_3.2.2) rfl<|Rog rfl rfl<|op_neq rfl rfl<|Pkf (Bo (decide (smallest_3.2.2≠2))) rfl rfl<|Mve (Bo (decide (smallest_3.2.2≠2))) rfl<|Rg_caseM hm (fun hg382 hm=>?_) (fun hg382 hm=>?_)
 refine Rg_opx rfl (asB_ne rfl rfl) rfl<|Rg_opx rfl (asB_ne rfl rfl) rfl<|Pkt (Bo true) rfl rfl<|Mve (Bo true) rfl ?_
 iterate 5 refine Rg_opx rfl (asB_ne rfl rfl) rfl ?_
 exact Pkt (Bo true) rfl rfl<|Rg_nil<|hK302 _ _ ⟨true,_,rfl,Frm.of ⟨rfl,trivial⟩,ch376,hs297,hm⟩
 refine Rog rfl rfl<|op_move (v:=Iv part_1.2) rfl<|Rog rfl rfl<|op_neq rfl rfl<|Pkf (Bo (decide (part_1.2≠0))) rfl rfl<|Mve (Bo (decide (part_1.2≠0))) rfl<|Rg_caseM hm (fun hg383 hm=>?_) (fun hg383 hm=>?_)
 iterate 5 refine Rg_opx rfl (asB_ne rfl rfl) rfl ?_
 exact Pkt (Bo true) rfl rfl<|Rg_nil<|hK302 _ _ ⟨true,_,rfl,Frm.of ⟨rfl,trivial⟩,ch376,hs297,hm⟩
 refine Rog rfl rfl<|op_ldA 3 ty26 hs297 rfl rfl rfl<|Rog rfl rfl<|op_buildSlice (cs:=[Iv 0,Iv 0]) (parts:=[(0,.const (.int .i64 0)),(1,.const (.int .i64 0))]) ty31 ty3 hs297 (by decide) rfl ?_
 intro b384 w385 hx388 p386 hs387
 have f390:=Gs.of_cells (p:=(rInt .i64)) (e:=3) (bl:=b384) (c:=2) (w:=w385) (O:=ks [(some b384,Oc [Iv 0,Iv 0] 3),(some b290,Oc [Sl Ak part_1.1.cells Ck,Sl Al part_1.1.capacity Cl,Sl Am part_1.1.variables Cm] 26),(some b56,Oc [Sl (some ⟨b42,0,none⟩) [1,2] 2,Sl (some ⟨b48,0,none⟩) [(⟨0,1⟩:XPlace)] 1] 34),(some b34,Oc [Sl Ad smallest_1.1.variables Cd,Sl Ae smallest_1.1.places Ce] 34),(some b9,Oc [Sl Aa two_1.cells Ca,Sl Ab two_1.capacity Cb,Sl Ac two_1.variables Cc] 26)] O) (show Els (rInt .i64) _ _ [Iv 0,Iv 0] [0,0] from⟨_,_,rfl,mk_int (show InK .i64 0 from by decide),⟨_,_,rfl,mk_int (show InK .i64 0 from by decide),Els.nil⟩⟩) rfl (le_lit rfl)
 refine Rog rfl rfl<|op_build (vs:=[Sl (some ⟨b384,0,none⟩) [0,0] 2,Value.slice none 0 0]) (parts:=[(0,.tmp 115)]) ty34 pl34 rfl ?_
 obtain⟨hs392,p393,f391⟩:=Gs.publish (i:=0) hs387 rfl f390
 clear hs387
 obtain⟨check_1,hv394,hm⟩:=bd hm
 have p400:=(p283.trans (p292.trans (p296.trans (p386.trans p393))))
 replace Fb:=Fb.step p400;replace Fa:=Fa.step p400;replace Fc:=Fc.step p400
 refine Rog rfl rfl<|op_callE hs392 Try.call23 (c23_reason_Check (p:=two_1) (r_:=(⟨[0,0],([]:List XPlace)⟩:XReason)) hs392.ltw Fa Fb Fc f391 SlR.nil_ hv394) rfl ?_
 rintro v395 w396 p401 hs399 h398
 clear hs392
 obtain⟨rfl,Rk⟩:=h398
 refine Rog rfl rfl<|op_neq rfl rfl<|Pkf (Bo (decide (check_1≠320))) rfl rfl<|Rg_nil ?_
 replace ch376:=ch376.trans (p386.trans (p393.trans p401))
 exact hK302 _ _ ⟨decide (check_1≠320),_,rfl,Frm.of ⟨rfl,trivial⟩,ch376,hs399,hm⟩

abbrev q73_0:List Nat:=[4,6,7,21,22,23,24,25,26,27,28,29,30,31,32,33,34,35,36,37]

def m73_problem_branch_B0 (p:XProblem) (b:List Int) (sf25:Int→Option Int) (v_1:Int):Option Int:=
 bif (decide (v_1<(b.length:Int))) then
  ck ((0:Int)≤v_1∧v_1<(b.length:Int))<|
  ck ((0:Int)≤v_1∧v_1<(p.variables.length:Int))<|
  (m33_problem_within (b.getD v_1.toNat default) 0 (IntKind.wrap .i64 ((((p.variables.getD v_1.toNat default).choices).length:Int) - 1))).bind fun within_1=>
  bif (!within_1) then
   some 270
  else
   sf25 (IntKind.wrap .i64 (v_1+1))
 else
  some 0

def m73_problem_branch (p:XProblem) (b:List Int):Option Int:=
 (m12_problem_Check p).bind fun check_1=>
 bif (decide (check_1≠0)) then
  some check_1
 else
  bif (decide ((p.variables.length:Int)<(b.length:Int))) then
   some 270
  else
   loop1 (m73_problem_branch_B0 p b) (((b.length:Int) - 0).toNat+1) 0

theorem c73_problem_branch {w:World} {O:List Nat} {p:XProblem} {b:List Int} {Aa:Option Addr} {Ca:Nat} {Ab:Option Addr} {Cb:Nat} {Ac:Option Addr} {Cc:Nat} {Ad:Option Addr} {Cd:Nat} (hO:∀k∈O,k<w.heap.size) (Fa:SlR rXCell w O Aa Ca p.cells) (Fb:SlR (rSl (rInt .i64)) w O Ab Cb p.capacity) (Fc:SlR rXVariable w O Ac Cc p.variables) (Fd:SlR (rInt .i64) w O Ad Cd b) {x:Int} (hm:m73_problem_branch p b=some x):
 Ok Try.prog 73 [Value.agg [Sl Aa p.cells Ca,Sl Ab p.capacity Cb,Sl Ac p.variables Cc].toArray,Sl Ad b Cd] w O (vI .i64) x:=by
 unfold m73_problem_branch at hm
 refine Fn_of_Wp (n:=38) (xs:=[.tmp 4]) Try.func73 rfl Try.ntmps73 Try.results73 rfl ?_
 have hs:=St.start hO
 refine Wp_seq<|Wp_region<|Rop<|op_box (cs:=[Sl Aa p.cells Ca,Sl Ab p.capacity Cb,Sl Ac p.variables Cc]) hs rfl rfl ?_
 intro b1 w2 _ p3 hs4
 refine Asg (Iv 0) rfl<|Rg_nil<|Wp_seq<|Wp_seq<|Wp_region<|Rop<|op_ldA 0 ty26 hs4 rfl rfl rfl ?_
 obtain⟨check_1,hv6,hm⟩:=bd hm
 replace Fb:=Fb.step p3;replace Fa:=Fa.step p3;replace Fc:=Fc.step p3
 refine Rop<|op_callE hs4 Try.call12 (c12_problem_Check (p:=p) hs4.ltw Fa Fb Fc hv6) rfl ?_
 rintro v7 w8 p12 hs11 h10
 clear hs4
 obtain⟨rfl,Ra⟩:=h10
 refine Asg (Iv check_1) rfl<|Rg_nil<|Wp_seq<|Wp_region<|Mve (Iv check_1) rfl<|Rop<|op_neq rfl rfl<|Rg_nil<|Wp_condM hm rfl (fun hc14 hm=>?_) (fun hc14 hm=>?_)
 refine Wp_seq ?_
 obtain⟨hs15,p16⟩:=hs11.sub (bs':=[]) (.cons _ List.Sublist.slnil)
 clear Fa Fb Fc Fd
 clear hs11
 refine Wp_region<|Mve (Iv check_1) rfl<|Asg (Iv check_1) rfl<|Rg_nil<|Wp_ret<|⟨_,Clo,[Iv check_1],⟨rfl,trivial⟩,hs15.ext,?_⟩
 exact Vr.eq (a:=(vI .i64)) (x:=check_1) ⟨rfl,Ra⟩ (oi hm)
 refine Wp_skip<|Wp_seq<|Wp_seq<|Wp_region<|Mve (Sl Ad b Cd) rfl<|Rop<|op_len Try.underlying31 rfl ?_
 replace Fd:=Fd.step (p3.trans p12)
 have rl17:=inK_len Fd
 refine Rop<|op_fA 2 ty26 rfl ty24 rfl rfl<|Rop<|op_ld 0 ty24 hs11 rfl rfl rfl<|Rop<|op_len Try.underlying24 rfl ?_
 replace Fc:=Fc.step p12
 have rl18:=inK_len Fc
 refine Rop<|op_gtr rfl rfl<|Rg_nil<|Wp_condM hm rfl (fun hc19 hm=>?_) (fun hc19 hm=>?_)
 refine Wp_seq ?_
 obtain⟨hs20,p21⟩:=hs11.sub (bs':=[]) (.cons _ List.Sublist.slnil)
 clear Fa Fb Fc Fd
 clear hs11
 refine Wp_region<|Asg (Iv 270) rfl<|Rg_nil<|Wp_ret<|⟨_,Clo,[Iv 270],⟨rfl,trivial⟩,hs20.ext,?_⟩
 exact Vr.eq (a:=(vI .i64)) (x:=270) ⟨rfl,(show InK .i64 270 from by decide)⟩ (oi hm)
 refine Wp_skip<|Wp_seq<|Wp_seq<|Wp_region<|Mve (Sl Ad b Cd) rfl<|Rop<|op_len Try.underlying31 rfl ?_
 have rl22:=inK_len Fd
 refine Mve (Iv 0) rfl<|Rg_nil<|Wp_block<|Wr [] [(2,Pt b1 0),(19,Sl Ad b Cd),(20,Iv (b.length:Int)),(21,Iv 0)] fun ξ24=>Wp_loopM q73_0 (fun m fr w'=>∃(v_1:Int) (Ebs:Ents),Ebs=[(some b1,Oc [Sl Aa p.cells Ca,Sl Ab p.capacity Cb,Sl Ac p.variables Cc] 26)]∧fr [] [(21,Iv v_1)]∧hs11.S (ks Ebs O) w'∧St ⟨w,[],[]⟩ O w' Ebs∧InK .i64 v_1∧loop1 (m73_problem_branch_B0 p b) m v_1=some x) (((b.length:Int) - 0).toNat+1) ⟨0,_,rfl,Frm.of ⟨rfl,trivial⟩,Step.refl _ _,hs11,(show InK .i64 0 from by decide),hm⟩ ?_ ?_
 rintro _ _ ⟨_,_,_,_,_,_,_,hm⟩;exact loop1_z hm
 rintro m28 K27 hK27 ρ33 w29 ⟨v_1,_,rfl,hfr32,hst31,hs30,Rb,hm⟩
 obtain⟨sf25,hsf26,hm⟩:=loop1_s hm;unfold m73_problem_branch_B0 at hm
 rw [hfr32.eq];clear hfr32
 have ch34:=hst31
 refine Wp_seq<|Wp_region<|Rop<|op_lss rfl rfl<|Rg_nil<|Wp_seq<|Wp_condM hm rfl (fun hc35 hm=>?_) (fun hc35 hm=>?_)
 refine Wp_skip<|Wp_seq<|Wp_block<|Wp_seq<|Wp_region<|Mve (Iv v_1) rfl ?_
 obtain⟨hc36,hm⟩:=ck_some hm
 replace Fd:=Fd.step hst31
 refine Rop<|op_indexAddr (q:=(rInt .i64)) ty31 ty3 rfl rfl Fd rfl hc36.1 hc36.2 ?_
 intro p37 f38
 refine Rop<|op_loadP ty3 rfl f38 rfl ?_
 intro v39 h40
 obtain⟨rfl,Rc⟩:=un_int h40
 refine Asg (Iv v_1) rfl<|Asg (Iv (b.getD v_1.toNat default)) rfl<|Rg_nil<|Wp_seq ?_
 clear f38
 refine Wp_region<|Mve (Iv (b.getD v_1.toNat default)) rfl<|Rop<|op_fA 2 ty26 rfl ty24 rfl rfl<|Rop<|op_ld 0 ty24 hs30 rfl rfl rfl<|Mve (Iv v_1) rfl ?_
 obtain⟨hc42,hm⟩:=ck_some hm
 replace Fc:=Fc.step hst31
 refine Rop<|op_indexAddr (q:=rXVariable) ty24 ty61 rfl rfl Fc rfl hc42.1 hc42.2 ?_
 intro p43 f44
 refine Rop<|op_fieldAddr ty61 rfl ty59 (by decide) rfl rfl ?_
 have f45:=f44.via.snd.snd.snd
 refine Rop<|op_loadP ty59 rfl f45 rfl ?_
 intro v46 h47
 obtain⟨Ae,Ce,rfl,Fe⟩:=un_sl h47
 refine Rop<|op_len Try.underlying59 rfl ?_
 have rl49:=inK_len Fe
 refine Rop<|op_subw rfl rfl ?_
 obtain⟨within_1,hv50,hm⟩:=bd hm
 refine Rop<|op_callE hs30 Try.call33 (c33_problem_within (n:=b.getD v_1.toNat default) (lo:=0) (hi:=(IntKind.wrap .i64 ((((p.variables.getD v_1.toNat default).choices).length:Int) - 1))) hs30.ltw Rc (show InK .i64 0 from by decide) (inK_wrap .i64 _) hv50) rfl ?_
 rintro v51 w52 p56 hs55 h54
 clear hs30
 obtain rfl:=h54
 refine Rop<|op_not rfl<|Rg_nil<|Wp_condM hm rfl (fun hc58 hm=>?_) (fun hc58 hm=>?_)
 refine Wp_seq ?_
 clear Fd f44 f45 Fe
 refine Wp_region<|Asg (Iv 270) rfl<|Rg_nil<|Wp_ret<|⟨_,Clo,[Iv 270],⟨rfl,trivial⟩,hs55.ext,?_⟩
 exact Vr.eq (a:=(vI .i64)) (x:=270) ⟨rfl,(show InK .i64 270 from by decide)⟩ (oi hm)
 refine Wp_skip ?_
 clear f44 f45 Fe
 refine Wp_region<|Rop<|op_addw rfl rfl<|Mve (Iv (IntKind.wrap .i64 (v_1+1))) rfl<|Rg_nil ?_
 replace ch34:=ch34.trans p56
 exact hK27 _ _ ⟨(IntKind.wrap .i64 (v_1+1)),_,rfl,Frm.of ⟨rfl,trivial⟩,ch34,hs55,(inK_wrap .i64 _),jnE1 hsf26 hm⟩
 refine Wp_exit<|Wp_seq ?_
 obtain⟨hs59,p60⟩:=hs30.sub (bs':=[]) (.cons _ List.Sublist.slnil)
 clear Fa Fb Fc Fd
 clear hs30
 refine Wp_region<|Asg (Iv 0) rfl<|Rg_nil<|Wp_ret<|⟨_,Clo,[Iv 0],⟨rfl,trivial⟩,hs59.ext,?_⟩
 exact Vr.eq (a:=(vI .i64)) (x:=0) ⟨rfl,(show InK .i64 0 from by decide)⟩ (oi hm)

def m47_problem_whole (p:XProblem) (choices:List Int):Option Int:=
 (m73_problem_branch p choices).bind fun branch_1=>
 bif (decide (branch_1≠0)) then
  some branch_1
 else
  bif (decide ((choices.length:Int)≠(p.variables.length:Int))) then
   some 270
  else
   some 0

theorem c47_problem_whole {w:World} {O:List Nat} {p:XProblem} {choices:List Int} {Aa:Option Addr} {Ca:Nat} {Ab:Option Addr} {Cb:Nat} {Ac:Option Addr} {Cc:Nat} {Ad:Option Addr} {Cd:Nat} (hO:∀k∈O,k<w.heap.size) (Fa:SlR rXCell w O Aa Ca p.cells) (Fb:SlR (rSl (rInt .i64)) w O Ab Cb p.capacity) (Fc:SlR rXVariable w O Ac Cc p.variables) (Fd:SlR (rInt .i64) w O Ad Cd choices) {x:Int} (hm:m47_problem_whole p choices=some x):
 Ok Try.prog 47 [Value.agg [Sl Aa p.cells Ca,Sl Ab p.capacity Cb,Sl Ac p.variables Cc].toArray,Sl Ad choices Cd] w O (vI .i64) x:=by
 unfold m47_problem_whole at hm
 refine Fn_of_Wp (n:=18) (xs:=[.tmp 4]) Try.func47 rfl Try.ntmps47 Try.results47 rfl ?_
 have hs:=St.start hO
 refine Wp_seq<|Wp_region<|Rop<|op_box (cs:=[Sl Aa p.cells Ca,Sl Ab p.capacity Cb,Sl Ac p.variables Cc]) hs rfl rfl ?_
 intro b1 w2 _ p3 hs4
 refine Asg (Iv 0) rfl<|Rg_nil<|Wp_seq<|Wp_seq<|Wp_region<|Rop<|op_ldA 0 ty26 hs4 rfl rfl rfl<|Mve (Sl Ad choices Cd) rfl ?_
 obtain⟨branch_1,hv6,hm⟩:=bd hm
 replace Fd:=Fd.step p3;replace Fb:=Fb.step p3;replace Fa:=Fa.step p3;replace Fc:=Fc.step p3
 refine Rop<|op_callE hs4 Try.call73 (c73_problem_branch (p:=p) (b:=choices) hs4.ltw Fa Fb Fc Fd hv6) rfl ?_
 rintro v7 w8 p12 hs11 h10
 clear hs4
 obtain⟨rfl,Ra⟩:=h10
 refine Asg (Iv branch_1) rfl<|Rg_nil<|Wp_seq<|Wp_region<|Mve (Iv branch_1) rfl<|Rop<|op_neq rfl rfl<|Rg_nil<|Wp_condM hm rfl (fun hc14 hm=>?_) (fun hc14 hm=>?_)
 refine Wp_seq ?_
 obtain⟨hs15,p16⟩:=hs11.sub (bs':=[]) (.cons _ List.Sublist.slnil)
 clear Fa Fb Fc Fd
 clear hs11
 refine Wp_region<|Mve (Iv branch_1) rfl<|Asg (Iv branch_1) rfl<|Rg_nil<|Wp_ret<|⟨_,Clo,[Iv branch_1],⟨rfl,trivial⟩,hs15.ext,?_⟩
 exact Vr.eq (a:=(vI .i64)) (x:=branch_1) ⟨rfl,Ra⟩ (oi hm)
 refine Wp_skip<|Wp_seq<|Wp_seq<|Wp_region<|Mve (Sl Ad choices Cd) rfl<|Rop<|op_len Try.underlying31 rfl ?_
 replace Fd:=Fd.step p12
 have rl17:=inK_len Fd
 refine Rop<|op_fA 2 ty26 rfl ty24 rfl rfl<|Rop<|op_ld 0 ty24 hs11 rfl rfl rfl<|Rop<|op_len Try.underlying24 rfl ?_
 replace Fc:=Fc.step p12
 have rl18:=inK_len Fc
 refine Rop<|op_neq rfl rfl<|Rg_nil<|Wp_condM hm rfl (fun hc19 hm=>?_) (fun hc19 hm=>?_)
 refine Wp_seq ?_
 obtain⟨hs20,p21⟩:=hs11.sub (bs':=[]) (.cons _ List.Sublist.slnil)
 clear Fa Fb Fc Fd
 clear hs11
 refine Wp_region<|Asg (Iv 270) rfl<|Rg_nil<|Wp_ret<|⟨_,Clo,[Iv 270],⟨rfl,trivial⟩,hs20.ext,?_⟩
 exact Vr.eq (a:=(vI .i64)) (x:=270) ⟨rfl,(show InK .i64 270 from by decide)⟩ (oi hm)
 refine Wp_skip<|Wp_seq ?_
 obtain⟨hs22,p23⟩:=hs11.sub (bs':=[]) (.cons _ List.Sublist.slnil)
 clear Fa Fb Fc Fd
 clear hs11
 refine Wp_region<|Asg (Iv 0) rfl<|Rg_nil<|Wp_ret<|⟨_,Clo,[Iv 0],⟨rfl,trivial⟩,hs22.ext,?_⟩
 exact Vr.eq (a:=(vI .i64)) (x:=0) ⟨rfl,(show InK .i64 0 from by decide)⟩ (oi hm)

abbrev q100_0:List Nat:=[9,39,40,41,42,43,44,45,46,47,48]

abbrev q100_1:List Nat:=[7,9,24,25,26,27,28,29,30,31,32,33,34,35,36,37,38,39,40,41,42,43,44,45,46,47,48,49]

abbrev q100_2:List Nat:=[4,5,7,9,12,13,14,15,16,17,18,19,20,21,22,23,24,25,26,27,28,29,30,31,32,33,34,35,36,37,38,39,40,41,42,43,44,45,46,47,48,49,50]

def m100_problem_uses_1_B2 (fv0_:List Int) (fv1_:XProblem) (v_1:Int) (v_2:Int) (sf52:Int→Option (List (Int × XUse))) (sf97:Int→Option (List (Int × XUse))) (v_3:Int):Option (List (Int × XUse)):=
 bif (decide (v_3<(((((fv1_.variables.getD v_1.toNat default).choices).getD (fv0_.getD v_1.toNat default).toNat default).uses).length:Int))) then
  ck ((0:Int)≤v_3∧v_3<(((((fv1_.variables.getD v_1.toNat default).choices).getD (fv0_.getD v_1.toNat default).toNat default).uses).length:Int))<|
  yl (((fv1_.variables.getD v_1.toNat default).leaves).getD v_2.toNat default,(⟨(((((fv1_.variables.getD v_1.toNat default).choices).getD (fv0_.getD v_1.toNat default).toNat default).uses).getD v_3.toNat default).cell,(((((fv1_.variables.getD v_1.toNat default).choices).getD (fv0_.getD v_1.toNat default).toNat default).uses).getD v_3.toNat default).places⟩:XUse)) (
  sf97 (IntKind.wrap .i64 (v_3+1)))
 else
  sf52 (IntKind.wrap .i64 (v_2+1))

def m100_problem_uses_1_B1 (fv0_:List Int) (fv1_:XProblem) (v_1:Int) (sf14:Int→Option (List (Int × XUse))) (sf52:Int→Option (List (Int × XUse))) (v_2:Int):Option (List (Int × XUse)):=
 bif (decide (v_2<(((fv1_.variables.getD v_1.toNat default).leaves).length:Int))) then
  ck ((0:Int)≤v_2∧v_2<(((fv1_.variables.getD v_1.toNat default).leaves).length:Int))<|
  ck ((0:Int)≤v_1∧v_1<(fv1_.variables.length:Int))<|
  ck ((0:Int)≤(fv0_.getD v_1.toNat default)∧(fv0_.getD v_1.toNat default)<(((fv1_.variables.getD v_1.toNat default).choices).length:Int))<|
  loop1 (m100_problem_uses_1_B2 fv0_ fv1_ v_1 v_2 sf52) (((((((fv1_.variables.getD v_1.toNat default).choices).getD (fv0_.getD v_1.toNat default).toNat default).uses).length:Int) - 0).toNat+1) 0
 else
  sf14 (IntKind.wrap .i64 (v_1+1))

def m100_problem_uses_1_B0 (fv0_:List Int) (fv1_:XProblem) (sf14:Int→Option (List (Int × XUse))) (v_1:Int):Option (List (Int × XUse)):=
 bif (decide (v_1<(fv0_.length:Int))) then
  ck ((0:Int)≤v_1∧v_1<(fv0_.length:Int))<|
  ck ((0:Int)≤v_1∧v_1<(fv1_.variables.length:Int))<|
  loop1 (m100_problem_uses_1_B1 fv0_ fv1_ v_1 sf14) (((((fv1_.variables.getD v_1.toNat default).leaves).length:Int) - 0).toNat+1) 0
 else
  some ([]:List (Int × XUse))

def m100_problem_uses_1 (fv0_:List Int) (fv1_:XProblem):Option (List (Int × XUse)):=
 loop1 (m100_problem_uses_1_B0 fv0_ fv1_) (((fv0_.length:Int) - 0).toNat+1) 0

theorem c100_problem_uses_1 {w:World} {O:List Nat} {fv0_:List Int} {fv1_:XProblem} {p_fv0_:Addr} {p_fv1_:Addr} (hO:∀k∈O,k<w.heap.size) (Fa:PtR (rSl (rInt .i64)) w O p_fv0_ fv0_) (Fb:PtR rXProblem w O p_fv1_ fv1_) {L:List (Int × XUse)} (hm:m100_problem_uses_1 fv0_ fv1_=some L):
 IterF Try.prog w O 100 [Value.pointer (some p_fv0_),Value.pointer (some p_fv1_)] (enc2 (vI .i64) (vA rXUse)) L:=by
 unfold m100_problem_uses_1 at hm
 obtain⟨x,hm,hL⟩:∃x,_=some x∧L=[]++x:=⟨L,hm,rfl⟩
 intro w1 O1 hst0 hO1 l J Jx hJ hJx hY h0
 refine Fn_of_Wp (n:=51) (xs:=[]) Try.func100 rfl Try.ntmps100 Try.results100 rfl ?_
 have hs:=St.start hO1
 have hI:=Itr.start h0
 refine Wp_seq<|Wp_region ?_
 replace Fa:=Fa.step hst0
 refine Rop<|op_loadP ty31 rfl Fa rfl ?_
 intro v1 h2
 obtain⟨Aa,Ca,rfl,Fc⟩:=un_sl h2
 refine Rop<|op_len Try.underlying31 rfl ?_
 have rl4:=inK_len Fc
 refine Mve (Iv 0) rfl<|Rg_nil<|Wp_block<|Wr [] [(0,Value.func (.yield l) #[] #[]),(2,Value.pointer (some p_fv1_)),(10,Sl Aa fv0_ Ca),(11,Iv (fv0_.length:Int)),(12,Iv 0)] fun ξ13=>Wp_loopM q100_2 (fun m fr w'=>∃(v_1:Int) (xr6 pre7:List (Int × XUse)) (wz8:World) (Kz9 Oz10:List Nat) (Ebs:Ents),Ebs=[]∧fr [] [(12,Iv v_1)]∧hs.S (ks Ebs Oz10) w'∧St ⟨wz8,Kz9,[]⟩ Oz10 w' Ebs∧InK .i64 v_1∧Itr J pre7 ⟨wz8,Kz9,[]⟩ Oz10∧L=pre7++xr6∧loop1 (m100_problem_uses_1_B0 fv0_ fv1_) m v_1=some xr6) (((fv0_.length:Int) - 0).toNat+1) ⟨0,x,([]:List _),w1,[],O1,_,rfl,Frm.of ⟨rfl,trivial⟩,Step.refl _ _,hs,(show InK .i64 0 from by decide),hI,hL,hm⟩ ?_ ?_
 rintro _ _ ⟨_,_,_,_,_,_,_,_,_,_,_,_,_,_,hm⟩;exact loop1_z hm
 rintro m17 K16 hK16 ρ22 w18 ⟨v_1,xr6,pre7,wz8,Kz9,Oz10,_,rfl,hfr21,hst20,hs19,Ra,hI11,hL12,hm⟩
 obtain⟨sf14,hsf15,hm⟩:=loop1_s hm;unfold m100_problem_uses_1_B0 at hm
 rw [hfr21.eq];clear hfr21
 have ch23:=hst20
 refine Wp_seq ?_
 clear Fa
 refine Wp_region<|Rop<|op_lss rfl rfl<|Rg_nil<|Wp_seq<|Wp_condM hm rfl (fun hc24 hm=>?_) (fun hc24 hm=>?_)
 refine Wp_skip<|Wp_seq<|Wp_block<|Wp_seq<|Wp_region<|Mve (Iv v_1) rfl ?_
 obtain⟨hc25,hm⟩:=ck_some hm
 replace Fc:=Fc.step hst20
 refine Rop<|op_indexAddr (q:=(rInt .i64)) ty31 ty3 rfl rfl Fc rfl hc25.1 hc25.2 ?_
 intro p26 f27
 refine Rop<|op_loadP ty3 rfl f27 rfl ?_
 intro v28 h29
 obtain⟨rfl,Rb⟩:=un_int h29
 refine Asg (Iv v_1) rfl<|Asg (Iv (fv0_.getD v_1.toNat default)) rfl<|Rg_nil<|Wp_seq ?_
 clear f27
 refine Wp_region<|Rop<|op_fieldAddr ty26 rfl ty24 (by decide) rfl rfl ?_
 replace Fb:=Fb.step (hst0.trans hst20)
 have f31:=Fb.via.snd.snd
 refine Rop<|op_loadP ty24 rfl f31 rfl ?_
 intro v32 h33
 obtain⟨Ab,Cb,rfl,Fd⟩:=un_sl h33
 refine Mve (Iv v_1) rfl ?_
 obtain⟨hc35,hm⟩:=ck_some hm
 refine Rop<|op_indexAddr (q:=rXVariable) ty24 ty61 rfl rfl Fd rfl hc35.1 hc35.2 ?_
 intro p36 f37
 refine Rop<|op_fieldAddr ty61 rfl ty31 (by decide) rfl rfl ?_
 have f38:=f37.via.snd.snd.fst
 refine Rop<|op_loadP ty31 rfl f38 rfl ?_
 intro v39 h40
 obtain⟨Ac,Cc,rfl,Fe⟩:=un_sl h40
 refine Rop<|op_len Try.underlying31 rfl ?_
 have rl42:=inK_len Fe
 refine Mve (Iv 0) rfl<|Rg_nil<|Wp_block<|Wr2 q100_2 [] (updL ⟨ξ13,[]⟩ [(0,Value.func (.yield l) #[] #[]),(2,Value.pointer (some p_fv1_)),(10,Sl Aa fv0_ Ca),(11,Iv (fv0_.length:Int)),(12,Iv 0)]) [(4,Iv v_1),(5,Iv (fv0_.getD v_1.toNat default)),(12,Iv v_1),(22,Sl Ac ((fv1_.variables.getD v_1.toNat default).leaves) Cc),(23,Iv (((fv1_.variables.getD v_1.toNat default).leaves).length:Int)),(24,Iv 0)] fun ξ51=>Wp_loopM q100_1 (fun m fr w'=>∃(v_2:Int) (xr44 pre45:List (Int × XUse)) (wz46:World) (Kz47 Oz48:List Nat) (Ebs:Ents),Ebs=[]∧fr [] [(24,Iv v_2)]∧hs19.S (ks Ebs Oz48) w'∧St ⟨wz46,Kz47,[]⟩ Oz48 w' Ebs∧InK .i64 v_2∧Itr J pre45 ⟨wz46,Kz47,[]⟩ Oz48∧L=pre45++xr44∧loop1 (m100_problem_uses_1_B1 fv0_ fv1_ v_1 sf14) m v_2=some xr44) (((((fv1_.variables.getD v_1.toNat default).leaves).length:Int) - 0).toNat+1) ⟨0,xr6,pre7,wz8,Kz9,Oz10,_,rfl,Frm.of ⟨rfl,trivial⟩,Step.refl _ _,hs19,(show InK .i64 0 from by decide),hI11,hL12,hm⟩ ?_ ?_
 rintro _ _ ⟨_,_,_,_,_,_,_,_,_,_,_,_,_,_,hm⟩;exact loop1_z hm
 rintro m55 K54 hK54 ρ60 w56 ⟨v_2,xr44,pre45,wz46,Kz47,Oz48,_,rfl,hfr59,hst58,hs57,Rc,hI49,hL50,hm⟩
 obtain⟨sf52,hsf53,hm⟩:=loop1_s hm;unfold m100_problem_uses_1_B1 at hm
 rw [hfr59.eq];clear hfr59
 have ch61:=hst58
 refine Wp_seq ?_
 clear f31 Fd f37 f38
 refine Wp_region<|Rop<|op_lss rfl rfl<|Rg_nil<|Wp_seq<|Wp_condM hm rfl (fun hc62 hm=>?_) (fun hc62 hm=>?_)
 refine Wp_skip<|Wp_seq<|Wp_block<|Wp_seq<|Wp_region ?_
 obtain⟨hc63,hm⟩:=ck_some hm
 replace Fe:=Fe.step hst58
 refine Rop<|op_indexAddr (q:=(rInt .i64)) ty31 ty3 rfl rfl Fe rfl hc63.1 hc63.2 ?_
 intro p64 f65
 refine Rop<|op_loadP ty3 rfl f65 rfl ?_
 intro v66 h67
 obtain⟨rfl,Rd⟩:=un_int h67
 refine Asg (Iv (((fv1_.variables.getD v_1.toNat default).leaves).getD v_2.toNat default)) rfl<|Rg_nil<|Wp_seq ?_
 clear f65
 refine Wp_region<|Rop<|op_fieldAddr ty26 rfl ty24 (by decide) rfl rfl ?_
 replace Fb:=Fb.step hst58
 have f69:=Fb.via.snd.snd
 refine Rop<|op_loadP ty24 rfl f69 rfl ?_
 intro v70 h71
 obtain⟨Ad,Cd,rfl,Ff⟩:=un_sl h71
 refine Mve (Iv v_1) rfl ?_
 obtain⟨hc73,hm⟩:=ck_some hm
 refine Rop<|op_indexAddr (q:=rXVariable) ty24 ty61 rfl rfl Ff rfl hc73.1 hc73.2 ?_
 intro p74 f75
 refine Rop<|op_fieldAddr ty61 rfl ty59 (by decide) rfl rfl ?_
 have f76:=f75.via.snd.snd.snd
 refine Rop<|op_loadP ty59 rfl f76 rfl ?_
 intro v77 h78
 obtain⟨Ae,Ce,rfl,Fg⟩:=un_sl h78
 refine Mve (Iv (fv0_.getD v_1.toNat default)) rfl ?_
 obtain⟨hc80,hm⟩:=ck_some hm
 refine Rop<|op_indexAddr (q:=rXChoice) ty59 ty58 rfl rfl Fg rfl hc80.1 hc80.2 ?_
 intro p81 f82
 refine Rop<|op_fieldAddr ty58 rfl ty56 (by decide) rfl rfl ?_
 have f83:=f82.via.snd.snd.snd
 refine Rop<|op_loadP ty56 rfl f83 rfl ?_
 intro v84 h85
 obtain⟨Af,Cf,rfl,Fh⟩:=un_sl h85
 refine Rop<|op_len Try.underlying56 rfl ?_
 have rl87:=inK_len Fh
 refine Mve (Iv 0) rfl<|Rg_nil<|Wp_block<|Wr2 q100_1 [] (updL (mix q100_2 [] ξ51 (updL ⟨ξ13,[]⟩ [(0,Value.func (.yield l) #[] #[]),(2,Value.pointer (some p_fv1_)),(10,Sl Aa fv0_ Ca),(11,Iv (fv0_.length:Int)),(12,Iv 0)])) [(4,Iv v_1),(5,Iv (fv0_.getD v_1.toNat default)),(12,Iv v_1),(22,Sl Ac ((fv1_.variables.getD v_1.toNat default).leaves) Cc),(23,Iv (((fv1_.variables.getD v_1.toNat default).leaves).length:Int)),(24,Iv 0)]) [(7,Iv (((fv1_.variables.getD v_1.toNat default).leaves).getD v_2.toNat default)),(24,Iv v_2),(37,Sl Af ((((fv1_.variables.getD v_1.toNat default).choices).getD (fv0_.getD v_1.toNat default).toNat default).uses) Cf),(38,Iv (((((fv1_.variables.getD v_1.toNat default).choices).getD (fv0_.getD v_1.toNat default).toNat default).uses).length:Int)),(39,Iv 0)] fun ξ96=>Wp_loopM q100_0 (fun m fr w'=>∃(v_3:Int) (xr89 pre90:List (Int × XUse)) (wz91:World) (Kz92 Oz93:List Nat) (Ebs:Ents),Ebs=[]∧fr [] [(39,Iv v_3)]∧hs57.S (ks Ebs Oz93) w'∧St ⟨wz91,Kz92,[]⟩ Oz93 w' Ebs∧InK .i64 v_3∧Itr J pre90 ⟨wz91,Kz92,[]⟩ Oz93∧L=pre90++xr89∧loop1 (m100_problem_uses_1_B2 fv0_ fv1_ v_1 v_2 sf52) m v_3=some xr89) (((((((fv1_.variables.getD v_1.toNat default).choices).getD (fv0_.getD v_1.toNat default).toNat default).uses).length:Int) - 0).toNat+1) ⟨0,xr44,pre45,wz46,Kz47,Oz48,_,rfl,Frm.of ⟨rfl,trivial⟩,Step.refl _ _,hs57,(show InK .i64 0 from by decide),hI49,hL50,hm⟩ ?_ ?_
 rintro _ _ ⟨_,_,_,_,_,_,_,_,_,_,_,_,_,_,hm⟩;exact loop1_z hm
 rintro m100 K99 hK99 ρ105 w101 ⟨v_3,xr89,pre90,wz91,Kz92,Oz93,_,rfl,hfr104,hst103,hs102,Re,hI94,hL95,hm⟩
 obtain⟨sf97,hsf98,hm⟩:=loop1_s hm;unfold m100_problem_uses_1_B2 at hm
 rw [hfr104.eq];clear hfr104
 have ch106:=hst103
 refine Wp_seq ?_
 clear f69 Ff f75 f76 Fg f82 f83
 refine Wp_region<|Rop<|op_lss rfl rfl<|Rg_nil<|Wp_seq<|Wp_condM hm rfl (fun hc107 hm=>?_) (fun hc107 hm=>?_)
 refine Wp_skip<|Wp_seq<|Wp_block<|Wp_seq<|Wp_region ?_
 obtain⟨hc108,hm⟩:=ck_some hm
 replace Fh:=Fh.step hst103
 refine Rop<|op_indexAddr (q:=rXUse) ty56 ty76 rfl rfl Fh rfl hc108.1 hc108.2 ?_
 intro p109 f110
 refine Rop<|op_loadPA ty76 rfl f110 rfl ?_
 intro vs111 h112
 obtain⟨_,_,rfl,⟨_,_,rfl,rfl,⟨_,_,rfl,⟨rfl,Rf⟩,⟨rfl,Rg⟩⟩⟩,⟨rfl,Rh⟩⟩:=h112
 refine Rop<|op_alloc ty76 hs102 ?_
 intro b114 w115 _ p116 hs117
 clear hs102
 refine Rg_op_<|op_stA .z ty76 hs117 rfl rfl rfl rfl rfl ?_
 intro w119 p120 hs121
 clear hs117
 refine Rg_nil<|Wp_seq ?_
 clear f110
 refine Wp_region<|Mve (Value.func (.yield l) #[] #[]) rfl<|Mve (Iv (((fv1_.variables.getD v_1.toNat default).leaves).getD v_2.toNat default)) rfl<|Rop<|op_ldA 0 ty76 hs121 rfl rfl rfl ?_
 obtain⟨xr122,hm,hL123⟩:=yl_elim hm
 rw [hL123] at hL95
 refine Rop (op_yield (pre:=pre90) (a:=(((fv1_.variables.getD v_1.toNat default).leaves).getD v_2.toNat default,(⟨(((((fv1_.variables.getD v_1.toNat default).choices).getD (fv0_.getD v_1.toNat default).toNat default).uses).getD v_3.toNat default).cell,(((((fv1_.variables.getD v_1.toNat default).choices).getD (fv0_.getD v_1.toNat default).toNat default).uses).getD v_3.toNat default).places⟩:XUse))) rfl rfl hY hJ hI94 hs121 ⟨xr122,by rw [hL95];simp⟩ (show(enc2 (vI .i64) (vA rXUse)) _ _ _ _ from⟨_,_,rfl,⟨rfl,Rd⟩,mkA (mkVia (mk_pair (mkVia (mk_pair mkBool (mk_pair (mk_int Rf) (mk_int Rg)))) (mk_int Rh)))⟩) ?_ ?_)
 intro w124 O125 hs126 p127 hI128
 clear hs121
 have hL129:L=(pre90++[(((fv1_.variables.getD v_1.toNat default).leaves).getD v_2.toNat default,(⟨(((((fv1_.variables.getD v_1.toNat default).choices).getD (fv0_.getD v_1.toNat default).toNat default).uses).getD v_3.toNat default).cell,(((((fv1_.variables.getD v_1.toNat default).choices).getD (fv0_.getD v_1.toNat default).toNat default).uses).getD v_3.toNat default).places⟩:XUse))])++xr122:=by rw [hL95];simp
 refine Rop<|op_not rfl<|Rg_nil<|Wp_cond_f rfl<|Wp_skip<|Wp_region<|Rop<|op_addw rfl rfl<|Mve (Iv (IntKind.wrap .i64 (v_3+1))) rfl<|Rg_nil ?_
 have hs130:=hs126.drop 0
 have p131:=(hs126.dropS 0)
 clear hs126
 have p132:=(p116.trans (p120.trans (p127.trans p131)))
 replace ch106:=ch106.trans p132
 exact hK99 _ _ ⟨(IntKind.wrap .i64 (v_3+1)),xr122,pre90++[(((fv1_.variables.getD v_1.toNat default).leaves).getD v_2.toNat default,(⟨(((((fv1_.variables.getD v_1.toNat default).choices).getD (fv0_.getD v_1.toNat default).toNat default).uses).getD v_3.toNat default).cell,(((((fv1_.variables.getD v_1.toNat default).choices).getD (fv0_.getD v_1.toNat default).toNat default).uses).getD v_3.toNat default).places⟩:XUse))],w124,List.filterMap Prod.fst [(some b114,Oc [Bo (((((((fv1_.variables.getD v_1.toNat default).choices).getD (fv0_.getD v_1.toNat default).toNat default).uses).getD v_3.toNat default).cell).airport),Iv (((((((fv1_.variables.getD v_1.toNat default).choices).getD (fv0_.getD v_1.toNat default).toNat default).uses).getD v_3.toNat default).cell).index),Iv (((((((fv1_.variables.getD v_1.toNat default).choices).getD (fv0_.getD v_1.toNat default).toNat default).uses).getD v_3.toNat default).cell).minute),Iv ((((((fv1_.variables.getD v_1.toNat default).choices).getD (fv0_.getD v_1.toNat default).toNat default).uses).getD v_3.toNat default).places)] 76)],O125,_,rfl,Frm.of ⟨rfl,trivial⟩,ch106,hs130,(inK_wrap .i64 _),hI128,hL129,jnE1 hsf98 hm⟩
 intro w133 O134 hs135 hI137
 exact Rop<|op_not rfl<|Rg_nil<|Wp_cond_t rfl<|Wp_ret<|⟨_,Clo,[],trivial,_,.inr ⟨_,hI137.fin hJx hs135⟩⟩
 refine Wp_exit ?_
 clear Fh
 refine Wp_region<|Rop<|op_addw rfl rfl<|Mve (Iv (IntKind.wrap .i64 (v_2+1))) rfl<|Rg_nil ?_
 replace ch61:=ch61.trans hst103
 exact hK54 _ _ ⟨(IntKind.wrap .i64 (v_2+1)),xr89,pre90,wz91,Kz92,Oz93,_,rfl,Frm.of ⟨rfl,trivial⟩,ch61,hs102,(inK_wrap .i64 _),hI94,hL95,jnE1 hsf53 hm⟩
 refine Wp_exit ?_
 clear Fe
 refine Wp_region<|Rop<|op_addw rfl rfl<|Mve (Iv (IntKind.wrap .i64 (v_1+1))) rfl<|Rg_nil ?_
 replace ch23:=ch23.trans hst58
 exact hK16 _ _ ⟨(IntKind.wrap .i64 (v_1+1)),xr44,pre45,wz46,Kz47,Oz48,_,rfl,Frm.of ⟨rfl,trivial⟩,ch23,hs57,(inK_wrap .i64 _),hI49,hL50,jnE1 hsf15 hm⟩
 refine Wp_exit ?_
 have h138:=hI11.fin hJ hs19
 rw [← Option.some.inj hm,List.append_nil] at hL12;rw [← hL12] at h138
 exact⟨_,Clo,[],trivial,_,.inl h138⟩

def m84_problem_uses (p:XProblem) (b:List Int):Option (List (Int × XUse)):=
 (m100_problem_uses_1 b p).bind fun l_1=>
 some l_1

theorem c84_problem_uses {w:World} {O:List Nat} {p:XProblem} {b:List Int} {Aa:Option Addr} {Ca:Nat} {Ab:Option Addr} {Cb:Nat} {Ac:Option Addr} {Cc:Nat} {Ad:Option Addr} {Cd:Nat} (hO:∀k∈O,k<w.heap.size) (Fa:SlR rXCell w O Aa Ca p.cells) (Fb:SlR (rSl (rInt .i64)) w O Ab Cb p.capacity) (Fc:SlR rXVariable w O Ac Cc p.variables) (Fd:SlR (rInt .i64) w O Ad Cd b) {x:(List (Int × XUse))} (hm:m84_problem_uses p b=some x):
 Ok Try.prog 84 [Value.agg [Sl Aa p.cells Ca,Sl Ab p.capacity Cb,Sl Ac p.variables Cc].toArray,Sl Ad b Cd] w O (vIt Try.prog (enc2 (vI .i64) (vA rXUse))) x:=by
 unfold m84_problem_uses at hm
 refine Fn_of_Wp (n:=6) (xs:=[.tmp 4]) Try.func84 rfl Try.ntmps84 Try.results84 rfl ?_
 have hs:=St.start hO
 refine Wp_seq<|Wp_region<|Rop<|op_box (cs:=[Sl Aa p.cells Ca,Sl Ab p.capacity Cb,Sl Ac p.variables Cc]) hs rfl rfl ?_
 intro b1 w2 _ p3 hs4
 refine Rop<|op_box (cs:=[Sl Ad b Cd]) hs4 rfl rfl ?_
 intro b6 w7 _ p8 hs9
 clear hs4
 refine Asg (Value.nilFunc) rfl<|Rg_nil<|Wp_seq<|Wp_region ?_
 have p14:=(p3.trans p8)
 replace Fd:=Fd.step p14
 obtain⟨hs12,p13,f11⟩:=St.publishP (p:=rSl (rInt .i64)) (i:=0) (x:=b) hs9 rfl (mk_sl Fd)
 clear hs9
 have p18:=(p14.trans p13)
 replace Fb:=Fb.step p18;replace Fa:=Fa.step p18;replace Fc:=Fc.step p18
 obtain⟨hs16,p17,f15⟩:=St.publishP (p:=rXProblem) (i:=0) (x:=p) hs12 rfl (mkVia (mk_pair (mk_sl Fa) (mk_pair (mk_sl Fb) (mk_sl Fc))))
 clear hs12
 refine Rop<|op_makeFunc' (a':=[]) (c':=[Value.pointer (some (⟨b6,0,none⟩:Addr)),Value.pointer (some (⟨b1,0,none⟩:Addr))]) rfl rfl ?_
 obtain⟨l_1,hv19,hm⟩:=bd hm
 replace f11:=f11.step p17
 have F20:ItR Try.prog (enc2 (vI .i64) (vA rXUse)) w7 (ks [] O) (Value.func (.func 100) #[] #[Value.pointer (some (⟨b6,0,none⟩:Addr)),Value.pointer (some (⟨b1,0,none⟩:Addr))]) l_1:=⟨100,[Value.pointer (some (⟨b6,0,none⟩:Addr)),Value.pointer (some (⟨b1,0,none⟩:Addr))],rfl,Try.call100,c100_problem_uses_1 hs16.ltw f11 f15 hv19⟩
 refine Asg (Value.func (.func 100) #[] #[Value.pointer (some (⟨b6,0,none⟩:Addr)),Value.pointer (some (⟨b1,0,none⟩:Addr))]) rfl<|Rg_nil<|Wp_ret ?_
 have hz:=step_all hs16
 refine⟨_,Clo,[Value.func (.func 100) #[] #[Value.pointer (some (⟨b6,0,none⟩:Addr)),Value.pointer (some (⟨b1,0,none⟩:Addr))]],⟨rfl,trivial⟩,hs16.ext,?_⟩
 replace F20:=F20.step hz
 exact Vr.eq (a:=vIt Try.prog (enc2 (vI .i64) (vA rXUse))) (x:=l_1) F20 (oi hm)

abbrev q75_1:List Nat:=[6,7,16,17,18,19,20,21,22,23,24]

abbrev q75_0:List Nat:=[9,31,32,33,34,35,36,37,38,39,40,41]

def m75_problem_demand_B2 (map_1:List (XCell × Int)) (sf187:(List (List Int))→Option (List (List Int))) (xi178:Int × XUse) (rows_2:List (List Int)):Option (List (List Int)):=
 ck ((0:Int)≤xi178.1∧xi178.1<(rows_2.length:Int))<|
 ck ((0:Int)≤((mget map_1 xi178.2.cell).getD 0)∧((mget map_1 xi178.2.cell).getD 0)<((rows_2.getD xi178.1.toNat default).length:Int))<|
 ck ((0:Int)≤((mget map_1 xi178.2.cell).getD 0)∧((mget map_1 xi178.2.cell).getD 0)<((rows_2.getD xi178.1.toNat default).length:Int))<|
 sf187 (rows_2.set xi178.1.toNat ((rows_2.getD xi178.1.toNat default).set ((mget map_1 xi178.2.cell).getD 0).toNat (IntKind.wrap .i64 (((rows_2.getD xi178.1.toNat default).getD ((mget map_1 xi178.2.cell).getD 0).toNat default)+xi178.2.places))))

def m75_problem_demand_B1 (p:XProblem) (b:List Int) (map_1:List (XCell × Int)) (sf84:Int→(List (List Int))→Option (List (List Int))) (v_2:Int) (rows_1:List (List Int)):Option (List (List Int)):=
 bif (decide (v_2<((List.replicate p.capacity.length ([]:List Int)).length:Int))) then
  ck ((0:Int)≤(p.cells.length:Int)∧(p.cells.length:Int)≤(p.cells.length:Int)∧(8:Int)*(p.cells.length:Int)≤281474976710656∧(p.cells.length:Int)≤281474976710656)<|
  ck ((0:Int)≤v_2∧v_2<(rows_1.length:Int))<|
  sf84 (IntKind.wrap .i64 (v_2+1)) (rows_1.set v_2.toNat (List.replicate p.cells.length (0:Int)))
 else
  (m84_problem_uses p b).bind fun uses_1=>
  jn (fun(rows_2:List (List Int))=>
   some rows_2)
  (fun k169=>
   rng1 (m75_problem_demand_B2 map_1) k169 uses_1 rows_1)

def m75_problem_demand_B0 (p:XProblem) (b:List Int) (sf25:Int→(List (XCell × Int))→Option (List (List Int))) (v_1:Int) (map_1:List (XCell × Int)):Option (List (List Int)):=
 bif (decide (v_1<(p.cells.length:Int))) then
  ck ((0:Int)≤v_1∧v_1<(p.cells.length:Int))<|
  sf25 (IntKind.wrap .i64 (v_1+1)) (mput map_1 (p.cells.getD v_1.toNat default) v_1)
 else
  ck ((0:Int)≤(p.capacity.length:Int)∧(p.capacity.length:Int)≤(p.capacity.length:Int)∧(24:Int)*(p.capacity.length:Int)≤281474976710656∧(p.capacity.length:Int)≤281474976710656)<|
  loop2 (m75_problem_demand_B1 p b map_1) ((((List.replicate p.capacity.length ([]:List Int)).length:Int) - 0).toNat+1) 0 (List.replicate p.capacity.length ([]:List Int))

def m75_problem_demand (p:XProblem) (b:List Int):Option (List (List Int)):=
 loop2 (m75_problem_demand_B0 p b) (((p.cells.length:Int) - 0).toNat+1) 0 ([]:List (XCell × Int))

theorem c75_problem_demand {w:World} {O:List Nat} {p:XProblem} {b:List Int} {Aa:Option Addr} {Ca:Nat} {Ab:Option Addr} {Cb:Nat} {Ac:Option Addr} {Cc:Nat} {Ad:Option Addr} {Cd:Nat} (hO:∀k∈O,k<w.heap.size) (Fa:SlR rXCell w O Aa Ca p.cells) (Fb:SlR (rSl (rInt .i64)) w O Ab Cb p.capacity) (Fc:SlR rXVariable w O Ac Cc p.variables) (Fd:SlR (rInt .i64) w O Ad Cd b) {x:(List (List Int))} (hm:m75_problem_demand p b=some x):
 Ok Try.prog 75 [Value.agg [Sl Aa p.cells Ca,Sl Ab p.capacity Cb,Sl Ac p.variables Cc].toArray,Sl Ad b Cd] w O (vC (rSl (rSl (rInt .i64)))) x:=by
 unfold m75_problem_demand at hm
 refine Fn_of_Wp (n:=62) (xs:=[.tmp 4]) Try.func75 rfl Try.ntmps75 Try.results75 rfl ?_
 have hs:=St.start hO
 refine Wp_seq<|Wp_region<|Rop<|op_box (cs:=[Sl Aa p.cells Ca,Sl Ab p.capacity Cb,Sl Ac p.variables Cc]) hs rfl rfl ?_
 intro b1 w2 _ p3 hs4
 refine Asg (Value.slice none 0 0) rfl<|Rg_nil<|Wp_seq<|Wp_region<|Rop<|op_makeMap hs4 ?_
 intro b6 w7 p8 hs9
 clear hs4
 have M10:Mo kXCell (mvI .i64) (Obj.map #[] 0) ([]:List (XCell × Int)):=Mo.nil_
 refine Rop<|op_alloc ty113 hs9 ?_
 intro b12 w13 _ p14 hs15
 clear hs9
 refine Rg_op_<|op_stS (Value.map (some b6)) .z ty113 hs15 rfl rfl rfl rfl ?_
 intro w17 p18 hs19
 clear hs15
 refine Rg_nil<|Wp_seq<|Wp_seq<|Wp_region<|Rop<|op_fA 0 ty26 rfl ty22 rfl rfl<|Rop<|op_ld 2 ty22 hs19 rfl rfl rfl<|Rop<|op_len Try.underlying22 rfl ?_
 have p21:=(p3.trans (p8.trans (p14.trans p18)))
 replace Fa:=Fa.step p21
 have rl20:=inK_len Fa
 refine Mve (Iv 0) rfl<|Rg_nil<|Wp_block<|Wr [] [(1,Sl Ad b Cd),(2,Pt b1 0),(4,Value.slice none 0 0),(5,Pt b12 0),(14,Sl Aa p.cells Ca),(15,Iv (p.cells.length:Int)),(16,Iv 0)] fun ξ24=>Wp_loopM q75_1 (fun m fr w'=>∃(v_1:Int) (map_1:List (XCell × Int)) (o_g23:Obj) (Ebs:Ents),Ebs=((some b12,Oc [Value.map (some b6)] 113)::(some b6,o_g23)::(some b1,Oc [Sl Aa p.cells Ca,Sl Ab p.capacity Cb,Sl Ac p.variables Cc] 26)::([]:Ents))∧fr [] [(16,Iv v_1)]∧hs19.S (ks Ebs O) w'∧St ⟨w,[],[]⟩ O w' Ebs∧InK .i64 v_1∧Mo kXCell (mvI .i64) o_g23 map_1∧loop2 (m75_problem_demand_B0 p b) m v_1 map_1=some x) (((p.cells.length:Int) - 0).toNat+1) ⟨0,([]:List (XCell × Int)),Obj.map #[] 0,_,rfl,Frm.of ⟨rfl,trivial⟩,Step.refl _ _,hs19,(show InK .i64 0 from by decide),M10,hm⟩ ?_ ?_
 rintro _ _ ⟨_,_,_,_,_,_,_,_,_,_,hm⟩;exact loop2_z hm
 rintro m28 K27 hK27 ρ33 w29 ⟨v_1,map_1,o_g23,_,rfl,hfr32,hst31,hs30,Ra,M_g23,hm⟩
 obtain⟨sf25,hsf26,hm⟩:=loop2_s hm;unfold m75_problem_demand_B0 at hm
 rw [hfr32.eq];clear hfr32
 have ch34:=hst31
 refine Wp_seq<|Wp_region<|Rop<|op_lss rfl rfl<|Rg_nil<|Wp_seq<|Wp_condM hm rfl (fun hc35 hm=>?_) (fun hc35 hm=>?_)
 refine Wp_skip<|Wp_seq<|Wp_block<|Wp_seq<|Wp_region<|Mve (Iv v_1) rfl ?_
 obtain⟨hc36,hm⟩:=ck_some hm
 replace Fa:=Fa.step hst31
 refine Rop<|op_indexAddr (q:=rXCell) ty22 ty67 rfl rfl Fa rfl hc36.1 hc36.2 ?_
 intro p37 f38
 refine Rop<|op_loadPA ty67 rfl f38 rfl ?_
 intro vs39 h40
 obtain⟨_,_,rfl,rfl,⟨_,_,rfl,⟨rfl,Rb⟩,⟨rfl,Rc⟩⟩⟩:=h40
 refine Rop<|op_alloc ty67 hs30 ?_
 intro b42 w43 _ p44 hs45
 clear hs30
 refine Asg (Iv v_1) rfl<|Rg_op_<|op_stA .z ty67 hs45 rfl rfl rfl rfl rfl ?_
 intro w47 p48 hs49
 clear hs45
 refine Rg_nil ?_
 clear f38
 refine Wp_region<|Rop<|op_ld 1 ty113 hs49 rfl rfl rfl<|Rop<|op_ldA 0 ty67 hs49 rfl rfl rfl<|Mve (Iv v_1) rfl<|Rg_op_<|op_mapUpdate (q:=kXCell) (m:=(mvI .i64)) (n:=p.cells.getD v_1.toNat default) (v:=v_1) (i:=2) Try.underlying113 kok67 hs49 rfl M_g23 rfl rfl rfl rfl (And.intro Rb Rc) Ra ?_
 intro o50 w51 p52 hs53 M54
 clear hs49
 refine Rg_nil<|Wp_region<|Rop<|op_addw rfl rfl<|Mve (Iv (IntKind.wrap .i64 (v_1+1))) rfl<|Rg_nil ?_
 have hs55:=hs53.drop 0
 have p56:=(hs53.dropS 0)
 clear hs53
 have p57:=(p44.trans (p48.trans (p52.trans p56)))
 replace ch34:=ch34.trans p57
 exact hK27 _ _ ⟨(IntKind.wrap .i64 (v_1+1)),mput map_1 (p.cells.getD v_1.toNat default) v_1,o50,_,rfl,Frm.of ⟨rfl,trivial⟩,ch34,hs55,(inK_wrap .i64 _),M54,jnE2 hsf26 hm⟩
 refine Wp_exit<|Wp_seq<|Wp_region<|Rop<|op_fA 1 ty26 rfl ty23 rfl rfl<|Rop<|op_ld 2 ty23 hs30 rfl rfl rfl<|Rop<|op_len Try.underlying23 rfl ?_
 have p59:=(p21.trans hst31)
 replace Fb:=Fb.step p59
 have rl58:=inK_len Fb
 obtain⟨hc60,hm⟩:=ck_some hm
 refine Rop<|op_makeSliceI (q:=rHd) (v:=Value.slice none 0 0) (x0:=((none,0,0):Hd)) ty23 ty31 hs30 rfl rfl hc60 rfl (fun _ _=>rfl) ?_
 intro b61 w62 hx66 p63 hs64 f65;clear hx66
 clear hs30
 obtain⟨hs67,p68⟩:St ⟨w,[],[]⟩ O w62 ((some b61,Obj.cells (List.replicate p.capacity.length (Value.slice none 0 0)).toArray 31)::(some b12,Oc [Value.map (some b6)] 113)::(some b6,o_g23)::(some b1,Oc [Sl Aa p.cells Ca,Sl Ab p.capacity Cb,Sl Ac p.variables Cc] 26)::(List.replicate p.capacity.length ((none:Option Nat),Obj.cells #[] 3)))∧Step (ks ((some b61,Obj.cells (List.replicate p.capacity.length (Value.slice none 0 0)).toArray 31)::(some b12,Oc [Value.map (some b6)] 113)::(some b6,o_g23)::(some b1,Oc [Sl Aa p.cells Ca,Sl Ab p.capacity Cb,Sl Ac p.variables Cc] 26)::([]:Ents)) O) w62 (ks ((some b61,Obj.cells (List.replicate p.capacity.length (Value.slice none 0 0)).toArray 31)::(some b12,Oc [Value.map (some b6)] 113)::(some b6,o_g23)::(some b1,Oc [Sl Aa p.cells Ca,Sl Ab p.capacity Cb,Sl Ac p.variables Cc] 26)::(List.replicate p.capacity.length ((none:Option Nat),Obj.cells #[] 3))) O) w62:=St.nones2 hs64 p.capacity.length
 clear hs64
 have fR69:Rows (rInt .i64) 3 w62 (ks ((some b61,Obj.cells (List.replicate p.capacity.length (Value.slice none 0 0)).toArray 31)::(some b12,Oc [Value.map (some b6)] 113)::(some b6,o_g23)::(some b1,Oc [Sl Aa p.cells Ca,Sl Ab p.capacity Cb,Sl Ac p.variables Cc] 26)::(List.replicate p.capacity.length ((none:Option Nat),Obj.cells #[] 3))) O) (List.replicate p.capacity.length ((none,0,0):Hd)) (List.replicate p.capacity.length ((none:Option Nat),Obj.cells #[] 3)) (List.replicate p.capacity.length ([]:List Int)):=Rows.nils _ _
 have lh70:(List.replicate p.capacity.length ((none,0,0):Hd)).length=(List.replicate p.capacity.length ([]:List Int)).length:=(Rows.lens fR69).1
 refine Rop<|op_alloc ty23 hs67 ?_
 intro b72 w73 _ p74 hs75
 clear hs67
 refine Rg_op_<|op_stS (Value.slice (some ⟨b61,0,none⟩) (List.replicate p.capacity.length ((none,0,0):Hd)).length p.capacity.length) .z ty23 hs75 rfl rfl rfl rfl ?_
 intro w77 p78 hs79
 clear hs75
 refine Rg_nil<|Wp_seq<|Wp_seq<|Wp_region<|Rop<|op_ld 0 ty23 hs79 rfl rfl rfl<|Rop<|op_len Try.underlying23 (eqlen rfl lh70) ?_
 replace f65:=f65.step (p68.trans (p74.trans p78))
 have rl80:InK .i64 (((List.replicate p.capacity.length ([]:List Int)).length:Nat):Int):=by rw [← lh70];exact inK_lenG f65
 refine Mve (Iv 0) rfl<|Rg_nil<|Wp_block<|Wr [] [(1,Sl Ad b Cd),(2,Pt b1 0),(4,Value.slice none 0 0),(5,Pt b12 0),(8,Pt b72 0),(30,Iv ((List.replicate p.capacity.length ([]:List Int)).length:Int)),(31,Iv 0)] fun ξ83=>?_
 replace fR69:=fR69.step (p74.trans p78)
 refine Wp_loopM q75_0 (fun m fr w'=>∃(v_2:Int) (rows_1:List (List Int)) (Ae:Option Addr) (Ce:Nat) (k_g82:Option Nat) (o_g82:Obj) (hds_g82:List Hd) (R_g82:Ents) (Ebs:Ents),Ebs=((some b72,Oc [Value.slice Ae hds_g82.length Ce] 23)::(k_g82,o_g82)::(some b12,Oc [Value.map (some b6)] 113)::(some b6,o_g23)::(some b1,Oc [Sl Aa p.cells Ca,Sl Ab p.capacity Cb,Sl Ac p.variables Cc] 26)::R_g82)∧fr [] [(31,Iv v_2)]∧hs79.S (ks Ebs O) w'∧St ⟨w,[],[]⟩ O w' Ebs∧InK .i64 v_2∧Gs rHd 31 w' (ks Ebs O) Ae Ce hds_g82 k_g82 o_g82∧Rows (rInt .i64) 3 w' (ks Ebs O) hds_g82 R_g82 rows_1∧hds_g82.length=rows_1.length∧loop2 (m75_problem_demand_B1 p b map_1) m v_2 rows_1=some x) ((((List.replicate p.capacity.length ([]:List Int)).length:Int) - 0).toNat+1) ⟨0,List.replicate p.capacity.length ([]:List Int),some ⟨b61,0,none⟩,p.capacity.length,some b61,Obj.cells (List.replicate p.capacity.length (Value.slice none 0 0)).toArray 31,List.replicate p.capacity.length ((none,0,0):Hd),List.replicate p.capacity.length ((none:Option Nat),Obj.cells #[] 3),_,rfl,Frm.of ⟨rfl,trivial⟩,Step.refl _ _,hs79,(show InK .i64 0 from by decide),f65,fR69,lh70,hm⟩ ?_ ?_
 rintro _ _ ⟨_,_,_,_,_,_,_,_,_,_,_,_,_,_,_,_,_,hm⟩;exact loop2_z hm
 rintro m87 K86 hK86 ρ92 w88 ⟨v_2,rows_1,Ae,Ce,k_g82,o_g82,hds_g82,R_g82,_,rfl,hfr91,hst90,hs89,Rd,Fe,fR_g82,lh_g82,hm⟩
 obtain⟨sf84,hsf85,hm⟩:=loop2_s hm;unfold m75_problem_demand_B1 at hm
 rw [hfr91.eq];clear hfr91
 have ch93:=hst90
 refine Wp_seq ?_
 clear f65 fR69
 refine Wp_region<|Rop<|op_lss rfl rfl<|Rg_nil<|Wp_seq<|Wp_condM hm rfl (fun hc94 hm=>?_) (fun hc94 hm=>?_)
 refine Wp_skip<|Wp_seq<|Wp_block<|Wp_seq<|Wp_region<|Mve (Iv v_2) rfl<|Asg (Iv v_2) rfl<|Rg_nil<|Wp_drawR (g0:=[]) (m:=6) (fl:=[]) (TS_inv hs89) rfl (.inl rfl) rfl (by decide+kernel) ?_  -- 11
 refine Dw_p (Value.slice Ae hds_g82.length Ce) (fun _ _ _ hi ht=>op_ld 0 ty23 (Step.nx hi).1 (ht 8 rfl) rfl rfl<|Gz hi)<|Dw_p (Iv v_2) (fun _ _ _ hi ht=>op_move (v:=Iv v_2) (ht 9 rfl)<|Gz hi)<|Dw_p (Pt b1 0) (fun _ _ _ hi ht=>op_fA 0 ty26 rfl ty22 (ht 2 rfl) rfl<|Gz hi)<|Dw_p (Sl Aa p.cells Ca) (fun _ _ _ hi ht=>op_ld 4 ty22 (Step.nx hi).1 (ht 36 rfl) rfl rfl<|Gz hi)<|Dw_p (Iv (p.cells.length:Int)) (fun _ _ _ hi ht=>op_len Try.underlying22 (ht 37 rfl)<|Gz hi) ?_
 obtain⟨hc113,hm⟩:=ck_some hm
 refine Dw_op (VGr O ((some b72,Oc [Value.slice Ae hds_g82.length Ce] 23)::(k_g82,o_g82)::(some b12,Oc [Value.map (some b6)] 113)::(some b6,o_g23)::(some b1,Oc [Sl Aa p.cells Ca,Sl Ab p.capacity Cb,Sl Ac p.variables Cc] 26)::R_g82) 5 (rInt .i64) 3 (List.replicate p.cells.length (0:Int))) VGr.stab (fun ρ110 w111 g hle hi ht=>?_) ?_
 refine StepOp_plain<|op_makeSliceI (q:=(rInt .i64)) (v:=Iv 0) (x0:=(0:Int)) ty31 ty3 hi (ht 38 rfl) (ht 38 rfl) hc113 rfl (fun _ _=>(mk_int (show InK .i64 0 from by decide))) ?_
 intro b114 w115 hx119 p116 hs117 f118
 exact GoesG.new hx119 p116 hs117 f118
 refine Dw_nil fun w125 g126 hl127 hi128=>?_
 obtain⟨-,hst129,-⟩:=hl127
 rintro _ ⟨a132,c133,k134,o135,rfl,hk136,f137⟩ _ rfl _ rfl _ rfl _ rfl _ rfl
 obtain⟨hs131,p130⟩:=Step.nxK1 hi128 hk136
 have p139:=hs89.to hs131 (hst129.trans p130)
 replace f137:=f137.step p130;clear hs89
 obtain⟨hc140,hm⟩:=ck_some hm
 replace Fe:=Fe.step p139
 obtain⟨b141,rfl,rfl⟩:=Fe.at_ (by have h1:hds_g82.length=rows_1.length:=lh_g82;omega)
 refine Rop (op_indexAddrG ty23 ty31 rfl rfl Fe ⟨hc140.1,by have h1:hds_g82.length=rows_1.length:=lh_g82;have h2:=hc140.2;omega⟩ ?_)
 rintro _ ⟨⟩ -
 refine Rg_op_ (op_storeG (p:=rHd) (vs:=[Sl a132 (List.replicate p.cells.length (0:Int)) c133]) (yv:=((a132,(List.replicate p.cells.length (0:Int)).length,c133):Hd)) (i:=2) (m:=v_2) ty31 rfl hs131 rfl rfl rfl rfl Fe ⟨hc140.1,by have h1:hds_g82.length=rows_1.length:=lh_g82;have h2:=hc140.2;omega⟩ rfl ?_)
 intro w142 o145 p143 hs144 f146
 clear hs131
 replace f137:=f137.step p143
 have p151:=(p139.trans p143)
 replace fR_g82:=fR_g82.step p151
 have fR147:Rows (rInt .i64) 3 w142 (ks ((k134,o135)::(some b72,Oc [Value.slice (some ⟨b141,0,none⟩) hds_g82.length Ce] 23)::(some b141,o145)::(some b12,Oc [Value.map (some b6)] 113)::(some b6,o_g23)::(some b1,Oc [Sl Aa p.cells Ca,Sl Ab p.capacity Cb,Sl Ac p.variables Cc] 26)::R_g82) O) (hds_g82.set v_2.toNat ((a132,(List.replicate p.cells.length (0:Int)).length,c133):Hd)) (R_g82.set v_2.toNat (k134,o135)) (rows_1.set v_2.toNat (List.replicate p.cells.length (0:Int))):=Rows.set v_2.toNat fR_g82 f137 rfl
 have lh150:(hds_g82.set v_2.toNat ((a132,(List.replicate p.cells.length (0:Int)).length,c133):Hd)).length=(rows_1.set v_2.toNat (List.replicate p.cells.length (0:Int))).length:=(Rows.lens fR147).1
 have hr152:=(Rows.lens fR_g82).2
 obtain⟨hs148,p149⟩:St ⟨w,[],[]⟩ O w142 ((some b72,Oc [Value.slice (some ⟨b141,0,none⟩) hds_g82.length Ce] 23)::(some b141,o145)::(some b12,Oc [Value.map (some b6)] 113)::(some b6,o_g23)::(some b1,Oc [Sl Aa p.cells Ca,Sl Ab p.capacity Cb,Sl Ac p.variables Cc] 26)::(R_g82.set v_2.toNat (k134,o135)))∧Step (ks ((k134,o135)::(some b72,Oc [Value.slice (some ⟨b141,0,none⟩) hds_g82.length Ce] 23)::(some b141,o145)::(some b12,Oc [Value.map (some b6)] 113)::(some b6,o_g23)::(some b1,Oc [Sl Aa p.cells Ca,Sl Ab p.capacity Cb,Sl Ac p.variables Cc] 26)::R_g82) O) w142 (ks ((some b72,Oc [Value.slice (some ⟨b141,0,none⟩) hds_g82.length Ce] 23)::(some b141,o145)::(some b12,Oc [Value.map (some b6)] 113)::(some b6,o_g23)::(some b1,Oc [Sl Aa p.cells Ca,Sl Ab p.capacity Cb,Sl Ac p.variables Cc] 26)::(R_g82.set v_2.toNat (k134,o135))) O) w142:=St.intoR (bs:=[(k134,o135),(some b72,Oc [Value.slice (some ⟨b141,0,none⟩) hds_g82.length Ce] 23),(some b141,o145),(some b12,Oc [Value.map (some b6)] 113),(some b6,o_g23),(some b1,Oc [Sl Aa p.cells Ca,Sl Ab p.capacity Cb,Sl Ac p.variables Cc] 26)]) (R:=R_g82) (j:=0) (i:=v_2.toNat) hs144 rfl (by have:=hc140;omega)
 clear hs144
 clear hr152
 have lp153:hds_g82.length=(rows_1.set v_2.toNat (List.replicate p.cells.length (0:Int))).length:=by have h1:hds_g82.length=rows_1.length:=lh_g82;rw [List.length_set];exact h1
 refine Rg_nil<|Wp_region<|Rop<|op_addw rfl rfl<|Mve (Iv (IntKind.wrap .i64 (v_2+1))) rfl<|Rg_nil ?_
 have q154:hds_g82.length=(hds_g82.set v_2.toNat ((a132,(List.replicate p.cells.length (0:Int)).length,c133):Hd)).length:=lp153.trans (Eq.symm lh150)
 have hs155:St ⟨w,[],[]⟩ O w142 ((some b72,Oc [Value.slice (some ⟨b141,0,none⟩) (hds_g82.set v_2.toNat ((a132,(List.replicate p.cells.length (0:Int)).length,c133):Hd)).length Ce] 23)::(some b141,o145)::(some b12,Oc [Value.map (some b6)] 113)::(some b6,o_g23)::(some b1,Oc [Sl Aa p.cells Ca,Sl Ab p.capacity Cb,Sl Ac p.variables Cc] 26)::(R_g82.set v_2.toNat (k134,o135))):=by unfold Sl;rw [← q154];exact hs148
 have p156:=St.stepR hs155
 clear hs148
 replace ch93:=ch93.trans (p151.trans (p149.trans p156))
 have p157:=(p149.trans p156)
 replace f146:=f146.step p157;replace fR147:=fR147.step p157
 exact hK86 _ _ ⟨(IntKind.wrap .i64 (v_2+1)),rows_1.set v_2.toNat (List.replicate p.cells.length (0:Int)),some ⟨b141,0,none⟩,Ce,some b141,o145,hds_g82.set v_2.toNat ((a132,(List.replicate p.cells.length (0:Int)).length,c133):Hd),R_g82.set v_2.toNat (k134,o135),_,rfl,Frm.of ⟨rfl,trivial⟩,ch93,hs155,(inK_wrap .i64 _),f146,fR147,lh150,jnE2 hsf85 hm⟩
 refine Wp_exit<|Wp_seq<|Wp_seq<|Wp_region<|Rop<|op_ldA 4 ty26 hs89 rfl rfl rfl<|Mve (Sl Ad b Cd) rfl ?_
 obtain⟨uses_1,hv158,hm⟩:=bd hm
 have p164:=(p59.trans (p63.trans (p68.trans (p74.trans (p78.trans hst90)))))
 replace Fd:=Fd.step p164
 have p165:=(p63.trans (p68.trans (p74.trans (p78.trans hst90))))
 replace Fb:=Fb.step p165
 replace Fa:=Fa.step (hst31.trans (p63.trans (p68.trans (p74.trans (p78.trans hst90)))));replace Fc:=Fc.step p164
 refine Rop<|op_callE hs89 Try.call84 (c84_problem_uses (p:=p) (b:=b) hs89.ltw Fa Fb Fc Fd hv158) rfl ?_
 rintro v159 w160 p166 hs163 h162
 clear hs89
 have F_y167:ItR Try.prog (enc2 (vI .i64) (vA rXUse)) _ _ v159 uses_1:=h162
 refine Rg_nil<|Wp_block ?_
 obtain⟨k169,hk170,hm⟩:=jn_elim hm
 have hit175:=F_y167;obtain⟨fk171,cp172,hvq173,hcl174,hit175⟩:=hit175
 replace fR_g82:=fR_g82.step p166;replace Fe:=Fe.step p166
 refine Wp_rangeFunc (σ:=(List (List Int)) × (Option Addr) × Nat × (Option Nat) × Obj × (List Hd) × Ents) (ps:=[45,46]) hs163 (rfl.trans hvq173) hcl174 hit175 rfl enc2_len enc2_step (fun s=>match s with |(rows_2,Af,Cf,k_g168,o_g168,hds_g168,R_g168)=>((some b72,Oc [Value.slice Af hds_g168.length Cf] 23)::(k_g168,o_g168)::(some b12,Oc [Value.map (some b6)] 113)::(some b6,o_g23)::(some b1,Oc [Sl Aa p.cells Ca,Sl Ab p.capacity Cb,Sl Ac p.variables Cc] 26)::R_g168)) (fun s w O=>match s with |(rows_2,Af,Cf,k_g168,o_g168,hds_g168,R_g168)=>Gs rHd 31 w O Af Cf hds_g168 k_g168 o_g168∧Rows (rInt .i64) 3 w O hds_g168 R_g168 rows_2∧hds_g168.length=rows_2.length) (fun s w O w' O' p h=>by obtain⟨rows_2,Af,Cf,k_g168,o_g168,hds_g168,R_g168⟩:=s;have h:Gs rHd 31 w O Af Cf hds_g168 k_g168 o_g168∧Rows (rInt .i64) 3 w O hds_g168 R_g168 rows_2∧hds_g168.length=rows_2.length:=h;obtain⟨Ff,fR_g168,lh_g168⟩:=h;exact⟨Ff.step p,fR_g168.step p,lh_g168⟩) (fun s l=>match s with |(rows_2,Af,Cf,k_g168,o_g168,hds_g168,R_g168)=>rng1 (m75_problem_demand_B2 map_1) k169 l rows_2=some x) [] (fun _ _=>False) (rows_1,Ae,Ce,k_g82,o_g82,hds_g82,R_g82) rfl ⟨Fe,fR_g82,lh_g82⟩ hm ?_ ?_ ?_
 rintro l176 E177 ⟨rows_2,Af,Cf,k_g168,o_g168,hds_g168,R_g168⟩ xi178 rest179 w180 vs181 z182 hz183 hs184 hst185 ⟨Ff,fR_g168,lh_g168⟩ hm hx186
 replace hs184:St z182 (E177++O) w180 ((some b72,Oc [Value.slice Af hds_g168.length Cf] 23)::(k_g168,o_g168)::(some b12,Oc [Value.map (some b6)] 113)::(some b6,o_g23)::(some b1,Oc [Sl Aa p.cells Ca,Sl Ab p.capacity Cb,Sl Ac p.variables Cc] 26)::R_g168):=hs184
 have ch189:Step (ks ((some b72,Oc [Value.slice Ae hds_g82.length Ce] 23)::(k_g82,o_g82)::(some b12,Oc [Value.map (some b6)] 113)::(some b6,o_g23)::(some b1,Oc [Sl Aa p.cells Ca,Sl Ab p.capacity Cb,Sl Ac p.variables Cc] 26)::R_g82) O) w160 (ks ((some b72,Oc [Value.slice Af hds_g168.length Cf] 23)::(k_g168,o_g168)::(some b12,Oc [Value.map (some b6)] 113)::(some b6,o_g23)::(some b1,Oc [Sl Aa p.cells Ca,Sl Ab p.capacity Cb,Sl Ac p.variables Cc] 26)::R_g168) (E177++O)) w180:=hst185;clear hst185
 replace Ff:Gs rHd 31 w180 (ks ((some b72,Oc [Value.slice Af hds_g168.length Cf] 23)::(k_g168,o_g168)::(some b12,Oc [Value.map (some b6)] 113)::(some b6,o_g23)::(some b1,Oc [Sl Aa p.cells Ca,Sl Ab p.capacity Cb,Sl Ac p.variables Cc] 26)::R_g168) (E177++O)) Af Cf hds_g168 k_g168 o_g168:=Ff
 replace fR_g168:Rows (rInt .i64) 3 w180 (ks ((some b72,Oc [Value.slice Af hds_g168.length Cf] 23)::(k_g168,o_g168)::(some b12,Oc [Value.map (some b6)] 113)::(some b6,o_g23)::(some b1,Oc [Sl Aa p.cells Ca,Sl Ab p.capacity Cb,Sl Ac p.variables Cc] 26)::R_g168) (E177++O)) hds_g168 R_g168 rows_2:=fR_g168
 replace lh_g168:hds_g168.length=rows_2.length:=lh_g168
 have hm190:=rng1_s (show rng1 _ _ (xi178::rest179) rows_2=some _ from hm);clear hm;obtain⟨sf187,hsf188,hm⟩:=hm190
 unfold m75_problem_demand_B2 at hm
 replace hx186:(enc2 (vI .i64) (vA rXUse)) xi178 w180 (ks ((some b72,Oc [Value.slice Af hds_g168.length Cf] 23)::(k_g168,o_g168)::(some b12,Oc [Value.map (some b6)] 113)::(some b6,o_g23)::(some b1,Oc [Sl Aa p.cells Ca,Sl Ab p.capacity Cb,Sl Ac p.variables Cc] 26)::R_g168) (E177++O)) vs181:=hx186
 obtain⟨v191,v192,rfl,h193,h194⟩:=hx186
 obtain⟨rfl,Re⟩:=h193
 obtain⟨_,rfl,⟨_,_,rfl,⟨_,_,rfl,rfl,⟨_,_,rfl,⟨rfl,Rf⟩,⟨rfl,Rg⟩⟩⟩,⟨rfl,Rh⟩⟩⟩:=h194
 refine Wp_seq<|Wp_region<|Asg (Iv xi178.1) rfl<|Rg_nil<|Wp_region<|Rop<|op_alloc ty76 hs184 ?_
 intro b197 w198 _ p199 hs200
 clear hs184
 refine Rg_op_<|op_stA .z ty76 hs200 rfl rfl rfl rfl rfl ?_
 intro w202 p203 hs204
 clear hs200
 refine Rg_nil<|Exists.intro _<|And.intro hs204 ?_
 intro w205 z206 RQ207 hz208 hs209 p210 hN211 hX212
 clear hs204
 refine Wp_block ?_
 clear Fd Fe fR_g82
 refine Wp_drawR (g0:=[]) (m:=12) (fl:=[]) (TS_inv hs209) rfl (.inr rfl) rfl (by decide+kernel) ?_  -- 16
 refine Dw_p (Value.slice Af hds_g168.length Cf) (fun _ _ _ hi ht=>op_ld 1 ty23 (Step.nx hi).1 (ht 8 rfl) rfl rfl<|Gz hi)<|Dw_p (Iv xi178.1) (fun _ _ _ hi ht=>op_move (v:=Iv xi178.1) (ht 10 rfl)<|Gz hi) ?_
 obtain⟨hc222,hm⟩:=ck_some hm
 have p224:=(p199.trans (p203.trans p210))
 replace Ff:=Ff.step p224
 obtain⟨b223,rfl,rfl⟩:=Ff.at_ (by have h1:hds_g168.length=rows_2.length:=lh_g168;omega)
 refine Dw_eq (Value.pointer (some ⟨b223,xi178.1.toNat*1,none⟩)) (fun ρ219 w220 g hle hi ht=>?_) ?_
 obtain⟨-,hst,-⟩:=hle
 replace Ff:=Ff.step hst
 refine StepOp_plain (op_indexAddrG ty23 ty31 (ht 47 rfl) (ht 48 rfl) Ff ⟨hc222.1,by have h1:hds_g168.length=rows_2.length:=lh_g168;have h2:=hc222.2;omega⟩ ?_)
 rintro _ ⟨⟩ -
 exact Gz hi
 refine Dw_eq (Value.slice (hds_g168.getD xi178.1.toNat default).1 (hds_g168.getD xi178.1.toNat default).2.1 (hds_g168.getD xi178.1.toNat default).2.2) (fun ρ225 w226 g hle hi ht=>?_) ?_
 obtain⟨-,hst,-⟩:=hle
 replace Ff:=Ff.step hst
 have hsn:=(Step.nx hi).1
 refine StepOp_plain (op_loadG (p:=rHd) (m:=xi178.1) (i:=2) ty31 rfl hsn rfl (ht 49 rfl) Ff ⟨hc222.1,by have h1:hds_g168.length=rows_2.length:=lh_g168;have h2:=hc222.2;omega⟩ ?_)
 intro v228 h229;obtain rfl:=un_hd h229
 exact Gz hi
 refine Dw_p (Value.map (some b6)) (fun _ _ _ hi ht=>op_ld 3 ty113 (Step.nx hi).1 (ht 5 rfl) rfl rfl<|Gz hi)<|Dw_p (Pt b197 0) (fun _ _ _ hi ht=>op_fA 0 ty76 rfl ty67 (ht 11 rfl) rfl<|Gz hi)<|Dw_p (Value.agg [Bo xi178.2.cell.airport,Iv xi178.2.cell.index,Iv xi178.2.cell.minute].toArray) (fun _ _ _ hi ht=>op_loadA (vs:=[Bo xi178.2.cell.airport,Iv xi178.2.cell.index,Iv xi178.2.cell.minute]) (i:=0) ty67 (Step.nx hi).1 (ht 52 rfl) rfl rfl rfl<|Gz hi)<|Dw_p (Iv ((mget map_1 xi178.2.cell).getD 0)) (fun _ _ _ hi ht=>op_lookup (q:=kXCell) (m:=(mvI .i64)) (n:=xi178.2.cell) (z:=0) Try.underlying113 kok67 Try.zeroValue3 ((Step.nx hi).1.get (i:=4) rfl) M_g23 (And.intro Rf Rg) (ht 51 rfl) (ht 53 rfl)<|Gz hi) ?_
 replace fR_g168:=fR_g168.step p224
 obtain⟨hh245,hl246,hb247⟩:=fR_g168.at_ (i:=xi178.1.toNat) (by have:=hc222;omega)
 obtain⟨hc250,hm⟩:=ck_some hm
 obtain⟨b248,hb249⟩:=hb247 (by have:=hc250;omega)
 refine Dw_p (Value.pointer (some ⟨b248,((mget map_1 xi178.2.cell).getD 0).toNat*1,none⟩)) (fun _ _ _ hi ht=>op_indexRow (H:=hds_g168.getD xi178.1.toNat default) (row:=rows_2.getD xi178.1.toNat default) (bl:=b248) ty31 ty3 (ht 50 rfl) (ht 54 rfl) hb249 hl246 hc250<|Gz hi)<|Dw_op (VD _ _ (vI .i64) ((rows_2.getD xi178.1.toNat default).getD ((mget map_1 xi178.2.cell).getD 0).toNat default)) (VD.stab _ _) (fun ρ251 w252 g hle hi ht=>?_) ?_
 obtain⟨-,hst,-⟩:=hle
 replace fR_g168:=fR_g168.step hst
 have hsn:=(Step.nx hi).1
 refine StepOp_plain (op_loadRow (m:=(mget map_1 xi178.2.cell).getD 0) (i:=xi178.1.toNat) [(some b197,Oc [Bo xi178.2.cell.airport,Iv xi178.2.cell.index,Iv xi178.2.cell.minute,Iv xi178.2.places] 76),(some b72,Oc [Value.slice (some ⟨b223,0,none⟩) hds_g168.length Cf] 23),(some b223,o_g168),(some b12,Oc [Value.map (some b6)] 113),(some b6,o_g23),(some b1,Oc [Sl Aa p.cells Ca,Sl Ab p.capacity Cb,Sl Ac p.variables Cc] 26)] R_g168 ty3 rfl hsn fR_g168 (by have:=hc222;omega) hb249 (ht 55 rfl) hc250 ?_)
 intro v254 h255
 obtain⟨rfl,Ri⟩:=un_int h255
 exact Goes.same hi (show Vr.vd (vI .i64) _ _ _ _ from⟨rfl,Ri⟩)
 refine Dw_p (Pt b197 3) (fun _ _ _ hi ht=>op_fA 3 ty76 rfl ty3 (ht 11 rfl) rfl<|Gz hi)<|Dw_p (Iv xi178.2.places) (fun _ _ _ hi ht=>op_ld 0 ty3 (Step.nx hi).1 (ht 57 rfl) rfl rfl<|Gz hi)<|Dw_nil fun w267 g268 hl269 hi270=>?_
 obtain⟨-,hst271,-⟩:=hl269
 obtain⟨hs273,p272⟩:=Step.nx hi270
 rintro _ rfl _ rfl v274 h275
 replace h275:Vr.vd (vI .i64) _ _ _ _:=h275
 obtain⟨rfl,Rj⟩:=h275
 rintro _ rfl _ rfl _ rfl _ rfl _ rfl _ rfl _ rfl _ rfl _ rfl
 have p277:=hs209.to hs273 (hst271.trans p272)
 clear hs209
 refine Rop<|op_addw rfl rfl ?_
 replace fR_g168:=fR_g168.step p277
 obtain⟨hh278,hl279,hb280⟩:=fR_g168.at_ (i:=xi178.1.toNat) (by have:=hc222;omega)
 obtain⟨hc283,hm⟩:=ck_some hm
 obtain⟨b281,hb282⟩:=hb280 (by have:=hc283;omega)
 refine Rop<|op_indexRow (H:=hds_g168.getD xi178.1.toNat default) (row:=rows_2.getD xi178.1.toNat default) (bl:=b281) ty31 ty3 rfl rfl hb282 hl279 hc283 ?_
 refine Rg_op_ (op_storeRow (bs:=[(some b197,Oc [Bo xi178.2.cell.airport,Iv xi178.2.cell.index,Iv xi178.2.cell.minute,Iv xi178.2.places] 76),(some b72,Oc [Value.slice (some ⟨b223,0,none⟩) hds_g168.length Cf] 23),(some b223,o_g168),(some b12,Oc [Value.map (some b6)] 113),(some b6,o_g23),(some b1,Oc [Sl Aa p.cells Ca,Sl Ab p.capacity Cb,Sl Ac p.variables Cc] 26)]) (R:=R_g168) (vs:=[Iv (IntKind.wrap .i64 (((rows_2.getD xi178.1.toNat default).getD ((mget map_1 xi178.2.cell).getD 0).toNat default)+xi178.2.places))]) (m:=(mget map_1 xi178.2.cell).getD 0) (i:=xi178.1.toNat) (hd:=hds_g168.getD xi178.1.toNat default) ty3 rfl hs273 fR_g168 (by have:=hc222;omega) hh278 hb282 rfl rfl rfl hc283 (mk_int (inK_wrap .i64 _)) ?_)
 intro w284 R285 p286 hs287 fR288
 replace hs287:St z206 (E177++O) w284 ((some b197,Oc [Bo xi178.2.cell.airport,Iv xi178.2.cell.index,Iv xi178.2.cell.minute,Iv xi178.2.places] 76)::(some b72,Oc [Value.slice (some ⟨b223,0,none⟩) hds_g168.length Cf] 23)::(some b223,o_g168)::(some b12,Oc [Value.map (some b6)] 113)::(some b6,o_g23)::(some b1,Oc [Sl Aa p.cells Ca,Sl Ab p.capacity Cb,Sl Ac p.variables Cc] 26)::R285):=hs287
 replace p286:Step (ks ((some b197,Oc [Bo xi178.2.cell.airport,Iv xi178.2.cell.index,Iv xi178.2.cell.minute,Iv xi178.2.places] 76)::(some b72,Oc [Value.slice (some ⟨b223,0,none⟩) hds_g168.length Cf] 23)::(some b223,o_g168)::(some b12,Oc [Value.map (some b6)] 113)::(some b6,o_g23)::(some b1,Oc [Sl Aa p.cells Ca,Sl Ab p.capacity Cb,Sl Ac p.variables Cc] 26)::R_g168) (E177++O)) w267 (ks ((some b197,Oc [Bo xi178.2.cell.airport,Iv xi178.2.cell.index,Iv xi178.2.cell.minute,Iv xi178.2.places] 76)::(some b72,Oc [Value.slice (some ⟨b223,0,none⟩) hds_g168.length Cf] 23)::(some b223,o_g168)::(some b12,Oc [Value.map (some b6)] 113)::(some b6,o_g23)::(some b1,Oc [Sl Aa p.cells Ca,Sl Ab p.capacity Cb,Sl Ac p.variables Cc] 26)::R285) (E177++O)) w284:=p286
 replace fR288:Rows (rInt .i64) 3 w284 (ks ((some b197,Oc [Bo xi178.2.cell.airport,Iv xi178.2.cell.index,Iv xi178.2.cell.minute,Iv xi178.2.places] 76)::(some b72,Oc [Value.slice (some ⟨b223,0,none⟩) hds_g168.length Cf] 23)::(some b223,o_g168)::(some b12,Oc [Value.map (some b6)] 113)::(some b6,o_g23)::(some b1,Oc [Sl Aa p.cells Ca,Sl Ab p.capacity Cb,Sl Ac p.variables Cc] 26)::R285) (E177++O)) hds_g168 R285 (rows_2.set xi178.1.toNat ((rows_2.getD xi178.1.toNat default).set ((mget map_1 xi178.2.cell).getD 0).toNat (IntKind.wrap .i64 (((rows_2.getD xi178.1.toNat default).getD ((mget map_1 xi178.2.cell).getD 0).toNat default)+xi178.2.places)))):=fR288
 clear hs273
 have lh289:hds_g168.length=(rows_2.set xi178.1.toNat ((rows_2.getD xi178.1.toNat default).set ((mget map_1 xi178.2.cell).getD 0).toNat (IntKind.wrap .i64 (((rows_2.getD xi178.1.toNat default).getD ((mget map_1 xi178.2.cell).getD 0).toNat default)+xi178.2.places)))).length:=(Rows.lens fR288).1
 have lp290:hds_g168.length=(rows_2.set xi178.1.toNat ((rows_2.getD xi178.1.toNat default).set ((mget map_1 xi178.2.cell).getD 0).toNat (IntKind.wrap .i64 (((rows_2.getD xi178.1.toNat default).getD ((mget map_1 xi178.2.cell).getD 0).toNat default)+xi178.2.places)))).length:=by have h1:hds_g168.length=rows_2.length:=lh_g168;rw [List.length_set];exact h1
 refine Rg_nil ?_
 have hs291:=hs287.drop 0
 have p292:=(hs287.dropS 0)
 clear hs287
 replace ch189:=ch189.trans (p224.trans (p277.trans (p286.trans p292)));replace fR288:=fR288.step p292
 replace Ff:=Ff.step (p277.trans (p286.trans p292))
 exact hN211 (rows_2.set xi178.1.toNat ((rows_2.getD xi178.1.toNat default).set ((mget map_1 xi178.2.cell).getD 0).toNat (IntKind.wrap .i64 (((rows_2.getD xi178.1.toNat default).getD ((mget map_1 xi178.2.cell).getD 0).toNat default)+xi178.2.places))),some ⟨b223,0,none⟩,Cf,some b223,o_g168,hds_g168,R285) _ _ hs291 ch189 ⟨Ff,fR288,lh289⟩ (jnE1 hsf188 hm)
 rintro D293 ⟨rows_2,Af,Cf,k_g168,o_g168,hds_g168,R_g168⟩ w294 hs295 hst296 ⟨Ff,fR_g168,lh_g168⟩ hm
 replace hs295:St ⟨w,[],D293::[]⟩ (D293::O) w294 ((some b72,Oc [Value.slice Af hds_g168.length Cf] 23)::(k_g168,o_g168)::(some b12,Oc [Value.map (some b6)] 113)::(some b6,o_g23)::(some b1,Oc [Sl Aa p.cells Ca,Sl Ab p.capacity Cb,Sl Ac p.variables Cc] 26)::R_g168):=hs295
 replace hst296:Step (ks ((some b72,Oc [Value.slice Ae hds_g82.length Ce] 23)::(k_g82,o_g82)::(some b12,Oc [Value.map (some b6)] 113)::(some b6,o_g23)::(some b1,Oc [Sl Aa p.cells Ca,Sl Ab p.capacity Cb,Sl Ac p.variables Cc] 26)::R_g82) O) w160 (ks ((some b72,Oc [Value.slice Af hds_g168.length Cf] 23)::(k_g168,o_g168)::(some b12,Oc [Value.map (some b6)] 113)::(some b6,o_g23)::(some b1,Oc [Sl Aa p.cells Ca,Sl Ab p.capacity Cb,Sl Ac p.variables Cc] 26)::R_g168) (D293::O)) w294:=hst296
 replace Ff:Gs rHd 31 w294 (ks ((some b72,Oc [Value.slice Af hds_g168.length Cf] 23)::(k_g168,o_g168)::(some b12,Oc [Value.map (some b6)] 113)::(some b6,o_g23)::(some b1,Oc [Sl Aa p.cells Ca,Sl Ab p.capacity Cb,Sl Ac p.variables Cc] 26)::R_g168) (D293::O)) Af Cf hds_g168 k_g168 o_g168:=Ff
 replace fR_g168:Rows (rInt .i64) 3 w294 (ks ((some b72,Oc [Value.slice Af hds_g168.length Cf] 23)::(k_g168,o_g168)::(some b12,Oc [Value.map (some b6)] 113)::(some b6,o_g23)::(some b1,Oc [Sl Aa p.cells Ca,Sl Ab p.capacity Cb,Sl Ac p.variables Cc] 26)::R_g168) (D293::O)) hds_g168 R_g168 rows_2:=fR_g168
 replace lh_g168:hds_g168.length=rows_2.length:=lh_g168
 replace hm:=rng1_z (show rng1 _ _ [] rows_2=some _ from hm)
 replace hm:=jnE1 hk170 (show k169 rows_2=some _ from hm)
 clear hs163
 refine Wp_seq ?_
 obtain⟨hs298,p299⟩:=hs295.sub (bs':=(some b72,Oc [Value.slice Af hds_g168.length Cf] 23)::(k_g168,o_g168)::R_g168) (.cons_cons _ (.cons_cons _ (.cons _ (.cons _ (.cons _ (List.Sublist.refl _))))))
 clear Fa Fb Fc Fd Fe fR_g82 F_y167
 clear hs295
 refine Wp_region<|Rop<|op_ld 0 ty23 hs298 rfl rfl rfl<|Rop<|op_assign (v:=Value.slice Af rows_2.length Cf) (eqlen rfl lh_g168)<|Rg_nil<|Wp_ret ?_
 obtain⟨w300,hcl301,hs302,p303⟩:=St.close hs298
 clear hs298
 have p307:=(p299.trans p303)
 replace fR_g168:=fR_g168.step p307;replace Ff:=Ff.step p307
 obtain⟨hs305,p306,f304⟩:=Rows.publish (bs:=[(some b72,Oc [Value.slice Af hds_g168.length Cf] 23),(k_g168,o_g168)]) (R:=R_g168) (j:=1) hs302 fR_g168 rfl Ff
 replace hs305:St _ (D293::O) w300 [(some b72,Oc [Value.slice Af hds_g168.length Cf] 23)]:=hs305
 clear hs302
 have hz:=(step_all hs305).trans (Step.sub (O':=O) (fun k hk=>by simp [hk]))
 refine⟨_,hcl301,[Sl Af rows_2 Cf],⟨rfl,trivial⟩,hs305.ext,?_⟩
 replace f304:=f304.step hz
 exact Vr.eq (a:=vC (rSl (rSl (rInt .i64)))) (x:=rows_2) (mkC (mk_sl f304)) (oi hm)
 intro _ _ _ _ h;simp at h

abbrev q74_0:List Nat:=[6,7,8,20,21,22,23,24,25,26,27,28,29,30,31,32,33,34,35,36,37,38,39,40,41,42,43,44,45,46]

abbrev q74_1:List Nat:=[4,5,6,7,8,13,14,15,16,17,18,19,20,21,22,23,24,25,26,27,28,29,30,31,32,33,34,35,36,37,38,39,40,41,42,43,44,45,46,47]

def m74_problem_overloads_1_B1 (fv0_:XProblem) (demand_1:(List (List Int))) (v_1:Int) (sf25:Int→Option (List (XPlace × Int))) (sf52:Int→Option (List (XPlace × Int))) (v_2:Int):Option (List (XPlace × Int)):=
 bif (decide (v_2<((demand_1.getD v_1.toNat default).length:Int))) then
  ck ((0:Int)≤v_2∧v_2<((demand_1.getD v_1.toNat default).length:Int))<|
  ck ((0:Int)≤v_1∧v_1<(fv0_.capacity.length:Int))<|
  ck ((0:Int)≤v_2∧v_2<((fv0_.capacity.getD v_1.toNat default).length:Int))<|
  bif (decide (0<(IntKind.wrap .i64 (((demand_1.getD v_1.toNat default).getD v_2.toNat default) - ((fv0_.capacity.getD v_1.toNat default).getD v_2.toNat default))))) then
   yl ((⟨v_1,v_2⟩:XPlace),(IntKind.wrap .i64 (((demand_1.getD v_1.toNat default).getD v_2.toNat default) - ((fv0_.capacity.getD v_1.toNat default).getD v_2.toNat default)))) (
   sf52 (IntKind.wrap .i64 (v_2+1)))
  else
   sf52 (IntKind.wrap .i64 (v_2+1))
 else
  sf25 (IntKind.wrap .i64 (v_1+1))

def m74_problem_overloads_1_B0 (fv0_:XProblem) (demand_1:(List (List Int))) (sf25:Int→Option (List (XPlace × Int))) (v_1:Int):Option (List (XPlace × Int)):=
 bif (decide (v_1<(demand_1.length:Int))) then
  ck ((0:Int)≤v_1∧v_1<(demand_1.length:Int))<|
  loop1 (m74_problem_overloads_1_B1 fv0_ demand_1 v_1 sf25) ((((demand_1.getD v_1.toNat default).length:Int) - 0).toNat+1) 0
 else
  some ([]:List (XPlace × Int))

def m74_problem_overloads_1 (fv0_:XProblem) (fv1_:List Int):Option (List (XPlace × Int)):=
 (m75_problem_demand fv0_ fv1_).bind fun demand_1=>
 loop1 (m74_problem_overloads_1_B0 fv0_ demand_1) (((demand_1.length:Int) - 0).toNat+1) 0

theorem c74_problem_overloads_1 {w:World} {O:List Nat} {fv0_:XProblem} {fv1_:List Int} {p_fv0_:Addr} {p_fv1_:Addr} (hO:∀k∈O,k<w.heap.size) (Fa:PtR rXProblem w O p_fv0_ fv0_) (Fb:PtR (rSl (rInt .i64)) w O p_fv1_ fv1_) {L:List (XPlace × Int)} (hm:m74_problem_overloads_1 fv0_ fv1_=some L):
 IterF Try.prog w O 74 [Value.pointer (some p_fv0_),Value.pointer (some p_fv1_)] (enc2 (vA rXPlace) (vI .i64)) L:=by
 unfold m74_problem_overloads_1 at hm
 obtain⟨x,hm,hL⟩:∃x,_=some x∧L=[]++x:=⟨L,hm,rfl⟩
 intro w1 O1 hst0 hO1 l J Jx hJ hJx hY h0
 refine Fn_of_Wp (n:=48) (xs:=[]) Try.func74 rfl Try.ntmps74 Try.results74 rfl ?_
 have hs:=St.start hO1
 have hI:=Itr.start h0
 refine Wp_seq<|Wp_region ?_
 replace Fa:=Fa.step hst0
 refine Rop<|op_loadPA ty26 rfl Fa rfl ?_
 intro vs1 h2
 obtain⟨_,_,rfl,⟨Aa,Ca,rfl,Fc⟩,⟨_,_,rfl,⟨Ab,Cb,rfl,Fd⟩,⟨Ac,Cc,rfl,Fe⟩⟩⟩:=h2
 replace Fb:=Fb.step hst0
 refine Rop<|op_loadP ty31 rfl Fb rfl ?_
 intro v4 h5
 obtain⟨Ad,Cd,rfl,Ff⟩:=un_sl h5
 obtain⟨demand_1,hv7,hm⟩:=bd hm
 refine Rop<|op_callE hs Try.call75 (c75_problem_demand (p:=fv0_) (b:=fv1_) hs.ltw Fc Fd Fe Ff hv7) rfl ?_
 rintro v8 w9 p13 hs12 h11
 obtain⟨Ae,Ce,rfl,Fg⟩:=un_sl h11
 refine Rop<|op_len Try.underlying23 rfl ?_
 have rl15:=inK_len Fg
 refine Mve (Iv 0) rfl<|Rg_nil<|Wp_block<|Wr [] [(0,Value.func (.yield l) #[] #[]),(1,Value.pointer (some p_fv0_)),(11,Sl Ae demand_1 Ce),(12,Iv (demand_1.length:Int)),(13,Iv 0)] fun ξ24=>Wp_loopM q74_1 (fun m fr w'=>∃(v_1:Int) (xr17 pre18:List (XPlace × Int)) (wz19:World) (Kz20 Oz21:List Nat) (Ebs:Ents),Ebs=[]∧fr [] [(13,Iv v_1)]∧hs12.S (ks Ebs Oz21) w'∧St ⟨wz19,Kz20,[]⟩ Oz21 w' Ebs∧InK .i64 v_1∧Itr J pre18 ⟨wz19,Kz20,[]⟩ Oz21∧L=pre18++xr17∧loop1 (m74_problem_overloads_1_B0 fv0_ demand_1) m v_1=some xr17) (((demand_1.length:Int) - 0).toNat+1) ⟨0,x,([]:List _),w1,[],O1,_,rfl,Frm.of ⟨rfl,trivial⟩,Step.refl _ _,hs12,(show InK .i64 0 from by decide),hI,hL,hm⟩ ?_ ?_
 rintro _ _ ⟨_,_,_,_,_,_,_,_,_,_,_,_,_,_,hm⟩;exact loop1_z hm
 rintro m28 K27 hK27 ρ33 w29 ⟨v_1,xr17,pre18,wz19,Kz20,Oz21,_,rfl,hfr32,hst31,hs30,Ra,hI22,hL23,hm⟩
 obtain⟨sf25,hsf26,hm⟩:=loop1_s hm;unfold m74_problem_overloads_1_B0 at hm
 rw [hfr32.eq];clear hfr32
 have ch34:=hst31
 refine Wp_seq ?_
 clear Fb Fc Fd Fe Ff
 refine Wp_region<|Rop<|op_lss rfl rfl<|Rg_nil<|Wp_seq<|Wp_condM hm rfl (fun hc35 hm=>?_) (fun hc35 hm=>?_)
 refine Wp_skip<|Wp_seq<|Wp_block<|Wp_seq<|Wp_region<|Mve (Iv v_1) rfl ?_
 obtain⟨hc36,hm⟩:=ck_some hm
 replace Fg:=Fg.step hst31
 refine Rop<|op_indexAddr (q:=rSl (rInt .i64)) ty23 ty31 rfl rfl Fg rfl hc36.1 hc36.2 ?_
 intro p37 f38
 refine Rop<|op_loadP ty31 rfl f38 rfl ?_
 intro v39 h40
 obtain⟨Af,Cf,rfl,Fh⟩:=un_sl h40
 refine Asg (Iv v_1) rfl<|Asg (Sl Af (demand_1.getD v_1.toNat default) Cf) rfl<|Rg_nil<|Wp_seq ?_
 clear f38
 refine Wp_region<|Mve (Sl Af (demand_1.getD v_1.toNat default) Cf) rfl<|Rop<|op_len Try.underlying31 rfl ?_
 have rl42:=inK_len Fh
 refine Mve (Iv 0) rfl<|Rg_nil<|Wp_block<|Wr2 q74_1 [] (updL ⟨ξ24,[]⟩ [(0,Value.func (.yield l) #[] #[]),(1,Value.pointer (some p_fv0_)),(11,Sl Ae demand_1 Ce),(12,Iv (demand_1.length:Int)),(13,Iv 0)]) [(4,Iv v_1),(13,Iv v_1),(18,Sl Af (demand_1.getD v_1.toNat default) Cf),(19,Iv ((demand_1.getD v_1.toNat default).length:Int)),(20,Iv 0)] fun ξ51=>Wp_loopM q74_0 (fun m fr w'=>∃(v_2:Int) (xr44 pre45:List (XPlace × Int)) (wz46:World) (Kz47 Oz48:List Nat) (Ebs:Ents),Ebs=[]∧fr [] [(20,Iv v_2)]∧hs30.S (ks Ebs Oz48) w'∧St ⟨wz46,Kz47,[]⟩ Oz48 w' Ebs∧InK .i64 v_2∧Itr J pre45 ⟨wz46,Kz47,[]⟩ Oz48∧L=pre45++xr44∧loop1 (m74_problem_overloads_1_B1 fv0_ demand_1 v_1 sf25) m v_2=some xr44) ((((demand_1.getD v_1.toNat default).length:Int) - 0).toNat+1) ⟨0,xr17,pre18,wz19,Kz20,Oz21,_,rfl,Frm.of ⟨rfl,trivial⟩,Step.refl _ _,hs30,(show InK .i64 0 from by decide),hI22,hL23,hm⟩ ?_ ?_
 rintro _ _ ⟨_,_,_,_,_,_,_,_,_,_,_,_,_,_,hm⟩;exact loop1_z hm
 rintro m55 K54 hK54 ρ60 w56 ⟨v_2,xr44,pre45,wz46,Kz47,Oz48,_,rfl,hfr59,hst58,hs57,Rb,hI49,hL50,hm⟩
 obtain⟨sf52,hsf53,hm⟩:=loop1_s hm;unfold m74_problem_overloads_1_B1 at hm
 rw [hfr59.eq];clear hfr59
 have ch61:=hst58
 refine Wp_seq<|Wp_region<|Rop<|op_lss rfl rfl<|Rg_nil<|Wp_seq<|Wp_condM hm rfl (fun hc62 hm=>?_) (fun hc62 hm=>?_)
 refine Wp_skip<|Wp_seq<|Wp_block<|Wp_seq<|Wp_region<|Mve (Iv v_2) rfl ?_
 obtain⟨hc63,hm⟩:=ck_some hm
 replace Fh:=Fh.step hst58
 refine Rop<|op_indexAddr (q:=(rInt .i64)) ty31 ty3 rfl rfl Fh rfl hc63.1 hc63.2 ?_
 intro p64 f65
 refine Rop<|op_loadP ty3 rfl f65 rfl ?_
 intro v66 h67
 obtain⟨rfl,Rc⟩:=un_int h67
 refine Asg (Iv v_2) rfl<|Asg (Iv ((demand_1.getD v_1.toNat default).getD v_2.toNat default)) rfl<|Rg_nil<|Wp_seq ?_
 clear f65
 refine Wp_region<|Mve (Iv ((demand_1.getD v_1.toNat default).getD v_2.toNat default)) rfl<|Rop<|op_fieldAddr ty26 rfl ty23 (by decide) rfl rfl ?_
 replace Fa:=Fa.step (p13.trans (hst31.trans hst58))
 have f69:=Fa.via.snd.fst
 refine Rop<|op_loadP ty23 rfl f69 rfl ?_
 intro v70 h71
 obtain⟨Ag,Cg,rfl,Fi⟩:=un_sl h71
 refine Mve (Iv v_1) rfl ?_
 obtain⟨hc73,hm⟩:=ck_some hm
 refine Rop<|op_indexAddr (q:=rSl (rInt .i64)) ty23 ty31 rfl rfl Fi rfl hc73.1 hc73.2 ?_
 intro p74 f75
 refine Rop<|op_loadP ty31 rfl f75 rfl ?_
 intro v76 h77
 obtain⟨Ah,Ch,rfl,Fj⟩:=un_sl h77
 refine Mve (Iv v_2) rfl ?_
 obtain⟨hc79,hm⟩:=ck_some hm
 refine Rop<|op_indexAddr (q:=(rInt .i64)) ty31 ty3 rfl rfl Fj rfl hc79.1 hc79.2 ?_
 intro p80 f81
 refine Rop<|op_loadP ty3 rfl f81 rfl ?_
 intro v82 h83
 obtain⟨rfl,Rd⟩:=un_int h83
 refine Rop<|op_subw rfl rfl<|Asg (Iv (IntKind.wrap .i64 (((demand_1.getD v_1.toNat default).getD v_2.toNat default) - ((fv0_.capacity.getD v_1.toNat default).getD v_2.toNat default)))) rfl<|Rg_nil<|Wp_seq ?_
 clear f69 Fi f75 Fj f81
 refine Wp_region<|Mve (Iv (IntKind.wrap .i64 (((demand_1.getD v_1.toNat default).getD v_2.toNat default) - ((fv0_.capacity.getD v_1.toNat default).getD v_2.toNat default)))) rfl<|Rop<|op_gtr rfl rfl<|Mve (Bo (decide (0<(IntKind.wrap .i64 (((demand_1.getD v_1.toNat default).getD v_2.toNat default) - ((fv0_.capacity.getD v_1.toNat default).getD v_2.toNat default)))))) rfl<|Rg_caseM hm (fun hg85 hm=>?_) (fun hg85 hm=>?_)
 refine Rog rfl rfl<|op_move (v:=Value.func (.yield l) #[] #[]) rfl<|Rog rfl rfl<|op_move (v:=Iv v_1) rfl<|Rog rfl rfl<|op_move (v:=Iv v_2) rfl<|Rog rfl rfl<|op_build (vs:=[Iv v_1,Iv v_2]) (parts:=[(0,.tmp 39),(1,.tmp 40)]) ty45 pl45 rfl<|Rog rfl rfl<|op_move (v:=Iv (IntKind.wrap .i64 (((demand_1.getD v_1.toNat default).getD v_2.toNat default) - ((fv0_.capacity.getD v_1.toNat default).getD v_2.toNat default)))) rfl ?_
 obtain⟨xr86,hm,hL87⟩:=yl_elim hm
 rw [hL87] at hL50
 refine Rog rfl rfl (op_yield (pre:=pre45) (a:=((⟨v_1,v_2⟩:XPlace),(IntKind.wrap .i64 (((demand_1.getD v_1.toNat default).getD v_2.toNat default) - ((fv0_.capacity.getD v_1.toNat default).getD v_2.toNat default))))) rfl rfl hY hJ hI49 hs57 ⟨xr86,by rw [hL50];simp⟩ (show(enc2 (vA rXPlace) (vI .i64)) _ _ _ _ from⟨_,_,rfl,mkA (mkVia (mk_pair (mk_int Ra) (mk_int Rb))),⟨rfl,(inK_wrap .i64 _)⟩⟩) ?_ ?_)
 intro w88 O89 hs90 p91 hI92
 clear hs57
 have hL93:L=(pre45++[((⟨v_1,v_2⟩:XPlace),(IntKind.wrap .i64 (((demand_1.getD v_1.toNat default).getD v_2.toNat default) - ((fv0_.capacity.getD v_1.toNat default).getD v_2.toNat default))))])++xr86:=by rw [hL50];simp
 refine Rog rfl rfl<|op_not rfl<|Pkt (Bo false) rfl rfl<|Rg_nil<|Wp_cond_f rfl<|Wp_skip<|Wr2 q74_0 [] (updL (mix q74_1 [] ξ51 (updL ⟨ξ24,[]⟩ [(0,Value.func (.yield l) #[] #[]),(1,Value.pointer (some p_fv0_)),(11,Sl Ae demand_1 Ce),(12,Iv (demand_1.length:Int)),(13,Iv 0)])) [(4,Iv v_1),(13,Iv v_1),(18,Sl Af (demand_1.getD v_1.toNat default) Cf),(19,Iv ((demand_1.getD v_1.toNat default).length:Int)),(20,Iv 0)]) [(20,Iv v_2),(38,Value.func (.yield l) #[] #[]),(39,Iv v_1),(40,Iv v_2),(41,Value.agg [Iv v_1,Iv v_2].toArray),(42,Iv (IntKind.wrap .i64 (((demand_1.getD v_1.toNat default).getD v_2.toNat default) - ((fv0_.capacity.getD v_1.toNat default).getD v_2.toNat default)))),(43,Bo true),(44,Bo false)] fun ξ94=>Wp_region<|Rop<|op_addw rfl rfl<|Mve (Iv (IntKind.wrap .i64 (v_2+1))) rfl<|Rg_nil ?_
 replace ch61:=ch61.trans p91
 exact hK54 _ _ ⟨(IntKind.wrap .i64 (v_2+1)),xr86,pre45++[((⟨v_1,v_2⟩:XPlace),(IntKind.wrap .i64 (((demand_1.getD v_1.toNat default).getD v_2.toNat default) - ((fv0_.capacity.getD v_1.toNat default).getD v_2.toNat default))))],w88,List.filterMap Prod.fst [],O89,_,rfl,Frm.of ⟨rfl,trivial⟩,ch61,hs90,(inK_wrap .i64 _),hI92,hL93,jnE1 hsf53 hm⟩
 intro w95 O96 hs97 hI99
 exact Rog rfl rfl<|op_not rfl<|Pkt (Bo true) rfl rfl<|Rg_nil<|Wp_cond_t rfl<|Wp_ret<|⟨_,Clo,[],trivial,_,.inr ⟨_,hI99.fin hJx hs97⟩⟩
 iterate 7 refine Rg_opx rfl (asB_ne rfl rfl) rfl ?_
 exact Pkf (Bo false) rfl rfl<|Rg_nil<|Wp_cond_f rfl<|Wp_skip<|Wr2 q74_0 [] (updL (mix q74_1 [] ξ51 (updL ⟨ξ24,[]⟩ [(0,Value.func (.yield l) #[] #[]),(1,Value.pointer (some p_fv0_)),(11,Sl Ae demand_1 Ce),(12,Iv (demand_1.length:Int)),(13,Iv 0)])) [(4,Iv v_1),(13,Iv v_1),(18,Sl Af (demand_1.getD v_1.toNat default) Cf),(19,Iv ((demand_1.getD v_1.toNat default).length:Int)),(20,Iv 0)]) [(20,Iv v_2)] fun ξ100=>Wp_region<|Rop<|op_addw rfl rfl<|Mve (Iv (IntKind.wrap .i64 (v_2+1))) rfl<|Rg_nil<|hK54 _ _ ⟨(IntKind.wrap .i64 (v_2+1)),xr44,pre45,wz46,Kz47,Oz48,_,rfl,Frm.of ⟨rfl,trivial⟩,ch61,hs57,(inK_wrap .i64 _),hI49,hL50,jnE1 hsf53 hm⟩
 refine Wp_exit ?_
 clear Fh
 refine Wp_region<|Rop<|op_addw rfl rfl<|Mve (Iv (IntKind.wrap .i64 (v_1+1))) rfl<|Rg_nil ?_
 replace ch34:=ch34.trans hst58
 exact hK27 _ _ ⟨(IntKind.wrap .i64 (v_1+1)),xr44,pre45,wz46,Kz47,Oz48,_,rfl,Frm.of ⟨rfl,trivial⟩,ch34,hs57,(inK_wrap .i64 _),hI49,hL50,jnE1 hsf26 hm⟩
 refine Wp_exit ?_
 have h101:=hI22.fin hJ hs30
 rw [← Option.some.inj hm,List.append_nil] at hL23;rw [← hL23] at h101
 exact⟨_,Clo,[],trivial,_,.inl h101⟩

def m48_problem_overloads (p:XProblem) (b:List Int):Option (List (XPlace × Int)):=
 (m74_problem_overloads_1 p b).bind fun l_1=>
 some l_1

theorem c48_problem_overloads {w:World} {O:List Nat} {p:XProblem} {b:List Int} {Aa:Option Addr} {Ca:Nat} {Ab:Option Addr} {Cb:Nat} {Ac:Option Addr} {Cc:Nat} {Ad:Option Addr} {Cd:Nat} (hO:∀k∈O,k<w.heap.size) (Fa:SlR rXCell w O Aa Ca p.cells) (Fb:SlR (rSl (rInt .i64)) w O Ab Cb p.capacity) (Fc:SlR rXVariable w O Ac Cc p.variables) (Fd:SlR (rInt .i64) w O Ad Cd b) {x:(List (XPlace × Int))} (hm:m48_problem_overloads p b=some x):
 Ok Try.prog 48 [Value.agg [Sl Aa p.cells Ca,Sl Ab p.capacity Cb,Sl Ac p.variables Cc].toArray,Sl Ad b Cd] w O (vIt Try.prog (enc2 (vA rXPlace) (vI .i64))) x:=by
 unfold m48_problem_overloads at hm
 refine Fn_of_Wp (n:=6) (xs:=[.tmp 4]) Try.func48 rfl Try.ntmps48 Try.results48 rfl ?_
 have hs:=St.start hO
 refine Wp_seq<|Wp_region<|Rop<|op_box (cs:=[Sl Aa p.cells Ca,Sl Ab p.capacity Cb,Sl Ac p.variables Cc]) hs rfl rfl ?_
 intro b1 w2 _ p3 hs4
 refine Rop<|op_box (cs:=[Sl Ad b Cd]) hs4 rfl rfl ?_
 intro b6 w7 _ p8 hs9
 clear hs4
 refine Asg (Value.nilFunc) rfl<|Rg_nil<|Wp_seq<|Wp_region ?_
 have p14:=(p3.trans p8)
 replace Fb:=Fb.step p14;replace Fa:=Fa.step p14;replace Fc:=Fc.step p14
 obtain⟨hs12,p13,f11⟩:=St.publishP (p:=rXProblem) (i:=1) (x:=p) hs9 rfl (mkVia (mk_pair (mk_sl Fa) (mk_pair (mk_sl Fb) (mk_sl Fc))))
 clear hs9
 replace Fd:=Fd.step (p14.trans p13)
 obtain⟨hs16,p17,f15⟩:=St.publishP (p:=rSl (rInt .i64)) (i:=0) (x:=b) hs12 rfl (mk_sl Fd)
 clear hs12
 refine Rop<|op_makeFunc' (a':=[]) (c':=[Value.pointer (some (⟨b1,0,none⟩:Addr)),Value.pointer (some (⟨b6,0,none⟩:Addr))]) rfl rfl ?_
 obtain⟨l_1,hv18,hm⟩:=bd hm
 replace f11:=f11.step p17
 have F19:ItR Try.prog (enc2 (vA rXPlace) (vI .i64)) w7 (ks [] O) (Value.func (.func 74) #[] #[Value.pointer (some (⟨b1,0,none⟩:Addr)),Value.pointer (some (⟨b6,0,none⟩:Addr))]) l_1:=⟨74,[Value.pointer (some (⟨b1,0,none⟩:Addr)),Value.pointer (some (⟨b6,0,none⟩:Addr))],rfl,Try.call74,c74_problem_overloads_1 hs16.ltw f11 f15 hv18⟩
 refine Asg (Value.func (.func 74) #[] #[Value.pointer (some (⟨b1,0,none⟩:Addr)),Value.pointer (some (⟨b6,0,none⟩:Addr))]) rfl<|Rg_nil<|Wp_ret ?_
 have hz:=step_all hs16
 refine⟨_,Clo,[Value.func (.func 74) #[] #[Value.pointer (some (⟨b1,0,none⟩:Addr)),Value.pointer (some (⟨b6,0,none⟩:Addr))]],⟨rfl,trivial⟩,hs16.ext,?_⟩
 replace F19:=F19.step hz
 exact Vr.eq (a:=vIt Try.prog (enc2 (vA rXPlace) (vI .i64))) (x:=l_1) F19 (oi hm)

end Go.Fx
