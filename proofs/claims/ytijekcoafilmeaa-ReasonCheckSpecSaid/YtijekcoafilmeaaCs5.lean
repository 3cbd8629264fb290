/- Check and Part agree with the reference. -/
import Derived.Test.YtijekcoafilmeaaCs4
import Derived.Test.YtijekcoafilmeaaRows
import Derived.WalkKit
import Derived.ShutString
set_option linter.unusedVariables false
set_option linter.unusedSimpArgs false
set_option maxRecDepth 100000
set_option maxHeartbeats 0
namespace Go.Fx
open Go Go.RowKit Go.Proofs
abbrev q31_5:List Nat:=[2,6,105,106,107,108,109,110,111,112,113,114,115,116,117,118,119]

abbrev q31_3:List Nat:=[2,5,88,89,90,91,92,93,94,95,96,97,98,99,100,101,102,103,104]

abbrev q31_4:List Nat:=[2,4,5,71,72,73,74,75,76,77,78,79,80,81,82,83,84,85,86,87,88,89,90,91,92,93,94,95,96,97,98,99,100,101,102,103,104]

abbrev q31_1:List Nat:=[36,37,38,39,40,41,42,43,44,45,46,47,48,49,50,51,52,53,54,55,56,57,58,59,60,61,62,63,64,65,66,67,68,69,70]

abbrev q31_2:List Nat:=[2,3,29,30,31,32,33,34,35,36,37,38,39,40,41,42,43,44,45,46,47,48,49,50,51,52,53,54,55,56,57,58,59,60,61,62,63,64,65,66,67,68,69,70]

abbrev q31_0:List Nat:=[7,8,9,10,11,12,13,14,15,16,17,18,19,20,21,22,23,24,25,26,27,28]

def m31_overflightref27_Check_B2 (p:XProblem) (i_2:Int) (sf316:Int→Option Int) (sf391:Int→Option Int) (k_1:Int):Option Int:=
 bif (decide (k_1<(p.cells.length:Int))) then
  ck ((0:Int)≤i_2∧i_2<(p.capacity.length:Int))<|
  ck ((0:Int)≤k_1∧k_1<((p.capacity.getD i_2.toNat default).length:Int))<|
  (m61_overflightref27_within ((p.capacity.getD i_2.toNat default).getD k_1.toNat default) 0 4096).bind fun within_1=>
  bif (!within_1) then
   some 270
  else
   sf391 (IntKind.wrap .i64 (k_1+1))
 else
  sf316 (IntKind.wrap .i64 (i_2+1))

def m31_overflightref27_Check_B3 (p:XProblem) (sf429:Int→Option Int) (i_3:Int):Option Int:=
 bif (decide (i_3<(p.variables.length:Int))) then
  ck ((0:Int)≤i_3∧i_3<(p.variables.length:Int))<|
  (m62_overflightref27_variable p (p.variables.getD i_3.toNat default)).bind fun variable_1=>
  bif (!variable_1) then
   some 270
  else
   sf429 (IntKind.wrap .i64 (i_3+1))
 else
  some 0

def m31_overflightref27_Check_B1 (p:XProblem) (sf316:Int→Option Int) (i_2:Int):Option Int:=
 bif (decide (i_2<(p.capacity.length:Int))) then
  ck ((0:Int)≤i_2∧i_2<(p.capacity.length:Int))<|
  bif (decide (((p.capacity.getD i_2.toNat default).length:Int)≠(p.cells.length:Int))) then
   some 270
  else
   loop1 (m31_overflightref27_Check_B2 p i_2 sf316) (((p.cells.length:Int) - 0).toNat+1) 0
 else
  loop1 (m31_overflightref27_Check_B3 p) (((p.variables.length:Int) - 0).toNat+1) 0

def m31_overflightref27_Check_B0 (p:XProblem) (sf21:Int→Option Int) (i_1:Int):Option Int:=
 bif (decide (i_1<(p.cells.length:Int))) then
  jn (fun(v_2:Bool)=>
   bif v_2 then
    some 270
   else
    sf21 (IntKind.wrap .i64 (i_1+1)))
  (fun k36=>
   ck ((0:Int)≤i_1∧i_1<(p.cells.length:Int))<|
   bif (decide (((p.cells.getD i_1.toNat default).index)<0)) then
    k36 true
   else
    ck ((0:Int)≤i_1∧i_1<(p.cells.length:Int))<|
    bif (decide (((p.cells.getD i_1.toNat default).minute)<0)) then
     k36 true
    else
     bif (decide (0<i_1)) then
      ck ((0:Int)≤(IntKind.wrap .i64 (i_1 - 1))∧(IntKind.wrap .i64 (i_1 - 1))<(p.cells.length:Int))<|
      ck ((0:Int)≤i_1∧i_1<(p.cells.length:Int))<|
      (m60_overflightref27_Before (p.cells.getD (IntKind.wrap .i64 (i_1 - 1)).toNat default) (p.cells.getD i_1.toNat default)).bind fun before_1=>
      k36 (!before_1)
     else
      k36 false)
 else
  loop1 (m31_overflightref27_Check_B1 p) (((p.capacity.length:Int) - 0).toNat+1) 0

def m31_overflightref27_Check (p:XProblem):Option Int:=
 jn (fun(v_1:Bool)=>
  bif v_1 then
   some 270
  else
   loop1 (m31_overflightref27_Check_B0 p) (((p.cells.length:Int) - 0).toNat+1) 0)
 (fun k8=>
  bif (decide (4096<(p.cells.length:Int))) then
   k8 true
  else
   bif (decide ((p.capacity.length:Int)<1)) then
    k8 true
   else
    bif (decide (32<(p.capacity.length:Int))) then
     k8 true
    else
     k8 (decide (64<(p.variables.length:Int))))

theorem c31_overflightref27_Check {w:World} {O:List Nat} {p:XProblem} {Aa:Option Addr} {Ca:Nat} {Ab:Option Addr} {Cb:Nat} {Ac:Option Addr} {Cc:Nat} (hO:∀k∈O,k<w.heap.size) (Fa:SlR rXCell w O Aa Ca p.cells) (Fb:SlR (rSl (rInt .i64)) w O Ab Cb p.capacity) (Fc:SlR rXVariable w O Ac Cc p.variables) {x:Int} (hm:m31_overflightref27_Check p=some x):
 Ok Try.prog 31 [Value.agg [Sl Aa p.cells Ca,Sl Ab p.capacity Cb,Sl Ac p.variables Cc].toArray] w O (vI .i64) x:=by
 unfold m31_overflightref27_Check at hm
 refine Fn_of_Wp (n:=120) (xs:=[.tmp 2]) Try.func31 rfl Try.ntmps31 Try.results31 rfl ?_
 have hs:=St.start hO
 refine Wp_seq<|Wp_region<|Rop<|op_box (cs:=[Sl Aa p.cells Ca,Sl Ab p.capacity Cb,Sl Ac p.variables Cc]) hs rfl rfl ?_
 intro b1 w2 _ p3 hs4
 refine Asg (Iv 0) rfl<|Rg_nil<|Wp_seq<|Wr [] [(1,Pt b1 0)] fun ξ6=>?_
 obtain⟨k8,hk9,hm⟩:=jn_elim hm
 refine Wp_seqJ q31_0 (fun fr w'=>∃(v_1:Bool) (Ebs:Ents),Ebs=[(some b1,Oc [Sl Aa p.cells Ca,Sl Ab p.capacity Cb,Sl Ac p.variables Cc] 26)]∧fr [] [(28,Bo v_1)]∧hs4.S (ks Ebs O) w'∧St ⟨w,[],[]⟩ O w' Ebs∧k8 v_1=some x) ?_ ?_
 rintro ρ15 w11 ⟨v_1,_,rfl,hfr14,hst13,hs12,hm⟩
 replace hm:=jnE1 hk9 hm
 rw [hfr14.eq];clear hfr14
 refine Wp_condM hm rfl (fun hc16 hm=>?_) (fun hc16 hm=>?_)
 refine Wp_seq ?_
 obtain⟨hs17,p18⟩:=hs12.sub (bs':=[]) (.cons _ List.Sublist.slnil)
 clear Fa Fb Fc
 clear hs12
 refine Wp_region<|Asg (Iv 270) rfl<|Rg_nil<|Wp_ret<|⟨_,Clo,[Iv 270],⟨rfl,trivial⟩,hs17.ext,?_⟩
 exact Vr.eq (a:=(vI .i64)) (x:=270) ⟨rfl,(show InK .i64 270 from by decide)⟩ (oi hm)
 refine Wp_skip<|Wp_seq<|Wp_seq<|Wp_region<|Asg (Iv 0) rfl<|Rg_nil<|Wp_block<|Wr [] [(1,Pt b1 0),(3,Iv 0)] fun ξ20=>Wp_loopM q31_2 (fun m fr w'=>∃(i_1:Int) (Ebs:Ents),Ebs=[(some b1,Oc [Sl Aa p.cells Ca,Sl Ab p.capacity Cb,Sl Ac p.variables Cc] 26)]∧fr [] [(3,Iv i_1)]∧hs12.S (ks Ebs O) w'∧St ⟨w,[],[]⟩ O w' Ebs∧InK .i64 i_1∧loop1 (m31_overflightref27_Check_B0 p) m i_1=some x) (((p.cells.length:Int) - 0).toNat+1) ⟨0,_,rfl,Frm.of ⟨rfl,trivial⟩,Step.refl _ _,hs12,(show InK .i64 0 from by decide),hm⟩ ?_ ?_
 rintro _ _ ⟨_,_,_,_,_,_,_,hm⟩;exact loop1_z hm
 rintro m24 K23 hK23 ρ29 w25 ⟨i_1,_,rfl,hfr28,hst27,hs26,Ra,hm⟩
 obtain⟨sf21,hsf22,hm⟩:=loop1_s hm;unfold m31_overflightref27_Check_B0 at hm
 rw [hfr28.eq];clear hfr28
 have ch30:=hst27
 refine Wp_seq<|Wp_seq<|Wp_region<|Mve (Iv i_1) rfl<|Rop<|op_fA 0 ty26 rfl ty22 rfl rfl<|Rop<|op_ld 0 ty22 hs26 rfl rfl rfl<|Rop<|op_len Try.underlying22 rfl ?_
 have p32:=(p3.trans (hst13.trans hst27))
 replace Fa:=Fa.step p32
 have rl31:=inK_len Fa
 refine Rop<|op_lss rfl rfl<|Rg_nil<|Wp_condM hm rfl (fun hc33 hm=>?_) (fun hc33 hm=>?_)
 refine Wp_skip<|Wp_seq<|Wp_block<|Wr2 q31_2 [] (updL ⟨ξ20,[]⟩ [(1,Pt b1 0),(3,Iv 0)]) [(3,Iv i_1)] fun ξ34=>?_
 obtain⟨k36,hk37,hm⟩:=jn_elim hm
 refine Wp_seqJ q31_1 (fun fr w'=>∃(v_2:Bool) (Ebs:Ents),Ebs=[(some b1,Oc [Sl Aa p.cells Ca,Sl Ab p.capacity Cb,Sl Ac p.variables Cc] 26)]∧fr [] [(70,Bo v_2)]∧hs26.S (ks Ebs O) w'∧St ⟨w,[],[]⟩ O w' Ebs∧k36 v_2=some x) ?_ ?_
 rintro ρ43 w39 ⟨v_2,_,rfl,hfr42,hst41,hs40,hm⟩
 replace hm:=jnE1 hk37 hm
 rw [hfr42.eq];clear hfr42
 refine Wp_condM hm rfl (fun hc44 hm=>?_) (fun hc44 hm=>?_)
 refine Wp_seq<|Wp_region<|Asg (Iv 270) rfl<|Rg_nil<|Wp_ret<|⟨_,Clo,[Iv 270],⟨rfl,trivial⟩,hs40.ext,?_⟩
 exact Vr.eq (a:=(vI .i64)) (x:=270) ⟨rfl,(show InK .i64 270 from by decide)⟩ (oi hm)
 refine Wp_skip<|Wp_region<|Mve (Iv i_1) rfl<|Rop<|op_addw rfl rfl<|Asg (Iv (IntKind.wrap .i64 (i_1+1))) rfl<|Rg_nil ?_
 replace ch30:=ch30.trans hst41
 exact hK23 _ _ ⟨(IntKind.wrap .i64 (i_1+1)),_,rfl,Frm.of ⟨rfl,trivial⟩,ch30,hs40,(inK_wrap .i64 _),jnE1 hsf22 hm⟩
 intro K38 hK38
 have ch45:=hs26.stepR
 refine Wp_drawR (g0:=[]) (m:=31) (fl:=[]) (TS_inv hs26) rfl (.inl rfl) rfl (by decide+kernel) ?_  -- 6
 refine Dw_p (Pt b1 0) (fun _ _ _ hi ht=>op_fA 0 ty26 rfl ty22 (ht 1 rfl) rfl<|Gz hi)<|Dw_p (Sl Aa p.cells Ca) (fun _ _ _ hi ht=>op_ld 0 ty22 (Step.nx hi).1 (ht 36 rfl) rfl rfl<|Gz hi)<|Dw_p (Iv i_1) (fun _ _ _ hi ht=>op_move (v:=Iv i_1) (ht 3 rfl)<|Gz hi) ?_
 obtain⟨hc58,hm⟩:=ck_some hm
 refine Dw_op (VP _ _ rXCell (p.cells.getD i_1.toNat default)) (VP.stab _ _) (fun ρ55 w56 g hle hi ht=>?_) ?_
 obtain⟨-,hst,-⟩:=hle
 replace Fa:=Fa.step hst
 refine StepOp_plain<|op_indexAddr (q:=rXCell) ty22 ty67 (ht 37 rfl) (ht 38 rfl) Fa rfl hc58.1 hc58.2 ?_
 intro p59 f60
 exact Goes.same hi ⟨_,rfl,f60⟩
 refine Dw_op (VP _ _ (rInt .i64) ((p.cells.getD i_1.toNat default).index)) (VP.stab _ _) (fun ρ61 w62 g hle hi ht=>?_) ?_
 obtain⟨p64,q65,f66⟩:=ht 39 rfl
 refine StepOp_plain<|op_fieldAddr ty67 rfl ty3 (by decide) q65 rfl ?_
 have f67:=f66.via.snd.fst
 exact Goes.same hi ⟨_,rfl,f67⟩
 refine Dw_op (VD _ _ (vI .i64) ((p.cells.getD i_1.toNat default).index)) (VD.stab _ _) (fun ρ68 w69 g hle hi ht=>?_) ?_
 obtain⟨p71,q72,f73⟩:=ht 40 rfl
 refine StepOp_plain<|op_loadP ty3 q72 f73 rfl ?_
 intro v74 h75
 obtain⟨rfl,Rb⟩:=un_int h75
 exact Goes.same hi (show Vr.vd (vI .i64) _ _ _ _ from⟨rfl,Rb⟩)
 refine Dw_eq (Bo (decide (((p.cells.getD i_1.toNat default).index)<0))) (fun ρ77 w78 g hle hi ht=>?_) ?_
 have h80:Vr.vd (vI .i64) _ _ _ _:=ht 41 rfl
 obtain⟨q81,Rc⟩:=h80
 exact StepOp_plain<|op_lss q81 rfl<|Gz hi
 refine Dw_opB (decide (((p.cells.getD i_1.toNat default).index)<0)) (fun _ _ _ _ hi ht=>StepOp_plain<|op_move (v:=Bo (decide (((p.cells.getD i_1.toNat default).index)<0))) (ht 42 rfl)<|Gz hi) (fun hg86=>?_) (fun hg86=>?_)
 replace hm:=bif_t hm hg86
 iterate 7 refine Dw_sk rfl rfl (fun _ _ _ h=>h) rfl ?_
 refine Dw_p (Bo true) (fun _ _ _ hi ht=>op_pick_t (v:=Bo true) (ht 43 rfl) rfl<|Gz hi)<|Dw_p (Bo true) (fun _ _ _ hi ht=>op_move (v:=Bo true) (ht 51 rfl)<|Gz hi) ?_
 iterate 14 refine Dw_sk rfl rfl (fun _ _ _ h=>h) rfl ?_
 refine Dw_nil fun w97 g98 hl99 hi100=>?_
 obtain⟨-,hst101,-⟩:=hl99
 obtain⟨hs103,p102⟩:=Step.nx hi100
 rintro _ rfl _ rfl _ rfl _ rfl _ rfl _ rfl _ rfl _ rfl _ rfl _ rfl _ rfl _ rfl _ rfl _ rfl _ rfl _ rfl _ rfl _ rfl _ rfl _ rfl _ rfl _ rfl _ rfl _ rfl _ rfl v104 h105
 replace h105:Vr.vd (vI .i64) _ _ _ _:=h105
 obtain⟨rfl,Rd⟩:=h105
 rintro _ ⟨p107,rfl,f108⟩ _ ⟨p109,rfl,f110⟩ _ rfl _ rfl _ rfl
 have p111:=hs26.to hs103 (hst101.trans p102)
 replace f108:=f108.step p102;replace f110:=f110.step p102
 iterate 3 refine Rg_opx rfl (asB_ne rfl rfl) rfl ?_
 refine Pkt (Bo true) rfl rfl<|Rg_nil ?_
 replace ch45:=ch45.trans p111
 exact hK38 _ _ ⟨true,_,rfl,Frm.of ⟨rfl,trivial⟩,ch45,hs103,hm⟩
 replace hm:=bif_f hm hg86
 refine Dw_g (Pt b1 0) rfl rfl (fun _ _ _ h=>h) (fun _ _ _ hi ht=>op_fA 0 ty26 rfl ty22 (ht 1 rfl) rfl<|Gz hi)<|Dw_g (Sl Aa p.cells Ca) rfl rfl (fun _ _ _ h=>h) (fun _ _ _ hi ht=>op_ld 0 ty22 (Step.nx hi).1 (ht 44 rfl) rfl rfl<|Gz hi)<|Dw_g (Iv i_1) rfl rfl (fun _ _ _ h=>h) (fun _ _ _ hi ht=>op_move (v:=Iv i_1) (ht 3 rfl)<|Gz hi) ?_
 obtain⟨hc124,hm⟩:=ck_some hm
 refine Dw_op (VP _ _ rXCell (p.cells.getD i_1.toNat default)) (VP.stab _ _) (fun ρ121 w122 g hle hi ht=>?_) ?_
 obtain⟨-,hst,-⟩:=hle
 replace Fa:=Fa.step hst
 refine StepOp_g rfl (ht 43 rfl)<|op_indexAddr (q:=rXCell) ty22 ty67 (ht 45 rfl) (ht 46 rfl) Fa rfl hc124.1 hc124.2 ?_
 intro p125 f126
 exact Goes.same hi ⟨_,rfl,f126⟩
 refine Dw_op (VP _ _ (rInt .i64) ((p.cells.getD i_1.toNat default).minute)) (VP.stab _ _) (fun ρ127 w128 g hle hi ht=>?_) ?_
 obtain⟨p130,q131,f132⟩:=ht 47 rfl
 refine StepOp_g rfl (ht 43 rfl)<|op_fieldAddr ty67 rfl ty3 (by decide) q131 rfl ?_
 have f133:=f132.via.snd.snd
 exact Goes.same hi ⟨_,rfl,f133⟩
 refine Dw_op (VD _ _ (vI .i64) ((p.cells.getD i_1.toNat default).minute)) (VD.stab _ _) (fun ρ134 w135 g hle hi ht=>?_) ?_
 obtain⟨p137,q138,f139⟩:=ht 48 rfl
 refine StepOp_g rfl (ht 43 rfl)<|op_loadP ty3 q138 f139 rfl ?_
 intro v140 h141
 obtain⟨rfl,Re⟩:=un_int h141
 exact Goes.same hi (show Vr.vd (vI .i64) _ _ _ _ from⟨rfl,Re⟩)
 refine Dw_eq (Bo (decide (((p.cells.getD i_1.toNat default).minute)<0))) (fun ρ143 w144 g hle hi ht=>?_) ?_
 have h146:Vr.vd (vI .i64) _ _ _ _:=ht 49 rfl
 obtain⟨q147,Rf⟩:=h146
 exact StepOp_g rfl (ht 43 rfl)<|op_lss q147 rfl<|Gz hi
 refine Dw_p (Bo (decide (((p.cells.getD i_1.toNat default).minute)<0))) (fun _ _ _ hi ht=>op_pick_f (v:=Bo (decide (((p.cells.getD i_1.toNat default).minute)<0))) (ht 43 rfl) (ht 50 rfl)<|Gz hi)<|Dw_opB (decide (((p.cells.getD i_1.toNat default).minute)<0)) (fun _ _ _ _ hi ht=>StepOp_plain<|op_move (v:=Bo (decide (((p.cells.getD i_1.toNat default).minute)<0))) (ht 51 rfl)<|Gz hi) (fun hg155=>?_) (fun hg155=>?_)
 replace hm:=bif_t hm hg155
 iterate 14 refine Dw_sk rfl rfl (fun _ _ _ h=>h) rfl ?_
 refine Dw_nil fun w160 g161 hl162 hi163=>?_
 obtain⟨-,hst164,-⟩:=hl162
 obtain⟨hs166,p165⟩:=Step.nx hi163
 rintro _ rfl _ rfl _ rfl _ rfl _ rfl _ rfl _ rfl _ rfl _ rfl _ rfl _ rfl _ rfl _ rfl _ rfl _ rfl _ rfl _ rfl v167 h168
 replace h168:Vr.vd (vI .i64) _ _ _ _:=h168
 obtain⟨rfl,Rg⟩:=h168
 rintro _ ⟨p170,rfl,f171⟩ _ ⟨p172,rfl,f173⟩ _ rfl _ rfl _ rfl _ rfl _ rfl v174 h175
 replace h175:Vr.vd (vI .i64) _ _ _ _:=h175
 obtain⟨rfl,Rh⟩:=h175
 rintro _ ⟨p177,rfl,f178⟩ _ ⟨p179,rfl,f180⟩ _ rfl _ rfl _ rfl
 have p181:=hs26.to hs166 (hst164.trans p165)
 replace f171:=f171.step p165;replace f173:=f173.step p165;replace f178:=f178.step p165;replace f180:=f180.step p165
 iterate 3 refine Rg_opx rfl (asB_ne rfl rfl) rfl ?_
 refine Pkt (Bo true) rfl rfl<|Rg_nil ?_
 replace ch45:=ch45.trans p181
 exact hK38 _ _ ⟨true,_,rfl,Frm.of ⟨rfl,trivial⟩,ch45,hs166,hm⟩
 replace hm:=bif_f hm hg155
 refine Dw_g (Iv i_1) rfl rfl (fun _ _ _ h=>h) (fun _ _ _ hi ht=>op_move (v:=Iv i_1) (ht 3 rfl)<|Gz hi)<|Dw_g (Bo (decide (0<i_1))) rfl rfl (fun _ _ _ h=>h) (fun _ _ _ hi ht=>op_gtr (ht 53 rfl) rfl<|Gz hi)<|Dw_opB (decide (0<i_1)) (fun _ _ _ _ hi ht=>StepOp_g rfl (ht 52 rfl)<|op_move (v:=Bo (decide (0<i_1))) (ht 54 rfl)<|Gz hi) (fun hg191=>?_) (fun hg191=>?_)
 replace hm:=bif_t hm hg191
 refine Dw_g (Pt b1 0) rfl rfl (fun _ _ _ h=>h) (fun _ _ _ hi ht=>op_fA 0 ty26 rfl ty22 (ht 1 rfl) rfl<|Gz hi)<|Dw_g (Sl Aa p.cells Ca) rfl rfl (fun _ _ _ h=>h) (fun _ _ _ hi ht=>op_ld 0 ty22 (Step.nx hi).1 (ht 56 rfl) rfl rfl<|Gz hi)<|Dw_g (Iv i_1) rfl rfl (fun _ _ _ h=>h) (fun _ _ _ hi ht=>op_move (v:=Iv i_1) (ht 3 rfl)<|Gz hi)<|Dw_g (Iv (IntKind.wrap .i64 (i_1 - 1))) rfl rfl (fun _ _ _ h=>h) (fun _ _ _ hi ht=>op_subw (ht 58 rfl) rfl<|Gz hi) ?_
 obtain⟨hc207,hm⟩:=ck_some hm
 refine Dw_op (VP _ _ rXCell (p.cells.getD (IntKind.wrap .i64 (i_1 - 1)).toNat default)) (VP.stab _ _) (fun ρ204 w205 g hle hi ht=>?_) ?_
 obtain⟨-,hst,-⟩:=hle
 replace Fa:=Fa.step hst
 refine StepOp_g rfl (ht 55 rfl)<|op_indexAddr (q:=rXCell) ty22 ty67 (ht 57 rfl) (ht 59 rfl) Fa rfl hc207.1 hc207.2 ?_
 intro p208 f209
 exact Goes.same hi ⟨_,rfl,f209⟩
 refine Dw_op (VD _ _ (vA rXCell) (p.cells.getD (IntKind.wrap .i64 (i_1 - 1)).toNat default)) (VD.stab _ _) (fun ρ210 w211 g hle hi ht=>?_) ?_
 obtain⟨p213,q214,f215⟩:=ht 60 rfl
 refine StepOp_g rfl (ht 55 rfl)<|op_loadPA ty67 q214 f215 rfl ?_
 intro vs216 h217
 obtain⟨_,_,rfl,rfl,⟨_,_,rfl,⟨rfl,Ri⟩,⟨rfl,Rj⟩⟩⟩:=h217
 exact Goes.same hi (show Vr.vd (vA rXCell) _ _ _ _ from(mkA (mkVia (mk_pair mkBool (mk_pair (mk_int Ri) (mk_int Rj))))))
 refine Dw_g (Pt b1 0) rfl rfl (fun _ _ _ h=>h) (fun _ _ _ hi ht=>op_fA 0 ty26 rfl ty22 (ht 1 rfl) rfl<|Gz hi)<|Dw_g (Sl Aa p.cells Ca) rfl rfl (fun _ _ _ h=>h) (fun _ _ _ hi ht=>op_ld 0 ty22 (Step.nx hi).1 (ht 62 rfl) rfl rfl<|Gz hi)<|Dw_g (Iv i_1) rfl rfl (fun _ _ _ h=>h) (fun _ _ _ hi ht=>op_move (v:=Iv i_1) (ht 3 rfl)<|Gz hi) ?_
 obtain⟨hc231,hm⟩:=ck_some hm
 refine Dw_op (VP _ _ rXCell (p.cells.getD i_1.toNat default)) (VP.stab _ _) (fun ρ228 w229 g hle hi ht=>?_) ?_
 obtain⟨-,hst,-⟩:=hle
 replace Fa:=Fa.step hst
 refine StepOp_g rfl (ht 55 rfl)<|op_indexAddr (q:=rXCell) ty22 ty67 (ht 63 rfl) (ht 64 rfl) Fa rfl hc231.1 hc231.2 ?_
 intro p232 f233
 exact Goes.same hi ⟨_,rfl,f233⟩
 refine Dw_op (VD _ _ (vA rXCell) (p.cells.getD i_1.toNat default)) (VD.stab _ _) (fun ρ234 w235 g hle hi ht=>?_) ?_
 obtain⟨p237,q238,f239⟩:=ht 65 rfl
 refine StepOp_g rfl (ht 55 rfl)<|op_loadPA ty67 q238 f239 rfl ?_
 intro vs240 h241
 obtain⟨_,_,rfl,rfl,⟨_,_,rfl,⟨rfl,Rk⟩,⟨rfl,Rl⟩⟩⟩:=h241
 exact Goes.same hi (show Vr.vd (vA rXCell) _ _ _ _ from(mkA (mkVia (mk_pair mkBool (mk_pair (mk_int Rk) (mk_int Rl))))))
 refine Dw_nil fun w247 g248 hl249 hi250=>?_
 obtain⟨-,hst251,-⟩:=hl249
 obtain⟨hs253,p252⟩:=Step.nx hi250
 rintro v254 h255
 replace h255:Vr.vd (vA rXCell) _ _ _ _:=h255
 obtain⟨_,rfl,⟨_,_,rfl,rfl,⟨_,_,rfl,⟨rfl,Rm⟩,⟨rfl,Rn⟩⟩⟩⟩:=h255
 rintro _ ⟨p257,rfl,f258⟩ _ rfl _ rfl _ rfl v259 h260
 replace h260:Vr.vd (vA rXCell) _ _ _ _:=h260
 obtain⟨_,rfl,⟨_,_,rfl,rfl,⟨_,_,rfl,⟨rfl,Ro⟩,⟨rfl,Rp⟩⟩⟩⟩:=h260
 rintro _ ⟨p262,rfl,f263⟩ _ rfl _ rfl _ rfl _ rfl _ rfl _ rfl _ rfl _ rfl _ rfl _ rfl v264 h265
 replace h265:Vr.vd (vI .i64) _ _ _ _:=h265
 obtain⟨rfl,Rq⟩:=h265
 rintro _ ⟨p267,rfl,f268⟩ _ ⟨p269,rfl,f270⟩ _ rfl _ rfl _ rfl _ rfl _ rfl v271 h272
 replace h272:Vr.vd (vI .i64) _ _ _ _:=h272
 obtain⟨rfl,Rr⟩:=h272
 rintro _ ⟨p274,rfl,f275⟩ _ ⟨p276,rfl,f277⟩ _ rfl _ rfl _ rfl
 have p278:=hs26.to hs253 (hst251.trans p252)
 replace f258:=f258.step p252;replace f263:=f263.step p252;replace f268:=f268.step p252;replace f270:=f270.step p252;replace f275:=f275.step p252;replace f277:=f277.step p252
 obtain⟨before_1,hv279,hm⟩:=bd hm
 refine Rog rfl rfl<|op_callE hs253 Try.call60 (c60_overflightref27_Before (a:=p.cells.getD (IntKind.wrap .i64 (i_1 - 1)).toNat default) (b:=p.cells.getD i_1.toNat default) hs253.ltw Ro Rp Rm Rn hv279) rfl ?_
 rintro v280 w281 p285 hs284 h283
 clear hs253
 obtain rfl:=h283
 refine Rog rfl rfl<|op_not rfl<|Rog rfl rfl<|op_pick_t (v:=Bo (!before_1)) rfl rfl<|Pkf (Bo (!before_1)) rfl rfl<|Rg_nil ?_
 have p287:=(p278.trans p285)
 replace ch45:=ch45.trans p287
 exact hK38 _ _ ⟨!before_1,_,rfl,Frm.of ⟨rfl,trivial⟩,ch45,hs284,hm⟩
 replace hm:=bif_f hm hg191
 iterate 11 refine Dw_sk rfl rfl (fun _ _ _ h=>h) rfl ?_
 refine Dw_nil fun w292 g293 hl294 hi295=>?_
 obtain⟨-,hst296,-⟩:=hl294
 obtain⟨hs298,p297⟩:=Step.nx hi295
 rintro _ rfl _ rfl _ rfl _ rfl _ rfl _ rfl _ rfl _ rfl _ rfl _ rfl _ rfl _ rfl _ rfl _ rfl _ rfl _ rfl _ rfl v299 h300
 replace h300:Vr.vd (vI .i64) _ _ _ _:=h300
 obtain⟨rfl,Rs⟩:=h300
 rintro _ ⟨p302,rfl,f303⟩ _ ⟨p304,rfl,f305⟩ _ rfl _ rfl _ rfl _ rfl _ rfl v306 h307
 replace h307:Vr.vd (vI .i64) _ _ _ _:=h307
 obtain⟨rfl,Rt⟩:=h307
 rintro _ ⟨p309,rfl,f310⟩ _ ⟨p311,rfl,f312⟩ _ rfl _ rfl _ rfl
 have p313:=hs26.to hs298 (hst296.trans p297)
 replace f303:=f303.step p297;replace f305:=f305.step p297;replace f310:=f310.step p297;replace f312:=f312.step p297
 refine Rg_opx rfl (asB_ne rfl rfl) rfl<|Rg_opx rfl (asB_ne rfl rfl) rfl<|Rog rfl rfl<|op_pick_f (v:=Bo false) rfl rfl<|Pkf (Bo false) rfl rfl<|Rg_nil ?_
 replace ch45:=ch45.trans p313
 exact hK38 _ _ ⟨false,_,rfl,Frm.of ⟨rfl,trivial⟩,ch45,hs298,hm⟩
 refine Wp_exit<|Wp_seq<|Wp_seq<|Wp_region<|Asg (Iv 0) rfl<|Rg_nil<|Wp_block<|Wr [] [(1,Pt b1 0),(4,Iv 0)] fun ξ315=>Wp_loopM q31_4 (fun m fr w'=>∃(i_2:Int) (Ebs:Ents),Ebs=[(some b1,Oc [Sl Aa p.cells Ca,Sl Ab p.capacity Cb,Sl Ac p.variables Cc] 26)]∧fr [] [(4,Iv i_2)]∧hs26.S (ks Ebs O) w'∧St ⟨w,[],[]⟩ O w' Ebs∧InK .i64 i_2∧loop1 (m31_overflightref27_Check_B1 p) m i_2=some x) (((p.capacity.length:Int) - 0).toNat+1) ⟨0,_,rfl,Frm.of ⟨rfl,trivial⟩,Step.refl _ _,hs26,(show InK .i64 0 from by decide),hm⟩ ?_ ?_
 rintro _ _ ⟨_,_,_,_,_,_,_,hm⟩;exact loop1_z hm
 rintro m319 K318 hK318 ρ324 w320 ⟨i_2,_,rfl,hfr323,hst322,hs321,Ru,hm⟩
 obtain⟨sf316,hsf317,hm⟩:=loop1_s hm;unfold m31_overflightref27_Check_B1 at hm
 rw [hfr323.eq];clear hfr323
 have ch325:=hst322
 refine Wp_seq<|Wp_seq<|Wp_region<|Mve (Iv i_2) rfl<|Rop<|op_fA 1 ty26 rfl ty23 rfl rfl<|Rop<|op_ld 0 ty23 hs321 rfl rfl rfl<|Rop<|op_len Try.underlying23 rfl ?_
 have p327:=(p32.trans hst322)
 replace Fb:=Fb.step p327
 have rl326:=inK_len Fb
 refine Rop<|op_lss rfl rfl<|Rg_nil<|Wp_condM hm rfl (fun hc328 hm=>?_) (fun hc328 hm=>?_)
 refine Wp_skip<|Wp_seq<|Wp_block<|Wp_seq<|Wp_seq<|Wp_drawR (g0:=[]) (m:=9) (fl:=[]) (TS_inv hs321) rfl (.inl rfl) rfl (by decide+kernel) ?_  -- 11
 refine Dw_p (Pt b1 1) (fun _ _ _ hi ht=>op_fA 1 ty26 rfl ty23 (ht 1 rfl) rfl<|Gz hi)<|Dw_p (Sl Ab p.capacity Cb) (fun _ _ _ hi ht=>op_ld 0 ty23 (Step.nx hi).1 (ht 78 rfl) rfl rfl<|Gz hi)<|Dw_p (Iv i_2) (fun _ _ _ hi ht=>op_move (v:=Iv i_2) (ht 4 rfl)<|Gz hi) ?_
 obtain⟨hc341,hm⟩:=ck_some hm
 refine Dw_op (VP _ _ (rSl (rInt .i64)) (p.capacity.getD i_2.toNat default)) (VP.stab _ _) (fun ρ338 w339 g hle hi ht=>?_) ?_
 obtain⟨-,hst,-⟩:=hle
 replace Fb:=Fb.step hst
 refine StepOp_plain<|op_indexAddr (q:=rSl (rInt .i64)) ty23 ty31 (ht 79 rfl) (ht 80 rfl) Fb rfl hc341.1 hc341.2 ?_
 intro p342 f343
 exact Goes.same hi ⟨_,rfl,f343⟩
 refine Dw_op (VD _ _ (vC (rSl (rInt .i64))) (p.capacity.getD i_2.toNat default)) (VD.stab _ _) (fun ρ344 w345 g hle hi ht=>?_) ?_
 obtain⟨p347,q348,f349⟩:=ht 81 rfl
 refine StepOp_plain<|op_loadP ty31 q348 f349 rfl ?_
 intro v350 h351
 obtain⟨Ad,Cd,rfl,Fd⟩:=un_sl h351
 exact Goes.same hi (show Vr.vd (vC (rSl (rInt .i64))) _ _ _ _ from(mkC (mk_sl Fd)))
 refine Dw_op (VD _ _ (vI .i64) ((p.capacity.getD i_2.toNat default).length:Int)) (VD.stab _ _) (fun ρ353 w354 g hle hi ht=>?_) ?_
 have h356:Vr.vd (vC (rSl (rInt .i64))) _ _ _ _:=ht 82 rfl
 obtain⟨Ae,Ce,q357,Fe⟩:=un_sl h356
 exact StepOp_plain<|op_len Try.underlying31 q357<|Goes.same hi (show Vr.vd (vI .i64) _ _ _ _ from⟨rfl,inK_len Fe⟩)
 refine Dw_p (Pt b1 0) (fun _ _ _ hi ht=>op_fA 0 ty26 rfl ty22 (ht 1 rfl) rfl<|Gz hi)<|Dw_p (Sl Aa p.cells Ca) (fun _ _ _ hi ht=>op_ld 0 ty22 (Step.nx hi).1 (ht 84 rfl) rfl rfl<|Gz hi)<|Dw_p (Iv (p.cells.length:Int)) (fun _ _ _ hi ht=>op_len Try.underlying22 (ht 85 rfl)<|Gz hi)<|Dw_nil fun w372 g373 hl374 hi375=>?_
 obtain⟨-,hst376,-⟩:=hl374
 obtain⟨hs378,p377⟩:=Step.nx hi375
 rintro _ rfl _ rfl _ rfl v379 h380
 replace h380:Vr.vd (vI .i64) _ _ _ _:=h380
 obtain⟨rfl,Rv⟩:=h380
 rintro v382 h383
 replace h383:Vr.vd (vC (rSl (rInt .i64))) _ _ _ _:=h383
 obtain⟨Af,Cf,rfl,Ff⟩:=un_sl h383
 rintro _ ⟨p385,rfl,f386⟩ _ rfl _ rfl _ rfl
 have p387:=hs321.to hs378 (hst376.trans p377)
 replace Ff:=Ff.step p377;replace f386:=f386.step p377;clear hs321
 refine Rop<|op_neq rfl rfl<|Rg_nil<|Wp_condM hm rfl (fun hc388 hm=>?_) (fun hc388 hm=>?_)
 refine Wp_seq ?_
 clear Ff f386
 refine Wp_region<|Asg (Iv 270) rfl<|Rg_nil<|Wp_ret<|⟨_,Clo,[Iv 270],⟨rfl,trivial⟩,hs378.ext,?_⟩
 exact Vr.eq (a:=(vI .i64)) (x:=270) ⟨rfl,(show InK .i64 270 from by decide)⟩ (oi hm)
 refine Wp_skip<|Wp_seq ?_
 clear Ff f386
 refine Wp_region<|Asg (Iv 0) rfl<|Rg_nil<|Wp_block<|Wr2 q31_4 [] (updL ⟨ξ315,[]⟩ [(1,Pt b1 0),(4,Iv 0)]) [(4,Iv i_2),(5,Iv 0)] fun ξ390=>Wp_loopM q31_3 (fun m fr w'=>∃(k_1:Int) (Ebs:Ents),Ebs=[(some b1,Oc [Sl Aa p.cells Ca,Sl Ab p.capacity Cb,Sl Ac p.variables Cc] 26)]∧fr [] [(5,Iv k_1)]∧hs378.S (ks Ebs O) w'∧St ⟨w,[],[]⟩ O w' Ebs∧InK .i64 k_1∧loop1 (m31_overflightref27_Check_B2 p i_2 sf316) m k_1=some x) (((p.cells.length:Int) - 0).toNat+1) ⟨0,_,rfl,Frm.of ⟨rfl,trivial⟩,Step.refl _ _,hs378,(show InK .i64 0 from by decide),hm⟩ ?_ ?_
 rintro _ _ ⟨_,_,_,_,_,_,_,hm⟩;exact loop1_z hm
 rintro m394 K393 hK393 ρ399 w395 ⟨k_1,_,rfl,hfr398,hst397,hs396,Rw,hm⟩
 obtain⟨sf391,hsf392,hm⟩:=loop1_s hm;unfold m31_overflightref27_Check_B2 at hm
 rw [hfr398.eq];clear hfr398
 have ch400:=hst397
 refine Wp_seq<|Wp_seq<|Wp_region<|Mve (Iv k_1) rfl<|Rop<|op_fA 0 ty26 rfl ty22 rfl rfl<|Rop<|op_ld 0 ty22 hs396 rfl rfl rfl<|Rop<|op_len Try.underlying22 rfl ?_
 have p402:=(hst322.trans (p387.trans hst397))
 replace Fa:=Fa.step p402
 have rl401:=inK_len Fa
 refine Rop<|op_lss rfl rfl<|Rg_nil<|Wp_condM hm rfl (fun hc403 hm=>?_) (fun hc403 hm=>?_)
 refine Wp_skip<|Wp_seq<|Wp_block<|Wp_seq<|Wp_region<|Rop<|op_fA 1 ty26 rfl ty23 rfl rfl<|Rop<|op_ld 0 ty23 hs396 rfl rfl rfl<|Mve (Iv i_2) rfl ?_
 obtain⟨hc404,hm⟩:=ck_some hm
 have p407:=(p387.trans hst397)
 replace Fb:=Fb.step p407
 refine Rop<|op_indexAddr (q:=rSl (rInt .i64)) ty23 ty31 rfl rfl Fb rfl hc404.1 hc404.2 ?_
 intro p405 f406
 refine Rop<|op_loadP ty31 rfl f406 rfl ?_
 intro v408 h409
 obtain⟨Ag,Cg,rfl,Fg⟩:=un_sl h409
 refine Mve (Iv k_1) rfl ?_
 obtain⟨hc411,hm⟩:=ck_some hm
 refine Rop<|op_indexAddr (q:=(rInt .i64)) ty31 ty3 rfl rfl Fg rfl hc411.1 hc411.2 ?_
 intro p412 f413
 refine Rop<|op_loadP ty3 rfl f413 rfl ?_
 intro v414 h415
 obtain⟨rfl,Rx⟩:=un_int h415
 obtain⟨within_1,hv417,hm⟩:=bd hm
 refine Rop<|op_callE hs396 Try.call61 (c61_overflightref27_within (n:=(p.capacity.getD i_2.toNat default).getD k_1.toNat default) (lo:=0) (hi:=4096) hs396.ltw Rx (show InK .i64 0 from by decide) (show InK .i64 4096 from by decide) hv417) rfl ?_
 rintro v418 w419 p423 hs422 h421
 clear hs396
 obtain rfl:=h421
 refine Rop<|op_not rfl<|Rg_nil<|Wp_condM hm rfl (fun hc425 hm=>?_) (fun hc425 hm=>?_)
 refine Wp_seq ?_
 clear f406 Fg f413
 refine Wp_region<|Asg (Iv 270) rfl<|Rg_nil<|Wp_ret<|⟨_,Clo,[Iv 270],⟨rfl,trivial⟩,hs422.ext,?_⟩
 exact Vr.eq (a:=(vI .i64)) (x:=270) ⟨rfl,(show InK .i64 270 from by decide)⟩ (oi hm)
 refine Wp_skip ?_
 clear f406 Fg f413
 refine Wp_region<|Mve (Iv k_1) rfl<|Rop<|op_addw rfl rfl<|Asg (Iv (IntKind.wrap .i64 (k_1+1))) rfl<|Rg_nil ?_
 replace ch400:=ch400.trans p423
 exact hK393 _ _ ⟨(IntKind.wrap .i64 (k_1+1)),_,rfl,Frm.of ⟨rfl,trivial⟩,ch400,hs422,(inK_wrap .i64 _),jnE1 hsf392 hm⟩
 refine Wp_exit<|Wp_region<|Mve (Iv i_2) rfl<|Rop<|op_addw rfl rfl<|Asg (Iv (IntKind.wrap .i64 (i_2+1))) rfl<|Rg_nil ?_
 have p426:=(p387.trans hst397)
 replace ch325:=ch325.trans p426
 exact hK318 _ _ ⟨(IntKind.wrap .i64 (i_2+1)),_,rfl,Frm.of ⟨rfl,trivial⟩,ch325,hs396,(inK_wrap .i64 _),jnE1 hsf317 hm⟩
 refine Wp_exit<|Wp_seq<|Wp_seq<|Wp_region<|Asg (Iv 0) rfl<|Rg_nil<|Wp_block<|Wr [] [(1,Pt b1 0),(6,Iv 0)] fun ξ428=>Wp_loopM q31_5 (fun m fr w'=>∃(i_3:Int) (Ebs:Ents),Ebs=[(some b1,Oc [Sl Aa p.cells Ca,Sl Ab p.capacity Cb,Sl Ac p.variables Cc] 26)]∧fr [] [(6,Iv i_3)]∧hs321.S (ks Ebs O) w'∧St ⟨w,[],[]⟩ O w' Ebs∧InK .i64 i_3∧loop1 (m31_overflightref27_Check_B3 p) m i_3=some x) (((p.variables.length:Int) - 0).toNat+1) ⟨0,_,rfl,Frm.of ⟨rfl,trivial⟩,Step.refl _ _,hs321,(show InK .i64 0 from by decide),hm⟩ ?_ ?_
 rintro _ _ ⟨_,_,_,_,_,_,_,hm⟩;exact loop1_z hm
 rintro m432 K431 hK431 ρ437 w433 ⟨i_3,_,rfl,hfr436,hst435,hs434,Ry,hm⟩
 obtain⟨sf429,hsf430,hm⟩:=loop1_s hm;unfold m31_overflightref27_Check_B3 at hm
 rw [hfr436.eq];clear hfr436
 have ch438:=hst435
 refine Wp_seq<|Wp_seq<|Wp_region<|Mve (Iv i_3) rfl<|Rop<|op_fA 2 ty26 rfl ty24 rfl rfl<|Rop<|op_ld 0 ty24 hs434 rfl rfl rfl<|Rop<|op_len Try.underlying24 rfl ?_
 replace Fc:=Fc.step (p327.trans hst435)
 have rl439:=inK_len Fc
 refine Rop<|op_lss rfl rfl<|Rg_nil<|Wp_condM hm rfl (fun hc440 hm=>?_) (fun hc440 hm=>?_)
 refine Wp_skip<|Wp_seq<|Wp_block<|Wp_seq<|Wp_drawR (g0:=[]) (m:=6) (fl:=[]) (TS_inv hs434) rfl (.inl rfl) rfl (by decide+kernel) ?_  -- 21
 refine Dw_p (Value.agg [Sl Aa p.cells Ca,Sl Ab p.capacity Cb,Sl Ac p.variables Cc].toArray) (fun _ _ _ hi ht=>op_ldA 0 ty26 (Step.nx hi).1 (ht 1 rfl) rfl rfl<|Gz hi)<|Dw_p (Pt b1 2) (fun _ _ _ hi ht=>op_fA 2 ty26 rfl ty24 (ht 1 rfl) rfl<|Gz hi)<|Dw_p (Sl Ac p.variables Cc) (fun _ _ _ hi ht=>op_ld 0 ty24 (Step.nx hi).1 (ht 113 rfl) rfl rfl<|Gz hi)<|Dw_p (Iv i_3) (fun _ _ _ hi ht=>op_move (v:=Iv i_3) (ht 6 rfl)<|Gz hi) ?_
 obtain⟨hc456,hm⟩:=ck_some hm
 refine Dw_op (VP _ _ rXVariable (p.variables.getD i_3.toNat default)) (VP.stab _ _) (fun ρ453 w454 g hle hi ht=>?_) ?_
 obtain⟨-,hst,-⟩:=hle
 replace Fc:=Fc.step hst
 refine StepOp_plain<|op_indexAddr (q:=rXVariable) ty24 ty61 (ht 114 rfl) (ht 115 rfl) Fc rfl hc456.1 hc456.2 ?_
 intro p457 f458
 exact Goes.same hi ⟨_,rfl,f458⟩
 refine Dw_op (VD _ _ (vA rXVariable) (p.variables.getD i_3.toNat default)) (VD.stab _ _) (fun ρ459 w460 g hle hi ht=>?_) ?_
 obtain⟨p462,q463,f464⟩:=ht 116 rfl
 refine StepOp_plain<|op_loadPA ty61 q463 f464 rfl ?_
 intro vs465 h466
 obtain⟨_,_,rfl,⟨rfl,Rz⟩,⟨_,_,rfl,⟨rfl,Ra1⟩,⟨_,_,rfl,⟨Ah,Ch,rfl,Fh⟩,⟨Ai,Ci,rfl,Fi⟩⟩⟩⟩:=h466
 exact Goes.same hi (show Vr.vd (vA rXVariable) _ _ _ _ from(mkA (mkVia (mk_pair (mk_int Rz) (mk_pair (mk_int Ra1) (mk_pair (mk_sl Fh) (mk_sl Fi)))))))
 refine Dw_nil fun w472 g473 hl474 hi475=>?_
 obtain⟨-,hst476,-⟩:=hl474
 obtain⟨hs478,p477⟩:=Step.nx hi475
 rintro v479 h480
 replace h480:Vr.vd (vA rXVariable) _ _ _ _:=h480
 obtain⟨_,rfl,⟨_,_,rfl,⟨rfl,Rb1⟩,⟨_,_,rfl,⟨rfl,Rc1⟩,⟨_,_,rfl,⟨Aj,Cj,rfl,Fj⟩,⟨Ak,Ck,rfl,Fk⟩⟩⟩⟩⟩:=h480
 rintro _ ⟨p482,rfl,f483⟩ _ rfl _ rfl _ rfl _ rfl
 have p484:=hs434.to hs478 (hst476.trans p477)
 replace Fj:=Fj.step p477;replace Fk:=Fk.step p477;replace f483:=f483.step p477;clear hs434
 obtain⟨variable_1,hv485,hm⟩:=bd hm
 have p491:=(hst435.trans p484)
 replace Fb:=Fb.step p491
 have p492:=(hst322.trans (hst435.trans p484))
 replace Fa:=Fa.step p492;replace Fc:=Fc.step p484
 refine Rop<|op_callE hs478 Try.call62 (c62_overflightref27_variable (p:=p) (v:=p.variables.getD i_3.toNat default) hs478.ltw Fa Fb Fc Rb1 Rc1 Fj Fk hv485) rfl ?_
 rintro v486 w487 p493 hs490 h489
 clear hs478
 obtain rfl:=h489
 refine Rop<|op_not rfl<|Rg_nil<|Wp_condM hm rfl (fun hc495 hm=>?_) (fun hc495 hm=>?_)
 refine Wp_seq ?_
 clear Fj Fk f483
 refine Wp_region<|Asg (Iv 270) rfl<|Rg_nil<|Wp_ret<|⟨_,Clo,[Iv 270],⟨rfl,trivial⟩,hs490.ext,?_⟩
 exact Vr.eq (a:=(vI .i64)) (x:=270) ⟨rfl,(show InK .i64 270 from by decide)⟩ (oi hm)
 refine Wp_skip ?_
 clear Fj Fk f483
 refine Wp_region<|Mve (Iv i_3) rfl<|Rop<|op_addw rfl rfl<|Asg (Iv (IntKind.wrap .i64 (i_3+1))) rfl<|Rg_nil ?_
 replace ch438:=ch438.trans (p484.trans p493)
 exact hK431 _ _ ⟨(IntKind.wrap .i64 (i_3+1)),_,rfl,Frm.of ⟨rfl,trivial⟩,ch438,hs490,(inK_wrap .i64 _),jnE1 hsf430 hm⟩
 refine Wp_exit<|Wp_seq ?_
 obtain⟨hs496,p497⟩:=hs434.sub (bs':=[]) (.cons _ List.Sublist.slnil)
 clear Fa Fb Fc
 clear hs434
 refine Wp_region<|Asg (Iv 0) rfl<|Rg_nil<|Wp_ret<|⟨_,Clo,[Iv 0],⟨rfl,trivial⟩,hs496.ext,?_⟩
 exact Vr.eq (a:=(vI .i64)) (x:=0) ⟨rfl,(show InK .i64 0 from by decide)⟩ (oi hm)
 intro K10 hK10
 have ch498:=hs4.stepR
 refine Wp_region<|Rop<|op_fA 0 ty26 rfl ty22 rfl rfl<|Rop<|op_ld 0 ty22 hs4 rfl rfl rfl<|Rop<|op_len Try.underlying22 rfl ?_
 replace Fa:=Fa.step p3
 have rl499:=inK_len Fa
 refine Rop<|op_gtr rfl rfl<|Mve (Bo (decide (4096<(p.cells.length:Int)))) rfl<|Rg_caseM hm (fun hg500 hm=>?_) (fun hg500 hm=>?_)
 iterate 4 refine Rg_opx rfl (asB_ne rfl rfl) rfl ?_
 refine Pkt (Bo true) rfl rfl<|Mve (Bo true) rfl ?_
 iterate 4 refine Rg_opx rfl (asB_ne rfl rfl) rfl ?_
 refine Pkt (Bo true) rfl rfl<|Mve (Bo true) rfl ?_
 iterate 4 refine Rg_opx rfl (asB_ne rfl rfl) rfl ?_
 exact Pkt (Bo true) rfl rfl<|Rg_nil<|hK10 _ _ ⟨true,_,rfl,Frm.of ⟨rfl,trivial⟩,ch498,hs4,hm⟩
 refine Rog rfl rfl<|op_fA 1 ty26 rfl ty23 rfl rfl<|Rog rfl rfl<|op_ld 0 ty23 hs4 rfl rfl rfl<|Rog rfl rfl<|op_len Try.underlying23 rfl ?_
 replace Fb:=Fb.step p3
 have rl501:=inK_len Fb
 refine Rog rfl rfl<|op_lss rfl rfl<|Pkf (Bo (decide ((p.capacity.length:Int)<1))) rfl rfl<|Mve (Bo (decide ((p.capacity.length:Int)<1))) rfl<|Rg_caseM hm (fun hg502 hm=>?_) (fun hg502 hm=>?_)
 iterate 4 refine Rg_opx rfl (asB_ne rfl rfl) rfl ?_
 refine Pkt (Bo true) rfl rfl<|Mve (Bo true) rfl ?_
 iterate 4 refine Rg_opx rfl (asB_ne rfl rfl) rfl ?_
 exact Pkt (Bo true) rfl rfl<|Rg_nil<|hK10 _ _ ⟨true,_,rfl,Frm.of ⟨rfl,trivial⟩,ch498,hs4,hm⟩
 refine Rog rfl rfl<|op_fA 1 ty26 rfl ty23 rfl rfl<|Rog rfl rfl<|op_ld 0 ty23 hs4 rfl rfl rfl<|Rog rfl rfl<|op_len Try.underlying23 rfl ?_
 have rl503:=inK_len Fb
 refine Rog rfl rfl<|op_gtr rfl rfl<|Pkf (Bo (decide (32<(p.capacity.length:Int)))) rfl rfl<|Mve (Bo (decide (32<(p.capacity.length:Int)))) rfl<|Rg_caseM hm (fun hg504 hm=>?_) (fun hg504 hm=>?_)
 iterate 4 refine Rg_opx rfl (asB_ne rfl rfl) rfl ?_
 exact Pkt (Bo true) rfl rfl<|Rg_nil<|hK10 _ _ ⟨true,_,rfl,Frm.of ⟨rfl,trivial⟩,ch498,hs4,hm⟩
 refine Rog rfl rfl<|op_fA 2 ty26 rfl ty24 rfl rfl<|Rog rfl rfl<|op_ld 0 ty24 hs4 rfl rfl rfl<|Rog rfl rfl<|op_len Try.underlying24 rfl ?_
 replace Fc:=Fc.step p3
 have rl505:=inK_len Fc
 exact Rog rfl rfl<|op_gtr rfl rfl<|Pkf (Bo (decide (64<(p.variables.length:Int)))) rfl rfl<|Rg_nil<|hK10 _ _ ⟨decide (64<(p.variables.length:Int)),_,rfl,Frm.of ⟨rfl,trivial⟩,ch498,hs4,hm⟩

def m63_overflightref32_Before (a:XPlace) (b:XPlace):Option Bool:=
 bif (decide (a.leaf<b.leaf)) then
  some true
 else
  bif (decide (a.leaf=b.leaf)) then
   some (decide (a.cell<b.cell))
  else
   some false

theorem c63_overflightref32_Before {w:World} {O:List Nat} {a:XPlace} {b:XPlace} (hO:∀k∈O,k<w.heap.size) (Ra:InK .i64 a.leaf) (Rb:InK .i64 a.cell) (Rc:InK .i64 b.leaf) (Rd:InK .i64 b.cell) {x:Bool} (hm:m63_overflightref32_Before a b=some x):
 Ok Try.prog 63 [Value.agg [Iv a.leaf,Iv a.cell].toArray,Value.agg [Iv b.leaf,Iv b.cell].toArray] w O vB x:=by
 unfold m63_overflightref32_Before at hm
 refine Fn_of_Wp (n:=24) (xs:=[.tmp 4]) Try.func63 rfl Try.ntmps63 Try.results63 rfl ?_
 have hs:=St.start hO
 refine Wp_seq<|Wp_region<|Rop<|op_box (cs:=[Iv a.leaf,Iv a.cell]) hs rfl rfl ?_
 intro b1 w2 _ p3 hs4
 refine Rop<|op_box (cs:=[Iv b.leaf,Iv b.cell]) hs4 rfl rfl ?_
 intro b6 w7 _ p8 hs9
 clear hs4
 refine Asg (Bo false) rfl<|Rg_nil<|Wp_seq<|Wp_region<|Rop<|op_fA 0 ty45 rfl ty3 rfl rfl<|Rop<|op_ld 1 ty3 hs9 rfl rfl rfl<|Rop<|op_fA 0 ty45 rfl ty3 rfl rfl<|Rop<|op_ld 0 ty3 hs9 rfl rfl rfl<|Rop<|op_lss rfl rfl<|Mve (Bo (decide (a.leaf<b.leaf))) rfl<|Rg_caseM hm (fun hg11 hm=>?_) (fun hg11 hm=>?_)
 iterate 12 refine Rg_opx rfl (asB_ne rfl rfl) rfl ?_
 refine Pkt (Bo true) rfl rfl<|Asg (Bo true) rfl<|Rg_nil<|Wp_ret<|⟨_,Clo,[Bo true],⟨rfl,trivial⟩,hs9.ext,?_⟩
 exact Vr.eq (a:=vB) (x:=true) rfl (oi hm)
 refine Rog rfl rfl<|op_fA 0 ty45 rfl ty3 rfl rfl<|Rog rfl rfl<|op_ld 1 ty3 hs9 rfl rfl rfl<|Rog rfl rfl<|op_fA 0 ty45 rfl ty3 rfl rfl<|Rog rfl rfl<|op_ld 0 ty3 hs9 rfl rfl rfl<|Rog rfl rfl<|op_eql rfl rfl<|Rog rfl rfl<|op_move (v:=Bo (decide (a.leaf=b.leaf))) rfl<|Rg_caseM hm (fun hg12 hm=>?_) (fun hg12 hm=>?_)
 refine Rog rfl rfl<|op_fA 1 ty45 rfl ty3 rfl rfl<|Rog rfl rfl<|op_ld 1 ty3 hs9 rfl rfl rfl<|Rog rfl rfl<|op_fA 1 ty45 rfl ty3 rfl rfl<|Rog rfl rfl<|op_ld 0 ty3 hs9 rfl rfl rfl<|Rog rfl rfl<|op_lss rfl rfl<|Rog rfl rfl<|op_pick_t (v:=Bo (decide (a.cell<b.cell))) rfl rfl<|Pkf (Bo (decide (a.cell<b.cell))) rfl rfl<|Asg (Bo (decide (a.cell<b.cell))) rfl<|Rg_nil<|Wp_ret<|⟨_,Clo,[Bo (decide (a.cell<b.cell))],⟨rfl,trivial⟩,hs9.ext,?_⟩
 exact Vr.eq (a:=vB) (x:=decide (a.cell<b.cell)) rfl (oi hm)
 iterate 5 refine Rg_opx rfl (asB_ne rfl rfl) rfl ?_
 refine Rog rfl rfl<|op_pick_f (v:=Bo false) rfl rfl<|Pkf (Bo false) rfl rfl<|Asg (Bo false) rfl<|Rg_nil<|Wp_ret<|⟨_,Clo,[Bo false],⟨rfl,trivial⟩,hs9.ext,?_⟩
 exact Vr.eq (a:=vB) (x:=false) rfl (oi hm)

abbrev q56_2:List Nat:=[56,57,58,59,60,61,62,63,64,65,66,67,68,69,70,71,72,73,74,75,76,77,78,79,80,81,82,83,84,85,86,87,88,89,90,91,92,93,94]

abbrev q56_3:List Nat:=[4,7,8,44,45,46,47,48,49,50,51,52,53,54,55,56,57,58,59,60,61,62,63,64,65,66,67,68,69,70,71,72,73,74,75,76,77,78,79,80,81,82,83,84,85,86,87,88,89,90,91,92,93,94]

abbrev q56_0:List Nat:=[21,22,23,24,25,26,27,28,29,30,31,32,33,34,35,36,37,38,39,40,41,42,43]

abbrev q56_1:List Nat:=[4,5,6,9,10,11,12,13,14,15,16,17,18,19,20,21,22,23,24,25,26,27,28,29,30,31,32,33,34,35,36,37,38,39,40,41,42,43]

def m56_overflightref32_Valid_B1 (p:XProblem) (r_:XReason) (sf56:Int→Option Bool) (i_2:Int):Option Bool:=
 bif (decide (i_2<(r_.places.length:Int))) then
  ck ((0:Int)≤i_2∧i_2<(r_.places.length:Int))<|
  jn (fun(v_2:Bool)=>
   bif v_2 then
    some false
   else
    sf56 (IntKind.wrap .i64 (i_2+1)))
  (fun k85=>
   bif (decide (((r_.places.getD i_2.toNat default).leaf)<0)) then
    k85 true
   else
    bif (decide ((p.capacity.length:Int)≤((r_.places.getD i_2.toNat default).leaf))) then
     k85 true
    else
     bif (decide (((r_.places.getD i_2.toNat default).cell)<0)) then
      k85 true
     else
      bif (decide ((p.cells.length:Int)≤((r_.places.getD i_2.toNat default).cell))) then
       k85 true
      else
       bif (decide (0<i_2)) then
        ck ((0:Int)≤(IntKind.wrap .i64 (i_2 - 1))∧(IntKind.wrap .i64 (i_2 - 1))<(r_.places.length:Int))<|
        (m63_overflightref32_Before (r_.places.getD (IntKind.wrap .i64 (i_2 - 1)).toNat default) (r_.places.getD i_2.toNat default)).bind fun before_1=>
        k85 (!before_1)
       else
        k85 false)
 else
  some true

def m56_overflightref32_Valid_B0 (p:XProblem) (r_:XReason) (sf13:Int→Option Bool) (i_1:Int):Option Bool:=
 bif (decide (i_1<(r_.variables.length:Int))) then
  ck ((0:Int)≤i_1∧i_1<(r_.variables.length:Int))<|
  jn (fun(v_1:Bool)=>
   bif v_1 then
    some false
   else
    sf13 (IntKind.wrap .i64 (i_1+1)))
  (fun k34=>
   bif (decide ((r_.variables.getD i_1.toNat default)<0)) then
    k34 true
   else
    bif (decide ((p.variables.length:Int)≤(r_.variables.getD i_1.toNat default))) then
     k34 true
    else
     bif (decide (0<i_1)) then
      ck ((0:Int)≤(IntKind.wrap .i64 (i_1 - 1))∧(IntKind.wrap .i64 (i_1 - 1))<(r_.variables.length:Int))<|
      k34 (decide ((r_.variables.getD i_1.toNat default)≤(r_.variables.getD (IntKind.wrap .i64 (i_1 - 1)).toNat default)))
     else
      k34 false)
 else
  loop1 (m56_overflightref32_Valid_B1 p r_) (((r_.places.length:Int) - 0).toNat+1) 0

def m56_overflightref32_Valid (p:XProblem) (r_:XReason):Option Bool:=
 loop1 (m56_overflightref32_Valid_B0 p r_) (((r_.variables.length:Int) - 0).toNat+1) 0

theorem c56_overflightref32_Valid {w:World} {O:List Nat} {p:XProblem} {r_:XReason} {Aa:Option Addr} {Ca:Nat} {Ab:Option Addr} {Cb:Nat} {Ac:Option Addr} {Cc:Nat} {Ad:Option Addr} {Cd:Nat} {Ae:Option Addr} {Ce:Nat} (hO:∀k∈O,k<w.heap.size) (Fa:SlR rXCell w O Aa Ca p.cells) (Fb:SlR (rSl (rInt .i64)) w O Ab Cb p.capacity) (Fc:SlR rXVariable w O Ac Cc p.variables) (Fd:SlR (rInt .i64) w O Ad Cd r_.variables) (Fe:SlR rXPlace w O Ae Ce r_.places) {x:Bool} (hm:m56_overflightref32_Valid p r_=some x):
 Ok Try.prog 56 [Value.agg [Sl Aa p.cells Ca,Sl Ab p.capacity Cb,Sl Ac p.variables Cc].toArray,Value.agg [Sl Ad r_.variables Cd,Sl Ae r_.places Ce].toArray] w O vB x:=by
 unfold m56_overflightref32_Valid at hm
 refine Fn_of_Wp (n:=95) (xs:=[.tmp 4]) Try.func56 rfl Try.ntmps56 Try.results56 rfl ?_
 have hs:=St.start hO
 refine Wp_seq<|Wp_region<|Rop<|op_box (cs:=[Sl Aa p.cells Ca,Sl Ab p.capacity Cb,Sl Ac p.variables Cc]) hs rfl rfl ?_
 intro b1 w2 _ p3 hs4
 refine Rop<|op_box (cs:=[Sl Ad r_.variables Cd,Sl Ae r_.places Ce]) hs4 rfl rfl ?_
 intro b6 w7 _ p8 hs9
 clear hs4
 refine Asg (Bo false) rfl<|Rg_nil<|Wp_seq<|Wp_seq<|Wp_region<|Asg (Iv 0) rfl<|Rg_nil<|Wp_block<|Wr [] [(2,Pt b1 0),(3,Pt b6 0),(5,Iv 0)] fun ξ12=>Wp_loopM q56_1 (fun m fr w'=>∃(i_1:Int) (Ebs:Ents),Ebs=[(some b6,Oc [Sl Ad r_.variables Cd,Sl Ae r_.places Ce] 34),(some b1,Oc [Sl Aa p.cells Ca,Sl Ab p.capacity Cb,Sl Ac p.variables Cc] 26)]∧fr [] [(5,Iv i_1)]∧hs9.S (ks Ebs O) w'∧St ⟨w,[],[]⟩ O w' Ebs∧InK .i64 i_1∧loop1 (m56_overflightref32_Valid_B0 p r_) m i_1=some x) (((r_.variables.length:Int) - 0).toNat+1) ⟨0,_,rfl,Frm.of ⟨rfl,trivial⟩,Step.refl _ _,hs9,(show InK .i64 0 from by decide),hm⟩ ?_ ?_
 rintro _ _ ⟨_,_,_,_,_,_,_,hm⟩;exact loop1_z hm
 rintro m16 K15 hK15 ρ21 w17 ⟨i_1,_,rfl,hfr20,hst19,hs18,Ra,hm⟩
 obtain⟨sf13,hsf14,hm⟩:=loop1_s hm;unfold m56_overflightref32_Valid_B0 at hm
 rw [hfr20.eq];clear hfr20
 have ch22:=hst19
 refine Wp_seq<|Wp_seq<|Wp_region<|Mve (Iv i_1) rfl<|Rop<|op_fA 0 ty34 rfl ty31 rfl rfl<|Rop<|op_ld 0 ty31 hs18 rfl rfl rfl<|Rop<|op_len Try.underlying31 rfl ?_
 have p24:=(p3.trans (p8.trans hst19))
 replace Fd:=Fd.step p24
 have rl23:=inK_len Fd
 refine Rop<|op_lss rfl rfl<|Rg_nil<|Wp_condM hm rfl (fun hc25 hm=>?_) (fun hc25 hm=>?_)
 refine Wp_skip<|Wp_seq<|Wp_block<|Wp_seq<|Wp_region<|Rop<|op_fA 0 ty34 rfl ty31 rfl rfl<|Rop<|op_ld 0 ty31 hs18 rfl rfl rfl<|Mve (Iv i_1) rfl ?_
 obtain⟨hc26,hm⟩:=ck_some hm
 refine Rop<|op_indexAddr (q:=(rInt .i64)) ty31 ty3 rfl rfl Fd rfl hc26.1 hc26.2 ?_
 intro p27 f28
 refine Rop<|op_loadP ty3 rfl f28 rfl ?_
 intro v29 h30
 obtain⟨rfl,Rb⟩:=un_int h30
 refine Asg (Iv (r_.variables.getD i_1.toNat default)) rfl<|Rg_nil<|Wr2 q56_1 [] (updL ⟨ξ12,[]⟩ [(2,Pt b1 0),(3,Pt b6 0),(5,Iv 0)]) [(5,Iv i_1),(6,Iv (r_.variables.getD i_1.toNat default))] fun ξ32=>?_
 obtain⟨k34,hk35,hm⟩:=jn_elim hm
 refine Wp_seqJ q56_0 (fun fr w'=>∃(v_1:Bool) (Ebs:Ents),Ebs=[(some b6,Oc [Sl Ad r_.variables Cd,Sl Ae r_.places Ce] 34),(some b1,Oc [Sl Aa p.cells Ca,Sl Ab p.capacity Cb,Sl Ac p.variables Cc] 26)]∧fr [] [(43,Bo v_1)]∧hs18.S (ks Ebs O) w'∧St ⟨w,[],[]⟩ O w' Ebs∧k34 v_1=some x) ?_ ?_
 rintro ρ41 w37 ⟨v_1,_,rfl,hfr40,hst39,hs38,hm⟩
 replace hm:=jnE1 hk35 hm
 rw [hfr40.eq];clear hfr40
 refine Wp_condM hm rfl (fun hc42 hm=>?_) (fun hc42 hm=>?_)
 refine Wp_seq ?_
 clear f28
 refine Wp_region<|Asg (Bo false) rfl<|Rg_nil<|Wp_ret<|⟨_,Clo,[Bo false],⟨rfl,trivial⟩,hs38.ext,?_⟩
 exact Vr.eq (a:=vB) (x:=false) rfl (oi hm)
 refine Wp_skip ?_
 clear f28
 refine Wp_region<|Mve (Iv i_1) rfl<|Rop<|op_addw rfl rfl<|Asg (Iv (IntKind.wrap .i64 (i_1+1))) rfl<|Rg_nil ?_
 replace ch22:=ch22.trans hst39
 exact hK15 _ _ ⟨(IntKind.wrap .i64 (i_1+1)),_,rfl,Frm.of ⟨rfl,trivial⟩,ch22,hs38,(inK_wrap .i64 _),jnE1 hsf14 hm⟩
 intro K36 hK36
 have ch43:=hs18.stepR
 clear f28
 refine Wp_region<|Mve (Iv (r_.variables.getD i_1.toNat default)) rfl<|Rop<|op_lss rfl rfl<|Mve (Bo (decide ((r_.variables.getD i_1.toNat default)<0))) rfl<|Rg_caseM hm (fun hg44 hm=>?_) (fun hg44 hm=>?_)
 iterate 5 refine Rg_opx rfl (asB_ne rfl rfl) rfl ?_
 refine Pkt (Bo true) rfl rfl<|Mve (Bo true) rfl ?_
 iterate 12 refine Rg_opx rfl (asB_ne rfl rfl) rfl ?_
 exact Pkt (Bo true) rfl rfl<|Rg_nil<|hK36 _ _ ⟨true,_,rfl,Frm.of ⟨rfl,trivial⟩,ch43,hs18,hm⟩
 refine Rog rfl rfl<|op_move (v:=Iv (r_.variables.getD i_1.toNat default)) rfl<|Rog rfl rfl<|op_fA 2 ty26 rfl ty24 rfl rfl<|Rog rfl rfl<|op_ld 1 ty24 hs18 rfl rfl rfl<|Rog rfl rfl<|op_len Try.underlying24 rfl ?_
 replace Fc:=Fc.step p24
 have rl45:=inK_len Fc
 refine Rog rfl rfl<|op_geq rfl rfl<|Pkf (Bo (decide ((p.variables.length:Int)≤(r_.variables.getD i_1.toNat default)))) rfl rfl<|Mve (Bo (decide ((p.variables.length:Int)≤(r_.variables.getD i_1.toNat default)))) rfl<|Rg_caseM hm (fun hg46 hm=>?_) (fun hg46 hm=>?_)
 iterate 12 refine Rg_opx rfl (asB_ne rfl rfl) rfl ?_
 exact Pkt (Bo true) rfl rfl<|Rg_nil<|hK36 _ _ ⟨true,_,rfl,Frm.of ⟨rfl,trivial⟩,ch43,hs18,hm⟩
 refine Rog rfl rfl<|op_move (v:=Iv i_1) rfl<|Rog rfl rfl<|op_gtr rfl rfl<|Rog rfl rfl<|op_move (v:=Bo (decide (0<i_1))) rfl<|Rg_caseM hm (fun hg47 hm=>?_) (fun hg47 hm=>?_)
 refine Rog rfl rfl<|op_move (v:=Iv (r_.variables.getD i_1.toNat default)) rfl<|Rog rfl rfl<|op_fA 0 ty34 rfl ty31 rfl rfl<|Rog rfl rfl<|op_ld 0 ty31 hs18 rfl rfl rfl<|Rog rfl rfl<|op_move (v:=Iv i_1) rfl<|Rog rfl rfl<|op_subw rfl rfl ?_
 obtain⟨hc48,hm⟩:=ck_some hm
 refine Rog rfl rfl<|op_indexAddr (q:=(rInt .i64)) ty31 ty3 rfl rfl Fd rfl hc48.1 hc48.2 ?_
 intro p49 f50
 refine Rog rfl rfl<|op_loadP ty3 rfl f50 rfl ?_
 intro v51 h52
 obtain⟨rfl,Rc⟩:=un_int h52
 exact Rog rfl rfl<|op_leq rfl rfl<|Rog rfl rfl<|op_pick_t (v:=Bo (decide ((r_.variables.getD i_1.toNat default)≤(r_.variables.getD (IntKind.wrap .i64 (i_1 - 1)).toNat default)))) rfl rfl<|Pkf (Bo (decide ((r_.variables.getD i_1.toNat default)≤(r_.variables.getD (IntKind.wrap .i64 (i_1 - 1)).toNat default)))) rfl rfl<|Rg_nil<|hK36 _ _ ⟨decide ((r_.variables.getD i_1.toNat default)≤(r_.variables.getD (IntKind.wrap .i64 (i_1 - 1)).toNat default)),_,rfl,Frm.of ⟨rfl,trivial⟩,ch43,hs18,hm⟩
 iterate 8 refine Rg_opx rfl (asB_ne rfl rfl) rfl ?_
 exact Rog rfl rfl<|op_pick_f (v:=Bo false) rfl rfl<|Pkf (Bo false) rfl rfl<|Rg_nil<|hK36 _ _ ⟨false,_,rfl,Frm.of ⟨rfl,trivial⟩,ch43,hs18,hm⟩
 refine Wp_exit<|Wp_seq<|Wp_seq<|Wp_region<|Asg (Iv 0) rfl<|Rg_nil<|Wp_block<|Wr [] [(2,Pt b1 0),(3,Pt b6 0),(7,Iv 0)] fun ξ55=>Wp_loopM q56_3 (fun m fr w'=>∃(i_2:Int) (Ebs:Ents),Ebs=[(some b6,Oc [Sl Ad r_.variables Cd,Sl Ae r_.places Ce] 34),(some b1,Oc [Sl Aa p.cells Ca,Sl Ab p.capacity Cb,Sl Ac p.variables Cc] 26)]∧fr [] [(7,Iv i_2)]∧hs18.S (ks Ebs O) w'∧St ⟨w,[],[]⟩ O w' Ebs∧InK .i64 i_2∧loop1 (m56_overflightref32_Valid_B1 p r_) m i_2=some x) (((r_.places.length:Int) - 0).toNat+1) ⟨0,_,rfl,Frm.of ⟨rfl,trivial⟩,Step.refl _ _,hs18,(show InK .i64 0 from by decide),hm⟩ ?_ ?_
 rintro _ _ ⟨_,_,_,_,_,_,_,hm⟩;exact loop1_z hm
 rintro m59 K58 hK58 ρ64 w60 ⟨i_2,_,rfl,hfr63,hst62,hs61,Rd,hm⟩
 obtain⟨sf56,hsf57,hm⟩:=loop1_s hm;unfold m56_overflightref32_Valid_B1 at hm
 rw [hfr63.eq];clear hfr63
 have ch65:=hst62
 refine Wp_seq<|Wp_seq<|Wp_region<|Mve (Iv i_2) rfl<|Rop<|op_fA 1 ty34 rfl ty32 rfl rfl<|Rop<|op_ld 0 ty32 hs61 rfl rfl rfl<|Rop<|op_len Try.underlying32 rfl ?_
 have p67:=(p24.trans hst62)
 replace Fe:=Fe.step p67
 have rl66:=inK_len Fe
 refine Rop<|op_lss rfl rfl<|Rg_nil<|Wp_condM hm rfl (fun hc68 hm=>?_) (fun hc68 hm=>?_)
 refine Wp_skip<|Wp_seq<|Wp_block<|Wp_seq<|Wp_region<|Rop<|op_fA 1 ty34 rfl ty32 rfl rfl<|Rop<|op_ld 0 ty32 hs61 rfl rfl rfl<|Mve (Iv i_2) rfl ?_
 obtain⟨hc69,hm⟩:=ck_some hm
 refine Rop<|op_indexAddr (q:=rXPlace) ty32 ty45 rfl rfl Fe rfl hc69.1 hc69.2 ?_
 intro p70 f71
 refine Rop<|op_loadPA ty45 rfl f71 rfl ?_
 intro vs72 h73
 obtain⟨_,_,rfl,⟨rfl,Re⟩,⟨rfl,Rf⟩⟩:=h73
 refine Rop<|op_alloc ty45 hs61 ?_
 intro b75 w76 _ p77 hs78
 clear hs61
 refine Rg_op_<|op_stA .z ty45 hs78 rfl rfl rfl rfl rfl ?_
 intro w80 p81 hs82
 clear hs78
 refine Rg_nil<|Wr2 q56_3 [] (updL ⟨ξ55,[]⟩ [(2,Pt b1 0),(3,Pt b6 0),(7,Iv 0)]) [(7,Iv i_2),(8,Pt b75 0)] fun ξ83=>?_
 obtain⟨k85,hk86,hm⟩:=jn_elim hm
 refine Wp_seqJ q56_2 (fun fr w'=>∃(v_2:Bool) (Ebs:Ents),Ebs=[(some b75,Oc [Iv ((r_.places.getD i_2.toNat default).leaf),Iv ((r_.places.getD i_2.toNat default).cell)] 45),(some b6,Oc [Sl Ad r_.variables Cd,Sl Ae r_.places Ce] 34),(some b1,Oc [Sl Aa p.cells Ca,Sl Ab p.capacity Cb,Sl Ac p.variables Cc] 26)]∧fr [] [(94,Bo v_2)]∧hs82.S (ks Ebs O) w'∧St ⟨w,[],[]⟩ O w' Ebs∧k85 v_2=some x) ?_ ?_
 rintro ρ92 w88 ⟨v_2,_,rfl,hfr91,hst90,hs89,hm⟩
 replace hm:=jnE1 hk86 hm
 rw [hfr91.eq];clear hfr91
 refine Wp_condM hm rfl (fun hc93 hm=>?_) (fun hc93 hm=>?_)
 refine Wp_seq ?_
 clear f71
 refine Wp_region<|Asg (Bo false) rfl<|Rg_nil<|Wp_ret<|⟨_,Clo,[Bo false],⟨rfl,trivial⟩,hs89.ext,?_⟩
 exact Vr.eq (a:=vB) (x:=false) rfl (oi hm)
 refine Wp_skip ?_
 clear f71
 refine Wp_region<|Mve (Iv i_2) rfl<|Rop<|op_addw rfl rfl<|Asg (Iv (IntKind.wrap .i64 (i_2+1))) rfl<|Rg_nil ?_
 have hs94:=hs89.drop 0
 have p95:=(hs89.dropS 0)
 clear hs89
 have p96:=(p77.trans (p81.trans (hst90.trans p95)))
 replace ch65:=ch65.trans p96
 exact hK58 _ _ ⟨(IntKind.wrap .i64 (i_2+1)),_,rfl,Frm.of ⟨rfl,trivial⟩,ch65,hs94,(inK_wrap .i64 _),jnE1 hsf57 hm⟩
 intro K87 hK87
 have ch97:=hs82.stepR
 clear f71
 refine Wp_drawR (g0:=[]) (m:=35) (fl:=[]) (TS_inv hs82) rfl (.inl rfl) rfl (by decide+kernel) ?_  -- 11
 refine Dw_p (Pt b75 0) (fun _ _ _ hi ht=>op_fA 0 ty45 rfl ty3 (ht 8 rfl) rfl<|Gz hi)<|Dw_p (Iv ((r_.places.getD i_2.toNat default).leaf)) (fun _ _ _ hi ht=>op_ld 0 ty3 (Step.nx hi).1 (ht 56 rfl) rfl rfl<|Gz hi)<|Dw_p (Bo (decide (((r_.places.getD i_2.toNat default).leaf)<0))) (fun _ _ _ hi ht=>op_lss (ht 57 rfl) rfl<|Gz hi)<|Dw_opB (decide (((r_.places.getD i_2.toNat default).leaf)<0)) (fun _ _ _ _ hi ht=>StepOp_plain<|op_move (v:=Bo (decide (((r_.places.getD i_2.toNat default).leaf)<0))) (ht 58 rfl)<|Gz hi) (fun hg110=>?_) (fun hg110=>?_)
 replace hm:=bif_t hm hg110
 iterate 6 refine Dw_sk rfl rfl (fun _ _ _ h=>h) rfl ?_
 refine Dw_p (Bo true) (fun _ _ _ hi ht=>op_pick_t (v:=Bo true) (ht 59 rfl) rfl<|Gz hi)<|Dw_p (Bo true) (fun _ _ _ hi ht=>op_move (v:=Bo true) (ht 66 rfl)<|Gz hi) ?_
 iterate 3 refine Dw_sk rfl rfl (fun _ _ _ h=>h) rfl ?_
 refine Dw_p (Bo true) (fun _ _ _ hi ht=>op_pick_t (v:=Bo true) (ht 67 rfl) rfl<|Gz hi)<|Dw_p (Bo true) (fun _ _ _ hi ht=>op_move (v:=Bo true) (ht 71 rfl)<|Gz hi) ?_
 iterate 6 refine Dw_sk rfl rfl (fun _ _ _ h=>h) rfl ?_
 refine Dw_p (Bo true) (fun _ _ _ hi ht=>op_pick_t (v:=Bo true) (ht 72 rfl) rfl<|Gz hi)<|Dw_p (Bo true) (fun _ _ _ hi ht=>op_move (v:=Bo true) (ht 79 rfl)<|Gz hi) ?_
 iterate 10 refine Dw_sk rfl rfl (fun _ _ _ h=>h) rfl ?_
 refine Dw_nil fun w133 g134 hl135 hi136=>?_
 obtain⟨-,hst137,-⟩:=hl135
 obtain⟨hs139,p138⟩:=Step.nx hi136
 rintro _ rfl _ rfl _ rfl _ rfl _ rfl _ rfl _ rfl _ rfl _ rfl _ rfl _ rfl _ rfl _ rfl _ rfl _ rfl _ rfl _ rfl _ rfl _ rfl _ rfl _ rfl _ rfl _ rfl _ rfl _ rfl _ rfl _ rfl _ rfl _ rfl _ rfl _ rfl _ rfl _ rfl _ rfl _ rfl
 have p140:=hs82.to hs139 (hst137.trans p138)
 iterate 3 refine Rg_opx rfl (asB_ne rfl rfl) rfl ?_
 refine Pkt (Bo true) rfl rfl<|Rg_nil ?_
 replace ch97:=ch97.trans p140
 exact hK87 _ _ ⟨true,_,rfl,Frm.of ⟨rfl,trivial⟩,ch97,hs139,hm⟩
 replace hm:=bif_f hm hg110
 refine Dw_g (Pt b75 0) rfl rfl (fun _ _ _ h=>h) (fun _ _ _ hi ht=>op_fA 0 ty45 rfl ty3 (ht 8 rfl) rfl<|Gz hi)<|Dw_g (Iv ((r_.places.getD i_2.toNat default).leaf)) rfl rfl (fun _ _ _ h=>h) (fun _ _ _ hi ht=>op_ld 0 ty3 (Step.nx hi).1 (ht 60 rfl) rfl rfl<|Gz hi)<|Dw_g (Pt b1 1) rfl rfl (fun _ _ _ h=>h) (fun _ _ _ hi ht=>op_fA 1 ty26 rfl ty23 (ht 2 rfl) rfl<|Gz hi)<|Dw_g (Sl Ab p.capacity Cb) rfl rfl (fun _ _ _ h=>h) (fun _ _ _ hi ht=>op_ld 2 ty23 (Step.nx hi).1 (ht 62 rfl) rfl rfl<|Gz hi)<|Dw_g (Iv (p.capacity.length:Int)) rfl rfl (fun _ _ _ h=>h) (fun _ _ _ hi ht=>op_len Try.underlying23 (ht 63 rfl)<|Gz hi)<|Dw_g (Bo (decide ((p.capacity.length:Int)≤((r_.places.getD i_2.toNat default).leaf)))) rfl rfl (fun _ _ _ h=>h) (fun _ _ _ hi ht=>op_geq (ht 61 rfl) (ht 64 rfl)<|Gz hi)<|Dw_p (Bo (decide ((p.capacity.length:Int)≤((r_.places.getD i_2.toNat default).leaf)))) (fun _ _ _ hi ht=>op_pick_f (v:=Bo (decide ((p.capacity.length:Int)≤((r_.places.getD i_2.toNat default).leaf)))) (ht 59 rfl) (ht 65 rfl)<|Gz hi)<|Dw_opB (decide ((p.capacity.length:Int)≤((r_.places.getD i_2.toNat default).leaf))) (fun _ _ _ _ hi ht=>StepOp_plain<|op_move (v:=Bo (decide ((p.capacity.length:Int)≤((r_.places.getD i_2.toNat default).leaf)))) (ht 66 rfl)<|Gz hi) (fun hg165=>?_) (fun hg165=>?_)
 replace hm:=bif_t hm hg165
 iterate 3 refine Dw_sk rfl rfl (fun _ _ _ h=>h) rfl ?_
 refine Dw_p (Bo true) (fun _ _ _ hi ht=>op_pick_t (v:=Bo true) (ht 67 rfl) rfl<|Gz hi)<|Dw_p (Bo true) (fun _ _ _ hi ht=>op_move (v:=Bo true) (ht 71 rfl)<|Gz hi) ?_
 iterate 6 refine Dw_sk rfl rfl (fun _ _ _ h=>h) rfl ?_
 refine Dw_p (Bo true) (fun _ _ _ hi ht=>op_pick_t (v:=Bo true) (ht 72 rfl) rfl<|Gz hi)<|Dw_p (Bo true) (fun _ _ _ hi ht=>op_move (v:=Bo true) (ht 79 rfl)<|Gz hi) ?_
 iterate 10 refine Dw_sk rfl rfl (fun _ _ _ h=>h) rfl ?_
 refine Dw_nil fun w182 g183 hl184 hi185=>?_
 obtain⟨-,hst186,-⟩:=hl184
 obtain⟨hs188,p187⟩:=Step.nx hi185
 rintro _ rfl _ rfl _ rfl _ rfl _ rfl _ rfl _ rfl _ rfl _ rfl _ rfl _ rfl _ rfl _ rfl _ rfl _ rfl _ rfl _ rfl _ rfl _ rfl _ rfl _ rfl _ rfl _ rfl _ rfl _ rfl _ rfl _ rfl _ rfl _ rfl _ rfl _ rfl _ rfl _ rfl _ rfl _ rfl
 have p189:=hs82.to hs188 (hst186.trans p187)
 iterate 3 refine Rg_opx rfl (asB_ne rfl rfl) rfl ?_
 refine Pkt (Bo true) rfl rfl<|Rg_nil ?_
 replace ch97:=ch97.trans p189
 exact hK87 _ _ ⟨true,_,rfl,Frm.of ⟨rfl,trivial⟩,ch97,hs188,hm⟩
 replace hm:=bif_f hm hg165
 refine Dw_g (Pt b75 1) rfl rfl (fun _ _ _ h=>h) (fun _ _ _ hi ht=>op_fA 1 ty45 rfl ty3 (ht 8 rfl) rfl<|Gz hi)<|Dw_g (Iv ((r_.places.getD i_2.toNat default).cell)) rfl rfl (fun _ _ _ h=>h) (fun _ _ _ hi ht=>op_ld 0 ty3 (Step.nx hi).1 (ht 68 rfl) rfl rfl<|Gz hi)<|Dw_g (Bo (decide (((r_.places.getD i_2.toNat default).cell)<0))) rfl rfl (fun _ _ _ h=>h) (fun _ _ _ hi ht=>op_lss (ht 69 rfl) rfl<|Gz hi)<|Dw_p (Bo (decide (((r_.places.getD i_2.toNat default).cell)<0))) (fun _ _ _ hi ht=>op_pick_f (v:=Bo (decide (((r_.places.getD i_2.toNat default).cell)<0))) (ht 67 rfl) (ht 70 rfl)<|Gz hi)<|Dw_opB (decide (((r_.places.getD i_2.toNat default).cell)<0)) (fun _ _ _ _ hi ht=>StepOp_plain<|op_move (v:=Bo (decide (((r_.places.getD i_2.toNat default).cell)<0))) (ht 71 rfl)<|Gz hi) (fun hg205=>?_) (fun hg205=>?_)
 replace hm:=bif_t hm hg205
 iterate 6 refine Dw_sk rfl rfl (fun _ _ _ h=>h) rfl ?_
 refine Dw_p (Bo true) (fun _ _ _ hi ht=>op_pick_t (v:=Bo true) (ht 72 rfl) rfl<|Gz hi)<|Dw_p (Bo true) (fun _ _ _ hi ht=>op_move (v:=Bo true) (ht 79 rfl)<|Gz hi) ?_
 iterate 10 refine Dw_sk rfl rfl (fun _ _ _ h=>h) rfl ?_
 refine Dw_nil fun w216 g217 hl218 hi219=>?_
 obtain⟨-,hst220,-⟩:=hl218
 obtain⟨hs222,p221⟩:=Step.nx hi219
 rintro _ rfl _ rfl _ rfl _ rfl _ rfl _ rfl _ rfl _ rfl _ rfl _ rfl _ rfl _ rfl _ rfl _ rfl _ rfl _ rfl _ rfl _ rfl _ rfl _ rfl _ rfl _ rfl _ rfl _ rfl _ rfl _ rfl _ rfl _ rfl _ rfl _ rfl _ rfl _ rfl _ rfl _ rfl _ rfl
 have p223:=hs82.to hs222 (hst220.trans p221)
 iterate 3 refine Rg_opx rfl (asB_ne rfl rfl) rfl ?_
 refine Pkt (Bo true) rfl rfl<|Rg_nil ?_
 replace ch97:=ch97.trans p223
 exact hK87 _ _ ⟨true,_,rfl,Frm.of ⟨rfl,trivial⟩,ch97,hs222,hm⟩
 replace hm:=bif_f hm hg205
 refine Dw_g (Pt b75 1) rfl rfl (fun _ _ _ h=>h) (fun _ _ _ hi ht=>op_fA 1 ty45 rfl ty3 (ht 8 rfl) rfl<|Gz hi)<|Dw_g (Iv ((r_.places.getD i_2.toNat default).cell)) rfl rfl (fun _ _ _ h=>h) (fun _ _ _ hi ht=>op_ld 0 ty3 (Step.nx hi).1 (ht 73 rfl) rfl rfl<|Gz hi)<|Dw_g (Pt b1 0) rfl rfl (fun _ _ _ h=>h) (fun _ _ _ hi ht=>op_fA 0 ty26 rfl ty22 (ht 2 rfl) rfl<|Gz hi)<|Dw_g (Sl Aa p.cells Ca) rfl rfl (fun _ _ _ h=>h) (fun _ _ _ hi ht=>op_ld 2 ty22 (Step.nx hi).1 (ht 75 rfl) rfl rfl<|Gz hi)<|Dw_g (Iv (p.cells.length:Int)) rfl rfl (fun _ _ _ h=>h) (fun _ _ _ hi ht=>op_len Try.underlying22 (ht 76 rfl)<|Gz hi)<|Dw_g (Bo (decide ((p.cells.length:Int)≤((r_.places.getD i_2.toNat default).cell)))) rfl rfl (fun _ _ _ h=>h) (fun _ _ _ hi ht=>op_geq (ht 74 rfl) (ht 77 rfl)<|Gz hi)<|Dw_p (Bo (decide ((p.cells.length:Int)≤((r_.places.getD i_2.toNat default).cell)))) (fun _ _ _ hi ht=>op_pick_f (v:=Bo (decide ((p.cells.length:Int)≤((r_.places.getD i_2.toNat default).cell)))) (ht 72 rfl) (ht 78 rfl)<|Gz hi)<|Dw_opB (decide ((p.cells.length:Int)≤((r_.places.getD i_2.toNat default).cell))) (fun _ _ _ _ hi ht=>StepOp_plain<|op_move (v:=Bo (decide ((p.cells.length:Int)≤((r_.places.getD i_2.toNat default).cell)))) (ht 79 rfl)<|Gz hi) (fun hg248=>?_) (fun hg248=>?_)
 replace hm:=bif_t hm hg248
 iterate 10 refine Dw_sk rfl rfl (fun _ _ _ h=>h) rfl ?_
 refine Dw_nil fun w253 g254 hl255 hi256=>?_
 obtain⟨-,hst257,-⟩:=hl255
 obtain⟨hs259,p258⟩:=Step.nx hi256
 rintro _ rfl _ rfl _ rfl _ rfl _ rfl _ rfl _ rfl _ rfl _ rfl _ rfl _ rfl _ rfl _ rfl _ rfl _ rfl _ rfl _ rfl _ rfl _ rfl _ rfl _ rfl _ rfl _ rfl _ rfl _ rfl _ rfl _ rfl _ rfl _ rfl _ rfl _ rfl _ rfl _ rfl _ rfl _ rfl
 have p260:=hs82.to hs259 (hst257.trans p258)
 iterate 3 refine Rg_opx rfl (asB_ne rfl rfl) rfl ?_
 refine Pkt (Bo true) rfl rfl<|Rg_nil ?_
 replace ch97:=ch97.trans p260
 exact hK87 _ _ ⟨true,_,rfl,Frm.of ⟨rfl,trivial⟩,ch97,hs259,hm⟩
 replace hm:=bif_f hm hg248
 refine Dw_g (Iv i_2) rfl rfl (fun _ _ _ h=>h) (fun _ _ _ hi ht=>op_move (v:=Iv i_2) (ht 7 rfl)<|Gz hi)<|Dw_g (Bo (decide (0<i_2))) rfl rfl (fun _ _ _ h=>h) (fun _ _ _ hi ht=>op_gtr (ht 81 rfl) rfl<|Gz hi)<|Dw_opB (decide (0<i_2)) (fun _ _ _ _ hi ht=>StepOp_g rfl (ht 80 rfl)<|op_move (v:=Bo (decide (0<i_2))) (ht 82 rfl)<|Gz hi) (fun hg270=>?_) (fun hg270=>?_)
 replace hm:=bif_t hm hg270
 refine Dw_g (Pt b6 1) rfl rfl (fun _ _ _ h=>h) (fun _ _ _ hi ht=>op_fA 1 ty34 rfl ty32 (ht 3 rfl) rfl<|Gz hi)<|Dw_g (Sl Ae r_.places Ce) rfl rfl (fun _ _ _ h=>h) (fun _ _ _ hi ht=>op_ld 1 ty32 (Step.nx hi).1 (ht 84 rfl) rfl rfl<|Gz hi)<|Dw_g (Iv i_2) rfl rfl (fun _ _ _ h=>h) (fun _ _ _ hi ht=>op_move (v:=Iv i_2) (ht 7 rfl)<|Gz hi)<|Dw_g (Iv (IntKind.wrap .i64 (i_2 - 1))) rfl rfl (fun _ _ _ h=>h) (fun _ _ _ hi ht=>op_subw (ht 86 rfl) rfl<|Gz hi) ?_
 obtain⟨hc286,hm⟩:=ck_some hm
 have p289:=(p77.trans p81)
 replace Fe:=Fe.step p289
 refine Dw_op (VP _ _ rXPlace (r_.places.getD (IntKind.wrap .i64 (i_2 - 1)).toNat default)) (VP.stab _ _) (fun ρ283 w284 g hle hi ht=>?_) ?_
 obtain⟨-,hst,-⟩:=hle
 replace Fe:=Fe.step hst
 refine StepOp_g rfl (ht 83 rfl)<|op_indexAddr (q:=rXPlace) ty32 ty45 (ht 85 rfl) (ht 87 rfl) Fe rfl hc286.1 hc286.2 ?_
 intro p287 f288
 exact Goes.same hi ⟨_,rfl,f288⟩
 refine Dw_op (VD _ _ (vA rXPlace) (r_.places.getD (IntKind.wrap .i64 (i_2 - 1)).toNat default)) (VD.stab _ _) (fun ρ290 w291 g hle hi ht=>?_) ?_
 obtain⟨p293,q294,f295⟩:=ht 88 rfl
 refine StepOp_g rfl (ht 83 rfl)<|op_loadPA ty45 q294 f295 rfl ?_
 intro vs296 h297
 obtain⟨_,_,rfl,⟨rfl,Rg⟩,⟨rfl,Rh⟩⟩:=h297
 exact Goes.same hi (show Vr.vd (vA rXPlace) _ _ _ _ from(mkA (mkVia (mk_pair (mk_int Rg) (mk_int Rh)))))
 refine Dw_g (Value.agg [Iv ((r_.places.getD i_2.toNat default).leaf),Iv ((r_.places.getD i_2.toNat default).cell)].toArray) rfl rfl (fun _ _ _ h=>h) (fun _ _ _ hi ht=>op_ldA 0 ty45 (Step.nx hi).1 (ht 8 rfl) rfl rfl<|Gz hi)<|Dw_nil fun w306 g307 hl308 hi309=>?_
 obtain⟨-,hst310,-⟩:=hl308
 obtain⟨hs312,p311⟩:=Step.nx hi309
 rintro _ rfl v313 h314
 replace h314:Vr.vd (vA rXPlace) _ _ _ _:=h314
 obtain⟨_,rfl,⟨_,_,rfl,⟨rfl,Ri⟩,⟨rfl,Rj⟩⟩⟩:=h314
 rintro _ ⟨p316,rfl,f317⟩ _ rfl _ rfl _ rfl _ rfl _ rfl _ rfl _ rfl _ rfl _ rfl _ rfl _ rfl _ rfl _ rfl _ rfl _ rfl _ rfl _ rfl _ rfl _ rfl _ rfl _ rfl _ rfl _ rfl _ rfl _ rfl _ rfl _ rfl _ rfl _ rfl _ rfl _ rfl _ rfl
 have p318:=hs82.to hs312 (hst310.trans p311)
 replace f317:=f317.step p311
 obtain⟨before_1,hv319,hm⟩:=bd hm
 refine Rog rfl rfl<|op_callE hs312 Try.call63 (c63_overflightref32_Before (a:=r_.places.getD (IntKind.wrap .i64 (i_2 - 1)).toNat default) (b:=r_.places.getD i_2.toNat default) hs312.ltw Ri Rj Re Rf hv319) rfl ?_
 rintro v320 w321 p325 hs324 h323
 clear hs312
 obtain rfl:=h323
 refine Rog rfl rfl<|op_not rfl<|Rog rfl rfl<|op_pick_t (v:=Bo (!before_1)) rfl rfl<|Pkf (Bo (!before_1)) rfl rfl<|Rg_nil ?_
 have p327:=(p318.trans p325)
 replace ch97:=ch97.trans p327
 exact hK87 _ _ ⟨!before_1,_,rfl,Frm.of ⟨rfl,trivial⟩,ch97,hs324,hm⟩
 replace hm:=bif_f hm hg270
 iterate 7 refine Dw_sk rfl rfl (fun _ _ _ h=>h) rfl ?_
 refine Dw_nil fun w332 g333 hl334 hi335=>?_
 obtain⟨-,hst336,-⟩:=hl334
 obtain⟨hs338,p337⟩:=Step.nx hi335
 rintro _ rfl _ rfl _ rfl _ rfl _ rfl _ rfl _ rfl _ rfl _ rfl _ rfl _ rfl _ rfl _ rfl _ rfl _ rfl _ rfl _ rfl _ rfl _ rfl _ rfl _ rfl _ rfl _ rfl _ rfl _ rfl _ rfl _ rfl _ rfl _ rfl _ rfl _ rfl _ rfl _ rfl _ rfl _ rfl
 have p339:=hs82.to hs338 (hst336.trans p337)
 refine Rg_opx rfl (asB_ne rfl rfl) rfl<|Rg_opx rfl (asB_ne rfl rfl) rfl<|Rog rfl rfl<|op_pick_f (v:=Bo false) rfl rfl<|Pkf (Bo false) rfl rfl<|Rg_nil ?_
 replace ch97:=ch97.trans p339
 exact hK87 _ _ ⟨false,_,rfl,Frm.of ⟨rfl,trivial⟩,ch97,hs338,hm⟩
 refine Wp_exit<|Wp_seq ?_
 obtain⟨hs340,p341⟩:=hs61.sub (bs':=[]) (.cons _ (.cons _ List.Sublist.slnil))
 clear Fa Fb Fc Fd Fe
 clear hs61
 refine Wp_region<|Asg (Bo true) rfl<|Rg_nil<|Wp_ret<|⟨_,Clo,[Bo true],⟨rfl,trivial⟩,hs340.ext,?_⟩
 exact Vr.eq (a:=vB) (x:=true) rfl (oi hm)

def m24_overflightref32_Check (p:XProblem) (r_:XReason):Option Int:=
 (m31_overflightref27_Check p).bind fun check_1=>
 bif (decide (check_1≠0)) then
  some check_1
 else
  (m56_overflightref32_Valid p r_).bind fun valid_1=>
  bif (!valid_1) then
   some 320
  else
   some 0

theorem c24_overflightref32_Check {w:World} {O:List Nat} {p:XProblem} {r_:XReason} {Aa:Option Addr} {Ca:Nat} {Ab:Option Addr} {Cb:Nat} {Ac:Option Addr} {Cc:Nat} {Ad:Option Addr} {Cd:Nat} {Ae:Option Addr} {Ce:Nat} (hO:∀k∈O,k<w.heap.size) (Fa:SlR rXCell w O Aa Ca p.cells) (Fb:SlR (rSl (rInt .i64)) w O Ab Cb p.capacity) (Fc:SlR rXVariable w O Ac Cc p.variables) (Fd:SlR (rInt .i64) w O Ad Cd r_.variables) (Fe:SlR rXPlace w O Ae Ce r_.places) {x:Int} (hm:m24_overflightref32_Check p r_=some x):
 Ok Try.prog 24 [Value.agg [Sl Aa p.cells Ca,Sl Ab p.capacity Cb,Sl Ac p.variables Cc].toArray,Value.agg [Sl Ad r_.variables Cd,Sl Ae r_.places Ce].toArray] w O (vI .i64) x:=by
 unfold m24_overflightref32_Check at hm
 refine Fn_of_Wp (n:=15) (xs:=[.tmp 4]) Try.func24 rfl Try.ntmps24 Try.results24 rfl ?_
 have hs:=St.start hO
 refine Wp_seq<|Wp_region<|Rop<|op_box (cs:=[Sl Aa p.cells Ca,Sl Ab p.capacity Cb,Sl Ac p.variables Cc]) hs rfl rfl ?_
 intro b1 w2 _ p3 hs4
 refine Rop<|op_box (cs:=[Sl Ad r_.variables Cd,Sl Ae r_.places Ce]) hs4 rfl rfl ?_
 intro b6 w7 _ p8 hs9
 clear hs4
 refine Asg (Iv 0) rfl<|Rg_nil<|Wp_seq<|Wp_region<|Rop<|op_ldA 1 ty26 hs9 rfl rfl rfl ?_
 obtain⟨check_1,hv11,hm⟩:=bd hm
 have p17:=(p3.trans p8)
 replace Fb:=Fb.step p17;replace Fa:=Fa.step p17;replace Fc:=Fc.step p17
 refine Rop<|op_callE hs9 Try.call31 (c31_overflightref27_Check (p:=p) hs9.ltw Fa Fb Fc hv11) rfl ?_
 rintro v12 w13 p18 hs16 h15
 clear hs9
 obtain⟨rfl,Ra⟩:=h15
 refine Asg (Iv check_1) rfl<|Rg_nil<|Wp_seq<|Wp_seq<|Wp_region<|Mve (Iv check_1) rfl<|Rop<|op_neq rfl rfl<|Rg_nil<|Wp_condM hm rfl (fun hc20 hm=>?_) (fun hc20 hm=>?_)
 refine Wp_seq ?_
 obtain⟨hs21,p22⟩:=hs16.sub (bs':=[]) (.cons _ (.cons _ List.Sublist.slnil))
 clear Fa Fb Fc Fd Fe
 clear hs16
 refine Wp_region<|Mve (Iv check_1) rfl<|Asg (Iv check_1) rfl<|Rg_nil<|Wp_ret<|⟨_,Clo,[Iv check_1],⟨rfl,trivial⟩,hs21.ext,?_⟩
 exact Vr.eq (a:=(vI .i64)) (x:=check_1) ⟨rfl,Ra⟩ (oi hm)
 refine Wp_skip<|Wp_seq<|Wp_seq<|Wp_region<|Rop<|op_ldA 1 ty26 hs16 rfl rfl rfl<|Rop<|op_ldA 0 ty34 hs16 rfl rfl rfl ?_
 obtain⟨valid_1,hv23,hm⟩:=bd hm
 replace Fb:=Fb.step p18;replace Fa:=Fa.step p18;replace Fc:=Fc.step p18
 have p29:=(p17.trans p18)
 replace Fe:=Fe.step p29;replace Fd:=Fd.step p29
 refine Rop<|op_callE hs16 Try.call56 (c56_overflightref32_Valid (p:=p) (r_:=r_) hs16.ltw Fa Fb Fc Fd Fe hv23) rfl ?_
 rintro v24 w25 p30 hs28 h27
 clear hs16
 obtain rfl:=h27
 refine Rop<|op_not rfl<|Rg_nil<|Wp_condM hm rfl (fun hc32 hm=>?_) (fun hc32 hm=>?_)
 refine Wp_seq ?_
 obtain⟨hs33,p34⟩:=hs28.sub (bs':=[]) (.cons _ (.cons _ List.Sublist.slnil))
 clear Fa Fb Fc Fd Fe
 clear hs28
 refine Wp_region<|Asg (Iv 320) rfl<|Rg_nil<|Wp_ret<|⟨_,Clo,[Iv 320],⟨rfl,trivial⟩,hs33.ext,?_⟩
 exact Vr.eq (a:=(vI .i64)) (x:=320) ⟨rfl,(show InK .i64 320 from by decide)⟩ (oi hm)
 refine Wp_skip<|Wp_seq ?_
 obtain⟨hs35,p36⟩:=hs28.sub (bs':=[]) (.cons _ (.cons _ List.Sublist.slnil))
 clear Fa Fb Fc Fd Fe
 clear hs28
 refine Wp_region<|Asg (Iv 0) rfl<|Rg_nil<|Wp_ret<|⟨_,Clo,[Iv 0],⟨rfl,trivial⟩,hs35.ext,?_⟩
 exact Vr.eq (a:=(vI .i64)) (x:=0) ⟨rfl,(show InK .i64 0 from by decide)⟩ (oi hm)

abbrev q21_3:List Nat:=[13,78,79,80,81,82,83,84,85,86,87,88,89,90,91,92,93,94,95,96,97,98]

abbrev q21_2:List Nat:=[11,12,47,48,49,50,51,52,53,54,55,56,57,58,59,60,61,62,63,64,65,66,67,68,69,70,71,72,73,74,75,76,77]

abbrev q21_0:List Nat:=[9,10,31,32,33,34,35,36,37,38,39,40]

abbrev q21_1:List Nat:=[8,9,10,24,25,26,27,28,29,30,31,32,33,34,35,36,37,38,39,40,41,42,43,44,45,46]

def m21_overflightref32_Part_B1 (p:XProblem) (leaf_1:Int) (rows_1:List (List Int)) (sf43:Int→(List (List Int))→Option (XProblem × Int)) (sf62:(List Int)→Int→Option (XProblem × Int)) (l_1:List Int) (c_1:Int):Option (XProblem × Int):=
 bif (decide (c_1<(p.cells.length:Int))) then
  ck ((l_1.length+[4096].length)*8≤140737488355328)<|
  sf62 (l_1++[4096]) (IntKind.wrap .i64 (c_1+1))
 else
  ck ((rows_1.length+1)*24≤140737488355328)<|
  sf43 (IntKind.wrap .i64 (leaf_1+1)) (rows_1++[l_1])

def m21_overflightref32_Part_B3 (p:XProblem) (r_:XReason) (rows_2:List (List Int)) (sf286:Int→(List XVariable)→Option (XProblem × Int)) (i_2:Int) (v_1:List XVariable):Option (XProblem × Int):=
 bif (decide (i_2<(r_.variables.length:Int))) then
  ck ((0:Int)≤i_2∧i_2<(r_.variables.length:Int))<|
  ck ((0:Int)≤(r_.variables.getD i_2.toNat default)∧(r_.variables.getD i_2.toNat default)<(p.variables.length:Int))<|
  ck ((v_1.length+[p.variables.getD (r_.variables.getD i_2.toNat default).toNat default].length)*64≤140737488355328)<|
  sf286 (IntKind.wrap .i64 (i_2+1)) (v_1++[p.variables.getD (r_.variables.getD i_2.toNat default).toNat default])
 else
  some ((⟨p.cells,rows_2,v_1⟩:XProblem),0)

def m21_overflightref32_Part_B2 (p:XProblem) (r_:XReason) (sf133:Int→(List (List Int))→Option (XProblem × Int)) (i_1:Int) (rows_2:List (List Int)):Option (XProblem × Int):=
 bif (decide (i_1<(r_.places.length:Int))) then
  ck ((0:Int)≤i_1∧i_1<(r_.places.length:Int))<|
  ck ((0:Int)≤((r_.places.getD i_1.toNat default).leaf)∧((r_.places.getD i_1.toNat default).leaf)<(rows_2.length:Int))<|
  ck ((0:Int)≤((r_.places.getD i_1.toNat default).leaf)∧((r_.places.getD i_1.toNat default).leaf)<(p.capacity.length:Int))<|
  ck ((0:Int)≤((r_.places.getD i_1.toNat default).cell)∧((r_.places.getD i_1.toNat default).cell)<((p.capacity.getD ((r_.places.getD i_1.toNat default).leaf).toNat default).length:Int))<|
  ck ((0:Int)≤((r_.places.getD i_1.toNat default).cell)∧((r_.places.getD i_1.toNat default).cell)<((rows_2.getD ((r_.places.getD i_1.toNat default).leaf).toNat default).length:Int))<|
  sf133 (IntKind.wrap .i64 (i_1+1)) (rows_2.set ((r_.places.getD i_1.toNat default).leaf).toNat ((rows_2.getD ((r_.places.getD i_1.toNat default).leaf).toNat default).set ((r_.places.getD i_1.toNat default).cell).toNat ((p.capacity.getD ((r_.places.getD i_1.toNat default).leaf).toNat default).getD ((r_.places.getD i_1.toNat default).cell).toNat default)))
 else
  loop2 (m21_overflightref32_Part_B3 p r_ rows_2) (((r_.variables.length:Int) - 0).toNat+1) 0 ([]:List XVariable)

def m21_overflightref32_Part_B0 (p:XProblem) (r_:XReason) (sf43:Int→(List (List Int))→Option (XProblem × Int)) (leaf_1:Int) (rows_1:List (List Int)):Option (XProblem × Int):=
 bif (decide (leaf_1<(p.capacity.length:Int))) then
  loop2 (m21_overflightref32_Part_B1 p leaf_1 rows_1 sf43) (((p.cells.length:Int) - 0).toNat+1) ([]:List Int) 0
 else
  loop2 (m21_overflightref32_Part_B2 p r_) (((r_.places.length:Int) - 0).toNat+1) 0 rows_1

def m21_overflightref32_Part (p:XProblem) (r_:XReason):Option (XProblem × Int):=
 (m24_overflightref32_Check p r_).bind fun check_1=>
 bif (decide (check_1≠0)) then
  some ((⟨([]:List XCell),([]:List (List Int)),([]:List XVariable)⟩:XProblem),check_1)
 else
  loop2 (m21_overflightref32_Part_B0 p r_) (((p.capacity.length:Int) - 0).toNat+1) 0 ([]:List (List Int))

theorem c21_overflightref32_Part {w:World} {O:List Nat} {p:XProblem} {r_:XReason} {Aa:Option Addr} {Ca:Nat} {Ab:Option Addr} {Cb:Nat} {Ac:Option Addr} {Cc:Nat} {Ad:Option Addr} {Cd:Nat} {Ae:Option Addr} {Ce:Nat} (hO:∀k∈O,k<w.heap.size) (Fa:SlR rXCell w O Aa Ca p.cells) (Fb:SlR (rSl (rInt .i64)) w O Ab Cb p.capacity) (Fc:SlR rXVariable w O Ac Cc p.variables) (Fd:SlR (rInt .i64) w O Ad Cd r_.variables) (Fe:SlR rXPlace w O Ae Ce r_.places) {x:XProblem × Int} (hm:m21_overflightref32_Part p r_=some x):
 Ok Try.prog 21 [Value.agg [Sl Aa p.cells Ca,Sl Ab p.capacity Cb,Sl Ac p.variables Cc].toArray,Value.agg [Sl Ad r_.variables Cd,Sl Ae r_.places Ce].toArray] w O (vT2 (vA rXProblem) (vI .i64)) x:=by
 unfold m21_overflightref32_Part at hm
 refine Fn_of_Wp (n:=100) (xs:=[.cell 4 26,.tmp 5]) Try.func21 rfl Try.ntmps21 Try.results21 rfl ?_
 have hs:=St.start hO
 refine Wp_seq<|Wp_region<|Rop<|op_box (cs:=[Sl Aa p.cells Ca,Sl Ab p.capacity Cb,Sl Ac p.variables Cc]) hs rfl rfl ?_
 intro b1 w2 _ p3 hs4
 refine Rop<|op_box (cs:=[Sl Ad r_.variables Cd,Sl Ae r_.places Ce]) hs4 rfl rfl ?_
 intro b6 w7 _ p8 hs9
 clear hs4
 refine Rop<|op_alloc ty26 hs9 ?_
 intro b11 w12 _ p13 hs14
 clear hs9
 refine Asg (Iv 0) rfl<|Rg_nil<|Wp_seq<|Wp_region<|Rop<|op_ldA 2 ty26 hs14 rfl rfl rfl<|Rop<|op_ldA 1 ty34 hs14 rfl rfl rfl ?_
 obtain⟨check_1,hv16,hm⟩:=bd hm
 have p22:=(p3.trans (p8.trans p13))
 replace Fb:=Fb.step p22;replace Fa:=Fa.step p22;replace Fc:=Fc.step p22;replace Fe:=Fe.step p22;replace Fd:=Fd.step p22
 refine Rop<|op_callE hs14 Try.call24 (c24_overflightref32_Check (p:=p) (r_:=r_) hs14.ltw Fa Fb Fc Fd Fe hv16) rfl ?_
 rintro v17 w18 p23 hs21 h20
 clear hs14
 obtain⟨rfl,Ra⟩:=h20
 refine Asg (Iv check_1) rfl<|Rg_nil<|Wp_seq<|Wp_seq<|Wp_region<|Mve (Iv check_1) rfl<|Rop<|op_neq rfl rfl<|Rg_nil<|Wp_condM hm rfl (fun hc25 hm=>?_) (fun hc25 hm=>?_)
 refine Wp_seq ?_
 obtain⟨hs26,p27⟩:=hs21.sub (bs':=(some b11,Oc [Value.slice none 0 0,Value.slice none 0 0,Value.slice none 0 0] 26)::([]:Ents)) (.cons_cons _ (.cons _ (.cons _ (List.Sublist.refl _))))
 clear Fa Fb Fc Fd Fe
 clear hs21
 refine Wp_region<|Rop<|op_build (vs:=[Value.slice none 0 0,Value.slice none 0 0,Value.slice none 0 0]) (parts:=[]) ty26 pl26 rfl<|Mve (Iv check_1) rfl<|Rg_op_<|op_stA .z ty26 hs26 rfl rfl rfl rfl rfl ?_
 intro w28 p29 hs30
 clear hs26
 refine Asg (Iv check_1) rfl<|Rg_nil<|Wp_ret<|⟨_,Clo,[Value.agg [Value.slice none 0 0,Value.slice none 0 0,Value.slice none 0 0].toArray,Iv check_1],⟨resA (cs:=[Value.slice none 0 0,Value.slice none 0 0,Value.slice none 0 0]) (vs:=[Value.slice none 0 0,Value.slice none 0 0,Value.slice none 0 0]) ty26 (i:=0) hs30 rfl rfl rfl rfl,rfl,trivial⟩,hs30.ext,?_⟩
 exact Vr.eq (a:=vT2 (vA rXProblem) (vI .i64)) (x:=((⟨([]:List XCell),([]:List (List Int)),([]:List XVariable)⟩:XProblem),check_1)) (mkT2 (mkA (mkVia (mk_pair (mk_sl SlR.nil_) (mk_pair (mk_sl SlR.nil_) (mk_sl SlR.nil_))))) ⟨rfl,Ra⟩) (oi hm)
 refine Wp_skip<|Wp_seq<|Wp_region<|Rop<|op_fA 0 ty26 rfl ty22 rfl rfl<|Rop<|op_ld 2 ty22 hs21 rfl rfl rfl<|Rop<|op_build (vs:=[Sl Aa p.cells Ca,Value.slice none 0 0,Value.slice none 0 0]) (parts:=[(0,.tmp 22)]) ty26 pl26 rfl<|Rop<|op_alloc ty26 hs21 ?_
 intro b31 w32 _ p33 hs34
 clear hs21
 refine Rg_op_<|op_stA .z ty26 hs34 rfl rfl rfl rfl rfl ?_
 intro w36 p37 hs38
 clear hs34
 refine Rg_nil<|Wp_seq<|Wp_seq<|Wp_region<|Asg (Iv 0) rfl<|Rg_nil<|Wp_block<|Wr [] [(2,Pt b1 0),(3,Pt b6 0),(4,Pt b11 0),(7,Pt b31 0),(8,Iv 0)] fun ξ42=>?_
 have hs47:=hs38.ghost (Obj.cells #[] 31)
 refine Wp_loopM q21_1 (fun m fr w'=>∃(leaf_1:Int) (rows_1:List (List Int)) (Af:Option Addr) (Cf:Nat) (k_g41:Option Nat) (o_g41:Obj) (hds_g41:List Hd) (R_g41:Ents) (Ebs:Ents),Ebs=((k_g41,o_g41)::(some b31,Oc [Sl Aa p.cells Ca,Value.slice Af hds_g41.length Cf,Value.slice none 0 0] 26)::(some b11,Oc [Value.slice none 0 0,Value.slice none 0 0,Value.slice none 0 0] 26)::(some b6,Oc [Sl Ad r_.variables Cd,Sl Ae r_.places Ce] 34)::(some b1,Oc [Sl Aa p.cells Ca,Sl Ab p.capacity Cb,Sl Ac p.variables Cc] 26)::R_g41)∧fr [] [(8,Iv leaf_1)]∧hs47.S (ks Ebs O) w'∧St ⟨w,[],[]⟩ O w' Ebs∧InK .i64 leaf_1∧Gs rHd 31 w' (ks Ebs O) Af Cf hds_g41 k_g41 o_g41∧Rows (rInt .i64) 3 w' (ks Ebs O) hds_g41 R_g41 rows_1∧hds_g41.length=rows_1.length∧loop2 (m21_overflightref32_Part_B0 p r_) m leaf_1 rows_1=some x) (((p.capacity.length:Int) - 0).toNat+1) ⟨0,([]:List (List Int)),none,0,none,Obj.cells #[] 31,([]:List Hd),([]:Ents),_,rfl,Frm.of ⟨rfl,trivial⟩,Step.refl _ _,hs47,(show InK .i64 0 from by decide),Gs.nil_,Rows.nil_,rfl,hm⟩ ?_ ?_
 rintro _ _ ⟨_,_,_,_,_,_,_,_,_,_,_,_,_,_,_,_,_,hm⟩;exact loop2_z hm
 rintro m46 K45 hK45 ρ53 w49 ⟨leaf_1,rows_1,Af,Cf,k_g41,o_g41,hds_g41,R_g41,_,rfl,hfr52,hst51,hs50,Rb,Ff,fR_g41,lh_g41,hm⟩
 obtain⟨sf43,hsf44,hm⟩:=loop2_s hm;unfold m21_overflightref32_Part_B0 at hm
 rw [hfr52.eq];clear hfr52
 have ch54:=hst51
 refine Wp_seq<|Wp_seq<|Wp_region<|Mve (Iv leaf_1) rfl<|Rop<|op_fA 1 ty26 rfl ty23 rfl rfl<|Rop<|op_ld 4 ty23 hs50 rfl rfl rfl<|Rop<|op_len Try.underlying23 rfl ?_
 have p56:=(p23.trans (p33.trans (p37.trans hst51)))
 replace Fb:=Fb.step p56
 have rl55:=inK_len Fb
 refine Rop<|op_lss rfl rfl<|Rg_nil<|Wp_condM hm rfl (fun hc57 hm=>?_) (fun hc57 hm=>?_)
 refine Wp_skip<|Wp_seq<|Wp_block<|Wp_seq<|Wp_region<|Asg (Value.slice none 0 0) rfl<|Rg_nil<|Wp_seq<|Wp_seq<|Wp_region<|Asg (Iv 0) rfl<|Rg_nil<|Wp_block<|Wr2 q21_1 [] (updL ⟨ξ42,[]⟩ [(2,Pt b1 0),(3,Pt b6 0),(4,Pt b11 0),(7,Pt b31 0),(8,Iv 0)]) [(8,Iv leaf_1),(9,Value.slice none 0 0),(10,Iv 0)] fun ξ61=>?_
 have hs66:=hs50.ghost (Obj.cells #[] 3)
 refine Wp_loopM q21_0 (fun m fr w'=>∃(l_1:List Int) (c_1:Int) (Ag:Option Addr) (Cg:Nat) (k_g59:Option Nat) (o_g59:Obj) (Ebs:Ents),Ebs=((k_g59,o_g59)::(k_g41,o_g41)::(some b31,Oc [Sl Aa p.cells Ca,Value.slice Af hds_g41.length Cf,Value.slice none 0 0] 26)::(some b11,Oc [Value.slice none 0 0,Value.slice none 0 0,Value.slice none 0 0] 26)::(some b6,Oc [Sl Ad r_.variables Cd,Sl Ae r_.places Ce] 34)::(some b1,Oc [Sl Aa p.cells Ca,Sl Ab p.capacity Cb,Sl Ac p.variables Cc] 26)::R_g41)∧fr [] [(9,Sl Ag l_1 Cg),(10,Iv c_1)]∧hs66.S (ks Ebs O) w'∧St ⟨w,[],[]⟩ O w' Ebs∧Gs (rInt .i64) 3 w' (ks Ebs O) Ag Cg l_1 k_g59 o_g59∧InK .i64 c_1∧loop2 (m21_overflightref32_Part_B1 p leaf_1 rows_1 sf43) m l_1 c_1=some x) (((p.cells.length:Int) - 0).toNat+1) ⟨([]:List Int),0,none,0,none,Obj.cells #[] 3,_,rfl,Frm.of ⟨rfl,rfl,trivial⟩,Step.refl _ _,hs66,Gs.nil_,(show InK .i64 0 from by decide),hm⟩ ?_ ?_
 rintro _ _ ⟨_,_,_,_,_,_,_,_,_,_,_,_,_,hm⟩;exact loop2_z hm
 rintro m65 K64 hK64 ρ72 w68 ⟨l_1,c_1,Ag,Cg,k_g59,o_g59,_,rfl,hfr71,hst70,hs69,Fg,Rc,hm⟩
 obtain⟨sf62,hsf63,hm⟩:=loop2_s hm;unfold m21_overflightref32_Part_B1 at hm
 rw [hfr71.eq];clear hfr71
 have ch73:=hst70
 refine Wp_seq<|Wp_seq<|Wp_region<|Mve (Iv c_1) rfl<|Rop<|op_fA 0 ty26 rfl ty22 rfl rfl<|Rop<|op_ld 5 ty22 hs69 rfl rfl rfl<|Rop<|op_len Try.underlying22 rfl ?_
 have p75:=(p56.trans hst70)
 replace Fa:=Fa.step p75
 have rl74:=inK_len Fa
 refine Rop<|op_lss rfl rfl<|Rg_nil<|Wp_condM hm rfl (fun hc76 hm=>?_) (fun hc76 hm=>?_)
 refine Wp_skip<|Wp_seq<|Wp_block<|Wp_region<|Mve (Sl Ag l_1 Cg) rfl<|Rop<|op_buildSlice (cs:=[Iv 4096]) (parts:=[(0,.const (.int .i64 4096))]) ty31 ty3 hs69 (by decide) rfl ?_
 intro b77 w78 hx81 p79 hs80
 clear hs69
 have f83:=Gs.of_cells (p:=(rInt .i64)) (e:=3) (bl:=b77) (c:=1) (w:=w78) (O:=ks ((some b77,Oc [Iv 4096] 3)::(k_g59,o_g59)::(k_g41,o_g41)::(some b31,Oc [Sl Aa p.cells Ca,Value.slice Af hds_g41.length Cf,Value.slice none 0 0] 26)::(some b11,Oc [Value.slice none 0 0,Value.slice none 0 0,Value.slice none 0 0] 26)::(some b6,Oc [Sl Ad r_.variables Cd,Sl Ae r_.places Ce] 34)::(some b1,Oc [Sl Aa p.cells Ca,Sl Ab p.capacity Cb,Sl Ac p.variables Cc] 26)::R_g41) O) (show Els (rInt .i64) _ _ [Iv 4096] [4096] from⟨_,_,rfl,mk_int (show InK .i64 4096 from by decide),Els.nil⟩) rfl (le_lit rfl)
 obtain⟨hs85,p86,f84⟩:=Gs.publish (i:=0) hs80 rfl f83
 clear hs80
 obtain⟨hc87,hm⟩:=ck_some hm
 obtain⟨ns88,he89,hr90⟩:=f84.src
 have p99:=(p79.trans p86)
 replace Fg:=Fg.step p99
 refine Rop (op_append (q:=(rInt .i64)) (i:=0) (xs:=l_1) (ys:=[4096]) (news:=ns88) ty31 ty3 rfl (by decide) hs85 rfl rfl Fg rfl hr90 he89 hc87 (by have:=hc87;simp only [maxLen];omega) ?_)
 intro a94 c95 k96 o97 w91 p92 hs93 f98
 clear hs85
 refine Asg (Sl a94 (l_1++[4096]) c95) rfl<|Rg_nil ?_
 clear f84
 refine Wp_region<|Mve (Iv c_1) rfl<|Rop<|op_addw rfl rfl<|Asg (Iv (IntKind.wrap .i64 (c_1+1))) rfl<|Rg_nil ?_
 have p100:=(p99.trans p92)
 replace ch73:=ch73.trans p100
 exact hK64 _ _ ⟨l_1++[4096],(IntKind.wrap .i64 (c_1+1)),a94,c95,k96,o97,_,rfl,Frm.of ⟨rfl,rfl,trivial⟩,ch73,hs93,f98,(inK_wrap .i64 _),jnE2 hsf63 hm⟩
 refine Wp_exit<|Wp_region<|Rop<|op_fA 1 ty26 rfl ty23 rfl rfl<|Rop<|op_ld 2 ty23 hs69 rfl rfl rfl<|Mve (Sl Ag l_1 Cg) rfl<|Rop<|op_buildSlice (cs:=[Sl Ag l_1 Cg]) (parts:=[(0,.tmp 43)]) ty23 ty31 hs69 (by decide) rfl ?_
 intro b101 w102 hx105 p103 hs104
 clear hs69
 obtain⟨hc107,hm⟩:=ck_some hm
 have hc108:(hds_g41.length+1)*24≤140737488355328:=by have h1:=hc107;have h2:hds_g41.length=rows_1.length:=lh_g41;omega
 have p117:=(hst70.trans p103)
 replace Ff:=Ff.step p117
 refine Rop (op_append (q:=rHd) (i:=2) (xs:=hds_g41) (ys:=[((Ag,l_1.length,Cg):Hd)]) (news:=[Sl Ag l_1 Cg]) ty23 ty31 rfl (by decide) hs104 rfl rfl Ff rfl (Src.owned' (len:=1) (hs104.get (i:=0) rfl) rfl) (show Els rHd _ _ [Sl Ag l_1 Cg] [((Ag,l_1.length,Cg):Hd)] from⟨_,_,rfl,rfl,Els.nil⟩) hc108 (show hds_g41.length+1≤maxLen from by have:=hc108;simp only [maxLen];omega) ?_)
 intro a112 c113 k114 o115 w109 p110 hs111 f116
 clear hs104
 have hs118:=hs111.drop 0
 have p119:=(hs111.dropS 0)
 clear hs111
 have p124:=(p117.trans (p110.trans p119))
 replace fR_g41:=fR_g41.step p124
 have p125:=(p103.trans (p110.trans p119))
 replace Fg:=Fg.step p125
 have fR120:Rows (rInt .i64) 3 w109 (ks ((k_g59,o_g59)::(k114,o115)::(some b31,Oc [Sl Aa p.cells Ca,Value.slice Af hds_g41.length Cf,Value.slice none 0 0] 26)::(some b11,Oc [Value.slice none 0 0,Value.slice none 0 0,Value.slice none 0 0] 26)::(some b6,Oc [Sl Ad r_.variables Cd,Sl Ae r_.places Ce] 34)::(some b1,Oc [Sl Aa p.cells Ca,Sl Ab p.capacity Cb,Sl Ac p.variables Cc] 26)::R_g41) O) (hds_g41++[((Ag,l_1.length,Cg):Hd)]) (R_g41++[(k_g59,o_g59)]) (rows_1++[l_1]):=Rows.append fR_g41 Fg rfl
 obtain⟨hs121,p122⟩:St ⟨w,[],[]⟩ O w109 ((k114,o115)::(some b31,Oc [Sl Aa p.cells Ca,Value.slice Af hds_g41.length Cf,Value.slice none 0 0] 26)::(some b11,Oc [Value.slice none 0 0,Value.slice none 0 0,Value.slice none 0 0] 26)::(some b6,Oc [Sl Ad r_.variables Cd,Sl Ae r_.places Ce] 34)::(some b1,Oc [Sl Aa p.cells Ca,Sl Ab p.capacity Cb,Sl Ac p.variables Cc] 26)::(R_g41++[(k_g59,o_g59)]))∧Step (ks ((k_g59,o_g59)::(k114,o115)::(some b31,Oc [Sl Aa p.cells Ca,Value.slice Af hds_g41.length Cf,Value.slice none 0 0] 26)::(some b11,Oc [Value.slice none 0 0,Value.slice none 0 0,Value.slice none 0 0] 26)::(some b6,Oc [Sl Ad r_.variables Cd,Sl Ae r_.places Ce] 34)::(some b1,Oc [Sl Aa p.cells Ca,Sl Ab p.capacity Cb,Sl Ac p.variables Cc] 26)::R_g41) O) w109 (ks ((k114,o115)::(some b31,Oc [Sl Aa p.cells Ca,Value.slice Af hds_g41.length Cf,Value.slice none 0 0] 26)::(some b11,Oc [Value.slice none 0 0,Value.slice none 0 0,Value.slice none 0 0] 26)::(some b6,Oc [Sl Ad r_.variables Cd,Sl Ae r_.places Ce] 34)::(some b1,Oc [Sl Aa p.cells Ca,Sl Ab p.capacity Cb,Sl Ac p.variables Cc] 26)::(R_g41++[(k_g59,o_g59)])) O) w109:=St.toback (i:=0) hs118 rfl
 clear hs118
 replace fR120:=fR120.step p122
 have lh123:(hds_g41++[((Ag,l_1.length,Cg):Hd)]).length=(rows_1++[l_1]).length:=(Rows.lens fR120).1
 refine Rop<|op_fA 1 ty26 rfl ty23 rfl rfl<|Rg_op_<|op_stC (Value.slice a112 (hds_g41++[((Ag,l_1.length,Cg):Hd)]).length c113) (cs':=[Sl Aa p.cells Ca,Value.slice a112 (hds_g41++[((Ag,l_1.length,Cg):Hd)]).length c113,Value.slice none 0 0]) Put.p1 ty23 hs121 rfl rfl rfl (le_lit rfl) rfl rfl ?_
 intro w126 p127 hs128
 clear hs121
 refine Rg_nil<|Wp_region<|Mve (Iv leaf_1) rfl<|Rop<|op_addw rfl rfl<|Asg (Iv (IntKind.wrap .i64 (leaf_1+1))) rfl<|Rg_nil ?_
 have p129:=(p124.trans (p122.trans p127))
 replace ch54:=ch54.trans p129
 replace f116:=f116.step (p119.trans (p122.trans p127));replace fR120:=fR120.step p127
 exact hK45 _ _ ⟨(IntKind.wrap .i64 (leaf_1+1)),rows_1++[l_1],a112,c113,k114,o115,hds_g41++[((Ag,l_1.length,Cg):Hd)],R_g41++[(k_g59,o_g59)],_,rfl,Frm.of ⟨rfl,trivial⟩,ch54,hs128,(inK_wrap .i64 _),f116,fR120,lh123,jnE2 hsf44 hm⟩
 refine Wp_exit<|Wp_seq<|Wp_seq<|Wp_region<|Asg (Iv 0) rfl<|Rg_nil<|Wp_block<|Wr [] [(2,Pt b1 0),(3,Pt b6 0),(4,Pt b11 0),(7,Pt b31 0),(11,Iv 0)] fun ξ132=>Wp_loopM q21_2 (fun m fr w'=>∃(i_1:Int) (rows_2:List (List Int)) (Ah:Option Addr) (Ch:Nat) (k_g131:Option Nat) (o_g131:Obj) (hds_g131:List Hd) (R_g131:Ents) (Ebs:Ents),Ebs=((k_g131,o_g131)::(some b31,Oc [Sl Aa p.cells Ca,Value.slice Ah hds_g131.length Ch,Value.slice none 0 0] 26)::(some b11,Oc [Value.slice none 0 0,Value.slice none 0 0,Value.slice none 0 0] 26)::(some b6,Oc [Sl Ad r_.variables Cd,Sl Ae r_.places Ce] 34)::(some b1,Oc [Sl Aa p.cells Ca,Sl Ab p.capacity Cb,Sl Ac p.variables Cc] 26)::R_g131)∧fr [] [(11,Iv i_1)]∧hs50.S (ks Ebs O) w'∧St ⟨w,[],[]⟩ O w' Ebs∧InK .i64 i_1∧Gs rHd 31 w' (ks Ebs O) Ah Ch hds_g131 k_g131 o_g131∧Rows (rInt .i64) 3 w' (ks Ebs O) hds_g131 R_g131 rows_2∧hds_g131.length=rows_2.length∧loop2 (m21_overflightref32_Part_B2 p r_) m i_1 rows_2=some x) (((r_.places.length:Int) - 0).toNat+1) ⟨0,rows_1,Af,Cf,k_g41,o_g41,hds_g41,R_g41,_,rfl,Frm.of ⟨rfl,trivial⟩,Step.refl _ _,hs50,(show InK .i64 0 from by decide),Ff,fR_g41,lh_g41,hm⟩ ?_ ?_
 rintro _ _ ⟨_,_,_,_,_,_,_,_,_,_,_,_,_,_,_,_,_,hm⟩;exact loop2_z hm
 rintro m136 K135 hK135 ρ141 w137 ⟨i_1,rows_2,Ah,Ch,k_g131,o_g131,hds_g131,R_g131,_,rfl,hfr140,hst139,hs138,Rd,Fh,fR_g131,lh_g131,hm⟩
 obtain⟨sf133,hsf134,hm⟩:=loop2_s hm;unfold m21_overflightref32_Part_B2 at hm
 rw [hfr140.eq];clear hfr140
 have ch142:=hst139
 refine Wp_seq<|Wp_seq ?_
 clear Ff fR_g41
 refine Wp_region<|Mve (Iv i_1) rfl<|Rop<|op_fA 1 ty34 rfl ty32 rfl rfl<|Rop<|op_ld 3 ty32 hs138 rfl rfl rfl<|Rop<|op_len Try.underlying32 rfl ?_
 have p144:=(p56.trans hst139)
 replace Fe:=Fe.step p144
 have rl143:=inK_len Fe
 refine Rop<|op_lss rfl rfl<|Rg_nil<|Wp_condM hm rfl (fun hc145 hm=>?_) (fun hc145 hm=>?_)
 refine Wp_skip<|Wp_seq<|Wp_block<|Wp_seq<|Wp_region<|Rop<|op_fA 1 ty34 rfl ty32 rfl rfl<|Rop<|op_ld 3 ty32 hs138 rfl rfl rfl<|Mve (Iv i_1) rfl ?_
 obtain⟨hc146,hm⟩:=ck_some hm
 refine Rop<|op_indexAddr (q:=rXPlace) ty32 ty45 rfl rfl Fe rfl hc146.1 hc146.2 ?_
 intro p147 f148
 refine Rop<|op_loadPA ty45 rfl f148 rfl ?_
 intro vs149 h150
 obtain⟨_,_,rfl,⟨rfl,Re⟩,⟨rfl,Rf⟩⟩:=h150
 refine Rop<|op_alloc ty45 hs138 ?_
 intro b152 w153 _ p154 hs155
 clear hs138
 refine Rg_op_<|op_stA .z ty45 hs155 rfl rfl rfl rfl rfl ?_
 intro w157 p158 hs159
 clear hs155
 refine Rg_nil ?_
 clear f148
 refine Wp_drawR (g0:=[]) (m:=18) (fl:=[]) (TS_inv hs159) rfl (.inl rfl) rfl (by decide+kernel) ?_  -- 18
 refine Dw_p (Pt b31 1) (fun _ _ _ hi ht=>op_fA 1 ty26 rfl ty23 (ht 7 rfl) rfl<|Gz hi)<|Dw_p (Value.slice Ah hds_g131.length Ch) (fun _ _ _ hi ht=>op_ld 2 ty23 (Step.nx hi).1 (ht 59 rfl) rfl rfl<|Gz hi)<|Dw_p (Pt b152 0) (fun _ _ _ hi ht=>op_fA 0 ty45 rfl ty3 (ht 12 rfl) rfl<|Gz hi)<|Dw_p (Iv ((r_.places.getD i_1.toNat default).leaf)) (fun _ _ _ hi ht=>op_ld 0 ty3 (Step.nx hi).1 (ht 61 rfl) rfl rfl<|Gz hi) ?_
 obtain⟨hc175,hm⟩:=ck_some hm
 have p177:=(p154.trans p158)
 replace Fh:=Fh.step p177
 obtain⟨b176,rfl,rfl⟩:=Fh.at_ (by have h1:hds_g131.length=rows_2.length:=lh_g131;omega)
 refine Dw_eq (Value.pointer (some ⟨b176,((r_.places.getD i_1.toNat default).leaf).toNat*1,none⟩)) (fun ρ172 w173 g hle hi ht=>?_) ?_
 obtain⟨-,hst,-⟩:=hle
 replace Fh:=Fh.step hst
 refine StepOp_plain (op_indexAddrG ty23 ty31 (ht 60 rfl) (ht 62 rfl) Fh ⟨hc175.1,by have h1:hds_g131.length=rows_2.length:=lh_g131;have h2:=hc175.2;omega⟩ ?_)
 rintro _ ⟨⟩ -
 exact Gz hi
 refine Dw_eq (Value.slice (hds_g131.getD ((r_.places.getD i_1.toNat default).leaf).toNat default).1 (hds_g131.getD ((r_.places.getD i_1.toNat default).leaf).toNat default).2.1 (hds_g131.getD ((r_.places.getD i_1.toNat default).leaf).toNat default).2.2) (fun ρ178 w179 g hle hi ht=>?_) ?_
 obtain⟨-,hst,-⟩:=hle
 replace Fh:=Fh.step hst
 have hsn:=(Step.nx hi).1
 refine StepOp_plain (op_loadG (p:=rHd) (m:=(r_.places.getD i_1.toNat default).leaf) (i:=1) ty31 rfl hsn rfl (ht 63 rfl) Fh ⟨hc175.1,by have h1:hds_g131.length=rows_2.length:=lh_g131;have h2:=hc175.2;omega⟩ ?_)
 intro v181 h182;obtain rfl:=un_hd h182
 exact Gz hi
 refine Dw_p (Pt b152 1) (fun _ _ _ hi ht=>op_fA 1 ty45 rfl ty3 (ht 12 rfl) rfl<|Gz hi)<|Dw_p (Iv ((r_.places.getD i_1.toNat default).cell)) (fun _ _ _ hi ht=>op_ld 0 ty3 (Step.nx hi).1 (ht 65 rfl) rfl rfl<|Gz hi)<|Dw_p (Pt b1 1) (fun _ _ _ hi ht=>op_fA 1 ty26 rfl ty23 (ht 2 rfl) rfl<|Gz hi)<|Dw_p (Sl Ab p.capacity Cb) (fun _ _ _ hi ht=>op_ld 5 ty23 (Step.nx hi).1 (ht 67 rfl) rfl rfl<|Gz hi)<|Dw_p (Pt b152 0) (fun _ _ _ hi ht=>op_fA 0 ty45 rfl ty3 (ht 12 rfl) rfl<|Gz hi)<|Dw_p (Iv ((r_.places.getD i_1.toNat default).leaf)) (fun _ _ _ hi ht=>op_ld 0 ty3 (Step.nx hi).1 (ht 69 rfl) rfl rfl<|Gz hi) ?_
 obtain⟨hc204,hm⟩:=ck_some hm
 have p207:=(hst139.trans (p154.trans p158))
 replace Fb:=Fb.step p207
 refine Dw_op (VP _ _ (rSl (rInt .i64)) (p.capacity.getD ((r_.places.getD i_1.toNat default).leaf).toNat default)) (VP.stab _ _) (fun ρ201 w202 g hle hi ht=>?_) ?_
 obtain⟨-,hst,-⟩:=hle
 replace Fb:=Fb.step hst
 refine StepOp_plain<|op_indexAddr (q:=rSl (rInt .i64)) ty23 ty31 (ht 68 rfl) (ht 70 rfl) Fb rfl hc204.1 hc204.2 ?_
 intro p205 f206
 exact Goes.same hi ⟨_,rfl,f206⟩
 refine Dw_op (VD _ _ (vC (rSl (rInt .i64))) (p.capacity.getD ((r_.places.getD i_1.toNat default).leaf).toNat default)) (VD.stab _ _) (fun ρ208 w209 g hle hi ht=>?_) ?_
 obtain⟨p211,q212,f213⟩:=ht 71 rfl
 refine StepOp_plain<|op_loadP ty31 q212 f213 rfl ?_
 intro v214 h215
 obtain⟨Ai,Ci,rfl,Fi⟩:=un_sl h215
 exact Goes.same hi (show Vr.vd (vC (rSl (rInt .i64))) _ _ _ _ from(mkC (mk_sl Fi)))
 refine Dw_p (Pt b152 1) (fun _ _ _ hi ht=>op_fA 1 ty45 rfl ty3 (ht 12 rfl) rfl<|Gz hi)<|Dw_p (Iv ((r_.places.getD i_1.toNat default).cell)) (fun _ _ _ hi ht=>op_ld 0 ty3 (Step.nx hi).1 (ht 73 rfl) rfl rfl<|Gz hi) ?_
 obtain⟨hc229,hm⟩:=ck_some hm
 refine Dw_op (VP _ _ (rInt .i64) ((p.capacity.getD ((r_.places.getD i_1.toNat default).leaf).toNat default).getD ((r_.places.getD i_1.toNat default).cell).toNat default)) (VP.stab _ _) (fun ρ223 w224 g hle hi ht=>?_) ?_
 have h226:Vr.vd (vC (rSl (rInt .i64))) _ _ _ _:=ht 72 rfl
 obtain⟨Aj,Cj,q227,Fj⟩:=un_sl h226
 refine StepOp_plain<|op_indexAddr (q:=(rInt .i64)) ty31 ty3 q227 (ht 74 rfl) Fj rfl hc229.1 hc229.2 ?_
 intro p230 f231
 exact Goes.same hi ⟨_,rfl,f231⟩
 refine Dw_op (VD _ _ (vI .i64) ((p.capacity.getD ((r_.places.getD i_1.toNat default).leaf).toNat default).getD ((r_.places.getD i_1.toNat default).cell).toNat default)) (VD.stab _ _) (fun ρ232 w233 g hle hi ht=>?_) ?_
 obtain⟨p235,q236,f237⟩:=ht 75 rfl
 refine StepOp_plain<|op_loadP ty3 q236 f237 rfl ?_
 intro v238 h239
 obtain⟨rfl,Rg⟩:=un_int h239
 exact Goes.same hi (show Vr.vd (vI .i64) _ _ _ _ from⟨rfl,Rg⟩)
 refine Dw_nil fun w245 g246 hl247 hi248=>?_
 obtain⟨-,hst249,-⟩:=hl247
 obtain⟨hs251,p250⟩:=Step.nx hi248
 rintro v252 h253
 replace h253:Vr.vd (vI .i64) _ _ _ _:=h253
 obtain⟨rfl,Rh⟩:=h253
 rintro _ ⟨p255,rfl,f256⟩ _ rfl _ rfl v257 h258
 replace h258:Vr.vd (vC (rSl (rInt .i64))) _ _ _ _:=h258
 obtain⟨Ak,Ck,rfl,Fk⟩:=un_sl h258
 rintro _ ⟨p260,rfl,f261⟩ _ rfl _ rfl _ rfl _ rfl _ rfl _ rfl _ rfl _ rfl _ rfl _ rfl _ rfl _ rfl
 have p262:=hs159.to hs251 (hst249.trans p250)
 replace f256:=f256.step p250;replace Fk:=Fk.step p250;replace f261:=f261.step p250;clear hs159
 have p268:=(p177.trans p262)
 replace fR_g131:=fR_g131.step p268
 obtain⟨hh263,hl264,hb265⟩:=fR_g131.at_ (i:=((r_.places.getD i_1.toNat default).leaf).toNat) (by have:=hc175;omega)
 obtain⟨hc269,hm⟩:=ck_some hm
 obtain⟨b266,hb267⟩:=hb265 (by have:=hc269;omega)
 refine Rop<|op_indexRow (H:=hds_g131.getD ((r_.places.getD i_1.toNat default).leaf).toNat default) (row:=rows_2.getD ((r_.places.getD i_1.toNat default).leaf).toNat default) (bl:=b266) ty31 ty3 rfl rfl hb267 hl264 hc269 ?_
 refine Rg_op_ (op_storeRow (bs:=[(some b152,Oc [Iv ((r_.places.getD i_1.toNat default).leaf),Iv ((r_.places.getD i_1.toNat default).cell)] 45),(some b176,o_g131),(some b31,Oc [Sl Aa p.cells Ca,Value.slice (some ⟨b176,0,none⟩) hds_g131.length Ch,Value.slice none 0 0] 26),(some b11,Oc [Value.slice none 0 0,Value.slice none 0 0,Value.slice none 0 0] 26),(some b6,Oc [Sl Ad r_.variables Cd,Sl Ae r_.places Ce] 34),(some b1,Oc [Sl Aa p.cells Ca,Sl Ab p.capacity Cb,Sl Ac p.variables Cc] 26)]) (R:=R_g131) (vs:=[Iv ((p.capacity.getD ((r_.places.getD i_1.toNat default).leaf).toNat default).getD ((r_.places.getD i_1.toNat default).cell).toNat default)]) (m:=(r_.places.getD i_1.toNat default).cell) (i:=((r_.places.getD i_1.toNat default).leaf).toNat) (hd:=hds_g131.getD ((r_.places.getD i_1.toNat default).leaf).toNat default) ty3 rfl hs251 fR_g131 (by have:=hc175;omega) hh263 hb267 rfl rfl rfl hc269 (mk_int Rh) ?_)
 intro w270 R271 p272 hs273 fR274
 replace hs273:St ⟨w,[],[]⟩ O w270 ((some b152,Oc [Iv ((r_.places.getD i_1.toNat default).leaf),Iv ((r_.places.getD i_1.toNat default).cell)] 45)::(some b176,o_g131)::(some b31,Oc [Sl Aa p.cells Ca,Value.slice (some ⟨b176,0,none⟩) hds_g131.length Ch,Value.slice none 0 0] 26)::(some b11,Oc [Value.slice none 0 0,Value.slice none 0 0,Value.slice none 0 0] 26)::(some b6,Oc [Sl Ad r_.variables Cd,Sl Ae r_.places Ce] 34)::(some b1,Oc [Sl Aa p.cells Ca,Sl Ab p.capacity Cb,Sl Ac p.variables Cc] 26)::R271):=hs273
 replace p272:Step (ks ((some b152,Oc [Iv ((r_.places.getD i_1.toNat default).leaf),Iv ((r_.places.getD i_1.toNat default).cell)] 45)::(some b176,o_g131)::(some b31,Oc [Sl Aa p.cells Ca,Value.slice (some ⟨b176,0,none⟩) hds_g131.length Ch,Value.slice none 0 0] 26)::(some b11,Oc [Value.slice none 0 0,Value.slice none 0 0,Value.slice none 0 0] 26)::(some b6,Oc [Sl Ad r_.variables Cd,Sl Ae r_.places Ce] 34)::(some b1,Oc [Sl Aa p.cells Ca,Sl Ab p.capacity Cb,Sl Ac p.variables Cc] 26)::R_g131) O) w245 (ks ((some b152,Oc [Iv ((r_.places.getD i_1.toNat default).leaf),Iv ((r_.places.getD i_1.toNat default).cell)] 45)::(some b176,o_g131)::(some b31,Oc [Sl Aa p.cells Ca,Value.slice (some ⟨b176,0,none⟩) hds_g131.length Ch,Value.slice none 0 0] 26)::(some b11,Oc [Value.slice none 0 0,Value.slice none 0 0,Value.slice none 0 0] 26)::(some b6,Oc [Sl Ad r_.variables Cd,Sl Ae r_.places Ce] 34)::(some b1,Oc [Sl Aa p.cells Ca,Sl Ab p.capacity Cb,Sl Ac p.variables Cc] 26)::R271) O) w270:=p272
 replace fR274:Rows (rInt .i64) 3 w270 (ks ((some b152,Oc [Iv ((r_.places.getD i_1.toNat default).leaf),Iv ((r_.places.getD i_1.toNat default).cell)] 45)::(some b176,o_g131)::(some b31,Oc [Sl Aa p.cells Ca,Value.slice (some ⟨b176,0,none⟩) hds_g131.length Ch,Value.slice none 0 0] 26)::(some b11,Oc [Value.slice none 0 0,Value.slice none 0 0,Value.slice none 0 0] 26)::(some b6,Oc [Sl Ad r_.variables Cd,Sl Ae r_.places Ce] 34)::(some b1,Oc [Sl Aa p.cells Ca,Sl Ab p.capacity Cb,Sl Ac p.variables Cc] 26)::R271) O) hds_g131 R271 (rows_2.set ((r_.places.getD i_1.toNat default).leaf).toNat ((rows_2.getD ((r_.places.getD i_1.toNat default).leaf).toNat default).set ((r_.places.getD i_1.toNat default).cell).toNat ((p.capacity.getD ((r_.places.getD i_1.toNat default).leaf).toNat default).getD ((r_.places.getD i_1.toNat default).cell).toNat default))):=fR274
 clear hs251
 have lh275:hds_g131.length=(rows_2.set ((r_.places.getD i_1.toNat default).leaf).toNat ((rows_2.getD ((r_.places.getD i_1.toNat default).leaf).toNat default).set ((r_.places.getD i_1.toNat default).cell).toNat ((p.capacity.getD ((r_.places.getD i_1.toNat default).leaf).toNat default).getD ((r_.places.getD i_1.toNat default).cell).toNat default))).length:=(Rows.lens fR274).1
 have lp276:hds_g131.length=(rows_2.set ((r_.places.getD i_1.toNat default).leaf).toNat ((rows_2.getD ((r_.places.getD i_1.toNat default).leaf).toNat default).set ((r_.places.getD i_1.toNat default).cell).toNat ((p.capacity.getD ((r_.places.getD i_1.toNat default).leaf).toNat default).getD ((r_.places.getD i_1.toNat default).cell).toNat default))).length:=by have h1:hds_g131.length=rows_2.length:=lh_g131;rw [List.length_set];exact h1
 refine Rg_nil ?_
 clear f256 Fk f261
 refine Wr2 q21_2 [] (updL ⟨ξ132,[]⟩ [(2,Pt b1 0),(3,Pt b6 0),(4,Pt b11 0),(7,Pt b31 0),(11,Iv 0)]) [(11,Iv i_1)] fun ξ277=>Wp_region<|Mve (Iv i_1) rfl<|Rop<|op_addw rfl rfl<|Asg (Iv (IntKind.wrap .i64 (i_1+1))) rfl<|Rg_nil ?_
 have hs278:=hs273.drop 0
 have p279:=(hs273.dropS 0)
 clear hs273
 have p280:=(p268.trans (p272.trans p279))
 replace ch142:=ch142.trans p280;replace fR274:=fR274.step p279
 have p281:=(p262.trans (p272.trans p279))
 replace Fh:=Fh.step p281
 exact hK135 _ _ ⟨(IntKind.wrap .i64 (i_1+1)),rows_2.set ((r_.places.getD i_1.toNat default).leaf).toNat ((rows_2.getD ((r_.places.getD i_1.toNat default).leaf).toNat default).set ((r_.places.getD i_1.toNat default).cell).toNat ((p.capacity.getD ((r_.places.getD i_1.toNat default).leaf).toNat default).getD ((r_.places.getD i_1.toNat default).cell).toNat default)),some ⟨b176,0,none⟩,Ch,some b176,o_g131,hds_g131,R271,_,rfl,Frm.of ⟨rfl,trivial⟩,ch142,hs278,(inK_wrap .i64 _),Fh,fR274,lh275,jnE2 hsf134 hm⟩
 refine Wp_exit<|Wp_seq<|Wp_seq<|Wp_region<|Asg (Iv 0) rfl<|Rg_nil<|Wp_block<|Wr [] [(2,Pt b1 0),(3,Pt b6 0),(4,Pt b11 0),(7,Pt b31 0),(13,Iv 0)] fun ξ285=>?_
 have hs290:=hs138.ghost (Obj.cells #[] 61)
 refine Wp_loopM q21_3 (fun m fr w'=>∃(i_2:Int) (v_1:List XVariable) (Al:Option Addr) (Cl:Nat) (k_g284:Option Nat) (o_g284:Obj) (Ebs:Ents),Ebs=((k_g284,o_g284)::(k_g131,o_g131)::(some b31,Oc [Sl Aa p.cells Ca,Value.slice Ah hds_g131.length Ch,Sl Al v_1 Cl] 26)::(some b11,Oc [Value.slice none 0 0,Value.slice none 0 0,Value.slice none 0 0] 26)::(some b6,Oc [Sl Ad r_.variables Cd,Sl Ae r_.places Ce] 34)::(some b1,Oc [Sl Aa p.cells Ca,Sl Ab p.capacity Cb,Sl Ac p.variables Cc] 26)::R_g131)∧fr [] [(13,Iv i_2)]∧hs290.S (ks Ebs O) w'∧St ⟨w,[],[]⟩ O w' Ebs∧InK .i64 i_2∧Gs rXVariable 61 w' (ks Ebs O) Al Cl v_1 k_g284 o_g284∧loop2 (m21_overflightref32_Part_B3 p r_ rows_2) m i_2 v_1=some x) (((r_.variables.length:Int) - 0).toNat+1) ⟨0,([]:List XVariable),none,0,none,Obj.cells #[] 61,_,rfl,Frm.of ⟨rfl,trivial⟩,Step.refl _ _,hs290,(show InK .i64 0 from by decide),Gs.nil_,hm⟩ ?_ ?_
 rintro _ _ ⟨_,_,_,_,_,_,_,_,_,_,_,_,_,hm⟩;exact loop2_z hm
 rintro m289 K288 hK288 ρ296 w292 ⟨i_2,v_1,Al,Cl,k_g284,o_g284,_,rfl,hfr295,hst294,hs293,Ri,Fl,hm⟩
 obtain⟨sf286,hsf287,hm⟩:=loop2_s hm;unfold m21_overflightref32_Part_B3 at hm
 rw [hfr295.eq];clear hfr295
 have ch297:=hst294
 refine Wp_seq<|Wp_seq<|Wp_region<|Mve (Iv i_2) rfl<|Rop<|op_fA 0 ty34 rfl ty31 rfl rfl<|Rop<|op_ld 4 ty31 hs293 rfl rfl rfl<|Rop<|op_len Try.underlying31 rfl ?_
 have p299:=(p144.trans hst294)
 replace Fd:=Fd.step p299
 have rl298:=inK_len Fd
 refine Rop<|op_lss rfl rfl<|Rg_nil<|Wp_condM hm rfl (fun hc300 hm=>?_) (fun hc300 hm=>?_)
 refine Wp_skip<|Wp_seq<|Wp_block<|Wp_drawR (g0:=[]) (m:=12) (fl:=[]) (TS_inv hs293) rfl (.inl rfl) rfl (by decide+kernel) ?_  -- 22
 refine Dw_p (Pt b31 2) (fun _ _ _ hi ht=>op_fA 2 ty26 rfl ty24 (ht 7 rfl) rfl<|Gz hi)<|Dw_p (Sl Al v_1 Cl) (fun _ _ _ hi ht=>op_ld 2 ty24 (Step.nx hi).1 (ht 85 rfl) rfl rfl<|Gz hi)<|Dw_p (Pt b1 2) (fun _ _ _ hi ht=>op_fA 2 ty26 rfl ty24 (ht 2 rfl) rfl<|Gz hi)<|Dw_p (Sl Ac p.variables Cc) (fun _ _ _ hi ht=>op_ld 5 ty24 (Step.nx hi).1 (ht 87 rfl) rfl rfl<|Gz hi)<|Dw_p (Pt b6 0) (fun _ _ _ hi ht=>op_fA 0 ty34 rfl ty31 (ht 3 rfl) rfl<|Gz hi)<|Dw_p (Sl Ad r_.variables Cd) (fun _ _ _ hi ht=>op_ld 4 ty31 (Step.nx hi).1 (ht 89 rfl) rfl rfl<|Gz hi)<|Dw_p (Iv i_2) (fun _ _ _ hi ht=>op_move (v:=Iv i_2) (ht 13 rfl)<|Gz hi) ?_
 obtain⟨hc325,hm⟩:=ck_some hm
 refine Dw_op (VP _ _ (rInt .i64) (r_.variables.getD i_2.toNat default)) (VP.stab _ _) (fun ρ322 w323 g hle hi ht=>?_) ?_
 obtain⟨-,hst,-⟩:=hle
 replace Fd:=Fd.step hst
 refine StepOp_plain<|op_indexAddr (q:=(rInt .i64)) ty31 ty3 (ht 90 rfl) (ht 91 rfl) Fd rfl hc325.1 hc325.2 ?_
 intro p326 f327
 exact Goes.same hi ⟨_,rfl,f327⟩
 refine Dw_op (VD _ _ (vI .i64) (r_.variables.getD i_2.toNat default)) (VD.stab _ _) (fun ρ328 w329 g hle hi ht=>?_) ?_
 obtain⟨p331,q332,f333⟩:=ht 92 rfl
 refine StepOp_plain<|op_loadP ty3 q332 f333 rfl ?_
 intro v334 h335
 obtain⟨rfl,Rj⟩:=un_int h335
 exact Goes.same hi (show Vr.vd (vI .i64) _ _ _ _ from⟨rfl,Rj⟩)
 obtain⟨hc343,hm⟩:=ck_some hm
 replace Fc:=Fc.step p299
 refine Dw_op (VP _ _ rXVariable (p.variables.getD (r_.variables.getD i_2.toNat default).toNat default)) (VP.stab _ _) (fun ρ337 w338 g hle hi ht=>?_) ?_
 obtain⟨-,hst,-⟩:=hle
 replace Fc:=Fc.step hst
 have h340:Vr.vd (vI .i64) _ _ _ _:=ht 93 rfl
 obtain⟨q341,Rk⟩:=h340
 refine StepOp_plain<|op_indexAddr (q:=rXVariable) ty24 ty61 (ht 88 rfl) q341 Fc rfl hc343.1 hc343.2 ?_
 intro p344 f345
 exact Goes.same hi ⟨_,rfl,f345⟩
 refine Dw_op (VD _ _ (vA rXVariable) (p.variables.getD (r_.variables.getD i_2.toNat default).toNat default)) (VD.stab _ _) (fun ρ346 w347 g hle hi ht=>?_) ?_
 obtain⟨p349,q350,f351⟩:=ht 94 rfl
 refine StepOp_plain<|op_loadPA ty61 q350 f351 rfl ?_
 intro vs352 h353
 obtain⟨_,_,rfl,⟨rfl,Rl⟩,⟨_,_,rfl,⟨rfl,Rm⟩,⟨_,_,rfl,⟨Am,Cm,rfl,Fm⟩,⟨An,Cn,rfl,Fn⟩⟩⟩⟩:=h353
 exact Goes.same hi (show Vr.vd (vA rXVariable) _ _ _ _ from(mkA (mkVia (mk_pair (mk_int Rl) (mk_pair (mk_int Rm) (mk_pair (mk_sl Fm) (mk_sl Fn)))))))
 refine Dw_op (VD _ _ (vC (rSl rXVariable)) [p.variables.getD (r_.variables.getD i_2.toNat default).toNat default]) (VD.stab _ _) (fun ρ355 w356 g hle hi ht=>?_) ?_
 have h358:Vr.vd (vA rXVariable) _ _ _ _:=ht 95 rfl
 obtain⟨_,q359,⟨_,_,rfl,⟨rfl,Rn⟩,⟨_,_,rfl,⟨rfl,Ro⟩,⟨_,_,rfl,⟨Ao,Co,rfl,Fo⟩,⟨Ap,Cp,rfl,Fp⟩⟩⟩⟩⟩:=h358
 refine StepOp_plain (op_buildSlice (cs:=[Iv ((p.variables.getD (r_.variables.getD i_2.toNat default).toNat default).flight),Iv ((p.variables.getD (r_.variables.getD i_2.toNat default).toNat default).node),Sl Ao ((p.variables.getD (r_.variables.getD i_2.toNat default).toNat default).leaves) Co,Sl Ap ((p.variables.getD (r_.variables.getD i_2.toNat default).toNat default).choices) Cp]) (parts:=[(0,.tmp 95)]) ty24 ty61 hi (by decide) (by simp only [List.map,(show ev _ (.tmp 95)=_ from q359)];rfl) ?_)
 intro b361 w362 hx365 p363 hs364
 replace Fp:=Fp.step p363;replace Fo:=Fo.step p363
 obtain⟨hs367,p368,f369⟩:=St.publish (q:=rXVariable) (i:=0) (o:=0) (c:=1) (xs:=[p.variables.getD (r_.variables.getD i_2.toNat default).toNat default]) hs364 rfl (show Els rXVariable _ _ [Iv ((p.variables.getD (r_.variables.getD i_2.toNat default).toNat default).flight),Iv ((p.variables.getD (r_.variables.getD i_2.toNat default).toNat default).node),Sl Ao ((p.variables.getD (r_.variables.getD i_2.toNat default).toNat default).leaves) Co,Sl Ap ((p.variables.getD (r_.variables.getD i_2.toNat default).toNat default).choices) Cp] [p.variables.getD (r_.variables.getD i_2.toNat default).toNat default] from⟨_,_,rfl,mkVia (mk_pair (mk_int Rn) (mk_pair (mk_int Ro) (mk_pair (mk_sl Fo) (mk_sl Fp)))),Els.nil⟩) (le_lit rfl) (le_lit rfl) (le_lit rfl)
 exact Goes.pub hi hs367 (Step.trans p363 p368) hx365 (show Vr.vd (vC (rSl rXVariable)) _ _ _ _ from mkC (mk_sl f369))
 refine Dw_nil fun w374 g375 hl376 hi377=>?_
 obtain⟨-,hst378,-⟩:=hl376
 obtain⟨hs380,p379⟩:=Step.nx hi377
 rintro v381 h382
 replace h382:Vr.vd (vC (rSl rXVariable)) _ _ _ _:=h382
 obtain⟨Aq,Cq,rfl,Fq⟩:=un_sl h382
 rintro v384 h385
 replace h385:Vr.vd (vA rXVariable) _ _ _ _:=h385
 obtain⟨_,rfl,⟨_,_,rfl,⟨rfl,Rp⟩,⟨_,_,rfl,⟨rfl,Rq⟩,⟨_,_,rfl,⟨Ar,Cr,rfl,Fr⟩,⟨As,Cs,rfl,Fs⟩⟩⟩⟩⟩:=h385
 rintro _ ⟨p387,rfl,f388⟩ v389 h390
 replace h390:Vr.vd (vI .i64) _ _ _ _:=h390
 obtain⟨rfl,Rr⟩:=h390
 rintro _ ⟨p392,rfl,f393⟩ _ rfl _ rfl _ rfl _ rfl _ rfl _ rfl _ rfl
 have p394:=hs293.to hs380 (hst378.trans p379)
 replace Fq:=Fq.step p379;replace Fr:=Fr.step p379;replace Fs:=Fs.step p379;replace f388:=f388.step p379;replace f393:=f393.step p379;clear hs293
 obtain⟨hc395,hm⟩:=ck_some hm
 obtain⟨ns396,he397,hr398⟩:=Fq.src
 replace Fl:=Fl.step p394
 refine Rop (op_append (q:=rXVariable) (i:=0) (xs:=v_1) (ys:=[p.variables.getD (r_.variables.getD i_2.toNat default).toNat default]) (news:=ns396) ty24 ty61 rfl (by decide) hs380 rfl rfl Fl rfl hr398 he397 hc395 (by have:=hc395;simp only [maxLen];omega) ?_)
 intro a402 c403 k404 o405 w399 p400 hs401 f406
 clear hs380
 refine Rop<|op_fA 2 ty26 rfl ty24 rfl rfl<|Rg_op_<|op_stC (Sl a402 (v_1++[p.variables.getD (r_.variables.getD i_2.toNat default).toNat default]) c403) (cs':=[Sl Aa p.cells Ca,Value.slice Ah hds_g131.length Ch,Sl a402 (v_1++[p.variables.getD (r_.variables.getD i_2.toNat default).toNat default]) c403]) Put.p2 ty24 hs401 rfl rfl rfl (le_lit rfl) rfl rfl ?_
 intro w407 p408 hs409
 clear hs401
 refine Rg_nil ?_
 clear Fq Fr Fs f388 f393
 refine Wp_region<|Mve (Iv i_2) rfl<|Rop<|op_addw rfl rfl<|Asg (Iv (IntKind.wrap .i64 (i_2+1))) rfl<|Rg_nil ?_
 have p410:=(p394.trans (p400.trans p408))
 replace ch297:=ch297.trans p410;replace f406:=f406.step p408
 exact hK288 _ _ ⟨(IntKind.wrap .i64 (i_2+1)),v_1++[p.variables.getD (r_.variables.getD i_2.toNat default).toNat default],a402,c403,k404,o405,_,rfl,Frm.of ⟨rfl,trivial⟩,ch297,hs409,(inK_wrap .i64 _),f406,jnE2 hsf287 hm⟩
 refine Wp_exit<|Wp_seq ?_
 obtain⟨hs411,p412⟩:=hs293.sub (bs':=(k_g284,o_g284)::(k_g131,o_g131)::(some b31,Oc [Sl Aa p.cells Ca,Value.slice Ah hds_g131.length Ch,Sl Al v_1 Cl] 26)::(some b11,Oc [Value.slice none 0 0,Value.slice none 0 0,Value.slice none 0 0] 26)::R_g131) (.cons_cons _ (.cons_cons _ (.cons_cons _ (.cons_cons _ (.cons _ (.cons _ (List.Sublist.refl _)))))))
 clear Fb Fc Fd Fe
 clear hs293
 refine Wp_region<|Rop<|op_ldA 2 ty26 hs411 rfl rfl rfl<|Rg_op_<|op_stA Put.p3 ty26 hs411 rfl rfl rfl rfl rfl ?_
 intro w413 p414 hs415
 clear hs411
 refine Asg (Iv 0) rfl<|Rg_nil<|Wp_ret ?_
 have p419:=(hst294.trans (p412.trans p414))
 replace fR_g131:=fR_g131.step p419;replace Fh:=Fh.step p419
 obtain⟨hs417,p418,f416⟩:=Rows.publish (bs:=[(k_g284,o_g284),(k_g131,o_g131),(some b31,Oc [Sl Aa p.cells Ca,Value.slice Ah hds_g131.length Ch,Sl Al v_1 Cl] 26),(some b11,Oc [Sl Aa p.cells Ca,Value.slice Ah hds_g131.length Ch,Sl Al v_1 Cl] 26)]) (R:=R_g131) (j:=1) hs415 fR_g131 rfl Fh
 replace hs417:St _ O w413 [(k_g284,o_g284),(some b31,Oc [Sl Aa p.cells Ca,Value.slice Ah hds_g131.length Ch,Sl Al v_1 Cl] 26),(some b11,Oc [Sl Aa p.cells Ca,Value.slice Ah hds_g131.length Ch,Sl Al v_1 Cl] 26)]:=hs417
 clear hs415
 have p423:=(p412.trans (p414.trans p418))
 replace Fl:=Fl.step p423
 obtain⟨hs421,p422,f420⟩:=Gs.publish (i:=0) hs417 rfl Fl
 clear hs417
 have hz:=step_all hs421
 refine⟨_,Clo,[Value.agg [Sl Aa p.cells Ca,Value.slice Ah hds_g131.length Ch,Sl Al v_1 Cl].toArray,Iv 0],⟨resA (cs:=[Sl Aa p.cells Ca,Value.slice Ah hds_g131.length Ch,Sl Al v_1 Cl]) (vs:=[Sl Aa p.cells Ca,Value.slice Ah hds_g131.length Ch,Sl Al v_1 Cl]) ty26 (i:=1) hs421 rfl rfl rfl rfl,rfl,trivial⟩,hs421.ext,?_⟩
 replace f416:=f416.step (p422.trans hz);replace f420:=f420.step hz
 replace Fa:=Fa.step (p299.trans (p412.trans (p414.trans (p418.trans (p422.trans hz)))))
 exact Vr.eq (a:=vT2 (vA rXProblem) (vI .i64)) (x:=((⟨p.cells,rows_2,v_1⟩:XProblem),0)) (mkT2 (mkA (mkVia (mk_pair (mk_sl Fa) (mk_pair (mk_slL lh_g131 f416) (mk_sl f420))))) ⟨rfl,(show InK .i64 0 from by decide)⟩) (oi hm)

abbrev q54_0:List Nat:=[4,5,11,12,13,14,15,16,17,18,19,20,21,22,23,24,25]

def m54_overflightref27_SameInts_B0 (a:List Int) (b:List Int) (sf6:Int→Option Bool) (i_1:Int):Option Bool:=
 bif (decide (i_1<(a.length:Int))) then
  ck ((0:Int)≤i_1∧i_1<(a.length:Int))<|
  ck ((0:Int)≤i_1∧i_1<(b.length:Int))<|
  bif (decide ((a.getD i_1.toNat default)≠(b.getD i_1.toNat default))) then
   some false
  else
   sf6 (IntKind.wrap .i64 (i_1+1))
 else
  some true

def m54_overflightref27_SameInts (a:List Int) (b:List Int):Option Bool:=
 bif (decide ((a.length:Int)≠(b.length:Int))) then
  some false
 else
  loop1 (m54_overflightref27_SameInts_B0 a b) (((a.length:Int) - 0).toNat+1) 0

theorem c54_overflightref27_SameInts {w:World} {O:List Nat} {a:List Int} {b:List Int} {Aa:Option Addr} {Ca:Nat} {Ab:Option Addr} {Cb:Nat} (hO:∀k∈O,k<w.heap.size) (Fa:SlR (rInt .i64) w O Aa Ca a) (Fb:SlR (rInt .i64) w O Ab Cb b) {x:Bool} (hm:m54_overflightref27_SameInts a b=some x):
 Ok Try.prog 54 [Sl Aa a Ca,Sl Ab b Cb] w O vB x:=by
 unfold m54_overflightref27_SameInts at hm
 refine Fn_of_Wp (n:=26) (xs:=[.tmp 4]) Try.func54 rfl Try.ntmps54 Try.results54 rfl ?_
 have hs:=St.start hO
 refine Wp_seq<|Wp_region<|Asg (Bo false) rfl<|Rg_nil<|Wp_seq<|Wp_seq<|Wp_region<|Mve (Sl Aa a Ca) rfl<|Rop<|op_len Try.underlying31 rfl ?_
 have rl1:=inK_len Fa
 refine Mve (Sl Ab b Cb) rfl<|Rop<|op_len Try.underlying31 rfl ?_
 have rl2:=inK_len Fb
 refine Rop<|op_neq rfl rfl<|Rg_nil<|Wp_condM hm rfl (fun hc3 hm=>?_) (fun hc3 hm=>?_)
 refine Wp_seq ?_
 clear Fa Fb
 refine Wp_region<|Asg (Bo false) rfl<|Rg_nil<|Wp_ret<|⟨_,Clo,[Bo false],⟨rfl,trivial⟩,hs.ext,?_⟩
 exact Vr.eq (a:=vB) (x:=false) rfl (oi hm)
 refine Wp_skip<|Wp_seq<|Wp_seq<|Wp_region<|Asg (Iv 0) rfl<|Rg_nil<|Wp_block<|Wr [] [(0,Sl Aa a Ca),(1,Sl Ab b Cb),(5,Iv 0)] fun ξ5=>Wp_loopM q54_0 (fun m fr w'=>∃(i_1:Int) (Ebs:Ents),Ebs=[]∧fr [] [(5,Iv i_1)]∧hs.S (ks Ebs O) w'∧St ⟨w,[],[]⟩ O w' Ebs∧InK .i64 i_1∧loop1 (m54_overflightref27_SameInts_B0 a b) m i_1=some x) (((a.length:Int) - 0).toNat+1) ⟨0,_,rfl,Frm.of ⟨rfl,trivial⟩,Step.refl _ _,hs,(show InK .i64 0 from by decide),hm⟩ ?_ ?_
 rintro _ _ ⟨_,_,_,_,_,_,_,hm⟩;exact loop1_z hm
 rintro m9 K8 hK8 ρ14 w10 ⟨i_1,_,rfl,hfr13,hst12,hs11,Ra,hm⟩
 obtain⟨sf6,hsf7,hm⟩:=loop1_s hm;unfold m54_overflightref27_SameInts_B0 at hm
 rw [hfr13.eq];clear hfr13
 have ch15:=hst12
 refine Wp_seq<|Wp_seq<|Wp_region<|Mve (Iv i_1) rfl<|Mve (Sl Aa a Ca) rfl<|Rop<|op_len Try.underlying31 rfl ?_
 replace Fa:=Fa.step hst12
 have rl16:=inK_len Fa
 refine Rop<|op_lss rfl rfl<|Rg_nil<|Wp_condM hm rfl (fun hc17 hm=>?_) (fun hc17 hm=>?_)
 refine Wp_skip<|Wp_seq<|Wp_block<|Wp_seq<|Wp_drawR (g0:=[]) (m:=8) (fl:=[]) (TS_inv hs11) rfl (.inl rfl) rfl (by decide+kernel) ?_  -- 6
 refine Dw_p (Sl Aa a Ca) (fun _ _ _ hi ht=>op_move (v:=Sl Aa a Ca) (ht 0 rfl)<|Gz hi)<|Dw_p (Iv i_1) (fun _ _ _ hi ht=>op_move (v:=Iv i_1) (ht 5 rfl)<|Gz hi) ?_
 obtain⟨hc27,hm⟩:=ck_some hm
 refine Dw_op (VP _ _ (rInt .i64) (a.getD i_1.toNat default)) (VP.stab _ _) (fun ρ24 w25 g hle hi ht=>?_) ?_
 obtain⟨-,hst,-⟩:=hle
 replace Fa:=Fa.step hst
 refine StepOp_plain<|op_indexAddr (q:=(rInt .i64)) ty31 ty3 (ht 17 rfl) (ht 18 rfl) Fa rfl hc27.1 hc27.2 ?_
 intro p28 f29
 exact Goes.same hi ⟨_,rfl,f29⟩
 refine Dw_op (VD _ _ (vI .i64) (a.getD i_1.toNat default)) (VD.stab _ _) (fun ρ30 w31 g hle hi ht=>?_) ?_
 obtain⟨p33,q34,f35⟩:=ht 19 rfl
 refine StepOp_plain<|op_loadP ty3 q34 f35 rfl ?_
 intro v36 h37
 obtain⟨rfl,Rb⟩:=un_int h37
 exact Goes.same hi (show Vr.vd (vI .i64) _ _ _ _ from⟨rfl,Rb⟩)
 refine Dw_p (Sl Ab b Cb) (fun _ _ _ hi ht=>op_move (v:=Sl Ab b Cb) (ht 1 rfl)<|Gz hi)<|Dw_p (Iv i_1) (fun _ _ _ hi ht=>op_move (v:=Iv i_1) (ht 5 rfl)<|Gz hi) ?_
 obtain⟨hc48,hm⟩:=ck_some hm
 replace Fb:=Fb.step hst12
 refine Dw_op (VP _ _ (rInt .i64) (b.getD i_1.toNat default)) (VP.stab _ _) (fun ρ45 w46 g hle hi ht=>?_) ?_
 obtain⟨-,hst,-⟩:=hle
 replace Fb:=Fb.step hst
 refine StepOp_plain<|op_indexAddr (q:=(rInt .i64)) ty31 ty3 (ht 21 rfl) (ht 22 rfl) Fb rfl hc48.1 hc48.2 ?_
 intro p49 f50
 exact Goes.same hi ⟨_,rfl,f50⟩
 refine Dw_op (VD _ _ (vI .i64) (b.getD i_1.toNat default)) (VD.stab _ _) (fun ρ51 w52 g hle hi ht=>?_) ?_
 obtain⟨p54,q55,f56⟩:=ht 23 rfl
 refine StepOp_plain<|op_loadP ty3 q55 f56 rfl ?_
 intro v57 h58
 obtain⟨rfl,Rc⟩:=un_int h58
 exact Goes.same hi (show Vr.vd (vI .i64) _ _ _ _ from⟨rfl,Rc⟩)
 refine Dw_nil fun w64 g65 hl66 hi67=>?_
 obtain⟨-,hst68,-⟩:=hl66
 obtain⟨hs70,p69⟩:=Step.nx hi67
 rintro v71 h72
 replace h72:Vr.vd (vI .i64) _ _ _ _:=h72
 obtain⟨rfl,Rd⟩:=h72
 rintro _ ⟨p74,rfl,f75⟩ _ rfl _ rfl v76 h77
 replace h77:Vr.vd (vI .i64) _ _ _ _:=h77
 obtain⟨rfl,Re⟩:=h77
 rintro _ ⟨p79,rfl,f80⟩ _ rfl _ rfl
 have p81:=hs11.to hs70 (hst68.trans p69)
 replace f75:=f75.step p69;replace f80:=f80.step p69;clear hs11
 refine Rop<|op_neq rfl rfl<|Rg_nil<|Wp_condM hm rfl (fun hc82 hm=>?_) (fun hc82 hm=>?_)
 refine Wp_seq ?_
 clear Fa Fb f75 f80
 refine Wp_region<|Asg (Bo false) rfl<|Rg_nil<|Wp_ret<|⟨_,Clo,[Bo false],⟨rfl,trivial⟩,hs70.ext,?_⟩
 exact Vr.eq (a:=vB) (x:=false) rfl (oi hm)
 refine Wp_skip ?_
 clear f75 f80
 refine Wp_region<|Mve (Iv i_1) rfl<|Rop<|op_addw rfl rfl<|Asg (Iv (IntKind.wrap .i64 (i_1+1))) rfl<|Rg_nil ?_
 replace ch15:=ch15.trans p81
 exact hK8 _ _ ⟨(IntKind.wrap .i64 (i_1+1)),_,rfl,Frm.of ⟨rfl,trivial⟩,ch15,hs70,(inK_wrap .i64 _),jnE1 hsf7 hm⟩
 refine Wp_exit<|Wp_seq ?_
 clear Fa Fb
 refine Wp_region<|Asg (Bo true) rfl<|Rg_nil<|Wp_ret<|⟨_,Clo,[Bo true],⟨rfl,trivial⟩,hs11.ext,?_⟩
 exact Vr.eq (a:=vB) (x:=true) rfl (oi hm)

abbrev q22_7:List Nat:=[4,5,39,40,41,42,43,44,45,46,47,48,49,50,51,52,53,54,55,56]

abbrev q22_6:List Nat:=[4,6,57,58,59,60,61,62,63,64,65,66,67,68,69,70,71,72,73,74,75]

abbrev q22_3:List Nat:=[4,13,167,168,169,170,171,172,173,174,175,176,177,178,179,180,181,182,183,184]

abbrev q22_2:List Nat:=[139,140,141,142,143,144,145,146,147,148,149,150,151,152,153,154,155,156,157,158,159,160,161,162,163,164,165,166]

abbrev q22_4:List Nat:=[4,10,11,12,13,122,123,124,125,126,127,128,129,130,131,132,133,134,135,136,137,138,139,140,141,142,143,144,145,146,147,148,149,150,151,152,153,154,155,156,157,158,159,160,161,162,163,164,165,166,167,168,169,170,171,172,173,174,175,176,177,178,179,180,181,182,183,184]

abbrev q22_1:List Nat:=[93,94,95,96,97,98,99,100,101,102,103,104,105,106,107,108,109,110,111,112,113,114,115,116,117,118,119,120,121]

abbrev q22_5:List Nat:=[4,7,8,9,10,11,12,13,76,77,78,79,80,81,82,83,84,85,86,87,88,89,90,91,92,93,94,95,96,97,98,99,100,101,102,103,104,105,106,107,108,109,110,111,112,113,114,115,116,117,118,119,120,121,122,123,124,125,126,127,128,129,130,131,132,133,134,135,136,137,138,139,140,141,142,143,144,145,146,147,148,149,150,151,152,153,154,155,156,157,158,159,160,161,162,163,164,165,166,167,168,169,170,171,172,173,174,175,176,177,178,179,180,181,182,183,184]

abbrev q22_0:List Nat:=[14,15,16,17,18,19,20,21,22,23,24,25,26,27,28,29,30,31,32,33,34,35,36,37,38]

def m22_overflightref32_SameProblem_B4 (a:XProblem) (b:XProblem) (i_3:Int) (k_1:Int) (sf262:Int→Option Bool) (sf317:Int→Option Bool) (n_1:Int):Option Bool:=
 bif (decide (n_1<(((((a.variables.getD i_3.toNat default).choices).getD k_1.toNat default).uses).length:Int))) then
  ck ((0:Int)≤n_1∧n_1<(((((a.variables.getD i_3.toNat default).choices).getD k_1.toNat default).uses).length:Int))<|
  ck ((0:Int)≤n_1∧n_1<(((((b.variables.getD i_3.toNat default).choices).getD k_1.toNat default).uses).length:Int))<|
  bif (!(decide ((⟨(⟨(((((a.variables.getD i_3.toNat default).choices).getD k_1.toNat default).uses).getD n_1.toNat default).cell,(((((a.variables.getD i_3.toNat default).choices).getD k_1.toNat default).uses).getD n_1.toNat default).places⟩:XUse).cell,(⟨(((((a.variables.getD i_3.toNat default).choices).getD k_1.toNat default).uses).getD n_1.toNat default).cell,(((((a.variables.getD i_3.toNat default).choices).getD k_1.toNat default).uses).getD n_1.toNat default).places⟩:XUse).places⟩:XUse)=(⟨(⟨(((((b.variables.getD i_3.toNat default).choices).getD k_1.toNat default).uses).getD n_1.toNat default).cell,(((((b.variables.getD i_3.toNat default).choices).getD k_1.toNat default).uses).getD n_1.toNat default).places⟩:XUse).cell,(⟨(((((b.variables.getD i_3.toNat default).choices).getD k_1.toNat default).uses).getD n_1.toNat default).cell,(((((b.variables.getD i_3.toNat default).choices).getD k_1.toNat default).uses).getD n_1.toNat default).places⟩:XUse).places⟩:XUse)))) then
   some false
  else
   sf317 (IntKind.wrap .i64 (n_1+1))
 else
  sf262 (IntKind.wrap .i64 (k_1+1))

def m22_overflightref32_SameProblem_B3 (a:XProblem) (b:XProblem) (i_3:Int) (sf207:Int→Option Bool) (sf262:Int→Option Bool) (k_1:Int):Option Bool:=
 bif (decide (k_1<(((a.variables.getD i_3.toNat default).choices).length:Int))) then
  ck ((0:Int)≤k_1∧k_1<(((a.variables.getD i_3.toNat default).choices).length:Int))<|
  ck ((0:Int)≤k_1∧k_1<(((b.variables.getD i_3.toNat default).choices).length:Int))<|
  jn (fun(v_3:Bool)=>
   bif v_3 then
    some false
   else
    loop1 (m22_overflightref32_SameProblem_B4 a b i_3 k_1 sf262) (((((((a.variables.getD i_3.toNat default).choices).getD k_1.toNat default).uses).length:Int) - 0).toNat+1) 0)
  (fun k306=>
   bif (decide (((((a.variables.getD i_3.toNat default).choices).getD k_1.toNat default).delay)≠((((b.variables.getD i_3.toNat default).choices).getD k_1.toNat default).delay))) then
    k306 true
   else
    bif (decide (((((a.variables.getD i_3.toNat default).choices).getD k_1.toNat default).cost)≠((((b.variables.getD i_3.toNat default).choices).getD k_1.toNat default).cost))) then
     k306 true
    else
     bif (decide (((((a.variables.getD i_3.toNat default).choices).getD k_1.toNat default).changes)≠((((b.variables.getD i_3.toNat default).choices).getD k_1.toNat default).changes))) then
      k306 true
     else
      k306 (decide ((((((a.variables.getD i_3.toNat default).choices).getD k_1.toNat default).uses).length:Int)≠(((((b.variables.getD i_3.toNat default).choices).getD k_1.toNat default).uses).length:Int))))
 else
  sf207 (IntKind.wrap .i64 (i_3+1))

def m22_overflightref32_SameProblem_B2 (a:XProblem) (b:XProblem) (sf207:Int→Option Bool) (i_3:Int):Option Bool:=
 bif (decide (i_3<(a.variables.length:Int))) then
  ck ((0:Int)≤i_3∧i_3<(a.variables.length:Int))<|
  ck ((0:Int)≤i_3∧i_3<(b.variables.length:Int))<|
  jn (fun(v_2:Bool)=>
   bif v_2 then
    some false
   else
    loop1 (m22_overflightref32_SameProblem_B3 a b i_3 sf207) (((((a.variables.getD i_3.toNat default).choices).length:Int) - 0).toNat+1) 0)
  (fun k251=>
   bif (decide (((a.variables.getD i_3.toNat default).flight)≠((b.variables.getD i_3.toNat default).flight))) then
    k251 true
   else
    bif (decide (((a.variables.getD i_3.toNat default).node)≠((b.variables.getD i_3.toNat default).node))) then
     k251 true
    else
     (m54_overflightref27_SameInts ((a.variables.getD i_3.toNat default).leaves) ((b.variables.getD i_3.toNat default).leaves)).bind fun sameints_2=>
     bif (!sameints_2) then
      k251 true
     else
      k251 (decide ((((a.variables.getD i_3.toNat default).choices).length:Int)≠(((b.variables.getD i_3.toNat default).choices).length:Int))))
 else
  some true

def m22_overflightref32_SameProblem_B1 (a:XProblem) (b:XProblem) (sf112:Int→Option Bool) (i_2:Int):Option Bool:=
 bif (decide (i_2<(a.capacity.length:Int))) then
  ck ((0:Int)≤i_2∧i_2<(a.capacity.length:Int))<|
  ck ((0:Int)≤i_2∧i_2<(b.capacity.length:Int))<|
  (m54_overflightref27_SameInts (a.capacity.getD i_2.toNat default) (b.capacity.getD i_2.toNat default)).bind fun sameints_1=>
  bif (!sameints_1) then
   some false
  else
   sf112 (IntKind.wrap .i64 (i_2+1))
 else
  loop1 (m22_overflightref32_SameProblem_B2 a b) (((a.variables.length:Int) - 0).toNat+1) 0

def m22_overflightref32_SameProblem_B0 (a:XProblem) (b:XProblem) (sf26:Int→Option Bool) (i_1:Int):Option Bool:=
 bif (decide (i_1<(a.cells.length:Int))) then
  ck ((0:Int)≤i_1∧i_1<(a.cells.length:Int))<|
  ck ((0:Int)≤i_1∧i_1<(b.cells.length:Int))<|
  bif (!(decide ((a.cells.getD i_1.toNat default)=(b.cells.getD i_1.toNat default)))) then
   some false
  else
   sf26 (IntKind.wrap .i64 (i_1+1))
 else
  loop1 (m22_overflightref32_SameProblem_B1 a b) (((a.capacity.length:Int) - 0).toNat+1) 0

def m22_overflightref32_SameProblem (a:XProblem) (b:XProblem):Option Bool:=
 jn (fun(v_1:Bool)=>
  bif v_1 then
   some false
  else
   loop1 (m22_overflightref32_SameProblem_B0 a b) (((a.cells.length:Int) - 0).toNat+1) 0)
 (fun k13=>
  bif (decide ((a.cells.length:Int)≠(b.cells.length:Int))) then
   k13 true
  else
   bif (decide ((a.capacity.length:Int)≠(b.capacity.length:Int))) then
    k13 true
   else
    k13 (decide ((a.variables.length:Int)≠(b.variables.length:Int))))

theorem c22_overflightref32_SameProblem {w:World} {O:List Nat} {a:XProblem} {b:XProblem} {Aa:Option Addr} {Ca:Nat} {Ab:Option Addr} {Cb:Nat} {Ac:Option Addr} {Cc:Nat} {Ad:Option Addr} {Cd:Nat} {Ae:Option Addr} {Ce:Nat} {Af:Option Addr} {Cf:Nat} (hO:∀k∈O,k<w.heap.size) (Fa:SlR rXCell w O Aa Ca a.cells) (Fb:SlR (rSl (rInt .i64)) w O Ab Cb a.capacity) (Fc:SlR rXVariable w O Ac Cc a.variables) (Fd:SlR rXCell w O Ad Cd b.cells) (Fe:SlR (rSl (rInt .i64)) w O Ae Ce b.capacity) (Ff:SlR rXVariable w O Af Cf b.variables) {x:Bool} (hm:m22_overflightref32_SameProblem a b=some x):
 Ok Try.prog 22 [Value.agg [Sl Aa a.cells Ca,Sl Ab a.capacity Cb,Sl Ac a.variables Cc].toArray,Value.agg [Sl Ad b.cells Cd,Sl Ae b.capacity Ce,Sl Af b.variables Cf].toArray] w O vB x:=by
 unfold m22_overflightref32_SameProblem at hm
 refine Fn_of_Wp (n:=185) (xs:=[.tmp 4]) Try.func22 rfl Try.ntmps22 Try.results22 rfl ?_
 have hs:=St.start hO
 refine Wp_seq<|Wp_region<|Rop<|op_box (cs:=[Sl Aa a.cells Ca,Sl Ab a.capacity Cb,Sl Ac a.variables Cc]) hs rfl rfl ?_
 intro b1 w2 _ p3 hs4
 refine Rop<|op_box (cs:=[Sl Ad b.cells Cd,Sl Ae b.capacity Ce,Sl Af b.variables Cf]) hs4 rfl rfl ?_
 intro b6 w7 _ p8 hs9
 clear hs4
 refine Asg (Bo false) rfl<|Rg_nil<|Wp_seq<|Wr [] [(2,Pt b1 0),(3,Pt b6 0)] fun ξ11=>?_
 obtain⟨k13,hk14,hm⟩:=jn_elim hm
 refine Wp_seqJ q22_0 (fun fr w'=>∃(v_1:Bool) (Ebs:Ents),Ebs=[(some b6,Oc [Sl Ad b.cells Cd,Sl Ae b.capacity Ce,Sl Af b.variables Cf] 26),(some b1,Oc [Sl Aa a.cells Ca,Sl Ab a.capacity Cb,Sl Ac a.variables Cc] 26)]∧fr [] [(38,Bo v_1)]∧hs9.S (ks Ebs O) w'∧St ⟨w,[],[]⟩ O w' Ebs∧k13 v_1=some x) ?_ ?_
 rintro ρ20 w16 ⟨v_1,_,rfl,hfr19,hst18,hs17,hm⟩
 replace hm:=jnE1 hk14 hm
 rw [hfr19.eq];clear hfr19
 refine Wp_condM hm rfl (fun hc21 hm=>?_) (fun hc21 hm=>?_)
 refine Wp_seq ?_
 obtain⟨hs22,p23⟩:=hs17.sub (bs':=[]) (.cons _ (.cons _ List.Sublist.slnil))
 clear Fa Fb Fc Fd Fe Ff
 clear hs17
 refine Wp_region<|Asg (Bo false) rfl<|Rg_nil<|Wp_ret<|⟨_,Clo,[Bo false],⟨rfl,trivial⟩,hs22.ext,?_⟩
 exact Vr.eq (a:=vB) (x:=false) rfl (oi hm)
 refine Wp_skip<|Wp_seq<|Wp_seq<|Wp_region<|Asg (Iv 0) rfl<|Rg_nil<|Wp_block<|Wr [] [(2,Pt b1 0),(3,Pt b6 0),(5,Iv 0)] fun ξ25=>Wp_loopM q22_7 (fun m fr w'=>∃(i_1:Int) (Ebs:Ents),Ebs=[(some b6,Oc [Sl Ad b.cells Cd,Sl Ae b.capacity Ce,Sl Af b.variables Cf] 26),(some b1,Oc [Sl Aa a.cells Ca,Sl Ab a.capacity Cb,Sl Ac a.variables Cc] 26)]∧fr [] [(5,Iv i_1)]∧hs17.S (ks Ebs O) w'∧St ⟨w,[],[]⟩ O w' Ebs∧InK .i64 i_1∧loop1 (m22_overflightref32_SameProblem_B0 a b) m i_1=some x) (((a.cells.length:Int) - 0).toNat+1) ⟨0,_,rfl,Frm.of ⟨rfl,trivial⟩,Step.refl _ _,hs17,(show InK .i64 0 from by decide),hm⟩ ?_ ?_
 rintro _ _ ⟨_,_,_,_,_,_,_,hm⟩;exact loop1_z hm
 rintro m29 K28 hK28 ρ34 w30 ⟨i_1,_,rfl,hfr33,hst32,hs31,Ra,hm⟩
 obtain⟨sf26,hsf27,hm⟩:=loop1_s hm;unfold m22_overflightref32_SameProblem_B0 at hm
 rw [hfr33.eq];clear hfr33
 have ch35:=hst32
 refine Wp_seq<|Wp_seq<|Wp_region<|Mve (Iv i_1) rfl<|Rop<|op_fA 0 ty26 rfl ty22 rfl rfl<|Rop<|op_ld 1 ty22 hs31 rfl rfl rfl<|Rop<|op_len Try.underlying22 rfl ?_
 have p37:=(p3.trans (p8.trans (hst18.trans hst32)))
 replace Fa:=Fa.step p37
 have rl36:=inK_len Fa
 refine Rop<|op_lss rfl rfl<|Rg_nil<|Wp_condM hm rfl (fun hc38 hm=>?_) (fun hc38 hm=>?_)
 refine Wp_skip<|Wp_seq<|Wp_block<|Wp_seq<|Wp_drawR (g0:=[]) (m:=10) (fl:=[]) (TS_inv hs31) rfl (.inl rfl) rfl (by decide+kernel) ?_  -- 6
 refine Dw_p (Pt b1 0) (fun _ _ _ hi ht=>op_fA 0 ty26 rfl ty22 (ht 2 rfl) rfl<|Gz hi)<|Dw_p (Sl Aa a.cells Ca) (fun _ _ _ hi ht=>op_ld 1 ty22 (Step.nx hi).1 (ht 46 rfl) rfl rfl<|Gz hi)<|Dw_p (Iv i_1) (fun _ _ _ hi ht=>op_move (v:=Iv i_1) (ht 5 rfl)<|Gz hi) ?_
 obtain⟨hc51,hm⟩:=ck_some hm
 refine Dw_op (VP _ _ rXCell (a.cells.getD i_1.toNat default)) (VP.stab _ _) (fun ρ48 w49 g hle hi ht=>?_) ?_
 obtain⟨-,hst,-⟩:=hle
 replace Fa:=Fa.step hst
 refine StepOp_plain<|op_indexAddr (q:=rXCell) ty22 ty67 (ht 47 rfl) (ht 48 rfl) Fa rfl hc51.1 hc51.2 ?_
 intro p52 f53
 exact Goes.same hi ⟨_,rfl,f53⟩
 refine Dw_op (VD _ _ (vA rXCell) (a.cells.getD i_1.toNat default)) (VD.stab _ _) (fun ρ54 w55 g hle hi ht=>?_) ?_
 obtain⟨p57,q58,f59⟩:=ht 49 rfl
 refine StepOp_plain<|op_loadPA ty67 q58 f59 rfl ?_
 intro vs60 h61
 obtain⟨_,_,rfl,rfl,⟨_,_,rfl,⟨rfl,Rb⟩,⟨rfl,Rc⟩⟩⟩:=h61
 exact Goes.same hi (show Vr.vd (vA rXCell) _ _ _ _ from(mkA (mkVia (mk_pair mkBool (mk_pair (mk_int Rb) (mk_int Rc))))))
 refine Dw_p (Pt b6 0) (fun _ _ _ hi ht=>op_fA 0 ty26 rfl ty22 (ht 3 rfl) rfl<|Gz hi)<|Dw_p (Sl Ad b.cells Cd) (fun _ _ _ hi ht=>op_ld 0 ty22 (Step.nx hi).1 (ht 51 rfl) rfl rfl<|Gz hi)<|Dw_p (Iv i_1) (fun _ _ _ hi ht=>op_move (v:=Iv i_1) (ht 5 rfl)<|Gz hi) ?_
 obtain⟨hc75,hm⟩:=ck_some hm
 replace Fd:=Fd.step p37
 refine Dw_op (VP _ _ rXCell (b.cells.getD i_1.toNat default)) (VP.stab _ _) (fun ρ72 w73 g hle hi ht=>?_) ?_
 obtain⟨-,hst,-⟩:=hle
 replace Fd:=Fd.step hst
 refine StepOp_plain<|op_indexAddr (q:=rXCell) ty22 ty67 (ht 52 rfl) (ht 53 rfl) Fd rfl hc75.1 hc75.2 ?_
 intro p76 f77
 exact Goes.same hi ⟨_,rfl,f77⟩
 refine Dw_op (VD _ _ (vA rXCell) (b.cells.getD i_1.toNat default)) (VD.stab _ _) (fun ρ78 w79 g hle hi ht=>?_) ?_
 obtain⟨p81,q82,f83⟩:=ht 54 rfl
 refine StepOp_plain<|op_loadPA ty67 q82 f83 rfl ?_
 intro vs84 h85
 obtain⟨_,_,rfl,rfl,⟨_,_,rfl,⟨rfl,Rd⟩,⟨rfl,Re⟩⟩⟩:=h85
 exact Goes.same hi (show Vr.vd (vA rXCell) _ _ _ _ from(mkA (mkVia (mk_pair mkBool (mk_pair (mk_int Rd) (mk_int Re))))))
 refine Dw_nil fun w91 g92 hl93 hi94=>?_
 obtain⟨-,hst95,-⟩:=hl93
 obtain⟨hs97,p96⟩:=Step.nx hi94
 rintro v98 h99
 replace h99:Vr.vd (vA rXCell) _ _ _ _:=h99
 obtain⟨_,rfl,⟨_,_,rfl,rfl,⟨_,_,rfl,⟨rfl,Rf⟩,⟨rfl,Rg⟩⟩⟩⟩:=h99
 rintro _ ⟨p101,rfl,f102⟩ _ rfl _ rfl _ rfl v103 h104
 replace h104:Vr.vd (vA rXCell) _ _ _ _:=h104
 obtain⟨_,rfl,⟨_,_,rfl,rfl,⟨_,_,rfl,⟨rfl,Rh⟩,⟨rfl,Ri⟩⟩⟩⟩:=h104
 rintro _ ⟨p106,rfl,f107⟩ _ rfl _ rfl _ rfl
 have p108:=hs31.to hs97 (hst95.trans p96)
 replace f102:=f102.step p96;replace f107:=f107.step p96;clear hs31
 refine Rop<|op_neqA (c:=decide ((a.cells.getD i_1.toNat default)=(b.cells.getD i_1.toNat default))) rfl rfl eqg67 (eqv67 9998 (a.cells.getD i_1.toNat default) (b.cells.getD i_1.toNat default) _)<|Rg_nil<|Wp_condM hm rfl (fun hc109 hm=>?_) (fun hc109 hm=>?_)
 refine Wp_seq ?_
 clear f102 f107
 refine Wp_region<|Asg (Bo false) rfl<|Rg_nil<|Wp_ret<|⟨_,Clo,[Bo false],⟨rfl,trivial⟩,hs97.ext,?_⟩
 exact Vr.eq (a:=vB) (x:=false) rfl (oi hm)
 refine Wp_skip ?_
 clear f102 f107
 refine Wp_region<|Mve (Iv i_1) rfl<|Rop<|op_addw rfl rfl<|Asg (Iv (IntKind.wrap .i64 (i_1+1))) rfl<|Rg_nil ?_
 replace ch35:=ch35.trans p108
 exact hK28 _ _ ⟨(IntKind.wrap .i64 (i_1+1)),_,rfl,Frm.of ⟨rfl,trivial⟩,ch35,hs97,(inK_wrap .i64 _),jnE1 hsf27 hm⟩
 refine Wp_exit<|Wp_seq<|Wp_seq<|Wp_region<|Asg (Iv 0) rfl<|Rg_nil<|Wp_block<|Wr [] [(2,Pt b1 0),(3,Pt b6 0),(6,Iv 0)] fun ξ111=>Wp_loopM q22_6 (fun m fr w'=>∃(i_2:Int) (Ebs:Ents),Ebs=[(some b6,Oc [Sl Ad b.cells Cd,Sl Ae b.capacity Ce,Sl Af b.variables Cf] 26),(some b1,Oc [Sl Aa a.cells Ca,Sl Ab a.capacity Cb,Sl Ac a.variables Cc] 26)]∧fr [] [(6,Iv i_2)]∧hs31.S (ks Ebs O) w'∧St ⟨w,[],[]⟩ O w' Ebs∧InK .i64 i_2∧loop1 (m22_overflightref32_SameProblem_B1 a b) m i_2=some x) (((a.capacity.length:Int) - 0).toNat+1) ⟨0,_,rfl,Frm.of ⟨rfl,trivial⟩,Step.refl _ _,hs31,(show InK .i64 0 from by decide),hm⟩ ?_ ?_
 rintro _ _ ⟨_,_,_,_,_,_,_,hm⟩;exact loop1_z hm
 rintro m115 K114 hK114 ρ120 w116 ⟨i_2,_,rfl,hfr119,hst118,hs117,Rj,hm⟩
 obtain⟨sf112,hsf113,hm⟩:=loop1_s hm;unfold m22_overflightref32_SameProblem_B1 at hm
 rw [hfr119.eq];clear hfr119
 have ch121:=hst118
 refine Wp_seq<|Wp_seq<|Wp_region<|Mve (Iv i_2) rfl<|Rop<|op_fA 1 ty26 rfl ty23 rfl rfl<|Rop<|op_ld 1 ty23 hs117 rfl rfl rfl<|Rop<|op_len Try.underlying23 rfl ?_
 have p123:=(p37.trans hst118)
 replace Fb:=Fb.step p123
 have rl122:=inK_len Fb
 refine Rop<|op_lss rfl rfl<|Rg_nil<|Wp_condM hm rfl (fun hc124 hm=>?_) (fun hc124 hm=>?_)
 refine Wp_skip<|Wp_seq<|Wp_block<|Wp_seq<|Wp_drawR (g0:=[]) (m:=10) (fl:=[]) (TS_inv hs117) rfl (.inl rfl) rfl (by decide+kernel) ?_  -- 11
 refine Dw_p (Pt b1 1) (fun _ _ _ hi ht=>op_fA 1 ty26 rfl ty23 (ht 2 rfl) rfl<|Gz hi)<|Dw_p (Sl Ab a.capacity Cb) (fun _ _ _ hi ht=>op_ld 1 ty23 (Step.nx hi).1 (ht 64 rfl) rfl rfl<|Gz hi)<|Dw_p (Iv i_2) (fun _ _ _ hi ht=>op_move (v:=Iv i_2) (ht 6 rfl)<|Gz hi) ?_
 obtain⟨hc137,hm⟩:=ck_some hm
 refine Dw_op (VP _ _ (rSl (rInt .i64)) (a.capacity.getD i_2.toNat default)) (VP.stab _ _) (fun ρ134 w135 g hle hi ht=>?_) ?_
 obtain⟨-,hst,-⟩:=hle
 replace Fb:=Fb.step hst
 refine StepOp_plain<|op_indexAddr (q:=rSl (rInt .i64)) ty23 ty31 (ht 65 rfl) (ht 66 rfl) Fb rfl hc137.1 hc137.2 ?_
 intro p138 f139
 exact Goes.same hi ⟨_,rfl,f139⟩
 refine Dw_op (VD _ _ (vC (rSl (rInt .i64))) (a.capacity.getD i_2.toNat default)) (VD.stab _ _) (fun ρ140 w141 g hle hi ht=>?_) ?_
 obtain⟨p143,q144,f145⟩:=ht 67 rfl
 refine StepOp_plain<|op_loadP ty31 q144 f145 rfl ?_
 intro v146 h147
 obtain⟨Ag,Cg,rfl,Fg⟩:=un_sl h147
 exact Goes.same hi (show Vr.vd (vC (rSl (rInt .i64))) _ _ _ _ from(mkC (mk_sl Fg)))
 refine Dw_p (Pt b6 1) (fun _ _ _ hi ht=>op_fA 1 ty26 rfl ty23 (ht 3 rfl) rfl<|Gz hi)<|Dw_p (Sl Ae b.capacity Ce) (fun _ _ _ hi ht=>op_ld 0 ty23 (Step.nx hi).1 (ht 69 rfl) rfl rfl<|Gz hi)<|Dw_p (Iv i_2) (fun _ _ _ hi ht=>op_move (v:=Iv i_2) (ht 6 rfl)<|Gz hi) ?_
 obtain⟨hc161,hm⟩:=ck_some hm
 replace Fe:=Fe.step p123
 refine Dw_op (VP _ _ (rSl (rInt .i64)) (b.capacity.getD i_2.toNat default)) (VP.stab _ _) (fun ρ158 w159 g hle hi ht=>?_) ?_
 obtain⟨-,hst,-⟩:=hle
 replace Fe:=Fe.step hst
 refine StepOp_plain<|op_indexAddr (q:=rSl (rInt .i64)) ty23 ty31 (ht 70 rfl) (ht 71 rfl) Fe rfl hc161.1 hc161.2 ?_
 intro p162 f163
 exact Goes.same hi ⟨_,rfl,f163⟩
 refine Dw_op (VD _ _ (vC (rSl (rInt .i64))) (b.capacity.getD i_2.toNat default)) (VD.stab _ _) (fun ρ164 w165 g hle hi ht=>?_) ?_
 obtain⟨p167,q168,f169⟩:=ht 72 rfl
 refine StepOp_plain<|op_loadP ty31 q168 f169 rfl ?_
 intro v170 h171
 obtain⟨Ah,Ch,rfl,Fh⟩:=un_sl h171
 exact Goes.same hi (show Vr.vd (vC (rSl (rInt .i64))) _ _ _ _ from(mkC (mk_sl Fh)))
 refine Dw_nil fun w177 g178 hl179 hi180=>?_
 obtain⟨-,hst181,-⟩:=hl179
 obtain⟨hs183,p182⟩:=Step.nx hi180
 rintro v184 h185
 replace h185:Vr.vd (vC (rSl (rInt .i64))) _ _ _ _:=h185
 obtain⟨Ai,Ci,rfl,Fi⟩:=un_sl h185
 rintro _ ⟨p187,rfl,f188⟩ _ rfl _ rfl _ rfl v189 h190
 replace h190:Vr.vd (vC (rSl (rInt .i64))) _ _ _ _:=h190
 obtain⟨Aj,Cj,rfl,Fj⟩:=un_sl h190
 rintro _ ⟨p192,rfl,f193⟩ _ rfl _ rfl _ rfl
 have p194:=hs117.to hs183 (hst181.trans p182)
 replace Fi:=Fi.step p182;replace f188:=f188.step p182;replace Fj:=Fj.step p182;replace f193:=f193.step p182;clear hs117
 obtain⟨sameints_1,hv195,hm⟩:=bd hm
 refine Rop<|op_callE hs183 Try.call54 (c54_overflightref27_SameInts (a:=a.capacity.getD i_2.toNat default) (b:=b.capacity.getD i_2.toNat default) hs183.ltw Fj Fi hv195) rfl ?_
 rintro v196 w197 p201 hs200 h199
 clear hs183
 obtain rfl:=h199
 refine Rop<|op_not rfl<|Rg_nil<|Wp_condM hm rfl (fun hc203 hm=>?_) (fun hc203 hm=>?_)
 refine Wp_seq ?_
 clear Fi f188 Fj f193
 refine Wp_region<|Asg (Bo false) rfl<|Rg_nil<|Wp_ret<|⟨_,Clo,[Bo false],⟨rfl,trivial⟩,hs200.ext,?_⟩
 exact Vr.eq (a:=vB) (x:=false) rfl (oi hm)
 refine Wp_skip ?_
 clear Fi f188 Fj f193
 refine Wp_region<|Mve (Iv i_2) rfl<|Rop<|op_addw rfl rfl<|Asg (Iv (IntKind.wrap .i64 (i_2+1))) rfl<|Rg_nil ?_
 have p204:=(p194.trans p201)
 replace ch121:=ch121.trans p204
 exact hK114 _ _ ⟨(IntKind.wrap .i64 (i_2+1)),_,rfl,Frm.of ⟨rfl,trivial⟩,ch121,hs200,(inK_wrap .i64 _),jnE1 hsf113 hm⟩
 refine Wp_exit<|Wp_seq<|Wp_seq<|Wp_region<|Asg (Iv 0) rfl<|Rg_nil<|Wp_block<|Wr [] [(2,Pt b1 0),(3,Pt b6 0),(7,Iv 0)] fun ξ206=>Wp_loopM q22_5 (fun m fr w'=>∃(i_3:Int) (Ebs:Ents),Ebs=[(some b6,Oc [Sl Ad b.cells Cd,Sl Ae b.capacity Ce,Sl Af b.variables Cf] 26),(some b1,Oc [Sl Aa a.cells Ca,Sl Ab a.capacity Cb,Sl Ac a.variables Cc] 26)]∧fr [] [(7,Iv i_3)]∧hs117.S (ks Ebs O) w'∧St ⟨w,[],[]⟩ O w' Ebs∧InK .i64 i_3∧loop1 (m22_overflightref32_SameProblem_B2 a b) m i_3=some x) (((a.variables.length:Int) - 0).toNat+1) ⟨0,_,rfl,Frm.of ⟨rfl,trivial⟩,Step.refl _ _,hs117,(show InK .i64 0 from by decide),hm⟩ ?_ ?_
 rintro _ _ ⟨_,_,_,_,_,_,_,hm⟩;exact loop1_z hm
 rintro m210 K209 hK209 ρ215 w211 ⟨i_3,_,rfl,hfr214,hst213,hs212,Rk,hm⟩
 obtain⟨sf207,hsf208,hm⟩:=loop1_s hm;unfold m22_overflightref32_SameProblem_B2 at hm
 rw [hfr214.eq];clear hfr214
 have ch216:=hst213
 refine Wp_seq<|Wp_seq<|Wp_region<|Mve (Iv i_3) rfl<|Rop<|op_fA 2 ty26 rfl ty24 rfl rfl<|Rop<|op_ld 1 ty24 hs212 rfl rfl rfl<|Rop<|op_len Try.underlying24 rfl ?_
 have p218:=(p123.trans hst213)
 replace Fc:=Fc.step p218
 have rl217:=inK_len Fc
 refine Rop<|op_lss rfl rfl<|Rg_nil<|Wp_condM hm rfl (fun hc219 hm=>?_) (fun hc219 hm=>?_)
 refine Wp_skip<|Wp_seq<|Wp_block<|Wp_seq<|Wp_region<|Rop<|op_fA 2 ty26 rfl ty24 rfl rfl<|Rop<|op_ld 1 ty24 hs212 rfl rfl rfl<|Mve (Iv i_3) rfl ?_
 obtain⟨hc220,hm⟩:=ck_some hm
 refine Rop<|op_indexAddr (q:=rXVariable) ty24 ty61 rfl rfl Fc rfl hc220.1 hc220.2 ?_
 intro p221 f222
 refine Rop<|op_loadPA ty61 rfl f222 rfl ?_
 intro vs223 h224
 obtain⟨_,_,rfl,⟨rfl,Rl⟩,⟨_,_,rfl,⟨rfl,Rm⟩,⟨_,_,rfl,⟨Ak,Ck,rfl,Fk⟩,⟨Al,Cl,rfl,Fl⟩⟩⟩⟩:=h224
 refine Rop<|op_alloc ty61 hs212 ?_
 intro b226 w227 _ p228 hs229
 clear hs212
 refine Rg_op_<|op_stA .z ty61 hs229 rfl rfl rfl rfl rfl ?_
 intro w231 p232 hs233
 clear hs229
 refine Rg_nil<|Wp_seq ?_
 clear f222
 refine Wp_region<|Rop<|op_fA 2 ty26 rfl ty24 rfl rfl<|Rop<|op_ld 1 ty24 hs233 rfl rfl rfl<|Mve (Iv i_3) rfl ?_
 obtain⟨hc234,hm⟩:=ck_some hm
 have p237:=(p218.trans (p228.trans p232))
 replace Ff:=Ff.step p237
 refine Rop<|op_indexAddr (q:=rXVariable) ty24 ty61 rfl rfl Ff rfl hc234.1 hc234.2 ?_
 intro p235 f236
 refine Rop<|op_loadPA ty61 rfl f236 rfl ?_
 intro vs238 h239
 obtain⟨_,_,rfl,⟨rfl,Rn⟩,⟨_,_,rfl,⟨rfl,Ro⟩,⟨_,_,rfl,⟨Am,Cm,rfl,Fm⟩,⟨An,Cn,rfl,Fn⟩⟩⟩⟩:=h239
 refine Rop<|op_alloc ty61 hs233 ?_
 intro b241 w242 _ p243 hs244
 clear hs233
 refine Rg_op_<|op_stA .z ty61 hs244 rfl rfl rfl rfl rfl ?_
 intro w246 p247 hs248
 clear hs244
 refine Rg_nil<|Wp_seq<|Wr2 q22_5 [] (updL ⟨ξ206,[]⟩ [(2,Pt b1 0),(3,Pt b6 0),(7,Iv 0)]) [(7,Iv i_3),(8,Pt b226 0),(9,Pt b241 0)] fun ξ249=>?_
 obtain⟨k251,hk252,hm⟩:=jn_elim hm
 refine Wp_seqJ q22_1 (fun fr w'=>∃(v_2:Bool) (Ebs:Ents),Ebs=[(some b241,Oc [Iv ((b.variables.getD i_3.toNat default).flight),Iv ((b.variables.getD i_3.toNat default).node),Sl Am ((b.variables.getD i_3.toNat default).leaves) Cm,Sl An ((b.variables.getD i_3.toNat default).choices) Cn] 61),(some b226,Oc [Iv ((a.variables.getD i_3.toNat default).flight),Iv ((a.variables.getD i_3.toNat default).node),Sl Ak ((a.variables.getD i_3.toNat default).leaves) Ck,Sl Al ((a.variables.getD i_3.toNat default).choices) Cl] 61),(some b6,Oc [Sl Ad b.cells Cd,Sl Ae b.capacity Ce,Sl Af b.variables Cf] 26),(some b1,Oc [Sl Aa a.cells Ca,Sl Ab a.capacity Cb,Sl Ac a.variables Cc] 26)]∧fr [] [(121,Bo v_2)]∧hs248.S (ks Ebs O) w'∧St ⟨w,[],[]⟩ O w' Ebs∧k251 v_2=some x) ?_ ?_
 rintro ρ258 w254 ⟨v_2,_,rfl,hfr257,hst256,hs255,hm⟩
 replace hm:=jnE1 hk252 hm
 rw [hfr257.eq];clear hfr257
 refine Wp_condM hm rfl (fun hc259 hm=>?_) (fun hc259 hm=>?_)
 refine Wp_seq ?_
 clear f236
 refine Wp_region<|Asg (Bo false) rfl<|Rg_nil<|Wp_ret<|⟨_,Clo,[Bo false],⟨rfl,trivial⟩,hs255.ext,?_⟩
 exact Vr.eq (a:=vB) (x:=false) rfl (oi hm)
 refine Wp_skip<|Wp_seq ?_
 clear f236
 refine Wp_region<|Asg (Iv 0) rfl<|Rg_nil<|Wp_block<|Wr2 q22_5 [] (updL ⟨ξ206,[]⟩ [(2,Pt b1 0),(3,Pt b6 0),(7,Iv 0)]) [(7,Iv i_3),(8,Pt b226 0),(9,Pt b241 0),(10,Iv 0)] fun ξ261=>Wp_loopM q22_4 (fun m fr w'=>∃(k_1:Int) (Ebs:Ents),Ebs=[(some b241,Oc [Iv ((b.variables.getD i_3.toNat default).flight),Iv ((b.variables.getD i_3.toNat default).node),Sl Am ((b.variables.getD i_3.toNat default).leaves) Cm,Sl An ((b.variables.getD i_3.toNat default).choices) Cn] 61),(some b226,Oc [Iv ((a.variables.getD i_3.toNat default).flight),Iv ((a.variables.getD i_3.toNat default).node),Sl Ak ((a.variables.getD i_3.toNat default).leaves) Ck,Sl Al ((a.variables.getD i_3.toNat default).choices) Cl] 61),(some b6,Oc [Sl Ad b.cells Cd,Sl Ae b.capacity Ce,Sl Af b.variables Cf] 26),(some b1,Oc [Sl Aa a.cells Ca,Sl Ab a.capacity Cb,Sl Ac a.variables Cc] 26)]∧fr [] [(10,Iv k_1)]∧hs255.S (ks Ebs O) w'∧St ⟨w,[],[]⟩ O w' Ebs∧InK .i64 k_1∧loop1 (m22_overflightref32_SameProblem_B3 a b i_3 sf207) m k_1=some x) (((((a.variables.getD i_3.toNat default).choices).length:Int) - 0).toNat+1) ⟨0,_,rfl,Frm.of ⟨rfl,trivial⟩,Step.refl _ _,hs255,(show InK .i64 0 from by decide),hm⟩ ?_ ?_
 rintro _ _ ⟨_,_,_,_,_,_,_,hm⟩;exact loop1_z hm
 rintro m265 K264 hK264 ρ270 w266 ⟨k_1,_,rfl,hfr269,hst268,hs267,Rp,hm⟩
 obtain⟨sf262,hsf263,hm⟩:=loop1_s hm;unfold m22_overflightref32_SameProblem_B3 at hm
 rw [hfr269.eq];clear hfr269
 have ch271:=hst268
 refine Wp_seq<|Wp_seq<|Wp_region<|Mve (Iv k_1) rfl<|Rop<|op_fA 3 ty61 rfl ty59 rfl rfl<|Rop<|op_ld 1 ty59 hs267 rfl rfl rfl<|Rop<|op_len Try.underlying59 rfl ?_
 have p273:=(p228.trans (p232.trans (p243.trans (p247.trans (hst256.trans hst268)))))
 replace Fl:=Fl.step p273
 have rl272:=inK_len Fl
 refine Rop<|op_lss rfl rfl<|Rg_nil<|Wp_condM hm rfl (fun hc274 hm=>?_) (fun hc274 hm=>?_)
 refine Wp_skip<|Wp_seq<|Wp_block<|Wp_seq<|Wp_region<|Rop<|op_fA 3 ty61 rfl ty59 rfl rfl<|Rop<|op_ld 1 ty59 hs267 rfl rfl rfl<|Mve (Iv k_1) rfl ?_
 obtain⟨hc275,hm⟩:=ck_some hm
 refine Rop<|op_indexAddr (q:=rXChoice) ty59 ty58 rfl rfl Fl rfl hc275.1 hc275.2 ?_
 intro p276 f277
 refine Rop<|op_loadPA ty58 rfl f277 rfl ?_
 intro vs278 h279
 obtain⟨_,_,rfl,⟨rfl,Rq⟩,⟨_,_,rfl,⟨rfl,Rr⟩,⟨_,_,rfl,⟨rfl,Rs⟩,⟨Ao,Co,rfl,Fo⟩⟩⟩⟩:=h279
 refine Rop<|op_alloc ty58 hs267 ?_
 intro b281 w282 _ p283 hs284
 clear hs267
 refine Rg_op_<|op_stA .z ty58 hs284 rfl rfl rfl rfl rfl ?_
 intro w286 p287 hs288
 refine Rg_nil<|Wp_seq ?_
 clear f277
 refine Wp_region<|Rop<|op_fA 3 ty61 rfl ty59 rfl rfl<|Rop<|op_ld 1 ty59 hs288 rfl rfl rfl<|Mve (Iv k_1) rfl ?_
 obtain⟨hc289,hm⟩:=ck_some hm
 have p292:=(p243.trans (p247.trans (hst256.trans (hst268.trans (p283.trans p287)))))
 replace Fn:=Fn.step p292
 refine Rop<|op_indexAddr (q:=rXChoice) ty59 ty58 rfl rfl Fn rfl hc289.1 hc289.2 ?_
 intro p290 f291
 refine Rop<|op_loadPA ty58 rfl f291 rfl ?_
 intro vs293 h294
 obtain⟨_,_,rfl,⟨rfl,Rt⟩,⟨_,_,rfl,⟨rfl,Ru⟩,⟨_,_,rfl,⟨rfl,Rv⟩,⟨Ap,Cp,rfl,Fp⟩⟩⟩⟩:=h294
 refine Rop<|op_alloc ty58 hs288 ?_
 intro b296 w297 _ p298 hs299
 clear hs288
 refine Rg_op_<|op_stA .z ty58 hs299 rfl rfl rfl rfl rfl ?_
 intro w301 p302 hs303
 clear hs299
 refine Rg_nil<|Wp_seq<|Wr2 q22_4 [] (updL (mix q22_5 [] ξ261 (updL ⟨ξ206,[]⟩ [(2,Pt b1 0),(3,Pt b6 0),(7,Iv 0)])) [(7,Iv i_3),(8,Pt b226 0),(9,Pt b241 0),(10,Iv 0)]) [(10,Iv k_1),(11,Pt b281 0),(12,Pt b296 0)] fun ξ304=>?_
 obtain⟨k306,hk307,hm⟩:=jn_elim hm
 refine Wp_seqJ q22_2 (fun fr w'=>∃(v_3:Bool) (Ebs:Ents),Ebs=[(some b296,Oc [Iv ((((b.variables.getD i_3.toNat default).choices).getD k_1.toNat default).delay),Iv ((((b.variables.getD i_3.toNat default).choices).getD k_1.toNat default).cost),Iv ((((b.variables.getD i_3.toNat default).choices).getD k_1.toNat default).changes),Sl Ap ((((b.variables.getD i_3.toNat default).choices).getD k_1.toNat default).uses) Cp] 58),(some b281,Oc [Iv ((((a.variables.getD i_3.toNat default).choices).getD k_1.toNat default).delay),Iv ((((a.variables.getD i_3.toNat default).choices).getD k_1.toNat default).cost),Iv ((((a.variables.getD i_3.toNat default).choices).getD k_1.toNat default).changes),Sl Ao ((((a.variables.getD i_3.toNat default).choices).getD k_1.toNat default).uses) Co] 58),(some b241,Oc [Iv ((b.variables.getD i_3.toNat default).flight),Iv ((b.variables.getD i_3.toNat default).node),Sl Am ((b.variables.getD i_3.toNat default).leaves) Cm,Sl An ((b.variables.getD i_3.toNat default).choices) Cn] 61),(some b226,Oc [Iv ((a.variables.getD i_3.toNat default).flight),Iv ((a.variables.getD i_3.toNat default).node),Sl Ak ((a.variables.getD i_3.toNat default).leaves) Ck,Sl Al ((a.variables.getD i_3.toNat default).choices) Cl] 61),(some b6,Oc [Sl Ad b.cells Cd,Sl Ae b.capacity Ce,Sl Af b.variables Cf] 26),(some b1,Oc [Sl Aa a.cells Ca,Sl Ab a.capacity Cb,Sl Ac a.variables Cc] 26)]∧fr [] [(166,Bo v_3)]∧hs303.S (ks Ebs O) w'∧St ⟨w,[],[]⟩ O w' Ebs∧k306 v_3=some x) ?_ ?_
 rintro ρ313 w309 ⟨v_3,_,rfl,hfr312,hst311,hs310,hm⟩
 replace hm:=jnE1 hk307 hm
 rw [hfr312.eq];clear hfr312
 refine Wp_condM hm rfl (fun hc314 hm=>?_) (fun hc314 hm=>?_)
 refine Wp_seq ?_
 clear f291
 refine Wp_region<|Asg (Bo false) rfl<|Rg_nil<|Wp_ret<|⟨_,Clo,[Bo false],⟨rfl,trivial⟩,hs310.ext,?_⟩
 exact Vr.eq (a:=vB) (x:=false) rfl (oi hm)
 refine Wp_skip<|Wp_seq ?_
 clear f291
 refine Wp_region<|Asg (Iv 0) rfl<|Rg_nil<|Wp_block<|Wr2 q22_4 [] (updL (mix q22_5 [] ξ261 (updL ⟨ξ206,[]⟩ [(2,Pt b1 0),(3,Pt b6 0),(7,Iv 0)])) [(7,Iv i_3),(8,Pt b226 0),(9,Pt b241 0),(10,Iv 0)]) [(10,Iv k_1),(11,Pt b281 0),(12,Pt b296 0),(13,Iv 0)] fun ξ316=>Wp_loopM q22_3 (fun m fr w'=>∃(n_1:Int) (Ebs:Ents),Ebs=[(some b296,Oc [Iv ((((b.variables.getD i_3.toNat default).choices).getD k_1.toNat default).delay),Iv ((((b.variables.getD i_3.toNat default).choices).getD k_1.toNat default).cost),Iv ((((b.variables.getD i_3.toNat default).choices).getD k_1.toNat default).changes),Sl Ap ((((b.variables.getD i_3.toNat default).choices).getD k_1.toNat default).uses) Cp] 58),(some b281,Oc [Iv ((((a.variables.getD i_3.toNat default).choices).getD k_1.toNat default).delay),Iv ((((a.variables.getD i_3.toNat default).choices).getD k_1.toNat default).cost),Iv ((((a.variables.getD i_3.toNat default).choices).getD k_1.toNat default).changes),Sl Ao ((((a.variables.getD i_3.toNat default).choices).getD k_1.toNat default).uses) Co] 58),(some b241,Oc [Iv ((b.variables.getD i_3.toNat default).flight),Iv ((b.variables.getD i_3.toNat default).node),Sl Am ((b.variables.getD i_3.toNat default).leaves) Cm,Sl An ((b.variables.getD i_3.toNat default).choices) Cn] 61),(some b226,Oc [Iv ((a.variables.getD i_3.toNat default).flight),Iv ((a.variables.getD i_3.toNat default).node),Sl Ak ((a.variables.getD i_3.toNat default).leaves) Ck,Sl Al ((a.variables.getD i_3.toNat default).choices) Cl] 61),(some b6,Oc [Sl Ad b.cells Cd,Sl Ae b.capacity Ce,Sl Af b.variables Cf] 26),(some b1,Oc [Sl Aa a.cells Ca,Sl Ab a.capacity Cb,Sl Ac a.variables Cc] 26)]∧fr [] [(13,Iv n_1)]∧hs310.S (ks Ebs O) w'∧St ⟨w,[],[]⟩ O w' Ebs∧InK .i64 n_1∧loop1 (m22_overflightref32_SameProblem_B4 a b i_3 k_1 sf262) m n_1=some x) (((((((a.variables.getD i_3.toNat default).choices).getD k_1.toNat default).uses).length:Int) - 0).toNat+1) ⟨0,_,rfl,Frm.of ⟨rfl,trivial⟩,Step.refl _ _,hs310,(show InK .i64 0 from by decide),hm⟩ ?_ ?_
 rintro _ _ ⟨_,_,_,_,_,_,_,hm⟩;exact loop1_z hm
 rintro m320 K319 hK319 ρ325 w321 ⟨n_1,_,rfl,hfr324,hst323,hs322,Rw,hm⟩
 obtain⟨sf317,hsf318,hm⟩:=loop1_s hm;unfold m22_overflightref32_SameProblem_B4 at hm
 rw [hfr324.eq];clear hfr324
 have ch326:=hst323
 refine Wp_seq<|Wp_seq<|Wp_region<|Mve (Iv n_1) rfl<|Rop<|op_fA 3 ty58 rfl ty56 rfl rfl<|Rop<|op_ld 1 ty56 hs322 rfl rfl rfl<|Rop<|op_len Try.underlying56 rfl ?_
 have p328:=(p283.trans (p287.trans (p298.trans (p302.trans (hst311.trans hst323)))))
 replace Fo:=Fo.step p328
 have rl327:=inK_len Fo
 refine Rop<|op_lss rfl rfl<|Rg_nil<|Wp_condM hm rfl (fun hc329 hm=>?_) (fun hc329 hm=>?_)
 refine Wp_skip<|Wp_seq<|Wp_block<|Wp_seq<|Wp_drawR (g0:=[]) (m:=10) (fl:=[]) (TS_inv hs322) rfl (.inl rfl) rfl (by decide+kernel) ?_  -- 30
 refine Dw_p (Pt b281 3) (fun _ _ _ hi ht=>op_fA 3 ty58 rfl ty56 (ht 11 rfl) rfl<|Gz hi)<|Dw_p (Sl Ao ((((a.variables.getD i_3.toNat default).choices).getD k_1.toNat default).uses) Co) (fun _ _ _ hi ht=>op_ld 1 ty56 (Step.nx hi).1 (ht 174 rfl) rfl rfl<|Gz hi)<|Dw_p (Iv n_1) (fun _ _ _ hi ht=>op_move (v:=Iv n_1) (ht 13 rfl)<|Gz hi) ?_
 obtain⟨hc342,hm⟩:=ck_some hm
 refine Dw_op (VP _ _ rXUse (((((a.variables.getD i_3.toNat default).choices).getD k_1.toNat default).uses).getD n_1.toNat default)) (VP.stab _ _) (fun ρ339 w340 g hle hi ht=>?_) ?_
 obtain⟨-,hst,-⟩:=hle
 replace Fo:=Fo.step hst
 refine StepOp_plain<|op_indexAddr (q:=rXUse) ty56 ty76 (ht 175 rfl) (ht 176 rfl) Fo rfl hc342.1 hc342.2 ?_
 intro p343 f344
 exact Goes.same hi ⟨_,rfl,f344⟩
 refine Dw_op (VD _ _ (vA rXUse) (⟨(((((a.variables.getD i_3.toNat default).choices).getD k_1.toNat default).uses).getD n_1.toNat default).cell,(((((a.variables.getD i_3.toNat default).choices).getD k_1.toNat default).uses).getD n_1.toNat default).places⟩:XUse)) (VD.stab _ _) (fun ρ345 w346 g hle hi ht=>?_) ?_
 obtain⟨p348,q349,f350⟩:=ht 177 rfl
 refine StepOp_plain<|op_loadPA ty76 q349 f350 rfl ?_
 intro vs351 h352
 obtain⟨_,_,rfl,⟨_,_,rfl,rfl,⟨_,_,rfl,⟨rfl,Rx⟩,⟨rfl,Ry⟩⟩⟩,⟨rfl,Rz⟩⟩:=h352
 exact Goes.same hi (show Vr.vd (vA rXUse) _ _ _ _ from(mkA (mkVia (mk_pair (mkVia (mk_pair mkBool (mk_pair (mk_int Rx) (mk_int Ry)))) (mk_int Rz)))))
 refine Dw_p (Pt b296 3) (fun _ _ _ hi ht=>op_fA 3 ty58 rfl ty56 (ht 12 rfl) rfl<|Gz hi)<|Dw_p (Sl Ap ((((b.variables.getD i_3.toNat default).choices).getD k_1.toNat default).uses) Cp) (fun _ _ _ hi ht=>op_ld 0 ty56 (Step.nx hi).1 (ht 179 rfl) rfl rfl<|Gz hi)<|Dw_p (Iv n_1) (fun _ _ _ hi ht=>op_move (v:=Iv n_1) (ht 13 rfl)<|Gz hi) ?_
 obtain⟨hc366,hm⟩:=ck_some hm
 have p369:=(p298.trans (p302.trans (hst311.trans hst323)))
 replace Fp:=Fp.step p369
 refine Dw_op (VP _ _ rXUse (((((b.variables.getD i_3.toNat default).choices).getD k_1.toNat default).uses).getD n_1.toNat default)) (VP.stab _ _) (fun ρ363 w364 g hle hi ht=>?_) ?_
 obtain⟨-,hst,-⟩:=hle
 replace Fp:=Fp.step hst
 refine StepOp_plain<|op_indexAddr (q:=rXUse) ty56 ty76 (ht 180 rfl) (ht 181 rfl) Fp rfl hc366.1 hc366.2 ?_
 intro p367 f368
 exact Goes.same hi ⟨_,rfl,f368⟩
 refine Dw_op (VD _ _ (vA rXUse) (⟨(((((b.variables.getD i_3.toNat default).choices).getD k_1.toNat default).uses).getD n_1.toNat default).cell,(((((b.variables.getD i_3.toNat default).choices).getD k_1.toNat default).uses).getD n_1.toNat default).places⟩:XUse)) (VD.stab _ _) (fun ρ370 w371 g hle hi ht=>?_) ?_
 obtain⟨p373,q374,f375⟩:=ht 182 rfl
 refine StepOp_plain<|op_loadPA ty76 q374 f375 rfl ?_
 intro vs376 h377
 obtain⟨_,_,rfl,⟨_,_,rfl,rfl,⟨_,_,rfl,⟨rfl,Ra1⟩,⟨rfl,Rb1⟩⟩⟩,⟨rfl,Rc1⟩⟩:=h377
 exact Goes.same hi (show Vr.vd (vA rXUse) _ _ _ _ from(mkA (mkVia (mk_pair (mkVia (mk_pair mkBool (mk_pair (mk_int Ra1) (mk_int Rb1)))) (mk_int Rc1)))))
 refine Dw_nil fun w383 g384 hl385 hi386=>?_
 obtain⟨-,hst387,-⟩:=hl385
 obtain⟨hs389,p388⟩:=Step.nx hi386
 rintro v390 h391
 replace h391:Vr.vd (vA rXUse) _ _ _ _:=h391
 obtain⟨_,rfl,⟨_,_,rfl,⟨_,_,rfl,rfl,⟨_,_,rfl,⟨rfl,Rd1⟩,⟨rfl,Re1⟩⟩⟩,⟨rfl,Rf1⟩⟩⟩:=h391
 rintro _ ⟨p393,rfl,f394⟩ _ rfl _ rfl _ rfl v395 h396
 replace h396:Vr.vd (vA rXUse) _ _ _ _:=h396
 obtain⟨_,rfl,⟨_,_,rfl,⟨_,_,rfl,rfl,⟨_,_,rfl,⟨rfl,Rg1⟩,⟨rfl,Rh1⟩⟩⟩,⟨rfl,Ri1⟩⟩⟩:=h396
 rintro _ ⟨p398,rfl,f399⟩ _ rfl _ rfl _ rfl
 have p400:=hs322.to hs389 (hst387.trans p388)
 replace f394:=f394.step p388;replace f399:=f399.step p388;clear hs322
 refine Rop<|op_neqA (c:=decide ((⟨(⟨(((((a.variables.getD i_3.toNat default).choices).getD k_1.toNat default).uses).getD n_1.toNat default).cell,(((((a.variables.getD i_3.toNat default).choices).getD k_1.toNat default).uses).getD n_1.toNat default).places⟩:XUse).cell,(⟨(((((a.variables.getD i_3.toNat default).choices).getD k_1.toNat default).uses).getD n_1.toNat default).cell,(((((a.variables.getD i_3.toNat default).choices).getD k_1.toNat default).uses).getD n_1.toNat default).places⟩:XUse).places⟩:XUse)=(⟨(⟨(((((b.variables.getD i_3.toNat default).choices).getD k_1.toNat default).uses).getD n_1.toNat default).cell,(((((b.variables.getD i_3.toNat default).choices).getD k_1.toNat default).uses).getD n_1.toNat default).places⟩:XUse).cell,(⟨(((((b.variables.getD i_3.toNat default).choices).getD k_1.toNat default).uses).getD n_1.toNat default).cell,(((((b.variables.getD i_3.toNat default).choices).getD k_1.toNat default).uses).getD n_1.toNat default).places⟩:XUse).places⟩:XUse))) rfl rfl eqg76 (eqv76 9997 (⟨(⟨(((((a.variables.getD i_3.toNat default).choices).getD k_1.toNat default).uses).getD n_1.toNat default).cell,(((((a.variables.getD i_3.toNat default).choices).getD k_1.toNat default).uses).getD n_1.toNat default).places⟩:XUse).cell,(⟨(((((a.variables.getD i_3.toNat default).choices).getD k_1.toNat default).uses).getD n_1.toNat default).cell,(((((a.variables.getD i_3.toNat default).choices).getD k_1.toNat default).uses).getD n_1.toNat default).places⟩:XUse).places⟩:XUse) (⟨(⟨(((((b.variables.getD i_3.toNat default).choices).getD k_1.toNat default).uses).getD n_1.toNat default).cell,(((((b.variables.getD i_3.toNat default).choices).getD k_1.toNat default).uses).getD n_1.toNat default).places⟩:XUse).cell,(⟨(((((b.variables.getD i_3.toNat default).choices).getD k_1.toNat default).uses).getD n_1.toNat default).cell,(((((b.variables.getD i_3.toNat default).choices).getD k_1.toNat default).uses).getD n_1.toNat default).places⟩:XUse).places⟩:XUse) _)<|Rg_nil<|Wp_condM hm rfl (fun hc401 hm=>?_) (fun hc401 hm=>?_)
 refine Wp_seq ?_
 clear f394 f399
 refine Wp_region<|Asg (Bo false) rfl<|Rg_nil<|Wp_ret<|⟨_,Clo,[Bo false],⟨rfl,trivial⟩,hs389.ext,?_⟩
 exact Vr.eq (a:=vB) (x:=false) rfl (oi hm)
 refine Wp_skip ?_
 clear f394 f399
 refine Wp_region<|Mve (Iv n_1) rfl<|Rop<|op_addw rfl rfl<|Asg (Iv (IntKind.wrap .i64 (n_1+1))) rfl<|Rg_nil ?_
 replace ch326:=ch326.trans p400
 exact hK319 _ _ ⟨(IntKind.wrap .i64 (n_1+1)),_,rfl,Frm.of ⟨rfl,trivial⟩,ch326,hs389,(inK_wrap .i64 _),jnE1 hsf318 hm⟩
 refine Wp_exit<|Wp_region<|Mve (Iv k_1) rfl<|Rop<|op_addw rfl rfl<|Asg (Iv (IntKind.wrap .i64 (k_1+1))) rfl<|Rg_nil ?_
 have hs402:=hs322.drop 1
 have p403:=(hs322.dropS 1)
 clear hs322
 have hs404:=hs402.drop 0
 have p405:=(hs402.dropS 0)
 clear hs402
 have p406:=(p328.trans (p403.trans p405))
 replace ch271:=ch271.trans p406
 exact hK264 _ _ ⟨(IntKind.wrap .i64 (k_1+1)),_,rfl,Frm.of ⟨rfl,trivial⟩,ch271,hs404,(inK_wrap .i64 _),jnE1 hsf263 hm⟩
 intro K308 hK308
 have ch407:=hs303.stepR
 clear f291
 refine Wp_region<|Rop<|op_fA 0 ty58 rfl ty3 rfl rfl<|Rop<|op_ld 1 ty3 hs303 rfl rfl rfl<|Rop<|op_fA 0 ty58 rfl ty3 rfl rfl<|Rop<|op_ld 0 ty3 hs303 rfl rfl rfl<|Rop<|op_neq rfl rfl<|Mve (Bo (decide (((((a.variables.getD i_3.toNat default).choices).getD k_1.toNat default).delay)≠((((b.variables.getD i_3.toNat default).choices).getD k_1.toNat default).delay)))) rfl<|Rg_caseM hm (fun hg408 hm=>?_) (fun hg408 hm=>?_)
 iterate 5 refine Rg_opx rfl (asB_ne rfl rfl) rfl ?_
 refine Pkt (Bo true) rfl rfl<|Mve (Bo true) rfl ?_
 iterate 5 refine Rg_opx rfl (asB_ne rfl rfl) rfl ?_
 refine Pkt (Bo true) rfl rfl<|Mve (Bo true) rfl ?_
 iterate 7 refine Rg_opx rfl (asB_ne rfl rfl) rfl ?_
 exact Pkt (Bo true) rfl rfl<|Rg_nil<|hK308 _ _ ⟨true,_,rfl,Frm.of ⟨rfl,trivial⟩,ch407,hs303,hm⟩
 refine Rog rfl rfl<|op_fA 1 ty58 rfl ty3 rfl rfl<|Rog rfl rfl<|op_ld 1 ty3 hs303 rfl rfl rfl<|Rog rfl rfl<|op_fA 1 ty58 rfl ty3 rfl rfl<|Rog rfl rfl<|op_ld 0 ty3 hs303 rfl rfl rfl<|Rog rfl rfl<|op_neq rfl rfl<|Pkf (Bo (decide (((((a.variables.getD i_3.toNat default).choices).getD k_1.toNat default).cost)≠((((b.variables.getD i_3.toNat default).choices).getD k_1.toNat default).cost)))) rfl rfl<|Mve (Bo (decide (((((a.variables.getD i_3.toNat default).choices).getD k_1.toNat default).cost)≠((((b.variables.getD i_3.toNat default).choices).getD k_1.toNat default).cost)))) rfl<|Rg_caseM hm (fun hg409 hm=>?_) (fun hg409 hm=>?_)
 iterate 5 refine Rg_opx rfl (asB_ne rfl rfl) rfl ?_
 refine Pkt (Bo true) rfl rfl<|Mve (Bo true) rfl ?_
 iterate 7 refine Rg_opx rfl (asB_ne rfl rfl) rfl ?_
 exact Pkt (Bo true) rfl rfl<|Rg_nil<|hK308 _ _ ⟨true,_,rfl,Frm.of ⟨rfl,trivial⟩,ch407,hs303,hm⟩
 refine Rog rfl rfl<|op_fA 2 ty58 rfl ty3 rfl rfl<|Rog rfl rfl<|op_ld 1 ty3 hs303 rfl rfl rfl<|Rog rfl rfl<|op_fA 2 ty58 rfl ty3 rfl rfl<|Rog rfl rfl<|op_ld 0 ty3 hs303 rfl rfl rfl<|Rog rfl rfl<|op_neq rfl rfl<|Pkf (Bo (decide (((((a.variables.getD i_3.toNat default).choices).getD k_1.toNat default).changes)≠((((b.variables.getD i_3.toNat default).choices).getD k_1.toNat default).changes)))) rfl rfl<|Mve (Bo (decide (((((a.variables.getD i_3.toNat default).choices).getD k_1.toNat default).changes)≠((((b.variables.getD i_3.toNat default).choices).getD k_1.toNat default).changes)))) rfl<|Rg_caseM hm (fun hg410 hm=>?_) (fun hg410 hm=>?_)
 iterate 7 refine Rg_opx rfl (asB_ne rfl rfl) rfl ?_
 exact Pkt (Bo true) rfl rfl<|Rg_nil<|hK308 _ _ ⟨true,_,rfl,Frm.of ⟨rfl,trivial⟩,ch407,hs303,hm⟩
 refine Rog rfl rfl<|op_fA 3 ty58 rfl ty56 rfl rfl<|Rog rfl rfl<|op_ld 1 ty56 hs303 rfl rfl rfl<|Rog rfl rfl<|op_len Try.underlying56 rfl ?_
 have p412:=(p283.trans (p287.trans (p298.trans p302)))
 replace Fo:=Fo.step p412
 have rl411:=inK_len Fo
 refine Rog rfl rfl<|op_fA 3 ty58 rfl ty56 rfl rfl<|Rog rfl rfl<|op_ld 0 ty56 hs303 rfl rfl rfl<|Rog rfl rfl<|op_len Try.underlying56 rfl ?_
 have p414:=(p298.trans p302)
 replace Fp:=Fp.step p414
 have rl413:=inK_len Fp
 exact Rog rfl rfl<|op_neq rfl rfl<|Pkf (Bo (decide ((((((a.variables.getD i_3.toNat default).choices).getD k_1.toNat default).uses).length:Int)≠(((((b.variables.getD i_3.toNat default).choices).getD k_1.toNat default).uses).length:Int)))) rfl rfl<|Rg_nil<|hK308 _ _ ⟨decide ((((((a.variables.getD i_3.toNat default).choices).getD k_1.toNat default).uses).length:Int)≠(((((b.variables.getD i_3.toNat default).choices).getD k_1.toNat default).uses).length:Int)),_,rfl,Frm.of ⟨rfl,trivial⟩,ch407,hs303,hm⟩
 refine Wp_exit<|Wp_region<|Mve (Iv i_3) rfl<|Rop<|op_addw rfl rfl<|Asg (Iv (IntKind.wrap .i64 (i_3+1))) rfl<|Rg_nil ?_
 have hs415:=hs267.drop 1
 have p416:=(hs267.dropS 1)
 clear hs267
 have hs417:=hs415.drop 0
 have p418:=(hs415.dropS 0)
 clear hs415
 have p419:=(p273.trans (p416.trans p418))
 replace ch216:=ch216.trans p419
 exact hK209 _ _ ⟨(IntKind.wrap .i64 (i_3+1)),_,rfl,Frm.of ⟨rfl,trivial⟩,ch216,hs417,(inK_wrap .i64 _),jnE1 hsf208 hm⟩
 intro K253 hK253
 have ch420:=hs248.stepR
 clear f236
 refine Wp_region<|Rop<|op_fA 0 ty61 rfl ty3 rfl rfl<|Rop<|op_ld 1 ty3 hs248 rfl rfl rfl<|Rop<|op_fA 0 ty61 rfl ty3 rfl rfl<|Rop<|op_ld 0 ty3 hs248 rfl rfl rfl<|Rop<|op_neq rfl rfl<|Mve (Bo (decide (((a.variables.getD i_3.toNat default).flight)≠((b.variables.getD i_3.toNat default).flight)))) rfl<|Rg_caseM hm (fun hg421 hm=>?_) (fun hg421 hm=>?_)
 iterate 5 refine Rg_opx rfl (asB_ne rfl rfl) rfl ?_
 refine Pkt (Bo true) rfl rfl<|Mve (Bo true) rfl ?_
 iterate 6 refine Rg_opx rfl (asB_ne rfl rfl) rfl ?_
 refine Pkt (Bo true) rfl rfl<|Mve (Bo true) rfl ?_
 iterate 7 refine Rg_opx rfl (asB_ne rfl rfl) rfl ?_
 exact Pkt (Bo true) rfl rfl<|Rg_nil<|hK253 _ _ ⟨true,_,rfl,Frm.of ⟨rfl,trivial⟩,ch420,hs248,hm⟩
 refine Rog rfl rfl<|op_fA 1 ty61 rfl ty3 rfl rfl<|Rog rfl rfl<|op_ld 1 ty3 hs248 rfl rfl rfl<|Rog rfl rfl<|op_fA 1 ty61 rfl ty3 rfl rfl<|Rog rfl rfl<|op_ld 0 ty3 hs248 rfl rfl rfl<|Rog rfl rfl<|op_neq rfl rfl<|Pkf (Bo (decide (((a.variables.getD i_3.toNat default).node)≠((b.variables.getD i_3.toNat default).node)))) rfl rfl<|Mve (Bo (decide (((a.variables.getD i_3.toNat default).node)≠((b.variables.getD i_3.toNat default).node)))) rfl<|Rg_caseM hm (fun hg422 hm=>?_) (fun hg422 hm=>?_)
 iterate 6 refine Rg_opx rfl (asB_ne rfl rfl) rfl ?_
 refine Pkt (Bo true) rfl rfl<|Mve (Bo true) rfl ?_
 iterate 7 refine Rg_opx rfl (asB_ne rfl rfl) rfl ?_
 exact Pkt (Bo true) rfl rfl<|Rg_nil<|hK253 _ _ ⟨true,_,rfl,Frm.of ⟨rfl,trivial⟩,ch420,hs248,hm⟩
 refine Rog rfl rfl<|op_fA 2 ty61 rfl ty31 rfl rfl<|Rog rfl rfl<|op_ld 1 ty31 hs248 rfl rfl rfl<|Rog rfl rfl<|op_fA 2 ty61 rfl ty31 rfl rfl<|Rog rfl rfl<|op_ld 0 ty31 hs248 rfl rfl rfl ?_
 obtain⟨sameints_2,hv423,hm⟩:=bd hm
 have p429:=(p228.trans (p232.trans (p243.trans p247)))
 replace Fk:=Fk.step p429
 have p430:=(p243.trans p247)
 replace Fm:=Fm.step p430
 refine Rog rfl rfl<|op_callE hs248 Try.call54 (c54_overflightref27_SameInts (a:=(a.variables.getD i_3.toNat default).leaves) (b:=(b.variables.getD i_3.toNat default).leaves) hs248.ltw Fk Fm hv423) rfl ?_
 rintro v424 w425 p431 hs428 h427
 obtain rfl:=h427
 refine Rog rfl rfl<|op_not rfl<|Pkf (Bo (!sameints_2)) rfl rfl<|Mve (Bo (!sameints_2)) rfl<|Rg_caseM hm (fun hg433 hm=>?_) (fun hg433 hm=>?_)
 iterate 7 refine Rg_opx rfl (asB_ne rfl rfl) rfl ?_
 refine Pkt (Bo true) rfl rfl<|Rg_nil ?_
 replace ch420:=ch420.trans p431
 exact hK253 _ _ ⟨true,_,rfl,Frm.of ⟨rfl,trivial⟩,ch420,hs428,hm⟩
 refine Rog rfl rfl<|op_fA 3 ty61 rfl ty59 rfl rfl<|Rog rfl rfl<|op_ld 1 ty59 hs428 rfl rfl rfl<|Rog rfl rfl<|op_len Try.underlying59 rfl ?_
 have p435:=(p429.trans p431)
 replace Fl:=Fl.step p435
 have rl434:=inK_len Fl
 refine Rog rfl rfl<|op_fA 3 ty61 rfl ty59 rfl rfl<|Rog rfl rfl<|op_ld 0 ty59 hs428 rfl rfl rfl<|Rog rfl rfl<|op_len Try.underlying59 rfl ?_
 have p437:=(p430.trans p431)
 replace Fn:=Fn.step p437
 have rl436:=inK_len Fn
 refine Rog rfl rfl<|op_neq rfl rfl<|Pkf (Bo (decide ((((a.variables.getD i_3.toNat default).choices).length:Int)≠(((b.variables.getD i_3.toNat default).choices).length:Int)))) rfl rfl<|Rg_nil ?_
 replace ch420:=ch420.trans p431
 exact hK253 _ _ ⟨decide ((((a.variables.getD i_3.toNat default).choices).length:Int)≠(((b.variables.getD i_3.toNat default).choices).length:Int)),_,rfl,Frm.of ⟨rfl,trivial⟩,ch420,hs428,hm⟩
 refine Wp_exit<|Wp_seq ?_
 obtain⟨hs438,p439⟩:=hs212.sub (bs':=[]) (.cons _ (.cons _ List.Sublist.slnil))
 clear Fa Fb Fc Fd Fe Ff
 clear hs212
 refine Wp_region<|Asg (Bo true) rfl<|Rg_nil<|Wp_ret<|⟨_,Clo,[Bo true],⟨rfl,trivial⟩,hs438.ext,?_⟩
 exact Vr.eq (a:=vB) (x:=true) rfl (oi hm)
 intro K15 hK15
 have ch440:=hs9.stepR
 refine Wp_region<|Rop<|op_fA 0 ty26 rfl ty22 rfl rfl<|Rop<|op_ld 1 ty22 hs9 rfl rfl rfl<|Rop<|op_len Try.underlying22 rfl ?_
 have p442:=(p3.trans p8)
 replace Fa:=Fa.step p442
 have rl441:=inK_len Fa
 refine Rop<|op_fA 0 ty26 rfl ty22 rfl rfl<|Rop<|op_ld 0 ty22 hs9 rfl rfl rfl<|Rop<|op_len Try.underlying22 rfl ?_
 replace Fd:=Fd.step p442
 have rl443:=inK_len Fd
 refine Rop<|op_neq rfl rfl<|Mve (Bo (decide ((a.cells.length:Int)≠(b.cells.length:Int)))) rfl<|Rg_caseM hm (fun hg444 hm=>?_) (fun hg444 hm=>?_)
 iterate 7 refine Rg_opx rfl (asB_ne rfl rfl) rfl ?_
 refine Pkt (Bo true) rfl rfl<|Mve (Bo true) rfl ?_
 iterate 7 refine Rg_opx rfl (asB_ne rfl rfl) rfl ?_
 exact Pkt (Bo true) rfl rfl<|Rg_nil<|hK15 _ _ ⟨true,_,rfl,Frm.of ⟨rfl,trivial⟩,ch440,hs9,hm⟩
 refine Rog rfl rfl<|op_fA 1 ty26 rfl ty23 rfl rfl<|Rog rfl rfl<|op_ld 1 ty23 hs9 rfl rfl rfl<|Rog rfl rfl<|op_len Try.underlying23 rfl ?_
 replace Fb:=Fb.step p442
 have rl445:=inK_len Fb
 refine Rog rfl rfl<|op_fA 1 ty26 rfl ty23 rfl rfl<|Rog rfl rfl<|op_ld 0 ty23 hs9 rfl rfl rfl<|Rog rfl rfl<|op_len Try.underlying23 rfl ?_
 replace Fe:=Fe.step p442
 have rl446:=inK_len Fe
 refine Rog rfl rfl<|op_neq rfl rfl<|Pkf (Bo (decide ((a.capacity.length:Int)≠(b.capacity.length:Int)))) rfl rfl<|Mve (Bo (decide ((a.capacity.length:Int)≠(b.capacity.length:Int)))) rfl<|Rg_caseM hm (fun hg447 hm=>?_) (fun hg447 hm=>?_)
 iterate 7 refine Rg_opx rfl (asB_ne rfl rfl) rfl ?_
 exact Pkt (Bo true) rfl rfl<|Rg_nil<|hK15 _ _ ⟨true,_,rfl,Frm.of ⟨rfl,trivial⟩,ch440,hs9,hm⟩
 refine Rog rfl rfl<|op_fA 2 ty26 rfl ty24 rfl rfl<|Rog rfl rfl<|op_ld 1 ty24 hs9 rfl rfl rfl<|Rog rfl rfl<|op_len Try.underlying24 rfl ?_
 replace Fc:=Fc.step p442
 have rl448:=inK_len Fc
 refine Rog rfl rfl<|op_fA 2 ty26 rfl ty24 rfl rfl<|Rog rfl rfl<|op_ld 0 ty24 hs9 rfl rfl rfl<|Rog rfl rfl<|op_len Try.underlying24 rfl ?_
 replace Ff:=Ff.step p442
 have rl449:=inK_len Ff
 exact Rog rfl rfl<|op_neq rfl rfl<|Pkf (Bo (decide ((a.variables.length:Int)≠(b.variables.length:Int)))) rfl rfl<|Rg_nil<|hK15 _ _ ⟨decide ((a.variables.length:Int)≠(b.variables.length:Int)),_,rfl,Frm.of ⟨rfl,trivial⟩,ch440,hs9,hm⟩

abbrev q5_0:List Nat:=[11,12,13,14,15,16,17,18]

def m5_overflightlaw32_ReasonCheckSpec (p:XProblem) (r_:XReason):Option Bool:=
 m10_overflightlaw32_sane.bind fun sane_1=>
 bif (!sane_1) then
  some false
 else
  jn (fun(v_1:Bool)=>
   bif v_1 then
    some true
   else
    (m20_reason_Part p r_).bind fun part_1=>
    (m21_overflightref32_Part p r_).bind fun part_2=>
    (m22_overflightref32_SameProblem part_1.1 part_2.1).bind fun sameproblem_1=>
    bif sameproblem_1 then
     bif (decide (part_1.2=part_2.2)) then
      (m23_reason_Check p r_).bind fun check_1=>
      (m24_overflightref32_Check p r_).bind fun check_2=>
      some (decide (check_1=check_2))
     else
      some false
    else
     some false)
  (fun k24=>
   (m18_overflightref27_Few p).bind fun few_1=>
   bif (!few_1) then
    k24 true
   else
    (m19_overflightref32_Few r_).bind fun few_2=>
    k24 (!few_2))

theorem c5_overflightlaw32_ReasonCheckSpec {w:World} {O:List Nat} {p:XProblem} {r_:XReason} {Aa:Option Addr} {Ca:Nat} {Ab:Option Addr} {Cb:Nat} {Ac:Option Addr} {Cc:Nat} {Ad:Option Addr} {Cd:Nat} {Ae:Option Addr} {Ce:Nat} (hO:∀k∈O,k<w.heap.size) (Fa:SlR rXCell w O Aa Ca p.cells) (Fb:SlR (rSl (rInt .i64)) w O Ab Cb p.capacity) (Fc:SlR rXVariable w O Ac Cc p.variables) (Fd:SlR (rInt .i64) w O Ad Cd r_.variables) (Fe:SlR rXPlace w O Ae Ce r_.places) {x:Bool} (hm:m5_overflightlaw32_ReasonCheckSpec p r_=some x):
 Ok Try.prog 5 [Value.agg [Sl Aa p.cells Ca,Sl Ab p.capacity Cb,Sl Ac p.variables Cc].toArray,Value.agg [Sl Ad r_.variables Cd,Sl Ae r_.places Ce].toArray] w O vB x:=by
 unfold m5_overflightlaw32_ReasonCheckSpec at hm
 refine Fn_of_Wp (n:=48) (xs:=[.tmp 4]) Try.func5 rfl Try.ntmps5 Try.results5 rfl ?_
 have hs:=St.start hO
 refine Wp_seq<|Wp_region<|Rop<|op_box (cs:=[Sl Aa p.cells Ca,Sl Ab p.capacity Cb,Sl Ac p.variables Cc]) hs rfl rfl ?_
 intro b1 w2 _ p3 hs4
 refine Rop<|op_box (cs:=[Sl Ad r_.variables Cd,Sl Ae r_.places Ce]) hs4 rfl rfl ?_
 intro b6 w7 _ p8 hs9
 clear hs4
 refine Asg (Bo false) rfl<|Rg_nil<|Wp_seq<|Wp_seq<|Wp_region ?_
 obtain⟨sane_1,hv11,hm⟩:=bd hm
 refine Rop<|op_callE hs9 Try.call10 (c10_overflightlaw32_sane hs9.ltw hv11) rfl ?_
 rintro v12 w13 p17 hs16 h15
 clear hs9
 obtain rfl:=h15
 refine Rop<|op_not rfl<|Rg_nil<|Wp_condM hm rfl (fun hc19 hm=>?_) (fun hc19 hm=>?_)
 refine Wp_seq ?_
 obtain⟨hs20,p21⟩:=hs16.sub (bs':=[]) (.cons _ (.cons _ List.Sublist.slnil))
 clear Fa Fb Fc Fd Fe
 clear hs16
 refine Wp_region<|Asg (Bo false) rfl<|Rg_nil<|Wp_ret<|⟨_,Clo,[Bo false],⟨rfl,trivial⟩,hs20.ext,?_⟩
 exact Vr.eq (a:=vB) (x:=false) rfl (oi hm)
 refine Wp_skip<|Wp_seq<|Wr [] [(2,Pt b1 0),(3,Pt b6 0)] fun ξ22=>?_
 obtain⟨k24,hk25,hm⟩:=jn_elim hm
 refine Wp_seqJ q5_0 (fun fr w'=>∃(v_1:Bool) (Ebs:Ents),Ebs=[(some b6,Oc [Sl Ad r_.variables Cd,Sl Ae r_.places Ce] 34),(some b1,Oc [Sl Aa p.cells Ca,Sl Ab p.capacity Cb,Sl Ac p.variables Cc] 26)]∧fr [] [(18,Bo v_1)]∧hs16.S (ks Ebs O) w'∧St ⟨w,[],[]⟩ O w' Ebs∧k24 v_1=some x) ?_ ?_
 rintro ρ31 w27 ⟨v_1,_,rfl,hfr30,hst29,hs28,hm⟩
 replace hm:=jnE1 hk25 hm
 rw [hfr30.eq];clear hfr30
 refine Wp_condM hm rfl (fun hc32 hm=>?_) (fun hc32 hm=>?_)
 refine Wp_seq ?_
 obtain⟨hs33,p34⟩:=hs28.sub (bs':=[]) (.cons _ (.cons _ List.Sublist.slnil))
 clear Fa Fb Fc Fd Fe
 clear hs28
 refine Wp_region<|Asg (Bo true) rfl<|Rg_nil<|Wp_ret<|⟨_,Clo,[Bo true],⟨rfl,trivial⟩,hs33.ext,?_⟩
 exact Vr.eq (a:=vB) (x:=true) rfl (oi hm)
 refine Wp_skip<|Wp_seq<|Wp_region<|Rop<|op_ldA 1 ty26 hs28 rfl rfl rfl<|Rop<|op_ldA 0 ty34 hs28 rfl rfl rfl ?_
 obtain⟨part_1,hv35,hm⟩:=bd hm
 have p41:=(p3.trans (p8.trans (p17.trans hst29)))
 replace Fb:=Fb.step p41;replace Fa:=Fa.step p41;replace Fc:=Fc.step p41;replace Fe:=Fe.step p41;replace Fd:=Fd.step p41
 refine Rop<|op_callE hs28 Try.call20 (c20_reason_Part (p:=p) (r_:=r_) hs28.ltw Fa Fb Fc Fd Fe hv35) rfl ?_
 rintro v36 w37 p42 hs40 h39
 clear hs28
 obtain⟨v43,v44,rfl,h45,h46⟩:=h39
 obtain⟨_,rfl,⟨_,_,rfl,⟨Af,Cf,rfl,Ff⟩,⟨_,_,rfl,⟨Ag,Cg,rfl,Fg⟩,⟨Ah,Ch,rfl,Fh⟩⟩⟩⟩:=h45
 obtain⟨rfl,Ra⟩:=h46
 refine Mve (Value.tuple [Value.agg [Sl Af part_1.1.cells Cf,Sl Ag part_1.1.capacity Cg,Sl Ah part_1.1.variables Ch].toArray,Iv part_1.2].toArray) rfl<|Rop<|op_extract (v:=Value.agg [Sl Af part_1.1.cells Cf,Sl Ag part_1.1.capacity Cg,Sl Ah part_1.1.variables Ch].toArray) rfl rfl<|Rop<|op_extract (v:=Iv part_1.2) rfl rfl<|Rop<|op_alloc ty26 hs40 ?_
 intro b49 w50 _ p51 hs52
 clear hs40
 refine Rg_op_<|op_stA .z ty26 hs52 rfl rfl rfl rfl rfl ?_
 intro w54 p55 hs56
 clear hs52
 refine Asg (Iv part_1.2) rfl<|Rg_nil<|Wp_seq<|Wp_region<|Rop<|op_ldA 2 ty26 hs56 rfl rfl rfl<|Rop<|op_ldA 1 ty34 hs56 rfl rfl rfl ?_
 obtain⟨part_2,hv57,hm⟩:=bd hm
 have p63:=(p42.trans (p51.trans p55))
 replace Fb:=Fb.step p63;replace Fa:=Fa.step p63;replace Fc:=Fc.step p63;replace Fe:=Fe.step p63;replace Fd:=Fd.step p63
 refine Rop<|op_callE hs56 Try.call21 (c21_overflightref32_Part (p:=p) (r_:=r_) hs56.ltw Fa Fb Fc Fd Fe hv57) rfl ?_
 rintro v58 w59 p64 hs62 h61
 clear hs56
 obtain⟨v65,v66,rfl,h67,h68⟩:=h61
 obtain⟨_,rfl,⟨_,_,rfl,⟨Ai,Ci,rfl,Fi⟩,⟨_,_,rfl,⟨Aj,Cj,rfl,Fj⟩,⟨Ak,Ck,rfl,Fk⟩⟩⟩⟩:=h67
 obtain⟨rfl,Rb⟩:=h68
 refine Mve (Value.tuple [Value.agg [Sl Ai part_2.1.cells Ci,Sl Aj part_2.1.capacity Cj,Sl Ak part_2.1.variables Ck].toArray,Iv part_2.2].toArray) rfl<|Rop<|op_extract (v:=Value.agg [Sl Ai part_2.1.cells Ci,Sl Aj part_2.1.capacity Cj,Sl Ak part_2.1.variables Ck].toArray) rfl rfl<|Rop<|op_extract (v:=Iv part_2.2) rfl rfl<|Rop<|op_alloc ty26 hs62 ?_
 intro b71 w72 _ p73 hs74
 clear hs62
 refine Rg_op_<|op_stA .z ty26 hs74 rfl rfl rfl rfl rfl ?_
 intro w76 p77 hs78
 clear hs74
 refine Asg (Iv part_2.2) rfl<|Rg_nil<|Wp_seq<|Wp_drawR (g0:=[]) (m:=14) (fl:=[]) (TS_inv hs78) rfl (.inl rfl) rfl (by decide+kernel) ?_  -- 7
 refine Dw_p (Value.agg [Sl Af part_1.1.cells Cf,Sl Ag part_1.1.capacity Cg,Sl Ah part_1.1.variables Ch].toArray) (fun _ _ _ hi ht=>op_ldA 1 ty26 (Step.nx hi).1 (ht 5 rfl) rfl rfl<|Gz hi)<|Dw_p (Value.agg [Sl Ai part_2.1.cells Ci,Sl Aj part_2.1.capacity Cj,Sl Ak part_2.1.variables Ck].toArray) (fun _ _ _ hi ht=>op_ldA 0 ty26 (Step.nx hi).1 (ht 7 rfl) rfl rfl<|Gz hi) ?_
 obtain⟨sameproblem_1,hv88,hm⟩:=bd hm
 have p94:=(p51.trans (p55.trans (p64.trans (p73.trans p77))))
 replace Fg:=Fg.step p94;replace Ff:=Ff.step p94;replace Fh:=Fh.step p94
 have p95:=(p73.trans p77)
 replace Fj:=Fj.step p95;replace Fi:=Fi.step p95;replace Fk:=Fk.step p95
 refine Dw_op (VD _ _ vB sameproblem_1) (VD.stab _ _) (fun ρ85 w86 g hle hi ht=>?_) ?_
 obtain⟨-,hst,-⟩:=hle
 replace Ff:=Ff.step hst;replace Fg:=Fg.step hst;replace Fh:=Fh.step hst;replace Fi:=Fi.step hst;replace Fj:=Fj.step hst;replace Fk:=Fk.step hst
 refine StepOp_plain (op_call Try.call22 (c22_overflightref32_SameProblem (O:=ks (ents g++[(some b71,Oc [Sl Ai part_2.1.cells Ci,Sl Aj part_2.1.capacity Cj,Sl Ak part_2.1.variables Ck] 26),(some b49,Oc [Sl Af part_1.1.cells Cf,Sl Ag part_1.1.capacity Cg,Sl Ah part_1.1.variables Ch] 26),(some b6,Oc [Sl Ad r_.variables Cd,Sl Ae r_.places Ce] 34),(some b1,Oc [Sl Aa p.cells Ca,Sl Ab p.capacity Cb,Sl Ac p.variables Cc] 26)]) O) (a:=part_1.1) (b:=part_2.1) hi.ltw Ff Fg Fh Fi Fj Fk hv88) (by simp only [List.map,Array.toList,(show ev _ (.tmp 31)=_ from(ht 31 rfl)),(show ev _ (.tmp 32)=_ from(ht 32 rfl))]<;> rfl) ?_)
 rintro v89 w90 ⟨hx91,h92⟩
 exact Goes.call hi hx91 h92
 refine Dw_opB sameproblem_1 (fun ρ96 w97 g hle hi ht=>?_) (fun hg102=>?_) (fun hg102=>?_)
 have h99:Vr.vd vB _ _ _ _:=ht 33 rfl
 have q100:_=(Bo sameproblem_1):=h99
 exact StepOp_plain<|op_move (v:=Bo sameproblem_1) q100<|Gz hi
 replace hm:=bif_t hm hg102
 refine Dw_g (Iv part_1.2) rfl rfl (fun _ _ _ h=>h) (fun _ _ _ hi ht=>op_move (v:=Iv part_1.2) (ht 6 rfl)<|Gz hi)<|Dw_g (Iv part_2.2) rfl rfl (fun _ _ _ h=>h) (fun _ _ _ hi ht=>op_move (v:=Iv part_2.2) (ht 8 rfl)<|Gz hi)<|Dw_g (Bo (decide (part_1.2=part_2.2))) rfl rfl (fun _ _ _ h=>h) (fun _ _ _ hi ht=>op_eql (ht 35 rfl) (ht 36 rfl)<|Gz hi)<|Dw_p (Bo (decide (part_1.2=part_2.2))) (fun _ _ _ hi ht=>op_pick_t (v:=Bo (decide (part_1.2=part_2.2))) (ht 34 rfl) (ht 37 rfl)<|Gz hi)<|Dw_opB (decide (part_1.2=part_2.2)) (fun _ _ _ _ hi ht=>StepOp_plain<|op_move (v:=Bo (decide (part_1.2=part_2.2))) (ht 38 rfl)<|Gz hi) (fun hg118=>?_) (fun hg118=>?_)
 replace hm:=bif_t hm hg118
 refine Dw_g (Value.agg [Sl Aa p.cells Ca,Sl Ab p.capacity Cb,Sl Ac p.variables Cc].toArray) rfl rfl (fun _ _ _ h=>h) (fun _ _ _ hi ht=>op_ldA 3 ty26 (Step.nx hi).1 (ht 2 rfl) rfl rfl<|Gz hi)<|Dw_g (Value.agg [Sl Ad r_.variables Cd,Sl Ae r_.places Ce].toArray) rfl rfl (fun _ _ _ h=>h) (fun _ _ _ hi ht=>op_ldA 2 ty34 (Step.nx hi).1 (ht 3 rfl) rfl rfl<|Gz hi) ?_
 obtain⟨check_1,hv128,hm⟩:=bd hm
 have p134:=(p64.trans (p73.trans p77))
 replace Fb:=Fb.step p134;replace Fa:=Fa.step p134;replace Fc:=Fc.step p134;replace Fe:=Fe.step p134;replace Fd:=Fd.step p134
 refine Dw_op (VD _ _ (vI .i64) check_1) (VD.stab _ _) (fun ρ125 w126 g hle hi ht=>?_) ?_
 obtain⟨-,hst,-⟩:=hle
 replace Fa:=Fa.step hst;replace Fb:=Fb.step hst;replace Fc:=Fc.step hst;replace Fd:=Fd.step hst;replace Fe:=Fe.step hst
 refine StepOp_g rfl (ht 39 rfl) (op_call Try.call23 (c23_reason_Check (O:=ks (ents g++[(some b71,Oc [Sl Ai part_2.1.cells Ci,Sl Aj part_2.1.capacity Cj,Sl Ak part_2.1.variables Ck] 26),(some b49,Oc [Sl Af part_1.1.cells Cf,Sl Ag part_1.1.capacity Cg,Sl Ah part_1.1.variables Ch] 26),(some b6,Oc [Sl Ad r_.variables Cd,Sl Ae r_.places Ce] 34),(some b1,Oc [Sl Aa p.cells Ca,Sl Ab p.capacity Cb,Sl Ac p.variables Cc] 26)]) O) (p:=p) (r_:=r_) hi.ltw Fa Fb Fc Fd Fe hv128) (by simp only [List.map,Array.toList,(show ev _ (.tmp 40)=_ from(ht 40 rfl)),(show ev _ (.tmp 41)=_ from(ht 41 rfl))]<;> rfl) ?_)
 rintro v129 w130 ⟨hx131,h132⟩
 exact Goes.call hi hx131 h132
 refine Dw_g (Value.agg [Sl Aa p.cells Ca,Sl Ab p.capacity Cb,Sl Ac p.variables Cc].toArray) rfl rfl (fun _ _ _ h=>h) (fun _ _ _ hi ht=>op_ldA 3 ty26 (Step.nx hi).1 (ht 2 rfl) rfl rfl<|Gz hi)<|Dw_g (Value.agg [Sl Ad r_.variables Cd,Sl Ae r_.places Ce].toArray) rfl rfl (fun _ _ _ h=>h) (fun _ _ _ hi ht=>op_ldA 2 ty34 (Step.nx hi).1 (ht 3 rfl) rfl rfl<|Gz hi)<|Dw_nil fun w145 g146 hl147 hi148=>?_
 obtain⟨-,hst149,-⟩:=hl147
 obtain⟨hs151,p150⟩:=Step.nx hi148
 rintro _ rfl _ rfl v152 h153
 replace h153:Vr.vd (vI .i64) _ _ _ _:=h153
 obtain⟨rfl,Rc⟩:=h153
 rintro _ rfl _ rfl _ rfl _ rfl _ rfl _ rfl _ rfl _ rfl v155 h156
 replace h156:Vr.vd vB _ _ _ _:=h156
 obtain rfl:=h156
 rintro _ rfl _ rfl
 have p158:=hs78.to hs151 (hst149.trans p150)
 clear hs78
 obtain⟨check_2,hv159,hm⟩:=bd hm
 replace Fb:=Fb.step p158;replace Fa:=Fa.step p158;replace Fc:=Fc.step p158;replace Fe:=Fe.step p158;replace Fd:=Fd.step p158
 refine Rog rfl rfl<|op_callE hs151 Try.call24 (c24_overflightref32_Check (p:=p) (r_:=r_) hs151.ltw Fa Fb Fc Fd Fe hv159) rfl ?_
 rintro v160 w161 p165 hs164 h163
 clear hs151
 obtain⟨rfl,Rd⟩:=h163
 refine Rog rfl rfl<|op_eql rfl rfl<|Pkt (Bo (decide (check_1=check_2))) rfl rfl<|Asg (Bo (decide (check_1=check_2))) rfl<|Rg_nil<|Wp_ret<|⟨_,Clo,[Bo (decide (check_1=check_2))],⟨rfl,trivial⟩,hs164.ext,?_⟩
 exact Vr.eq (a:=vB) (x:=decide (check_1=check_2)) rfl (oi hm)
 replace hm:=bif_f hm hg118
 iterate 5 refine Dw_sk rfl rfl (fun _ _ _ h=>h) rfl ?_
 refine Dw_nil fun w171 g172 hl173 hi174=>?_
 obtain⟨-,hst175,-⟩:=hl173
 obtain⟨hs177,p176⟩:=Step.nx hi174
 rintro _ rfl _ rfl _ rfl _ rfl _ rfl _ rfl _ rfl _ rfl _ rfl _ rfl _ rfl v178 h179
 replace h179:Vr.vd vB _ _ _ _:=h179
 obtain rfl:=h179
 rintro _ rfl _ rfl
 have p181:=hs78.to hs177 (hst175.trans p176)
 clear hs78
 refine Rg_opx rfl (asB_ne rfl rfl) rfl<|Rg_opx rfl (asB_ne rfl rfl) rfl<|Pkf (Bo false) rfl rfl<|Asg (Bo false) rfl<|Rg_nil<|Wp_ret<|⟨_,Clo,[Bo false],⟨rfl,trivial⟩,hs177.ext,?_⟩
 exact Vr.eq (a:=vB) (x:=false) rfl (oi hm)
 replace hm:=bif_f hm hg102
 iterate 3 refine Dw_sk rfl rfl (fun _ _ _ h=>h) rfl ?_
 refine Dw_p (Bo false) (fun _ _ _ hi ht=>op_pick_f (v:=Bo false) (ht 34 rfl) rfl<|Gz hi)<|Dw_p (Bo false) (fun _ _ _ hi ht=>op_move (v:=Bo false) (ht 38 rfl)<|Gz hi) ?_
 iterate 5 refine Dw_sk rfl rfl (fun _ _ _ h=>h) rfl ?_
 refine Dw_nil fun w192 g193 hl194 hi195=>?_
 obtain⟨-,hst196,-⟩:=hl194
 obtain⟨hs198,p197⟩:=Step.nx hi195
 rintro _ rfl _ rfl _ rfl _ rfl _ rfl _ rfl _ rfl _ rfl _ rfl _ rfl _ rfl v199 h200
 replace h200:Vr.vd vB _ _ _ _:=h200
 obtain rfl:=h200
 rintro _ rfl _ rfl
 have p202:=hs78.to hs198 (hst196.trans p197)
 clear hs78
 refine Rg_opx rfl (asB_ne rfl rfl) rfl<|Rg_opx rfl (asB_ne rfl rfl) rfl<|Pkf (Bo false) rfl rfl<|Asg (Bo false) rfl<|Rg_nil<|Wp_ret<|⟨_,Clo,[Bo false],⟨rfl,trivial⟩,hs198.ext,?_⟩
 exact Vr.eq (a:=vB) (x:=false) rfl (oi hm)
 intro K26 hK26
 have ch203:=hs16.stepR
 refine Wp_region<|Rop<|op_ldA 1 ty26 hs16 rfl rfl rfl ?_
 obtain⟨few_1,hv204,hm⟩:=bd hm
 have p210:=(p3.trans (p8.trans p17))
 replace Fb:=Fb.step p210;replace Fa:=Fa.step p210;replace Fc:=Fc.step p210
 refine Rop<|op_callE hs16 Try.call18 (c18_overflightref27_Few (p:=p) hs16.ltw Fa Fb Fc hv204) rfl ?_
 rintro v205 w206 p211 hs209 h208
 obtain rfl:=h208
 refine Rop<|op_not rfl<|Mve (Bo (!few_1)) rfl<|Rg_caseM hm (fun hg213 hm=>?_) (fun hg213 hm=>?_)
 iterate 3 refine Rg_opx rfl (asB_ne rfl rfl) rfl ?_
 refine Pkt (Bo true) rfl rfl<|Rg_nil ?_
 replace ch203:=ch203.trans p211
 exact hK26 _ _ ⟨true,_,rfl,Frm.of ⟨rfl,trivial⟩,ch203,hs209,hm⟩
 refine Rog rfl rfl<|op_ldA 0 ty34 hs209 rfl rfl rfl ?_
 obtain⟨few_2,hv214,hm⟩:=bd hm
 have p220:=(p210.trans p211)
 replace Fe:=Fe.step p220;replace Fd:=Fd.step p220
 refine Rog rfl rfl<|op_callE hs209 Try.call19 (c19_overflightref32_Few (r_:=r_) hs209.ltw Fd Fe hv214) rfl ?_
 rintro v215 w216 p221 hs219 h218
 clear hs209
 obtain rfl:=h218
 refine Rog rfl rfl<|op_not rfl<|Pkf (Bo (!few_2)) rfl rfl<|Rg_nil ?_
 have p223:=(p211.trans p221)
 replace ch203:=ch203.trans p223
 exact hK26 _ _ ⟨!few_2,_,rfl,Frm.of ⟨rfl,trivial⟩,ch203,hs219,hm⟩

end Go.Fx
/- What the models of functions compute: loops over lists, checks, meetings. No program in sight. -/
set_option linter.unusedSimpArgs false
set_option linter.unusedVariables false
namespace Go.Fx
open Go Go.RowKit

section
variable {R α σ : Type}
@[simp] theorem jn_eq {κ:Type _} (k:κ) (f:κ→Option R):jn k f=f k:=rfl
theorem ck_eq {c:Prop} [Decidable c] {m:Option R} (h:c):ck c m=m:=if_pos h
@[simp] theorem ck_True {m:Option R} :ck True m=m:=if_pos trivial
theorem wrapN {i:Nat} (h:i<9223372036854775808):IntKind.i64.wrap (i:Int)=(i:Int):=wrap_i64 (by omega) (by omega)
theorem wrapS {i:Nat} (h:i+1<9223372036854775808):IntKind.i64.wrap ((i:Int)+1)=(i:Int)+1:=wrap_i64 (by omega) (by omega)
theorem wrapP {i:Nat} (h:i<9223372036854775808):IntKind.i64.wrap (((i+1:Nat):Int) - 1)=(i:Int):=(wrap_i64 (by omega) (by omega)).trans (by omega)

theorem up_list {L:Nat→Int→σ→Option R} (I:Nat→σ→Prop) (F:Nat→List α→σ→Option R) (l:List α) (hl:l.length<9223372036854775807)
    (hE:∀n s,I l.length s→L (n+1) (l.length:Nat) s=F l.length [] s)
    (hS:∀n (i:Nat) s x t,i<l.length→l[i]?=some x→IntKind.i64.wrap ((i:Int)+1)=(i:Int)+1→I i s→
      (∀s,I (i+1) s→L n ((i:Int)+1) s=F (i+1) t s)→L (n+1) (i:Int) s=F i (x::t) s):
    ∀(fuel:Nat) s,l.length<fuel→I 0 s→L fuel 0 s=F 0 l s:=by
  have main:∀(t:List α) (i fuel:Nat) s,l.drop i=t→i≤l.length→l.length - i<fuel→I i s→L fuel (i:Int) s=F i t s:=by
    intro t
    induction t with
    |nil=>
      intro i fuel s hd hi hf hI
      have:i=l.length:=by have:=congrArg List.length hd;simp at this;omega
      subst this
      obtain⟨n,rfl⟩:∃n,fuel=n+1:=⟨fuel - 1,by omega⟩
      exact hE n s hI
    |cons x t ih=>
      intro i fuel s hd hi hf hI
      have hlt:i<l.length:=by have:=congrArg List.length hd;simp at this;omega
      obtain⟨n,rfl⟩:∃n,fuel=n+1:=⟨fuel - 1,by omega⟩
      have hx:l[i]?=some x:=by rw [← List.head?_drop,hd];rfl
      refine hS n i s x t hlt hx (wrapS (by omega)) hI fun s' hI'=>(ih (i+1) n s' ?_ (by omega) (by omega) hI')
      rw [← List.drop_drop,hd];rfl
  intro fuel s hf hI
  exact main l 0 fuel s rfl (by omega) (by omega) hI

theorem getD_of {l:List α} {i:Nat} {x d:α} (h:l[i]?=some x):l.getD i d=x:=by simp [List.getD,h]

theorem up_list0 {B:(Int→Option R)→Int→Option R} (F:List α→Option R) (l:List α) (hl:l.length<9223372036854775807)
    (hE:∀sf,B sf (l.length:Nat)=F [])
    (hS:∀sf (i:Nat) x t,i<l.length→l[i]?=some x→IntKind.i64.wrap ((i:Int)+1)=(i:Int)+1→
      sf ((i:Int)+1)=F t→B sf (i:Int)=F (x::t))
    {fuel:Nat} (hf:l.length<fuel):loop1 B fuel 0=F l:=by
  refine up_list (L:=fun n i (_:Unit)=>loop1 B n i) (fun _ _=>True) (fun _ t _=>F t) l hl ?_ ?_ fuel () hf trivial
  · intro n _ _;show loop1 B (n+1) _=_;rw [loop1_succ];exact hE _
  · intro n i _ x t h1 h2 h3 _ ih;show loop1 B (n+1) _=_;rw [loop1_succ];exact hS _ i x t h1 h2 h3 (ih () trivial)
theorem up_listA {B:(Int→σ→Option R)→Int→σ→Option R} (I:Nat→σ→Prop) (F:Nat→List α→σ→Option R) (l:List α) (hl:l.length<9223372036854775807)
    (hE:∀sf s,I l.length s→B sf (l.length:Nat) s=F l.length [] s)
    (hS:∀sf (i:Nat) s x t,i<l.length→l[i]?=some x→IntKind.i64.wrap ((i:Int)+1)=(i:Int)+1→I i s→
      (∀s,I (i+1) s→sf ((i:Int)+1) s=F (i+1) t s)→B sf (i:Int) s=F i (x::t) s)
    {fuel:Nat} {s:σ} (hf:l.length<fuel) (hI:I 0 s):loop2 B fuel 0 s=F 0 l s:=by
  refine up_list (L:=fun n i s=>loop2 B n i s) I F l hl ?_ ?_ fuel s hf hI
  · intro n s h;show loop2 B (n+1) _ _=_;rw [loop2_succ];exact hE _ _ h
  · intro n i s x t h1 h2 h3 h4 ih;show loop2 B (n+1) _ _=_;rw [loop2_succ];exact hS _ i s x t h1 h2 h3 h4 ih
theorem up_listB {B:(σ→Int→Option R)→σ→Int→Option R} (I:Nat→σ→Prop) (F:Nat→List α→σ→Option R) (l:List α) (hl:l.length<9223372036854775807)
    (hE:∀sf s,I l.length s→B sf s (l.length:Nat)=F l.length [] s)
    (hS:∀sf (i:Nat) s x t,i<l.length→l[i]?=some x→IntKind.i64.wrap ((i:Int)+1)=(i:Int)+1→I i s→
      (∀s,I (i+1) s→sf s ((i:Int)+1)=F (i+1) t s)→B sf s (i:Int)=F i (x::t) s)
    {fuel:Nat} {s:σ} (hf:l.length<fuel) (hI:I 0 s):loop2 B fuel s 0=F 0 l s:=by
  refine up_list (L:=fun n i s=>loop2 B n s i) I F l hl ?_ ?_ fuel s hf hI
  · intro n s h;show loop2 B (n+1) _ _=_;rw [loop2_succ];exact hE _ _ h
  · intro n i s x t h1 h2 h3 h4 ih;show loop2 B (n+1) _ _=_;rw [loop2_succ];exact hS _ i s x t h1 h2 h3 h4 ih

theorem up_listI {B:(Int→Option R)→Int→Option R} (F:Nat→List α→Option R) (l:List α) (hl:l.length<9223372036854775807)
    (hE:∀sf,B sf (l.length:Nat)=F l.length [])
    (hS:∀sf (i:Nat) x t,i<l.length→l[i]?=some x→IntKind.i64.wrap ((i:Int)+1)=(i:Int)+1→
      sf ((i:Int)+1)=F (i+1) t→B sf (i:Int)=F i (x::t))
    {fuel:Nat} (hf:l.length<fuel):loop1 B fuel 0=F 0 l:=by
  refine up_list (L:=fun n i (_:Unit)=>loop1 B n i) (fun _ _=>True) (fun i t _=>F i t) l hl ?_ ?_ fuel () hf trivial
  · intro n _ _;show loop1 B (n+1) _=_;rw [loop1_succ];exact hE _
  · intro n i _ x t h1 h2 h3 _ ih;show loop1 B (n+1) _=_;rw [loop1_succ];exact hS _ i x t h1 h2 h3 (ih () trivial)
end
end Go.Fx
/- Chapter 32: what is a valid problem, a valid reason. Loops that ask the same of each element. -/
set_option linter.unusedSimpArgs false
set_option linter.unusedVariables false
set_option maxRecDepth 100000
namespace Go.Fx
open Go Go.RowKit
section
variable {R α σ : Type}
def adj (lt : α → α → Bool) : List α → Bool
  | a :: b :: t => lt a b && adj lt (b :: t)
  | _ => true
/-- each element by itself, and beside the one before it -/
def allP (ok : α → Bool) (lt : α → α → Bool) : Option α → List α → Bool
  | _, [] => true
  | o, x :: t => ok x && (o.all fun y => lt y x) && allP ok lt (some x) t
theorem allP_some {ok : α → Bool} {lt : α → α → Bool} : ∀ (t : List α) (a : α), allP ok lt (some a) t = (t.all ok && adj lt (a :: t))
  | [], a => by simp [allP, adj]
  | x :: t, a => by
    simp only [allP, adj, allP_some t x, List.all_cons, Option.all_some]
    cases ok x <;> cases lt a x <;> cases t.all ok <;> simp
theorem allP_none {ok : α → Bool} {lt : α → α → Bool} (l : List α) : allP ok lt none l = (l.all ok && adj lt l) := by
  cases l with
  | nil => simp [allP, adj]
  | cons x t => simp only [allP, allP_some, List.all_cons, Option.all_none, Bool.and_true, Bool.and_assoc]
/-- a loop that asks ok of each element, and lt of each and the one before it -/
theorem adj_up {B : (Int → Option R) → Int → Option R} {l : List α} (ok : α → Bool) (lt : α → α → Bool) (bad fin : Option R) (hl : l.length < 9223372036854775807)
    (hE : ∀ sf, B sf (l.length : Nat) = fin)
    (h0 : ∀ sf x, 0 < l.length → l[0]? = some x → IntKind.i64.wrap ((0 : Int) + 1) = 1 → B sf 0 = bif ok x then sf 1 else bad)
    (hS : ∀ sf (j : Nat) y x, j + 1 < l.length → l[j]? = some y → l[j + 1]? = some x → IntKind.i64.wrap (((j + 1 : Nat) : Int) + 1) = ((j + 1 : Nat) : Int) + 1 → IntKind.i64.wrap (((j + 1 : Nat) : Int) - 1) = (j : Int) →
      B sf ((j + 1 : Nat) : Int) = bif (ok x && lt y x) then sf (((j + 1 : Nat) : Int) + 1) else bad)
    {fuel : Nat} (hf : l.length < fuel) : loop1 B fuel 0 = bif (l.all ok && adj lt l) then fin else bad := by
  refine (up_listI (fun i t => bif allP ok lt (if i = 0 then none else l[i - 1]?) t then fin else bad) l hl (fun sf => by rw [hE]; rfl) ?_ hf).trans ?_
  · intro sf i x t h1 h2 h3 ih
    cases i with
    | zero =>
      have e := h0 sf x h1 h2 (by simpa using h3)
      simp only [Nat.zero_add, Nat.succ_ne_zero, if_false, if_true, Nat.add_sub_cancel, h2, Int.natCast_zero, Int.zero_add] at ih ⊢
      show B sf 0 = _
      rw [e, allP]
      cases ok x
      · simp
      · simp only [cond_true, Option.all_none, Bool.and_true, Bool.true_and]; exact ih
    | succ j =>
      have hy : l[j]? = some l[j] := List.getElem?_eq_getElem (by omega)
      have e := hS sf j l[j] x h1 hy h2 h3 (wrapP (by omega))
      simp only [Nat.succ_ne_zero, if_false, Nat.add_sub_cancel, h2] at ih ⊢
      rw [e, allP, hy]
      cases hc : (ok x && lt l[j] x)
      · simp only [Option.all_some, hc, Bool.false_and, cond_false]
      · simp only [Option.all_some, hc, Bool.true_and, cond_true]; exact ih
  · simp only [if_true, allP_none]
/-- each by itself -/
theorem all_up {B : (Int → Option R) → Int → Option R} {l : List α} (ok : α → Bool) (bad fin : Option R) (hl : l.length < 9223372036854775807)
    (hE : ∀ sf, B sf (l.length : Nat) = fin)
    (hS : ∀ sf (i : Nat) x, i < l.length → l[i]? = some x → IntKind.i64.wrap ((i : Int) + 1) = (i : Int) + 1 → B sf (i : Int) = bif ok x then sf ((i : Int) + 1) else bad)
    {fuel : Nat} (hf : l.length < fuel) : loop1 B fuel 0 = bif l.all ok then fin else bad := by
  refine up_list0 (fun t => bif t.all ok then fin else bad) l hl (fun sf => by rw [hE]; rfl) ?_ hf
  intro sf i x t h1 h2 h3 ih
  rw [hS sf i x h1 h2 h3, List.all_cons]
  cases ok x
  · rfl
  · simp only [cond_true, Bool.true_and]; exact ih
/-- from the second on, beside the one before -/
theorem adj_up1 {B : (Int → Option R) → Int → Option R} {l : List α} (lt : α → α → Bool) (bad fin : Option R) (hl : l.length < 9223372036854775807)
    (hE : ∀ sf (i : Nat), l.length ≤ i → i ≤ l.length + 1 → B sf (i : Int) = fin)
    (hS : ∀ sf (j : Nat) y x, j + 1 < l.length → l[j]? = some y → l[j + 1]? = some x → IntKind.i64.wrap (((j + 1 : Nat) : Int) + 1) = ((j + 1 : Nat) : Int) + 1 → IntKind.i64.wrap (((j + 1 : Nat) : Int) - 1) = (j : Int) →
      B sf ((j + 1 : Nat) : Int) = bif lt y x then sf (((j + 1 : Nat) : Int) + 1) else bad)
    {fuel : Nat} (hf : l.length - 1 < fuel) : loop1 B fuel 1 = bif adj lt l then fin else bad := by
  have main : ∀ (fuel j : Nat) (y : α) (t : List α), l.drop j = y :: t → l.length - (j + 1) < fuel → loop1 B fuel ((j + 1 : Nat) : Int) = bif adj lt (y :: t) then fin else bad := by
    intro fuel
    induction fuel with
    | zero => intro j y t _ h; omega
    | succ n ih =>
      intro j y t hd hf
      have hlen : l.length - j = t.length + 1 := by have := congrArg List.length hd; simpa using this
      have hy : l[j]? = some y := by rw [← List.head?_drop, hd]; rfl
      rw [loop1_succ]
      cases t with
      | nil => rw [hE _ _ (by simp at hlen; omega) (by simp at hlen; omega)]; rfl
      | cons x t =>
        simp only [List.length_cons] at hlen
        have hd2 : l.drop (j + 1) = x :: t := by rw [← List.drop_drop, hd]; rfl
        have hx : l[j + 1]? = some x := by rw [← List.head?_drop, hd2]; rfl
        rw [hS _ j y x (by omega) hy hx (wrapS (by omega)) (wrapP (by omega)), adj]
        cases lt y x
        · rfl
        · simp only [cond_true, Bool.true_and]; exact ih (j + 1) x t hd2 (by omega)
  cases l with
  | nil =>
    obtain ⟨n, rfl⟩ : ∃ n, fuel = n + 1 := ⟨fuel - 1, by simp at hf; omega⟩
    rw [loop1_succ]; exact hE _ 1 (by simp) (by simp)
  | cons y t => exact main fuel 0 y t rfl hf
/-- facts on an index within a list, for simp -/
theorem inBd {i n : Nat} (h : i < n) : ((0 : Int) ≤ (i : Int) ∧ (i : Int) < (n : Int)) = True := by simp; omega
theorem ltBd {i n : Nat} (h : i < n) : decide ((i : Int) < (n : Int)) = true := by simpa using h
theorem ltE {n : Nat} : decide ((n : Int) < (n : Int)) = false := by simp
end
def within (n lo hi : Int) : Bool := decide (lo ≤ n) && decide (n ≤ hi)
theorem m33_eq (n lo hi : Int) : m33_problem_within n lo hi = some (within n lo hi) := by
  unfold m33_problem_within within; cases decide (lo ≤ n) <;> rfl
theorem m61_eq (n lo hi : Int) : m61_overflightref27_within n lo hi = some (within n lo hi) := by
  unfold m61_overflightref27_within within; cases decide (lo ≤ n) <;> rfl
def cmpI (x y : Int) : Int := if x < y then -1 else if y < x then 1 else 0
theorem m39_eq (x y : Int) : m39_cmp_Compare x y = some (cmpI x y) := by
  unfold m39_cmp_Compare m66_cmp_isNaN cmpI
  by_cases h : x < y
  · simp [h]
  · by_cases h2 : y < x <;> simp [h, h2]
theorem m64_eq (x y : Int) : m64_cmp_Or [x, y] = some (if x ≠ 0 then x else y) := by
  unfold m64_cmp_Or
  rw [up_list0 (B := m64_cmp_Or_B0 [x, y]) (fun t => some ((t.find? (fun z => decide (z ≠ 0))).getD 0)) [x, y] (by simp) ?_ ?_ (by simp)]
  · by_cases hx : x = 0
    · by_cases hy : y = 0 <;> simp [hx, hy]
    · simp [hx]
  · intro sf; unfold m64_cmp_Or_B0; simp
  · intro sf i z t h1 h2 h3 ih
    unfold m64_cmp_Or_B0
    simp only [ltBd h1, inBd h1, ck_True, Int.toNat_natCast, getD_of h2, h3, ih, cond_true, List.find?_cons]
    cases decide (z ≠ 0) <;> rfl
/-- the order of cells -/
def cb (a b : XCell) : Bool := if a.airport = b.airport then (if a.index = b.index then decide (a.minute < b.minute) else decide (a.index < b.index)) else b.airport
theorem m60_eq (a b : XCell) : m60_overflightref27_Before a b = some (cb a b) := by
  unfold m60_overflightref27_Before cb
  by_cases h : a.airport = b.airport
  · by_cases h2 : a.index = b.index <;> simp [h, h2]
  · have h3 : (a.airport == b.airport) = false := by simpa using h
    simp [h, h3]
def cmpC (a b : XCell) : Int := if a.airport = b.airport then (if cmpI a.index b.index ≠ 0 then cmpI a.index b.index else cmpI a.minute b.minute) else if b.airport then -1 else 1
theorem m35_eq (a b : XCell) : m35_problem_compare a b = some (cmpC a b) := by
  unfold m35_problem_compare cmpC
  by_cases h : a.airport = b.airport
  · simp only [h, beq_self_eq_true, Bool.not_true, cond_false, m39_eq, m64_eq, Option.bind_some, if_true]
  · have : (a.airport == b.airport) = false := by simpa using h
    simp only [this, h, Bool.not_false, cond_true, if_false]
    cases b.airport <;> rfl
theorem cmpC_cb (a b : XCell) : decide (0 ≤ cmpC a b) = !(cb a b) := by
  unfold cmpC cb cmpI
  by_cases h : a.airport = b.airport
  · simp only [h, if_true]
    by_cases h1 : a.index = b.index
    · simp only [h1, Int.lt_irrefl, if_false, ne_eq, not_true_eq_false, if_true]
      by_cases h2 : a.minute < b.minute
      · simp [h2]
      · simp only [h2, if_false, decide_false, Bool.not_false, decide_eq_true_eq]; split <;> omega
    · simp only [h1, if_false]
      by_cases h2 : a.index < b.index
      · simp [h2]
      · have : b.index < a.index := by omega
        simp [h2, this]
  · simp only [h, if_false]
    cases b.airport <;> simp
theorem m34_eq (l : List XCell) (hl : l.length < 9223372036854775807) : m34_api_Cell_ l (fun x y => m35_problem_compare x y) = some (adj cb l) := by
  unfold m34_api_Cell_
  rw [adj_up1 (l := l) cb (some false) (some true) hl ?_ ?_ (by omega)]
  · cases adj cb l <;> rfl
  · intro sf i h1 h2; unfold m34_api_Cell__B0
    have : decide ((i : Int) < (l.length : Int)) = false := by simp; omega
    rw [this]; rfl
  · intro sf j y x h1 h2 h3 h4 h5; unfold m34_api_Cell__B0
    simp only [ltBd h1, h4, h5, inBd h1, inBd (show j < l.length by omega), ck_True, Int.toNat_natCast, getD_of h2, getD_of h3, m35_eq, Option.bind_some, cmpC_cb, cond_true]
    cases cb y x <;> rfl
theorem m38_eq (l : List Int) (hl : l.length < 9223372036854775807) : m38_problem_increasing l (fun x y => m39_cmp_Compare x y) = some (adj (fun x y => decide (x < y)) l) := by
  unfold m38_problem_increasing
  rw [adj_up1 (l := l) (fun x y => decide (x < y)) (some false) (some true) hl ?_ ?_ (by omega)]
  · cases adj _ l <;> rfl
  · intro sf i h1 h2; unfold m38_problem_increasing_B0
    have : decide ((i : Int) < (l.length : Int)) = false := by simp; omega
    rw [this]; rfl
  · intro sf j y x h1 h2 h3 h4 h5; unfold m38_problem_increasing_B0
    simp only [ltBd h1, h4, h5, inBd h1, inBd (show j < l.length by omega), ck_True, Int.toNat_natCast, getD_of h2, getD_of h3, m39_eq, Option.bind_some, cond_true]
    by_cases h : y < x
    · simp [cmpI, h]
    · have : 0 ≤ cmpI y x := by unfold cmpI; simp only [h, if_false]; split <;> omega
      simp [h, this]
theorem m40_eq (l : List XUse) (hl : l.length < 9223372036854775807) : m40_api_Use_ l (fun x y => m41_problem_Check_2 x y) = some (adj (fun x y => cb x.cell y.cell) l) := by
  unfold m40_api_Use_
  rw [adj_up1 (l := l) (fun x y => cb x.cell y.cell) (some false) (some true) hl ?_ ?_ (by omega)]
  · cases adj _ l <;> rfl
  · intro sf i h1 h2; unfold m40_api_Use__B0
    have : decide ((i : Int) < (l.length : Int)) = false := by simp; omega
    rw [this]; rfl
  · intro sf j y x h1 h2 h3 h4 h5; unfold m40_api_Use__B0
    simp only [ltBd h1, h4, h5, inBd h1, inBd (show j < l.length by omega), ck_True, Int.toNat_natCast, getD_of h2, getD_of h3, m41_problem_Check_2, m35_eq, Option.bind_some, cmpC_cb, cond_true]
    cases cb y.cell x.cell <;> rfl
theorem m36_eq (s : List Int) (hl : s.length < 9223372036854775807) : m36_slices_ContainsFuncint_int_ s (fun x => m37_problem_Check_1 x) = some (!(s.all fun n => within n 0 4096)) := by
  unfold m36_slices_ContainsFuncint_int_ m65_slices_IndexFuncint_int_
  have key : ∃ i : Int, loop1 (m65_slices_IndexFuncint_int__B0 s (fun x => m37_problem_Check_1 x)) (((s.length : Int) - 0).toNat + 1) 0 = some i ∧ decide (0 ≤ i) = !(s.all fun n => within n 0 4096) := by
    rw [up_listI (B := m65_slices_IndexFuncint_int__B0 s (fun x => m37_problem_Check_1 x)) (fun i t => some (match t.findIdx? (fun n => !(within n 0 4096)) with | none => (-1 : Int) | some k => ((i + k : Nat) : Int))) s hl ?_ ?_ (by omega)]
    · refine ⟨_, rfl, ?_⟩
      cases h : s.findIdx? (fun n => !(within n 0 4096)) with
      | none =>
        rw [List.findIdx?_eq_none_iff] at h
        have : (s.all fun n => within n 0 4096) = true := by rw [List.all_eq_true]; intro x hx; simpa using h x hx
        simp [this]
      | some k =>
        have : (s.all fun n => within n 0 4096) = false := by
          rw [List.all_eq_false]
          obtain ⟨hk, h1, _⟩ := List.findIdx?_eq_some_iff_getElem.1 h
          exact ⟨s[k], List.getElem_mem hk, by simpa using h1⟩
        simp [this]
    · intro sf; unfold m65_slices_IndexFuncint_int__B0; simp
    · intro sf i x t h1 h2 h3 ih
      unfold m65_slices_IndexFuncint_int__B0 m37_problem_Check_1
      simp only [ltBd h1, inBd h1, ck_True, Int.toNat_natCast, getD_of h2, m33_eq, Option.bind_some, h3, cond_true, List.findIdx?_cons]
      cases hw : within x 0 4096
      · simp
      · simp only [Bool.not_true, cond_false, Bool.false_eq_true, if_false]
        rw [ih]
        cases t.findIdx? (fun n => !(within n 0 4096)) with
        | none => rfl
        | some k => simp; omega
  obtain ⟨i, h1, h2⟩ := key
  rw [h1, Option.bind_some, h2]
end Go.Fx
/- Chapter 32: problem.Check and the reference's Check say the same; so do the Checks of reasons. -/
set_option linter.unusedSimpArgs false
set_option linter.unusedVariables false
set_option maxRecDepth 100000
namespace Go.Fx
open Go Go.RowKit
def okCell (c : XCell) : Bool := decide (0 ≤ c.index) && decide (0 ≤ c.minute)
def okUse (cells : List XCell) (u : XUse) : Bool := decide (u.cell ∈ cells) && within u.places 1 8
def okChoice (cells : List XCell) (c : XChoice) : Bool :=
  within c.delay 0 1048576 && (within c.cost 0 1048576 && (within c.changes 0 1048576 && (c.uses.all (okUse cells) && adj (fun x y => cb x.cell y.cell) c.uses)))
def okVar (cells : List XCell) (n : Nat) (v : XVariable) : Bool :=
  !(decide (v.leaves.length = 0)) && (within v.choices.length 1 96 && (((v.leaves.all fun k => within k 0 ((n : Int) - 1)) && adj (fun x y => decide (x < y)) v.leaves) && v.choices.all (okChoice cells)))
def okRow (n : Nat) (r : List Int) : Bool := decide (r.length = n) && r.all fun k => within k 0 4096
def okProb (p : XProblem) : Bool :=
  decide (p.cells.length ≤ 4096) && (within p.capacity.length 1 32 && (decide (p.variables.length ≤ 64) && ((p.cells.all okCell && adj cb p.cells) && (p.capacity.all (okRow p.cells.length) && p.variables.all (okVar p.cells p.capacity.length)))))
/-- in a rising list the first is the least, the last the greatest -/
theorem adj_ends {l : List Int} {n : Int} (h : adj (fun x y => decide (x < y)) l = true) {x : Int} (hx : x ∈ l) (d : Int) : l.getD 0 d ≤ x ∧ x ≤ l.getD (l.length - 1) d := by
  induction l generalizing x with
  | nil => cases hx
  | cons a t ih =>
    cases t with
    | nil => simp at hx; simp [hx]
    | cons b t =>
      simp only [adj, Bool.and_eq_true, decide_eq_true_eq] at h
      have e : (a :: b :: t).getD ((a :: b :: t).length - 1) d = (b :: t).getD ((b :: t).length - 1) d := by simp
      rw [e]
      rcases List.mem_cons.1 hx with rfl | hx
      · have := ih h.2 (List.mem_cons_self ..)
        simp only [List.getD_cons_zero] at this ⊢
        omega
      · have := ih h.2 hx
        simp only [List.getD_cons_zero] at this ⊢
        omega
theorem leaves_eq {l : List Int} {n : Nat} (h0 : l.length ≠ 0) (h : adj (fun x y => decide (x < y)) l = true) :
    (!(decide (l.getD 0 default < 0)) && !(decide ((n : Int) ≤ l.getD (l.length - 1) default))) = l.all fun k => within k 0 ((n : Int) - 1) := by
  rw [Bool.eq_iff_iff]
  simp only [Bool.and_eq_true, Bool.not_eq_true', decide_eq_false_iff_not, List.all_eq_true, within, decide_eq_true_eq]
  constructor
  · intro ⟨h1, h2⟩ x hx
    have := adj_ends (n := 0) h hx default
    omega
  · intro ha
    have m0 : l.getD 0 default ∈ l := by
      rw [getD_of (List.getElem?_eq_getElem (show 0 < l.length by omega))]; exact List.getElem_mem _
    have m1 : l.getD (l.length - 1) default ∈ l := by
      rw [getD_of (List.getElem?_eq_getElem (show l.length - 1 < l.length by omega))]; exact List.getElem_mem _
    have := ha _ m0; have := ha _ m1
    omega
theorem sm_len {α : Type} {S : α → Prop} {l : List α} (h : SmL S l) : l.length < 9223372036854775807 := by have := h.1; omega
theorem ge0 {α : Type} {l : List α} {i : Nat} {x : α} (h : l[i]? = some x) : x ∈ l := List.mem_of_getElem? h
theorem choice12 {p : XProblem} {map_1 : List (XCell × Bool)} {v : XVariable} {i : Nat} (hm : ∀ c, (mget map_1 c).getD false = decide (c ∈ p.cells)) (hv : p.variables[i]? = some v) (hs : smXVariable v)
    (sf156 : Int → Option Int) (hw : IntKind.i64.wrap ((i : Int) + 1) = (i : Int) + 1) :
    loop1 (m12_problem_Check_B3 p map_1 (i : Int) sf156) (((((p.variables.getD (i : Int).toNat default).choices).length : Int) - 0).toNat + 1) 0 = bif v.choices.all (okChoice p.cells) then sf156 ((i : Int) + 1) else some 270 := by
  simp only [Int.toNat_natCast, getD_of hv]
  refine all_up (okChoice p.cells) (some 270) (sf156 ((i : Int) + 1)) (sm_len hs.2.2.2) ?_ ?_ (by omega)
  · intro sf; unfold m12_problem_Check_B3
    simp only [Int.toNat_natCast, getD_of hv, ltE, cond_false, hw]
  · intro sf j c h1 h2 h3
    have hc := hs.2.2.2.2 c (ge0 h2)
    unfold m12_problem_Check_B3
    simp only [Int.toNat_natCast, getD_of hv, getD_of h2, ltBd h1, inBd h1, ck_True, cond_true, m33_eq, Option.bind_some, jn_eq, m40_eq _ (sm_len hc.2.2.2), okChoice]
    rw [all_up (B := m12_problem_Check_B4 p map_1 (i : Int) (j : Int) sf) (l := c.uses) (okUse p.cells) (some 270) (sf ((j : Int) + 1)) (sm_len hc.2.2.2) ?_ ?_ (by omega)]
    · cases within c.delay 0 1048576 <;> cases within c.cost 0 1048576 <;> cases within c.changes 0 1048576 <;> cases adj (fun x y => cb x.cell y.cell) c.uses <;> cases c.uses.all (okUse p.cells) <;> rfl
    · intro sf'; unfold m12_problem_Check_B4
      simp only [Int.toNat_natCast, getD_of hv, getD_of h2, ltE, cond_false, h3]
    · intro sf' k u h4 h5 h6
      unfold m12_problem_Check_B4
      simp only [Int.toNat_natCast, getD_of hv, getD_of h2, getD_of h5, ltBd h4, inBd h4, ck_True, cond_true, m33_eq, Option.bind_some, jn_eq, hm, okUse, h6]
      cases decide (u.cell ∈ p.cells) <;> cases within u.places 1 8 <;> rfl
theorem m12_eq {p : XProblem} (hp : smXProblem p) : m12_problem_Check p = some (bif okProb p then 0 else 270) := by
  obtain ⟨s1, s2, s3⟩ := hp
  unfold m12_problem_Check
  simp only [jn_eq, m33_eq, Option.bind_some, m34_eq _ (sm_len s1)]
  have vars : ∀ map_1 : List (XCell × Bool), (∀ c, (mget map_1 c).getD false = decide (c ∈ p.cells)) →
      loop1 (m12_problem_Check_B2 p map_1) (((p.variables.length : Int) - 0).toNat + 1) 0 = bif p.variables.all (okVar p.cells p.capacity.length) then some 0 else some 270 := by
    intro map_1 hm
    refine all_up (okVar p.cells p.capacity.length) (some 270) (some 0) (sm_len s3) ?_ ?_ (by omega)
    · intro sf; unfold m12_problem_Check_B2; simp only [ltE, cond_false]
    · intro sf i v h1 h2 h3
      have hv := s3.2 v (ge0 h2)
      unfold m12_problem_Check_B2
      rw [choice12 hm h2 hv sf h3]
      simp only [Int.toNat_natCast, getD_of h2, ltBd h1, inBd h1, ck_True, cond_true, m33_eq, Option.bind_some, jn_eq, m38_eq _ (sm_len hv.2.2.1), okVar]
      by_cases h0 : v.leaves.length = 0
      · simp [h0]
      · have e1 : IntKind.i64.wrap ((v.leaves.length : Int) - 1) = ((v.leaves.length - 1 : Nat) : Int) := by
          have := sm_len hv.2.2.1
          exact (wrap_i64 (by omega) (by omega)).trans (by omega)
        have c1 : ((0 : Int) ≤ 0 ∧ (0 : Int) < (v.leaves.length : Int)) = True := by simp; omega
        have c2 : ((0 : Int) ≤ ((v.leaves.length - 1 : Nat) : Int) ∧ ((v.leaves.length - 1 : Nat) : Int) < (v.leaves.length : Int)) = True := by simp; omega
        have c3 : decide ((v.leaves.length : Int) = 0) = false := by simpa using h0
        simp only [e1, c1, c2, c3, ck_True, cond_false, h0, decide_false, Bool.not_false, Bool.true_and, Int.toNat_natCast]
        cases within v.choices.length 1 96
        · rfl
        · simp only [Bool.not_true, cond_false, Bool.true_and]
          cases ha : adj (fun x y => decide (x < y)) v.leaves
          · simp
          · rw [← leaves_eq h0 ha]
            simp only [Bool.not_true, cond_false, Bool.and_true]
            cases decide (v.leaves.getD 0 default < 0) <;> cases decide ((p.capacity.length : Int) ≤ v.leaves.getD (v.leaves.length - 1) default) <;> cases v.choices.all (okChoice p.cells) <;> rfl
  have caps : ∀ map_1 : List (XCell × Bool), (∀ c, (mget map_1 c).getD false = decide (c ∈ p.cells)) →
      loop1 (m12_problem_Check_B1 p map_1) (((p.capacity.length : Int) - 0).toNat + 1) 0 = bif p.capacity.all (okRow p.cells.length) then (bif p.variables.all (okVar p.cells p.capacity.length) then some 0 else some 270) else some 270 := by
    intro map_1 hm
    refine all_up (okRow p.cells.length) (some 270) _ (sm_len s2) ?_ ?_ (by omega)
    · intro sf; unfold m12_problem_Check_B1; rw [vars map_1 hm]; simp only [ltE, cond_false]
    · intro sf i r h1 h2 h3
      unfold m12_problem_Check_B1
      simp only [Int.toNat_natCast, getD_of h2, ltBd h1, inBd h1, ck_True, cond_true, jn_eq, m36_eq _ (sm_len (s2.2 r (ge0 h2))), Option.bind_some, okRow, h3]
      by_cases h : r.length = p.cells.length
      · simp only [h, ne_eq, not_true_eq_false, decide_false, cond_false, decide_true, Bool.true_and]
        cases r.all fun k => within k 0 4096 <;> rfl
      · have : ((r.length : Int) ≠ (p.cells.length : Int)) := by omega
        simp [h, this]
  have cells : loop2 (m12_problem_Check_B0 p) (((p.cells.length : Int) - 0).toNat + 1) 0 ([] : List (XCell × Bool)) = bif p.cells.all okCell then (bif p.capacity.all (okRow p.cells.length) then (bif p.variables.all (okVar p.cells p.capacity.length) then some 0 else some 270) else some 270) else some 270 := by
    refine up_listA (fun i s => ∀ c, (mget s c).getD false = decide (c ∈ p.cells.take i)) (fun _ t _ => bif t.all okCell then _ else some 270) p.cells (sm_len s1) ?_ ?_ (by omega) (by simp [mget])
    · intro sf s hI
      unfold m12_problem_Check_B0
      rw [List.take_length] at hI
      rw [caps s hI]; simp only [ltE, cond_false, List.all_nil, cond_true]
    · intro sf i s x t h1 h2 h3 hI ih
      unfold m12_problem_Check_B0
      simp only [Int.toNat_natCast, getD_of h2, ltBd h1, inBd h1, ck_True, cond_true, jn_eq, h3, List.all_cons, okCell]
      have hn : ∀ c, (mget (mput s x true) c).getD false = decide (c ∈ p.cells.take (i + 1)) := by
        intro c
        rw [mget_put, List.take_add_one, h2]
        by_cases hc : x = c
        · simp [hc]
        · rw [if_neg hc, hI c]; simp [Ne.symm hc]
      rw [ih _ hn]
      by_cases h4 : x.index < 0
      · have : ¬ (0 ≤ x.index) := by omega
        simp [h4, this]
      · by_cases h5 : x.minute < 0
        · have : ¬ (0 ≤ x.minute) := by omega
          simp [h4, h5, this]
        · have a1 : 0 ≤ x.index := by omega
          have a2 : 0 ≤ x.minute := by omega
          simp [h4, h5, a1, a2]
  rw [cells]
  unfold okProb
  by_cases h1 : p.cells.length ≤ 4096
  · have e1 : ¬ ((4096 : Int) < (p.cells.length : Int)) := by omega
    by_cases h2 : p.variables.length ≤ 64
    · have e2 : ¬ ((64 : Int) < (p.variables.length : Int)) := by omega
      simp only [h1, h2, e1, e2, decide_true, decide_false, cond_false, Bool.true_and]
      cases within p.capacity.length 1 32 <;> cases adj cb p.cells <;> cases p.cells.all okCell <;> cases p.capacity.all (okRow p.cells.length) <;> cases p.variables.all (okVar p.cells p.capacity.length) <;> rfl
    · have e2 : (64 : Int) < (p.variables.length : Int) := by omega
      simp only [h1, h2, e1, e2, decide_true, decide_false, cond_false, cond_true, Bool.true_and, Bool.false_and, Bool.and_false]
      cases within p.capacity.length 1 32 <;> rfl
  · have e1 : (4096 : Int) < (p.cells.length : Int) := by omega
    simp [h1, e1]
end Go.Fx
/- Chapter 32: the reference's Check of problems; both Checks of reasons. -/
set_option linter.unusedSimpArgs false
set_option linter.unusedVariables false
set_option maxRecDepth 100000
namespace Go.Fx
open Go Go.RowKit
theorem m81_eq (l : List XCell) (c : XCell) (hl : l.length < 9223372036854775807) :
    m81_overflightref27_at l c = some (match l.findIdx? (fun x => decide (x = c)) with | none => (-1 : Int) | some k => (k : Int)) := by
  unfold m81_overflightref27_at
  rw [up_listI (B := m81_overflightref27_at_B0 l c) (fun i t => some (match t.findIdx? (fun x => decide (x = c)) with | none => (-1 : Int) | some k => ((i + k : Nat) : Int))) l hl ?_ ?_ (by omega)]
  · simp
  · intro sf; unfold m81_overflightref27_at_B0; simp
  · intro sf i x t h1 h2 h3 ih
    unfold m81_overflightref27_at_B0
    simp only [ltBd h1, inBd h1, ck_True, Int.toNat_natCast, getD_of h2, h3, cond_true, List.findIdx?_cons]
    cases hw : decide (x = c)
    · simp only [cond_false, Bool.false_eq_true, if_false]
      rw [ih]
      cases t.findIdx? (fun x => decide (x = c)) with
      | none => rfl
      | some k => simp; omega
    · simp
theorem at_neg (l : List XCell) (c : XCell) : decide ((match l.findIdx? (fun x => decide (x = c)) with | none => (-1 : Int) | some k => (k : Int)) < 0) = !(decide (c ∈ l)) := by
  cases h : l.findIdx? (fun x => decide (x = c)) with
  | none =>
    rw [List.findIdx?_eq_none_iff] at h
    have : c ∉ l := fun hc => by have := h c hc; simp at this
    simp [this]
  | some k =>
    obtain ⟨hk, h1, _⟩ := List.findIdx?_eq_some_iff_getElem.1 h
    have : c ∈ l := by have h1 : l[k] = c := by simpa using h1
                       rw [← h1]; exact List.getElem_mem hk
    simp [this]
theorem m62_eq {p : XProblem} {v : XVariable} (h1 : SmL smXCell p.cells) (h2 : p.capacity.length < 9223372036854775807) (hs : smXVariable v) :
    m62_overflightref27_variable p v = some (okVar p.cells p.capacity.length v) := by
  unfold m62_overflightref27_variable
  have chs : loop1 (m62_overflightref27_variable_B1 p v) (((v.choices.length : Int) - 0).toNat + 1) 0 = bif v.choices.all (okChoice p.cells) then some true else some false := by
    refine all_up (okChoice p.cells) (some false) (some true) (sm_len hs.2.2.2) ?_ ?_ (by omega)
    · intro sf; unfold m62_overflightref27_variable_B1; simp only [ltE, cond_false]
    · intro sf i c e1 e2 e3
      have hc := hs.2.2.2.2 c (ge0 e2)
      unfold m62_overflightref27_variable_B1
      simp only [Int.toNat_natCast, getD_of e2, ltBd e1, inBd e1, ck_True, cond_true, m61_eq, Option.bind_some, jn_eq, okChoice]
      rw [adj_up (B := m62_overflightref27_variable_B2 p v (i : Int) sf) (l := c.uses) (okUse p.cells) (fun x y => cb x.cell y.cell) (some false) (sf ((i : Int) + 1)) (sm_len hc.2.2.2) ?_ ?_ ?_ (by omega)]
      · cases within c.delay 0 1048576 <;> cases within c.cost 0 1048576 <;> cases within c.changes 0 1048576 <;> cases adj (fun x y => cb x.cell y.cell) c.uses <;> cases c.uses.all (okUse p.cells) <;> rfl
      · intro sf'; unfold m62_overflightref27_variable_B2
        simp only [Int.toNat_natCast, getD_of e2, ltE, cond_false, e3]
      · intro sf' u h0 hu hw
        unfold m62_overflightref27_variable_B2
        have c1 : ((0 : Int) ≤ 0 ∧ (0 : Int) < (c.uses.length : Int)) = True := by simp <;> omega
        have c2 : decide ((0 : Int) < (c.uses.length : Int)) = true := by simp <;> omega
        have hu' : c.uses.getD (0 : Int).toNat default = u := getD_of hu
        simp only [Int.toNat_natCast, getD_of e2, hu', c1, c2, ck_True, cond_true, m61_eq, m81_eq _ _ (sm_len h1), Option.bind_some, at_neg, jn_eq, okUse, hw, Int.lt_irrefl, decide_false, cond_false]
        cases decide (u.cell ∈ p.cells) <;> cases within u.places 1 8 <;> rfl
      · intro sf' j y u h0 hy hu hw hw2
        unfold m62_overflightref27_variable_B2
        have c3 : decide ((0 : Int) < ((j + 1 : Nat) : Int)) = true := by simp <;> omega
        simp only [Int.toNat_natCast, getD_of e2, getD_of hu, getD_of hy, ltBd h0, inBd h0, inBd (show j < c.uses.length by omega), c3, ck_True, cond_true, m61_eq, m60_eq, m81_eq _ _ (sm_len h1), Option.bind_some, at_neg, jn_eq, okUse, hw, hw2]
        cases decide (u.cell ∈ p.cells) <;> cases within u.places 1 8 <;> cases cb y.cell u.cell <;> rfl
  have e1 : IntKind.i64.wrap ((p.capacity.length : Int) - 1) = (p.capacity.length : Int) - 1 := wrap_i64 (by omega) (by omega)
  rw [adj_up (B := m62_overflightref27_variable_B0 p v) (l := v.leaves) (fun k => within k 0 ((p.capacity.length : Int) - 1)) (fun x y => decide (x < y)) (some false) (bif v.choices.all (okChoice p.cells) then some true else some false) (sm_len hs.2.2.1) ?_ ?_ ?_ (by omega)]
  · simp only [jn_eq, okVar]
    by_cases a : v.leaves.length = 0
    · simp [a]
    · have a1 : ¬ ((v.leaves.length : Int) < 1) := by omega
      simp only [a, a1, decide_false, cond_false, Bool.not_false, Bool.true_and]
      by_cases b : (v.choices.length : Int) < 1
      · have : within v.choices.length 1 96 = false := by simp [within]; omega
        simp [b, this]
      · by_cases b2 : (96 : Int) < (v.choices.length : Int)
        · have : within v.choices.length 1 96 = false := by simp [within]; omega
          simp [b, b2, this]
        · have : within v.choices.length 1 96 = true := by simp [within]; omega
          simp only [b, b2, this, decide_false, cond_false, Bool.true_and]
          cases (v.leaves.all fun k => within k 0 ((p.capacity.length : Int) - 1)) <;> cases adj (fun x y => decide (x < y)) v.leaves <;> cases v.choices.all (okChoice p.cells) <;> rfl
  · intro sf; unfold m62_overflightref27_variable_B0; rw [chs]; simp only [ltE, cond_false]
  · intro sf k h0 hk hw
    unfold m62_overflightref27_variable_B0
    have c1 : ((0 : Int) ≤ 0 ∧ (0 : Int) < (v.leaves.length : Int)) = True := by simp <;> omega
    have c2 : decide ((0 : Int) < (v.leaves.length : Int)) = true := by simp <;> omega
    have hk' : v.leaves.getD (0 : Int).toNat default = k := getD_of hk
    simp only [hk', c1, c2, ck_True, cond_true, m61_eq, Option.bind_some, jn_eq, hw, e1, Int.lt_irrefl, decide_false, cond_false]
    cases within k 0 ((p.capacity.length : Int) - 1) <;> rfl
  · intro sf j y k h0 hy hk hw hw2
    unfold m62_overflightref27_variable_B0
    have c3 : decide ((0 : Int) < ((j + 1 : Nat) : Int)) = true := by simp <;> omega
    have c4 : decide (k ≤ y) = !(decide (y < k)) := by by_cases h : y < k <;> simp [h] <;> omega
    simp only [Int.toNat_natCast, getD_of hk, getD_of hy, ltBd h0, inBd h0, inBd (show j < v.leaves.length by omega), c3, c4, ck_True, cond_true, m61_eq, Option.bind_some, jn_eq, hw, hw2, e1]
    cases within k 0 ((p.capacity.length : Int) - 1) <;> cases decide (y < k) <;> rfl
theorem m31_eq {p : XProblem} (hp : smXProblem p) : m31_overflightref27_Check p = some (bif okProb p then 0 else 270) := by
  obtain ⟨s1, s2, s3⟩ := hp
  have vars : loop1 (m31_overflightref27_Check_B3 p) (((p.variables.length : Int) - 0).toNat + 1) 0 = bif p.variables.all (okVar p.cells p.capacity.length) then some 0 else some 270 := by
    refine all_up (okVar p.cells p.capacity.length) (some 270) (some 0) (sm_len s3) ?_ ?_ (by omega)
    · intro sf; unfold m31_overflightref27_Check_B3; simp only [ltE, cond_false]
    · intro sf i v h1 h2 h3
      unfold m31_overflightref27_Check_B3
      simp only [Int.toNat_natCast, getD_of h2, ltBd h1, inBd h1, ck_True, cond_true, m62_eq s1 (sm_len s2) (s3.2 v (ge0 h2)), Option.bind_some, h3]
      cases okVar p.cells p.capacity.length v <;> rfl
  have caps : loop1 (m31_overflightref27_Check_B1 p) (((p.capacity.length : Int) - 0).toNat + 1) 0 = bif p.capacity.all (okRow p.cells.length) then (bif p.variables.all (okVar p.cells p.capacity.length) then some 0 else some 270) else some 270 := by
    refine all_up (okRow p.cells.length) (some 270) _ (sm_len s2) ?_ ?_ (by omega)
    · intro sf; unfold m31_overflightref27_Check_B1; rw [vars]; simp only [ltE, cond_false]
    · intro sf i r h1 h2 h3
      unfold m31_overflightref27_Check_B1
      simp only [Int.toNat_natCast, getD_of h2, ltBd h1, inBd h1, ck_True, cond_true, okRow]
      by_cases h : r.length = p.cells.length
      · simp only [h, ne_eq, not_true_eq_false, decide_false, cond_false, decide_true, Bool.true_and]
        rw [← h]
        refine all_up (B := m31_overflightref27_Check_B2 p (i : Int) sf) (l := r) (fun k => within k 0 4096) (some 270) (sf ((i : Int) + 1)) (sm_len (s2.2 r (ge0 h2))) ?_ ?_ (by omega)
        · intro sf'; unfold m31_overflightref27_Check_B2; rw [h]; simp only [ltE, cond_false, h3]
        · intro sf' j k h4 h5 h6
          unfold m31_overflightref27_Check_B2
          simp only [Int.toNat_natCast, getD_of h2, getD_of h5, ← h, ltBd h4, inBd h4, inBd h1, ck_True, cond_true, m61_eq, Option.bind_some, h6]
          cases within k 0 4096 <;> rfl
      · have : ((r.length : Int) ≠ (p.cells.length : Int)) := by omega
        simp [h, this]
  have cells : loop1 (m31_overflightref27_Check_B0 p) (((p.cells.length : Int) - 0).toNat + 1) 0 = bif (p.cells.all okCell && adj cb p.cells) then (bif p.capacity.all (okRow p.cells.length) then (bif p.variables.all (okVar p.cells p.capacity.length) then some 0 else some 270) else some 270) else some 270 := by
    have oc : ∀ x : XCell, okCell x = (!(decide (x.index < 0)) && !(decide (x.minute < 0))) := by
      intro x; unfold okCell; by_cases a : x.index < 0 <;> by_cases b : x.minute < 0 <;> simp [a, b] <;> omega
    refine adj_up okCell cb (some 270) _ (sm_len s1) ?_ ?_ ?_ (by omega)
    · intro sf; unfold m31_overflightref27_Check_B0; rw [caps]; simp only [ltE, cond_false]
    · intro sf x h0 hx hw
      unfold m31_overflightref27_Check_B0
      have c1 : ((0 : Int) ≤ 0 ∧ (0 : Int) < (p.cells.length : Int)) = True := by simp <;> omega
      have c2 : decide ((0 : Int) < (p.cells.length : Int)) = true := by simp <;> omega
      have hk' : p.cells.getD (0 : Int).toNat default = x := getD_of hx
      simp only [hk', c1, c2, ck_True, cond_true, jn_eq, hw, oc, Int.lt_irrefl, decide_false, cond_false]
      cases decide (x.index < 0) <;> cases decide (x.minute < 0) <;> rfl
    · intro sf j y x h0 hy hx hw hw2
      unfold m31_overflightref27_Check_B0
      have c3 : decide ((0 : Int) < ((j + 1 : Nat) : Int)) = true := by simp <;> omega
      simp only [Int.toNat_natCast, getD_of hx, getD_of hy, ltBd h0, inBd h0, inBd (show j < p.cells.length by omega), c3, ck_True, cond_true, m60_eq, Option.bind_some, jn_eq, hw, hw2, oc]
      cases decide (x.index < 0) <;> cases decide (x.minute < 0) <;> cases cb y x <;> rfl
  unfold m31_overflightref27_Check
  rw [cells]
  simp only [jn_eq]
  unfold okProb
  by_cases h1 : p.cells.length ≤ 4096
  · have e1 : ¬ ((4096 : Int) < (p.cells.length : Int)) := by omega
    simp only [h1, e1, decide_true, decide_false, cond_false, Bool.true_and]
    by_cases b : (p.capacity.length : Int) < 1
    · have : within p.capacity.length 1 32 = false := by simp [within]; omega
      simp [b, this]
    · by_cases b2 : (32 : Int) < (p.capacity.length : Int)
      · have : within p.capacity.length 1 32 = false := by simp [within]; omega
        simp [b, b2, this]
      · have : within p.capacity.length 1 32 = true := by simp [within]; omega
        simp only [b, b2, this, decide_false, cond_false, Bool.true_and]
        by_cases h2 : p.variables.length ≤ 64
        · have e2 : ¬ ((64 : Int) < (p.variables.length : Int)) := by omega
          simp only [h2, e2, decide_true, decide_false, cond_false, Bool.true_and]
          cases adj cb p.cells <;> cases p.cells.all okCell <;> cases p.capacity.all (okRow p.cells.length) <;> cases p.variables.all (okVar p.cells p.capacity.length) <;> rfl
        · have e2 : (64 : Int) < (p.variables.length : Int) := by omega
          simp [h2, e2]
  · have e1 : (4096 : Int) < (p.cells.length : Int) := by omega
    simp [h1, e1]
/-! reasons -/
def okIdx (n : Nat) (k : Int) : Bool := decide (0 ≤ k) && decide (k < (n : Int))
def okPlace (p : XProblem) (x : XPlace) : Bool := okIdx p.capacity.length x.leaf && okIdx p.cells.length x.cell
def pb (a b : XPlace) : Bool := decide (a.leaf < b.leaf) || (decide (a.leaf = b.leaf) && decide (a.cell < b.cell))
def okReason (p : XProblem) (r : XReason) : Bool := (r.variables.all (okIdx p.variables.length) && adj (fun x y => decide (x < y)) r.variables) && (r.places.all (okPlace p) && adj pb r.places)
theorem m63_eq (a b : XPlace) : m63_overflightref32_Before a b = some (pb a b) := by
  unfold m63_overflightref32_Before pb
  by_cases h : a.leaf < b.leaf
  · simp [h]
  · by_cases h2 : a.leaf = b.leaf <;> simp [h, h2]
def cmpP (a b : XPlace) : Int := if cmpI a.leaf b.leaf ≠ 0 then cmpI a.leaf b.leaf else cmpI a.cell b.cell
theorem m55_eq (a b : XPlace) : m55_reason_order a b = some (cmpP a b) := by
  unfold m55_reason_order cmpP
  simp only [m39_eq, m64_eq, Option.bind_some]
theorem cmpP_pb (a b : XPlace) : decide (0 ≤ cmpP a b) = !(pb a b) := by
  unfold cmpP pb cmpI
  by_cases h : a.leaf < b.leaf
  · simp [h]
  · by_cases h2 : b.leaf < a.leaf
    · have : a.leaf ≠ b.leaf := by omega
      simp [h, h2, this]
    · have : a.leaf = b.leaf := by omega
      simp only [this, Int.lt_irrefl, if_false, ne_eq, not_true_eq_false, decide_false, Bool.false_or, decide_true, Bool.true_and]
      by_cases h3 : a.cell < b.cell
      · simp [h3]
      · simp only [h3, if_false, decide_false, Bool.not_false, decide_eq_true_eq]; split <;> omega
theorem oi_eq (n : Nat) (k : Int) : okIdx n k = (!(decide (k < 0)) && !(decide ((n : Int) ≤ k))) := by
  unfold okIdx; by_cases a : k < 0 <;> by_cases b : (n : Int) ≤ k <;> simp [a, b] <;> omega
theorem m23_eq {p : XProblem} {r : XReason} (hp : smXProblem p) (hr : smXReason r) : m23_reason_Check p r = some (bif okProb p then (bif okReason p r then 0 else 320) else 270) := by
  unfold m23_reason_Check
  rw [m12_eq hp]
  have pl : loop1 (m23_reason_Check_B1 p r) (((r.places.length : Int) - 0).toNat + 1) 0 = bif (r.places.all (okPlace p) && adj pb r.places) then some 0 else some 320 := by
    refine adj_up (okPlace p) pb (some 320) (some 0) (sm_len hr.2) ?_ ?_ ?_ (by omega)
    · intro sf; unfold m23_reason_Check_B1; simp only [ltE, cond_false]
    · intro sf x h0 hx hw
      unfold m23_reason_Check_B1
      have c1 : ((0 : Int) ≤ 0 ∧ (0 : Int) < (r.places.length : Int)) = True := by simp <;> omega
      have c2 : decide ((0 : Int) < (r.places.length : Int)) = true := by simp <;> omega
      have hk' : r.places.getD (0 : Int).toNat default = x := getD_of hx
      simp only [hk', c1, c2, ck_True, cond_true, jn_eq, hw, okPlace, oi_eq, Int.lt_irrefl, decide_false, cond_false]
      cases decide (x.leaf < 0) <;> cases decide ((p.capacity.length : Int) ≤ x.leaf) <;> cases decide (x.cell < 0) <;> cases decide ((p.cells.length : Int) ≤ x.cell) <;> rfl
    · intro sf j y x h0 hy hx hw hw2
      unfold m23_reason_Check_B1
      have c3 : decide ((0 : Int) < ((j + 1 : Nat) : Int)) = true := by simp <;> omega
      simp only [Int.toNat_natCast, getD_of hx, getD_of hy, ltBd h0, inBd h0, inBd (show j < r.places.length by omega), c3, ck_True, cond_true, m55_eq, cmpP_pb, Option.bind_some, jn_eq, hw, hw2, okPlace, oi_eq]
      cases decide (x.leaf < 0) <;> cases decide ((p.capacity.length : Int) ≤ x.leaf) <;> cases decide (x.cell < 0) <;> cases decide ((p.cells.length : Int) ≤ x.cell) <;> cases pb y x <;> rfl
  have vs : loop1 (m23_reason_Check_B0 p r) (((r.variables.length : Int) - 0).toNat + 1) 0 = bif (r.variables.all (okIdx p.variables.length) && adj (fun x y => decide (x < y)) r.variables) then (bif (r.places.all (okPlace p) && adj pb r.places) then some 0 else some 320) else some 320 := by
    refine adj_up (okIdx p.variables.length) (fun x y => decide (x < y)) (some 320) _ (sm_len hr.1) ?_ ?_ ?_ (by omega)
    · intro sf; unfold m23_reason_Check_B0; rw [pl]; simp only [ltE, cond_false]
    · intro sf x h0 hx hw
      unfold m23_reason_Check_B0
      have c1 : ((0 : Int) ≤ 0 ∧ (0 : Int) < (r.variables.length : Int)) = True := by simp <;> omega
      have c2 : decide ((0 : Int) < (r.variables.length : Int)) = true := by simp <;> omega
      have hk' : r.variables.getD (0 : Int).toNat default = x := getD_of hx
      simp only [hk', c1, c2, ck_True, cond_true, jn_eq, hw, oi_eq, Int.lt_irrefl, decide_false, cond_false]
      cases decide (x < 0) <;> cases decide ((p.variables.length : Int) ≤ x) <;> rfl
    · intro sf j y x h0 hy hx hw hw2
      unfold m23_reason_Check_B0
      have c3 : decide ((0 : Int) < ((j + 1 : Nat) : Int)) = true := by simp <;> omega
      have c4 : decide (x ≤ y) = !(decide (y < x)) := by by_cases h : y < x <;> simp [h] <;> omega
      simp only [Int.toNat_natCast, getD_of hx, getD_of hy, ltBd h0, inBd h0, inBd (show j < r.variables.length by omega), c3, c4, ck_True, cond_true, jn_eq, hw, hw2, oi_eq]
      cases decide (x < 0) <;> cases decide ((p.variables.length : Int) ≤ x) <;> cases decide (y < x) <;> rfl
  rw [vs]
  unfold okReason
  cases okProb p
  · rfl
  · simp only [cond_true, Option.bind_some]
    cases (r.variables.all (okIdx p.variables.length) && adj (fun x y => decide (x < y)) r.variables) <;> cases (r.places.all (okPlace p) && adj pb r.places) <;> rfl
theorem m24_eq {p : XProblem} {r : XReason} (hp : smXProblem p) (hr : smXReason r) : m24_overflightref32_Check p r = some (bif okProb p then (bif okReason p r then 0 else 320) else 270) := by
  unfold m24_overflightref32_Check m56_overflightref32_Valid
  rw [m31_eq hp]
  have pl : loop1 (m56_overflightref32_Valid_B1 p r) (((r.places.length : Int) - 0).toNat + 1) 0 = bif (r.places.all (okPlace p) && adj pb r.places) then some true else some false := by
    refine adj_up (okPlace p) pb (some false) (some true) (sm_len hr.2) ?_ ?_ ?_ (by omega)
    · intro sf; unfold m56_overflightref32_Valid_B1; simp only [ltE, cond_false]
    · intro sf x h0 hx hw
      unfold m56_overflightref32_Valid_B1
      have c1 : ((0 : Int) ≤ 0 ∧ (0 : Int) < (r.places.length : Int)) = True := by simp <;> omega
      have c2 : decide ((0 : Int) < (r.places.length : Int)) = true := by simp <;> omega
      have hk' : r.places.getD (0 : Int).toNat default = x := getD_of hx
      simp only [hk', c1, c2, ck_True, cond_true, jn_eq, hw, okPlace, oi_eq, Int.lt_irrefl, decide_false, cond_false]
      cases decide (x.leaf < 0) <;> cases decide ((p.capacity.length : Int) ≤ x.leaf) <;> cases decide (x.cell < 0) <;> cases decide ((p.cells.length : Int) ≤ x.cell) <;> rfl
    · intro sf j y x h0 hy hx hw hw2
      unfold m56_overflightref32_Valid_B1
      have c3 : decide ((0 : Int) < ((j + 1 : Nat) : Int)) = true := by simp <;> omega
      simp only [Int.toNat_natCast, getD_of hx, getD_of hy, ltBd h0, inBd h0, inBd (show j < r.places.length by omega), c3, ck_True, cond_true, m63_eq, Option.bind_some, jn_eq, hw, hw2, okPlace, oi_eq]
      cases decide (x.leaf < 0) <;> cases decide ((p.capacity.length : Int) ≤ x.leaf) <;> cases decide (x.cell < 0) <;> cases decide ((p.cells.length : Int) ≤ x.cell) <;> cases pb y x <;> rfl
  have vs : loop1 (m56_overflightref32_Valid_B0 p r) (((r.variables.length : Int) - 0).toNat + 1) 0 = bif (r.variables.all (okIdx p.variables.length) && adj (fun x y => decide (x < y)) r.variables) then (bif (r.places.all (okPlace p) && adj pb r.places) then some true else some false) else some false := by
    refine adj_up (okIdx p.variables.length) (fun x y => decide (x < y)) (some false) _ (sm_len hr.1) ?_ ?_ ?_ (by omega)
    · intro sf; unfold m56_overflightref32_Valid_B0; rw [pl]; simp only [ltE, cond_false]
    · intro sf x h0 hx hw
      unfold m56_overflightref32_Valid_B0
      have c1 : ((0 : Int) ≤ 0 ∧ (0 : Int) < (r.variables.length : Int)) = True := by simp <;> omega
      have c2 : decide ((0 : Int) < (r.variables.length : Int)) = true := by simp <;> omega
      have hk' : r.variables.getD (0 : Int).toNat default = x := getD_of hx
      simp only [hk', c1, c2, ck_True, cond_true, jn_eq, hw, oi_eq, Int.lt_irrefl, decide_false, cond_false]
      cases decide (x < 0) <;> cases decide ((p.variables.length : Int) ≤ x) <;> rfl
    · intro sf j y x h0 hy hx hw hw2
      unfold m56_overflightref32_Valid_B0
      have c3 : decide ((0 : Int) < ((j + 1 : Nat) : Int)) = true := by simp <;> omega
      have c4 : decide (x ≤ y) = !(decide (y < x)) := by by_cases h : y < x <;> simp [h] <;> omega
      simp only [Int.toNat_natCast, getD_of hx, getD_of hy, ltBd h0, inBd h0, inBd (show j < r.variables.length by omega), c3, c4, ck_True, cond_true, jn_eq, hw, hw2, oi_eq]
      cases decide (x < 0) <;> cases decide ((p.variables.length : Int) ≤ x) <;> cases decide (y < x) <;> rfl
  rw [vs]
  unfold okReason
  cases okProb p
  · rfl
  · simp only [cond_true, Option.bind_some]
    cases (r.variables.all (okIdx p.variables.length) && adj (fun x y => decide (x < y)) r.variables) <;> cases (r.places.all (okPlace p) && adj pb r.places) <;> rfl
end Go.Fx
/- Chapter 32: small problems; a problem is the same as itself; Part. -/
set_option linter.unusedSimpArgs false
set_option linter.unusedVariables false
set_option maxRecDepth 100000
namespace Go.Fx
open Go Go.RowKit
theorem sane32 : m10_overflightlaw32_sane = some true := by decide +kernel
theorem m30_some (p : XProblem) (lim : Int) (h : p.variables.length ≤ 999) : ∃ v, m30_overflightref27_Many p lim = some v := by
  unfold m30_overflightref27_Many
  obtain ⟨fu, hfu⟩ : ∃ n : Nat, n = 1000000 := ⟨_, rfl⟩
  rw [← hfu]
  have main : ∀ (fuel i : Nat) (n : Int), i ≤ p.variables.length → p.variables.length - i < fuel → ∃ v, loop2 (m30_overflightref27_Many_B0 p lim) fuel n (i : Int) = some v := by
    intro fuel
    induction fuel with
    | zero => intro i n _ h; omega
    | succ m ih =>
      intro i n h1 h2
      rw [loop2_succ]
      unfold m30_overflightref27_Many_B0
      by_cases h3 : i < p.variables.length
      · simp only [ltBd h3, inBd h3, cond_true, jn_eq, ck_True]
        cases decide (n < lim)
        · exact ⟨_, rfl⟩
        · simp only [cond_true]
          rw [wrapS (i := i) (by omega)]
          exact ih (i + 1) _ (by omega) (by omega)
      · have : decide ((i : Int) < (p.variables.length : Int)) = false := by simpa using h3
        simp only [this, cond_false, jn_eq]; exact ⟨_, rfl⟩
  exact main fu 0 1 (by omega) (by omega)
/-- what is known of a small problem -/
structure Small (p : XProblem) : Prop where
  cells : p.cells.length ≤ 12
  caps : p.capacity.length ≤ 4
  vars : p.variables.length ≤ 6
  row : ∀ r ∈ p.capacity, r.length ≤ 16
  var : ∀ v ∈ p.variables, v.leaves.length ≤ 8 ∧ v.choices.length ≤ 8 ∧ ∀ c ∈ v.choices, c.uses.length ≤ 12
theorem m18_eq {p : XProblem} (hp : smXProblem p) : ∃ b, m18_overflightref27_Few p = some b ∧ (b = true → Small p) := by
  obtain ⟨s1, s2, s3⟩ := hp
  unfold m18_overflightref27_Few
  simp only [jn_eq]
  by_cases a1 : (12 : Int) < (p.cells.length : Int)
  · exact ⟨false, by simp [a1], by simp⟩
  by_cases a2 : (4 : Int) < (p.capacity.length : Int)
  · exact ⟨false, by simp [a1, a2], by simp⟩
  by_cases a3 : (6 : Int) < (p.variables.length : Int)
  · exact ⟨false, by simp [a1, a2, a3], by simp⟩
  simp only [a1, a2, a3, decide_false, cond_false]
  obtain ⟨mn, hmn⟩ := m30_some p 2000 (by omega)
  have ok : ∀ v : XVariable, Bool := fun v => !(decide ((8 : Int) < (v.leaves.length : Int))) && (!(decide ((8 : Int) < (v.choices.length : Int))) && v.choices.all fun c => !(decide ((12 : Int) < (c.uses.length : Int))))
  have vars : loop1 (m18_overflightref27_Few_B1 p) (((p.variables.length : Int) - 0).toNat + 1) 0 = bif (p.variables.all fun v => !(decide ((8 : Int) < (v.leaves.length : Int))) && (!(decide ((8 : Int) < (v.choices.length : Int))) && v.choices.all fun c => !(decide ((12 : Int) < (c.uses.length : Int))))) then some (decide (mn < 2000)) else some false := by
    refine all_up _ (some false) _ (sm_len s3) ?_ ?_ (by omega)
    · intro sf; unfold m18_overflightref27_Few_B1; simp only [ltE, cond_false, hmn, Option.bind_some]
    · intro sf i v h1 h2 h3
      unfold m18_overflightref27_Few_B1
      have hv := s3.2 v (ge0 h2)
      simp only [Int.toNat_natCast, getD_of h2, ltBd h1, inBd h1, ck_True, cond_true, jn_eq]
      rw [all_up (B := m18_overflightref27_Few_B2 p (i : Int) sf) (l := v.choices) (fun c => !(decide ((12 : Int) < (c.uses.length : Int)))) (some false) (sf ((i : Int) + 1)) (sm_len hv.2.2.2) ?_ ?_ (by omega)]
      · cases decide ((8 : Int) < (v.leaves.length : Int)) <;> cases decide ((8 : Int) < (v.choices.length : Int)) <;> rfl
      · intro sf'; unfold m18_overflightref27_Few_B2; simp only [Int.toNat_natCast, getD_of h2, ltE, cond_false, h3]
      · intro sf' j c h4 h5 h6
        unfold m18_overflightref27_Few_B2
        simp only [Int.toNat_natCast, getD_of h2, getD_of h5, ltBd h4, inBd h4, ck_True, cond_true, h6]
        cases decide ((12 : Int) < (c.uses.length : Int)) <;> rfl
  rw [all_up (B := m18_overflightref27_Few_B0 p) (l := p.capacity) (fun r => !(decide ((16 : Int) < (r.length : Int)))) (some false) (bif (p.variables.all fun v => !(decide ((8 : Int) < (v.leaves.length : Int))) && (!(decide ((8 : Int) < (v.choices.length : Int))) && v.choices.all fun c => !(decide ((12 : Int) < (c.uses.length : Int))))) then some (decide (mn < 2000)) else some false) (sm_len s2) ?_ ?_ (by omega)]
  · cases hc : (p.capacity.all fun r => !(decide ((16 : Int) < (r.length : Int))))
    · exact ⟨false, rfl, by simp⟩
    cases hv : (p.variables.all fun v => !(decide ((8 : Int) < (v.leaves.length : Int))) && (!(decide ((8 : Int) < (v.choices.length : Int))) && v.choices.all fun c => !(decide ((12 : Int) < (c.uses.length : Int)))))
    · exact ⟨false, rfl, by simp⟩
    refine ⟨_, rfl, fun _ => ⟨by omega, by omega, by omega, fun r hr => ?_, fun v hw => ?_⟩⟩
    · have := List.all_eq_true.1 hc r hr
      simp at this; omega
    · have := List.all_eq_true.1 hv v hw
      simp only [Bool.and_eq_true, Bool.not_eq_true', decide_eq_false_iff_not, List.all_eq_true] at this
      exact ⟨by omega, by omega, fun c hc => by have := this.2.2 c hc; omega⟩
  · intro sf; unfold m18_overflightref27_Few_B0; rw [vars]; simp only [ltE, cond_false]
  · intro sf i r h1 h2 h3
    unfold m18_overflightref27_Few_B0
    simp only [Int.toNat_natCast, getD_of h2, ltBd h1, inBd h1, ck_True, cond_true, h3]
    cases decide ((16 : Int) < (r.length : Int)) <;> rfl
theorem m19_eq (r : XReason) : ∃ b, m19_overflightref32_Few r = some b ∧ (b = true → r.variables.length ≤ 20 ∧ r.places.length ≤ 60) := by
  unfold m19_overflightref32_Few
  by_cases h : (r.variables.length : Int) ≤ 20
  · refine ⟨decide ((r.places.length : Int) ≤ 60), by simp [h], fun h2 => ?_⟩
    simp at h2; omega
  · exact ⟨false, by simp [h], by simp⟩
/-! Part -/
theorem m53_eq (n : Nat) (h : n ≤ 12) : m53_slices_Repeatint_int_ [4096] (n : Int) = some (List.replicate n 4096) := by
  have : ∀ n : Nat, n < 13 → m53_slices_Repeatint_int_ [4096] (n : Int) = some (List.replicate n 4096) := by decide +kernel
  exact this n (by omega)
/-- a place's capacity is set -/
def put1 (p : XProblem) (rows : List (List Int)) (y : XPlace) : List (List Int) :=
  rows.set y.leaf.toNat ((rows.getD y.leaf.toNat default).set y.cell.toNat ((p.capacity.getD y.leaf.toNat default).getD y.cell.toNat default))
def blank (p : XProblem) : List (List Int) := List.replicate p.capacity.length (List.replicate p.cells.length 4096)
def partOf (p : XProblem) (r : XReason) : XProblem := ⟨p.cells, r.places.foldl (put1 p) (blank p), r.variables.map fun i => p.variables.getD i.toNat default⟩
def Rect (n m : Nat) (rows : List (List Int)) : Prop := rows.length = n ∧ ∀ r ∈ rows, r.length = m
theorem Rect.put {p : XProblem} {n m : Nat} {rows : List (List Int)} (h : Rect n m rows) (y : XPlace) : Rect n m (put1 p rows y) := by
  unfold put1
  refine ⟨by rw [List.length_set]; exact h.1, fun r hr => ?_⟩
  by_cases hl : y.leaf.toNat < rows.length
  · rcases List.mem_or_eq_of_mem_set hr with h1 | h1
    · exact h.2 r h1
    · rw [h1, List.length_set, getD_of (List.getElem?_eq_getElem hl)]; exact h.2 _ (List.getElem_mem hl)
  · rw [List.set_eq_of_length_le (by omega)] at hr; exact h.2 r hr
theorem Rect.blank (p : XProblem) : Rect p.capacity.length p.cells.length (blank p) := by
  refine ⟨by simp [Fx.blank], fun r hr => ?_⟩
  rw [Fx.blank] at hr; rw [List.eq_of_mem_replicate hr]; simp
/-- what is known of a valid problem -/
theorem prob_rows {p : XProblem} (h : okProb p = true) : ∀ r ∈ p.capacity, r.length = p.cells.length := by
  unfold okProb at h
  simp only [Bool.and_eq_true, List.all_eq_true] at h
  intro r hr
  have := h.2.2.2.2.1 r hr
  simp only [okRow, Bool.and_eq_true, decide_eq_true_eq] at this
  exact this.1
theorem okIdx_iff {n : Nat} {k : Int} : okIdx n k = true ↔ 0 ≤ k ∧ k < (n : Int) := by simp [okIdx]
theorem reason_idx {p : XProblem} {r : XReason} (h : okReason p r = true) : (∀ i ∈ r.variables, 0 ≤ i ∧ i < (p.variables.length : Int)) ∧ adj (fun x y => decide (x < y)) r.variables = true ∧
    (∀ x ∈ r.places, (0 ≤ x.leaf ∧ x.leaf < (p.capacity.length : Int)) ∧ 0 ≤ x.cell ∧ x.cell < (p.cells.length : Int)) ∧ adj pb r.places = true := by
  unfold okReason at h
  simp only [Bool.and_eq_true, List.all_eq_true, okPlace, okIdx_iff] at h
  exact ⟨h.1.1, h.1.2, h.2.1, h.2.2⟩
/-- one place's checks hold -/
theorem placeB {p : XProblem} {rows : List (List Int)} {x : XPlace} (hc : ∀ r ∈ p.capacity, r.length = p.cells.length) (hR : Rect p.capacity.length p.cells.length rows)
    (hx : (0 ≤ x.leaf ∧ x.leaf < (p.capacity.length : Int)) ∧ 0 ≤ x.cell ∧ x.cell < (p.cells.length : Int)) :
    ((0 : Int) ≤ x.leaf ∧ x.leaf < (rows.length : Int)) ∧ ((0 : Int) ≤ x.leaf ∧ x.leaf < (p.capacity.length : Int)) ∧
    ((0 : Int) ≤ x.cell ∧ x.cell < ((p.capacity.getD x.leaf.toNat default).length : Int)) ∧ ((0 : Int) ≤ x.cell ∧ x.cell < ((rows.getD x.leaf.toNat default).length : Int)) := by
  have h1 : x.leaf.toNat < p.capacity.length := by omega
  have h2 : x.leaf.toNat < rows.length := by rw [hR.1]; exact h1
  rw [hR.1, getD_of (List.getElem?_eq_getElem h1), getD_of (List.getElem?_eq_getElem h2), hc _ (List.getElem_mem h1), hR.2 _ (List.getElem_mem h2)]
  exact ⟨hx.1, hx.1, hx.2, hx.2⟩
theorem m20_eq {p : XProblem} {r : XReason} (hp : smXProblem p) (hr : smXReason r) (hs : Small p) (hv : r.variables.length ≤ 20) :
    m20_reason_Part p r = some (bif okProb p then (bif okReason p r then (partOf p r, 0) else (⟨[], [], []⟩, 320)) else (⟨[], [], []⟩, 270)) := by
  unfold m20_reason_Part
  rw [m23_eq hp hr]
  cases h1 : okProb p
  · rfl
  cases h2 : okReason p r
  · rfl
  simp only [cond_true, Option.bind_some, ne_eq, not_true_eq_false, decide_false, cond_false]
  obtain ⟨i1, i2, i3, i4⟩ := reason_idx h2
  have hc := prob_rows h1
  have vs : ∀ rows, loop2 (m20_reason_Part_B2 p r rows) (((r.variables.length : Int) - 0).toNat + 1) 0 ([] : List XVariable) = some (⟨p.cells, rows, r.variables.map fun i => p.variables.getD i.toNat default⟩, 0) := by
    intro rows
    refine (up_listA (B := m20_reason_Part_B2 p r rows) (s := ([] : List XVariable)) (fuel := ((r.variables.length : Int) - 0).toNat + 1) (fun i (s : List XVariable) => s.length = i) (fun _ t s => some ((⟨p.cells, rows, s ++ t.map fun i => p.variables.getD i.toNat default⟩ : XProblem), (0 : Int))) r.variables (sm_len hr.1) ?_ ?_ (by omega) rfl).trans (by simp)
    · intro sf s _; unfold m20_reason_Part_B2; simp
    · intro sf i s x t e1 e2 e3 e4 ih
      unfold m20_reason_Part_B2
      have b1 := i1 x (ge0 e2)
      simp only [Int.toNat_natCast, getD_of e2, ltBd e1, inBd e1, ck_True, cond_true, e3]
      rw [ck_eq b1, ck_eq (by simp only [List.length_singleton]; omega), ih _ (by simp [e4])]
      simp
  have ps : loop2 (m20_reason_Part_B1 p r) (((r.places.length : Int) - 0).toNat + 1) 0 (blank p) = some (partOf p r, 0) := by
    refine up_listA (fuel := ((r.places.length : Int) - 0).toNat + 1) (s := blank p) (fun i s => Rect p.capacity.length p.cells.length s) (fun _ t s => some ((⟨p.cells, t.foldl (put1 p) s, r.variables.map fun i => p.variables.getD i.toNat default⟩ : XProblem), (0 : Int))) r.places (sm_len hr.2) ?_ ?_ (by omega) (Rect.blank p)
    · intro sf s _; unfold m20_reason_Part_B1; rw [vs]; simp
    · intro sf i s x t e1 e2 e3 e4 ih
      unfold m20_reason_Part_B1
      obtain ⟨b1, b2, b3, b4⟩ := placeB hc e4 (i3 x (ge0 e2))
      simp only [Int.toNat_natCast, getD_of e2, ltBd e1, inBd e1, ck_True, cond_true, e3]
      rw [ck_eq b1, ck_eq b2, ck_eq b3, ck_eq b4]
      exact ih _ (e4.put x)
  refine up_listA (fun i (s : List (List Int)) => s = List.replicate i (List.replicate p.cells.length 4096)) (fun _ _ _ => some (partOf p r, 0)) p.capacity (sm_len hp.2.1) ?_ ?_ (by omega) rfl
  · intro sf s e; unfold m20_reason_Part_B0; subst e; rw [show List.replicate p.capacity.length (List.replicate p.cells.length 4096) = blank p from rfl, ps]; simp
  · intro sf i s x t e1 e2 e3 e4 ih
    unfold m20_reason_Part_B0
    subst e4
    simp only [ltBd e1, cond_true, e3, m53_eq _ hs.cells, Option.bind_some]
    rw [ck_eq (by have := hs.caps; simp; omega)]
    exact ih _ (by rw [List.replicate_succ'])
theorem m21_eq {p : XProblem} {r : XReason} (hp : smXProblem p) (hr : smXReason r) (hs : Small p) (hv : r.variables.length ≤ 20) :
    m21_overflightref32_Part p r = some (bif okProb p then (bif okReason p r then (partOf p r, 0) else (⟨[], [], []⟩, 320)) else (⟨[], [], []⟩, 270)) := by
  unfold m21_overflightref32_Part
  rw [m24_eq hp hr]
  cases h1 : okProb p
  · rfl
  cases h2 : okReason p r
  · rfl
  simp only [cond_true, Option.bind_some, ne_eq, not_true_eq_false, decide_false, cond_false]
  obtain ⟨i1, i2, i3, i4⟩ := reason_idx h2
  have hc := prob_rows h1
  have vs : ∀ rows, loop2 (m21_overflightref32_Part_B3 p r rows) (((r.variables.length : Int) - 0).toNat + 1) 0 ([] : List XVariable) = some (⟨p.cells, rows, r.variables.map fun i => p.variables.getD i.toNat default⟩, 0) := by
    intro rows
    refine (up_listA (B := m21_overflightref32_Part_B3 p r rows) (s := ([] : List XVariable)) (fuel := ((r.variables.length : Int) - 0).toNat + 1) (fun i (s : List XVariable) => s.length = i) (fun _ t s => some ((⟨p.cells, rows, s ++ t.map fun i => p.variables.getD i.toNat default⟩ : XProblem), (0 : Int))) r.variables (sm_len hr.1) ?_ ?_ (by omega) rfl).trans (by simp)
    · intro sf s _; unfold m21_overflightref32_Part_B3; simp
    · intro sf i s x t e1 e2 e3 e4 ih
      unfold m21_overflightref32_Part_B3
      have b1 := i1 x (ge0 e2)
      simp only [Int.toNat_natCast, getD_of e2, ltBd e1, inBd e1, ck_True, cond_true, e3]
      rw [ck_eq b1, ck_eq (by simp only [List.length_singleton]; omega), ih _ (by simp [e4])]
      simp
  have ps : loop2 (m21_overflightref32_Part_B2 p r) (((r.places.length : Int) - 0).toNat + 1) 0 (blank p) = some (partOf p r, 0) := by
    refine up_listA (fuel := ((r.places.length : Int) - 0).toNat + 1) (s := blank p) (fun i s => Rect p.capacity.length p.cells.length s) (fun _ t s => some ((⟨p.cells, t.foldl (put1 p) s, r.variables.map fun i => p.variables.getD i.toNat default⟩ : XProblem), (0 : Int))) r.places (sm_len hr.2) ?_ ?_ (by omega) (Rect.blank p)
    · intro sf s _; unfold m21_overflightref32_Part_B2; rw [vs]; simp
    · intro sf i s x t e1 e2 e3 e4 ih
      unfold m21_overflightref32_Part_B2
      obtain ⟨b1, b2, b3, b4⟩ := placeB hc e4 (i3 x (ge0 e2))
      simp only [Int.toNat_natCast, getD_of e2, ltBd e1, inBd e1, ck_True, cond_true, e3]
      rw [ck_eq b1, ck_eq b2, ck_eq b3, ck_eq b4]
      exact ih _ (e4.put x)
  refine up_listA (fun i (s : List (List Int)) => s = List.replicate i (List.replicate p.cells.length 4096)) (fun _ _ _ => some (partOf p r, 0)) p.capacity (sm_len hp.2.1) ?_ ?_ (by omega) rfl
  · intro sf s e; unfold m21_overflightref32_Part_B0; subst e; rw [show List.replicate p.capacity.length (List.replicate p.cells.length 4096) = blank p from rfl, ps]; simp
  · intro sf i s x t e1 e2 e3 e4 ih
    unfold m21_overflightref32_Part_B0
    subst e4
    simp only [ltBd e1, cond_true]
    refine up_listB (fun j (l : List Int) => l = List.replicate j 4096) (fun _ _ _ => some (partOf p r, 0)) p.cells (sm_len hp.1) ?_ ?_ (by omega) rfl
    · intro sf' l e; unfold m21_overflightref32_Part_B1
      simp only [ltE, cond_false, e3]
      rw [ck_eq (by have := hs.caps; simp; omega)]
      subst e
      exact ih _ (by rw [List.replicate_succ'])
    · intro sf' j l c t2 f1 f2 f4 f5 ih'
      unfold m21_overflightref32_Part_B1
      subst f5
      simp only [ltBd f1, cond_true, f4]
      rw [ck_eq (by have := hs.cells; simp; omega)]
      exact ih' _ (by rw [List.replicate_succ'])
end Go.Fx
/- Chapter 32: a problem is the same as itself; what a part is made of. -/
set_option linter.unusedSimpArgs false
set_option linter.unusedVariables false
set_option maxRecDepth 100000
namespace Go.Fx
open Go Go.RowKit
theorem loop_true {α : Type} {B : (Int → Option Bool) → Int → Option Bool} {l : List α} {R : Option Bool} (hl : l.length < 9223372036854775807) (hE : ∀ sf, B sf (l.length : Nat) = R)
    (hS : ∀ sf (i : Nat) x, i < l.length → l[i]? = some x → IntKind.i64.wrap ((i : Int) + 1) = (i : Int) + 1 → B sf (i : Int) = sf ((i : Int) + 1)) :
    loop1 B (((l.length : Int) - 0).toNat + 1) 0 = R := by
  rw [all_up (l := l) (fun _ => true) R R hl hE (fun sf i x h1 h2 h3 => by rw [hS sf i x h1 h2 h3]; rfl) (by omega)]
  cases (l.all fun _ => true) <;> rfl
theorem m54_refl (l : List Int) (hl : l.length < 9223372036854775807) : m54_overflightref27_SameInts l l = some true := by
  unfold m54_overflightref27_SameInts
  simp only [ne_eq, not_true_eq_false, decide_false, cond_false]
  refine loop_true hl ?_ ?_
  · intro sf; unfold m54_overflightref27_SameInts_B0; simp only [ltE, cond_false]
  · intro sf i x h1 h2 h3; unfold m54_overflightref27_SameInts_B0
    simp only [ltBd h1, inBd h1, ck_True, cond_true, ne_eq, not_true_eq_false, decide_false, cond_false, h3]
theorem m22_refl {p : XProblem} (hp : smXProblem p) : m22_overflightref32_SameProblem p p = some true := by
  obtain ⟨s1, s2, s3⟩ := hp
  have vars : loop1 (m22_overflightref32_SameProblem_B2 p p) (((p.variables.length : Int) - 0).toNat + 1) 0 = some true := by
    refine loop_true (sm_len s3) ?_ ?_
    · intro sf; unfold m22_overflightref32_SameProblem_B2; simp only [ltE, cond_false]
    · intro sf i v h1 h2 h3
      have hv := s3.2 v (ge0 h2)
      unfold m22_overflightref32_SameProblem_B2
      simp only [Int.toNat_natCast, getD_of h2, ltBd h1, inBd h1, ck_True, cond_true, ne_eq, not_true_eq_false, decide_false, cond_false, m54_refl _ (sm_len hv.2.2.1), Option.bind_some, Bool.not_true, jn_eq]
      refine loop_true (l := v.choices) (sm_len hv.2.2.2) ?_ ?_
      · intro sf'; unfold m22_overflightref32_SameProblem_B3; simp only [Int.toNat_natCast, getD_of h2, ltE, cond_false, h3]
      · intro sf' j c h4 h5 h6
        have hc := hv.2.2.2.2 c (ge0 h5)
        unfold m22_overflightref32_SameProblem_B3
        simp only [Int.toNat_natCast, getD_of h2, getD_of h5, ltBd h4, inBd h4, ck_True, cond_true, ne_eq, not_true_eq_false, decide_false, cond_false, jn_eq]
        refine loop_true (l := c.uses) (sm_len hc.2.2.2) ?_ ?_
        · intro sf''; unfold m22_overflightref32_SameProblem_B4; simp only [Int.toNat_natCast, getD_of h2, getD_of h5, ltE, cond_false, h6]
        · intro sf'' k u h7 h8 h9; unfold m22_overflightref32_SameProblem_B4
          simp only [Int.toNat_natCast, getD_of h2, getD_of h5, getD_of h8, ltBd h7, inBd h7, ck_True, cond_true, decide_true, Bool.not_true, cond_false, h9]
  have caps : loop1 (m22_overflightref32_SameProblem_B1 p p) (((p.capacity.length : Int) - 0).toNat + 1) 0 = some true := by
    refine loop_true (sm_len s2) ?_ ?_
    · intro sf; unfold m22_overflightref32_SameProblem_B1; simp only [ltE, cond_false, vars]
    · intro sf i r h1 h2 h3; unfold m22_overflightref32_SameProblem_B1
      simp only [Int.toNat_natCast, getD_of h2, ltBd h1, inBd h1, ck_True, cond_true, m54_refl _ (sm_len (s2.2 r (ge0 h2))), Option.bind_some, Bool.not_true, cond_false, h3]
  unfold m22_overflightref32_SameProblem
  simp only [ne_eq, not_true_eq_false, decide_false, cond_false, jn_eq]
  refine loop_true (sm_len s1) ?_ ?_
  · intro sf; unfold m22_overflightref32_SameProblem_B0; simp only [ltE, cond_false, caps]
  · intro sf i c h1 h2 h3; unfold m22_overflightref32_SameProblem_B0
    simp only [Int.toNat_natCast, getD_of h2, ltBd h1, inBd h1, ck_True, cond_true, decide_true, Bool.not_true, cond_false, h3]
theorem sm_nil : smXProblem ⟨[], [], []⟩ := ⟨⟨by simp, by simp⟩, ⟨by simp, by simp⟩, ⟨by simp, by simp⟩⟩
theorem getD_sm {α : Type} [Inhabited α] {S : α → Prop} {l : List α} (h : ∀ x ∈ l, S x) (hd : S default) (i : Nat) : S (l.getD i default) := by
  cases hx : l[i]? with
  | none => rw [List.getD, hx]; exact hd
  | some x => rw [getD_of hx]; exact h x (ge0 hx)
theorem sm_part {p : XProblem} {r : XReason} (hp : smXProblem p) (hr : smXReason r) (hs : Small p) (hi : ∀ i ∈ r.variables, 0 ≤ i ∧ i < (p.variables.length : Int)) : smXProblem (partOf p r) := by
  have z : InK .i64 (default : Int) := by show InK .i64 0; decide
  refine ⟨hp.1, ?_, ⟨by simp only [partOf, List.length_map]; exact hr.1.1, fun v hv => ?_⟩⟩
  · have main : ∀ (l : List XPlace) (rows : List (List Int)), Rect p.capacity.length p.cells.length rows → (∀ r ∈ rows, ∀ k ∈ r, InK .i64 k) →
        Rect p.capacity.length p.cells.length (l.foldl (put1 p) rows) ∧ ∀ r ∈ l.foldl (put1 p) rows, ∀ k ∈ r, InK .i64 k := by
      intro l
      induction l with
      | nil => intro rows h1 h2; exact ⟨h1, h2⟩
      | cons y t ih =>
        intro rows h1 h2
        refine ih _ (h1.put y) fun r hr k hk => ?_
        unfold put1 at hr
        rcases List.mem_or_eq_of_mem_set hr with h | h
        · exact h2 r h k hk
        · rw [h] at hk
          rcases List.mem_or_eq_of_mem_set hk with h3 | h3
          · exact getD_sm (S := fun r => ∀ k ∈ r, InK .i64 k) h2 (by intro k hk; cases hk) y.leaf.toNat k h3
          · rw [h3]; exact getD_sm (getD_sm (S := fun r => ∀ k ∈ r, InK .i64 k) (fun r hr => (hp.2.1.2 r hr).2) (by intro k hk; cases hk) _) z _
    obtain ⟨h1, h2⟩ := main r.places (blank p) (Rect.blank p) (by
      intro r hr k hk
      rw [blank] at hr; rw [List.eq_of_mem_replicate hr] at hk; rw [List.eq_of_mem_replicate hk]; decide)
    have a1 := hs.caps
    have a2 := hs.cells
    exact ⟨by show List.length (r.places.foldl (put1 p) (blank p)) ≤ _; rw [h1.1]; omega, fun row hrow => ⟨by rw [h1.2 row hrow]; omega, h2 row hrow⟩⟩
  · simp only [partOf, List.mem_map] at hv
    obtain ⟨i, h1, rfl⟩ := hv
    have := hi i h1
    rw [getD_of (List.getElem?_eq_getElem (show i.toNat < p.variables.length by omega))]
    exact hp.2.2.2 _ (List.getElem_mem _)
end Go.Fx
/- ReasonCheckSpec. -/
set_option linter.unusedSimpArgs false
set_option linter.unusedVariables false
namespace Go.Fx
open Go Go.RowKit
theorem ReasonCheckSpec_law (p : XProblem) (r : XReason) (hp : smXProblem p) (hr : smXReason r) : m5_overflightlaw32_ReasonCheckSpec p r = some true := by
  unfold m5_overflightlaw32_ReasonCheckSpec
  obtain ⟨b, hb, hS⟩ := m18_eq hp
  obtain ⟨b2, hb2, hS2⟩ := m19_eq r
  rw [sane32, hb, hb2]
  simp only [Option.bind_some, Bool.not_true, cond_false, jn_eq]
  cases b
  · rfl
  cases b2
  · rfl
  have hs := hS rfl
  have hv := (hS2 rfl).1
  simp only [Bool.not_true, cond_false]
  rw [m20_eq hp hr hs hv, m21_eq hp hr hs hv, m23_eq hp hr, m24_eq hp hr]
  simp only [Option.bind_some]
  cases h1 : okProb p
  · simp [m22_refl sm_nil]
  cases h2 : okReason p r
  · simp [m22_refl sm_nil]
  · simp [m22_refl (sm_part hp hr hs (reason_idx h2).1)]
end Go.Fx
namespace Go.Proofs.Ytijekcoafilmeaa.lawReasonCheckSpec
open Go Go.Proofs Go.ChangeShapes Go.WideShapes Go.ChangeAt Go.RowKit Go.Fx
open Go.ChangeMaps (open_string shut_string)
set_option linter.unusedVariables false
set_option maxRecDepth 100000
theorem own : ownKnob Try.prog.godebug = none := by kernel_rfl
theorem laidOut : laidOutB Try.prog = true := by kernel_rfl
set_option maxRecDepth 100000 in
set_option maxHeartbeats 1000000 in
theorem lifted (os : Os) (started : os.Started) (H : Type) (enc : TypeId × Value → H) :
    ReturnsInHanded {} Try.checked os 5 .any (Rows.reasonCheckSpecSpec.pre6 enc Try.prog Try.f5 Rows.reasonCheckSpecRow.domain false) (Rows.reasonCheckSpecSpec.post enc Try.prog Try.f5 false true false false) := by
  refine returnsInHanded_of_change_sized (C := Try.checked) own started (by kernel_rfl) Try.func5
    (ChangeSpec.witness6 (enc := enc) (C := Try.checked) false ⟨#[], #[.agg #[(.slice none 0 0), (.slice none 0 0), (.slice none 0 0)], .agg #[(.slice none 0 0), (.slice none 0 0)]], []⟩ 8 (by kernel_rfl) (by kernel_rfl) (by kernel_rfl) (by kernel_rfl)) ?_
  intro W base args ds gs before hval0 hW hcnd hsz _
  have hval : ∀ (j : Nat) t v, Try.f5.params[j]? = some t → args[j]? = some v → Value.okWide Try.prog W .any base t v := hval0
  have hW' := hW
  obtain ⟨p, q, hA0, hV, rfl, hfz, hnd⟩ := hW
  have hA : DataW.TrodAll enc Try.prog W 0 (fun _ => true) true Try.f5.params.toList args.toList ds p := hA0
  rw [Try.params5] at hA hval
  obtain ⟨v0, vs0, d0, ds0, p0, q0, hargs, rfl, rfl, h0, r0⟩ := trodAll_cons hA
  obtain ⟨v1, vs1, d1, ds1, p1, q1, rfl, rfl, rfl, h1, r1⟩ := trodAll_cons r0
  obtain ⟨rfl, rfl, rfl⟩ := trodAll_nil r1
  obtain rfl : args = #[v0, v1] := by cases args; simp_all
  obtain ⟨rfl, rfl⟩ := trodVars_none hV
  have k0 := h0
  have lt0 : ∀ x ∈ p0, x.block < W.heap.size := by obtain ⟨m, hm⟩ := k0; exact DataW.trod_lt m _ _ _ hm
  obtain ⟨fu0, hf0⟩ := h0
  obtain ⟨p, rr0, sm0⟩ := rd26.2 _ _ _ hf0
  replace sm0 := sm0 (fun n hn => by have := List.all_eq_true.1 hsz n (DataW.weights_mem_each (j := 0) (t := 26) rfl rfl n hn); simpa using this)
  obtain ⟨⟨cs0⟩, rfl, _⟩ := okWide_struct Try.underlying26 (hval 0 26 v0 rfl rfl)
  replace rr0 : rXProblem.rd W [] cs0 p := rr0
  obtain ⟨_, _, rfl, ⟨a_p_cells, c_p_cells, rfl, f_p_cells⟩, ⟨_, _, rfl, ⟨a_p_capacity, c_p_capacity, rfl, f_p_capacity⟩, ⟨a_p_variables, c_p_variables, rfl, f_p_variables⟩⟩⟩ := rr0
  have k1 := h1
  have lt1 : ∀ x ∈ p1, x.block < W.heap.size := by obtain ⟨m, hm⟩ := k1; exact DataW.trod_lt m _ _ _ hm
  obtain ⟨fu1, hf1⟩ := h1
  obtain ⟨r_, rr1, sm1⟩ := rd34.2 _ _ _ hf1
  replace sm1 := sm1 (fun n hn => by have := List.all_eq_true.1 hsz n (DataW.weights_mem_each (j := 1) (t := 34) rfl rfl n hn); simpa using this)
  obtain ⟨⟨cs1⟩, rfl, _⟩ := okWide_struct Try.underlying34 (hval 1 34 v1 rfl rfl)
  replace rr1 : rXReason.rd W [] cs1 r_ := rr1
  obtain ⟨_, _, rfl, ⟨a_r__variables, c_r__variables, rfl, f_r__variables⟩, ⟨a_r__places, c_r__places, rfl, f_r__places⟩⟩ := rr1
  have hm : m5_overflightlaw32_ReasonCheckSpec p r_ = some true := ReasonCheckSpec_law _ _ sm0 sm1
  have hc := Fn.calls (c5_overflightlaw32_ReasonCheckSpec (p := p) (r_ := r_) (w := W) (O := []) (by simp) f_p_cells f_p_capacity f_p_variables f_r__variables f_r__places hm)
  clear hA0 hval0
  refine Calls.mono hc ?_
  rintro e W' ⟨v, rfl, bel, hv⟩
  replace bel := bel.below; obtain rfl : v = .bool true := hv
  exact ⟨_, rfl, _, _, _, [], _, [], hW', trodAll_mk1 (shut_bool Try.underlying4 _), (trodAll_cons_mk (Below.trod laidOut (by kernel_rfl) (of_decide_eq_true (by kernel_rfl)) k0 bel lt0) (trodAll_cons_mk (Below.trod laidOut (by kernel_rfl) (of_decide_eq_true (by kernel_rfl)) k1 bel lt1) trodAll_mk0)), rfl, bel.frame _, fun h => by cases h⟩
theorem over : Rows.reasonCheckSpecRow.holds Try.pinned (OpenSpec.ofChange Rows.reasonCheckSpecSpec) :=
  OpenClaim.holds_of_wide 5 Try.f5 rfl rfl rfl rfl rfl rfl rfl ⟨rfl, rfl, rfl, rfl, rfl⟩ rfl rfl rfl rfl rfl (by kernel_rfl) Try.func5 (by kernel_rfl)
    (of_decide_eq_true (by kernel_rfl)) (by unfold Func.isWrapper; first | (rw [if_pos (by decide +kernel)]; kernel_rfl) | (rw [if_neg (by decide +kernel)]; exact ⟨rfl, rfl⟩))
    (fun os started H enc _ => lifted os started H enc)
theorem proved : Rows.ReasonCheckSpecSaid := over
end Go.Proofs.Ytijekcoafilmeaa.lawReasonCheckSpec
