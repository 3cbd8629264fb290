/- Part 5 of the proof: proves agrees with the reference. -/
import Derived.Test.YtijekcoafilmeaaPv4
set_option linter.unusedVariables false
set_option linter.unusedSimpArgs false
set_option maxRecDepth 100000
set_option maxHeartbeats 0
namespace Go.Fx
open Go Go.RowKit Go.Proofs
abbrev q31_5:List Nat:=[2,6,105,106,107,108,109,110,111,112,113,114,115,116,117,118,119]

abbrev q31_3:List Nat:=[2,5,88,89,90,91,92,93,94,95,96,97,98,99,100,101,102,103,104]

abbrev q31_4:List Nat:=[2,4,5,71,72,73,74,75,76,77,78,79,80,81,82,83,84,85,86,87,88,89,90,91,92,93,94,95,96,97,98,99,100,101,102,103,104]

abbrev q31_1:List Nat:=[36,37,38,39,40,41,42,43,44,45,46,47,48,49,50,51,52,53,54,55,56,57,58,59,60,61,62,63,64,65,66,67,68,69,70]

abbrev q31_2:List Nat:=[2,3,29,30,31,32,33,34,35,36,37,38,39,40,41,42,43,44,45,46,47,48,49,50,51,52,53,54,55,56,57,58,59,60,61,62,63,64,65,66,67,68,69,70]

abbrev q31_0:List Nat:=[7,8,9,10,11,12,13,14,15,16,17,18,19,20,21,22,23,24,25,26,27,28]

def m31_overflightref27_Check_B2 (p:XProblem) (i_2:Int) (sf316:Int→Option Int) (sf391:Int→Option Int) (k_1:Int):Option Int:=
 bif (decide (k_1<(p.cells.length:Int))) then
  ck ((0:Int)≤i_2∧i_2<(p.capacity.length:Int))<|
  ck ((0:Int)≤k_1∧k_1<((p.capacity.getD i_2.toNat default).length:Int))<|
  (m61_overflightref27_within ((p.capacity.getD i_2.toNat default).getD k_1.toNat default) 0 4096).bind fun within_1=>
  bif (!within_1) then
   some 270
  else
   sf391 (IntKind.wrap .i64 (k_1+1))
 else
  sf316 (IntKind.wrap .i64 (i_2+1))

def m31_overflightref27_Check_B3 (p:XProblem) (sf429:Int→Option Int) (i_3:Int):Option Int:=
 bif (decide (i_3<(p.variables.length:Int))) then
  ck ((0:Int)≤i_3∧i_3<(p.variables.length:Int))<|
  (m62_overflightref27_variable p (p.variables.getD i_3.toNat default)).bind fun variable_1=>
  bif (!variable_1) then
   some 270
  else
   sf429 (IntKind.wrap .i64 (i_3+1))
 else
  some 0

def m31_overflightref27_Check_B1 (p:XProblem) (sf316:Int→Option Int) (i_2:Int):Option Int:=
 bif (decide (i_2<(p.capacity.length:Int))) then
  ck ((0:Int)≤i_2∧i_2<(p.capacity.length:Int))<|
  bif (decide (((p.capacity.getD i_2.toNat default).length:Int)≠(p.cells.length:Int))) then
   some 270
  else
   loop1 (m31_overflightref27_Check_B2 p i_2 sf316) (((p.cells.length:Int) - 0).toNat+1) 0
 else
  loop1 (m31_overflightref27_Check_B3 p) (((p.variables.length:Int) - 0).toNat+1) 0

def m31_overflightref27_Check_B0 (p:XProblem) (sf21:Int→Option Int) (i_1:Int):Option Int:=
 bif (decide (i_1<(p.cells.length:Int))) then
  jn (fun(v_2:Bool)=>
   bif v_2 then
    some 270
   else
    sf21 (IntKind.wrap .i64 (i_1+1)))
  (fun k36=>
   ck ((0:Int)≤i_1∧i_1<(p.cells.length:Int))<|
   bif (decide (((p.cells.getD i_1.toNat default).index)<0)) then
    k36 true
   else
    ck ((0:Int)≤i_1∧i_1<(p.cells.length:Int))<|
    bif (decide (((p.cells.getD i_1.toNat default).minute)<0)) then
     k36 true
    else
     bif (decide (0<i_1)) then
      ck ((0:Int)≤(IntKind.wrap .i64 (i_1 - 1))∧(IntKind.wrap .i64 (i_1 - 1))<(p.cells.length:Int))<|
      ck ((0:Int)≤i_1∧i_1<(p.cells.length:Int))<|
      (m60_overflightref27_Before (p.cells.getD (IntKind.wrap .i64 (i_1 - 1)).toNat default) (p.cells.getD i_1.toNat default)).bind fun before_1=>
      k36 (!before_1)
     else
      k36 false)
 else
  loop1 (m31_overflightref27_Check_B1 p) (((p.capacity.length:Int) - 0).toNat+1) 0

def m31_overflightref27_Check (p:XProblem):Option Int:=
 jn (fun(v_1:Bool)=>
  bif v_1 then
   some 270
  else
   loop1 (m31_overflightref27_Check_B0 p) (((p.cells.length:Int) - 0).toNat+1) 0)
 (fun k8=>
  bif (decide (4096<(p.cells.length:Int))) then
   k8 true
  else
   bif (decide ((p.capacity.length:Int)<1)) then
    k8 true
   else
    bif (decide (32<(p.capacity.length:Int))) then
     k8 true
    else
     k8 (decide (64<(p.variables.length:Int))))

theorem c31_overflightref27_Check {w:World} {O:List Nat} {p:XProblem} {Aa:Option Addr} {Ca:Nat} {Ab:Option Addr} {Cb:Nat} {Ac:Option Addr} {Cc:Nat} (hO:∀k∈O,k<w.heap.size) (Fa:SlR rXCell w O Aa Ca p.cells) (Fb:SlR (rSl (rInt .i64)) w O Ab Cb p.capacity) (Fc:SlR rXVariable w O Ac Cc p.variables) {x:Int} (hm:m31_overflightref27_Check p=some x):
 Ok Try.prog 31 [Value.agg [Sl Aa p.cells Ca,Sl Ab p.capacity Cb,Sl Ac p.variables Cc].toArray] w O (vI .i64) x:=by
 unfold m31_overflightref27_Check at hm
 refine Fn_of_Wp (n:=120) (xs:=[.tmp 2]) Try.func31 rfl Try.ntmps31 Try.results31 rfl ?_
 have hs:=St.start hO
 refine Wp_seq<|Wp_region<|Rop<|op_box (cs:=[Sl Aa p.cells Ca,Sl Ab p.capacity Cb,Sl Ac p.variables Cc]) hs rfl rfl ?_
 intro b1 w2 _ p3 hs4
 refine Asg (Iv 0) rfl<|Rg_nil<|Wp_seq<|Wr [] [(1,Pt b1 0)] fun ξ6=>?_
 obtain⟨k8,hk9,hm⟩:=jn_elim hm
 refine Wp_seqJ q31_0 (fun fr w'=>∃(v_1:Bool) (Ebs:Ents),Ebs=[(some b1,Oc [Sl Aa p.cells Ca,Sl Ab p.capacity Cb,Sl Ac p.variables Cc] 26)]∧fr [] [(28,Bo v_1)]∧hs4.S (ks Ebs O) w'∧St ⟨w,[],[]⟩ O w' Ebs∧k8 v_1=some x) ?_ ?_
 rintro ρ15 w11 ⟨v_1,_,rfl,hfr14,hst13,hs12,hm⟩
 replace hm:=jnE1 hk9 hm
 rw [hfr14.eq];clear hfr14
 refine Wp_condM hm rfl (fun hc16 hm=>?_) (fun hc16 hm=>?_)
 refine Wp_seq ?_
 obtain⟨hs17,p18⟩:=hs12.sub (bs':=[]) (.cons _ List.Sublist.slnil)
 clear Fa Fb Fc
 clear hs12
 refine Wp_region<|Asg (Iv 270) rfl<|Rg_nil<|Wp_ret<|⟨_,Clo,[Iv 270],⟨rfl,trivial⟩,hs17.ext,?_⟩
 exact Vr.eq (a:=(vI .i64)) (x:=270) ⟨rfl,(show InK .i64 270 from by decide)⟩ (oi hm)
 refine Wp_skip<|Wp_seq<|Wp_seq<|Wp_region<|Asg (Iv 0) rfl<|Rg_nil<|Wp_block<|Wr [] [(1,Pt b1 0),(3,Iv 0)] fun ξ20=>Wp_loopM q31_2 (fun m fr w'=>∃(i_1:Int) (Ebs:Ents),Ebs=[(some b1,Oc [Sl Aa p.cells Ca,Sl Ab p.capacity Cb,Sl Ac p.variables Cc] 26)]∧fr [] [(3,Iv i_1)]∧hs12.S (ks Ebs O) w'∧St ⟨w,[],[]⟩ O w' Ebs∧InK .i64 i_1∧loop1 (m31_overflightref27_Check_B0 p) m i_1=some x) (((p.cells.length:Int) - 0).toNat+1) ⟨0,_,rfl,Frm.of ⟨rfl,trivial⟩,Step.refl _ _,hs12,(show InK .i64 0 from by decide),hm⟩ ?_ ?_
 rintro _ _ ⟨_,_,_,_,_,_,_,hm⟩;exact loop1_z hm
 rintro m24 K23 hK23 ρ29 w25 ⟨i_1,_,rfl,hfr28,hst27,hs26,Ra,hm⟩
 obtain⟨sf21,hsf22,hm⟩:=loop1_s hm;unfold m31_overflightref27_Check_B0 at hm
 rw [hfr28.eq];clear hfr28
 have ch30:=hst27
 refine Wp_seq<|Wp_seq<|Wp_region<|Mve (Iv i_1) rfl<|Rop<|op_fA 0 ty26 rfl ty22 rfl rfl<|Rop<|op_ld 0 ty22 hs26 rfl rfl rfl<|Rop<|op_len Try.underlying22 rfl ?_
 have p32:=(p3.trans (hst13.trans hst27))
 replace Fa:=Fa.step p32
 have rl31:=inK_len Fa
 refine Rop<|op_lss rfl rfl<|Rg_nil<|Wp_condM hm rfl (fun hc33 hm=>?_) (fun hc33 hm=>?_)
 refine Wp_skip<|Wp_seq<|Wp_block<|Wr2 q31_2 [] (updL ⟨ξ20,[]⟩ [(1,Pt b1 0),(3,Iv 0)]) [(3,Iv i_1)] fun ξ34=>?_
 obtain⟨k36,hk37,hm⟩:=jn_elim hm
 refine Wp_seqJ q31_1 (fun fr w'=>∃(v_2:Bool) (Ebs:Ents),Ebs=[(some b1,Oc [Sl Aa p.cells Ca,Sl Ab p.capacity Cb,Sl Ac p.variables Cc] 26)]∧fr [] [(70,Bo v_2)]∧hs26.S (ks Ebs O) w'∧St ⟨w,[],[]⟩ O w' Ebs∧k36 v_2=some x) ?_ ?_
 rintro ρ43 w39 ⟨v_2,_,rfl,hfr42,hst41,hs40,hm⟩
 replace hm:=jnE1 hk37 hm
 rw [hfr42.eq];clear hfr42
 refine Wp_condM hm rfl (fun hc44 hm=>?_) (fun hc44 hm=>?_)
 refine Wp_seq<|Wp_region<|Asg (Iv 270) rfl<|Rg_nil<|Wp_ret<|⟨_,Clo,[Iv 270],⟨rfl,trivial⟩,hs40.ext,?_⟩
 exact Vr.eq (a:=(vI .i64)) (x:=270) ⟨rfl,(show InK .i64 270 from by decide)⟩ (oi hm)
 refine Wp_skip<|Wp_region<|Mve (Iv i_1) rfl<|Rop<|op_addw rfl rfl<|Asg (Iv (IntKind.wrap .i64 (i_1+1))) rfl<|Rg_nil ?_
 replace ch30:=ch30.trans hst41
 exact hK23 _ _ ⟨(IntKind.wrap .i64 (i_1+1)),_,rfl,Frm.of ⟨rfl,trivial⟩,ch30,hs40,(inK_wrap .i64 _),jnE1 hsf22 hm⟩
 intro K38 hK38
 have ch45:=hs26.stepR
 refine Wp_drawR (g0:=[]) (m:=31) (fl:=[]) (TS_inv hs26) rfl (.inl rfl) rfl (by decide+kernel) ?_  -- 6
 refine Dw_p (Pt b1 0) (fun _ _ _ hi ht=>op_fA 0 ty26 rfl ty22 (ht 1 rfl) rfl<|Gz hi)<|Dw_p (Sl Aa p.cells Ca) (fun _ _ _ hi ht=>op_ld 0 ty22 (Step.nx hi).1 (ht 36 rfl) rfl rfl<|Gz hi)<|Dw_p (Iv i_1) (fun _ _ _ hi ht=>op_move (v:=Iv i_1) (ht 3 rfl)<|Gz hi) ?_
 obtain⟨hc58,hm⟩:=ck_some hm
 refine Dw_op (VP _ _ rXCell (p.cells.getD i_1.toNat default)) (VP.stab _ _) (fun ρ55 w56 g hle hi ht=>?_) ?_
 obtain⟨-,hst,-⟩:=hle
 replace Fa:=Fa.step hst
 refine StepOp_plain<|op_indexAddr (q:=rXCell) ty22 ty67 (ht 37 rfl) (ht 38 rfl) Fa rfl hc58.1 hc58.2 ?_
 intro p59 f60
 exact Goes.same hi ⟨_,rfl,f60⟩
 refine Dw_op (VP _ _ (rInt .i64) ((p.cells.getD i_1.toNat default).index)) (VP.stab _ _) (fun ρ61 w62 g hle hi ht=>?_) ?_
 obtain⟨p64,q65,f66⟩:=ht 39 rfl
 refine StepOp_plain<|op_fieldAddr ty67 rfl ty3 (by decide) q65 rfl ?_
 have f67:=f66.via.snd.fst
 exact Goes.same hi ⟨_,rfl,f67⟩
 refine Dw_op (VD _ _ (vI .i64) ((p.cells.getD i_1.toNat default).index)) (VD.stab _ _) (fun ρ68 w69 g hle hi ht=>?_) ?_
 obtain⟨p71,q72,f73⟩:=ht 40 rfl
 refine StepOp_plain<|op_loadP ty3 q72 f73 rfl ?_
 intro v74 h75
 obtain⟨rfl,Rb⟩:=un_int h75
 exact Goes.same hi (show Vr.vd (vI .i64) _ _ _ _ from⟨rfl,Rb⟩)
 refine Dw_eq (Bo (decide (((p.cells.getD i_1.toNat default).index)<0))) (fun ρ77 w78 g hle hi ht=>?_) ?_
 have h80:Vr.vd (vI .i64) _ _ _ _:=ht 41 rfl
 obtain⟨q81,Rc⟩:=h80
 exact StepOp_plain<|op_lss q81 rfl<|Gz hi
 refine Dw_opB (decide (((p.cells.getD i_1.toNat default).index)<0)) (fun _ _ _ _ hi ht=>StepOp_plain<|op_move (v:=Bo (decide (((p.cells.getD i_1.toNat default).index)<0))) (ht 42 rfl)<|Gz hi) (fun hg86=>?_) (fun hg86=>?_)
 replace hm:=bif_t hm hg86
 iterate 7 refine Dw_sk rfl rfl (fun _ _ _ h=>h) rfl ?_
 refine Dw_p (Bo true) (fun _ _ _ hi ht=>op_pick_t (v:=Bo true) (ht 43 rfl) rfl<|Gz hi)<|Dw_p (Bo true) (fun _ _ _ hi ht=>op_move (v:=Bo true) (ht 51 rfl)<|Gz hi) ?_
 iterate 14 refine Dw_sk rfl rfl (fun _ _ _ h=>h) rfl ?_
 refine Dw_nil fun w97 g98 hl99 hi100=>?_
 obtain⟨-,hst101,-⟩:=hl99
 obtain⟨hs103,p102⟩:=Step.nx hi100
 rintro _ rfl _ rfl _ rfl _ rfl _ rfl _ rfl _ rfl _ rfl _ rfl _ rfl _ rfl _ rfl _ rfl _ rfl _ rfl _ rfl _ rfl _ rfl _ rfl _ rfl _ rfl _ rfl _ rfl _ rfl _ rfl v104 h105
 replace h105:Vr.vd (vI .i64) _ _ _ _:=h105
 obtain⟨rfl,Rd⟩:=h105
 rintro _ ⟨p107,rfl,f108⟩ _ ⟨p109,rfl,f110⟩ _ rfl _ rfl _ rfl
 have p111:=hs26.to hs103 (hst101.trans p102)
 replace f108:=f108.step p102;replace f110:=f110.step p102
 iterate 3 refine Rg_opx rfl (asB_ne rfl rfl) rfl ?_
 refine Pkt (Bo true) rfl rfl<|Rg_nil ?_
 replace ch45:=ch45.trans p111
 exact hK38 _ _ ⟨true,_,rfl,Frm.of ⟨rfl,trivial⟩,ch45,hs103,hm⟩
 replace hm:=bif_f hm hg86
 refine Dw_g (Pt b1 0) rfl rfl (fun _ _ _ h=>h) (fun _ _ _ hi ht=>op_fA 0 ty26 rfl ty22 (ht 1 rfl) rfl<|Gz hi)<|Dw_g (Sl Aa p.cells Ca) rfl rfl (fun _ _ _ h=>h) (fun _ _ _ hi ht=>op_ld 0 ty22 (Step.nx hi).1 (ht 44 rfl) rfl rfl<|Gz hi)<|Dw_g (Iv i_1) rfl rfl (fun _ _ _ h=>h) (fun _ _ _ hi ht=>op_move (v:=Iv i_1) (ht 3 rfl)<|Gz hi) ?_
 obtain⟨hc124,hm⟩:=ck_some hm
 refine Dw_op (VP _ _ rXCell (p.cells.getD i_1.toNat default)) (VP.stab _ _) (fun ρ121 w122 g hle hi ht=>?_) ?_
 obtain⟨-,hst,-⟩:=hle
 replace Fa:=Fa.step hst
 refine StepOp_g rfl (ht 43 rfl)<|op_indexAddr (q:=rXCell) ty22 ty67 (ht 45 rfl) (ht 46 rfl) Fa rfl hc124.1 hc124.2 ?_
 intro p125 f126
 exact Goes.same hi ⟨_,rfl,f126⟩
 refine Dw_op (VP _ _ (rInt .i64) ((p.cells.getD i_1.toNat default).minute)) (VP.stab _ _) (fun ρ127 w128 g hle hi ht=>?_) ?_
 obtain⟨p130,q131,f132⟩:=ht 47 rfl
 refine StepOp_g rfl (ht 43 rfl)<|op_fieldAddr ty67 rfl ty3 (by decide) q131 rfl ?_
 have f133:=f132.via.snd.snd
 exact Goes.same hi ⟨_,rfl,f133⟩
 refine Dw_op (VD _ _ (vI .i64) ((p.cells.getD i_1.toNat default).minute)) (VD.stab _ _) (fun ρ134 w135 g hle hi ht=>?_) ?_
 obtain⟨p137,q138,f139⟩:=ht 48 rfl
 refine StepOp_g rfl (ht 43 rfl)<|op_loadP ty3 q138 f139 rfl ?_
 intro v140 h141
 obtain⟨rfl,Re⟩:=un_int h141
 exact Goes.same hi (show Vr.vd (vI .i64) _ _ _ _ from⟨rfl,Re⟩)
 refine Dw_eq (Bo (decide (((p.cells.getD i_1.toNat default).minute)<0))) (fun ρ143 w144 g hle hi ht=>?_) ?_
 have h146:Vr.vd (vI .i64) _ _ _ _:=ht 49 rfl
 obtain⟨q147,Rf⟩:=h146
 exact StepOp_g rfl (ht 43 rfl)<|op_lss q147 rfl<|Gz hi
 refine Dw_p (Bo (decide (((p.cells.getD i_1.toNat default).minute)<0))) (fun _ _ _ hi ht=>op_pick_f (v:=Bo (decide (((p.cells.getD i_1.toNat default).minute)<0))) (ht 43 rfl) (ht 50 rfl)<|Gz hi)<|Dw_opB (decide (((p.cells.getD i_1.toNat default).minute)<0)) (fun _ _ _ _ hi ht=>StepOp_plain<|op_move (v:=Bo (decide (((p.cells.getD i_1.toNat default).minute)<0))) (ht 51 rfl)<|Gz hi) (fun hg155=>?_) (fun hg155=>?_)
 replace hm:=bif_t hm hg155
 iterate 14 refine Dw_sk rfl rfl (fun _ _ _ h=>h) rfl ?_
 refine Dw_nil fun w160 g161 hl162 hi163=>?_
 obtain⟨-,hst164,-⟩:=hl162
 obtain⟨hs166,p165⟩:=Step.nx hi163
 rintro _ rfl _ rfl _ rfl _ rfl _ rfl _ rfl _ rfl _ rfl _ rfl _ rfl _ rfl _ rfl _ rfl _ rfl _ rfl _ rfl _ rfl v167 h168
 replace h168:Vr.vd (vI .i64) _ _ _ _:=h168
 obtain⟨rfl,Rg⟩:=h168
 rintro _ ⟨p170,rfl,f171⟩ _ ⟨p172,rfl,f173⟩ _ rfl _ rfl _ rfl _ rfl _ rfl v174 h175
 replace h175:Vr.vd (vI .i64) _ _ _ _:=h175
 obtain⟨rfl,Rh⟩:=h175
 rintro _ ⟨p177,rfl,f178⟩ _ ⟨p179,rfl,f180⟩ _ rfl _ rfl _ rfl
 have p181:=hs26.to hs166 (hst164.trans p165)
 replace f171:=f171.step p165;replace f173:=f173.step p165;replace f178:=f178.step p165;replace f180:=f180.step p165
 iterate 3 refine Rg_opx rfl (asB_ne rfl rfl) rfl ?_
 refine Pkt (Bo true) rfl rfl<|Rg_nil ?_
 replace ch45:=ch45.trans p181
 exact hK38 _ _ ⟨true,_,rfl,Frm.of ⟨rfl,trivial⟩,ch45,hs166,hm⟩
 replace hm:=bif_f hm hg155
 refine Dw_g (Iv i_1) rfl rfl (fun _ _ _ h=>h) (fun _ _ _ hi ht=>op_move (v:=Iv i_1) (ht 3 rfl)<|Gz hi)<|Dw_g (Bo (decide (0<i_1))) rfl rfl (fun _ _ _ h=>h) (fun _ _ _ hi ht=>op_gtr (ht 53 rfl) rfl<|Gz hi)<|Dw_opB (decide (0<i_1)) (fun _ _ _ _ hi ht=>StepOp_g rfl (ht 52 rfl)<|op_move (v:=Bo (decide (0<i_1))) (ht 54 rfl)<|Gz hi) (fun hg191=>?_) (fun hg191=>?_)
 replace hm:=bif_t hm hg191
 refine Dw_g (Pt b1 0) rfl rfl (fun _ _ _ h=>h) (fun _ _ _ hi ht=>op_fA 0 ty26 rfl ty22 (ht 1 rfl) rfl<|Gz hi)<|Dw_g (Sl Aa p.cells Ca) rfl rfl (fun _ _ _ h=>h) (fun _ _ _ hi ht=>op_ld 0 ty22 (Step.nx hi).1 (ht 56 rfl) rfl rfl<|Gz hi)<|Dw_g (Iv i_1) rfl rfl (fun _ _ _ h=>h) (fun _ _ _ hi ht=>op_move (v:=Iv i_1) (ht 3 rfl)<|Gz hi)<|Dw_g (Iv (IntKind.wrap .i64 (i_1 - 1))) rfl rfl (fun _ _ _ h=>h) (fun _ _ _ hi ht=>op_subw (ht 58 rfl) rfl<|Gz hi) ?_
 obtain⟨hc207,hm⟩:=ck_some hm
 refine Dw_op (VP _ _ rXCell (p.cells.getD (IntKind.wrap .i64 (i_1 - 1)).toNat default)) (VP.stab _ _) (fun ρ204 w205 g hle hi ht=>?_) ?_
 obtain⟨-,hst,-⟩:=hle
 replace Fa:=Fa.step hst
 refine StepOp_g rfl (ht 55 rfl)<|op_indexAddr (q:=rXCell) ty22 ty67 (ht 57 rfl) (ht 59 rfl) Fa rfl hc207.1 hc207.2 ?_
 intro p208 f209
 exact Goes.same hi ⟨_,rfl,f209⟩
 refine Dw_op (VD _ _ (vA rXCell) (p.cells.getD (IntKind.wrap .i64 (i_1 - 1)).toNat default)) (VD.stab _ _) (fun ρ210 w211 g hle hi ht=>?_) ?_
 obtain⟨p213,q214,f215⟩:=ht 60 rfl
 refine StepOp_g rfl (ht 55 rfl)<|op_loadPA ty67 q214 f215 rfl ?_
 intro vs216 h217
 obtain⟨_,_,rfl,rfl,⟨_,_,rfl,⟨rfl,Ri⟩,⟨rfl,Rj⟩⟩⟩:=h217
 exact Goes.same hi (show Vr.vd (vA rXCell) _ _ _ _ from(mkA (mkVia (mk_pair mkBool (mk_pair (mk_int Ri) (mk_int Rj))))))
 refine Dw_g (Pt b1 0) rfl rfl (fun _ _ _ h=>h) (fun _ _ _ hi ht=>op_fA 0 ty26 rfl ty22 (ht 1 rfl) rfl<|Gz hi)<|Dw_g (Sl Aa p.cells Ca) rfl rfl (fun _ _ _ h=>h) (fun _ _ _ hi ht=>op_ld 0 ty22 (Step.nx hi).1 (ht 62 rfl) rfl rfl<|Gz hi)<|Dw_g (Iv i_1) rfl rfl (fun _ _ _ h=>h) (fun _ _ _ hi ht=>op_move (v:=Iv i_1) (ht 3 rfl)<|Gz hi) ?_
 obtain⟨hc231,hm⟩:=ck_some hm
 refine Dw_op (VP _ _ rXCell (p.cells.getD i_1.toNat default)) (VP.stab _ _) (fun ρ228 w229 g hle hi ht=>?_) ?_
 obtain⟨-,hst,-⟩:=hle
 replace Fa:=Fa.step hst
 refine StepOp_g rfl (ht 55 rfl)<|op_indexAddr (q:=rXCell) ty22 ty67 (ht 63 rfl) (ht 64 rfl) Fa rfl hc231.1 hc231.2 ?_
 intro p232 f233
 exact Goes.same hi ⟨_,rfl,f233⟩
 refine Dw_op (VD _ _ (vA rXCell) (p.cells.getD i_1.toNat default)) (VD.stab _ _) (fun ρ234 w235 g hle hi ht=>?_) ?_
 obtain⟨p237,q238,f239⟩:=ht 65 rfl
 refine StepOp_g rfl (ht 55 rfl)<|op_loadPA ty67 q238 f239 rfl ?_
 intro vs240 h241
 obtain⟨_,_,rfl,rfl,⟨_,_,rfl,⟨rfl,Rk⟩,⟨rfl,Rl⟩⟩⟩:=h241
 exact Goes.same hi (show Vr.vd (vA rXCell) _ _ _ _ from(mkA (mkVia (mk_pair mkBool (mk_pair (mk_int Rk) (mk_int Rl))))))
 refine Dw_nil fun w247 g248 hl249 hi250=>?_
 obtain⟨-,hst251,-⟩:=hl249
 obtain⟨hs253,p252⟩:=Step.nx hi250
 rintro v254 h255
 replace h255:Vr.vd (vA rXCell) _ _ _ _:=h255
 obtain⟨_,rfl,⟨_,_,rfl,rfl,⟨_,_,rfl,⟨rfl,Rm⟩,⟨rfl,Rn⟩⟩⟩⟩:=h255
 rintro _ ⟨p257,rfl,f258⟩ _ rfl _ rfl _ rfl v259 h260
 replace h260:Vr.vd (vA rXCell) _ _ _ _:=h260
 obtain⟨_,rfl,⟨_,_,rfl,rfl,⟨_,_,rfl,⟨rfl,Ro⟩,⟨rfl,Rp⟩⟩⟩⟩:=h260
 rintro _ ⟨p262,rfl,f263⟩ _ rfl _ rfl _ rfl _ rfl _ rfl _ rfl _ rfl _ rfl _ rfl _ rfl v264 h265
 replace h265:Vr.vd (vI .i64) _ _ _ _:=h265
 obtain⟨rfl,Rq⟩:=h265
 rintro _ ⟨p267,rfl,f268⟩ _ ⟨p269,rfl,f270⟩ _ rfl _ rfl _ rfl _ rfl _ rfl v271 h272
 replace h272:Vr.vd (vI .i64) _ _ _ _:=h272
 obtain⟨rfl,Rr⟩:=h272
 rintro _ ⟨p274,rfl,f275⟩ _ ⟨p276,rfl,f277⟩ _ rfl _ rfl _ rfl
 have p278:=hs26.to hs253 (hst251.trans p252)
 replace f258:=f258.step p252;replace f263:=f263.step p252;replace f268:=f268.step p252;replace f270:=f270.step p252;replace f275:=f275.step p252;replace f277:=f277.step p252
 obtain⟨before_1,hv279,hm⟩:=bd hm
 refine Rog rfl rfl<|op_callE hs253 Try.call60 (c60_overflightref27_Before (a:=p.cells.getD (IntKind.wrap .i64 (i_1 - 1)).toNat default) (b:=p.cells.getD i_1.toNat default) hs253.ltw Ro Rp Rm Rn hv279) rfl ?_
 rintro v280 w281 p285 hs284 h283
 clear hs253
 obtain rfl:=h283
 refine Rog rfl rfl<|op_not rfl<|Rog rfl rfl<|op_pick_t (v:=Bo (!before_1)) rfl rfl<|Pkf (Bo (!before_1)) rfl rfl<|Rg_nil ?_
 have p287:=(p278.trans p285)
 replace ch45:=ch45.trans p287
 exact hK38 _ _ ⟨!before_1,_,rfl,Frm.of ⟨rfl,trivial⟩,ch45,hs284,hm⟩
 replace hm:=bif_f hm hg191
 iterate 11 refine Dw_sk rfl rfl (fun _ _ _ h=>h) rfl ?_
 refine Dw_nil fun w292 g293 hl294 hi295=>?_
 obtain⟨-,hst296,-⟩:=hl294
 obtain⟨hs298,p297⟩:=Step.nx hi295
 rintro _ rfl _ rfl _ rfl _ rfl _ rfl _ rfl _ rfl _ rfl _ rfl _ rfl _ rfl _ rfl _ rfl _ rfl _ rfl _ rfl _ rfl v299 h300
 replace h300:Vr.vd (vI .i64) _ _ _ _:=h300
 obtain⟨rfl,Rs⟩:=h300
 rintro _ ⟨p302,rfl,f303⟩ _ ⟨p304,rfl,f305⟩ _ rfl _ rfl _ rfl _ rfl _ rfl v306 h307
 replace h307:Vr.vd (vI .i64) _ _ _ _:=h307
 obtain⟨rfl,Rt⟩:=h307
 rintro _ ⟨p309,rfl,f310⟩ _ ⟨p311,rfl,f312⟩ _ rfl _ rfl _ rfl
 have p313:=hs26.to hs298 (hst296.trans p297)
 replace f303:=f303.step p297;replace f305:=f305.step p297;replace f310:=f310.step p297;replace f312:=f312.step p297
 refine Rg_opx rfl (asB_ne rfl rfl) rfl<|Rg_opx rfl (asB_ne rfl rfl) rfl<|Rog rfl rfl<|op_pick_f (v:=Bo false) rfl rfl<|Pkf (Bo false) rfl rfl<|Rg_nil ?_
 replace ch45:=ch45.trans p313
 exact hK38 _ _ ⟨false,_,rfl,Frm.of ⟨rfl,trivial⟩,ch45,hs298,hm⟩
 refine Wp_exit<|Wp_seq<|Wp_seq<|Wp_region<|Asg (Iv 0) rfl<|Rg_nil<|Wp_block<|Wr [] [(1,Pt b1 0),(4,Iv 0)] fun ξ315=>Wp_loopM q31_4 (fun m fr w'=>∃(i_2:Int) (Ebs:Ents),Ebs=[(some b1,Oc [Sl Aa p.cells Ca,Sl Ab p.capacity Cb,Sl Ac p.variables Cc] 26)]∧fr [] [(4,Iv i_2)]∧hs26.S (ks Ebs O) w'∧St ⟨w,[],[]⟩ O w' Ebs∧InK .i64 i_2∧loop1 (m31_overflightref27_Check_B1 p) m i_2=some x) (((p.capacity.length:Int) - 0).toNat+1) ⟨0,_,rfl,Frm.of ⟨rfl,trivial⟩,Step.refl _ _,hs26,(show InK .i64 0 from by decide),hm⟩ ?_ ?_
 rintro _ _ ⟨_,_,_,_,_,_,_,hm⟩;exact loop1_z hm
 rintro m319 K318 hK318 ρ324 w320 ⟨i_2,_,rfl,hfr323,hst322,hs321,Ru,hm⟩
 obtain⟨sf316,hsf317,hm⟩:=loop1_s hm;unfold m31_overflightref27_Check_B1 at hm
 rw [hfr323.eq];clear hfr323
 have ch325:=hst322
 refine Wp_seq<|Wp_seq<|Wp_region<|Mve (Iv i_2) rfl<|Rop<|op_fA 1 ty26 rfl ty23 rfl rfl<|Rop<|op_ld 0 ty23 hs321 rfl rfl rfl<|Rop<|op_len Try.underlying23 rfl ?_
 have p327:=(p32.trans hst322)
 replace Fb:=Fb.step p327
 have rl326:=inK_len Fb
 refine Rop<|op_lss rfl rfl<|Rg_nil<|Wp_condM hm rfl (fun hc328 hm=>?_) (fun hc328 hm=>?_)
 refine Wp_skip<|Wp_seq<|Wp_block<|Wp_seq<|Wp_seq<|Wp_drawR (g0:=[]) (m:=9) (fl:=[]) (TS_inv hs321) rfl (.inl rfl) rfl (by decide+kernel) ?_  -- 11
 refine Dw_p (Pt b1 1) (fun _ _ _ hi ht=>op_fA 1 ty26 rfl ty23 (ht 1 rfl) rfl<|Gz hi)<|Dw_p (Sl Ab p.capacity Cb) (fun _ _ _ hi ht=>op_ld 0 ty23 (Step.nx hi).1 (ht 78 rfl) rfl rfl<|Gz hi)<|Dw_p (Iv i_2) (fun _ _ _ hi ht=>op_move (v:=Iv i_2) (ht 4 rfl)<|Gz hi) ?_
 obtain⟨hc341,hm⟩:=ck_some hm
 refine Dw_op (VP _ _ (rSl (rInt .i64)) (p.capacity.getD i_2.toNat default)) (VP.stab _ _) (fun ρ338 w339 g hle hi ht=>?_) ?_
 obtain⟨-,hst,-⟩:=hle
 replace Fb:=Fb.step hst
 refine StepOp_plain<|op_indexAddr (q:=rSl (rInt .i64)) ty23 ty31 (ht 79 rfl) (ht 80 rfl) Fb rfl hc341.1 hc341.2 ?_
 intro p342 f343
 exact Goes.same hi ⟨_,rfl,f343⟩
 refine Dw_op (VD _ _ (vC (rSl (rInt .i64))) (p.capacity.getD i_2.toNat default)) (VD.stab _ _) (fun ρ344 w345 g hle hi ht=>?_) ?_
 obtain⟨p347,q348,f349⟩:=ht 81 rfl
 refine StepOp_plain<|op_loadP ty31 q348 f349 rfl ?_
 intro v350 h351
 obtain⟨Ad,Cd,rfl,Fd⟩:=un_sl h351
 exact Goes.same hi (show Vr.vd (vC (rSl (rInt .i64))) _ _ _ _ from(mkC (mk_sl Fd)))
 refine Dw_op (VD _ _ (vI .i64) ((p.capacity.getD i_2.toNat default).length:Int)) (VD.stab _ _) (fun ρ353 w354 g hle hi ht=>?_) ?_
 have h356:Vr.vd (vC (rSl (rInt .i64))) _ _ _ _:=ht 82 rfl
 obtain⟨Ae,Ce,q357,Fe⟩:=un_sl h356
 exact StepOp_plain<|op_len Try.underlying31 q357<|Goes.same hi (show Vr.vd (vI .i64) _ _ _ _ from⟨rfl,inK_len Fe⟩)
 refine Dw_p (Pt b1 0) (fun _ _ _ hi ht=>op_fA 0 ty26 rfl ty22 (ht 1 rfl) rfl<|Gz hi)<|Dw_p (Sl Aa p.cells Ca) (fun _ _ _ hi ht=>op_ld 0 ty22 (Step.nx hi).1 (ht 84 rfl) rfl rfl<|Gz hi)<|Dw_p (Iv (p.cells.length:Int)) (fun _ _ _ hi ht=>op_len Try.underlying22 (ht 85 rfl)<|Gz hi)<|Dw_nil fun w372 g373 hl374 hi375=>?_
 obtain⟨-,hst376,-⟩:=hl374
 obtain⟨hs378,p377⟩:=Step.nx hi375
 rintro _ rfl _ rfl _ rfl v379 h380
 replace h380:Vr.vd (vI .i64) _ _ _ _:=h380
 obtain⟨rfl,Rv⟩:=h380
 rintro v382 h383
 replace h383:Vr.vd (vC (rSl (rInt .i64))) _ _ _ _:=h383
 obtain⟨Af,Cf,rfl,Ff⟩:=un_sl h383
 rintro _ ⟨p385,rfl,f386⟩ _ rfl _ rfl _ rfl
 have p387:=hs321.to hs378 (hst376.trans p377)
 replace Ff:=Ff.step p377;replace f386:=f386.step p377;clear hs321
 refine Rop<|op_neq rfl rfl<|Rg_nil<|Wp_condM hm rfl (fun hc388 hm=>?_) (fun hc388 hm=>?_)
 refine Wp_seq ?_
 clear Ff f386
 refine Wp_region<|Asg (Iv 270) rfl<|Rg_nil<|Wp_ret<|⟨_,Clo,[Iv 270],⟨rfl,trivial⟩,hs378.ext,?_⟩
 exact Vr.eq (a:=(vI .i64)) (x:=270) ⟨rfl,(show InK .i64 270 from by decide)⟩ (oi hm)
 refine Wp_skip<|Wp_seq ?_
 clear Ff f386
 refine Wp_region<|Asg (Iv 0) rfl<|Rg_nil<|Wp_block<|Wr2 q31_4 [] (updL ⟨ξ315,[]⟩ [(1,Pt b1 0),(4,Iv 0)]) [(4,Iv i_2),(5,Iv 0)] fun ξ390=>Wp_loopM q31_3 (fun m fr w'=>∃(k_1:Int) (Ebs:Ents),Ebs=[(some b1,Oc [Sl Aa p.cells Ca,Sl Ab p.capacity Cb,Sl Ac p.variables Cc] 26)]∧fr [] [(5,Iv k_1)]∧hs378.S (ks Ebs O) w'∧St ⟨w,[],[]⟩ O w' Ebs∧InK .i64 k_1∧loop1 (m31_overflightref27_Check_B2 p i_2 sf316) m k_1=some x) (((p.cells.length:Int) - 0).toNat+1) ⟨0,_,rfl,Frm.of ⟨rfl,trivial⟩,Step.refl _ _,hs378,(show InK .i64 0 from by decide),hm⟩ ?_ ?_
 rintro _ _ ⟨_,_,_,_,_,_,_,hm⟩;exact loop1_z hm
 rintro m394 K393 hK393 ρ399 w395 ⟨k_1,_,rfl,hfr398,hst397,hs396,Rw,hm⟩
 obtain⟨sf391,hsf392,hm⟩:=loop1_s hm;unfold m31_overflightref27_Check_B2 at hm
 rw [hfr398.eq];clear hfr398
 have ch400:=hst397
 refine Wp_seq<|Wp_seq<|Wp_region<|Mve (Iv k_1) rfl<|Rop<|op_fA 0 ty26 rfl ty22 rfl rfl<|Rop<|op_ld 0 ty22 hs396 rfl rfl rfl<|Rop<|op_len Try.underlying22 rfl ?_
 have p402:=(hst322.trans (p387.trans hst397))
 replace Fa:=Fa.step p402
 have rl401:=inK_len Fa
 refine Rop<|op_lss rfl rfl<|Rg_nil<|Wp_condM hm rfl (fun hc403 hm=>?_) (fun hc403 hm=>?_)
 refine Wp_skip<|Wp_seq<|Wp_block<|Wp_seq<|Wp_region<|Rop<|op_fA 1 ty26 rfl ty23 rfl rfl<|Rop<|op_ld 0 ty23 hs396 rfl rfl rfl<|Mve (Iv i_2) rfl ?_
 obtain⟨hc404,hm⟩:=ck_some hm
 have p407:=(p387.trans hst397)
 replace Fb:=Fb.step p407
 refine Rop<|op_indexAddr (q:=rSl (rInt .i64)) ty23 ty31 rfl rfl Fb rfl hc404.1 hc404.2 ?_
 intro p405 f406
 refine Rop<|op_loadP ty31 rfl f406 rfl ?_
 intro v408 h409
 obtain⟨Ag,Cg,rfl,Fg⟩:=un_sl h409
 refine Mve (Iv k_1) rfl ?_
 obtain⟨hc411,hm⟩:=ck_some hm
 refine Rop<|op_indexAddr (q:=(rInt .i64)) ty31 ty3 rfl rfl Fg rfl hc411.1 hc411.2 ?_
 intro p412 f413
 refine Rop<|op_loadP ty3 rfl f413 rfl ?_
 intro v414 h415
 obtain⟨rfl,Rx⟩:=un_int h415
 obtain⟨within_1,hv417,hm⟩:=bd hm
 refine Rop<|op_callE hs396 Try.call61 (c61_overflightref27_within (n:=(p.capacity.getD i_2.toNat default).getD k_1.toNat default) (lo:=0) (hi:=4096) hs396.ltw Rx (show InK .i64 0 from by decide) (show InK .i64 4096 from by decide) hv417) rfl ?_
 rintro v418 w419 p423 hs422 h421
 clear hs396
 obtain rfl:=h421
 refine Rop<|op_not rfl<|Rg_nil<|Wp_condM hm rfl (fun hc425 hm=>?_) (fun hc425 hm=>?_)
 refine Wp_seq ?_
 clear f406 Fg f413
 refine Wp_region<|Asg (Iv 270) rfl<|Rg_nil<|Wp_ret<|⟨_,Clo,[Iv 270],⟨rfl,trivial⟩,hs422.ext,?_⟩
 exact Vr.eq (a:=(vI .i64)) (x:=270) ⟨rfl,(show InK .i64 270 from by decide)⟩ (oi hm)
 refine Wp_skip ?_
 clear f406 Fg f413
 refine Wp_region<|Mve (Iv k_1) rfl<|Rop<|op_addw rfl rfl<|Asg (Iv (IntKind.wrap .i64 (k_1+1))) rfl<|Rg_nil ?_
 replace ch400:=ch400.trans p423
 exact hK393 _ _ ⟨(IntKind.wrap .i64 (k_1+1)),_,rfl,Frm.of ⟨rfl,trivial⟩,ch400,hs422,(inK_wrap .i64 _),jnE1 hsf392 hm⟩
 refine Wp_exit<|Wp_region<|Mve (Iv i_2) rfl<|Rop<|op_addw rfl rfl<|Asg (Iv (IntKind.wrap .i64 (i_2+1))) rfl<|Rg_nil ?_
 have p426:=(p387.trans hst397)
 replace ch325:=ch325.trans p426
 exact hK318 _ _ ⟨(IntKind.wrap .i64 (i_2+1)),_,rfl,Frm.of ⟨rfl,trivial⟩,ch325,hs396,(inK_wrap .i64 _),jnE1 hsf317 hm⟩
 refine Wp_exit<|Wp_seq<|Wp_seq<|Wp_region<|Asg (Iv 0) rfl<|Rg_nil<|Wp_block<|Wr [] [(1,Pt b1 0),(6,Iv 0)] fun ξ428=>Wp_loopM q31_5 (fun m fr w'=>∃(i_3:Int) (Ebs:Ents),Ebs=[(some b1,Oc [Sl Aa p.cells Ca,Sl Ab p.capacity Cb,Sl Ac p.variables Cc] 26)]∧fr [] [(6,Iv i_3)]∧hs321.S (ks Ebs O) w'∧St ⟨w,[],[]⟩ O w' Ebs∧InK .i64 i_3∧loop1 (m31_overflightref27_Check_B3 p) m i_3=some x) (((p.variables.length:Int) - 0).toNat+1) ⟨0,_,rfl,Frm.of ⟨rfl,trivial⟩,Step.refl _ _,hs321,(show InK .i64 0 from by decide),hm⟩ ?_ ?_
 rintro _ _ ⟨_,_,_,_,_,_,_,hm⟩;exact loop1_z hm
 rintro m432 K431 hK431 ρ437 w433 ⟨i_3,_,rfl,hfr436,hst435,hs434,Ry,hm⟩
 obtain⟨sf429,hsf430,hm⟩:=loop1_s hm;unfold m31_overflightref27_Check_B3 at hm
 rw [hfr436.eq];clear hfr436
 have ch438:=hst435
 refine Wp_seq<|Wp_seq<|Wp_region<|Mve (Iv i_3) rfl<|Rop<|op_fA 2 ty26 rfl ty24 rfl rfl<|Rop<|op_ld 0 ty24 hs434 rfl rfl rfl<|Rop<|op_len Try.underlying24 rfl ?_
 replace Fc:=Fc.step (p327.trans hst435)
 have rl439:=inK_len Fc
 refine Rop<|op_lss rfl rfl<|Rg_nil<|Wp_condM hm rfl (fun hc440 hm=>?_) (fun hc440 hm=>?_)
 refine Wp_skip<|Wp_seq<|Wp_block<|Wp_seq<|Wp_drawR (g0:=[]) (m:=6) (fl:=[]) (TS_inv hs434) rfl (.inl rfl) rfl (by decide+kernel) ?_  -- 21
 refine Dw_p (Value.agg [Sl Aa p.cells Ca,Sl Ab p.capacity Cb,Sl Ac p.variables Cc].toArray) (fun _ _ _ hi ht=>op_ldA 0 ty26 (Step.nx hi).1 (ht 1 rfl) rfl rfl<|Gz hi)<|Dw_p (Pt b1 2) (fun _ _ _ hi ht=>op_fA 2 ty26 rfl ty24 (ht 1 rfl) rfl<|Gz hi)<|Dw_p (Sl Ac p.variables Cc) (fun _ _ _ hi ht=>op_ld 0 ty24 (Step.nx hi).1 (ht 113 rfl) rfl rfl<|Gz hi)<|Dw_p (Iv i_3) (fun _ _ _ hi ht=>op_move (v:=Iv i_3) (ht 6 rfl)<|Gz hi) ?_
 obtain⟨hc456,hm⟩:=ck_some hm
 refine Dw_op (VP _ _ rXVariable (p.variables.getD i_3.toNat default)) (VP.stab _ _) (fun ρ453 w454 g hle hi ht=>?_) ?_
 obtain⟨-,hst,-⟩:=hle
 replace Fc:=Fc.step hst
 refine StepOp_plain<|op_indexAddr (q:=rXVariable) ty24 ty61 (ht 114 rfl) (ht 115 rfl) Fc rfl hc456.1 hc456.2 ?_
 intro p457 f458
 exact Goes.same hi ⟨_,rfl,f458⟩
 refine Dw_op (VD _ _ (vA rXVariable) (p.variables.getD i_3.toNat default)) (VD.stab _ _) (fun ρ459 w460 g hle hi ht=>?_) ?_
 obtain⟨p462,q463,f464⟩:=ht 116 rfl
 refine StepOp_plain<|op_loadPA ty61 q463 f464 rfl ?_
 intro vs465 h466
 obtain⟨_,_,rfl,⟨rfl,Rz⟩,⟨_,_,rfl,⟨rfl,Ra1⟩,⟨_,_,rfl,⟨Ah,Ch,rfl,Fh⟩,⟨Ai,Ci,rfl,Fi⟩⟩⟩⟩:=h466
 exact Goes.same hi (show Vr.vd (vA rXVariable) _ _ _ _ from(mkA (mkVia (mk_pair (mk_int Rz) (mk_pair (mk_int Ra1) (mk_pair (mk_sl Fh) (mk_sl Fi)))))))
 refine Dw_nil fun w472 g473 hl474 hi475=>?_
 obtain⟨-,hst476,-⟩:=hl474
 obtain⟨hs478,p477⟩:=Step.nx hi475
 rintro v479 h480
 replace h480:Vr.vd (vA rXVariable) _ _ _ _:=h480
 obtain⟨_,rfl,⟨_,_,rfl,⟨rfl,Rb1⟩,⟨_,_,rfl,⟨rfl,Rc1⟩,⟨_,_,rfl,⟨Aj,Cj,rfl,Fj⟩,⟨Ak,Ck,rfl,Fk⟩⟩⟩⟩⟩:=h480
 rintro _ ⟨p482,rfl,f483⟩ _ rfl _ rfl _ rfl _ rfl
 have p484:=hs434.to hs478 (hst476.trans p477)
 replace Fj:=Fj.step p477;replace Fk:=Fk.step p477;replace f483:=f483.step p477;clear hs434
 obtain⟨variable_1,hv485,hm⟩:=bd hm
 have p491:=(hst435.trans p484)
 replace Fb:=Fb.step p491
 have p492:=(hst322.trans (hst435.trans p484))
 replace Fa:=Fa.step p492;replace Fc:=Fc.step p484
 refine Rop<|op_callE hs478 Try.call62 (c62_overflightref27_variable (p:=p) (v:=p.variables.getD i_3.toNat default) hs478.ltw Fa Fb Fc Rb1 Rc1 Fj Fk hv485) rfl ?_
 rintro v486 w487 p493 hs490 h489
 clear hs478
 obtain rfl:=h489
 refine Rop<|op_not rfl<|Rg_nil<|Wp_condM hm rfl (fun hc495 hm=>?_) (fun hc495 hm=>?_)
 refine Wp_seq ?_
 clear Fj Fk f483
 refine Wp_region<|Asg (Iv 270) rfl<|Rg_nil<|Wp_ret<|⟨_,Clo,[Iv 270],⟨rfl,trivial⟩,hs490.ext,?_⟩
 exact Vr.eq (a:=(vI .i64)) (x:=270) ⟨rfl,(show InK .i64 270 from by decide)⟩ (oi hm)
 refine Wp_skip ?_
 clear Fj Fk f483
 refine Wp_region<|Mve (Iv i_3) rfl<|Rop<|op_addw rfl rfl<|Asg (Iv (IntKind.wrap .i64 (i_3+1))) rfl<|Rg_nil ?_
 replace ch438:=ch438.trans (p484.trans p493)
 exact hK431 _ _ ⟨(IntKind.wrap .i64 (i_3+1)),_,rfl,Frm.of ⟨rfl,trivial⟩,ch438,hs490,(inK_wrap .i64 _),jnE1 hsf430 hm⟩
 refine Wp_exit<|Wp_seq ?_
 obtain⟨hs496,p497⟩:=hs434.sub (bs':=[]) (.cons _ List.Sublist.slnil)
 clear Fa Fb Fc
 clear hs434
 refine Wp_region<|Asg (Iv 0) rfl<|Rg_nil<|Wp_ret<|⟨_,Clo,[Iv 0],⟨rfl,trivial⟩,hs496.ext,?_⟩
 exact Vr.eq (a:=(vI .i64)) (x:=0) ⟨rfl,(show InK .i64 0 from by decide)⟩ (oi hm)
 intro K10 hK10
 have ch498:=hs4.stepR
 refine Wp_region<|Rop<|op_fA 0 ty26 rfl ty22 rfl rfl<|Rop<|op_ld 0 ty22 hs4 rfl rfl rfl<|Rop<|op_len Try.underlying22 rfl ?_
 replace Fa:=Fa.step p3
 have rl499:=inK_len Fa
 refine Rop<|op_gtr rfl rfl<|Mve (Bo (decide (4096<(p.cells.length:Int)))) rfl<|Rg_caseM hm (fun hg500 hm=>?_) (fun hg500 hm=>?_)
 iterate 4 refine Rg_opx rfl (asB_ne rfl rfl) rfl ?_
 refine Pkt (Bo true) rfl rfl<|Mve (Bo true) rfl ?_
 iterate 4 refine Rg_opx rfl (asB_ne rfl rfl) rfl ?_
 refine Pkt (Bo true) rfl rfl<|Mve (Bo true) rfl ?_
 iterate 4 refine Rg_opx rfl (asB_ne rfl rfl) rfl ?_
 exact Pkt (Bo true) rfl rfl<|Rg_nil<|hK10 _ _ ⟨true,_,rfl,Frm.of ⟨rfl,trivial⟩,ch498,hs4,hm⟩
 refine Rog rfl rfl<|op_fA 1 ty26 rfl ty23 rfl rfl<|Rog rfl rfl<|op_ld 0 ty23 hs4 rfl rfl rfl<|Rog rfl rfl<|op_len Try.underlying23 rfl ?_
 replace Fb:=Fb.step p3
 have rl501:=inK_len Fb
 refine Rog rfl rfl<|op_lss rfl rfl<|Pkf (Bo (decide ((p.capacity.length:Int)<1))) rfl rfl<|Mve (Bo (decide ((p.capacity.length:Int)<1))) rfl<|Rg_caseM hm (fun hg502 hm=>?_) (fun hg502 hm=>?_)
 iterate 4 refine Rg_opx rfl (asB_ne rfl rfl) rfl ?_
 refine Pkt (Bo true) rfl rfl<|Mve (Bo true) rfl ?_
 iterate 4 refine Rg_opx rfl (asB_ne rfl rfl) rfl ?_
 exact Pkt (Bo true) rfl rfl<|Rg_nil<|hK10 _ _ ⟨true,_,rfl,Frm.of ⟨rfl,trivial⟩,ch498,hs4,hm⟩
 refine Rog rfl rfl<|op_fA 1 ty26 rfl ty23 rfl rfl<|Rog rfl rfl<|op_ld 0 ty23 hs4 rfl rfl rfl<|Rog rfl rfl<|op_len Try.underlying23 rfl ?_
 have rl503:=inK_len Fb
 refine Rog rfl rfl<|op_gtr rfl rfl<|Pkf (Bo (decide (32<(p.capacity.length:Int)))) rfl rfl<|Mve (Bo (decide (32<(p.capacity.length:Int)))) rfl<|Rg_caseM hm (fun hg504 hm=>?_) (fun hg504 hm=>?_)
 iterate 4 refine Rg_opx rfl (asB_ne rfl rfl) rfl ?_
 exact Pkt (Bo true) rfl rfl<|Rg_nil<|hK10 _ _ ⟨true,_,rfl,Frm.of ⟨rfl,trivial⟩,ch498,hs4,hm⟩
 refine Rog rfl rfl<|op_fA 2 ty26 rfl ty24 rfl rfl<|Rog rfl rfl<|op_ld 0 ty24 hs4 rfl rfl rfl<|Rog rfl rfl<|op_len Try.underlying24 rfl ?_
 replace Fc:=Fc.step p3
 have rl505:=inK_len Fc
 exact Rog rfl rfl<|op_gtr rfl rfl<|Pkf (Bo (decide (64<(p.variables.length:Int)))) rfl rfl<|Rg_nil<|hK10 _ _ ⟨decide (64<(p.variables.length:Int)),_,rfl,Frm.of ⟨rfl,trivial⟩,ch498,hs4,hm⟩

def m63_overflightref32_Before (a:XPlace) (b:XPlace):Option Bool:=
 bif (decide (a.leaf<b.leaf)) then
  some true
 else
  bif (decide (a.leaf=b.leaf)) then
   some (decide (a.cell<b.cell))
  else
   some false

theorem c63_overflightref32_Before {w:World} {O:List Nat} {a:XPlace} {b:XPlace} (hO:∀k∈O,k<w.heap.size) (Ra:InK .i64 a.leaf) (Rb:InK .i64 a.cell) (Rc:InK .i64 b.leaf) (Rd:InK .i64 b.cell) {x:Bool} (hm:m63_overflightref32_Before a b=some x):
 Ok Try.prog 63 [Value.agg [Iv a.leaf,Iv a.cell].toArray,Value.agg [Iv b.leaf,Iv b.cell].toArray] w O vB x:=by
 unfold m63_overflightref32_Before at hm
 refine Fn_of_Wp (n:=24) (xs:=[.tmp 4]) Try.func63 rfl Try.ntmps63 Try.results63 rfl ?_
 have hs:=St.start hO
 refine Wp_seq<|Wp_region<|Rop<|op_box (cs:=[Iv a.leaf,Iv a.cell]) hs rfl rfl ?_
 intro b1 w2 _ p3 hs4
 refine Rop<|op_box (cs:=[Iv b.leaf,Iv b.cell]) hs4 rfl rfl ?_
 intro b6 w7 _ p8 hs9
 clear hs4
 refine Asg (Bo false) rfl<|Rg_nil<|Wp_seq<|Wp_region<|Rop<|op_fA 0 ty45 rfl ty3 rfl rfl<|Rop<|op_ld 1 ty3 hs9 rfl rfl rfl<|Rop<|op_fA 0 ty45 rfl ty3 rfl rfl<|Rop<|op_ld 0 ty3 hs9 rfl rfl rfl<|Rop<|op_lss rfl rfl<|Mve (Bo (decide (a.leaf<b.leaf))) rfl<|Rg_caseM hm (fun hg11 hm=>?_) (fun hg11 hm=>?_)
 iterate 12 refine Rg_opx rfl (asB_ne rfl rfl) rfl ?_
 refine Pkt (Bo true) rfl rfl<|Asg (Bo true) rfl<|Rg_nil<|Wp_ret<|⟨_,Clo,[Bo true],⟨rfl,trivial⟩,hs9.ext,?_⟩
 exact Vr.eq (a:=vB) (x:=true) rfl (oi hm)
 refine Rog rfl rfl<|op_fA 0 ty45 rfl ty3 rfl rfl<|Rog rfl rfl<|op_ld 1 ty3 hs9 rfl rfl rfl<|Rog rfl rfl<|op_fA 0 ty45 rfl ty3 rfl rfl<|Rog rfl rfl<|op_ld 0 ty3 hs9 rfl rfl rfl<|Rog rfl rfl<|op_eql rfl rfl<|Rog rfl rfl<|op_move (v:=Bo (decide (a.leaf=b.leaf))) rfl<|Rg_caseM hm (fun hg12 hm=>?_) (fun hg12 hm=>?_)
 refine Rog rfl rfl<|op_fA 1 ty45 rfl ty3 rfl rfl<|Rog rfl rfl<|op_ld 1 ty3 hs9 rfl rfl rfl<|Rog rfl rfl<|op_fA 1 ty45 rfl ty3 rfl rfl<|Rog rfl rfl<|op_ld 0 ty3 hs9 rfl rfl rfl<|Rog rfl rfl<|op_lss rfl rfl<|Rog rfl rfl<|op_pick_t (v:=Bo (decide (a.cell<b.cell))) rfl rfl<|Pkf (Bo (decide (a.cell<b.cell))) rfl rfl<|Asg (Bo (decide (a.cell<b.cell))) rfl<|Rg_nil<|Wp_ret<|⟨_,Clo,[Bo (decide (a.cell<b.cell))],⟨rfl,trivial⟩,hs9.ext,?_⟩
 exact Vr.eq (a:=vB) (x:=decide (a.cell<b.cell)) rfl (oi hm)
 iterate 5 refine Rg_opx rfl (asB_ne rfl rfl) rfl ?_
 refine Rog rfl rfl<|op_pick_f (v:=Bo false) rfl rfl<|Pkf (Bo false) rfl rfl<|Asg (Bo false) rfl<|Rg_nil<|Wp_ret<|⟨_,Clo,[Bo false],⟨rfl,trivial⟩,hs9.ext,?_⟩
 exact Vr.eq (a:=vB) (x:=false) rfl (oi hm)

abbrev q56_2:List Nat:=[56,57,58,59,60,61,62,63,64,65,66,67,68,69,70,71,72,73,74,75,76,77,78,79,80,81,82,83,84,85,86,87,88,89,90,91,92,93,94]

abbrev q56_3:List Nat:=[4,7,8,44,45,46,47,48,49,50,51,52,53,54,55,56,57,58,59,60,61,62,63,64,65,66,67,68,69,70,71,72,73,74,75,76,77,78,79,80,81,82,83,84,85,86,87,88,89,90,91,92,93,94]

abbrev q56_0:List Nat:=[21,22,23,24,25,26,27,28,29,30,31,32,33,34,35,36,37,38,39,40,41,42,43]

abbrev q56_1:List Nat:=[4,5,6,9,10,11,12,13,14,15,16,17,18,19,20,21,22,23,24,25,26,27,28,29,30,31,32,33,34,35,36,37,38,39,40,41,42,43]

def m56_overflightref32_Valid_B1 (p:XProblem) (r_:XReason) (sf56:Int→Option Bool) (i_2:Int):Option Bool:=
 bif (decide (i_2<(r_.places.length:Int))) then
  ck ((0:Int)≤i_2∧i_2<(r_.places.length:Int))<|
  jn (fun(v_2:Bool)=>
   bif v_2 then
    some false
   else
    sf56 (IntKind.wrap .i64 (i_2+1)))
  (fun k85=>
   bif (decide (((r_.places.getD i_2.toNat default).leaf)<0)) then
    k85 true
   else
    bif (decide ((p.capacity.length:Int)≤((r_.places.getD i_2.toNat default).leaf))) then
     k85 true
    else
     bif (decide (((r_.places.getD i_2.toNat default).cell)<0)) then
      k85 true
     else
      bif (decide ((p.cells.length:Int)≤((r_.places.getD i_2.toNat default).cell))) then
       k85 true
      else
       bif (decide (0<i_2)) then
        ck ((0:Int)≤(IntKind.wrap .i64 (i_2 - 1))∧(IntKind.wrap .i64 (i_2 - 1))<(r_.places.length:Int))<|
        (m63_overflightref32_Before (r_.places.getD (IntKind.wrap .i64 (i_2 - 1)).toNat default) (r_.places.getD i_2.toNat default)).bind fun before_1=>
        k85 (!before_1)
       else
        k85 false)
 else
  some true

def m56_overflightref32_Valid_B0 (p:XProblem) (r_:XReason) (sf13:Int→Option Bool) (i_1:Int):Option Bool:=
 bif (decide (i_1<(r_.variables.length:Int))) then
  ck ((0:Int)≤i_1∧i_1<(r_.variables.length:Int))<|
  jn (fun(v_1:Bool)=>
   bif v_1 then
    some false
   else
    sf13 (IntKind.wrap .i64 (i_1+1)))
  (fun k34=>
   bif (decide ((r_.variables.getD i_1.toNat default)<0)) then
    k34 true
   else
    bif (decide ((p.variables.length:Int)≤(r_.variables.getD i_1.toNat default))) then
     k34 true
    else
     bif (decide (0<i_1)) then
      ck ((0:Int)≤(IntKind.wrap .i64 (i_1 - 1))∧(IntKind.wrap .i64 (i_1 - 1))<(r_.variables.length:Int))<|
      k34 (decide ((r_.variables.getD i_1.toNat default)≤(r_.variables.getD (IntKind.wrap .i64 (i_1 - 1)).toNat default)))
     else
      k34 false)
 else
  loop1 (m56_overflightref32_Valid_B1 p r_) (((r_.places.length:Int) - 0).toNat+1) 0

def m56_overflightref32_Valid (p:XProblem) (r_:XReason):Option Bool:=
 loop1 (m56_overflightref32_Valid_B0 p r_) (((r_.variables.length:Int) - 0).toNat+1) 0

theorem c56_overflightref32_Valid {w:World} {O:List Nat} {p:XProblem} {r_:XReason} {Aa:Option Addr} {Ca:Nat} {Ab:Option Addr} {Cb:Nat} {Ac:Option Addr} {Cc:Nat} {Ad:Option Addr} {Cd:Nat} {Ae:Option Addr} {Ce:Nat} (hO:∀k∈O,k<w.heap.size) (Fa:SlR rXCell w O Aa Ca p.cells) (Fb:SlR (rSl (rInt .i64)) w O Ab Cb p.capacity) (Fc:SlR rXVariable w O Ac Cc p.variables) (Fd:SlR (rInt .i64) w O Ad Cd r_.variables) (Fe:SlR rXPlace w O Ae Ce r_.places) {x:Bool} (hm:m56_overflightref32_Valid p r_=some x):
 Ok Try.prog 56 [Value.agg [Sl Aa p.cells Ca,Sl Ab p.capacity Cb,Sl Ac p.variables Cc].toArray,Value.agg [Sl Ad r_.variables Cd,Sl Ae r_.places Ce].toArray] w O vB x:=by
 unfold m56_overflightref32_Valid at hm
 refine Fn_of_Wp (n:=95) (xs:=[.tmp 4]) Try.func56 rfl Try.ntmps56 Try.results56 rfl ?_
 have hs:=St.start hO
 refine Wp_seq<|Wp_region<|Rop<|op_box (cs:=[Sl Aa p.cells Ca,Sl Ab p.capacity Cb,Sl Ac p.variables Cc]) hs rfl rfl ?_
 intro b1 w2 _ p3 hs4
 refine Rop<|op_box (cs:=[Sl Ad r_.variables Cd,Sl Ae r_.places Ce]) hs4 rfl rfl ?_
 intro b6 w7 _ p8 hs9
 clear hs4
 refine Asg (Bo false) rfl<|Rg_nil<|Wp_seq<|Wp_seq<|Wp_region<|Asg (Iv 0) rfl<|Rg_nil<|Wp_block<|Wr [] [(2,Pt b1 0),(3,Pt b6 0),(5,Iv 0)] fun ξ12=>Wp_loopM q56_1 (fun m fr w'=>∃(i_1:Int) (Ebs:Ents),Ebs=[(some b6,Oc [Sl Ad r_.variables Cd,Sl Ae r_.places Ce] 34),(some b1,Oc [Sl Aa p.cells Ca,Sl Ab p.capacity Cb,Sl Ac p.variables Cc] 26)]∧fr [] [(5,Iv i_1)]∧hs9.S (ks Ebs O) w'∧St ⟨w,[],[]⟩ O w' Ebs∧InK .i64 i_1∧loop1 (m56_overflightref32_Valid_B0 p r_) m i_1=some x) (((r_.variables.length:Int) - 0).toNat+1) ⟨0,_,rfl,Frm.of ⟨rfl,trivial⟩,Step.refl _ _,hs9,(show InK .i64 0 from by decide),hm⟩ ?_ ?_
 rintro _ _ ⟨_,_,_,_,_,_,_,hm⟩;exact loop1_z hm
 rintro m16 K15 hK15 ρ21 w17 ⟨i_1,_,rfl,hfr20,hst19,hs18,Ra,hm⟩
 obtain⟨sf13,hsf14,hm⟩:=loop1_s hm;unfold m56_overflightref32_Valid_B0 at hm
 rw [hfr20.eq];clear hfr20
 have ch22:=hst19
 refine Wp_seq<|Wp_seq<|Wp_region<|Mve (Iv i_1) rfl<|Rop<|op_fA 0 ty34 rfl ty31 rfl rfl<|Rop<|op_ld 0 ty31 hs18 rfl rfl rfl<|Rop<|op_len Try.underlying31 rfl ?_
 have p24:=(p3.trans (p8.trans hst19))
 replace Fd:=Fd.step p24
 have rl23:=inK_len Fd
 refine Rop<|op_lss rfl rfl<|Rg_nil<|Wp_condM hm rfl (fun hc25 hm=>?_) (fun hc25 hm=>?_)
 refine Wp_skip<|Wp_seq<|Wp_block<|Wp_seq<|Wp_region<|Rop<|op_fA 0 ty34 rfl ty31 rfl rfl<|Rop<|op_ld 0 ty31 hs18 rfl rfl rfl<|Mve (Iv i_1) rfl ?_
 obtain⟨hc26,hm⟩:=ck_some hm
 refine Rop<|op_indexAddr (q:=(rInt .i64)) ty31 ty3 rfl rfl Fd rfl hc26.1 hc26.2 ?_
 intro p27 f28
 refine Rop<|op_loadP ty3 rfl f28 rfl ?_
 intro v29 h30
 obtain⟨rfl,Rb⟩:=un_int h30
 refine Asg (Iv (r_.variables.getD i_1.toNat default)) rfl<|Rg_nil<|Wr2 q56_1 [] (updL ⟨ξ12,[]⟩ [(2,Pt b1 0),(3,Pt b6 0),(5,Iv 0)]) [(5,Iv i_1),(6,Iv (r_.variables.getD i_1.toNat default))] fun ξ32=>?_
 obtain⟨k34,hk35,hm⟩:=jn_elim hm
 refine Wp_seqJ q56_0 (fun fr w'=>∃(v_1:Bool) (Ebs:Ents),Ebs=[(some b6,Oc [Sl Ad r_.variables Cd,Sl Ae r_.places Ce] 34),(some b1,Oc [Sl Aa p.cells Ca,Sl Ab p.capacity Cb,Sl Ac p.variables Cc] 26)]∧fr [] [(43,Bo v_1)]∧hs18.S (ks Ebs O) w'∧St ⟨w,[],[]⟩ O w' Ebs∧k34 v_1=some x) ?_ ?_
 rintro ρ41 w37 ⟨v_1,_,rfl,hfr40,hst39,hs38,hm⟩
 replace hm:=jnE1 hk35 hm
 rw [hfr40.eq];clear hfr40
 refine Wp_condM hm rfl (fun hc42 hm=>?_) (fun hc42 hm=>?_)
 refine Wp_seq ?_
 clear f28
 refine Wp_region<|Asg (Bo false) rfl<|Rg_nil<|Wp_ret<|⟨_,Clo,[Bo false],⟨rfl,trivial⟩,hs38.ext,?_⟩
 exact Vr.eq (a:=vB) (x:=false) rfl (oi hm)
 refine Wp_skip ?_
 clear f28
 refine Wp_region<|Mve (Iv i_1) rfl<|Rop<|op_addw rfl rfl<|Asg (Iv (IntKind.wrap .i64 (i_1+1))) rfl<|Rg_nil ?_
 replace ch22:=ch22.trans hst39
 exact hK15 _ _ ⟨(IntKind.wrap .i64 (i_1+1)),_,rfl,Frm.of ⟨rfl,trivial⟩,ch22,hs38,(inK_wrap .i64 _),jnE1 hsf14 hm⟩
 intro K36 hK36
 have ch43:=hs18.stepR
 clear f28
 refine Wp_region<|Mve (Iv (r_.variables.getD i_1.toNat default)) rfl<|Rop<|op_lss rfl rfl<|Mve (Bo (decide ((r_.variables.getD i_1.toNat default)<0))) rfl<|Rg_caseM hm (fun hg44 hm=>?_) (fun hg44 hm=>?_)
 iterate 5 refine Rg_opx rfl (asB_ne rfl rfl) rfl ?_
 refine Pkt (Bo true) rfl rfl<|Mve (Bo true) rfl ?_
 iterate 12 refine Rg_opx rfl (asB_ne rfl rfl) rfl ?_
 exact Pkt (Bo true) rfl rfl<|Rg_nil<|hK36 _ _ ⟨true,_,rfl,Frm.of ⟨rfl,trivial⟩,ch43,hs18,hm⟩
 refine Rog rfl rfl<|op_move (v:=Iv (r_.variables.getD i_1.toNat default)) rfl<|Rog rfl rfl<|op_fA 2 ty26 rfl ty24 rfl rfl<|Rog rfl rfl<|op_ld 1 ty24 hs18 rfl rfl rfl<|Rog rfl rfl<|op_len Try.underlying24 rfl ?_
 replace Fc:=Fc.step p24
 have rl45:=inK_len Fc
 refine Rog rfl rfl<|op_geq rfl rfl<|Pkf (Bo (decide ((p.variables.length:Int)≤(r_.variables.getD i_1.toNat default)))) rfl rfl<|Mve (Bo (decide ((p.variables.length:Int)≤(r_.variables.getD i_1.toNat default)))) rfl<|Rg_caseM hm (fun hg46 hm=>?_) (fun hg46 hm=>?_)
 iterate 12 refine Rg_opx rfl (asB_ne rfl rfl) rfl ?_
 exact Pkt (Bo true) rfl rfl<|Rg_nil<|hK36 _ _ ⟨true,_,rfl,Frm.of ⟨rfl,trivial⟩,ch43,hs18,hm⟩
 refine Rog rfl rfl<|op_move (v:=Iv i_1) rfl<|Rog rfl rfl<|op_gtr rfl rfl<|Rog rfl rfl<|op_move (v:=Bo (decide (0<i_1))) rfl<|Rg_caseM hm (fun hg47 hm=>?_) (fun hg47 hm=>?_)
 refine Rog rfl rfl<|op_move (v:=Iv (r_.variables.getD i_1.toNat default)) rfl<|Rog rfl rfl<|op_fA 0 ty34 rfl ty31 rfl rfl<|Rog rfl rfl<|op_ld 0 ty31 hs18 rfl rfl rfl<|Rog rfl rfl<|op_move (v:=Iv i_1) rfl<|Rog rfl rfl<|op_subw rfl rfl ?_
 obtain⟨hc48,hm⟩:=ck_some hm
 refine Rog rfl rfl<|op_indexAddr (q:=(rInt .i64)) ty31 ty3 rfl rfl Fd rfl hc48.1 hc48.2 ?_
 intro p49 f50
 refine Rog rfl rfl<|op_loadP ty3 rfl f50 rfl ?_
 intro v51 h52
 obtain⟨rfl,Rc⟩:=un_int h52
 exact Rog rfl rfl<|op_leq rfl rfl<|Rog rfl rfl<|op_pick_t (v:=Bo (decide ((r_.variables.getD i_1.toNat default)≤(r_.variables.getD (IntKind.wrap .i64 (i_1 - 1)).toNat default)))) rfl rfl<|Pkf (Bo (decide ((r_.variables.getD i_1.toNat default)≤(r_.variables.getD (IntKind.wrap .i64 (i_1 - 1)).toNat default)))) rfl rfl<|Rg_nil<|hK36 _ _ ⟨decide ((r_.variables.getD i_1.toNat default)≤(r_.variables.getD (IntKind.wrap .i64 (i_1 - 1)).toNat default)),_,rfl,Frm.of ⟨rfl,trivial⟩,ch43,hs18,hm⟩
 iterate 8 refine Rg_opx rfl (asB_ne rfl rfl) rfl ?_
 exact Rog rfl rfl<|op_pick_f (v:=Bo false) rfl rfl<|Pkf (Bo false) rfl rfl<|Rg_nil<|hK36 _ _ ⟨false,_,rfl,Frm.of ⟨rfl,trivial⟩,ch43,hs18,hm⟩
 refine Wp_exit<|Wp_seq<|Wp_seq<|Wp_region<|Asg (Iv 0) rfl<|Rg_nil<|Wp_block<|Wr [] [(2,Pt b1 0),(3,Pt b6 0),(7,Iv 0)] fun ξ55=>Wp_loopM q56_3 (fun m fr w'=>∃(i_2:Int) (Ebs:Ents),Ebs=[(some b6,Oc [Sl Ad r_.variables Cd,Sl Ae r_.places Ce] 34),(some b1,Oc [Sl Aa p.cells Ca,Sl Ab p.capacity Cb,Sl Ac p.variables Cc] 26)]∧fr [] [(7,Iv i_2)]∧hs18.S (ks Ebs O) w'∧St ⟨w,[],[]⟩ O w' Ebs∧InK .i64 i_2∧loop1 (m56_overflightref32_Valid_B1 p r_) m i_2=some x) (((r_.places.length:Int) - 0).toNat+1) ⟨0,_,rfl,Frm.of ⟨rfl,trivial⟩,Step.refl _ _,hs18,(show InK .i64 0 from by decide),hm⟩ ?_ ?_
 rintro _ _ ⟨_,_,_,_,_,_,_,hm⟩;exact loop1_z hm
 rintro m59 K58 hK58 ρ64 w60 ⟨i_2,_,rfl,hfr63,hst62,hs61,Rd,hm⟩
 obtain⟨sf56,hsf57,hm⟩:=loop1_s hm;unfold m56_overflightref32_Valid_B1 at hm
 rw [hfr63.eq];clear hfr63
 have ch65:=hst62
 refine Wp_seq<|Wp_seq<|Wp_region<|Mve (Iv i_2) rfl<|Rop<|op_fA 1 ty34 rfl ty32 rfl rfl<|Rop<|op_ld 0 ty32 hs61 rfl rfl rfl<|Rop<|op_len Try.underlying32 rfl ?_
 have p67:=(p24.trans hst62)
 replace Fe:=Fe.step p67
 have rl66:=inK_len Fe
 refine Rop<|op_lss rfl rfl<|Rg_nil<|Wp_condM hm rfl (fun hc68 hm=>?_) (fun hc68 hm=>?_)
 refine Wp_skip<|Wp_seq<|Wp_block<|Wp_seq<|Wp_region<|Rop<|op_fA 1 ty34 rfl ty32 rfl rfl<|Rop<|op_ld 0 ty32 hs61 rfl rfl rfl<|Mve (Iv i_2) rfl ?_
 obtain⟨hc69,hm⟩:=ck_some hm
 refine Rop<|op_indexAddr (q:=rXPlace) ty32 ty45 rfl rfl Fe rfl hc69.1 hc69.2 ?_
 intro p70 f71
 refine Rop<|op_loadPA ty45 rfl f71 rfl ?_
 intro vs72 h73
 obtain⟨_,_,rfl,⟨rfl,Re⟩,⟨rfl,Rf⟩⟩:=h73
 refine Rop<|op_alloc ty45 hs61 ?_
 intro b75 w76 _ p77 hs78
 clear hs61
 refine Rg_op_<|op_stA .z ty45 hs78 rfl rfl rfl rfl rfl ?_
 intro w80 p81 hs82
 clear hs78
 refine Rg_nil<|Wr2 q56_3 [] (updL ⟨ξ55,[]⟩ [(2,Pt b1 0),(3,Pt b6 0),(7,Iv 0)]) [(7,Iv i_2),(8,Pt b75 0)] fun ξ83=>?_
 obtain⟨k85,hk86,hm⟩:=jn_elim hm
 refine Wp_seqJ q56_2 (fun fr w'=>∃(v_2:Bool) (Ebs:Ents),Ebs=[(some b75,Oc [Iv ((r_.places.getD i_2.toNat default).leaf),Iv ((r_.places.getD i_2.toNat default).cell)] 45),(some b6,Oc [Sl Ad r_.variables Cd,Sl Ae r_.places Ce] 34),(some b1,Oc [Sl Aa p.cells Ca,Sl Ab p.capacity Cb,Sl Ac p.variables Cc] 26)]∧fr [] [(94,Bo v_2)]∧hs82.S (ks Ebs O) w'∧St ⟨w,[],[]⟩ O w' Ebs∧k85 v_2=some x) ?_ ?_
 rintro ρ92 w88 ⟨v_2,_,rfl,hfr91,hst90,hs89,hm⟩
 replace hm:=jnE1 hk86 hm
 rw [hfr91.eq];clear hfr91
 refine Wp_condM hm rfl (fun hc93 hm=>?_) (fun hc93 hm=>?_)
 refine Wp_seq ?_
 clear f71
 refine Wp_region<|Asg (Bo false) rfl<|Rg_nil<|Wp_ret<|⟨_,Clo,[Bo false],⟨rfl,trivial⟩,hs89.ext,?_⟩
 exact Vr.eq (a:=vB) (x:=false) rfl (oi hm)
 refine Wp_skip ?_
 clear f71
 refine Wp_region<|Mve (Iv i_2) rfl<|Rop<|op_addw rfl rfl<|Asg (Iv (IntKind.wrap .i64 (i_2+1))) rfl<|Rg_nil ?_
 have hs94:=hs89.drop 0
 have p95:=(hs89.dropS 0)
 clear hs89
 have p96:=(p77.trans (p81.trans (hst90.trans p95)))
 replace ch65:=ch65.trans p96
 exact hK58 _ _ ⟨(IntKind.wrap .i64 (i_2+1)),_,rfl,Frm.of ⟨rfl,trivial⟩,ch65,hs94,(inK_wrap .i64 _),jnE1 hsf57 hm⟩
 intro K87 hK87
 have ch97:=hs82.stepR
 clear f71
 refine Wp_drawR (g0:=[]) (m:=35) (fl:=[]) (TS_inv hs82) rfl (.inl rfl) rfl (by decide+kernel) ?_  -- 11
 refine Dw_p (Pt b75 0) (fun _ _ _ hi ht=>op_fA 0 ty45 rfl ty3 (ht 8 rfl) rfl<|Gz hi)<|Dw_p (Iv ((r_.places.getD i_2.toNat default).leaf)) (fun _ _ _ hi ht=>op_ld 0 ty3 (Step.nx hi).1 (ht 56 rfl) rfl rfl<|Gz hi)<|Dw_p (Bo (decide (((r_.places.getD i_2.toNat default).leaf)<0))) (fun _ _ _ hi ht=>op_lss (ht 57 rfl) rfl<|Gz hi)<|Dw_opB (decide (((r_.places.getD i_2.toNat default).leaf)<0)) (fun _ _ _ _ hi ht=>StepOp_plain<|op_move (v:=Bo (decide (((r_.places.getD i_2.toNat default).leaf)<0))) (ht 58 rfl)<|Gz hi) (fun hg110=>?_) (fun hg110=>?_)
 replace hm:=bif_t hm hg110
 iterate 6 refine Dw_sk rfl rfl (fun _ _ _ h=>h) rfl ?_
 refine Dw_p (Bo true) (fun _ _ _ hi ht=>op_pick_t (v:=Bo true) (ht 59 rfl) rfl<|Gz hi)<|Dw_p (Bo true) (fun _ _ _ hi ht=>op_move (v:=Bo true) (ht 66 rfl)<|Gz hi) ?_
 iterate 3 refine Dw_sk rfl rfl (fun _ _ _ h=>h) rfl ?_
 refine Dw_p (Bo true) (fun _ _ _ hi ht=>op_pick_t (v:=Bo true) (ht 67 rfl) rfl<|Gz hi)<|Dw_p (Bo true) (fun _ _ _ hi ht=>op_move (v:=Bo true) (ht 71 rfl)<|Gz hi) ?_
 iterate 6 refine Dw_sk rfl rfl (fun _ _ _ h=>h) rfl ?_
 refine Dw_p (Bo true) (fun _ _ _ hi ht=>op_pick_t (v:=Bo true) (ht 72 rfl) rfl<|Gz hi)<|Dw_p (Bo true) (fun _ _ _ hi ht=>op_move (v:=Bo true) (ht 79 rfl)<|Gz hi) ?_
 iterate 10 refine Dw_sk rfl rfl (fun _ _ _ h=>h) rfl ?_
 refine Dw_nil fun w133 g134 hl135 hi136=>?_
 obtain⟨-,hst137,-⟩:=hl135
 obtain⟨hs139,p138⟩:=Step.nx hi136
 rintro _ rfl _ rfl _ rfl _ rfl _ rfl _ rfl _ rfl _ rfl _ rfl _ rfl _ rfl _ rfl _ rfl _ rfl _ rfl _ rfl _ rfl _ rfl _ rfl _ rfl _ rfl _ rfl _ rfl _ rfl _ rfl _ rfl _ rfl _ rfl _ rfl _ rfl _ rfl _ rfl _ rfl _ rfl _ rfl
 have p140:=hs82.to hs139 (hst137.trans p138)
 iterate 3 refine Rg_opx rfl (asB_ne rfl rfl) rfl ?_
 refine Pkt (Bo true) rfl rfl<|Rg_nil ?_
 replace ch97:=ch97.trans p140
 exact hK87 _ _ ⟨true,_,rfl,Frm.of ⟨rfl,trivial⟩,ch97,hs139,hm⟩
 replace hm:=bif_f hm hg110
 refine Dw_g (Pt b75 0) rfl rfl (fun _ _ _ h=>h) (fun _ _ _ hi ht=>op_fA 0 ty45 rfl ty3 (ht 8 rfl) rfl<|Gz hi)<|Dw_g (Iv ((r_.places.getD i_2.toNat default).leaf)) rfl rfl (fun _ _ _ h=>h) (fun _ _ _ hi ht=>op_ld 0 ty3 (Step.nx hi).1 (ht 60 rfl) rfl rfl<|Gz hi)<|Dw_g (Pt b1 1) rfl rfl (fun _ _ _ h=>h) (fun _ _ _ hi ht=>op_fA 1 ty26 rfl ty23 (ht 2 rfl) rfl<|Gz hi)<|Dw_g (Sl Ab p.capacity Cb) rfl rfl (fun _ _ _ h=>h) (fun _ _ _ hi ht=>op_ld 2 ty23 (Step.nx hi).1 (ht 62 rfl) rfl rfl<|Gz hi)<|Dw_g (Iv (p.capacity.length:Int)) rfl rfl (fun _ _ _ h=>h) (fun _ _ _ hi ht=>op_len Try.underlying23 (ht 63 rfl)<|Gz hi)<|Dw_g (Bo (decide ((p.capacity.length:Int)≤((r_.places.getD i_2.toNat default).leaf)))) rfl rfl (fun _ _ _ h=>h) (fun _ _ _ hi ht=>op_geq (ht 61 rfl) (ht 64 rfl)<|Gz hi)<|Dw_p (Bo (decide ((p.capacity.length:Int)≤((r_.places.getD i_2.toNat default).leaf)))) (fun _ _ _ hi ht=>op_pick_f (v:=Bo (decide ((p.capacity.length:Int)≤((r_.places.getD i_2.toNat default).leaf)))) (ht 59 rfl) (ht 65 rfl)<|Gz hi)<|Dw_opB (decide ((p.capacity.length:Int)≤((r_.places.getD i_2.toNat default).leaf))) (fun _ _ _ _ hi ht=>StepOp_plain<|op_move (v:=Bo (decide ((p.capacity.length:Int)≤((r_.places.getD i_2.toNat default).leaf)))) (ht 66 rfl)<|Gz hi) (fun hg165=>?_) (fun hg165=>?_)
 replace hm:=bif_t hm hg165
 iterate 3 refine Dw_sk rfl rfl (fun _ _ _ h=>h) rfl ?_
 refine Dw_p (Bo true) (fun _ _ _ hi ht=>op_pick_t (v:=Bo true) (ht 67 rfl) rfl<|Gz hi)<|Dw_p (Bo true) (fun _ _ _ hi ht=>op_move (v:=Bo true) (ht 71 rfl)<|Gz hi) ?_
 iterate 6 refine Dw_sk rfl rfl (fun _ _ _ h=>h) rfl ?_
 refine Dw_p (Bo true) (fun _ _ _ hi ht=>op_pick_t (v:=Bo true) (ht 72 rfl) rfl<|Gz hi)<|Dw_p (Bo true) (fun _ _ _ hi ht=>op_move (v:=Bo true) (ht 79 rfl)<|Gz hi) ?_
 iterate 10 refine Dw_sk rfl rfl (fun _ _ _ h=>h) rfl ?_
 refine Dw_nil fun w182 g183 hl184 hi185=>?_
 obtain⟨-,hst186,-⟩:=hl184
 obtain⟨hs188,p187⟩:=Step.nx hi185
 rintro _ rfl _ rfl _ rfl _ rfl _ rfl _ rfl _ rfl _ rfl _ rfl _ rfl _ rfl _ rfl _ rfl _ rfl _ rfl _ rfl _ rfl _ rfl _ rfl _ rfl _ rfl _ rfl _ rfl _ rfl _ rfl _ rfl _ rfl _ rfl _ rfl _ rfl _ rfl _ rfl _ rfl _ rfl _ rfl
 have p189:=hs82.to hs188 (hst186.trans p187)
 iterate 3 refine Rg_opx rfl (asB_ne rfl rfl) rfl ?_
 refine Pkt (Bo true) rfl rfl<|Rg_nil ?_
 replace ch97:=ch97.trans p189
 exact hK87 _ _ ⟨true,_,rfl,Frm.of ⟨rfl,trivial⟩,ch97,hs188,hm⟩
 replace hm:=bif_f hm hg165
 refine Dw_g (Pt b75 1) rfl rfl (fun _ _ _ h=>h) (fun _ _ _ hi ht=>op_fA 1 ty45 rfl ty3 (ht 8 rfl) rfl<|Gz hi)<|Dw_g (Iv ((r_.places.getD i_2.toNat default).cell)) rfl rfl (fun _ _ _ h=>h) (fun _ _ _ hi ht=>op_ld 0 ty3 (Step.nx hi).1 (ht 68 rfl) rfl rfl<|Gz hi)<|Dw_g (Bo (decide (((r_.places.getD i_2.toNat default).cell)<0))) rfl rfl (fun _ _ _ h=>h) (fun _ _ _ hi ht=>op_lss (ht 69 rfl) rfl<|Gz hi)<|Dw_p (Bo (decide (((r_.places.getD i_2.toNat default).cell)<0))) (fun _ _ _ hi ht=>op_pick_f (v:=Bo (decide (((r_.places.getD i_2.toNat default).cell)<0))) (ht 67 rfl) (ht 70 rfl)<|Gz hi)<|Dw_opB (decide (((r_.places.getD i_2.toNat default).cell)<0)) (fun _ _ _ _ hi ht=>StepOp_plain<|op_move (v:=Bo (decide (((r_.places.getD i_2.toNat default).cell)<0))) (ht 71 rfl)<|Gz hi) (fun hg205=>?_) (fun hg205=>?_)
 replace hm:=bif_t hm hg205
 iterate 6 refine Dw_sk rfl rfl (fun _ _ _ h=>h) rfl ?_
 refine Dw_p (Bo true) (fun _ _ _ hi ht=>op_pick_t (v:=Bo true) (ht 72 rfl) rfl<|Gz hi)<|Dw_p (Bo true) (fun _ _ _ hi ht=>op_move (v:=Bo true) (ht 79 rfl)<|Gz hi) ?_
 iterate 10 refine Dw_sk rfl rfl (fun _ _ _ h=>h) rfl ?_
 refine Dw_nil fun w216 g217 hl218 hi219=>?_
 obtain⟨-,hst220,-⟩:=hl218
 obtain⟨hs222,p221⟩:=Step.nx hi219
 rintro _ rfl _ rfl _ rfl _ rfl _ rfl _ rfl _ rfl _ rfl _ rfl _ rfl _ rfl _ rfl _ rfl _ rfl _ rfl _ rfl _ rfl _ rfl _ rfl _ rfl _ rfl _ rfl _ rfl _ rfl _ rfl _ rfl _ rfl _ rfl _ rfl _ rfl _ rfl _ rfl _ rfl _ rfl _ rfl
 have p223:=hs82.to hs222 (hst220.trans p221)
 iterate 3 refine Rg_opx rfl (asB_ne rfl rfl) rfl ?_
 refine Pkt (Bo true) rfl rfl<|Rg_nil ?_
 replace ch97:=ch97.trans p223
 exact hK87 _ _ ⟨true,_,rfl,Frm.of ⟨rfl,trivial⟩,ch97,hs222,hm⟩
 replace hm:=bif_f hm hg205
 refine Dw_g (Pt b75 1) rfl rfl (fun _ _ _ h=>h) (fun _ _ _ hi ht=>op_fA 1 ty45 rfl ty3 (ht 8 rfl) rfl<|Gz hi)<|Dw_g (Iv ((r_.places.getD i_2.toNat default).cell)) rfl rfl (fun _ _ _ h=>h) (fun _ _ _ hi ht=>op_ld 0 ty3 (Step.nx hi).1 (ht 73 rfl) rfl rfl<|Gz hi)<|Dw_g (Pt b1 0) rfl rfl (fun _ _ _ h=>h) (fun _ _ _ hi ht=>op_fA 0 ty26 rfl ty22 (ht 2 rfl) rfl<|Gz hi)<|Dw_g (Sl Aa p.cells Ca) rfl rfl (fun _ _ _ h=>h) (fun _ _ _ hi ht=>op_ld 2 ty22 (Step.nx hi).1 (ht 75 rfl) rfl rfl<|Gz hi)<|Dw_g (Iv (p.cells.length:Int)) rfl rfl (fun _ _ _ h=>h) (fun _ _ _ hi ht=>op_len Try.underlying22 (ht 76 rfl)<|Gz hi)<|Dw_g (Bo (decide ((p.cells.length:Int)≤((r_.places.getD i_2.toNat default).cell)))) rfl rfl (fun _ _ _ h=>h) (fun _ _ _ hi ht=>op_geq (ht 74 rfl) (ht 77 rfl)<|Gz hi)<|Dw_p (Bo (decide ((p.cells.length:Int)≤((r_.places.getD i_2.toNat default).cell)))) (fun _ _ _ hi ht=>op_pick_f (v:=Bo (decide ((p.cells.length:Int)≤((r_.places.getD i_2.toNat default).cell)))) (ht 72 rfl) (ht 78 rfl)<|Gz hi)<|Dw_opB (decide ((p.cells.length:Int)≤((r_.places.getD i_2.toNat default).cell))) (fun _ _ _ _ hi ht=>StepOp_plain<|op_move (v:=Bo (decide ((p.cells.length:Int)≤((r_.places.getD i_2.toNat default).cell)))) (ht 79 rfl)<|Gz hi) (fun hg248=>?_) (fun hg248=>?_)
 replace hm:=bif_t hm hg248
 iterate 10 refine Dw_sk rfl rfl (fun _ _ _ h=>h) rfl ?_
 refine Dw_nil fun w253 g254 hl255 hi256=>?_
 obtain⟨-,hst257,-⟩:=hl255
 obtain⟨hs259,p258⟩:=Step.nx hi256
 rintro _ rfl _ rfl _ rfl _ rfl _ rfl _ rfl _ rfl _ rfl _ rfl _ rfl _ rfl _ rfl _ rfl _ rfl _ rfl _ rfl _ rfl _ rfl _ rfl _ rfl _ rfl _ rfl _ rfl _ rfl _ rfl _ rfl _ rfl _ rfl _ rfl _ rfl _ rfl _ rfl _ rfl _ rfl _ rfl
 have p260:=hs82.to hs259 (hst257.trans p258)
 iterate 3 refine Rg_opx rfl (asB_ne rfl rfl) rfl ?_
 refine Pkt (Bo true) rfl rfl<|Rg_nil ?_
 replace ch97:=ch97.trans p260
 exact hK87 _ _ ⟨true,_,rfl,Frm.of ⟨rfl,trivial⟩,ch97,hs259,hm⟩
 replace hm:=bif_f hm hg248
 refine Dw_g (Iv i_2) rfl rfl (fun _ _ _ h=>h) (fun _ _ _ hi ht=>op_move (v:=Iv i_2) (ht 7 rfl)<|Gz hi)<|Dw_g (Bo (decide (0<i_2))) rfl rfl (fun _ _ _ h=>h) (fun _ _ _ hi ht=>op_gtr (ht 81 rfl) rfl<|Gz hi)<|Dw_opB (decide (0<i_2)) (fun _ _ _ _ hi ht=>StepOp_g rfl (ht 80 rfl)<|op_move (v:=Bo (decide (0<i_2))) (ht 82 rfl)<|Gz hi) (fun hg270=>?_) (fun hg270=>?_)
 replace hm:=bif_t hm hg270
 refine Dw_g (Pt b6 1) rfl rfl (fun _ _ _ h=>h) (fun _ _ _ hi ht=>op_fA 1 ty34 rfl ty32 (ht 3 rfl) rfl<|Gz hi)<|Dw_g (Sl Ae r_.places Ce) rfl rfl (fun _ _ _ h=>h) (fun _ _ _ hi ht=>op_ld 1 ty32 (Step.nx hi).1 (ht 84 rfl) rfl rfl<|Gz hi)<|Dw_g (Iv i_2) rfl rfl (fun _ _ _ h=>h) (fun _ _ _ hi ht=>op_move (v:=Iv i_2) (ht 7 rfl)<|Gz hi)<|Dw_g (Iv (IntKind.wrap .i64 (i_2 - 1))) rfl rfl (fun _ _ _ h=>h) (fun _ _ _ hi ht=>op_subw (ht 86 rfl) rfl<|Gz hi) ?_
 obtain⟨hc286,hm⟩:=ck_some hm
 have p289:=(p77.trans p81)
 replace Fe:=Fe.step p289
 refine Dw_op (VP _ _ rXPlace (r_.places.getD (IntKind.wrap .i64 (i_2 - 1)).toNat default)) (VP.stab _ _) (fun ρ283 w284 g hle hi ht=>?_) ?_
 obtain⟨-,hst,-⟩:=hle
 replace Fe:=Fe.step hst
 refine StepOp_g rfl (ht 83 rfl)<|op_indexAddr (q:=rXPlace) ty32 ty45 (ht 85 rfl) (ht 87 rfl) Fe rfl hc286.1 hc286.2 ?_
 intro p287 f288
 exact Goes.same hi ⟨_,rfl,f288⟩
 refine Dw_op (VD _ _ (vA rXPlace) (r_.places.getD (IntKind.wrap .i64 (i_2 - 1)).toNat default)) (VD.stab _ _) (fun ρ290 w291 g hle hi ht=>?_) ?_
 obtain⟨p293,q294,f295⟩:=ht 88 rfl
 refine StepOp_g rfl (ht 83 rfl)<|op_loadPA ty45 q294 f295 rfl ?_
 intro vs296 h297
 obtain⟨_,_,rfl,⟨rfl,Rg⟩,⟨rfl,Rh⟩⟩:=h297
 exact Goes.same hi (show Vr.vd (vA rXPlace) _ _ _ _ from(mkA (mkVia (mk_pair (mk_int Rg) (mk_int Rh)))))
 refine Dw_g (Value.agg [Iv ((r_.places.getD i_2.toNat default).leaf),Iv ((r_.places.getD i_2.toNat default).cell)].toArray) rfl rfl (fun _ _ _ h=>h) (fun _ _ _ hi ht=>op_ldA 0 ty45 (Step.nx hi).1 (ht 8 rfl) rfl rfl<|Gz hi)<|Dw_nil fun w306 g307 hl308 hi309=>?_
 obtain⟨-,hst310,-⟩:=hl308
 obtain⟨hs312,p311⟩:=Step.nx hi309
 rintro _ rfl v313 h314
 replace h314:Vr.vd (vA rXPlace) _ _ _ _:=h314
 obtain⟨_,rfl,⟨_,_,rfl,⟨rfl,Ri⟩,⟨rfl,Rj⟩⟩⟩:=h314
 rintro _ ⟨p316,rfl,f317⟩ _ rfl _ rfl _ rfl _ rfl _ rfl _ rfl _ rfl _ rfl _ rfl _ rfl _ rfl _ rfl _ rfl _ rfl _ rfl _ rfl _ rfl _ rfl _ rfl _ rfl _ rfl _ rfl _ rfl _ rfl _ rfl _ rfl _ rfl _ rfl _ rfl _ rfl _ rfl _ rfl
 have p318:=hs82.to hs312 (hst310.trans p311)
 replace f317:=f317.step p311
 obtain⟨before_1,hv319,hm⟩:=bd hm
 refine Rog rfl rfl<|op_callE hs312 Try.call63 (c63_overflightref32_Before (a:=r_.places.getD (IntKind.wrap .i64 (i_2 - 1)).toNat default) (b:=r_.places.getD i_2.toNat default) hs312.ltw Ri Rj Re Rf hv319) rfl ?_
 rintro v320 w321 p325 hs324 h323
 clear hs312
 obtain rfl:=h323
 refine Rog rfl rfl<|op_not rfl<|Rog rfl rfl<|op_pick_t (v:=Bo (!before_1)) rfl rfl<|Pkf (Bo (!before_1)) rfl rfl<|Rg_nil ?_
 have p327:=(p318.trans p325)
 replace ch97:=ch97.trans p327
 exact hK87 _ _ ⟨!before_1,_,rfl,Frm.of ⟨rfl,trivial⟩,ch97,hs324,hm⟩
 replace hm:=bif_f hm hg270
 iterate 7 refine Dw_sk rfl rfl (fun _ _ _ h=>h) rfl ?_
 refine Dw_nil fun w332 g333 hl334 hi335=>?_
 obtain⟨-,hst336,-⟩:=hl334
 obtain⟨hs338,p337⟩:=Step.nx hi335
 rintro _ rfl _ rfl _ rfl _ rfl _ rfl _ rfl _ rfl _ rfl _ rfl _ rfl _ rfl _ rfl _ rfl _ rfl _ rfl _ rfl _ rfl _ rfl _ rfl _ rfl _ rfl _ rfl _ rfl _ rfl _ rfl _ rfl _ rfl _ rfl _ rfl _ rfl _ rfl _ rfl _ rfl _ rfl _ rfl
 have p339:=hs82.to hs338 (hst336.trans p337)
 refine Rg_opx rfl (asB_ne rfl rfl) rfl<|Rg_opx rfl (asB_ne rfl rfl) rfl<|Rog rfl rfl<|op_pick_f (v:=Bo false) rfl rfl<|Pkf (Bo false) rfl rfl<|Rg_nil ?_
 replace ch97:=ch97.trans p339
 exact hK87 _ _ ⟨false,_,rfl,Frm.of ⟨rfl,trivial⟩,ch97,hs338,hm⟩
 refine Wp_exit<|Wp_seq ?_
 obtain⟨hs340,p341⟩:=hs61.sub (bs':=[]) (.cons _ (.cons _ List.Sublist.slnil))
 clear Fa Fb Fc Fd Fe
 clear hs61
 refine Wp_region<|Asg (Bo true) rfl<|Rg_nil<|Wp_ret<|⟨_,Clo,[Bo true],⟨rfl,trivial⟩,hs340.ext,?_⟩
 exact Vr.eq (a:=vB) (x:=true) rfl (oi hm)

def m24_overflightref32_Check (p:XProblem) (r_:XReason):Option Int:=
 (m31_overflightref27_Check p).bind fun check_1=>
 bif (decide (check_1≠0)) then
  some check_1
 else
  (m56_overflightref32_Valid p r_).bind fun valid_1=>
  bif (!valid_1) then
   some 320
  else
   some 0

theorem c24_overflightref32_Check {w:World} {O:List Nat} {p:XProblem} {r_:XReason} {Aa:Option Addr} {Ca:Nat} {Ab:Option Addr} {Cb:Nat} {Ac:Option Addr} {Cc:Nat} {Ad:Option Addr} {Cd:Nat} {Ae:Option Addr} {Ce:Nat} (hO:∀k∈O,k<w.heap.size) (Fa:SlR rXCell w O Aa Ca p.cells) (Fb:SlR (rSl (rInt .i64)) w O Ab Cb p.capacity) (Fc:SlR rXVariable w O Ac Cc p.variables) (Fd:SlR (rInt .i64) w O Ad Cd r_.variables) (Fe:SlR rXPlace w O Ae Ce r_.places) {x:Int} (hm:m24_overflightref32_Check p r_=some x):
 Ok Try.prog 24 [Value.agg [Sl Aa p.cells Ca,Sl Ab p.capacity Cb,Sl Ac p.variables Cc].toArray,Value.agg [Sl Ad r_.variables Cd,Sl Ae r_.places Ce].toArray] w O (vI .i64) x:=by
 unfold m24_overflightref32_Check at hm
 refine Fn_of_Wp (n:=15) (xs:=[.tmp 4]) Try.func24 rfl Try.ntmps24 Try.results24 rfl ?_
 have hs:=St.start hO
 refine Wp_seq<|Wp_region<|Rop<|op_box (cs:=[Sl Aa p.cells Ca,Sl Ab p.capacity Cb,Sl Ac p.variables Cc]) hs rfl rfl ?_
 intro b1 w2 _ p3 hs4
 refine Rop<|op_box (cs:=[Sl Ad r_.variables Cd,Sl Ae r_.places Ce]) hs4 rfl rfl ?_
 intro b6 w7 _ p8 hs9
 clear hs4
 refine Asg (Iv 0) rfl<|Rg_nil<|Wp_seq<|Wp_region<|Rop<|op_ldA 1 ty26 hs9 rfl rfl rfl ?_
 obtain⟨check_1,hv11,hm⟩:=bd hm
 have p17:=(p3.trans p8)
 replace Fb:=Fb.step p17;replace Fa:=Fa.step p17;replace Fc:=Fc.step p17
 refine Rop<|op_callE hs9 Try.call31 (c31_overflightref27_Check (p:=p) hs9.ltw Fa Fb Fc hv11) rfl ?_
 rintro v12 w13 p18 hs16 h15
 clear hs9
 obtain⟨rfl,Ra⟩:=h15
 refine Asg (Iv check_1) rfl<|Rg_nil<|Wp_seq<|Wp_seq<|Wp_region<|Mve (Iv check_1) rfl<|Rop<|op_neq rfl rfl<|Rg_nil<|Wp_condM hm rfl (fun hc20 hm=>?_) (fun hc20 hm=>?_)
 refine Wp_seq ?_
 obtain⟨hs21,p22⟩:=hs16.sub (bs':=[]) (.cons _ (.cons _ List.Sublist.slnil))
 clear Fa Fb Fc Fd Fe
 clear hs16
 refine Wp_region<|Mve (Iv check_1) rfl<|Asg (Iv check_1) rfl<|Rg_nil<|Wp_ret<|⟨_,Clo,[Iv check_1],⟨rfl,trivial⟩,hs21.ext,?_⟩
 exact Vr.eq (a:=(vI .i64)) (x:=check_1) ⟨rfl,Ra⟩ (oi hm)
 refine Wp_skip<|Wp_seq<|Wp_seq<|Wp_region<|Rop<|op_ldA 1 ty26 hs16 rfl rfl rfl<|Rop<|op_ldA 0 ty34 hs16 rfl rfl rfl ?_
 obtain⟨valid_1,hv23,hm⟩:=bd hm
 replace Fb:=Fb.step p18;replace Fa:=Fa.step p18;replace Fc:=Fc.step p18
 have p29:=(p17.trans p18)
 replace Fe:=Fe.step p29;replace Fd:=Fd.step p29
 refine Rop<|op_callE hs16 Try.call56 (c56_overflightref32_Valid (p:=p) (r_:=r_) hs16.ltw Fa Fb Fc Fd Fe hv23) rfl ?_
 rintro v24 w25 p30 hs28 h27
 clear hs16
 obtain rfl:=h27
 refine Rop<|op_not rfl<|Rg_nil<|Wp_condM hm rfl (fun hc32 hm=>?_) (fun hc32 hm=>?_)
 refine Wp_seq ?_
 obtain⟨hs33,p34⟩:=hs28.sub (bs':=[]) (.cons _ (.cons _ List.Sublist.slnil))
 clear Fa Fb Fc Fd Fe
 clear hs28
 refine Wp_region<|Asg (Iv 320) rfl<|Rg_nil<|Wp_ret<|⟨_,Clo,[Iv 320],⟨rfl,trivial⟩,hs33.ext,?_⟩
 exact Vr.eq (a:=(vI .i64)) (x:=320) ⟨rfl,(show InK .i64 320 from by decide)⟩ (oi hm)
 refine Wp_skip<|Wp_seq ?_
 obtain⟨hs35,p36⟩:=hs28.sub (bs':=[]) (.cons _ (.cons _ List.Sublist.slnil))
 clear Fa Fb Fc Fd Fe
 clear hs28
 refine Wp_region<|Asg (Iv 0) rfl<|Rg_nil<|Wp_ret<|⟨_,Clo,[Iv 0],⟨rfl,trivial⟩,hs35.ext,?_⟩
 exact Vr.eq (a:=(vI .i64)) (x:=0) ⟨rfl,(show InK .i64 0 from by decide)⟩ (oi hm)

abbrev q21_3:List Nat:=[13,78,79,80,81,82,83,84,85,86,87,88,89,90,91,92,93,94,95,96,97,98]

abbrev q21_2:List Nat:=[11,12,47,48,49,50,51,52,53,54,55,56,57,58,59,60,61,62,63,64,65,66,67,68,69,70,71,72,73,74,75,76,77]

abbrev q21_0:List Nat:=[9,10,31,32,33,34,35,36,37,38,39,40]

abbrev q21_1:List Nat:=[8,9,10,24,25,26,27,28,29,30,31,32,33,34,35,36,37,38,39,40,41,42,43,44,45,46]

def m21_overflightref32_Part_B1 (p:XProblem) (leaf_1:Int) (rows_1:List (List Int)) (sf43:Int→(List (List Int))→Option (XProblem × Int)) (sf62:(List Int)→Int→Option (XProblem × Int)) (l_1:List Int) (c_1:Int):Option (XProblem × Int):=
 bif (decide (c_1<(p.cells.length:Int))) then
  ck ((l_1.length+[4096].length)*8≤140737488355328)<|
  sf62 (l_1++[4096]) (IntKind.wrap .i64 (c_1+1))
 else
  ck ((rows_1.length+1)*24≤140737488355328)<|
  sf43 (IntKind.wrap .i64 (leaf_1+1)) (rows_1++[l_1])

def m21_overflightref32_Part_B3 (p:XProblem) (r_:XReason) (rows_2:List (List Int)) (sf286:Int→(List XVariable)→Option (XProblem × Int)) (i_2:Int) (v_1:List XVariable):Option (XProblem × Int):=
 bif (decide (i_2<(r_.variables.length:Int))) then
  ck ((0:Int)≤i_2∧i_2<(r_.variables.length:Int))<|
  ck ((0:Int)≤(r_.variables.getD i_2.toNat default)∧(r_.variables.getD i_2.toNat default)<(p.variables.length:Int))<|
  ck ((v_1.length+[p.variables.getD (r_.variables.getD i_2.toNat default).toNat default].length)*64≤140737488355328)<|
  sf286 (IntKind.wrap .i64 (i_2+1)) (v_1++[p.variables.getD (r_.variables.getD i_2.toNat default).toNat default])
 else
  some ((⟨p.cells,rows_2,v_1⟩:XProblem),0)

def m21_overflightref32_Part_B2 (p:XProblem) (r_:XReason) (sf133:Int→(List (List Int))→Option (XProblem × Int)) (i_1:Int) (rows_2:List (List Int)):Option (XProblem × Int):=
 bif (decide (i_1<(r_.places.length:Int))) then
  ck ((0:Int)≤i_1∧i_1<(r_.places.length:Int))<|
  ck ((0:Int)≤((r_.places.getD i_1.toNat default).leaf)∧((r_.places.getD i_1.toNat default).leaf)<(rows_2.length:Int))<|
  ck ((0:Int)≤((r_.places.getD i_1.toNat default).leaf)∧((r_.places.getD i_1.toNat default).leaf)<(p.capacity.length:Int))<|
  ck ((0:Int)≤((r_.places.getD i_1.toNat default).cell)∧((r_.places.getD i_1.toNat default).cell)<((p.capacity.getD ((r_.places.getD i_1.toNat default).leaf).toNat default).length:Int))<|
  ck ((0:Int)≤((r_.places.getD i_1.toNat default).cell)∧((r_.places.getD i_1.toNat default).cell)<((rows_2.getD ((r_.places.getD i_1.toNat default).leaf).toNat default).length:Int))<|
  sf133 (IntKind.wrap .i64 (i_1+1)) (rows_2.set ((r_.places.getD i_1.toNat default).leaf).toNat ((rows_2.getD ((r_.places.getD i_1.toNat default).leaf).toNat default).set ((r_.places.getD i_1.toNat default).cell).toNat ((p.capacity.getD ((r_.places.getD i_1.toNat default).leaf).toNat default).getD ((r_.places.getD i_1.toNat default).cell).toNat default)))
 else
  loop2 (m21_overflightref32_Part_B3 p r_ rows_2) (((r_.variables.length:Int) - 0).toNat+1) 0 ([]:List XVariable)

def m21_overflightref32_Part_B0 (p:XProblem) (r_:XReason) (sf43:Int→(List (List Int))→Option (XProblem × Int)) (leaf_1:Int) (rows_1:List (List Int)):Option (XProblem × Int):=
 bif (decide (leaf_1<(p.capacity.length:Int))) then
  loop2 (m21_overflightref32_Part_B1 p leaf_1 rows_1 sf43) (((p.cells.length:Int) - 0).toNat+1) ([]:List Int) 0
 else
  loop2 (m21_overflightref32_Part_B2 p r_) (((r_.places.length:Int) - 0).toNat+1) 0 rows_1

def m21_overflightref32_Part (p:XProblem) (r_:XReason):Option (XProblem × Int):=
 (m24_overflightref32_Check p r_).bind fun check_1=>
 bif (decide (check_1≠0)) then
  some ((⟨([]:List XCell),([]:List (List Int)),([]:List XVariable)⟩:XProblem),check_1)
 else
  loop2 (m21_overflightref32_Part_B0 p r_) (((p.capacity.length:Int) - 0).toNat+1) 0 ([]:List (List Int))

theorem c21_overflightref32_Part {w:World} {O:List Nat} {p:XProblem} {r_:XReason} {Aa:Option Addr} {Ca:Nat} {Ab:Option Addr} {Cb:Nat} {Ac:Option Addr} {Cc:Nat} {Ad:Option Addr} {Cd:Nat} {Ae:Option Addr} {Ce:Nat} (hO:∀k∈O,k<w.heap.size) (Fa:SlR rXCell w O Aa Ca p.cells) (Fb:SlR (rSl (rInt .i64)) w O Ab Cb p.capacity) (Fc:SlR rXVariable w O Ac Cc p.variables) (Fd:SlR (rInt .i64) w O Ad Cd r_.variables) (Fe:SlR rXPlace w O Ae Ce r_.places) {x:XProblem × Int} (hm:m21_overflightref32_Part p r_=some x):
 Ok Try.prog 21 [Value.agg [Sl Aa p.cells Ca,Sl Ab p.capacity Cb,Sl Ac p.variables Cc].toArray,Value.agg [Sl Ad r_.variables Cd,Sl Ae r_.places Ce].toArray] w O (vT2 (vA rXProblem) (vI .i64)) x:=by
 unfold m21_overflightref32_Part at hm
 refine Fn_of_Wp (n:=100) (xs:=[.cell 4 26,.tmp 5]) Try.func21 rfl Try.ntmps21 Try.results21 rfl ?_
 have hs:=St.start hO
 refine Wp_seq<|Wp_region<|Rop<|op_box (cs:=[Sl Aa p.cells Ca,Sl Ab p.capacity Cb,Sl Ac p.variables Cc]) hs rfl rfl ?_
 intro b1 w2 _ p3 hs4
 refine Rop<|op_box (cs:=[Sl Ad r_.variables Cd,Sl Ae r_.places Ce]) hs4 rfl rfl ?_
 intro b6 w7 _ p8 hs9
 clear hs4
 refine Rop<|op_alloc ty26 hs9 ?_
 intro b11 w12 _ p13 hs14
 clear hs9
 refine Asg (Iv 0) rfl<|Rg_nil<|Wp_seq<|Wp_region<|Rop<|op_ldA 2 ty26 hs14 rfl rfl rfl<|Rop<|op_ldA 1 ty34 hs14 rfl rfl rfl ?_
 obtain⟨check_1,hv16,hm⟩:=bd hm
 have p22:=(p3.trans (p8.trans p13))
 replace Fb:=Fb.step p22;replace Fa:=Fa.step p22;replace Fc:=Fc.step p22;replace Fe:=Fe.step p22;replace Fd:=Fd.step p22
 refine Rop<|op_callE hs14 Try.call24 (c24_overflightref32_Check (p:=p) (r_:=r_) hs14.ltw Fa Fb Fc Fd Fe hv16) rfl ?_
 rintro v17 w18 p23 hs21 h20
 clear hs14
 obtain⟨rfl,Ra⟩:=h20
 refine Asg (Iv check_1) rfl<|Rg_nil<|Wp_seq<|Wp_seq<|Wp_region<|Mve (Iv check_1) rfl<|Rop<|op_neq rfl rfl<|Rg_nil<|Wp_condM hm rfl (fun hc25 hm=>?_) (fun hc25 hm=>?_)
 refine Wp_seq ?_
 obtain⟨hs26,p27⟩:=hs21.sub (bs':=(some b11,Oc [Value.slice none 0 0,Value.slice none 0 0,Value.slice none 0 0] 26)::([]:Ents)) (.cons_cons _ (.cons _ (.cons _ (List.Sublist.refl _))))
 clear Fa Fb Fc Fd Fe
 clear hs21
 refine Wp_region<|Rop<|op_build (vs:=[Value.slice none 0 0,Value.slice none 0 0,Value.slice none 0 0]) (parts:=[]) ty26 pl26 rfl<|Mve (Iv check_1) rfl<|Rg_op_<|op_stA .z ty26 hs26 rfl rfl rfl rfl rfl ?_
 intro w28 p29 hs30
 clear hs26
 refine Asg (Iv check_1) rfl<|Rg_nil<|Wp_ret<|⟨_,Clo,[Value.agg [Value.slice none 0 0,Value.slice none 0 0,Value.slice none 0 0].toArray,Iv check_1],⟨resA (cs:=[Value.slice none 0 0,Value.slice none 0 0,Value.slice none 0 0]) (vs:=[Value.slice none 0 0,Value.slice none 0 0,Value.slice none 0 0]) ty26 (i:=0) hs30 rfl rfl rfl rfl,rfl,trivial⟩,hs30.ext,?_⟩
 exact Vr.eq (a:=vT2 (vA rXProblem) (vI .i64)) (x:=((⟨([]:List XCell),([]:List (List Int)),([]:List XVariable)⟩:XProblem),check_1)) (mkT2 (mkA (mkVia (mk_pair (mk_sl SlR.nil_) (mk_pair (mk_sl SlR.nil_) (mk_sl SlR.nil_))))) ⟨rfl,Ra⟩) (oi hm)
 refine Wp_skip<|Wp_seq<|Wp_region<|Rop<|op_fA 0 ty26 rfl ty22 rfl rfl<|Rop<|op_ld 2 ty22 hs21 rfl rfl rfl<|Rop<|op_build (vs:=[Sl Aa p.cells Ca,Value.slice none 0 0,Value.slice none 0 0]) (parts:=[(0,.tmp 22)]) ty26 pl26 rfl<|Rop<|op_alloc ty26 hs21 ?_
 intro b31 w32 _ p33 hs34
 clear hs21
 refine Rg_op_<|op_stA .z ty26 hs34 rfl rfl rfl rfl rfl ?_
 intro w36 p37 hs38
 clear hs34
 refine Rg_nil<|Wp_seq<|Wp_seq<|Wp_region<|Asg (Iv 0) rfl<|Rg_nil<|Wp_block<|Wr [] [(2,Pt b1 0),(3,Pt b6 0),(4,Pt b11 0),(7,Pt b31 0),(8,Iv 0)] fun ξ42=>?_
 have hs47:=hs38.ghost (Obj.cells #[] 31)
 refine Wp_loopM q21_1 (fun m fr w'=>∃(leaf_1:Int) (rows_1:List (List Int)) (Af:Option Addr) (Cf:Nat) (k_g41:Option Nat) (o_g41:Obj) (hds_g41:List Hd) (R_g41:Ents) (Ebs:Ents),Ebs=((k_g41,o_g41)::(some b31,Oc [Sl Aa p.cells Ca,Value.slice Af hds_g41.length Cf,Value.slice none 0 0] 26)::(some b11,Oc [Value.slice none 0 0,Value.slice none 0 0,Value.slice none 0 0] 26)::(some b6,Oc [Sl Ad r_.variables Cd,Sl Ae r_.places Ce] 34)::(some b1,Oc [Sl Aa p.cells Ca,Sl Ab p.capacity Cb,Sl Ac p.variables Cc] 26)::R_g41)∧fr [] [(8,Iv leaf_1)]∧hs47.S (ks Ebs O) w'∧St ⟨w,[],[]⟩ O w' Ebs∧InK .i64 leaf_1∧Gs rHd 31 w' (ks Ebs O) Af Cf hds_g41 k_g41 o_g41∧Rows (rInt .i64) 3 w' (ks Ebs O) hds_g41 R_g41 rows_1∧hds_g41.length=rows_1.length∧loop2 (m21_overflightref32_Part_B0 p r_) m leaf_1 rows_1=some x) (((p.capacity.length:Int) - 0).toNat+1) ⟨0,([]:List (List Int)),none,0,none,Obj.cells #[] 31,([]:List Hd),([]:Ents),_,rfl,Frm.of ⟨rfl,trivial⟩,Step.refl _ _,hs47,(show InK .i64 0 from by decide),Gs.nil_,Rows.nil_,rfl,hm⟩ ?_ ?_
 rintro _ _ ⟨_,_,_,_,_,_,_,_,_,_,_,_,_,_,_,_,_,hm⟩;exact loop2_z hm
 rintro m46 K45 hK45 ρ53 w49 ⟨leaf_1,rows_1,Af,Cf,k_g41,o_g41,hds_g41,R_g41,_,rfl,hfr52,hst51,hs50,Rb,Ff,fR_g41,lh_g41,hm⟩
 obtain⟨sf43,hsf44,hm⟩:=loop2_s hm;unfold m21_overflightref32_Part_B0 at hm
 rw [hfr52.eq];clear hfr52
 have ch54:=hst51
 refine Wp_seq<|Wp_seq<|Wp_region<|Mve (Iv leaf_1) rfl<|Rop<|op_fA 1 ty26 rfl ty23 rfl rfl<|Rop<|op_ld 4 ty23 hs50 rfl rfl rfl<|Rop<|op_len Try.underlying23 rfl ?_
 have p56:=(p23.trans (p33.trans (p37.trans hst51)))
 replace Fb:=Fb.step p56
 have rl55:=inK_len Fb
 refine Rop<|op_lss rfl rfl<|Rg_nil<|Wp_condM hm rfl (fun hc57 hm=>?_) (fun hc57 hm=>?_)
 refine Wp_skip<|Wp_seq<|Wp_block<|Wp_seq<|Wp_region<|Asg (Value.slice none 0 0) rfl<|Rg_nil<|Wp_seq<|Wp_seq<|Wp_region<|Asg (Iv 0) rfl<|Rg_nil<|Wp_block<|Wr2 q21_1 [] (updL ⟨ξ42,[]⟩ [(2,Pt b1 0),(3,Pt b6 0),(4,Pt b11 0),(7,Pt b31 0),(8,Iv 0)]) [(8,Iv leaf_1),(9,Value.slice none 0 0),(10,Iv 0)] fun ξ61=>?_
 have hs66:=hs50.ghost (Obj.cells #[] 3)
 refine Wp_loopM q21_0 (fun m fr w'=>∃(l_1:List Int) (c_1:Int) (Ag:Option Addr) (Cg:Nat) (k_g59:Option Nat) (o_g59:Obj) (Ebs:Ents),Ebs=((k_g59,o_g59)::(k_g41,o_g41)::(some b31,Oc [Sl Aa p.cells Ca,Value.slice Af hds_g41.length Cf,Value.slice none 0 0] 26)::(some b11,Oc [Value.slice none 0 0,Value.slice none 0 0,Value.slice none 0 0] 26)::(some b6,Oc [Sl Ad r_.variables Cd,Sl Ae r_.places Ce] 34)::(some b1,Oc [Sl Aa p.cells Ca,Sl Ab p.capacity Cb,Sl Ac p.variables Cc] 26)::R_g41)∧fr [] [(9,Sl Ag l_1 Cg),(10,Iv c_1)]∧hs66.S (ks Ebs O) w'∧St ⟨w,[],[]⟩ O w' Ebs∧Gs (rInt .i64) 3 w' (ks Ebs O) Ag Cg l_1 k_g59 o_g59∧InK .i64 c_1∧loop2 (m21_overflightref32_Part_B1 p leaf_1 rows_1 sf43) m l_1 c_1=some x) (((p.cells.length:Int) - 0).toNat+1) ⟨([]:List Int),0,none,0,none,Obj.cells #[] 3,_,rfl,Frm.of ⟨rfl,rfl,trivial⟩,Step.refl _ _,hs66,Gs.nil_,(show InK .i64 0 from by decide),hm⟩ ?_ ?_
 rintro _ _ ⟨_,_,_,_,_,_,_,_,_,_,_,_,_,hm⟩;exact loop2_z hm
 rintro m65 K64 hK64 ρ72 w68 ⟨l_1,c_1,Ag,Cg,k_g59,o_g59,_,rfl,hfr71,hst70,hs69,Fg,Rc,hm⟩
 obtain⟨sf62,hsf63,hm⟩:=loop2_s hm;unfold m21_overflightref32_Part_B1 at hm
 rw [hfr71.eq];clear hfr71
 have ch73:=hst70
 refine Wp_seq<|Wp_seq<|Wp_region<|Mve (Iv c_1) rfl<|Rop<|op_fA 0 ty26 rfl ty22 rfl rfl<|Rop<|op_ld 5 ty22 hs69 rfl rfl rfl<|Rop<|op_len Try.underlying22 rfl ?_
 have p75:=(p56.trans hst70)
 replace Fa:=Fa.step p75
 have rl74:=inK_len Fa
 refine Rop<|op_lss rfl rfl<|Rg_nil<|Wp_condM hm rfl (fun hc76 hm=>?_) (fun hc76 hm=>?_)
 refine Wp_skip<|Wp_seq<|Wp_block<|Wp_region<|Mve (Sl Ag l_1 Cg) rfl<|Rop<|op_buildSlice (cs:=[Iv 4096]) (parts:=[(0,.const (.int .i64 4096))]) ty31 ty3 hs69 (by decide) rfl ?_
 intro b77 w78 hx81 p79 hs80
 clear hs69
 have f83:=Gs.of_cells (p:=(rInt .i64)) (e:=3) (bl:=b77) (c:=1) (w:=w78) (O:=ks ((some b77,Oc [Iv 4096] 3)::(k_g59,o_g59)::(k_g41,o_g41)::(some b31,Oc [Sl Aa p.cells Ca,Value.slice Af hds_g41.length Cf,Value.slice none 0 0] 26)::(some b11,Oc [Value.slice none 0 0,Value.slice none 0 0,Value.slice none 0 0] 26)::(some b6,Oc [Sl Ad r_.variables Cd,Sl Ae r_.places Ce] 34)::(some b1,Oc [Sl Aa p.cells Ca,Sl Ab p.capacity Cb,Sl Ac p.variables Cc] 26)::R_g41) O) (show Els (rInt .i64) _ _ [Iv 4096] [4096] from⟨_,_,rfl,mk_int (show InK .i64 4096 from by decide),Els.nil⟩) rfl (le_lit rfl)
 obtain⟨hs85,p86,f84⟩:=Gs.publish (i:=0) hs80 rfl f83
 clear hs80
 obtain⟨hc87,hm⟩:=ck_some hm
 obtain⟨ns88,he89,hr90⟩:=f84.src
 have p99:=(p79.trans p86)
 replace Fg:=Fg.step p99
 refine Rop (op_append (q:=(rInt .i64)) (i:=0) (xs:=l_1) (ys:=[4096]) (news:=ns88) ty31 ty3 rfl (by decide) hs85 rfl rfl Fg rfl hr90 he89 hc87 (by have:=hc87;simp only [maxLen];omega) ?_)
 intro a94 c95 k96 o97 w91 p92 hs93 f98
 clear hs85
 refine Asg (Sl a94 (l_1++[4096]) c95) rfl<|Rg_nil ?_
 clear f84
 refine Wp_region<|Mve (Iv c_1) rfl<|Rop<|op_addw rfl rfl<|Asg (Iv (IntKind.wrap .i64 (c_1+1))) rfl<|Rg_nil ?_
 have p100:=(p99.trans p92)
 replace ch73:=ch73.trans p100
 exact hK64 _ _ ⟨l_1++[4096],(IntKind.wrap .i64 (c_1+1)),a94,c95,k96,o97,_,rfl,Frm.of ⟨rfl,rfl,trivial⟩,ch73,hs93,f98,(inK_wrap .i64 _),jnE2 hsf63 hm⟩
 refine Wp_exit<|Wp_region<|Rop<|op_fA 1 ty26 rfl ty23 rfl rfl<|Rop<|op_ld 2 ty23 hs69 rfl rfl rfl<|Mve (Sl Ag l_1 Cg) rfl<|Rop<|op_buildSlice (cs:=[Sl Ag l_1 Cg]) (parts:=[(0,.tmp 43)]) ty23 ty31 hs69 (by decide) rfl ?_
 intro b101 w102 hx105 p103 hs104
 clear hs69
 obtain⟨hc107,hm⟩:=ck_some hm
 have hc108:(hds_g41.length+1)*24≤140737488355328:=by have h1:=hc107;have h2:hds_g41.length=rows_1.length:=lh_g41;omega
 have p117:=(hst70.trans p103)
 replace Ff:=Ff.step p117
 refine Rop (op_append (q:=rHd) (i:=2) (xs:=hds_g41) (ys:=[((Ag,l_1.length,Cg):Hd)]) (news:=[Sl Ag l_1 Cg]) ty23 ty31 rfl (by decide) hs104 rfl rfl Ff rfl (Src.owned' (len:=1) (hs104.get (i:=0) rfl) rfl) (show Els rHd _ _ [Sl Ag l_1 Cg] [((Ag,l_1.length,Cg):Hd)] from⟨_,_,rfl,rfl,Els.nil⟩) hc108 (show hds_g41.length+1≤maxLen from by have:=hc108;simp only [maxLen];omega) ?_)
 intro a112 c113 k114 o115 w109 p110 hs111 f116
 clear hs104
 have hs118:=hs111.drop 0
 have p119:=(hs111.dropS 0)
 clear hs111
 have p124:=(p117.trans (p110.trans p119))
 replace fR_g41:=fR_g41.step p124
 have p125:=(p103.trans (p110.trans p119))
 replace Fg:=Fg.step p125
 have fR120:Rows (rInt .i64) 3 w109 (ks ((k_g59,o_g59)::(k114,o115)::(some b31,Oc [Sl Aa p.cells Ca,Value.slice Af hds_g41.length Cf,Value.slice none 0 0] 26)::(some b11,Oc [Value.slice none 0 0,Value.slice none 0 0,Value.slice none 0 0] 26)::(some b6,Oc [Sl Ad r_.variables Cd,Sl Ae r_.places Ce] 34)::(some b1,Oc [Sl Aa p.cells Ca,Sl Ab p.capacity Cb,Sl Ac p.variables Cc] 26)::R_g41) O) (hds_g41++[((Ag,l_1.length,Cg):Hd)]) (R_g41++[(k_g59,o_g59)]) (rows_1++[l_1]):=Rows.append fR_g41 Fg rfl
 obtain⟨hs121,p122⟩:St ⟨w,[],[]⟩ O w109 ((k114,o115)::(some b31,Oc [Sl Aa p.cells Ca,Value.slice Af hds_g41.length Cf,Value.slice none 0 0] 26)::(some b11,Oc [Value.slice none 0 0,Value.slice none 0 0,Value.slice none 0 0] 26)::(some b6,Oc [Sl Ad r_.variables Cd,Sl Ae r_.places Ce] 34)::(some b1,Oc [Sl Aa p.cells Ca,Sl Ab p.capacity Cb,Sl Ac p.variables Cc] 26)::(R_g41++[(k_g59,o_g59)]))∧Step (ks ((k_g59,o_g59)::(k114,o115)::(some b31,Oc [Sl Aa p.cells Ca,Value.slice Af hds_g41.length Cf,Value.slice none 0 0] 26)::(some b11,Oc [Value.slice none 0 0,Value.slice none 0 0,Value.slice none 0 0] 26)::(some b6,Oc [Sl Ad r_.variables Cd,Sl Ae r_.places Ce] 34)::(some b1,Oc [Sl Aa p.cells Ca,Sl Ab p.capacity Cb,Sl Ac p.variables Cc] 26)::R_g41) O) w109 (ks ((k114,o115)::(some b31,Oc [Sl Aa p.cells Ca,Value.slice Af hds_g41.length Cf,Value.slice none 0 0] 26)::(some b11,Oc [Value.slice none 0 0,Value.slice none 0 0,Value.slice none 0 0] 26)::(some b6,Oc [Sl Ad r_.variables Cd,Sl Ae r_.places Ce] 34)::(some b1,Oc [Sl Aa p.cells Ca,Sl Ab p.capacity Cb,Sl Ac p.variables Cc] 26)::(R_g41++[(k_g59,o_g59)])) O) w109:=St.toback (i:=0) hs118 rfl
 clear hs118
 replace fR120:=fR120.step p122
 have lh123:(hds_g41++[((Ag,l_1.length,Cg):Hd)]).length=(rows_1++[l_1]).length:=(Rows.lens fR120).1
 refine Rop<|op_fA 1 ty26 rfl ty23 rfl rfl<|Rg_op_<|op_stC (Value.slice a112 (hds_g41++[((Ag,l_1.length,Cg):Hd)]).length c113) (cs':=[Sl Aa p.cells Ca,Value.slice a112 (hds_g41++[((Ag,l_1.length,Cg):Hd)]).length c113,Value.slice none 0 0]) Put.p1 ty23 hs121 rfl rfl rfl (le_lit rfl) rfl rfl ?_
 intro w126 p127 hs128
 clear hs121
 refine Rg_nil<|Wp_region<|Mve (Iv leaf_1) rfl<|Rop<|op_addw rfl rfl<|Asg (Iv (IntKind.wrap .i64 (leaf_1+1))) rfl<|Rg_nil ?_
 have p129:=(p124.trans (p122.trans p127))
 replace ch54:=ch54.trans p129
 replace f116:=f116.step (p119.trans (p122.trans p127));replace fR120:=fR120.step p127
 exact hK45 _ _ ⟨(IntKind.wrap .i64 (leaf_1+1)),rows_1++[l_1],a112,c113,k114,o115,hds_g41++[((Ag,l_1.length,Cg):Hd)],R_g41++[(k_g59,o_g59)],_,rfl,Frm.of ⟨rfl,trivial⟩,ch54,hs128,(inK_wrap .i64 _),f116,fR120,lh123,jnE2 hsf44 hm⟩
 refine Wp_exit<|Wp_seq<|Wp_seq<|Wp_region<|Asg (Iv 0) rfl<|Rg_nil<|Wp_block<|Wr [] [(2,Pt b1 0),(3,Pt b6 0),(4,Pt b11 0),(7,Pt b31 0),(11,Iv 0)] fun ξ132=>Wp_loopM q21_2 (fun m fr w'=>∃(i_1:Int) (rows_2:List (List Int)) (Ah:Option Addr) (Ch:Nat) (k_g131:Option Nat) (o_g131:Obj) (hds_g131:List Hd) (R_g131:Ents) (Ebs:Ents),Ebs=((k_g131,o_g131)::(some b31,Oc [Sl Aa p.cells Ca,Value.slice Ah hds_g131.length Ch,Value.slice none 0 0] 26)::(some b11,Oc [Value.slice none 0 0,Value.slice none 0 0,Value.slice none 0 0] 26)::(some b6,Oc [Sl Ad r_.variables Cd,Sl Ae r_.places Ce] 34)::(some b1,Oc [Sl Aa p.cells Ca,Sl Ab p.capacity Cb,Sl Ac p.variables Cc] 26)::R_g131)∧fr [] [(11,Iv i_1)]∧hs50.S (ks Ebs O) w'∧St ⟨w,[],[]⟩ O w' Ebs∧InK .i64 i_1∧Gs rHd 31 w' (ks Ebs O) Ah Ch hds_g131 k_g131 o_g131∧Rows (rInt .i64) 3 w' (ks Ebs O) hds_g131 R_g131 rows_2∧hds_g131.length=rows_2.length∧loop2 (m21_overflightref32_Part_B2 p r_) m i_1 rows_2=some x) (((r_.places.length:Int) - 0).toNat+1) ⟨0,rows_1,Af,Cf,k_g41,o_g41,hds_g41,R_g41,_,rfl,Frm.of ⟨rfl,trivial⟩,Step.refl _ _,hs50,(show InK .i64 0 from by decide),Ff,fR_g41,lh_g41,hm⟩ ?_ ?_
 rintro _ _ ⟨_,_,_,_,_,_,_,_,_,_,_,_,_,_,_,_,_,hm⟩;exact loop2_z hm
 rintro m136 K135 hK135 ρ141 w137 ⟨i_1,rows_2,Ah,Ch,k_g131,o_g131,hds_g131,R_g131,_,rfl,hfr140,hst139,hs138,Rd,Fh,fR_g131,lh_g131,hm⟩
 obtain⟨sf133,hsf134,hm⟩:=loop2_s hm;unfold m21_overflightref32_Part_B2 at hm
 rw [hfr140.eq];clear hfr140
 have ch142:=hst139
 refine Wp_seq<|Wp_seq ?_
 clear Ff fR_g41
 refine Wp_region<|Mve (Iv i_1) rfl<|Rop<|op_fA 1 ty34 rfl ty32 rfl rfl<|Rop<|op_ld 3 ty32 hs138 rfl rfl rfl<|Rop<|op_len Try.underlying32 rfl ?_
 have p144:=(p56.trans hst139)
 replace Fe:=Fe.step p144
 have rl143:=inK_len Fe
 refine Rop<|op_lss rfl rfl<|Rg_nil<|Wp_condM hm rfl (fun hc145 hm=>?_) (fun hc145 hm=>?_)
 refine Wp_skip<|Wp_seq<|Wp_block<|Wp_seq<|Wp_region<|Rop<|op_fA 1 ty34 rfl ty32 rfl rfl<|Rop<|op_ld 3 ty32 hs138 rfl rfl rfl<|Mve (Iv i_1) rfl ?_
 obtain⟨hc146,hm⟩:=ck_some hm
 refine Rop<|op_indexAddr (q:=rXPlace) ty32 ty45 rfl rfl Fe rfl hc146.1 hc146.2 ?_
 intro p147 f148
 refine Rop<|op_loadPA ty45 rfl f148 rfl ?_
 intro vs149 h150
 obtain⟨_,_,rfl,⟨rfl,Re⟩,⟨rfl,Rf⟩⟩:=h150
 refine Rop<|op_alloc ty45 hs138 ?_
 intro b152 w153 _ p154 hs155
 clear hs138
 refine Rg_op_<|op_stA .z ty45 hs155 rfl rfl rfl rfl rfl ?_
 intro w157 p158 hs159
 clear hs155
 refine Rg_nil ?_
 clear f148
 refine Wp_drawR (g0:=[]) (m:=18) (fl:=[]) (TS_inv hs159) rfl (.inl rfl) rfl (by decide+kernel) ?_  -- 18
 refine Dw_p (Pt b31 1) (fun _ _ _ hi ht=>op_fA 1 ty26 rfl ty23 (ht 7 rfl) rfl<|Gz hi)<|Dw_p (Value.slice Ah hds_g131.length Ch) (fun _ _ _ hi ht=>op_ld 2 ty23 (Step.nx hi).1 (ht 59 rfl) rfl rfl<|Gz hi)<|Dw_p (Pt b152 0) (fun _ _ _ hi ht=>op_fA 0 ty45 rfl ty3 (ht 12 rfl) rfl<|Gz hi)<|Dw_p (Iv ((r_.places.getD i_1.toNat default).leaf)) (fun _ _ _ hi ht=>op_ld 0 ty3 (Step.nx hi).1 (ht 61 rfl) rfl rfl<|Gz hi) ?_
 obtain⟨hc175,hm⟩:=ck_some hm
 have p177:=(p154.trans p158)
 replace Fh:=Fh.step p177
 obtain⟨b176,rfl,rfl⟩:=Fh.at_ (by have h1:hds_g131.length=rows_2.length:=lh_g131;omega)
 refine Dw_eq (Value.pointer (some ⟨b176,((r_.places.getD i_1.toNat default).leaf).toNat*1,none⟩)) (fun ρ172 w173 g hle hi ht=>?_) ?_
 obtain⟨-,hst,-⟩:=hle
 replace Fh:=Fh.step hst
 refine StepOp_plain (op_indexAddrG ty23 ty31 (ht 60 rfl) (ht 62 rfl) Fh ⟨hc175.1,by have h1:hds_g131.length=rows_2.length:=lh_g131;have h2:=hc175.2;omega⟩ ?_)
 rintro _ ⟨⟩ -
 exact Gz hi
 refine Dw_eq (Value.slice (hds_g131.getD ((r_.places.getD i_1.toNat default).leaf).toNat default).1 (hds_g131.getD ((r_.places.getD i_1.toNat default).leaf).toNat default).2.1 (hds_g131.getD ((r_.places.getD i_1.toNat default).leaf).toNat default).2.2) (fun ρ178 w179 g hle hi ht=>?_) ?_
 obtain⟨-,hst,-⟩:=hle
 replace Fh:=Fh.step hst
 have hsn:=(Step.nx hi).1
 refine StepOp_plain (op_loadG (p:=rHd) (m:=(r_.places.getD i_1.toNat default).leaf) (i:=1) ty31 rfl hsn rfl (ht 63 rfl) Fh ⟨hc175.1,by have h1:hds_g131.length=rows_2.length:=lh_g131;have h2:=hc175.2;omega⟩ ?_)
 intro v181 h182;obtain rfl:=un_hd h182
 exact Gz hi
 refine Dw_p (Pt b152 1) (fun _ _ _ hi ht=>op_fA 1 ty45 rfl ty3 (ht 12 rfl) rfl<|Gz hi)<|Dw_p (Iv ((r_.places.getD i_1.toNat default).cell)) (fun _ _ _ hi ht=>op_ld 0 ty3 (Step.nx hi).1 (ht 65 rfl) rfl rfl<|Gz hi)<|Dw_p (Pt b1 1) (fun _ _ _ hi ht=>op_fA 1 ty26 rfl ty23 (ht 2 rfl) rfl<|Gz hi)<|Dw_p (Sl Ab p.capacity Cb) (fun _ _ _ hi ht=>op_ld 5 ty23 (Step.nx hi).1 (ht 67 rfl) rfl rfl<|Gz hi)<|Dw_p (Pt b152 0) (fun _ _ _ hi ht=>op_fA 0 ty45 rfl ty3 (ht 12 rfl) rfl<|Gz hi)<|Dw_p (Iv ((r_.places.getD i_1.toNat default).leaf)) (fun _ _ _ hi ht=>op_ld 0 ty3 (Step.nx hi).1 (ht 69 rfl) rfl rfl<|Gz hi) ?_
 obtain⟨hc204,hm⟩:=ck_some hm
 have p207:=(hst139.trans (p154.trans p158))
 replace Fb:=Fb.step p207
 refine Dw_op (VP _ _ (rSl (rInt .i64)) (p.capacity.getD ((r_.places.getD i_1.toNat default).leaf).toNat default)) (VP.stab _ _) (fun ρ201 w202 g hle hi ht=>?_) ?_
 obtain⟨-,hst,-⟩:=hle
 replace Fb:=Fb.step hst
 refine StepOp_plain<|op_indexAddr (q:=rSl (rInt .i64)) ty23 ty31 (ht 68 rfl) (ht 70 rfl) Fb rfl hc204.1 hc204.2 ?_
 intro p205 f206
 exact Goes.same hi ⟨_,rfl,f206⟩
 refine Dw_op (VD _ _ (vC (rSl (rInt .i64))) (p.capacity.getD ((r_.places.getD i_1.toNat default).leaf).toNat default)) (VD.stab _ _) (fun ρ208 w209 g hle hi ht=>?_) ?_
 obtain⟨p211,q212,f213⟩:=ht 71 rfl
 refine StepOp_plain<|op_loadP ty31 q212 f213 rfl ?_
 intro v214 h215
 obtain⟨Ai,Ci,rfl,Fi⟩:=un_sl h215
 exact Goes.same hi (show Vr.vd (vC (rSl (rInt .i64))) _ _ _ _ from(mkC (mk_sl Fi)))
 refine Dw_p (Pt b152 1) (fun _ _ _ hi ht=>op_fA 1 ty45 rfl ty3 (ht 12 rfl) rfl<|Gz hi)<|Dw_p (Iv ((r_.places.getD i_1.toNat default).cell)) (fun _ _ _ hi ht=>op_ld 0 ty3 (Step.nx hi).1 (ht 73 rfl) rfl rfl<|Gz hi) ?_
 obtain⟨hc229,hm⟩:=ck_some hm
 refine Dw_op (VP _ _ (rInt .i64) ((p.capacity.getD ((r_.places.getD i_1.toNat default).leaf).toNat default).getD ((r_.places.getD i_1.toNat default).cell).toNat default)) (VP.stab _ _) (fun ρ223 w224 g hle hi ht=>?_) ?_
 have h226:Vr.vd (vC (rSl (rInt .i64))) _ _ _ _:=ht 72 rfl
 obtain⟨Aj,Cj,q227,Fj⟩:=un_sl h226
 refine StepOp_plain<|op_indexAddr (q:=(rInt .i64)) ty31 ty3 q227 (ht 74 rfl) Fj rfl hc229.1 hc229.2 ?_
 intro p230 f231
 exact Goes.same hi ⟨_,rfl,f231⟩
 refine Dw_op (VD _ _ (vI .i64) ((p.capacity.getD ((r_.places.getD i_1.toNat default).leaf).toNat default).getD ((r_.places.getD i_1.toNat default).cell).toNat default)) (VD.stab _ _) (fun ρ232 w233 g hle hi ht=>?_) ?_
 obtain⟨p235,q236,f237⟩:=ht 75 rfl
 refine StepOp_plain<|op_loadP ty3 q236 f237 rfl ?_
 intro v238 h239
 obtain⟨rfl,Rg⟩:=un_int h239
 exact Goes.same hi (show Vr.vd (vI .i64) _ _ _ _ from⟨rfl,Rg⟩)
 refine Dw_nil fun w245 g246 hl247 hi248=>?_
 obtain⟨-,hst249,-⟩:=hl247
 obtain⟨hs251,p250⟩:=Step.nx hi248
 rintro v252 h253
 replace h253:Vr.vd (vI .i64) _ _ _ _:=h253
 obtain⟨rfl,Rh⟩:=h253
 rintro _ ⟨p255,rfl,f256⟩ _ rfl _ rfl v257 h258
 replace h258:Vr.vd (vC (rSl (rInt .i64))) _ _ _ _:=h258
 obtain⟨Ak,Ck,rfl,Fk⟩:=un_sl h258
 rintro _ ⟨p260,rfl,f261⟩ _ rfl _ rfl _ rfl _ rfl _ rfl _ rfl _ rfl _ rfl _ rfl _ rfl _ rfl _ rfl
 have p262:=hs159.to hs251 (hst249.trans p250)
 replace f256:=f256.step p250;replace Fk:=Fk.step p250;replace f261:=f261.step p250;clear hs159
 have p268:=(p177.trans p262)
 replace fR_g131:=fR_g131.step p268
 obtain⟨hh263,hl264,hb265⟩:=fR_g131.at_ (i:=((r_.places.getD i_1.toNat default).leaf).toNat) (by have:=hc175;omega)
 obtain⟨hc269,hm⟩:=ck_some hm
 obtain⟨b266,hb267⟩:=hb265 (by have:=hc269;omega)
 refine Rop<|op_indexRow (H:=hds_g131.getD ((r_.places.getD i_1.toNat default).leaf).toNat default) (row:=rows_2.getD ((r_.places.getD i_1.toNat default).leaf).toNat default) (bl:=b266) ty31 ty3 rfl rfl hb267 hl264 hc269 ?_
 refine Rg_op_ (op_storeRow (bs:=[(some b152,Oc [Iv ((r_.places.getD i_1.toNat default).leaf),Iv ((r_.places.getD i_1.toNat default).cell)] 45),(some b176,o_g131),(some b31,Oc [Sl Aa p.cells Ca,Value.slice (some ⟨b176,0,none⟩) hds_g131.length Ch,Value.slice none 0 0] 26),(some b11,Oc [Value.slice none 0 0,Value.slice none 0 0,Value.slice none 0 0] 26),(some b6,Oc [Sl Ad r_.variables Cd,Sl Ae r_.places Ce] 34),(some b1,Oc [Sl Aa p.cells Ca,Sl Ab p.capacity Cb,Sl Ac p.variables Cc] 26)]) (R:=R_g131) (vs:=[Iv ((p.capacity.getD ((r_.places.getD i_1.toNat default).leaf).toNat default).getD ((r_.places.getD i_1.toNat default).cell).toNat default)]) (m:=(r_.places.getD i_1.toNat default).cell) (i:=((r_.places.getD i_1.toNat default).leaf).toNat) (hd:=hds_g131.getD ((r_.places.getD i_1.toNat default).leaf).toNat default) ty3 rfl hs251 fR_g131 (by have:=hc175;omega) hh263 hb267 rfl rfl rfl hc269 (mk_int Rh) ?_)
 intro w270 R271 p272 hs273 fR274
 replace hs273:St ⟨w,[],[]⟩ O w270 ((some b152,Oc [Iv ((r_.places.getD i_1.toNat default).leaf),Iv ((r_.places.getD i_1.toNat default).cell)] 45)::(some b176,o_g131)::(some b31,Oc [Sl Aa p.cells Ca,Value.slice (some ⟨b176,0,none⟩) hds_g131.length Ch,Value.slice none 0 0] 26)::(some b11,Oc [Value.slice none 0 0,Value.slice none 0 0,Value.slice none 0 0] 26)::(some b6,Oc [Sl Ad r_.variables Cd,Sl Ae r_.places Ce] 34)::(some b1,Oc [Sl Aa p.cells Ca,Sl Ab p.capacity Cb,Sl Ac p.variables Cc] 26)::R271):=hs273
 replace p272:Step (ks ((some b152,Oc [Iv ((r_.places.getD i_1.toNat default).leaf),Iv ((r_.places.getD i_1.toNat default).cell)] 45)::(some b176,o_g131)::(some b31,Oc [Sl Aa p.cells Ca,Value.slice (some ⟨b176,0,none⟩) hds_g131.length Ch,Value.slice none 0 0] 26)::(some b11,Oc [Value.slice none 0 0,Value.slice none 0 0,Value.slice none 0 0] 26)::(some b6,Oc [Sl Ad r_.variables Cd,Sl Ae r_.places Ce] 34)::(some b1,Oc [Sl Aa p.cells Ca,Sl Ab p.capacity Cb,Sl Ac p.variables Cc] 26)::R_g131) O) w245 (ks ((some b152,Oc [Iv ((r_.places.getD i_1.toNat default).leaf),Iv ((r_.places.getD i_1.toNat default).cell)] 45)::(some b176,o_g131)::(some b31,Oc [Sl Aa p.cells Ca,Value.slice (some ⟨b176,0,none⟩) hds_g131.length Ch,Value.slice none 0 0] 26)::(some b11,Oc [Value.slice none 0 0,Value.slice none 0 0,Value.slice none 0 0] 26)::(some b6,Oc [Sl Ad r_.variables Cd,Sl Ae r_.places Ce] 34)::(some b1,Oc [Sl Aa p.cells Ca,Sl Ab p.capacity Cb,Sl Ac p.variables Cc] 26)::R271) O) w270:=p272
 replace fR274:Rows (rInt .i64) 3 w270 (ks ((some b152,Oc [Iv ((r_.places.getD i_1.toNat default).leaf),Iv ((r_.places.getD i_1.toNat default).cell)] 45)::(some b176,o_g131)::(some b31,Oc [Sl Aa p.cells Ca,Value.slice (some ⟨b176,0,none⟩) hds_g131.length Ch,Value.slice none 0 0] 26)::(some b11,Oc [Value.slice none 0 0,Value.slice none 0 0,Value.slice none 0 0] 26)::(some b6,Oc [Sl Ad r_.variables Cd,Sl Ae r_.places Ce] 34)::(some b1,Oc [Sl Aa p.cells Ca,Sl Ab p.capacity Cb,Sl Ac p.variables Cc] 26)::R271) O) hds_g131 R271 (rows_2.set ((r_.places.getD i_1.toNat default).leaf).toNat ((rows_2.getD ((r_.places.getD i_1.toNat default).leaf).toNat default).set ((r_.places.getD i_1.toNat default).cell).toNat ((p.capacity.getD ((r_.places.getD i_1.toNat default).leaf).toNat default).getD ((r_.places.getD i_1.toNat default).cell).toNat default))):=fR274
 clear hs251
 have lh275:hds_g131.length=(rows_2.set ((r_.places.getD i_1.toNat default).leaf).toNat ((rows_2.getD ((r_.places.getD i_1.toNat default).leaf).toNat default).set ((r_.places.getD i_1.toNat default).cell).toNat ((p.capacity.getD ((r_.places.getD i_1.toNat default).leaf).toNat default).getD ((r_.places.getD i_1.toNat default).cell).toNat default))).length:=(Rows.lens fR274).1
 have lp276:hds_g131.length=(rows_2.set ((r_.places.getD i_1.toNat default).leaf).toNat ((rows_2.getD ((r_.places.getD i_1.toNat default).leaf).toNat default).set ((r_.places.getD i_1.toNat default).cell).toNat ((p.capacity.getD ((r_.places.getD i_1.toNat default).leaf).toNat default).getD ((r_.places.getD i_1.toNat default).cell).toNat default))).length:=by have h1:hds_g131.length=rows_2.length:=lh_g131;rw [List.length_set];exact h1
 refine Rg_nil ?_
 clear f256 Fk f261
 refine Wr2 q21_2 [] (updL ⟨ξ132,[]⟩ [(2,Pt b1 0),(3,Pt b6 0),(4,Pt b11 0),(7,Pt b31 0),(11,Iv 0)]) [(11,Iv i_1)] fun ξ277=>Wp_region<|Mve (Iv i_1) rfl<|Rop<|op_addw rfl rfl<|Asg (Iv (IntKind.wrap .i64 (i_1+1))) rfl<|Rg_nil ?_
 have hs278:=hs273.drop 0
 have p279:=(hs273.dropS 0)
 clear hs273
 have p280:=(p268.trans (p272.trans p279))
 replace ch142:=ch142.trans p280;replace fR274:=fR274.step p279
 have p281:=(p262.trans (p272.trans p279))
 replace Fh:=Fh.step p281
 exact hK135 _ _ ⟨(IntKind.wrap .i64 (i_1+1)),rows_2.set ((r_.places.getD i_1.toNat default).leaf).toNat ((rows_2.getD ((r_.places.getD i_1.toNat default).leaf).toNat default).set ((r_.places.getD i_1.toNat default).cell).toNat ((p.capacity.getD ((r_.places.getD i_1.toNat default).leaf).toNat default).getD ((r_.places.getD i_1.toNat default).cell).toNat default)),some ⟨b176,0,none⟩,Ch,some b176,o_g131,hds_g131,R271,_,rfl,Frm.of ⟨rfl,trivial⟩,ch142,hs278,(inK_wrap .i64 _),Fh,fR274,lh275,jnE2 hsf134 hm⟩
 refine Wp_exit<|Wp_seq<|Wp_seq<|Wp_region<|Asg (Iv 0) rfl<|Rg_nil<|Wp_block<|Wr [] [(2,Pt b1 0),(3,Pt b6 0),(4,Pt b11 0),(7,Pt b31 0),(13,Iv 0)] fun ξ285=>?_
 have hs290:=hs138.ghost (Obj.cells #[] 61)
 refine Wp_loopM q21_3 (fun m fr w'=>∃(i_2:Int) (v_1:List XVariable) (Al:Option Addr) (Cl:Nat) (k_g284:Option Nat) (o_g284:Obj) (Ebs:Ents),Ebs=((k_g284,o_g284)::(k_g131,o_g131)::(some b31,Oc [Sl Aa p.cells Ca,Value.slice Ah hds_g131.length Ch,Sl Al v_1 Cl] 26)::(some b11,Oc [Value.slice none 0 0,Value.slice none 0 0,Value.slice none 0 0] 26)::(some b6,Oc [Sl Ad r_.variables Cd,Sl Ae r_.places Ce] 34)::(some b1,Oc [Sl Aa p.cells Ca,Sl Ab p.capacity Cb,Sl Ac p.variables Cc] 26)::R_g131)∧fr [] [(13,Iv i_2)]∧hs290.S (ks Ebs O) w'∧St ⟨w,[],[]⟩ O w' Ebs∧InK .i64 i_2∧Gs rXVariable 61 w' (ks Ebs O) Al Cl v_1 k_g284 o_g284∧loop2 (m21_overflightref32_Part_B3 p r_ rows_2) m i_2 v_1=some x) (((r_.variables.length:Int) - 0).toNat+1) ⟨0,([]:List XVariable),none,0,none,Obj.cells #[] 61,_,rfl,Frm.of ⟨rfl,trivial⟩,Step.refl _ _,hs290,(show InK .i64 0 from by decide),Gs.nil_,hm⟩ ?_ ?_
 rintro _ _ ⟨_,_,_,_,_,_,_,_,_,_,_,_,_,hm⟩;exact loop2_z hm
 rintro m289 K288 hK288 ρ296 w292 ⟨i_2,v_1,Al,Cl,k_g284,o_g284,_,rfl,hfr295,hst294,hs293,Ri,Fl,hm⟩
 obtain⟨sf286,hsf287,hm⟩:=loop2_s hm;unfold m21_overflightref32_Part_B3 at hm
 rw [hfr295.eq];clear hfr295
 have ch297:=hst294
 refine Wp_seq<|Wp_seq<|Wp_region<|Mve (Iv i_2) rfl<|Rop<|op_fA 0 ty34 rfl ty31 rfl rfl<|Rop<|op_ld 4 ty31 hs293 rfl rfl rfl<|Rop<|op_len Try.underlying31 rfl ?_
 have p299:=(p144.trans hst294)
 replace Fd:=Fd.step p299
 have rl298:=inK_len Fd
 refine Rop<|op_lss rfl rfl<|Rg_nil<|Wp_condM hm rfl (fun hc300 hm=>?_) (fun hc300 hm=>?_)
 refine Wp_skip<|Wp_seq<|Wp_block<|Wp_drawR (g0:=[]) (m:=12) (fl:=[]) (TS_inv hs293) rfl (.inl rfl) rfl (by decide+kernel) ?_  -- 22
 refine Dw_p (Pt b31 2) (fun _ _ _ hi ht=>op_fA 2 ty26 rfl ty24 (ht 7 rfl) rfl<|Gz hi)<|Dw_p (Sl Al v_1 Cl) (fun _ _ _ hi ht=>op_ld 2 ty24 (Step.nx hi).1 (ht 85 rfl) rfl rfl<|Gz hi)<|Dw_p (Pt b1 2) (fun _ _ _ hi ht=>op_fA 2 ty26 rfl ty24 (ht 2 rfl) rfl<|Gz hi)<|Dw_p (Sl Ac p.variables Cc) (fun _ _ _ hi ht=>op_ld 5 ty24 (Step.nx hi).1 (ht 87 rfl) rfl rfl<|Gz hi)<|Dw_p (Pt b6 0) (fun _ _ _ hi ht=>op_fA 0 ty34 rfl ty31 (ht 3 rfl) rfl<|Gz hi)<|Dw_p (Sl Ad r_.variables Cd) (fun _ _ _ hi ht=>op_ld 4 ty31 (Step.nx hi).1 (ht 89 rfl) rfl rfl<|Gz hi)<|Dw_p (Iv i_2) (fun _ _ _ hi ht=>op_move (v:=Iv i_2) (ht 13 rfl)<|Gz hi) ?_
 obtain⟨hc325,hm⟩:=ck_some hm
 refine Dw_op (VP _ _ (rInt .i64) (r_.variables.getD i_2.toNat default)) (VP.stab _ _) (fun ρ322 w323 g hle hi ht=>?_) ?_
 obtain⟨-,hst,-⟩:=hle
 replace Fd:=Fd.step hst
 refine StepOp_plain<|op_indexAddr (q:=(rInt .i64)) ty31 ty3 (ht 90 rfl) (ht 91 rfl) Fd rfl hc325.1 hc325.2 ?_
 intro p326 f327
 exact Goes.same hi ⟨_,rfl,f327⟩
 refine Dw_op (VD _ _ (vI .i64) (r_.variables.getD i_2.toNat default)) (VD.stab _ _) (fun ρ328 w329 g hle hi ht=>?_) ?_
 obtain⟨p331,q332,f333⟩:=ht 92 rfl
 refine StepOp_plain<|op_loadP ty3 q332 f333 rfl ?_
 intro v334 h335
 obtain⟨rfl,Rj⟩:=un_int h335
 exact Goes.same hi (show Vr.vd (vI .i64) _ _ _ _ from⟨rfl,Rj⟩)
 obtain⟨hc343,hm⟩:=ck_some hm
 replace Fc:=Fc.step p299
 refine Dw_op (VP _ _ rXVariable (p.variables.getD (r_.variables.getD i_2.toNat default).toNat default)) (VP.stab _ _) (fun ρ337 w338 g hle hi ht=>?_) ?_
 obtain⟨-,hst,-⟩:=hle
 replace Fc:=Fc.step hst
 have h340:Vr.vd (vI .i64) _ _ _ _:=ht 93 rfl
 obtain⟨q341,Rk⟩:=h340
 refine StepOp_plain<|op_indexAddr (q:=rXVariable) ty24 ty61 (ht 88 rfl) q341 Fc rfl hc343.1 hc343.2 ?_
 intro p344 f345
 exact Goes.same hi ⟨_,rfl,f345⟩
 refine Dw_op (VD _ _ (vA rXVariable) (p.variables.getD (r_.variables.getD i_2.toNat default).toNat default)) (VD.stab _ _) (fun ρ346 w347 g hle hi ht=>?_) ?_
 obtain⟨p349,q350,f351⟩:=ht 94 rfl
 refine StepOp_plain<|op_loadPA ty61 q350 f351 rfl ?_
 intro vs352 h353
 obtain⟨_,_,rfl,⟨rfl,Rl⟩,⟨_,_,rfl,⟨rfl,Rm⟩,⟨_,_,rfl,⟨Am,Cm,rfl,Fm⟩,⟨An,Cn,rfl,Fn⟩⟩⟩⟩:=h353
 exact Goes.same hi (show Vr.vd (vA rXVariable) _ _ _ _ from(mkA (mkVia (mk_pair (mk_int Rl) (mk_pair (mk_int Rm) (mk_pair (mk_sl Fm) (mk_sl Fn)))))))
 refine Dw_op (VD _ _ (vC (rSl rXVariable)) [p.variables.getD (r_.variables.getD i_2.toNat default).toNat default]) (VD.stab _ _) (fun ρ355 w356 g hle hi ht=>?_) ?_
 have h358:Vr.vd (vA rXVariable) _ _ _ _:=ht 95 rfl
 obtain⟨_,q359,⟨_,_,rfl,⟨rfl,Rn⟩,⟨_,_,rfl,⟨rfl,Ro⟩,⟨_,_,rfl,⟨Ao,Co,rfl,Fo⟩,⟨Ap,Cp,rfl,Fp⟩⟩⟩⟩⟩:=h358
 refine StepOp_plain (op_buildSlice (cs:=[Iv ((p.variables.getD (r_.variables.getD i_2.toNat default).toNat default).flight),Iv ((p.variables.getD (r_.variables.getD i_2.toNat default).toNat default).node),Sl Ao ((p.variables.getD (r_.variables.getD i_2.toNat default).toNat default).leaves) Co,Sl Ap ((p.variables.getD (r_.variables.getD i_2.toNat default).toNat default).choices) Cp]) (parts:=[(0,.tmp 95)]) ty24 ty61 hi (by decide) (by simp only [List.map,(show ev _ (.tmp 95)=_ from q359)];rfl) ?_)
 intro b361 w362 hx365 p363 hs364
 replace Fp:=Fp.step p363;replace Fo:=Fo.step p363
 obtain⟨hs367,p368,f369⟩:=St.publish (q:=rXVariable) (i:=0) (o:=0) (c:=1) (xs:=[p.variables.getD (r_.variables.getD i_2.toNat default).toNat default]) hs364 rfl (show Els rXVariable _ _ [Iv ((p.variables.getD (r_.variables.getD i_2.toNat default).toNat default).flight),Iv ((p.variables.getD (r_.variables.getD i_2.toNat default).toNat default).node),Sl Ao ((p.variables.getD (r_.variables.getD i_2.toNat default).toNat default).leaves) Co,Sl Ap ((p.variables.getD (r_.variables.getD i_2.toNat default).toNat default).choices) Cp] [p.variables.getD (r_.variables.getD i_2.toNat default).toNat default] from⟨_,_,rfl,mkVia (mk_pair (mk_int Rn) (mk_pair (mk_int Ro) (mk_pair (mk_sl Fo) (mk_sl Fp)))),Els.nil⟩) (le_lit rfl) (le_lit rfl) (le_lit rfl)
 exact Goes.pub hi hs367 (Step.trans p363 p368) hx365 (show Vr.vd (vC (rSl rXVariable)) _ _ _ _ from mkC (mk_sl f369))
 refine Dw_nil fun w374 g375 hl376 hi377=>?_
 obtain⟨-,hst378,-⟩:=hl376
 obtain⟨hs380,p379⟩:=Step.nx hi377
 rintro v381 h382
 replace h382:Vr.vd (vC (rSl rXVariable)) _ _ _ _:=h382
 obtain⟨Aq,Cq,rfl,Fq⟩:=un_sl h382
 rintro v384 h385
 replace h385:Vr.vd (vA rXVariable) _ _ _ _:=h385
 obtain⟨_,rfl,⟨_,_,rfl,⟨rfl,Rp⟩,⟨_,_,rfl,⟨rfl,Rq⟩,⟨_,_,rfl,⟨Ar,Cr,rfl,Fr⟩,⟨As,Cs,rfl,Fs⟩⟩⟩⟩⟩:=h385
 rintro _ ⟨p387,rfl,f388⟩ v389 h390
 replace h390:Vr.vd (vI .i64) _ _ _ _:=h390
 obtain⟨rfl,Rr⟩:=h390
 rintro _ ⟨p392,rfl,f393⟩ _ rfl _ rfl _ rfl _ rfl _ rfl _ rfl _ rfl
 have p394:=hs293.to hs380 (hst378.trans p379)
 replace Fq:=Fq.step p379;replace Fr:=Fr.step p379;replace Fs:=Fs.step p379;replace f388:=f388.step p379;replace f393:=f393.step p379;clear hs293
 obtain⟨hc395,hm⟩:=ck_some hm
 obtain⟨ns396,he397,hr398⟩:=Fq.src
 replace Fl:=Fl.step p394
 refine Rop (op_append (q:=rXVariable) (i:=0) (xs:=v_1) (ys:=[p.variables.getD (r_.variables.getD i_2.toNat default).toNat default]) (news:=ns396) ty24 ty61 rfl (by decide) hs380 rfl rfl Fl rfl hr398 he397 hc395 (by have:=hc395;simp only [maxLen];omega) ?_)
 intro a402 c403 k404 o405 w399 p400 hs401 f406
 clear hs380
 refine Rop<|op_fA 2 ty26 rfl ty24 rfl rfl<|Rg_op_<|op_stC (Sl a402 (v_1++[p.variables.getD (r_.variables.getD i_2.toNat default).toNat default]) c403) (cs':=[Sl Aa p.cells Ca,Value.slice Ah hds_g131.length Ch,Sl a402 (v_1++[p.variables.getD (r_.variables.getD i_2.toNat default).toNat default]) c403]) Put.p2 ty24 hs401 rfl rfl rfl (le_lit rfl) rfl rfl ?_
 intro w407 p408 hs409
 clear hs401
 refine Rg_nil ?_
 clear Fq Fr Fs f388 f393
 refine Wp_region<|Mve (Iv i_2) rfl<|Rop<|op_addw rfl rfl<|Asg (Iv (IntKind.wrap .i64 (i_2+1))) rfl<|Rg_nil ?_
 have p410:=(p394.trans (p400.trans p408))
 replace ch297:=ch297.trans p410;replace f406:=f406.step p408
 exact hK288 _ _ ⟨(IntKind.wrap .i64 (i_2+1)),v_1++[p.variables.getD (r_.variables.getD i_2.toNat default).toNat default],a402,c403,k404,o405,_,rfl,Frm.of ⟨rfl,trivial⟩,ch297,hs409,(inK_wrap .i64 _),f406,jnE2 hsf287 hm⟩
 refine Wp_exit<|Wp_seq ?_
 obtain⟨hs411,p412⟩:=hs293.sub (bs':=(k_g284,o_g284)::(k_g131,o_g131)::(some b31,Oc [Sl Aa p.cells Ca,Value.slice Ah hds_g131.length Ch,Sl Al v_1 Cl] 26)::(some b11,Oc [Value.slice none 0 0,Value.slice none 0 0,Value.slice none 0 0] 26)::R_g131) (.cons_cons _ (.cons_cons _ (.cons_cons _ (.cons_cons _ (.cons _ (.cons _ (List.Sublist.refl _)))))))
 clear Fb Fc Fd Fe
 clear hs293
 refine Wp_region<|Rop<|op_ldA 2 ty26 hs411 rfl rfl rfl<|Rg_op_<|op_stA Put.p3 ty26 hs411 rfl rfl rfl rfl rfl ?_
 intro w413 p414 hs415
 clear hs411
 refine Asg (Iv 0) rfl<|Rg_nil<|Wp_ret ?_
 have p419:=(hst294.trans (p412.trans p414))
 replace fR_g131:=fR_g131.step p419;replace Fh:=Fh.step p419
 obtain⟨hs417,p418,f416⟩:=Rows.publish (bs:=[(k_g284,o_g284),(k_g131,o_g131),(some b31,Oc [Sl Aa p.cells Ca,Value.slice Ah hds_g131.length Ch,Sl Al v_1 Cl] 26),(some b11,Oc [Sl Aa p.cells Ca,Value.slice Ah hds_g131.length Ch,Sl Al v_1 Cl] 26)]) (R:=R_g131) (j:=1) hs415 fR_g131 rfl Fh
 replace hs417:St _ O w413 [(k_g284,o_g284),(some b31,Oc [Sl Aa p.cells Ca,Value.slice Ah hds_g131.length Ch,Sl Al v_1 Cl] 26),(some b11,Oc [Sl Aa p.cells Ca,Value.slice Ah hds_g131.length Ch,Sl Al v_1 Cl] 26)]:=hs417
 clear hs415
 have p423:=(p412.trans (p414.trans p418))
 replace Fl:=Fl.step p423
 obtain⟨hs421,p422,f420⟩:=Gs.publish (i:=0) hs417 rfl Fl
 clear hs417
 have hz:=step_all hs421
 refine⟨_,Clo,[Value.agg [Sl Aa p.cells Ca,Value.slice Ah hds_g131.length Ch,Sl Al v_1 Cl].toArray,Iv 0],⟨resA (cs:=[Sl Aa p.cells Ca,Value.slice Ah hds_g131.length Ch,Sl Al v_1 Cl]) (vs:=[Sl Aa p.cells Ca,Value.slice Ah hds_g131.length Ch,Sl Al v_1 Cl]) ty26 (i:=1) hs421 rfl rfl rfl rfl,rfl,trivial⟩,hs421.ext,?_⟩
 replace f416:=f416.step (p422.trans hz);replace f420:=f420.step hz
 replace Fa:=Fa.step (p299.trans (p412.trans (p414.trans (p418.trans (p422.trans hz)))))
 exact Vr.eq (a:=vT2 (vA rXProblem) (vI .i64)) (x:=((⟨p.cells,rows_2,v_1⟩:XProblem),0)) (mkT2 (mkA (mkVia (mk_pair (mk_sl Fa) (mk_pair (mk_slL lh_g131 f416) (mk_sl f420))))) ⟨rfl,(show InK .i64 0 from by decide)⟩) (oi hm)

abbrev q87_0:List Nat:=[4,5,12,13,14,15,16,17,18,19,20,21,22,23,24,25,26,27,28,29,30,31]

def m87_overflightref27_Branch_B0 (p:XProblem) (b:List Int) (sf13:Int→Option Bool) (i_1:Int):Option Bool:=
 bif (decide (i_1<(b.length:Int))) then
  ck ((0:Int)≤i_1∧i_1<(b.length:Int))<|
  ck ((0:Int)≤i_1∧i_1<(p.variables.length:Int))<|
  (m61_overflightref27_within (b.getD i_1.toNat default) 0 (IntKind.wrap .i64 ((((p.variables.getD i_1.toNat default).choices).length:Int) - 1))).bind fun within_1=>
  bif (!within_1) then
   some false
  else
   sf13 (IntKind.wrap .i64 (i_1+1))
 else
  some true

def m87_overflightref27_Branch (p:XProblem) (b:List Int):Option Bool:=
 bif (decide ((p.variables.length:Int)<(b.length:Int))) then
  some false
 else
  loop1 (m87_overflightref27_Branch_B0 p b) (((b.length:Int) - 0).toNat+1) 0

theorem c87_overflightref27_Branch {w:World} {O:List Nat} {p:XProblem} {b:List Int} {Aa:Option Addr} {Ca:Nat} {Ab:Option Addr} {Cb:Nat} {Ac:Option Addr} {Cc:Nat} {Ad:Option Addr} {Cd:Nat} (hO:∀k∈O,k<w.heap.size) (Fa:SlR rXCell w O Aa Ca p.cells) (Fb:SlR (rSl (rInt .i64)) w O Ab Cb p.capacity) (Fc:SlR rXVariable w O Ac Cc p.variables) (Fd:SlR (rInt .i64) w O Ad Cd b) {x:Bool} (hm:m87_overflightref27_Branch p b=some x):
 Ok Try.prog 87 [Value.agg [Sl Aa p.cells Ca,Sl Ab p.capacity Cb,Sl Ac p.variables Cc].toArray,Sl Ad b Cd] w O vB x:=by
 unfold m87_overflightref27_Branch at hm
 refine Fn_of_Wp (n:=32) (xs:=[.tmp 4]) Try.func87 rfl Try.ntmps87 Try.results87 rfl ?_
 have hs:=St.start hO
 refine Wp_seq<|Wp_region<|Rop<|op_box (cs:=[Sl Aa p.cells Ca,Sl Ab p.capacity Cb,Sl Ac p.variables Cc]) hs rfl rfl ?_
 intro b1 w2 _ p3 hs4
 refine Asg (Bo false) rfl<|Rg_nil<|Wp_seq<|Wp_seq<|Wp_region<|Mve (Sl Ad b Cd) rfl<|Rop<|op_len Try.underlying31 rfl ?_
 replace Fd:=Fd.step p3
 have rl6:=inK_len Fd
 refine Rop<|op_fA 2 ty26 rfl ty24 rfl rfl<|Rop<|op_ld 0 ty24 hs4 rfl rfl rfl<|Rop<|op_len Try.underlying24 rfl ?_
 replace Fc:=Fc.step p3
 have rl7:=inK_len Fc
 refine Rop<|op_gtr rfl rfl<|Rg_nil<|Wp_condM hm rfl (fun hc8 hm=>?_) (fun hc8 hm=>?_)
 refine Wp_seq ?_
 obtain⟨hs9,p10⟩:=hs4.sub (bs':=[]) (.cons _ List.Sublist.slnil)
 clear Fa Fb Fc Fd
 clear hs4
 refine Wp_region<|Asg (Bo false) rfl<|Rg_nil<|Wp_ret<|⟨_,Clo,[Bo false],⟨rfl,trivial⟩,hs9.ext,?_⟩
 exact Vr.eq (a:=vB) (x:=false) rfl (oi hm)
 refine Wp_skip<|Wp_seq<|Wp_seq<|Wp_region<|Asg (Iv 0) rfl<|Rg_nil<|Wp_block<|Wr [] [(1,Sl Ad b Cd),(2,Pt b1 0),(5,Iv 0)] fun ξ12=>Wp_loopM q87_0 (fun m fr w'=>∃(i_1:Int) (Ebs:Ents),Ebs=[(some b1,Oc [Sl Aa p.cells Ca,Sl Ab p.capacity Cb,Sl Ac p.variables Cc] 26)]∧fr [] [(5,Iv i_1)]∧hs4.S (ks Ebs O) w'∧St ⟨w,[],[]⟩ O w' Ebs∧InK .i64 i_1∧loop1 (m87_overflightref27_Branch_B0 p b) m i_1=some x) (((b.length:Int) - 0).toNat+1) ⟨0,_,rfl,Frm.of ⟨rfl,trivial⟩,Step.refl _ _,hs4,(show InK .i64 0 from by decide),hm⟩ ?_ ?_
 rintro _ _ ⟨_,_,_,_,_,_,_,hm⟩;exact loop1_z hm
 rintro m16 K15 hK15 ρ21 w17 ⟨i_1,_,rfl,hfr20,hst19,hs18,Ra,hm⟩
 obtain⟨sf13,hsf14,hm⟩:=loop1_s hm;unfold m87_overflightref27_Branch_B0 at hm
 rw [hfr20.eq];clear hfr20
 have ch22:=hst19
 refine Wp_seq<|Wp_seq<|Wp_region<|Mve (Iv i_1) rfl<|Mve (Sl Ad b Cd) rfl<|Rop<|op_len Try.underlying31 rfl ?_
 replace Fd:=Fd.step hst19
 have rl23:=inK_len Fd
 refine Rop<|op_lss rfl rfl<|Rg_nil<|Wp_condM hm rfl (fun hc24 hm=>?_) (fun hc24 hm=>?_)
 refine Wp_skip<|Wp_seq<|Wp_block<|Wp_seq<|Wp_drawR (g0:=[]) (m:=12) (fl:=[]) (TS_inv hs18) rfl (.inl rfl) rfl (by decide+kernel) ?_  -- 6
 refine Dw_p (Sl Ad b Cd) (fun _ _ _ hi ht=>op_move (v:=Sl Ad b Cd) (ht 1 rfl)<|Gz hi)<|Dw_p (Iv i_1) (fun _ _ _ hi ht=>op_move (v:=Iv i_1) (ht 5 rfl)<|Gz hi) ?_
 obtain⟨hc34,hm⟩:=ck_some hm
 refine Dw_op (VP _ _ (rInt .i64) (b.getD i_1.toNat default)) (VP.stab _ _) (fun ρ31 w32 g hle hi ht=>?_) ?_
 obtain⟨-,hst,-⟩:=hle
 replace Fd:=Fd.step hst
 refine StepOp_plain<|op_indexAddr (q:=(rInt .i64)) ty31 ty3 (ht 18 rfl) (ht 19 rfl) Fd rfl hc34.1 hc34.2 ?_
 intro p35 f36
 exact Goes.same hi ⟨_,rfl,f36⟩
 refine Dw_op (VD _ _ (vI .i64) (b.getD i_1.toNat default)) (VD.stab _ _) (fun ρ37 w38 g hle hi ht=>?_) ?_
 obtain⟨p40,q41,f42⟩:=ht 20 rfl
 refine StepOp_plain<|op_loadP ty3 q41 f42 rfl ?_
 intro v43 h44
 obtain⟨rfl,Rb⟩:=un_int h44
 exact Goes.same hi (show Vr.vd (vI .i64) _ _ _ _ from⟨rfl,Rb⟩)
 refine Dw_p (Pt b1 2) (fun _ _ _ hi ht=>op_fA 2 ty26 rfl ty24 (ht 2 rfl) rfl<|Gz hi)<|Dw_p (Sl Ac p.variables Cc) (fun _ _ _ hi ht=>op_ld 0 ty24 (Step.nx hi).1 (ht 22 rfl) rfl rfl<|Gz hi)<|Dw_p (Iv i_1) (fun _ _ _ hi ht=>op_move (v:=Iv i_1) (ht 5 rfl)<|Gz hi) ?_
 obtain⟨hc58,hm⟩:=ck_some hm
 replace Fc:=Fc.step hst19
 refine Dw_op (VP _ _ rXVariable (p.variables.getD i_1.toNat default)) (VP.stab _ _) (fun ρ55 w56 g hle hi ht=>?_) ?_
 obtain⟨-,hst,-⟩:=hle
 replace Fc:=Fc.step hst
 refine StepOp_plain<|op_indexAddr (q:=rXVariable) ty24 ty61 (ht 23 rfl) (ht 24 rfl) Fc rfl hc58.1 hc58.2 ?_
 intro p59 f60
 exact Goes.same hi ⟨_,rfl,f60⟩
 refine Dw_op (VP _ _ (rSl rXChoice) ((p.variables.getD i_1.toNat default).choices)) (VP.stab _ _) (fun ρ61 w62 g hle hi ht=>?_) ?_
 obtain⟨p64,q65,f66⟩:=ht 25 rfl
 refine StepOp_plain<|op_fieldAddr ty61 rfl ty59 (by decide) q65 rfl ?_
 have f67:=f66.via.snd.snd.snd
 exact Goes.same hi ⟨_,rfl,f67⟩
 refine Dw_op (VD _ _ (vC (rSl rXChoice)) ((p.variables.getD i_1.toNat default).choices)) (VD.stab _ _) (fun ρ68 w69 g hle hi ht=>?_) ?_
 obtain⟨p71,q72,f73⟩:=ht 26 rfl
 refine StepOp_plain<|op_loadP ty59 q72 f73 rfl ?_
 intro v74 h75
 obtain⟨Ae,Ce,rfl,Fe⟩:=un_sl h75
 exact Goes.same hi (show Vr.vd (vC (rSl rXChoice)) _ _ _ _ from(mkC (mk_sl Fe)))
 refine Dw_op (VD _ _ (vI .i64) (((p.variables.getD i_1.toNat default).choices).length:Int)) (VD.stab _ _) (fun ρ77 w78 g hle hi ht=>?_) ?_
 have h80:Vr.vd (vC (rSl rXChoice)) _ _ _ _:=ht 27 rfl
 obtain⟨Af,Cf,q81,Ff⟩:=un_sl h80
 exact StepOp_plain<|op_len Try.underlying59 q81<|Goes.same hi (show Vr.vd (vI .i64) _ _ _ _ from⟨rfl,inK_len Ff⟩)
 refine Dw_eq (Iv (IntKind.wrap .i64 ((((p.variables.getD i_1.toNat default).choices).length:Int) - 1))) (fun ρ83 w84 g hle hi ht=>?_) ?_
 have h86:Vr.vd (vI .i64) _ _ _ _:=ht 28 rfl
 obtain⟨q87,Rc⟩:=h86
 exact StepOp_plain<|op_subw q87 rfl<|Gz hi
 refine Dw_nil fun w93 g94 hl95 hi96=>?_
 obtain⟨-,hst97,-⟩:=hl95
 obtain⟨hs99,p98⟩:=Step.nx hi96
 rintro _ rfl v100 h101
 replace h101:Vr.vd (vI .i64) _ _ _ _:=h101
 obtain⟨rfl,Rd⟩:=h101
 rintro v103 h104
 replace h104:Vr.vd (vC (rSl rXChoice)) _ _ _ _:=h104
 obtain⟨Ag,Cg,rfl,Fg⟩:=un_sl h104
 rintro _ ⟨p106,rfl,f107⟩ _ ⟨p108,rfl,f109⟩ _ rfl _ rfl _ rfl v110 h111
 replace h111:Vr.vd (vI .i64) _ _ _ _:=h111
 obtain⟨rfl,Re⟩:=h111
 rintro _ ⟨p113,rfl,f114⟩ _ rfl _ rfl
 have p115:=hs18.to hs99 (hst97.trans p98)
 replace Fg:=Fg.step p98;replace f107:=f107.step p98;replace f109:=f109.step p98;replace f114:=f114.step p98;clear hs18
 obtain⟨within_1,hv116,hm⟩:=bd hm
 refine Rop<|op_callE hs99 Try.call61 (c61_overflightref27_within (n:=b.getD i_1.toNat default) (lo:=0) (hi:=(IntKind.wrap .i64 ((((p.variables.getD i_1.toNat default).choices).length:Int) - 1))) hs99.ltw Re (show InK .i64 0 from by decide) (inK_wrap .i64 _) hv116) rfl ?_
 rintro v117 w118 p122 hs121 h120
 clear hs99
 obtain rfl:=h120
 refine Rop<|op_not rfl<|Rg_nil<|Wp_condM hm rfl (fun hc124 hm=>?_) (fun hc124 hm=>?_)
 refine Wp_seq ?_
 clear Fd Fg f107 f109 f114
 refine Wp_region<|Asg (Bo false) rfl<|Rg_nil<|Wp_ret<|⟨_,Clo,[Bo false],⟨rfl,trivial⟩,hs121.ext,?_⟩
 exact Vr.eq (a:=vB) (x:=false) rfl (oi hm)
 refine Wp_skip ?_
 clear Fg f107 f109 f114
 refine Wp_region<|Mve (Iv i_1) rfl<|Rop<|op_addw rfl rfl<|Asg (Iv (IntKind.wrap .i64 (i_1+1))) rfl<|Rg_nil ?_
 have p125:=(p115.trans p122)
 replace ch22:=ch22.trans p125
 exact hK15 _ _ ⟨(IntKind.wrap .i64 (i_1+1)),_,rfl,Frm.of ⟨rfl,trivial⟩,ch22,hs121,(inK_wrap .i64 _),jnE1 hsf14 hm⟩
 refine Wp_exit<|Wp_seq ?_
 obtain⟨hs126,p127⟩:=hs18.sub (bs':=[]) (.cons _ List.Sublist.slnil)
 clear Fa Fb Fc Fd
 clear hs18
 refine Wp_region<|Asg (Bo true) rfl<|Rg_nil<|Wp_ret<|⟨_,Clo,[Bo true],⟨rfl,trivial⟩,hs126.ext,?_⟩
 exact Vr.eq (a:=vB) (x:=true) rfl (oi hm)

abbrev q89_0:List Nat:=[4,5,6,7,8,9,10,11,12,13,14,15,16,17,18,19]

def m89_overflightref27_Counts_B0 (v:XVariable) (leaf:Int) (sf8:Int→Option Bool) (i_1:Int):Option Bool:=
 bif (decide (i_1<(v.leaves.length:Int))) then
  ck ((0:Int)≤i_1∧i_1<(v.leaves.length:Int))<|
  bif (decide ((v.leaves.getD i_1.toNat default)=leaf)) then
   some true
  else
   sf8 (IntKind.wrap .i64 (i_1+1))
 else
  some false

def m89_overflightref27_Counts (v:XVariable) (leaf:Int):Option Bool:=
 loop1 (m89_overflightref27_Counts_B0 v leaf) (((v.leaves.length:Int) - 0).toNat+1) 0

theorem c89_overflightref27_Counts {w:World} {O:List Nat} {v:XVariable} {leaf:Int} {Aa:Option Addr} {Ca:Nat} {Ab:Option Addr} {Cb:Nat} (hO:∀k∈O,k<w.heap.size) (Ra:InK .i64 v.flight) (Rb:InK .i64 v.node) (Fa:SlR (rInt .i64) w O Aa Ca v.leaves) (Fb:SlR rXChoice w O Ab Cb v.choices) (Rc:InK .i64 leaf) {x:Bool} (hm:m89_overflightref27_Counts v leaf=some x):
 Ok Try.prog 89 [Value.agg [Iv v.flight,Iv v.node,Sl Aa v.leaves Ca,Sl Ab v.choices Cb].toArray,Iv leaf] w O vB x:=by
 unfold m89_overflightref27_Counts at hm
 refine Fn_of_Wp (n:=20) (xs:=[.tmp 4]) Try.func89 rfl Try.ntmps89 Try.results89 rfl ?_
 have hs:=St.start hO
 refine Wp_seq<|Wp_region<|Rop<|op_box (cs:=[Iv v.flight,Iv v.node,Sl Aa v.leaves Ca,Sl Ab v.choices Cb]) hs rfl rfl ?_
 intro b1 w2 _ p3 hs4
 refine Asg (Bo false) rfl<|Rg_nil<|Wp_seq<|Wp_seq<|Wp_region<|Asg (Iv 0) rfl<|Rg_nil<|Wp_block<|Wr [] [(1,Iv leaf),(2,Pt b1 0),(5,Iv 0)] fun ξ7=>Wp_loopM q89_0 (fun m fr w'=>∃(i_1:Int) (Ebs:Ents),Ebs=[(some b1,Oc [Iv v.flight,Iv v.node,Sl Aa v.leaves Ca,Sl Ab v.choices Cb] 61)]∧fr [] [(5,Iv i_1)]∧hs4.S (ks Ebs O) w'∧St ⟨w,[],[]⟩ O w' Ebs∧InK .i64 i_1∧loop1 (m89_overflightref27_Counts_B0 v leaf) m i_1=some x) (((v.leaves.length:Int) - 0).toNat+1) ⟨0,_,rfl,Frm.of ⟨rfl,trivial⟩,Step.refl _ _,hs4,(show InK .i64 0 from by decide),hm⟩ ?_ ?_
 rintro _ _ ⟨_,_,_,_,_,_,_,hm⟩;exact loop1_z hm
 rintro m11 K10 hK10 ρ16 w12 ⟨i_1,_,rfl,hfr15,hst14,hs13,Rd,hm⟩
 obtain⟨sf8,hsf9,hm⟩:=loop1_s hm;unfold m89_overflightref27_Counts_B0 at hm
 rw [hfr15.eq];clear hfr15
 have ch17:=hst14
 refine Wp_seq<|Wp_seq<|Wp_region<|Mve (Iv i_1) rfl<|Rop<|op_fA 2 ty61 rfl ty31 rfl rfl<|Rop<|op_ld 0 ty31 hs13 rfl rfl rfl<|Rop<|op_len Try.underlying31 rfl ?_
 have p19:=(p3.trans hst14)
 replace Fa:=Fa.step p19
 have rl18:=inK_len Fa
 refine Rop<|op_lss rfl rfl<|Rg_nil<|Wp_condM hm rfl (fun hc20 hm=>?_) (fun hc20 hm=>?_)
 refine Wp_skip<|Wp_seq<|Wp_block<|Wp_seq<|Wp_region<|Rop<|op_fA 2 ty61 rfl ty31 rfl rfl<|Rop<|op_ld 0 ty31 hs13 rfl rfl rfl<|Mve (Iv i_1) rfl ?_
 obtain⟨hc21,hm⟩:=ck_some hm
 refine Rop<|op_indexAddr (q:=(rInt .i64)) ty31 ty3 rfl rfl Fa rfl hc21.1 hc21.2 ?_
 intro p22 f23
 refine Rop<|op_loadP ty3 rfl f23 rfl ?_
 intro v24 h25
 obtain⟨rfl,Re⟩:=un_int h25
 refine Mve (Iv leaf) rfl<|Rop<|op_eql rfl rfl<|Rg_nil<|Wp_condM hm rfl (fun hc27 hm=>?_) (fun hc27 hm=>?_)
 refine Wp_seq ?_
 clear f23
 refine Wp_region<|Asg (Bo true) rfl<|Rg_nil<|Wp_ret<|⟨_,Clo,[Bo true],⟨rfl,trivial⟩,hs13.ext,?_⟩
 exact Vr.eq (a:=vB) (x:=true) rfl (oi hm)
 refine Wp_skip ?_
 clear f23
 exact Wp_region<|Mve (Iv i_1) rfl<|Rop<|op_addw rfl rfl<|Asg (Iv (IntKind.wrap .i64 (i_1+1))) rfl<|Rg_nil<|hK10 _ _ ⟨(IntKind.wrap .i64 (i_1+1)),_,rfl,Frm.of ⟨rfl,trivial⟩,ch17,hs13,(inK_wrap .i64 _),jnE1 hsf9 hm⟩
 refine Wp_exit<|Wp_seq ?_
 obtain⟨hs28,p29⟩:=hs13.sub (bs':=[]) (.cons _ List.Sublist.slnil)
 clear Fa Fb
 clear hs13
 refine Wp_region<|Asg (Bo false) rfl<|Rg_nil<|Wp_ret<|⟨_,Clo,[Bo false],⟨rfl,trivial⟩,hs28.ext,?_⟩
 exact Vr.eq (a:=vB) (x:=false) rfl (oi hm)

abbrev q80_0:List Nat:=[7,10,11,43,44,45,46,47,48,49,50,51,52,53,54,55,56,57,58,59,60,61,62,63,64,65,66,67,68,69]

abbrev q80_1:List Nat:=[7,9,10,11,22,23,24,25,26,27,28,29,30,31,32,33,34,35,36,37,38,39,40,41,42,43,44,45,46,47,48,49,50,51,52,53,54,55,56,57,58,59,60,61,62,63,64,65,66,67,68,69]

abbrev q80_2:List Nat:=[7,8,9,10,11,16,17,18,19,20,21,22,23,24,25,26,27,28,29,30,31,32,33,34,35,36,37,38,39,40,41,42,43,44,45,46,47,48,49,50,51,52,53,54,55,56,57,58,59,60,61,62,63,64,65,66,67,68,69]

def m80_overflightref27_demand_B1 (p:XProblem) (b:List Int) (i_1:Int) (k33:(List Int)→Option (List Int)) (sf143:(List Int)→Int→Option (List Int)) (n_3:List Int) (k_1:Int):Option (List Int):=
 bif (decide (k_1<(((((p.variables.getD i_1.toNat default).choices).getD (b.getD i_1.toNat default).toNat default).uses).length:Int))) then
  ck ((0:Int)≤k_1∧k_1<(((((p.variables.getD i_1.toNat default).choices).getD (b.getD i_1.toNat default).toNat default).uses).length:Int))<|
  (m81_overflightref27_at p.cells ((((((p.variables.getD i_1.toNat default).choices).getD (b.getD i_1.toNat default).toNat default).uses).getD k_1.toNat default).cell)).bind fun at_1=>
  ck ((0:Int)≤at_1∧at_1<(n_3.length:Int))<|
  ck ((0:Int)≤k_1∧k_1<(((((p.variables.getD i_1.toNat default).choices).getD (b.getD i_1.toNat default).toNat default).uses).length:Int))<|
  ck ((0:Int)≤at_1∧at_1<(n_3.length:Int))<|
  sf143 (n_3.set at_1.toNat (IntKind.wrap .i64 ((n_3.getD at_1.toNat default)+((((((p.variables.getD i_1.toNat default).choices).getD (b.getD i_1.toNat default).toNat default).uses).getD k_1.toNat default).places)))) (IntKind.wrap .i64 (k_1+1))
 else
  k33 n_3

def m80_overflightref27_demand_B0 (p:XProblem) (b:List Int) (leaf:Int) (sf18:(List Int)→Int→Option (List Int)) (n_1:List Int) (i_1:Int):Option (List Int):=
 bif (decide (i_1<(b.length:Int))) then
  jn (fun(n_2:List Int)=>
   sf18 n_2 (IntKind.wrap .i64 (i_1+1)))
  (fun k33=>
   ck ((0:Int)≤i_1∧i_1<(p.variables.length:Int))<|
   (m89_overflightref27_Counts (p.variables.getD i_1.toNat default) leaf).bind fun counts_1=>
   bif (!counts_1) then
    k33 n_1
   else
    ck ((0:Int)≤i_1∧i_1<(p.variables.length:Int))<|
    ck ((0:Int)≤i_1∧i_1<(b.length:Int))<|
    ck ((0:Int)≤(b.getD i_1.toNat default)∧(b.getD i_1.toNat default)<(((p.variables.getD i_1.toNat default).choices).length:Int))<|
    loop2 (m80_overflightref27_demand_B1 p b i_1 k33) (((((((p.variables.getD i_1.toNat default).choices).getD (b.getD i_1.toNat default).toNat default).uses).length:Int) - 0).toNat+1) n_1 0)
 else
  some n_1

def m80_overflightref27_demand (p:XProblem) (b:List Int) (leaf:Int):Option (List Int):=
 ck ((0:Int)≤(p.cells.length:Int)∧(p.cells.length:Int)≤(p.cells.length:Int)∧(8:Int)*(p.cells.length:Int)≤281474976710656∧(p.cells.length:Int)≤281474976710656)<|
 loop2 (m80_overflightref27_demand_B0 p b leaf) (((b.length:Int) - 0).toNat+1) (List.replicate p.cells.length (0:Int)) 0

theorem g80_overflightref27_demand {w:World} {O:List Nat} {p:XProblem} {b:List Int} {leaf:Int} {Aa:Option Addr} {Ca:Nat} {Ab:Option Addr} {Cb:Nat} {Ac:Option Addr} {Cc:Nat} {Ad:Option Addr} {Cd:Nat} (hO:∀k∈O,k<w.heap.size) (Fa:SlR rXCell w O Aa Ca p.cells) (Fb:SlR (rSl (rInt .i64)) w O Ab Cb p.capacity) (Fc:SlR rXVariable w O Ac Cc p.variables) (Fd:SlR (rInt .i64) w O Ad Cd b) (Ra:InK .i64 leaf) {x:(List Int)} (hm:m80_overflightref27_demand p b leaf=some x):
 OkG Try.prog 80 [Value.agg [Sl Aa p.cells Ca,Sl Ab p.capacity Cb,Sl Ac p.variables Cc].toArray,Sl Ad b Cd,Iv leaf] w O (rInt .i64) 3 x:=by
 unfold m80_overflightref27_demand at hm
 refine Fn_of_Wp (n:=71) (xs:=[.tmp 6]) Try.func80 rfl Try.ntmps80 Try.results80 rfl ?_
 have hs:=St.start hO
 refine Wp_seq<|Wp_region<|Rop<|op_box (cs:=[Sl Aa p.cells Ca,Sl Ab p.capacity Cb,Sl Ac p.variables Cc]) hs rfl rfl ?_
 intro b1 w2 _ p3 hs4
 refine Asg (Value.slice none 0 0) rfl<|Rg_nil<|Wp_seq<|Wp_region<|Rop<|op_fA 0 ty26 rfl ty22 rfl rfl<|Rop<|op_ld 0 ty22 hs4 rfl rfl rfl<|Rop<|op_len Try.underlying22 rfl ?_
 replace Fa:=Fa.step p3
 have rl6:=inK_len Fa
 obtain⟨hc7,hm⟩:=ck_some hm
 refine Rop<|op_makeSliceI (q:=(rInt .i64)) (v:=Iv 0) (x0:=(0:Int)) ty31 ty3 hs4 rfl rfl hc7 rfl (fun _ _=>(mk_int (show InK .i64 0 from by decide))) ?_
 intro b8 w9 hx13 p10 hs11 f12
 clear hs4
 refine Asg (Sl (some ⟨b8,0,none⟩) (List.replicate p.cells.length (0:Int)) p.cells.length) rfl<|Rg_nil<|Wp_seq<|Wp_seq<|Wp_region<|Asg (Iv 0) rfl<|Rg_nil<|Wp_block<|Wr [] [(1,Sl Ad b Cd),(2,Iv leaf),(3,Pt b1 0),(7,Sl (some ⟨b8,0,none⟩) (List.replicate p.cells.length (0:Int)) p.cells.length),(8,Iv 0)] fun ξ17=>Wp_loopM q80_2 (fun m fr w'=>∃(n_1:List Int) (i_1:Int) (Ae:Option Addr) (Ce:Nat) (k_g15:Option Nat) (o_g15:Obj) (Ebs:Ents),Ebs=[(k_g15,o_g15),(some b1,Oc [Sl Aa p.cells Ca,Sl Ab p.capacity Cb,Sl Ac p.variables Cc] 26)]∧fr [] [(7,Sl Ae n_1 Ce),(8,Iv i_1)]∧hs11.S (ks Ebs O) w'∧St ⟨w,[],[]⟩ O w' Ebs∧Gs (rInt .i64) 3 w' (ks Ebs O) Ae Ce n_1 k_g15 o_g15∧InK .i64 i_1∧loop2 (m80_overflightref27_demand_B0 p b leaf) m n_1 i_1=some x) (((b.length:Int) - 0).toNat+1) ⟨List.replicate p.cells.length (0:Int),0,some ⟨b8,0,none⟩,p.cells.length,some b8,Obj.cells (List.replicate p.cells.length (Iv 0)).toArray 3,_,rfl,Frm.of ⟨rfl,rfl,trivial⟩,Step.refl _ _,hs11,f12,(show InK .i64 0 from by decide),hm⟩ ?_ ?_
 rintro _ _ ⟨_,_,_,_,_,_,_,_,_,_,_,_,_,hm⟩;exact loop2_z hm
 rintro m21 K20 hK20 ρ26 w22 ⟨n_1,i_1,Ae,Ce,k_g15,o_g15,_,rfl,hfr25,hst24,hs23,Fe,Rb,hm⟩
 obtain⟨sf18,hsf19,hm⟩:=loop2_s hm;unfold m80_overflightref27_demand_B0 at hm
 rw [hfr25.eq];clear hfr25
 have ch27:=hst24
 refine Wp_seq<|Wp_seq ?_
 clear f12
 refine Wp_region<|Mve (Iv i_1) rfl<|Mve (Sl Ad b Cd) rfl<|Rop<|op_len Try.underlying31 rfl ?_
 have p29:=(p3.trans (p10.trans hst24))
 replace Fd:=Fd.step p29
 have rl28:=inK_len Fd
 refine Rop<|op_lss rfl rfl<|Rg_nil<|Wp_condM hm rfl (fun hc30 hm=>?_) (fun hc30 hm=>?_)
 refine Wp_skip<|Wr2 q80_2 [] (updL ⟨ξ17,[]⟩ [(1,Sl Ad b Cd),(2,Iv leaf),(3,Pt b1 0),(7,Sl (some ⟨b8,0,none⟩) (List.replicate p.cells.length (0:Int)) p.cells.length),(8,Iv 0)]) [(7,Sl Ae n_1 Ce),(8,Iv i_1)] fun ξ31=>?_
 obtain⟨k33,hk34,hm⟩:=jn_elim hm
 refine Wp_seqJ q80_1 (fun fr w'=>∃(n_2:List Int) (Af:Option Addr) (Cf:Nat) (k_g32:Option Nat) (o_g32:Obj) (Ebs:Ents),Ebs=[(k_g32,o_g32),(some b1,Oc [Sl Aa p.cells Ca,Sl Ab p.capacity Cb,Sl Ac p.variables Cc] 26)]∧fr [] [(7,Sl Af n_2 Cf)]∧hs23.S (ks Ebs O) w'∧St ⟨w,[],[]⟩ O w' Ebs∧Gs (rInt .i64) 3 w' (ks Ebs O) Af Cf n_2 k_g32 o_g32∧k33 n_2=some x) ?_ ?_
 rintro ρ40 w36 ⟨n_2,Af,Cf,k_g32,o_g32,_,rfl,hfr39,hst38,hs37,Ff,hm⟩
 replace hm:=jnE1 hk34 hm
 rw [hfr39.eq];clear hfr39
 clear Fe
 refine Wp_region<|Mve (Iv i_1) rfl<|Rop<|op_addw rfl rfl<|Asg (Iv (IntKind.wrap .i64 (i_1+1))) rfl<|Rg_nil ?_
 replace ch27:=ch27.trans hst38
 exact hK20 _ _ ⟨n_2,(IntKind.wrap .i64 (i_1+1)),Af,Cf,k_g32,o_g32,_,rfl,Frm.of ⟨rfl,rfl,trivial⟩,ch27,hs37,Ff,(inK_wrap .i64 _),jnE2 hsf19 hm⟩
 intro K35 hK35
 have ch41:=hs23.stepR
 refine Wp_block<|Wp_seq<|Wp_seq<|Wp_region<|Rop<|op_fA 2 ty26 rfl ty24 rfl rfl<|Rop<|op_ld 1 ty24 hs23 rfl rfl rfl<|Mve (Iv i_1) rfl ?_
 obtain⟨hc42,hm⟩:=ck_some hm
 replace Fc:=Fc.step p29
 refine Rop<|op_indexAddr (q:=rXVariable) ty24 ty61 rfl rfl Fc rfl hc42.1 hc42.2 ?_
 intro p43 f44
 refine Rop<|op_loadPA ty61 rfl f44 rfl ?_
 intro vs45 h46
 obtain⟨_,_,rfl,⟨rfl,Rc⟩,⟨_,_,rfl,⟨rfl,Rd⟩,⟨_,_,rfl,⟨Ag,Cg,rfl,Fg⟩,⟨Ah,Ch,rfl,Fh⟩⟩⟩⟩:=h46
 refine Mve (Iv leaf) rfl ?_
 obtain⟨counts_1,hv48,hm⟩:=bd hm
 refine Rop<|op_callE hs23 Try.call89 (c89_overflightref27_Counts (v:=p.variables.getD i_1.toNat default) (leaf:=leaf) hs23.ltw Rc Rd Fg Fh Ra hv48) rfl ?_
 rintro v49 w50 p54 hs53 h52
 obtain rfl:=h52
 refine Rop<|op_not rfl<|Rg_nil<|Wp_condM hm rfl (fun hc56 hm=>?_) (fun hc56 hm=>?_)
 refine Wp_exit ?_
 replace ch41:=ch41.trans p54;replace Fe:=Fe.step p54
 exact hK35 _ _ ⟨n_1,Ae,Ce,k_g15,o_g15,_,rfl,Frm.of ⟨rfl,trivial⟩,ch41,hs53,Fe,hm⟩
 refine Wp_skip<|Wp_seq ?_
 clear f44 Fg Fh
 refine Wp_drawR (g0:=[]) (m:=10) (fl:=[]) (TS_inv hs53) rfl (.inl rfl) rfl (by decide+kernel) ?_  -- 6
 refine Dw_p (Pt b1 2) (fun _ _ _ hi ht=>op_fA 2 ty26 rfl ty24 (ht 3 rfl) rfl<|Gz hi)<|Dw_p (Sl Ac p.variables Cc) (fun _ _ _ hi ht=>op_ld 1 ty24 (Step.nx hi).1 (ht 30 rfl) rfl rfl<|Gz hi)<|Dw_p (Iv i_1) (fun _ _ _ hi ht=>op_move (v:=Iv i_1) (ht 8 rfl)<|Gz hi) ?_
 obtain⟨hc69,hm⟩:=ck_some hm
 replace Fc:=Fc.step p54
 refine Dw_op (VP _ _ rXVariable (p.variables.getD i_1.toNat default)) (VP.stab _ _) (fun ρ66 w67 g hle hi ht=>?_) ?_
 obtain⟨-,hst,-⟩:=hle
 replace Fc:=Fc.step hst
 refine StepOp_plain<|op_indexAddr (q:=rXVariable) ty24 ty61 (ht 31 rfl) (ht 32 rfl) Fc rfl hc69.1 hc69.2 ?_
 intro p70 f71
 exact Goes.same hi ⟨_,rfl,f71⟩
 refine Dw_op (VP _ _ (rSl rXChoice) ((p.variables.getD i_1.toNat default).choices)) (VP.stab _ _) (fun ρ72 w73 g hle hi ht=>?_) ?_
 obtain⟨p75,q76,f77⟩:=ht 33 rfl
 refine StepOp_plain<|op_fieldAddr ty61 rfl ty59 (by decide) q76 rfl ?_
 have f78:=f77.via.snd.snd.snd
 exact Goes.same hi ⟨_,rfl,f78⟩
 refine Dw_op (VD _ _ (vC (rSl rXChoice)) ((p.variables.getD i_1.toNat default).choices)) (VD.stab _ _) (fun ρ79 w80 g hle hi ht=>?_) ?_
 obtain⟨p82,q83,f84⟩:=ht 34 rfl
 refine StepOp_plain<|op_loadP ty59 q83 f84 rfl ?_
 intro v85 h86
 obtain⟨Ai,Ci,rfl,Fi⟩:=un_sl h86
 exact Goes.same hi (show Vr.vd (vC (rSl rXChoice)) _ _ _ _ from(mkC (mk_sl Fi)))
 refine Dw_p (Sl Ad b Cd) (fun _ _ _ hi ht=>op_move (v:=Sl Ad b Cd) (ht 1 rfl)<|Gz hi)<|Dw_p (Iv i_1) (fun _ _ _ hi ht=>op_move (v:=Iv i_1) (ht 8 rfl)<|Gz hi) ?_
 obtain⟨hc97,hm⟩:=ck_some hm
 replace Fd:=Fd.step p54
 refine Dw_op (VP _ _ (rInt .i64) (b.getD i_1.toNat default)) (VP.stab _ _) (fun ρ94 w95 g hle hi ht=>?_) ?_
 obtain⟨-,hst,-⟩:=hle
 replace Fd:=Fd.step hst
 refine StepOp_plain<|op_indexAddr (q:=(rInt .i64)) ty31 ty3 (ht 36 rfl) (ht 37 rfl) Fd rfl hc97.1 hc97.2 ?_
 intro p98 f99
 exact Goes.same hi ⟨_,rfl,f99⟩
 refine Dw_op (VD _ _ (vI .i64) (b.getD i_1.toNat default)) (VD.stab _ _) (fun ρ100 w101 g hle hi ht=>?_) ?_
 obtain⟨p103,q104,f105⟩:=ht 38 rfl
 refine StepOp_plain<|op_loadP ty3 q104 f105 rfl ?_
 intro v106 h107
 obtain⟨rfl,Re⟩:=un_int h107
 exact Goes.same hi (show Vr.vd (vI .i64) _ _ _ _ from⟨rfl,Re⟩)
 refine Dw_nil fun w113 g114 hl115 hi116=>?_
 obtain⟨-,hst117,-⟩:=hl115
 obtain⟨hs119,p118⟩:=Step.nx hi116
 rintro v120 h121
 replace h121:Vr.vd (vI .i64) _ _ _ _:=h121
 obtain⟨rfl,Rf⟩:=h121
 rintro _ ⟨p123,rfl,f124⟩ _ rfl _ rfl v125 h126
 replace h126:Vr.vd (vC (rSl rXChoice)) _ _ _ _:=h126
 obtain⟨Aj,Cj,rfl,Fj⟩:=un_sl h126
 rintro _ ⟨p128,rfl,f129⟩ _ ⟨p130,rfl,f131⟩ _ rfl _ rfl _ rfl
 have p132:=hs53.to hs119 (hst117.trans p118)
 replace f124:=f124.step p118;replace Fj:=Fj.step p118;replace f129:=f129.step p118;replace f131:=f131.step p118;clear hs53
 obtain⟨hc133,hm⟩:=ck_some hm
 refine Rop<|op_indexAddr (q:=rXChoice) ty59 ty58 rfl rfl Fj rfl hc133.1 hc133.2 ?_
 intro p134 f135
 refine Rop<|op_fieldAddr ty58 rfl ty56 (by decide) rfl rfl ?_
 have f136:=f135.via.snd.snd.snd
 refine Rop<|op_loadP ty56 rfl f136 rfl ?_
 intro v137 h138
 obtain⟨Ak,Ck,rfl,Fk⟩:=un_sl h138
 refine Asg (Sl Ak ((((p.variables.getD i_1.toNat default).choices).getD (b.getD i_1.toNat default).toNat default).uses) Ck) rfl<|Rg_nil<|Wp_seq ?_
 clear f124 Fj f129 f131 f135 f136
 refine Wp_region<|Asg (Iv 0) rfl<|Rg_nil<|Wp_block<|Wr2 q80_1 [] (updL (mix q80_2 [] ξ31 (updL ⟨ξ17,[]⟩ [(1,Sl Ad b Cd),(2,Iv leaf),(3,Pt b1 0),(7,Sl (some ⟨b8,0,none⟩) (List.replicate p.cells.length (0:Int)) p.cells.length),(8,Iv 0)])) [(7,Sl Ae n_1 Ce),(8,Iv i_1)]) [(7,Sl Ae n_1 Ce),(9,Sl Ak ((((p.variables.getD i_1.toNat default).choices).getD (b.getD i_1.toNat default).toNat default).uses) Ck),(10,Iv 0)] fun ξ142=>?_
 have p147:=(p54.trans p132)
 replace Fe:=Fe.step p147
 refine Wp_loopM q80_0 (fun m fr w'=>∃(n_3:List Int) (k_1:Int) (Al:Option Addr) (Cl:Nat) (k_g140:Option Nat) (o_g140:Obj) (Ebs:Ents),Ebs=[(k_g140,o_g140),(some b1,Oc [Sl Aa p.cells Ca,Sl Ab p.capacity Cb,Sl Ac p.variables Cc] 26)]∧fr [] [(7,Sl Al n_3 Cl),(10,Iv k_1)]∧hs119.S (ks Ebs O) w'∧St ⟨w,[],[]⟩ O w' Ebs∧Gs (rInt .i64) 3 w' (ks Ebs O) Al Cl n_3 k_g140 o_g140∧InK .i64 k_1∧loop2 (m80_overflightref27_demand_B1 p b i_1 k33) m n_3 k_1=some x) (((((((p.variables.getD i_1.toNat default).choices).getD (b.getD i_1.toNat default).toNat default).uses).length:Int) - 0).toNat+1) ⟨n_1,0,Ae,Ce,k_g15,o_g15,_,rfl,Frm.of ⟨rfl,rfl,trivial⟩,Step.refl _ _,hs119,Fe,(show InK .i64 0 from by decide),hm⟩ ?_ ?_
 rintro _ _ ⟨_,_,_,_,_,_,_,_,_,_,_,_,_,hm⟩;exact loop2_z hm
 rintro m146 K145 hK145 ρ152 w148 ⟨n_3,k_1,Al,Cl,k_g140,o_g140,_,rfl,hfr151,hst150,hs149,Fl,Rg,hm⟩
 obtain⟨sf143,hsf144,hm⟩:=loop2_s hm;unfold m80_overflightref27_demand_B1 at hm
 rw [hfr151.eq];clear hfr151
 have ch153:=hst150
 refine Wp_seq<|Wp_seq ?_
 clear Fe
 refine Wp_region<|Mve (Iv k_1) rfl<|Mve (Sl Ak ((((p.variables.getD i_1.toNat default).choices).getD (b.getD i_1.toNat default).toNat default).uses) Ck) rfl<|Rop<|op_len Try.underlying56 rfl ?_
 replace Fk:=Fk.step hst150
 have rl154:=inK_len Fk
 refine Rop<|op_lss rfl rfl<|Rg_nil<|Wp_condM hm rfl (fun hc155 hm=>?_) (fun hc155 hm=>?_)
 refine Wp_skip<|Wp_seq<|Wp_block<|Wp_seq<|Wp_drawR (g0:=[]) (m:=7) (fl:=[]) (TS_inv hs149) rfl (.inl rfl) rfl (by decide+kernel) ?_  -- 10
 refine Dw_p (Pt b1 0) (fun _ _ _ hi ht=>op_fA 0 ty26 rfl ty22 (ht 3 rfl) rfl<|Gz hi)<|Dw_p (Sl Aa p.cells Ca) (fun _ _ _ hi ht=>op_ld 1 ty22 (Step.nx hi).1 (ht 49 rfl) rfl rfl<|Gz hi)<|Dw_p (Sl Ak ((((p.variables.getD i_1.toNat default).choices).getD (b.getD i_1.toNat default).toNat default).uses) Ck) (fun _ _ _ hi ht=>op_move (v:=Sl Ak ((((p.variables.getD i_1.toNat default).choices).getD (b.getD i_1.toNat default).toNat default).uses) Ck) (ht 9 rfl)<|Gz hi)<|Dw_p (Iv k_1) (fun _ _ _ hi ht=>op_move (v:=Iv k_1) (ht 10 rfl)<|Gz hi) ?_
 obtain⟨hc171,hm⟩:=ck_some hm
 refine Dw_op (VP _ _ rXUse (((((p.variables.getD i_1.toNat default).choices).getD (b.getD i_1.toNat default).toNat default).uses).getD k_1.toNat default)) (VP.stab _ _) (fun ρ168 w169 g hle hi ht=>?_) ?_
 obtain⟨-,hst,-⟩:=hle
 replace Fk:=Fk.step hst
 refine StepOp_plain<|op_indexAddr (q:=rXUse) ty56 ty76 (ht 51 rfl) (ht 52 rfl) Fk rfl hc171.1 hc171.2 ?_
 intro p172 f173
 exact Goes.same hi ⟨_,rfl,f173⟩
 refine Dw_op (VP _ _ rXCell ((((((p.variables.getD i_1.toNat default).choices).getD (b.getD i_1.toNat default).toNat default).uses).getD k_1.toNat default).cell)) (VP.stab _ _) (fun ρ174 w175 g hle hi ht=>?_) ?_
 obtain⟨p177,q178,f179⟩:=ht 53 rfl
 refine StepOp_plain<|op_fieldAddr ty76 rfl ty67 (by decide) q178 rfl ?_
 have f180:=f179.via.fst
 exact Goes.same hi ⟨_,rfl,f180⟩
 refine Dw_op (VD _ _ (vA rXCell) ((((((p.variables.getD i_1.toNat default).choices).getD (b.getD i_1.toNat default).toNat default).uses).getD k_1.toNat default).cell)) (VD.stab _ _) (fun ρ181 w182 g hle hi ht=>?_) ?_
 obtain⟨p184,q185,f186⟩:=ht 54 rfl
 refine StepOp_plain<|op_loadPA ty67 q185 f186 rfl ?_
 intro vs187 h188
 obtain⟨_,_,rfl,rfl,⟨_,_,rfl,⟨rfl,Rh⟩,⟨rfl,Ri⟩⟩⟩:=h188
 exact Goes.same hi (show Vr.vd (vA rXCell) _ _ _ _ from(mkA (mkVia (mk_pair mkBool (mk_pair (mk_int Rh) (mk_int Ri))))))
 refine Dw_nil fun w194 g195 hl196 hi197=>?_
 obtain⟨-,hst198,-⟩:=hl196
 obtain⟨hs200,p199⟩:=Step.nx hi197
 rintro v201 h202
 replace h202:Vr.vd (vA rXCell) _ _ _ _:=h202
 obtain⟨_,rfl,⟨_,_,rfl,rfl,⟨_,_,rfl,⟨rfl,Rj⟩,⟨rfl,Rk⟩⟩⟩⟩:=h202
 rintro _ ⟨p204,rfl,f205⟩ _ ⟨p206,rfl,f207⟩ _ rfl _ rfl _ rfl _ rfl
 have p208:=hs149.to hs200 (hst198.trans p199)
 replace f205:=f205.step p199;replace f207:=f207.step p199;clear hs149
 obtain⟨at_1,hv209,hm⟩:=bd hm
 replace Fa:=Fa.step (p10.trans (hst24.trans (p54.trans (p132.trans (hst150.trans p208)))))
 refine Rop<|op_callE hs200 Try.call81 (c81_overflightref27_at (l:=p.cells) (c:=(((((p.variables.getD i_1.toNat default).choices).getD (b.getD i_1.toNat default).toNat default).uses).getD k_1.toNat default).cell) hs200.ltw Fa Rj Rk hv209) rfl ?_
 rintro v210 w211 p215 hs214 h213
 clear hs200
 obtain⟨rfl,Rl⟩:=h213
 refine Asg (Iv at_1) rfl<|Rg_nil ?_
 clear f205 f207
 refine Wp_drawR (g0:=[]) (m:=11) (fl:=[0,1]) (TS_inv hs214) rfl (.inl rfl) rfl (by decide+kernel) ?_  -- 11
 refine Dw_p (Sl Al n_3 Cl) (fun _ _ _ hi ht=>op_move (v:=Sl Al n_3 Cl) (ht 7 rfl)<|Gz hi)<|Dw_p (Iv at_1) (fun _ _ _ hi ht=>op_move (v:=Iv at_1) (ht 11 rfl)<|Gz hi)<|Dw_p (Sl Al n_3 Cl) (fun _ _ _ hi ht=>op_move (v:=Sl Al n_3 Cl) (ht 7 rfl)<|Gz hi)<|Dw_p (Iv at_1) (fun _ _ _ hi ht=>op_move (v:=Iv at_1) (ht 11 rfl)<|Gz hi) ?_
 obtain⟨hc232,hm⟩:=ck_some hm
 have p234:=(p208.trans p215)
 replace Fl:=Fl.step p234
 obtain⟨b233,rfl,rfl⟩:=Fl.at_ (by omega)
 refine Dw_eq (Value.pointer (some ⟨b233,at_1.toNat*1,none⟩)) (fun ρ229 w230 g hle hi ht=>?_) ?_
 obtain⟨-,hst,-⟩:=hle
 replace Fl:=Fl.step hst
 refine StepOp_plain<|op_indexAddrG ty31 ty3 (ht 59 rfl) (ht 60 rfl) Fl hc232 ?_
 rintro _ ⟨⟩ -
 exact Gz hi
 refine Dw_op (VD _ _ (vI .i64) (n_3.getD at_1.toNat default)) (VD.stab _ _) (fun ρ235 w236 g hle hi ht=>?_) ?_
 obtain⟨-,hst,-⟩:=hle
 replace Fl:=Fl.step hst
 have hsn:=(Step.nx hi).1
 refine StepOp_plain<|op_loadG (m:=at_1) (i:=0) ty3 rfl hsn rfl (ht 61 rfl) Fl hc232 ?_
 intro v238 h239
 obtain⟨rfl,Rm⟩:=un_int h239
 exact Goes.same hi (show Vr.vd (vI .i64) _ _ _ _ from⟨rfl,Rm⟩)
 refine Dw_p (Sl Ak ((((p.variables.getD i_1.toNat default).choices).getD (b.getD i_1.toNat default).toNat default).uses) Ck) (fun _ _ _ hi ht=>op_move (v:=Sl Ak ((((p.variables.getD i_1.toNat default).choices).getD (b.getD i_1.toNat default).toNat default).uses) Ck) (ht 9 rfl)<|Gz hi)<|Dw_p (Iv k_1) (fun _ _ _ hi ht=>op_move (v:=Iv k_1) (ht 10 rfl)<|Gz hi) ?_
 obtain⟨hc250,hm⟩:=ck_some hm
 replace Fk:=Fk.step p234
 refine Dw_op (VP _ _ rXUse (((((p.variables.getD i_1.toNat default).choices).getD (b.getD i_1.toNat default).toNat default).uses).getD k_1.toNat default)) (VP.stab _ _) (fun ρ247 w248 g hle hi ht=>?_) ?_
 obtain⟨-,hst,-⟩:=hle
 replace Fk:=Fk.step hst
 refine StepOp_plain<|op_indexAddr (q:=rXUse) ty56 ty76 (ht 63 rfl) (ht 64 rfl) Fk rfl hc250.1 hc250.2 ?_
 intro p251 f252
 exact Goes.same hi ⟨_,rfl,f252⟩
 refine Dw_op (VP _ _ (rInt .i64) ((((((p.variables.getD i_1.toNat default).choices).getD (b.getD i_1.toNat default).toNat default).uses).getD k_1.toNat default).places)) (VP.stab _ _) (fun ρ253 w254 g hle hi ht=>?_) ?_
 obtain⟨p256,q257,f258⟩:=ht 65 rfl
 refine StepOp_plain<|op_fieldAddr ty76 rfl ty3 (by decide) q257 rfl ?_
 have f259:=f258.via.snd
 exact Goes.same hi ⟨_,rfl,f259⟩
 refine Dw_op (VD _ _ (vI .i64) ((((((p.variables.getD i_1.toNat default).choices).getD (b.getD i_1.toNat default).toNat default).uses).getD k_1.toNat default).places)) (VD.stab _ _) (fun ρ260 w261 g hle hi ht=>?_) ?_
 obtain⟨p263,q264,f265⟩:=ht 66 rfl
 refine StepOp_plain<|op_loadP ty3 q264 f265 rfl ?_
 intro v266 h267
 obtain⟨rfl,Rn⟩:=un_int h267
 exact Goes.same hi (show Vr.vd (vI .i64) _ _ _ _ from⟨rfl,Rn⟩)
 refine Dw_nil fun w273 g274 hl275 hi276=>?_
 obtain⟨-,hst277,-⟩:=hl275
 obtain⟨hs279,p278⟩:=Step.nx hi276
 rintro v280 h281
 replace h281:Vr.vd (vI .i64) _ _ _ _:=h281
 obtain⟨rfl,Ro⟩:=h281
 rintro _ ⟨p283,rfl,f284⟩ _ ⟨p285,rfl,f286⟩ _ rfl _ rfl v287 h288
 replace h288:Vr.vd (vI .i64) _ _ _ _:=h288
 obtain⟨rfl,Rp⟩:=h288
 rintro _ rfl _ rfl _ rfl _ rfl _ rfl
 have p290:=hs214.to hs279 (hst277.trans p278)
 replace f284:=f284.step p278;replace f286:=f286.step p278;clear hs214
 refine Rop<|op_addw rfl rfl ?_
 obtain⟨hc291,hm⟩:=ck_some hm
 replace Fl:=Fl.step p290
 refine Rop<|op_indexAddrG ty31 ty3 rfl rfl Fl hc291 ?_
 rintro _ ⟨⟩ -
 refine Rg_op_<|op_storeG (vs:=[Iv (IntKind.wrap .i64 ((n_3.getD at_1.toNat default)+((((((p.variables.getD i_1.toNat default).choices).getD (b.getD i_1.toNat default).toNat default).uses).getD k_1.toNat default).places)))]) (i:=0) (m:=at_1) ty3 rfl hs279 rfl rfl rfl rfl Fl hc291 (mk_int (inK_wrap .i64 _)) ?_
 intro w293 o296 p294 hs295 f297
 clear hs279
 refine Rg_nil ?_
 clear f284 f286
 refine Wp_region<|Mve (Iv k_1) rfl<|Rop<|op_addw rfl rfl<|Asg (Iv (IntKind.wrap .i64 (k_1+1))) rfl<|Rg_nil ?_
 replace ch153:=ch153.trans (p234.trans (p290.trans p294))
 exact hK145 _ _ ⟨n_3.set at_1.toNat (IntKind.wrap .i64 ((n_3.getD at_1.toNat default)+((((((p.variables.getD i_1.toNat default).choices).getD (b.getD i_1.toNat default).toNat default).uses).getD k_1.toNat default).places))),(IntKind.wrap .i64 (k_1+1)),some ⟨b233,0,none⟩,Cl,some b233,o296,_,rfl,Frm.of ⟨eqlenV (show n_3.length=(n_3.set at_1.toNat (IntKind.wrap .i64 ((n_3.getD at_1.toNat default)+((((((p.variables.getD i_1.toNat default).choices).getD (b.getD i_1.toNat default).toNat default).uses).getD k_1.toNat default).places)))).length from by first |(simp;done) |(simp;omega)),rfl,trivial⟩,ch153,hs295,f297,(inK_wrap .i64 _),jnE2 hsf144 hm⟩
 refine Wp_exit ?_
 have p298:=(p147.trans hst150)
 replace ch41:=ch41.trans p298
 exact hK35 _ _ ⟨n_3,Al,Cl,k_g140,o_g140,_,rfl,Frm.of ⟨rfl,trivial⟩,ch41,hs149,Fl,hm⟩
 refine Wp_exit<|Wp_seq ?_
 obtain⟨hs299,p300⟩:=hs23.sub (bs':=[(k_g15,o_g15)]) (.cons_cons _ (.cons _ List.Sublist.slnil))
 clear Fa Fb Fc Fd
 refine Wp_region<|Mve (Sl Ae n_1 Ce) rfl<|Asg (Sl Ae n_1 Ce) rfl<|Rg_nil<|Wp_ret<|⟨_,Clo,[Sl Ae n_1 Ce],⟨rfl,trivial⟩,hs299.ext,?_⟩
 replace Fe:=Fe.step p300
 exact OkG.mk (i:=0) hs299 rfl Fe (oi hm)
abbrev q88_0:List Nat:=[5,8,20,21,22,23,24,25,26,27,28,29,30,31,32,33,34,35,36,37,38,39,40,41]

abbrev q88_1:List Nat:=[5,6,7,8,9,10,11,12,13,14,15,16,17,18,19,20,21,22,23,24,25,26,27,28,29,30,31,32,33,34,35,36,37,38,39,40,41]

def m88_overflightref27_Overload_B1 (p:XProblem) (leaf_1:Int) (sf9:Int→Int→Option Int) (demand_1:(List Int)) (sf39:Int→Int→Option Int) (sum_2:Int) (k_1:Int):Option Int:=
 bif (decide (k_1<(demand_1.length:Int))) then
  ck ((0:Int)≤k_1∧k_1<(demand_1.length:Int))<|
  ck ((0:Int)≤leaf_1∧leaf_1<(p.capacity.length:Int))<|
  ck ((0:Int)≤k_1∧k_1<((p.capacity.getD leaf_1.toNat default).length:Int))<|
  sf39 (IntKind.wrap .i64 (sum_2+(max 0 (IntKind.wrap .i64 ((demand_1.getD k_1.toNat default) - ((p.capacity.getD leaf_1.toNat default).getD k_1.toNat default)))))) (IntKind.wrap .i64 (k_1+1))
 else
  sf9 sum_2 (IntKind.wrap .i64 (leaf_1+1))

def m88_overflightref27_Overload_B0 (p:XProblem) (b:List Int) (sf9:Int→Int→Option Int) (sum_1:Int) (leaf_1:Int):Option Int:=
 bif (decide (leaf_1<(p.capacity.length:Int))) then
  (m80_overflightref27_demand p b leaf_1).bind fun demand_1=>
  loop2 (m88_overflightref27_Overload_B1 p leaf_1 sf9 demand_1) (((demand_1.length:Int) - 0).toNat+1) sum_1 0
 else
  some sum_1

def m88_overflightref27_Overload (p:XProblem) (b:List Int):Option Int:=
 loop2 (m88_overflightref27_Overload_B0 p b) (((p.capacity.length:Int) - 0).toNat+1) 0 0

theorem c88_overflightref27_Overload {w:World} {O:List Nat} {p:XProblem} {b:List Int} {Aa:Option Addr} {Ca:Nat} {Ab:Option Addr} {Cb:Nat} {Ac:Option Addr} {Cc:Nat} {Ad:Option Addr} {Cd:Nat} (hO:∀k∈O,k<w.heap.size) (Fa:SlR rXCell w O Aa Ca p.cells) (Fb:SlR (rSl (rInt .i64)) w O Ab Cb p.capacity) (Fc:SlR rXVariable w O Ac Cc p.variables) (Fd:SlR (rInt .i64) w O Ad Cd b) {x:Int} (hm:m88_overflightref27_Overload p b=some x):
 Ok Try.prog 88 [Value.agg [Sl Aa p.cells Ca,Sl Ab p.capacity Cb,Sl Ac p.variables Cc].toArray,Sl Ad b Cd] w O (vI .i64) x:=by
 unfold m88_overflightref27_Overload at hm
 refine Fn_of_Wp (n:=43) (xs:=[.tmp 4]) Try.func88 rfl Try.ntmps88 Try.results88 rfl ?_
 have hs:=St.start hO
 refine Wp_seq<|Wp_region<|Rop<|op_box (cs:=[Sl Aa p.cells Ca,Sl Ab p.capacity Cb,Sl Ac p.variables Cc]) hs rfl rfl ?_
 intro b1 w2 _ p3 hs4
 refine Asg (Iv 0) rfl<|Rg_nil<|Wp_seq<|Wp_region<|Asg (Iv 0) rfl<|Rg_nil<|Wp_seq<|Wp_seq<|Wp_region<|Asg (Iv 0) rfl<|Rg_nil<|Wp_block<|Wr [] [(1,Sl Ad b Cd),(2,Pt b1 0),(5,Iv 0),(6,Iv 0)] fun ξ8=>Wp_loopM q88_1 (fun m fr w'=>∃(sum_1:Int) (leaf_1:Int) (Ebs:Ents),Ebs=[(some b1,Oc [Sl Aa p.cells Ca,Sl Ab p.capacity Cb,Sl Ac p.variables Cc] 26)]∧fr [] [(5,Iv sum_1),(6,Iv leaf_1)]∧hs4.S (ks Ebs O) w'∧St ⟨w,[],[]⟩ O w' Ebs∧InK .i64 sum_1∧InK .i64 leaf_1∧loop2 (m88_overflightref27_Overload_B0 p b) m sum_1 leaf_1=some x) (((p.capacity.length:Int) - 0).toNat+1) ⟨0,0,_,rfl,Frm.of ⟨rfl,rfl,trivial⟩,Step.refl _ _,hs4,(show InK .i64 0 from by decide),(show InK .i64 0 from by decide),hm⟩ ?_ ?_
 rintro _ _ ⟨_,_,_,_,_,_,_,_,_,hm⟩;exact loop2_z hm
 rintro m12 K11 hK11 ρ17 w13 ⟨sum_1,leaf_1,_,rfl,hfr16,hst15,hs14,Ra,Rb,hm⟩
 obtain⟨sf9,hsf10,hm⟩:=loop2_s hm;unfold m88_overflightref27_Overload_B0 at hm
 rw [hfr16.eq];clear hfr16
 have ch18:=hst15
 refine Wp_seq<|Wp_seq<|Wp_region<|Mve (Iv leaf_1) rfl<|Rop<|op_fA 1 ty26 rfl ty23 rfl rfl<|Rop<|op_ld 0 ty23 hs14 rfl rfl rfl<|Rop<|op_len Try.underlying23 rfl ?_
 have p20:=(p3.trans hst15)
 replace Fb:=Fb.step p20
 have rl19:=inK_len Fb
 refine Rop<|op_lss rfl rfl<|Rg_nil<|Wp_condM hm rfl (fun hc21 hm=>?_) (fun hc21 hm=>?_)
 refine Wp_skip<|Wp_seq<|Wp_block<|Wp_seq<|Wp_region<|Rop<|op_ldA 0 ty26 hs14 rfl rfl rfl<|Mve (Sl Ad b Cd) rfl<|Mve (Iv leaf_1) rfl ?_
 obtain⟨demand_1,hv22,hm⟩:=bd hm
 replace Fd:=Fd.step p20;replace Fa:=Fa.step p20;replace Fc:=Fc.step p20
 refine Rop<|op_call Try.call80 (g80_overflightref27_demand (p:=p) (b:=b) (leaf:=leaf_1) hs14.ltw Fa Fb Fc Fd Rb hv22) rfl ?_
 rintro _ w24 ⟨hx25,a28,c29,k30,o31,rfl,hk32,f33⟩
 obtain⟨hs27,p34⟩:=hs14.callG (o:=o31) hx25 hk32
 rw [← ks_cons (o:=o31)] at f33
 clear hs14
 refine Asg (Sl a28 demand_1 c29) rfl<|Rg_nil<|Wp_seq<|Wp_region<|Asg (Iv 0) rfl<|Rg_nil<|Wp_block<|Wr2 q88_1 [] (updL ⟨ξ8,[]⟩ [(1,Sl Ad b Cd),(2,Pt b1 0),(5,Iv 0),(6,Iv 0)]) [(5,Iv sum_1),(6,Iv leaf_1),(7,Sl a28 demand_1 c29),(8,Iv 0)] fun ξ38=>Wp_loopM q88_0 (fun m fr w'=>∃(sum_2:Int) (k_1:Int) (Ebs:Ents),Ebs=[(k30,o31),(some b1,Oc [Sl Aa p.cells Ca,Sl Ab p.capacity Cb,Sl Ac p.variables Cc] 26)]∧fr [] [(5,Iv sum_2),(8,Iv k_1)]∧hs27.S (ks Ebs O) w'∧St ⟨w,[],[]⟩ O w' Ebs∧InK .i64 sum_2∧InK .i64 k_1∧loop2 (m88_overflightref27_Overload_B1 p leaf_1 sf9 demand_1) m sum_2 k_1=some x) (((demand_1.length:Int) - 0).toNat+1) ⟨sum_1,0,_,rfl,Frm.of ⟨rfl,rfl,trivial⟩,Step.refl _ _,hs27,Ra,(show InK .i64 0 from by decide),hm⟩ ?_ ?_
 rintro _ _ ⟨_,_,_,_,_,_,_,_,_,hm⟩;exact loop2_z hm
 rintro m42 K41 hK41 ρ47 w43 ⟨sum_2,k_1,_,rfl,hfr46,hst45,hs44,Rc,Rd,hm⟩
 obtain⟨sf39,hsf40,hm⟩:=loop2_s hm;unfold m88_overflightref27_Overload_B1 at hm
 rw [hfr46.eq];clear hfr46
 have ch48:=hst45
 refine Wp_seq<|Wp_seq<|Wp_region<|Mve (Iv k_1) rfl<|Mve (Sl a28 demand_1 c29) rfl<|Rop<|op_len Try.underlying31 rfl ?_
 replace f33:=f33.step hst45
 have rl49:=inK_lenG f33
 refine Rop<|op_lss rfl rfl<|Rg_nil<|Wp_condM hm rfl (fun hc50 hm=>?_) (fun hc50 hm=>?_)
 refine Wp_skip<|Wp_seq<|Wp_block<|Wp_drawR (g0:=[]) (m:=13) (fl:=[0]) (TS_inv hs44) rfl (.inl rfl) rfl (by decide+kernel) ?_  -- 9
 refine Dw_p (Iv sum_2) (fun _ _ _ hi ht=>op_move (v:=Iv sum_2) (ht 5 rfl)<|Gz hi)<|Dw_p (Sl a28 demand_1 c29) (fun _ _ _ hi ht=>op_move (v:=Sl a28 demand_1 c29) (ht 7 rfl)<|Gz hi)<|Dw_p (Iv k_1) (fun _ _ _ hi ht=>op_move (v:=Iv k_1) (ht 8 rfl)<|Gz hi) ?_
 obtain⟨hc63,hm⟩:=ck_some hm
 obtain⟨b64,rfl,rfl⟩:=f33.at_ (by omega)
 refine Dw_eq (Value.pointer (some ⟨b64,k_1.toNat*1,none⟩)) (fun ρ60 w61 g hle hi ht=>?_) ?_
 obtain⟨-,hst,-⟩:=hle
 replace f33:=f33.step hst
 refine StepOp_plain<|op_indexAddrG ty31 ty3 (ht 27 rfl) (ht 28 rfl) f33 hc63 ?_
 rintro _ ⟨⟩ -
 exact Gz hi
 refine Dw_op (VD _ _ (vI .i64) (demand_1.getD k_1.toNat default)) (VD.stab _ _) (fun ρ65 w66 g hle hi ht=>?_) ?_
 obtain⟨-,hst,-⟩:=hle
 replace f33:=f33.step hst
 have hsn:=(Step.nx hi).1
 refine StepOp_plain<|op_loadG (m:=k_1) (i:=0) ty3 rfl hsn rfl (ht 29 rfl) f33 hc63 ?_
 intro v68 h69
 obtain⟨rfl,Re⟩:=un_int h69
 exact Goes.same hi (show Vr.vd (vI .i64) _ _ _ _ from⟨rfl,Re⟩)
 refine Dw_p (Pt b1 1) (fun _ _ _ hi ht=>op_fA 1 ty26 rfl ty23 (ht 2 rfl) rfl<|Gz hi)<|Dw_p (Sl Ab p.capacity Cb) (fun _ _ _ hi ht=>op_ld 1 ty23 (Step.nx hi).1 (ht 31 rfl) rfl rfl<|Gz hi)<|Dw_p (Iv leaf_1) (fun _ _ _ hi ht=>op_move (v:=Iv leaf_1) (ht 6 rfl)<|Gz hi) ?_
 obtain⟨hc83,hm⟩:=ck_some hm
 have p86:=(p34.trans hst45)
 replace Fb:=Fb.step p86
 refine Dw_op (VP _ _ (rSl (rInt .i64)) (p.capacity.getD leaf_1.toNat default)) (VP.stab _ _) (fun ρ80 w81 g hle hi ht=>?_) ?_
 obtain⟨-,hst,-⟩:=hle
 replace Fb:=Fb.step hst
 refine StepOp_plain<|op_indexAddr (q:=rSl (rInt .i64)) ty23 ty31 (ht 32 rfl) (ht 33 rfl) Fb rfl hc83.1 hc83.2 ?_
 intro p84 f85
 exact Goes.same hi ⟨_,rfl,f85⟩
 refine Dw_op (VD _ _ (vC (rSl (rInt .i64))) (p.capacity.getD leaf_1.toNat default)) (VD.stab _ _) (fun ρ87 w88 g hle hi ht=>?_) ?_
 obtain⟨p90,q91,f92⟩:=ht 34 rfl
 refine StepOp_plain<|op_loadP ty31 q91 f92 rfl ?_
 intro v93 h94
 obtain⟨Ae,Ce,rfl,Fe⟩:=un_sl h94
 exact Goes.same hi (show Vr.vd (vC (rSl (rInt .i64))) _ _ _ _ from(mkC (mk_sl Fe)))
 refine Dw_p (Iv k_1) (fun _ _ _ hi ht=>op_move (v:=Iv k_1) (ht 8 rfl)<|Gz hi) ?_
 obtain⟨hc105,hm⟩:=ck_some hm
 refine Dw_op (VP _ _ (rInt .i64) ((p.capacity.getD leaf_1.toNat default).getD k_1.toNat default)) (VP.stab _ _) (fun ρ99 w100 g hle hi ht=>?_) ?_
 have h102:Vr.vd (vC (rSl (rInt .i64))) _ _ _ _:=ht 35 rfl
 obtain⟨Af,Cf,q103,Ff⟩:=un_sl h102
 refine StepOp_plain<|op_indexAddr (q:=(rInt .i64)) ty31 ty3 q103 (ht 36 rfl) Ff rfl hc105.1 hc105.2 ?_
 intro p106 f107
 exact Goes.same hi ⟨_,rfl,f107⟩
 refine Dw_op (VD _ _ (vI .i64) ((p.capacity.getD leaf_1.toNat default).getD k_1.toNat default)) (VD.stab _ _) (fun ρ108 w109 g hle hi ht=>?_) ?_
 obtain⟨p111,q112,f113⟩:=ht 37 rfl
 refine StepOp_plain<|op_loadP ty3 q112 f113 rfl ?_
 intro v114 h115
 obtain⟨rfl,Rf⟩:=un_int h115
 exact Goes.same hi (show Vr.vd (vI .i64) _ _ _ _ from⟨rfl,Rf⟩)
 refine Dw_nil fun w121 g122 hl123 hi124=>?_
 obtain⟨-,hst125,-⟩:=hl123
 obtain⟨hs127,p126⟩:=Step.nx hi124
 rintro v128 h129
 replace h129:Vr.vd (vI .i64) _ _ _ _:=h129
 obtain⟨rfl,Rg⟩:=h129
 rintro _ ⟨p131,rfl,f132⟩ _ rfl v133 h134
 replace h134:Vr.vd (vC (rSl (rInt .i64))) _ _ _ _:=h134
 obtain⟨Ag,Cg,rfl,Fg⟩:=un_sl h134
 rintro _ ⟨p136,rfl,f137⟩ _ rfl _ rfl _ rfl v138 h139
 replace h139:Vr.vd (vI .i64) _ _ _ _:=h139
 obtain⟨rfl,Rh⟩:=h139
 rintro _ rfl _ rfl _ rfl _ rfl
 have p141:=hs44.to hs127 (hst125.trans p126)
 replace f132:=f132.step p126;replace Fg:=Fg.step p126;replace f137:=f137.step p126;clear hs44
 refine Rop<|op_subw rfl rfl<|Rop<|op_max rfl rfl<|Rop<|op_addw rfl rfl<|Asg (Iv (IntKind.wrap .i64 (sum_2+(max 0 (IntKind.wrap .i64 ((demand_1.getD k_1.toNat default) - ((p.capacity.getD leaf_1.toNat default).getD k_1.toNat default))))))) rfl<|Rg_nil ?_
 clear f132 Fg f137
 refine Wp_region<|Mve (Iv k_1) rfl<|Rop<|op_addw rfl rfl<|Asg (Iv (IntKind.wrap .i64 (k_1+1))) rfl<|Rg_nil ?_
 replace ch48:=ch48.trans p141
 exact hK41 _ _ ⟨(IntKind.wrap .i64 (sum_2+(max 0 (IntKind.wrap .i64 ((demand_1.getD k_1.toNat default) - ((p.capacity.getD leaf_1.toNat default).getD k_1.toNat default)))))),(IntKind.wrap .i64 (k_1+1)),_,rfl,Frm.of ⟨rfl,rfl,trivial⟩,ch48,hs127,(inK_wrap .i64 _),(inK_wrap .i64 _),jnE2 hsf40 hm⟩
 refine Wp_exit ?_
 clear f33
 refine Wp_region<|Mve (Iv leaf_1) rfl<|Rop<|op_addw rfl rfl<|Asg (Iv (IntKind.wrap .i64 (leaf_1+1))) rfl<|Rg_nil ?_
 have hs142:=hs44.drop 0
 have p143:=(hs44.dropS 0)
 clear hs44
 have p144:=(p34.trans (hst45.trans p143))
 replace ch18:=ch18.trans p144
 exact hK11 _ _ ⟨sum_2,(IntKind.wrap .i64 (leaf_1+1)),_,rfl,Frm.of ⟨rfl,rfl,trivial⟩,ch18,hs142,Rc,(inK_wrap .i64 _),jnE2 hsf10 hm⟩
 refine Wp_exit<|Wp_seq ?_
 obtain⟨hs145,p146⟩:=hs14.sub (bs':=[]) (.cons _ List.Sublist.slnil)
 clear Fa Fb Fc Fd
 clear hs14
 refine Wp_region<|Mve (Iv sum_1) rfl<|Asg (Iv sum_1) rfl<|Rg_nil<|Wp_ret<|⟨_,Clo,[Iv sum_1],⟨rfl,trivial⟩,hs145.ext,?_⟩
 exact Vr.eq (a:=(vI .i64)) (x:=sum_1) ⟨rfl,Ra⟩ (oi hm)

abbrev q79_1:List Nat:=[7,8,9,10,32,33,34,35,36,37,38,39,40,41,42,43,44,45,46,47,48,49,50,51,52,53,54,55,56,57,58,59,60,61,62,63,64,65,66,67,68,69,70,71,72,73,74,75,76,77,78,79,80,81,82,83,84]

abbrev q79_0:List Nat:=[16,17,18,19,20,21,22,23,24,25,26,27]

def m79_overflightref27_Value_B0 (p:XProblem) (choices:List Int) (sf49:(List Int)→Int→Option ((List Int) × Int)) (v_2:List Int) (i_1:Int):Option ((List Int) × Int):=
 bif (decide (i_1<(choices.length:Int))) then
  ck ((0:Int)≤i_1∧i_1<(p.variables.length:Int))<|
  ck ((0:Int)≤i_1∧i_1<(choices.length:Int))<|
  ck ((0:Int)≤(choices.getD i_1.toNat default)∧(choices.getD i_1.toNat default)<(((p.variables.getD i_1.toNat default).choices).length:Int))<|
  ck ((0:Int)≤i_1∧i_1<(p.variables.length:Int))<|
  ck ((0:Int)≤1∧1<(v_2.length:Int))<|
  ck ((0:Int)≤1∧1<(v_2.length:Int))<|
  ck ((0:Int)≤2∧2<((v_2.set 1 (max (v_2.getD 1 default) ((((p.variables.getD i_1.toNat default).choices).getD (choices.getD i_1.toNat default).toNat default).delay))).length:Int))<|
  ck ((0:Int)≤2∧2<((v_2.set 1 (max (v_2.getD 1 default) ((((p.variables.getD i_1.toNat default).choices).getD (choices.getD i_1.toNat default).toNat default).delay))).length:Int))<|
  ck ((0:Int)≤3∧3<(((v_2.set 1 (max (v_2.getD 1 default) ((((p.variables.getD i_1.toNat default).choices).getD (choices.getD i_1.toNat default).toNat default).delay))).set 2 (IntKind.wrap .i64 (((v_2.set 1 (max (v_2.getD 1 default) ((((p.variables.getD i_1.toNat default).choices).getD (choices.getD i_1.toNat default).toNat default).delay))).getD 2 default)+(IntKind.wrap .i64 (((((p.variables.getD i_1.toNat default).choices).getD (choices.getD i_1.toNat default).toNat default).cost)*(((p.variables.getD i_1.toNat default).leaves).length:Int)))))).length:Int))<|
  ck ((0:Int)≤3∧3<(((v_2.set 1 (max (v_2.getD 1 default) ((((p.variables.getD i_1.toNat default).choices).getD (choices.getD i_1.toNat default).toNat default).delay))).set 2 (IntKind.wrap .i64 (((v_2.set 1 (max (v_2.getD 1 default) ((((p.variables.getD i_1.toNat default).choices).getD (choices.getD i_1.toNat default).toNat default).delay))).getD 2 default)+(IntKind.wrap .i64 (((((p.variables.getD i_1.toNat default).choices).getD (choices.getD i_1.toNat default).toNat default).cost)*(((p.variables.getD i_1.toNat default).leaves).length:Int)))))).length:Int))<|
  sf49 (((v_2.set 1 (max (v_2.getD 1 default) ((((p.variables.getD i_1.toNat default).choices).getD (choices.getD i_1.toNat default).toNat default).delay))).set 2 (IntKind.wrap .i64 (((v_2.set 1 (max (v_2.getD 1 default) ((((p.variables.getD i_1.toNat default).choices).getD (choices.getD i_1.toNat default).toNat default).delay))).getD 2 default)+(IntKind.wrap .i64 (((((p.variables.getD i_1.toNat default).choices).getD (choices.getD i_1.toNat default).toNat default).cost)*(((p.variables.getD i_1.toNat default).leaves).length:Int)))))).set 3 (IntKind.wrap .i64 ((((v_2.set 1 (max (v_2.getD 1 default) ((((p.variables.getD i_1.toNat default).choices).getD (choices.getD i_1.toNat default).toNat default).delay))).set 2 (IntKind.wrap .i64 (((v_2.set 1 (max (v_2.getD 1 default) ((((p.variables.getD i_1.toNat default).choices).getD (choices.getD i_1.toNat default).toNat default).delay))).getD 2 default)+(IntKind.wrap .i64 (((((p.variables.getD i_1.toNat default).choices).getD (choices.getD i_1.toNat default).toNat default).cost)*(((p.variables.getD i_1.toNat default).leaves).length:Int)))))).getD 3 default)+(IntKind.wrap .i64 (((((p.variables.getD i_1.toNat default).choices).getD (choices.getD i_1.toNat default).toNat default).changes)*(((p.variables.getD i_1.toNat default).leaves).length:Int)))))) (IntKind.wrap .i64 (i_1+1))
 else
  some (v_2,0)

def m79_overflightref27_Value (p:XProblem) (choices:List Int):Option ((List Int) × Int):=
 (m31_overflightref27_Check p).bind fun check_1=>
 bif (decide (check_1≠0)) then
  some (([]:List Int),check_1)
 else
  jn (fun(v_1:Bool)=>
   bif v_1 then
    some (([]:List Int),270)
   else
    (m88_overflightref27_Overload p choices).bind fun overload_1=>
    loop2 (m79_overflightref27_Value_B0 p choices) (((choices.length:Int) - 0).toNat+1) [overload_1,0,0,0] 0)
  (fun k19=>
   (m87_overflightref27_Branch p choices).bind fun branch_1=>
   bif (!branch_1) then
    k19 true
   else
    k19 (decide ((choices.length:Int)≠(p.variables.length:Int))))

theorem c79_overflightref27_Value {w:World} {O:List Nat} {p:XProblem} {choices:List Int} {Aa:Option Addr} {Ca:Nat} {Ab:Option Addr} {Cb:Nat} {Ac:Option Addr} {Cc:Nat} {Ad:Option Addr} {Cd:Nat} (hO:∀k∈O,k<w.heap.size) (Fa:SlR rXCell w O Aa Ca p.cells) (Fb:SlR (rSl (rInt .i64)) w O Ab Cb p.capacity) (Fc:SlR rXVariable w O Ac Cc p.variables) (Fd:SlR (rInt .i64) w O Ad Cd choices) {x:(List Int) × Int} (hm:m79_overflightref27_Value p choices=some x):
 Ok Try.prog 79 [Value.agg [Sl Aa p.cells Ca,Sl Ab p.capacity Cb,Sl Ac p.variables Cc].toArray,Sl Ad choices Cd] w O (vT2 (vC (rSl (rInt .i64))) (vI .i64)) x:=by
 unfold m79_overflightref27_Value at hm
 refine Fn_of_Wp (n:=86) (xs:=[.tmp 4,.tmp 5]) Try.func79 rfl Try.ntmps79 Try.results79 rfl ?_
 have hs:=St.start hO
 refine Wp_seq<|Wp_region<|Rop<|op_box (cs:=[Sl Aa p.cells Ca,Sl Ab p.capacity Cb,Sl Ac p.variables Cc]) hs rfl rfl ?_
 intro b1 w2 _ p3 hs4
 refine Asg (Value.slice none 0 0) rfl<|Asg (Iv 0) rfl<|Rg_nil<|Wp_seq<|Wp_region<|Rop<|op_ldA 0 ty26 hs4 rfl rfl rfl ?_
 obtain⟨check_1,hv6,hm⟩:=bd hm
 replace Fb:=Fb.step p3;replace Fa:=Fa.step p3;replace Fc:=Fc.step p3
 refine Rop<|op_callE hs4 Try.call31 (c31_overflightref27_Check (p:=p) hs4.ltw Fa Fb Fc hv6) rfl ?_
 rintro v7 w8 p12 hs11 h10
 clear hs4
 obtain⟨rfl,Ra⟩:=h10
 refine Asg (Iv check_1) rfl<|Rg_nil<|Wp_seq<|Wp_seq<|Wp_region<|Mve (Iv check_1) rfl<|Rop<|op_neq rfl rfl<|Rg_nil<|Wp_condM hm rfl (fun hc14 hm=>?_) (fun hc14 hm=>?_)
 refine Wp_seq ?_
 obtain⟨hs15,p16⟩:=hs11.sub (bs':=[]) (.cons _ List.Sublist.slnil)
 clear Fa Fb Fc Fd
 clear hs11
 refine Wp_region<|Mve (Iv check_1) rfl<|Asg (Value.slice none 0 0) rfl<|Asg (Iv check_1) rfl<|Rg_nil<|Wp_ret<|⟨_,Clo,[Value.slice none 0 0,Iv check_1],⟨rfl,rfl,trivial⟩,hs15.ext,?_⟩
 exact Vr.eq (a:=vT2 (vC (rSl (rInt .i64))) (vI .i64)) (x:=(([]:List Int),check_1)) (mkT2 (mkC (mk_sl SlR.nil_)) ⟨rfl,Ra⟩) (oi hm)
 refine Wp_skip<|Wp_seq<|Wr [] [(1,Sl Ad choices Cd),(2,Pt b1 0)] fun ξ17=>?_
 obtain⟨k19,hk20,hm⟩:=jn_elim hm
 refine Wp_seqJ q79_0 (fun fr w'=>∃(v_1:Bool) (Ebs:Ents),Ebs=[(some b1,Oc [Sl Aa p.cells Ca,Sl Ab p.capacity Cb,Sl Ac p.variables Cc] 26)]∧fr [] [(27,Bo v_1)]∧hs11.S (ks Ebs O) w'∧St ⟨w,[],[]⟩ O w' Ebs∧k19 v_1=some x) ?_ ?_
 rintro ρ26 w22 ⟨v_1,_,rfl,hfr25,hst24,hs23,hm⟩
 replace hm:=jnE1 hk20 hm
 rw [hfr25.eq];clear hfr25
 refine Wp_condM hm rfl (fun hc27 hm=>?_) (fun hc27 hm=>?_)
 refine Wp_seq ?_
 obtain⟨hs28,p29⟩:=hs23.sub (bs':=[]) (.cons _ List.Sublist.slnil)
 clear Fa Fb Fc Fd
 clear hs23
 refine Wp_region<|Asg (Value.slice none 0 0) rfl<|Asg (Iv 270) rfl<|Rg_nil<|Wp_ret<|⟨_,Clo,[Value.slice none 0 0,Iv 270],⟨rfl,rfl,trivial⟩,hs28.ext,?_⟩
 exact Vr.eq (a:=vT2 (vC (rSl (rInt .i64))) (vI .i64)) (x:=(([]:List Int),270)) (mkT2 (mkC (mk_sl SlR.nil_)) ⟨rfl,(show InK .i64 270 from by decide)⟩) (oi hm)
 refine Wp_skip<|Wp_seq<|Wp_region<|Rop<|op_ldA 0 ty26 hs23 rfl rfl rfl<|Mve (Sl Ad choices Cd) rfl ?_
 obtain⟨overload_1,hv30,hm⟩:=bd hm
 replace Fd:=Fd.step (p3.trans (p12.trans hst24))
 have p36:=(p12.trans hst24)
 replace Fb:=Fb.step p36;replace Fa:=Fa.step p36;replace Fc:=Fc.step p36
 refine Rop<|op_callE hs23 Try.call88 (c88_overflightref27_Overload (p:=p) (b:=choices) hs23.ltw Fa Fb Fc Fd hv30) rfl ?_
 rintro v31 w32 p37 hs35 h34
 clear hs23
 obtain⟨rfl,Rb⟩:=h34
 refine Rop<|op_buildSlice (cs:=[Iv overload_1,Iv 0,Iv 0,Iv 0]) (parts:=[(0,.tmp 30),(1,.const (.int .i64 0)),(2,.const (.int .i64 0)),(3,.const (.int .i64 0))]) ty31 ty3 hs35 (by decide) rfl ?_
 intro b39 w40 hx43 p41 hs42
 clear hs35
 have f45:=Gs.of_cells (p:=(rInt .i64)) (e:=3) (bl:=b39) (c:=4) (w:=w40) (O:=ks [(some b39,Oc [Iv overload_1,Iv 0,Iv 0,Iv 0] 3),(some b1,Oc [Sl Aa p.cells Ca,Sl Ab p.capacity Cb,Sl Ac p.variables Cc] 26)] O) (show Els (rInt .i64) _ _ [Iv overload_1,Iv 0,Iv 0,Iv 0] [overload_1,0,0,0] from⟨_,_,rfl,mk_int Rb,⟨_,_,rfl,mk_int (show InK .i64 0 from by decide),⟨_,_,rfl,mk_int (show InK .i64 0 from by decide),⟨_,_,rfl,mk_int (show InK .i64 0 from by decide),Els.nil⟩⟩⟩⟩) rfl (le_lit rfl)
 refine Asg (Sl (some ⟨b39,0,none⟩) [overload_1,0,0,0] 4) rfl<|Rg_nil<|Wp_seq<|Wp_seq<|Wp_region<|Asg (Iv 0) rfl<|Rg_nil<|Wp_block<|Wr [] [(1,Sl Ad choices Cd),(2,Pt b1 0),(7,Sl (some ⟨b39,0,none⟩) [overload_1,0,0,0] 4),(8,Iv 0)] fun ξ48=>Wp_loopM q79_1 (fun m fr w'=>∃(v_2:List Int) (i_1:Int) (Ae:Option Addr) (Ce:Nat) (k_g46:Option Nat) (o_g46:Obj) (Ebs:Ents),Ebs=[(k_g46,o_g46),(some b1,Oc [Sl Aa p.cells Ca,Sl Ab p.capacity Cb,Sl Ac p.variables Cc] 26)]∧fr [] [(7,Sl Ae v_2 Ce),(8,Iv i_1)]∧hs42.S (ks Ebs O) w'∧St ⟨w,[],[]⟩ O w' Ebs∧Gs (rInt .i64) 3 w' (ks Ebs O) Ae Ce v_2 k_g46 o_g46∧InK .i64 i_1∧loop2 (m79_overflightref27_Value_B0 p choices) m v_2 i_1=some x) (((choices.length:Int) - 0).toNat+1) ⟨[overload_1,0,0,0],0,some ⟨b39,0,none⟩,4,some b39,Obj.cells [Iv overload_1,Iv 0,Iv 0,Iv 0].toArray 3,_,rfl,Frm.of ⟨rfl,rfl,trivial⟩,Step.refl _ _,hs42,f45,(show InK .i64 0 from by decide),hm⟩ ?_ ?_
 rintro _ _ ⟨_,_,_,_,_,_,_,_,_,_,_,_,_,hm⟩;exact loop2_z hm
 rintro m52 K51 hK51 ρ57 w53 ⟨v_2,i_1,Ae,Ce,k_g46,o_g46,_,rfl,hfr56,hst55,hs54,Fe,Rc,hm⟩
 obtain⟨sf49,hsf50,hm⟩:=loop2_s hm;unfold m79_overflightref27_Value_B0 at hm
 rw [hfr56.eq];clear hfr56
 have ch58:=hst55
 refine Wp_seq<|Wp_seq ?_
 clear f45
 refine Wp_region<|Mve (Iv i_1) rfl<|Mve (Sl Ad choices Cd) rfl<|Rop<|op_len Try.underlying31 rfl ?_
 have p60:=(p37.trans (p41.trans hst55))
 replace Fd:=Fd.step p60
 have rl59:=inK_len Fd
 refine Rop<|op_lss rfl rfl<|Rg_nil<|Wp_condM hm rfl (fun hc61 hm=>?_) (fun hc61 hm=>?_)
 refine Wp_skip<|Wp_seq<|Wp_block<|Wp_seq<|Wp_drawR (g0:=[]) (m:=13) (fl:=[]) (TS_inv hs54) rfl (.inl rfl) rfl (by decide+kernel) ?_  -- 10
 refine Dw_p (Pt b1 2) (fun _ _ _ hi ht=>op_fA 2 ty26 rfl ty24 (ht 2 rfl) rfl<|Gz hi)<|Dw_p (Sl Ac p.variables Cc) (fun _ _ _ hi ht=>op_ld 1 ty24 (Step.nx hi).1 (ht 38 rfl) rfl rfl<|Gz hi)<|Dw_p (Iv i_1) (fun _ _ _ hi ht=>op_move (v:=Iv i_1) (ht 8 rfl)<|Gz hi) ?_
 obtain⟨hc74,hm⟩:=ck_some hm
 replace Fc:=Fc.step p60
 refine Dw_op (VP _ _ rXVariable (p.variables.getD i_1.toNat default)) (VP.stab _ _) (fun ρ71 w72 g hle hi ht=>?_) ?_
 obtain⟨-,hst,-⟩:=hle
 replace Fc:=Fc.step hst
 refine StepOp_plain<|op_indexAddr (q:=rXVariable) ty24 ty61 (ht 39 rfl) (ht 40 rfl) Fc rfl hc74.1 hc74.2 ?_
 intro p75 f76
 exact Goes.same hi ⟨_,rfl,f76⟩
 refine Dw_op (VP _ _ (rSl rXChoice) ((p.variables.getD i_1.toNat default).choices)) (VP.stab _ _) (fun ρ77 w78 g hle hi ht=>?_) ?_
 obtain⟨p80,q81,f82⟩:=ht 41 rfl
 refine StepOp_plain<|op_fieldAddr ty61 rfl ty59 (by decide) q81 rfl ?_
 have f83:=f82.via.snd.snd.snd
 exact Goes.same hi ⟨_,rfl,f83⟩
 refine Dw_op (VD _ _ (vC (rSl rXChoice)) ((p.variables.getD i_1.toNat default).choices)) (VD.stab _ _) (fun ρ84 w85 g hle hi ht=>?_) ?_
 obtain⟨p87,q88,f89⟩:=ht 42 rfl
 refine StepOp_plain<|op_loadP ty59 q88 f89 rfl ?_
 intro v90 h91
 obtain⟨Af,Cf,rfl,Ff⟩:=un_sl h91
 exact Goes.same hi (show Vr.vd (vC (rSl rXChoice)) _ _ _ _ from(mkC (mk_sl Ff)))
 refine Dw_p (Sl Ad choices Cd) (fun _ _ _ hi ht=>op_move (v:=Sl Ad choices Cd) (ht 1 rfl)<|Gz hi)<|Dw_p (Iv i_1) (fun _ _ _ hi ht=>op_move (v:=Iv i_1) (ht 8 rfl)<|Gz hi) ?_
 obtain⟨hc102,hm⟩:=ck_some hm
 refine Dw_op (VP _ _ (rInt .i64) (choices.getD i_1.toNat default)) (VP.stab _ _) (fun ρ99 w100 g hle hi ht=>?_) ?_
 obtain⟨-,hst,-⟩:=hle
 replace Fd:=Fd.step hst
 refine StepOp_plain<|op_indexAddr (q:=(rInt .i64)) ty31 ty3 (ht 44 rfl) (ht 45 rfl) Fd rfl hc102.1 hc102.2 ?_
 intro p103 f104
 exact Goes.same hi ⟨_,rfl,f104⟩
 refine Dw_op (VD _ _ (vI .i64) (choices.getD i_1.toNat default)) (VD.stab _ _) (fun ρ105 w106 g hle hi ht=>?_) ?_
 obtain⟨p108,q109,f110⟩:=ht 46 rfl
 refine StepOp_plain<|op_loadP ty3 q109 f110 rfl ?_
 intro v111 h112
 obtain⟨rfl,Rd⟩:=un_int h112
 exact Goes.same hi (show Vr.vd (vI .i64) _ _ _ _ from⟨rfl,Rd⟩)
 obtain⟨hc123,hm⟩:=ck_some hm
 refine Dw_op (VP _ _ rXChoice (((p.variables.getD i_1.toNat default).choices).getD (choices.getD i_1.toNat default).toNat default)) (VP.stab _ _) (fun ρ114 w115 g hle hi ht=>?_) ?_
 have h117:Vr.vd (vC (rSl rXChoice)) _ _ _ _:=ht 43 rfl
 obtain⟨Ag,Cg,q118,Fg⟩:=un_sl h117
 have h120:Vr.vd (vI .i64) _ _ _ _:=ht 47 rfl
 obtain⟨q121,Re⟩:=h120
 refine StepOp_plain<|op_indexAddr (q:=rXChoice) ty59 ty58 q118 q121 Fg rfl hc123.1 hc123.2 ?_
 intro p124 f125
 exact Goes.same hi ⟨_,rfl,f125⟩
 refine Dw_op (VD _ _ (vA rXChoice) (((p.variables.getD i_1.toNat default).choices).getD (choices.getD i_1.toNat default).toNat default)) (VD.stab _ _) (fun ρ126 w127 g hle hi ht=>?_) ?_
 obtain⟨p129,q130,f131⟩:=ht 48 rfl
 refine StepOp_plain<|op_loadPA ty58 q130 f131 rfl ?_
 intro vs132 h133
 obtain⟨_,_,rfl,⟨rfl,Rf⟩,⟨_,_,rfl,⟨rfl,Rg⟩,⟨_,_,rfl,⟨rfl,Rh⟩,⟨Ah,Ch,rfl,Fh⟩⟩⟩⟩:=h133
 exact Goes.same hi (show Vr.vd (vA rXChoice) _ _ _ _ from(mkA (mkVia (mk_pair (mk_int Rf) (mk_pair (mk_int Rg) (mk_pair (mk_int Rh) (mk_sl Fh)))))))
 refine Dw_op (VN 9 (Obj.cells [Iv 0,Iv 0,Iv 0,Value.slice none 0 0].toArray 58)) (VN.stab _ _) (fun ρ135 w136 g hle hi ht=>?_) ?_
 refine StepOp_plain<|op_alloc ty58 hi ?_
 intro b138 w139 hx142 p140 hs141;exact Goes.new hi p140 hs141 hx142
 refine Dw_nil fun w147 g148 hl149 hi150=>?_
 obtain⟨-,hst151,-⟩:=hl149
 rintro _ ⟨b154,rfl,h155⟩ v157 h158
 replace h158:Vr.vd (vA rXChoice) _ _ _ _:=h158
 obtain⟨_,rfl,⟨_,_,rfl,⟨rfl,Ri⟩,⟨_,_,rfl,⟨rfl,Rj⟩,⟨_,_,rfl,⟨rfl,Rk⟩,⟨Ai,Ci,rfl,Fi⟩⟩⟩⟩⟩:=h158
 rintro _ ⟨p160,rfl,f161⟩ v162 h163
 replace h163:Vr.vd (vI .i64) _ _ _ _:=h163
 obtain⟨rfl,Rl⟩:=h163
 rintro _ ⟨p165,rfl,f166⟩ _ rfl _ rfl v167 h168
 replace h168:Vr.vd (vC (rSl rXChoice)) _ _ _ _:=h168
 obtain⟨Aj,Cj,rfl,Fj⟩:=un_sl h168
 rintro _ ⟨p170,rfl,f171⟩ _ ⟨p172,rfl,f173⟩ _ rfl _ rfl _ rfl
 obtain⟨hs153,p152⟩:=Step.nx1 hi150 h155
 have p174:=hs54.to hs153 (hst151.trans p152)
 replace Fi:=Fi.step p152;replace f161:=f161.step p152;replace f166:=f166.step p152;replace Fj:=Fj.step p152;replace f171:=f171.step p152;replace f173:=f173.step p152;clear hs54
 refine Rg_op_<|op_stA .z ty58 hs153 rfl rfl rfl rfl rfl ?_
 intro w175 p176 hs177
 clear hs153
 refine Rg_nil<|Wp_seq ?_
 clear f161 f166 Fj f171 f173
 refine Wp_region<|Rop<|op_fA 2 ty26 rfl ty24 rfl rfl<|Rop<|op_ld 2 ty24 hs177 rfl rfl rfl<|Mve (Iv i_1) rfl ?_
 obtain⟨hc178,hm⟩:=ck_some hm
 have p181:=(p174.trans p176)
 replace Fc:=Fc.step p181
 refine Rop<|op_indexAddr (q:=rXVariable) ty24 ty61 rfl rfl Fc rfl hc178.1 hc178.2 ?_
 intro p179 f180
 refine Rop<|op_fieldAddr ty61 rfl ty31 (by decide) rfl rfl ?_
 have f182:=f180.via.snd.snd.fst
 refine Rop<|op_loadP ty31 rfl f182 rfl ?_
 intro v183 h184
 obtain⟨Ak,Ck,rfl,Fk⟩:=un_sl h184
 refine Rop<|op_len Try.underlying31 rfl ?_
 have rl186:=inK_len Fk
 refine Asg (Iv (((p.variables.getD i_1.toNat default).leaves).length:Int)) rfl<|Rg_nil<|Wp_seq ?_
 clear f180 f182 Fk
 refine Wr2 q79_1 [] (updL ⟨ξ48,[]⟩ [(1,Sl Ad choices Cd),(2,Pt b1 0),(7,Sl (some ⟨b39,0,none⟩) [overload_1,0,0,0] 4),(8,Iv 0)]) [(7,Sl Ae v_2 Ce),(8,Iv i_1),(9,Pt b154 0),(10,Iv (((p.variables.getD i_1.toNat default).leaves).length:Int))] fun ξ187=>Wp_drawR (g0:=[]) (m:=6) (fl:=[0]) (TS_inv hs177) rfl (.inl rfl) rfl (by decide+kernel) ?_  -- 12
 refine Dw_p (Sl Ae v_2 Ce) (fun _ _ _ hi ht=>op_move (v:=Sl Ae v_2 Ce) (ht 7 rfl)<|Gz hi)<|Dw_p (Sl Ae v_2 Ce) (fun _ _ _ hi ht=>op_move (v:=Sl Ae v_2 Ce) (ht 7 rfl)<|Gz hi) ?_
 obtain⟨hc197,hm⟩:=ck_some hm
 replace Fe:=Fe.step p181
 obtain⟨b198,rfl,rfl⟩:=Fe.at_ (by omega)
 refine Dw_eq (Value.pointer (some ⟨b198,1*1,none⟩)) (fun ρ194 w195 g hle hi ht=>?_) ?_
 obtain⟨-,hst,-⟩:=hle
 replace Fe:=Fe.step hst
 refine StepOp_plain<|op_indexAddrG ty31 ty3 (ht 58 rfl) rfl Fe hc197 ?_
 rintro _ ⟨⟩ -
 exact Gz hi
 refine Dw_op (VD _ _ (vI .i64) (v_2.getD 1 default)) (VD.stab _ _) (fun ρ199 w200 g hle hi ht=>?_) ?_
 obtain⟨-,hst,-⟩:=hle
 replace Fe:=Fe.step hst
 have hsn:=(Step.nx hi).1
 refine StepOp_plain<|op_loadG (m:=1) (i:=1) ty3 rfl hsn rfl (ht 59 rfl) Fe hc197 ?_
 intro v202 h203
 obtain⟨rfl,Rm⟩:=un_int h203
 exact Goes.same hi (show Vr.vd (vI .i64) _ _ _ _ from⟨rfl,Rm⟩)
 refine Dw_p (Pt b154 0) (fun _ _ _ hi ht=>op_fA 0 ty58 rfl ty3 (ht 9 rfl) rfl<|Gz hi)<|Dw_p (Iv ((((p.variables.getD i_1.toNat default).choices).getD (choices.getD i_1.toNat default).toNat default).delay)) (fun _ _ _ hi ht=>op_ld 0 ty3 (Step.nx hi).1 (ht 61 rfl) rfl rfl<|Gz hi)<|Dw_nil fun w215 g216 hl217 hi218=>?_
 obtain⟨-,hst219,-⟩:=hl217
 obtain⟨hs221,p220⟩:=Step.nx hi218
 rintro _ rfl _ rfl v222 h223
 replace h223:Vr.vd (vI .i64) _ _ _ _:=h223
 obtain⟨rfl,Rn⟩:=h223
 rintro _ rfl _ rfl _ rfl
 have p225:=hs177.to hs221 (hst219.trans p220)
 clear hs177
 refine Rop<|op_max rfl rfl ?_
 obtain⟨hc226,hm⟩:=ck_some hm
 replace Fe:=Fe.step p225
 refine Rop<|op_indexAddrG ty31 ty3 rfl rfl Fe hc226 ?_
 rintro _ ⟨⟩ -
 refine Rg_op_<|op_storeG (vs:=[Iv (max (v_2.getD 1 default) ((((p.variables.getD i_1.toNat default).choices).getD (choices.getD i_1.toNat default).toNat default).delay))]) (i:=1) (m:=1) ty3 rfl hs221 rfl rfl rfl rfl Fe hc226 (mk_int (inK_max Rn Ri)) ?_
 intro w228 o231 p229 hs230 f232
 clear hs221
 refine Rg_nil<|Wp_seq<|Wp_drawR (g0:=[]) (m:=8) (fl:=[0]) (TS_inv hs230) rfl (.inl rfl) rfl (by decide+kernel) ?_  -- 13
 refine Dw_eq (Sl (some ⟨b198,0,none⟩) (v_2.set 1 (max (v_2.getD 1 default) ((((p.variables.getD i_1.toNat default).choices).getD (choices.getD i_1.toNat default).toNat default).delay))) Ce) (fun ρ233 w234 g hle hi ht=>?_) ?_
 refine StepOp_plain (op_move (v:=Sl (some ⟨b198,0,none⟩) (v_2.set 1 (max (v_2.getD 1 default) ((((p.variables.getD i_1.toNat default).choices).getD (choices.getD i_1.toNat default).toNat default).delay))) Ce) (eqlen (ht 7 rfl) (show v_2.length=(v_2.set 1 (max (v_2.getD 1 default) ((((p.variables.getD i_1.toNat default).choices).getD (choices.getD i_1.toNat default).toNat default).delay))).length from by first |(simp;done) |(simp;omega))) ?_)
 exact Gz hi
 refine Dw_eq (Sl (some ⟨b198,0,none⟩) (v_2.set 1 (max (v_2.getD 1 default) ((((p.variables.getD i_1.toNat default).choices).getD (choices.getD i_1.toNat default).toNat default).delay))) Ce) (fun ρ236 w237 g hle hi ht=>?_) ?_
 refine StepOp_plain (op_move (v:=Sl (some ⟨b198,0,none⟩) (v_2.set 1 (max (v_2.getD 1 default) ((((p.variables.getD i_1.toNat default).choices).getD (choices.getD i_1.toNat default).toNat default).delay))) Ce) (eqlen (ht 7 rfl) (show v_2.length=(v_2.set 1 (max (v_2.getD 1 default) ((((p.variables.getD i_1.toNat default).choices).getD (choices.getD i_1.toNat default).toNat default).delay))).length from by first |(simp;done) |(simp;omega))) ?_)
 exact Gz hi
 obtain⟨hc242,hm⟩:=ck_some hm
 refine Dw_eq (Value.pointer (some ⟨b198,2*1,none⟩)) (fun ρ239 w240 g hle hi ht=>?_) ?_
 obtain⟨-,hst,-⟩:=hle
 replace f232:=f232.step hst
 refine StepOp_plain<|op_indexAddrG ty31 ty3 (ht 66 rfl) rfl f232 hc242 ?_
 rintro _ ⟨⟩ -
 exact Gz hi
 refine Dw_op (VD _ _ (vI .i64) ((v_2.set 1 (max (v_2.getD 1 default) ((((p.variables.getD i_1.toNat default).choices).getD (choices.getD i_1.toNat default).toNat default).delay))).getD 2 default)) (VD.stab _ _) (fun ρ244 w245 g hle hi ht=>?_) ?_
 obtain⟨-,hst,-⟩:=hle
 replace f232:=f232.step hst
 have hsn:=(Step.nx hi).1
 refine StepOp_plain<|op_loadG (m:=2) (i:=1) ty3 rfl hsn rfl (ht 67 rfl) f232 hc242 ?_
 intro v247 h248
 obtain⟨rfl,Ro⟩:=un_int h248
 exact Goes.same hi (show Vr.vd (vI .i64) _ _ _ _ from⟨rfl,Ro⟩)
 refine Dw_p (Pt b154 1) (fun _ _ _ hi ht=>op_fA 1 ty58 rfl ty3 (ht 9 rfl) rfl<|Gz hi)<|Dw_p (Iv ((((p.variables.getD i_1.toNat default).choices).getD (choices.getD i_1.toNat default).toNat default).cost)) (fun _ _ _ hi ht=>op_ld 0 ty3 (Step.nx hi).1 (ht 69 rfl) rfl rfl<|Gz hi)<|Dw_p (Iv (((p.variables.getD i_1.toNat default).leaves).length:Int)) (fun _ _ _ hi ht=>op_move (v:=Iv (((p.variables.getD i_1.toNat default).leaves).length:Int)) (ht 10 rfl)<|Gz hi)<|Dw_p (Iv (IntKind.wrap .i64 (((((p.variables.getD i_1.toNat default).choices).getD (choices.getD i_1.toNat default).toNat default).cost)*(((p.variables.getD i_1.toNat default).leaves).length:Int)))) (fun _ _ _ hi ht=>op_mulw (ht 70 rfl) (ht 71 rfl)<|Gz hi)<|Dw_nil fun w266 g267 hl268 hi269=>?_
 obtain⟨-,hst270,-⟩:=hl268
 obtain⟨hs272,p271⟩:=Step.nx hi269
 rintro _ rfl _ rfl _ rfl _ rfl v273 h274
 replace h274:Vr.vd (vI .i64) _ _ _ _:=h274
 obtain⟨rfl,Rp⟩:=h274
 rintro _ rfl _ rfl _ rfl
 have p276:=hs230.to hs272 (hst270.trans p271)
 clear hs230
 refine Rop<|op_addw rfl rfl ?_
 obtain⟨hc277,hm⟩:=ck_some hm
 replace f232:=f232.step p276
 refine Rop<|op_indexAddrG ty31 ty3 rfl rfl f232 hc277 ?_
 rintro _ ⟨⟩ -
 refine Rg_op_<|op_storeG (vs:=[Iv (IntKind.wrap .i64 (((v_2.set 1 (max (v_2.getD 1 default) ((((p.variables.getD i_1.toNat default).choices).getD (choices.getD i_1.toNat default).toNat default).delay))).getD 2 default)+(IntKind.wrap .i64 (((((p.variables.getD i_1.toNat default).choices).getD (choices.getD i_1.toNat default).toNat default).cost)*(((p.variables.getD i_1.toNat default).leaves).length:Int)))))]) (i:=1) (m:=2) ty3 rfl hs272 rfl rfl rfl rfl f232 hc277 (mk_int (inK_wrap .i64 _)) ?_
 intro w279 o282 p280 hs281 f283
 clear hs272
 refine Rg_nil<|Wp_drawR (g0:=[]) (m:=8) (fl:=[0]) (TS_inv hs281) rfl (.inl rfl) rfl (by decide+kernel) ?_  -- 14
 refine Dw_eq (Sl (some ⟨b198,0,none⟩) ((v_2.set 1 (max (v_2.getD 1 default) ((((p.variables.getD i_1.toNat default).choices).getD (choices.getD i_1.toNat default).toNat default).delay))).set 2 (IntKind.wrap .i64 (((v_2.set 1 (max (v_2.getD 1 default) ((((p.variables.getD i_1.toNat default).choices).getD (choices.getD i_1.toNat default).toNat default).delay))).getD 2 default)+(IntKind.wrap .i64 (((((p.variables.getD i_1.toNat default).choices).getD (choices.getD i_1.toNat default).toNat default).cost)*(((p.variables.getD i_1.toNat default).leaves).length:Int)))))) Ce) (fun ρ284 w285 g hle hi ht=>?_) ?_
 refine StepOp_plain (op_move (v:=Sl (some ⟨b198,0,none⟩) ((v_2.set 1 (max (v_2.getD 1 default) ((((p.variables.getD i_1.toNat default).choices).getD (choices.getD i_1.toNat default).toNat default).delay))).set 2 (IntKind.wrap .i64 (((v_2.set 1 (max (v_2.getD 1 default) ((((p.variables.getD i_1.toNat default).choices).getD (choices.getD i_1.toNat default).toNat default).delay))).getD 2 default)+(IntKind.wrap .i64 (((((p.variables.getD i_1.toNat default).choices).getD (choices.getD i_1.toNat default).toNat default).cost)*(((p.variables.getD i_1.toNat default).leaves).length:Int)))))) Ce) (eqlen (ht 7 rfl) (show v_2.length=((v_2.set 1 (max (v_2.getD 1 default) ((((p.variables.getD i_1.toNat default).choices).getD (choices.getD i_1.toNat default).toNat default).delay))).set 2 (IntKind.wrap .i64 (((v_2.set 1 (max (v_2.getD 1 default) ((((p.variables.getD i_1.toNat default).choices).getD (choices.getD i_1.toNat default).toNat default).delay))).getD 2 default)+(IntKind.wrap .i64 (((((p.variables.getD i_1.toNat default).choices).getD (choices.getD i_1.toNat default).toNat default).cost)*(((p.variables.getD i_1.toNat default).leaves).length:Int)))))).length from by first |(simp;done) |(simp;omega))) ?_)
 exact Gz hi
 refine Dw_eq (Sl (some ⟨b198,0,none⟩) ((v_2.set 1 (max (v_2.getD 1 default) ((((p.variables.getD i_1.toNat default).choices).getD (choices.getD i_1.toNat default).toNat default).delay))).set 2 (IntKind.wrap .i64 (((v_2.set 1 (max (v_2.getD 1 default) ((((p.variables.getD i_1.toNat default).choices).getD (choices.getD i_1.toNat default).toNat default).delay))).getD 2 default)+(IntKind.wrap .i64 (((((p.variables.getD i_1.toNat default).choices).getD (choices.getD i_1.toNat default).toNat default).cost)*(((p.variables.getD i_1.toNat default).leaves).length:Int)))))) Ce) (fun ρ287 w288 g hle hi ht=>?_) ?_
 refine StepOp_plain (op_move (v:=Sl (some ⟨b198,0,none⟩) ((v_2.set 1 (max (v_2.getD 1 default) ((((p.variables.getD i_1.toNat default).choices).getD (choices.getD i_1.toNat default).toNat default).delay))).set 2 (IntKind.wrap .i64 (((v_2.set 1 (max (v_2.getD 1 default) ((((p.variables.getD i_1.toNat default).choices).getD (choices.getD i_1.toNat default).toNat default).delay))).getD 2 default)+(IntKind.wrap .i64 (((((p.variables.getD i_1.toNat default).choices).getD (choices.getD i_1.toNat default).toNat default).cost)*(((p.variables.getD i_1.toNat default).leaves).length:Int)))))) Ce) (eqlen (ht 7 rfl) (show v_2.length=((v_2.set 1 (max (v_2.getD 1 default) ((((p.variables.getD i_1.toNat default).choices).getD (choices.getD i_1.toNat default).toNat default).delay))).set 2 (IntKind.wrap .i64 (((v_2.set 1 (max (v_2.getD 1 default) ((((p.variables.getD i_1.toNat default).choices).getD (choices.getD i_1.toNat default).toNat default).delay))).getD 2 default)+(IntKind.wrap .i64 (((((p.variables.getD i_1.toNat default).choices).getD (choices.getD i_1.toNat default).toNat default).cost)*(((p.variables.getD i_1.toNat default).leaves).length:Int)))))).length from by first |(simp;done) |(simp;omega))) ?_)
 exact Gz hi
 obtain⟨hc293,hm⟩:=ck_some hm
 refine Dw_eq (Value.pointer (some ⟨b198,3*1,none⟩)) (fun ρ290 w291 g hle hi ht=>?_) ?_
 obtain⟨-,hst,-⟩:=hle
 replace f283:=f283.step hst
 refine StepOp_plain<|op_indexAddrG ty31 ty3 (ht 76 rfl) rfl f283 hc293 ?_
 rintro _ ⟨⟩ -
 exact Gz hi
 refine Dw_op (VD _ _ (vI .i64) (((v_2.set 1 (max (v_2.getD 1 default) ((((p.variables.getD i_1.toNat default).choices).getD (choices.getD i_1.toNat default).toNat default).delay))).set 2 (IntKind.wrap .i64 (((v_2.set 1 (max (v_2.getD 1 default) ((((p.variables.getD i_1.toNat default).choices).getD (choices.getD i_1.toNat default).toNat default).delay))).getD 2 default)+(IntKind.wrap .i64 (((((p.variables.getD i_1.toNat default).choices).getD (choices.getD i_1.toNat default).toNat default).cost)*(((p.variables.getD i_1.toNat default).leaves).length:Int)))))).getD 3 default)) (VD.stab _ _) (fun ρ295 w296 g hle hi ht=>?_) ?_
 obtain⟨-,hst,-⟩:=hle
 replace f283:=f283.step hst
 have hsn:=(Step.nx hi).1
 refine StepOp_plain<|op_loadG (m:=3) (i:=1) ty3 rfl hsn rfl (ht 77 rfl) f283 hc293 ?_
 intro v298 h299
 obtain⟨rfl,Rq⟩:=un_int h299
 exact Goes.same hi (show Vr.vd (vI .i64) _ _ _ _ from⟨rfl,Rq⟩)
 refine Dw_p (Pt b154 2) (fun _ _ _ hi ht=>op_fA 2 ty58 rfl ty3 (ht 9 rfl) rfl<|Gz hi)<|Dw_p (Iv ((((p.variables.getD i_1.toNat default).choices).getD (choices.getD i_1.toNat default).toNat default).changes)) (fun _ _ _ hi ht=>op_ld 0 ty3 (Step.nx hi).1 (ht 79 rfl) rfl rfl<|Gz hi)<|Dw_p (Iv (((p.variables.getD i_1.toNat default).leaves).length:Int)) (fun _ _ _ hi ht=>op_move (v:=Iv (((p.variables.getD i_1.toNat default).leaves).length:Int)) (ht 10 rfl)<|Gz hi)<|Dw_p (Iv (IntKind.wrap .i64 (((((p.variables.getD i_1.toNat default).choices).getD (choices.getD i_1.toNat default).toNat default).changes)*(((p.variables.getD i_1.toNat default).leaves).length:Int)))) (fun _ _ _ hi ht=>op_mulw (ht 80 rfl) (ht 81 rfl)<|Gz hi)<|Dw_nil fun w317 g318 hl319 hi320=>?_
 obtain⟨-,hst321,-⟩:=hl319
 obtain⟨hs323,p322⟩:=Step.nx hi320
 rintro _ rfl _ rfl _ rfl _ rfl v324 h325
 replace h325:Vr.vd (vI .i64) _ _ _ _:=h325
 obtain⟨rfl,Rr⟩:=h325
 rintro _ rfl _ rfl _ rfl
 have p327:=hs281.to hs323 (hst321.trans p322)
 clear hs281
 refine Rop<|op_addw rfl rfl ?_
 obtain⟨hc328,hm⟩:=ck_some hm
 replace f283:=f283.step p327
 refine Rop<|op_indexAddrG ty31 ty3 rfl rfl f283 hc328 ?_
 rintro _ ⟨⟩ -
 refine Rg_op_<|op_storeG (vs:=[Iv (IntKind.wrap .i64 ((((v_2.set 1 (max (v_2.getD 1 default) ((((p.variables.getD i_1.toNat default).choices).getD (choices.getD i_1.toNat default).toNat default).delay))).set 2 (IntKind.wrap .i64 (((v_2.set 1 (max (v_2.getD 1 default) ((((p.variables.getD i_1.toNat default).choices).getD (choices.getD i_1.toNat default).toNat default).delay))).getD 2 default)+(IntKind.wrap .i64 (((((p.variables.getD i_1.toNat default).choices).getD (choices.getD i_1.toNat default).toNat default).cost)*(((p.variables.getD i_1.toNat default).leaves).length:Int)))))).getD 3 default)+(IntKind.wrap .i64 (((((p.variables.getD i_1.toNat default).choices).getD (choices.getD i_1.toNat default).toNat default).changes)*(((p.variables.getD i_1.toNat default).leaves).length:Int)))))]) (i:=1) (m:=3) ty3 rfl hs323 rfl rfl rfl rfl f283 hc328 (mk_int (inK_wrap .i64 _)) ?_
 intro w330 o333 p331 hs332 f334
 clear hs323
 refine Rg_nil<|Wp_region<|Mve (Iv i_1) rfl<|Rop<|op_addw rfl rfl<|Asg (Iv (IntKind.wrap .i64 (i_1+1))) rfl<|Rg_nil ?_
 have hs335:=hs332.drop 0
 have p336:=(hs332.dropS 0)
 clear hs332
 have p337:=(p181.trans (p225.trans (p229.trans (p276.trans (p280.trans (p327.trans (p331.trans p336)))))))
 replace ch58:=ch58.trans p337;replace f334:=f334.step p336
 exact hK51 _ _ ⟨((v_2.set 1 (max (v_2.getD 1 default) ((((p.variables.getD i_1.toNat default).choices).getD (choices.getD i_1.toNat default).toNat default).delay))).set 2 (IntKind.wrap .i64 (((v_2.set 1 (max (v_2.getD 1 default) ((((p.variables.getD i_1.toNat default).choices).getD (choices.getD i_1.toNat default).toNat default).delay))).getD 2 default)+(IntKind.wrap .i64 (((((p.variables.getD i_1.toNat default).choices).getD (choices.getD i_1.toNat default).toNat default).cost)*(((p.variables.getD i_1.toNat default).leaves).length:Int)))))).set 3 (IntKind.wrap .i64 ((((v_2.set 1 (max (v_2.getD 1 default) ((((p.variables.getD i_1.toNat default).choices).getD (choices.getD i_1.toNat default).toNat default).delay))).set 2 (IntKind.wrap .i64 (((v_2.set 1 (max (v_2.getD 1 default) ((((p.variables.getD i_1.toNat default).choices).getD (choices.getD i_1.toNat default).toNat default).delay))).getD 2 default)+(IntKind.wrap .i64 (((((p.variables.getD i_1.toNat default).choices).getD (choices.getD i_1.toNat default).toNat default).cost)*(((p.variables.getD i_1.toNat default).leaves).length:Int)))))).getD 3 default)+(IntKind.wrap .i64 (((((p.variables.getD i_1.toNat default).choices).getD (choices.getD i_1.toNat default).toNat default).changes)*(((p.variables.getD i_1.toNat default).leaves).length:Int))))),(IntKind.wrap .i64 (i_1+1)),some ⟨b198,0,none⟩,Ce,some b198,o333,_,rfl,Frm.of ⟨eqlenV (show v_2.length=(((v_2.set 1 (max (v_2.getD 1 default) ((((p.variables.getD i_1.toNat default).choices).getD (choices.getD i_1.toNat default).toNat default).delay))).set 2 (IntKind.wrap .i64 (((v_2.set 1 (max (v_2.getD 1 default) ((((p.variables.getD i_1.toNat default).choices).getD (choices.getD i_1.toNat default).toNat default).delay))).getD 2 default)+(IntKind.wrap .i64 (((((p.variables.getD i_1.toNat default).choices).getD (choices.getD i_1.toNat default).toNat default).cost)*(((p.variables.getD i_1.toNat default).leaves).length:Int)))))).set 3 (IntKind.wrap .i64 ((((v_2.set 1 (max (v_2.getD 1 default) ((((p.variables.getD i_1.toNat default).choices).getD (choices.getD i_1.toNat default).toNat default).delay))).set 2 (IntKind.wrap .i64 (((v_2.set 1 (max (v_2.getD 1 default) ((((p.variables.getD i_1.toNat default).choices).getD (choices.getD i_1.toNat default).toNat default).delay))).getD 2 default)+(IntKind.wrap .i64 (((((p.variables.getD i_1.toNat default).choices).getD (choices.getD i_1.toNat default).toNat default).cost)*(((p.variables.getD i_1.toNat default).leaves).length:Int)))))).getD 3 default)+(IntKind.wrap .i64 (((((p.variables.getD i_1.toNat default).choices).getD (choices.getD i_1.toNat default).toNat default).changes)*(((p.variables.getD i_1.toNat default).leaves).length:Int)))))).length from by first |(simp;done) |(simp;omega)),rfl,trivial⟩,ch58,hs335,f334,(inK_wrap .i64 _),jnE2 hsf50 hm⟩
 refine Wp_exit<|Wp_seq ?_
 obtain⟨hs338,p339⟩:=hs54.sub (bs':=[(k_g46,o_g46)]) (.cons_cons _ (.cons _ List.Sublist.slnil))
 clear Fa Fb Fc Fd
 clear hs54
 refine Wp_region<|Mve (Sl Ae v_2 Ce) rfl<|Asg (Sl Ae v_2 Ce) rfl<|Asg (Iv 0) rfl<|Rg_nil<|Wp_ret ?_
 replace Fe:=Fe.step p339
 obtain⟨hs341,p342,f340⟩:=Gs.publish (i:=0) hs338 rfl Fe
 clear hs338
 have hz:=step_all hs341
 refine⟨_,Clo,[Sl Ae v_2 Ce,Iv 0],⟨rfl,rfl,trivial⟩,hs341.ext,?_⟩
 replace f340:=f340.step hz
 exact Vr.eq (a:=vT2 (vC (rSl (rInt .i64))) (vI .i64)) (x:=(v_2,0)) (mkT2 (mkC (mk_sl f340)) ⟨rfl,(show InK .i64 0 from by decide)⟩) (oi hm)
 intro K21 hK21
 have ch343:=hs11.stepR
 refine Wp_region<|Rop<|op_ldA 0 ty26 hs11 rfl rfl rfl<|Mve (Sl Ad choices Cd) rfl ?_
 obtain⟨branch_1,hv344,hm⟩:=bd hm
 replace Fd:=Fd.step (p3.trans p12);replace Fb:=Fb.step p12;replace Fa:=Fa.step p12;replace Fc:=Fc.step p12
 refine Rop<|op_callE hs11 Try.call87 (c87_overflightref27_Branch (p:=p) (b:=choices) hs11.ltw Fa Fb Fc Fd hv344) rfl ?_
 rintro v345 w346 p350 hs349 h348
 obtain rfl:=h348
 refine Rop<|op_not rfl<|Mve (Bo (!branch_1)) rfl<|Rg_caseM hm (fun hg352 hm=>?_) (fun hg352 hm=>?_)
 iterate 6 refine Rg_opx rfl (asB_ne rfl rfl) rfl ?_
 refine Pkt (Bo true) rfl rfl<|Rg_nil ?_
 replace ch343:=ch343.trans p350
 exact hK21 _ _ ⟨true,_,rfl,Frm.of ⟨rfl,trivial⟩,ch343,hs349,hm⟩
 refine Rog rfl rfl<|op_move (v:=Sl Ad choices Cd) rfl<|Rog rfl rfl<|op_len Try.underlying31 rfl ?_
 replace Fd:=Fd.step p350
 have rl353:=inK_len Fd
 refine Rog rfl rfl<|op_fA 2 ty26 rfl ty24 rfl rfl<|Rog rfl rfl<|op_ld 0 ty24 hs349 rfl rfl rfl<|Rog rfl rfl<|op_len Try.underlying24 rfl ?_
 replace Fc:=Fc.step p350
 have rl354:=inK_len Fc
 refine Rog rfl rfl<|op_neq rfl rfl<|Pkf (Bo (decide ((choices.length:Int)≠(p.variables.length:Int)))) rfl rfl<|Rg_nil ?_
 replace ch343:=ch343.trans p350
 exact hK21 _ _ ⟨decide ((choices.length:Int)≠(p.variables.length:Int)),_,rfl,Frm.of ⟨rfl,trivial⟩,ch343,hs349,hm⟩

abbrev q57_0:List Nat:=[8,11,33,34,35,36,37,38,39,40,41,42,43,44,45,46,47,48,49,50,51,52,53,54,55,56,57]

abbrev q57_1:List Nat:=[8,9,10,11,22,23,24,25,26,27,28,29,30,31,32,33,34,35,36,37,38,39,40,41,42,43,44,45,46,47,48,49,50,51,52,53,54,55,56,57]

def m57_overflightref27_Overloads_B1 (p:XProblem) (leaf_1:Int) (sf31:(List XPlace)→Int→Option ((List XPlace) × Int)) (demand_1:(List Int)) (sf62:(List XPlace)→Int→Option ((List XPlace) × Int)) (l_2:List XPlace) (k_1:Int):Option ((List XPlace) × Int):=
 bif (decide (k_1<(demand_1.length:Int))) then
  ck ((0:Int)≤k_1∧k_1<(demand_1.length:Int))<|
  ck ((0:Int)≤leaf_1∧leaf_1<(p.capacity.length:Int))<|
  ck ((0:Int)≤k_1∧k_1<((p.capacity.getD leaf_1.toNat default).length:Int))<|
  bif (decide (((p.capacity.getD leaf_1.toNat default).getD k_1.toNat default)<(demand_1.getD k_1.toNat default))) then
   ck ((l_2.length+[(⟨leaf_1,k_1⟩:XPlace)].length)*16≤140737488355328)<|
   sf62 (l_2++[(⟨leaf_1,k_1⟩:XPlace)]) (IntKind.wrap .i64 (k_1+1))
  else
   sf62 l_2 (IntKind.wrap .i64 (k_1+1))
 else
  sf31 l_2 (IntKind.wrap .i64 (leaf_1+1))

def m57_overflightref27_Overloads_B0 (p:XProblem) (choices:List Int) (sf31:(List XPlace)→Int→Option ((List XPlace) × Int)) (l_1:List XPlace) (leaf_1:Int):Option ((List XPlace) × Int):=
 bif (decide (leaf_1<(p.capacity.length:Int))) then
  (m80_overflightref27_demand p choices leaf_1).bind fun demand_1=>
  loop2 (m57_overflightref27_Overloads_B1 p leaf_1 sf31 demand_1) (((demand_1.length:Int) - 0).toNat+1) l_1 0
 else
  some (l_1,0)

def m57_overflightref27_Overloads (p:XProblem) (choices:List Int):Option ((List XPlace) × Int):=
 (m79_overflightref27_Value p choices).bind fun value_1=>
 bif (decide (value_1.2≠0)) then
  some (([]:List XPlace),value_1.2)
 else
  loop2 (m57_overflightref27_Overloads_B0 p choices) (((p.capacity.length:Int) - 0).toNat+1) [] 0

theorem c57_overflightref27_Overloads {w:World} {O:List Nat} {p:XProblem} {choices:List Int} {Aa:Option Addr} {Ca:Nat} {Ab:Option Addr} {Cb:Nat} {Ac:Option Addr} {Cc:Nat} {Ad:Option Addr} {Cd:Nat} (hO:∀k∈O,k<w.heap.size) (Fa:SlR rXCell w O Aa Ca p.cells) (Fb:SlR (rSl (rInt .i64)) w O Ab Cb p.capacity) (Fc:SlR rXVariable w O Ac Cc p.variables) (Fd:SlR (rInt .i64) w O Ad Cd choices) {x:(List XPlace) × Int} (hm:m57_overflightref27_Overloads p choices=some x):
 Ok Try.prog 57 [Value.agg [Sl Aa p.cells Ca,Sl Ab p.capacity Cb,Sl Ac p.variables Cc].toArray,Sl Ad choices Cd] w O (vT2 (vC (rSl rXPlace)) (vI .i64)) x:=by
 unfold m57_overflightref27_Overloads at hm
 refine Fn_of_Wp (n:=59) (xs:=[.tmp 4,.tmp 5]) Try.func57 rfl Try.ntmps57 Try.results57 rfl ?_
 have hs:=St.start hO
 refine Wp_seq<|Wp_region<|Rop<|op_box (cs:=[Sl Aa p.cells Ca,Sl Ab p.capacity Cb,Sl Ac p.variables Cc]) hs rfl rfl ?_
 intro b1 w2 _ p3 hs4
 refine Asg (Value.slice none 0 0) rfl<|Asg (Iv 0) rfl<|Rg_nil<|Wp_seq<|Wp_region<|Rop<|op_ldA 0 ty26 hs4 rfl rfl rfl<|Mve (Sl Ad choices Cd) rfl ?_
 obtain⟨value_1,hv6,hm⟩:=bd hm
 replace Fd:=Fd.step p3;replace Fb:=Fb.step p3;replace Fa:=Fa.step p3;replace Fc:=Fc.step p3
 refine Rop<|op_callE hs4 Try.call79 (c79_overflightref27_Value (p:=p) (choices:=choices) hs4.ltw Fa Fb Fc Fd hv6) rfl ?_
 rintro v7 w8 p12 hs11 h10
 clear hs4
 obtain⟨v13,v14,rfl,h15,h16⟩:=h10
 obtain⟨Ae,Ce,rfl,Fe⟩:=un_sl h15
 obtain⟨rfl,Ra⟩:=h16
 refine Mve (Value.tuple [Sl Ae value_1.1 Ce,Iv value_1.2].toArray) rfl<|Rop<|op_extract (v:=Sl Ae value_1.1 Ce) rfl rfl<|Rop<|op_extract (v:=Iv value_1.2) rfl rfl<|Asg (Sl Ae value_1.1 Ce) rfl<|Asg (Iv value_1.2) rfl<|Rg_nil<|Wp_seq<|Wp_seq ?_
 clear Fe
 refine Wp_region<|Mve (Iv value_1.2) rfl<|Rop<|op_neq rfl rfl<|Rg_nil<|Wp_condM hm rfl (fun hc19 hm=>?_) (fun hc19 hm=>?_)
 refine Wp_seq ?_
 obtain⟨hs20,p21⟩:=hs11.sub (bs':=[]) (.cons _ List.Sublist.slnil)
 clear Fa Fb Fc Fd
 clear hs11
 refine Wp_region<|Mve (Iv value_1.2) rfl<|Asg (Value.slice none 0 0) rfl<|Asg (Iv value_1.2) rfl<|Rg_nil<|Wp_ret<|⟨_,Clo,[Value.slice none 0 0,Iv value_1.2],⟨rfl,rfl,trivial⟩,hs20.ext,?_⟩
 exact Vr.eq (a:=vT2 (vC (rSl rXPlace)) (vI .i64)) (x:=(([]:List XPlace),value_1.2)) (mkT2 (mkC (mk_sl SlR.nil_)) ⟨rfl,Ra⟩) (oi hm)
 refine Wp_skip<|Wp_seq<|Wp_region<|Rop<|op_buildSlice (cs:=[]) (parts:=[]) ty32 ty45 hs11 (by decide) rfl ?_
 intro b22 w23 hx26 p24 hs25
 clear hs11
 refine Asg (Value.slice (some ⟨b22,0,none⟩) 0 0) rfl<|Rg_nil<|Wp_seq<|Wp_seq<|Wp_region<|Asg (Iv 0) rfl<|Rg_nil<|Wp_block<|Wr [] [(1,Sl Ad choices Cd),(2,Pt b1 0),(8,Value.slice (some ⟨b22,0,none⟩) 0 0),(9,Iv 0)] fun ξ30=>?_
 have f35:=Gs.of_cells (p:=rXPlace) (e:=45) (bl:=b22) (c:=0) (w:=w23) (O:=ks [(some b22,Oc [] 45),(some b1,Oc [Sl Aa p.cells Ca,Sl Ab p.capacity Cb,Sl Ac p.variables Cc] 26)] O) (show Els rXPlace _ _ [] [] from Els.nil) rfl (le_lit rfl)
 refine Wp_loopM q57_1 (fun m fr w'=>∃(l_1:List XPlace) (leaf_1:Int) (Af:Option Addr) (Cf:Nat) (k_g28:Option Nat) (o_g28:Obj) (Ebs:Ents),Ebs=[(k_g28,o_g28),(some b1,Oc [Sl Aa p.cells Ca,Sl Ab p.capacity Cb,Sl Ac p.variables Cc] 26)]∧fr [] [(8,Sl Af l_1 Cf),(9,Iv leaf_1)]∧hs25.S (ks Ebs O) w'∧St ⟨w,[],[]⟩ O w' Ebs∧Gs rXPlace 45 w' (ks Ebs O) Af Cf l_1 k_g28 o_g28∧InK .i64 leaf_1∧loop2 (m57_overflightref27_Overloads_B0 p choices) m l_1 leaf_1=some x) (((p.capacity.length:Int) - 0).toNat+1) ⟨[],0,some ⟨b22,0,none⟩,0,some b22,Obj.cells [].toArray 45,_,rfl,Frm.of ⟨rfl,rfl,trivial⟩,Step.refl _ _,hs25,f35,(show InK .i64 0 from by decide),hm⟩ ?_ ?_
 rintro _ _ ⟨_,_,_,_,_,_,_,_,_,_,_,_,_,hm⟩;exact loop2_z hm
 rintro m34 K33 hK33 ρ40 w36 ⟨l_1,leaf_1,Af,Cf,k_g28,o_g28,_,rfl,hfr39,hst38,hs37,Ff,Rb,hm⟩
 obtain⟨sf31,hsf32,hm⟩:=loop2_s hm;unfold m57_overflightref27_Overloads_B0 at hm
 rw [hfr39.eq];clear hfr39
 have ch41:=hst38
 refine Wp_seq<|Wp_seq ?_
 clear f35
 refine Wp_region<|Mve (Iv leaf_1) rfl<|Rop<|op_fA 1 ty26 rfl ty23 rfl rfl<|Rop<|op_ld 1 ty23 hs37 rfl rfl rfl<|Rop<|op_len Try.underlying23 rfl ?_
 have p43:=(p12.trans (p24.trans hst38))
 replace Fb:=Fb.step p43
 have rl42:=inK_len Fb
 refine Rop<|op_lss rfl rfl<|Rg_nil<|Wp_condM hm rfl (fun hc44 hm=>?_) (fun hc44 hm=>?_)
 refine Wp_skip<|Wp_seq<|Wp_block<|Wp_seq<|Wp_region<|Rop<|op_ldA 1 ty26 hs37 rfl rfl rfl<|Mve (Sl Ad choices Cd) rfl<|Mve (Iv leaf_1) rfl ?_
 obtain⟨demand_1,hv45,hm⟩:=bd hm
 replace Fd:=Fd.step p43;replace Fa:=Fa.step p43;replace Fc:=Fc.step p43
 refine Rop<|op_call Try.call80 (g80_overflightref27_demand (p:=p) (b:=choices) (leaf:=leaf_1) hs37.ltw Fa Fb Fc Fd Rb hv45) rfl ?_
 rintro _ w47 ⟨hx48,a51,c52,k53,o54,rfl,hk55,f56⟩
 obtain⟨hs50,p57⟩:=hs37.callG (o:=o54) hx48 hk55
 rw [← ks_cons (o:=o54)] at f56
 clear hs37
 refine Asg (Sl a51 demand_1 c52) rfl<|Rg_nil<|Wp_seq<|Wp_region<|Asg (Iv 0) rfl<|Rg_nil<|Wp_block<|Wr2 q57_1 [] (updL ⟨ξ30,[]⟩ [(1,Sl Ad choices Cd),(2,Pt b1 0),(8,Value.slice (some ⟨b22,0,none⟩) 0 0),(9,Iv 0)]) [(8,Sl Af l_1 Cf),(9,Iv leaf_1),(10,Sl a51 demand_1 c52),(11,Iv 0)] fun ξ61=>?_
 replace Ff:=Ff.step p57
 refine Wp_loopM q57_0 (fun m fr w'=>∃(l_2:List XPlace) (k_1:Int) (Ag:Option Addr) (Cg:Nat) (k_g59:Option Nat) (o_g59:Obj) (Ebs:Ents),Ebs=[(k53,o54),(k_g59,o_g59),(some b1,Oc [Sl Aa p.cells Ca,Sl Ab p.capacity Cb,Sl Ac p.variables Cc] 26)]∧fr [] [(8,Sl Ag l_2 Cg),(11,Iv k_1)]∧hs50.S (ks Ebs O) w'∧St ⟨w,[],[]⟩ O w' Ebs∧Gs rXPlace 45 w' (ks Ebs O) Ag Cg l_2 k_g59 o_g59∧InK .i64 k_1∧loop2 (m57_overflightref27_Overloads_B1 p leaf_1 sf31 demand_1) m l_2 k_1=some x) (((demand_1.length:Int) - 0).toNat+1) ⟨l_1,0,Af,Cf,k_g28,o_g28,_,rfl,Frm.of ⟨rfl,rfl,trivial⟩,Step.refl _ _,hs50,Ff,(show InK .i64 0 from by decide),hm⟩ ?_ ?_
 rintro _ _ ⟨_,_,_,_,_,_,_,_,_,_,_,_,_,hm⟩;exact loop2_z hm
 rintro m65 K64 hK64 ρ70 w66 ⟨l_2,k_1,Ag,Cg,k_g59,o_g59,_,rfl,hfr69,hst68,hs67,Fg,Rc,hm⟩
 obtain⟨sf62,hsf63,hm⟩:=loop2_s hm;unfold m57_overflightref27_Overloads_B1 at hm
 rw [hfr69.eq];clear hfr69
 have ch71:=hst68
 refine Wp_seq<|Wp_seq ?_
 clear Ff
 refine Wp_region<|Mve (Iv k_1) rfl<|Mve (Sl a51 demand_1 c52) rfl<|Rop<|op_len Try.underlying31 rfl ?_
 replace f56:=f56.step hst68
 have rl72:=inK_lenG f56
 refine Rop<|op_lss rfl rfl<|Rg_nil<|Wp_condM hm rfl (fun hc73 hm=>?_) (fun hc73 hm=>?_)
 refine Wp_skip<|Wp_seq<|Wp_block<|Wp_seq<|Wp_drawR (g0:=[]) (m:=12) (fl:=[]) (TS_inv hs67) rfl (.inl rfl) rfl (by decide+kernel) ?_  -- 12
 refine Dw_p (Sl a51 demand_1 c52) (fun _ _ _ hi ht=>op_move (v:=Sl a51 demand_1 c52) (ht 10 rfl)<|Gz hi)<|Dw_p (Iv k_1) (fun _ _ _ hi ht=>op_move (v:=Iv k_1) (ht 11 rfl)<|Gz hi) ?_
 obtain⟨hc83,hm⟩:=ck_some hm
 obtain⟨b84,rfl,rfl⟩:=f56.at_ (by omega)
 refine Dw_eq (Value.pointer (some ⟨b84,k_1.toNat*1,none⟩)) (fun ρ80 w81 g hle hi ht=>?_) ?_
 obtain⟨-,hst,-⟩:=hle
 replace f56:=f56.step hst
 refine StepOp_plain<|op_indexAddrG ty31 ty3 (ht 39 rfl) (ht 40 rfl) f56 hc83 ?_
 rintro _ ⟨⟩ -
 exact Gz hi
 refine Dw_op (VD _ _ (vI .i64) (demand_1.getD k_1.toNat default)) (VD.stab _ _) (fun ρ85 w86 g hle hi ht=>?_) ?_
 obtain⟨-,hst,-⟩:=hle
 replace f56:=f56.step hst
 have hsn:=(Step.nx hi).1
 refine StepOp_plain<|op_loadG (m:=k_1) (i:=0) ty3 rfl hsn rfl (ht 41 rfl) f56 hc83 ?_
 intro v88 h89
 obtain⟨rfl,Rd⟩:=un_int h89
 exact Goes.same hi (show Vr.vd (vI .i64) _ _ _ _ from⟨rfl,Rd⟩)
 refine Dw_p (Pt b1 1) (fun _ _ _ hi ht=>op_fA 1 ty26 rfl ty23 (ht 2 rfl) rfl<|Gz hi)<|Dw_p (Sl Ab p.capacity Cb) (fun _ _ _ hi ht=>op_ld 2 ty23 (Step.nx hi).1 (ht 43 rfl) rfl rfl<|Gz hi)<|Dw_p (Iv leaf_1) (fun _ _ _ hi ht=>op_move (v:=Iv leaf_1) (ht 9 rfl)<|Gz hi) ?_
 obtain⟨hc103,hm⟩:=ck_some hm
 have p106:=(p57.trans hst68)
 replace Fb:=Fb.step p106
 refine Dw_op (VP _ _ (rSl (rInt .i64)) (p.capacity.getD leaf_1.toNat default)) (VP.stab _ _) (fun ρ100 w101 g hle hi ht=>?_) ?_
 obtain⟨-,hst,-⟩:=hle
 replace Fb:=Fb.step hst
 refine StepOp_plain<|op_indexAddr (q:=rSl (rInt .i64)) ty23 ty31 (ht 44 rfl) (ht 45 rfl) Fb rfl hc103.1 hc103.2 ?_
 intro p104 f105
 exact Goes.same hi ⟨_,rfl,f105⟩
 refine Dw_op (VD _ _ (vC (rSl (rInt .i64))) (p.capacity.getD leaf_1.toNat default)) (VD.stab _ _) (fun ρ107 w108 g hle hi ht=>?_) ?_
 obtain⟨p110,q111,f112⟩:=ht 46 rfl
 refine StepOp_plain<|op_loadP ty31 q111 f112 rfl ?_
 intro v113 h114
 obtain⟨Ah,Ch,rfl,Fh⟩:=un_sl h114
 exact Goes.same hi (show Vr.vd (vC (rSl (rInt .i64))) _ _ _ _ from(mkC (mk_sl Fh)))
 refine Dw_p (Iv k_1) (fun _ _ _ hi ht=>op_move (v:=Iv k_1) (ht 11 rfl)<|Gz hi) ?_
 obtain⟨hc125,hm⟩:=ck_some hm
 refine Dw_op (VP _ _ (rInt .i64) ((p.capacity.getD leaf_1.toNat default).getD k_1.toNat default)) (VP.stab _ _) (fun ρ119 w120 g hle hi ht=>?_) ?_
 have h122:Vr.vd (vC (rSl (rInt .i64))) _ _ _ _:=ht 47 rfl
 obtain⟨Ai,Ci,q123,Fi⟩:=un_sl h122
 refine StepOp_plain<|op_indexAddr (q:=(rInt .i64)) ty31 ty3 q123 (ht 48 rfl) Fi rfl hc125.1 hc125.2 ?_
 intro p126 f127
 exact Goes.same hi ⟨_,rfl,f127⟩
 refine Dw_op (VD _ _ (vI .i64) ((p.capacity.getD leaf_1.toNat default).getD k_1.toNat default)) (VD.stab _ _) (fun ρ128 w129 g hle hi ht=>?_) ?_
 obtain⟨p131,q132,f133⟩:=ht 49 rfl
 refine StepOp_plain<|op_loadP ty3 q132 f133 rfl ?_
 intro v134 h135
 obtain⟨rfl,Re⟩:=un_int h135
 exact Goes.same hi (show Vr.vd (vI .i64) _ _ _ _ from⟨rfl,Re⟩)
 refine Dw_nil fun w141 g142 hl143 hi144=>?_
 obtain⟨-,hst145,-⟩:=hl143
 obtain⟨hs147,p146⟩:=Step.nx hi144
 rintro v148 h149
 replace h149:Vr.vd (vI .i64) _ _ _ _:=h149
 obtain⟨rfl,Rf⟩:=h149
 rintro _ ⟨p151,rfl,f152⟩ _ rfl v153 h154
 replace h154:Vr.vd (vC (rSl (rInt .i64))) _ _ _ _:=h154
 obtain⟨Aj,Cj,rfl,Fj⟩:=un_sl h154
 rintro _ ⟨p156,rfl,f157⟩ _ rfl _ rfl _ rfl v158 h159
 replace h159:Vr.vd (vI .i64) _ _ _ _:=h159
 obtain⟨rfl,Rg⟩:=h159
 rintro _ rfl _ rfl _ rfl
 have p161:=hs67.to hs147 (hst145.trans p146)
 replace f152:=f152.step p146;replace Fj:=Fj.step p146;replace f157:=f157.step p146;clear hs67
 refine Rop<|op_gtr rfl rfl<|Rg_nil<|Wp_condM hm rfl (fun hc162 hm=>?_) (fun hc162 hm=>?_)
 clear f152 Fj f157
 refine Wp_region<|Mve (Sl Ag l_2 Cg) rfl<|Mve (Iv leaf_1) rfl<|Mve (Iv k_1) rfl<|Rop<|op_build (vs:=[Iv leaf_1,Iv k_1]) (parts:=[(0,.tmp 53),(1,.tmp 54)]) ty45 pl45 rfl<|Rop<|op_buildSlice (cs:=[Iv leaf_1,Iv k_1]) (parts:=[(0,.tmp 55)]) ty32 ty45 hs147 (by decide) rfl ?_
 intro b163 w164 hx167 p165 hs166
 clear hs147
 obtain⟨hc169,hm⟩:=ck_some hm
 have p178:=(p161.trans p165)
 replace Fg:=Fg.step p178
 refine Rop (op_append (q:=rXPlace) (i:=2) (xs:=l_2) (ys:=[(⟨leaf_1,k_1⟩:XPlace)]) (news:=[Iv leaf_1,Iv k_1]) ty32 ty45 rfl (by decide) hs166 rfl rfl Fg rfl (Src.owned' (len:=2) (hs166.get (i:=0) rfl) rfl) (show Els rXPlace _ _ [Iv leaf_1,Iv k_1] [(⟨leaf_1,k_1⟩:XPlace)] from⟨_,_,rfl,mkVia (mk_pair (mk_int Rb) (mk_int Rc)),Els.nil⟩) hc169 (by have:=hc169;simp only [maxLen];omega) ?_)
 intro a173 c174 k175 o176 w170 p171 hs172 f177
 clear hs166
 have hs179:=hs172.drop 0
 have p180:=(hs172.dropS 0)
 clear hs172
 refine Asg (Sl a173 (l_2++[(⟨leaf_1,k_1⟩:XPlace)]) c174) rfl<|Rg_nil<|Wp_region<|Mve (Iv k_1) rfl<|Rop<|op_addw rfl rfl<|Asg (Iv (IntKind.wrap .i64 (k_1+1))) rfl<|Rg_nil ?_
 have p181:=(p178.trans (p171.trans p180))
 replace ch71:=ch71.trans p181;replace f177:=f177.step p180
 exact hK64 _ _ ⟨l_2++[(⟨leaf_1,k_1⟩:XPlace)],(IntKind.wrap .i64 (k_1+1)),a173,c174,k175,o176,_,rfl,Frm.of ⟨rfl,rfl,trivial⟩,ch71,hs179,f177,(inK_wrap .i64 _),jnE2 hsf63 hm⟩
 refine Wp_skip ?_
 clear f152 Fj f157
 refine Wp_region<|Mve (Iv k_1) rfl<|Rop<|op_addw rfl rfl<|Asg (Iv (IntKind.wrap .i64 (k_1+1))) rfl<|Rg_nil ?_
 replace ch71:=ch71.trans p161;replace Fg:=Fg.step p161
 exact hK64 _ _ ⟨l_2,(IntKind.wrap .i64 (k_1+1)),Ag,Cg,k_g59,o_g59,_,rfl,Frm.of ⟨rfl,rfl,trivial⟩,ch71,hs147,Fg,(inK_wrap .i64 _),jnE2 hsf63 hm⟩
 refine Wp_exit ?_
 clear f56
 refine Wp_region<|Mve (Iv leaf_1) rfl<|Rop<|op_addw rfl rfl<|Asg (Iv (IntKind.wrap .i64 (leaf_1+1))) rfl<|Rg_nil ?_
 have hs182:=hs67.drop 0
 have p183:=(hs67.dropS 0)
 clear hs67
 have p184:=(p57.trans (hst68.trans p183))
 replace ch41:=ch41.trans p184;replace Fg:=Fg.step p183
 exact hK33 _ _ ⟨l_2,(IntKind.wrap .i64 (leaf_1+1)),Ag,Cg,k_g59,o_g59,_,rfl,Frm.of ⟨rfl,rfl,trivial⟩,ch41,hs182,Fg,(inK_wrap .i64 _),jnE2 hsf32 hm⟩
 refine Wp_exit<|Wp_seq ?_
 obtain⟨hs185,p186⟩:=hs37.sub (bs':=[(k_g28,o_g28)]) (.cons_cons _ (.cons _ List.Sublist.slnil))
 clear Fa Fb Fc Fd
 clear hs37
 refine Wp_region<|Mve (Sl Af l_1 Cf) rfl<|Asg (Sl Af l_1 Cf) rfl<|Asg (Iv 0) rfl<|Rg_nil<|Wp_ret ?_
 replace Ff:=Ff.step p186
 obtain⟨hs188,p189,f187⟩:=Gs.publish (i:=0) hs185 rfl Ff
 clear hs185
 have hz:=step_all hs188
 refine⟨_,Clo,[Sl Af l_1 Cf,Iv 0],⟨rfl,rfl,trivial⟩,hs188.ext,?_⟩
 replace f187:=f187.step hz
 exact Vr.eq (a:=vT2 (vC (rSl rXPlace)) (vI .i64)) (x:=(l_1,0)) (mkT2 (mkC (mk_sl f187)) ⟨rfl,(show InK .i64 0 from by decide)⟩) (oi hm)

abbrev q58_0:List Nat:=[4,5,6,7,14,15,16,17,18,19,20,21,22,23,24,25,26,27,28,29,30,31,32,33,34,35,36,37,38,39]

def m58_overflightref32_Next_B0 (p:XProblem) (choices:List Int) (sf30:(List Int)→Int→Option ((List Int) × Bool)) (x_1:List Int) (i_1:Int):Option ((List Int) × Bool):=
 bif (decide (0≤i_1)) then
  ck ((0:Int)≤i_1∧i_1<(x_1.length:Int))<|
  ck ((0:Int)≤i_1∧i_1<(x_1.length:Int))<|
  ck ((0:Int)≤i_1∧i_1<((x_1.set i_1.toNat (IntKind.wrap .i64 ((x_1.getD i_1.toNat default)+1))).length:Int))<|
  ck ((0:Int)≤i_1∧i_1<(p.variables.length:Int))<|
  bif (decide (((x_1.set i_1.toNat (IntKind.wrap .i64 ((x_1.getD i_1.toNat default)+1))).getD i_1.toNat default)<(((p.variables.getD i_1.toNat default).choices).length:Int))) then
   some (x_1.set i_1.toNat (IntKind.wrap .i64 ((x_1.getD i_1.toNat default)+1)),true)
  else
   ck ((0:Int)≤i_1∧i_1<((x_1.set i_1.toNat (IntKind.wrap .i64 ((x_1.getD i_1.toNat default)+1))).length:Int))<|
   sf30 ((x_1.set i_1.toNat (IntKind.wrap .i64 ((x_1.getD i_1.toNat default)+1))).set i_1.toNat 0) (IntKind.wrap .i64 (i_1 - 1))
 else
  some (x_1,false)

def m58_overflightref32_Next (p:XProblem) (choices:List Int):Option ((List Int) × Bool):=
 ck ((([]:List Int).length+choices.length)*8≤140737488355328)<|
 loop2 (m58_overflightref32_Next_B0 p choices) 1000000 (([]:List Int)++choices) (IntKind.wrap .i64 (((([]:List Int)++choices).length:Int) - 1))

theorem c58_overflightref32_Next {w:World} {O:List Nat} {p:XProblem} {choices:List Int} {Aa:Option Addr} {Ca:Nat} {Ab:Option Addr} {Cb:Nat} {Ac:Option Addr} {Cc:Nat} {Ad:Option Addr} {Cd:Nat} (hO:∀k∈O,k<w.heap.size) (Fa:SlR rXCell w O Aa Ca p.cells) (Fb:SlR (rSl (rInt .i64)) w O Ab Cb p.capacity) (Fc:SlR rXVariable w O Ac Cc p.variables) (Fd:SlR (rInt .i64) w O Ad Cd choices) {x:(List Int) × Bool} (hm:m58_overflightref32_Next p choices=some x):
 Ok Try.prog 58 [Value.agg [Sl Aa p.cells Ca,Sl Ab p.capacity Cb,Sl Ac p.variables Cc].toArray,Sl Ad choices Cd] w O (vT2 (vC (rSl (rInt .i64))) vB) x:=by
 unfold m58_overflightref32_Next at hm
 refine Fn_of_Wp (n:=41) (xs:=[.tmp 4,.tmp 5]) Try.func58 rfl Try.ntmps58 Try.results58 rfl ?_
 have hs:=St.start hO
 refine Wp_seq<|Wp_region<|Rop<|op_box (cs:=[Sl Aa p.cells Ca,Sl Ab p.capacity Cb,Sl Ac p.variables Cc]) hs rfl rfl ?_
 intro b1 w2 _ p3 hs4
 refine Asg (Value.slice none 0 0) rfl<|Asg (Bo false) rfl<|Rg_nil<|Wp_seq<|Wp_region<|Rop<|op_buildSlice (cs:=[]) (parts:=[]) ty31 ty3 hs4 (by decide) rfl ?_
 intro b6 w7 hx10 p8 hs9
 clear hs4
 refine Mve (Sl Ad choices Cd) rfl ?_
 have f12:=Gs.of_cells (p:=(rInt .i64)) (e:=3) (bl:=b6) (c:=0) (w:=w7) (O:=ks [(some b6,Oc [] 3),(some b1,Oc [Sl Aa p.cells Ca,Sl Ab p.capacity Cb,Sl Ac p.variables Cc] 26)] O) (show Els (rInt .i64) _ _ [] [] from Els.nil) rfl (le_lit rfl)
 obtain⟨hc13,hm⟩:=ck_some hm
 have p17:=(p3.trans p8)
 replace Fd:=Fd.step p17
 obtain⟨ns14,he15,hr16⟩:=Fd.src
 refine Rop (op_append (q:=(rInt .i64)) (i:=0) (xs:=([]:List Int)) (ys:=choices) (news:=ns14) ty31 ty3 rfl (by decide) hs9 rfl rfl f12 rfl hr16 he15 hc13 (by have:=hc13;simp only [maxLen];omega) ?_)
 intro a21 c22 k23 o24 w18 p19 hs20 f25
 clear hs9
 refine Asg (Sl a21 (([]:List Int)++choices) c22) rfl<|Rg_nil<|Wp_seq<|Wp_seq ?_
 clear Fd
 refine Wp_region<|Mve (Sl a21 (([]:List Int)++choices) c22) rfl<|Rop<|op_len Try.underlying31 rfl ?_
 have rl26:=inK_lenG f25
 refine Rop<|op_subw rfl rfl<|Asg (Iv (IntKind.wrap .i64 (((([]:List Int)++choices).length:Int) - 1))) rfl<|Rg_nil<|Wp_block<|Wr [] [(2,Pt b1 0),(6,Sl a21 (([]:List Int)++choices) c22),(7,Iv (IntKind.wrap .i64 (((([]:List Int)++choices).length:Int) - 1)))] fun ξ29=>Wp_loopM q58_0 (fun m fr w'=>∃(x_1:List Int) (i_1:Int) (Ae:Option Addr) (Ce:Nat) (k_g27:Option Nat) (o_g27:Obj) (Ebs:Ents),Ebs=[(k_g27,o_g27),(some b1,Oc [Sl Aa p.cells Ca,Sl Ab p.capacity Cb,Sl Ac p.variables Cc] 26)]∧fr [] [(6,Sl Ae x_1 Ce),(7,Iv i_1)]∧hs20.S (ks Ebs O) w'∧St ⟨w,[],[]⟩ O w' Ebs∧Gs (rInt .i64) 3 w' (ks Ebs O) Ae Ce x_1 k_g27 o_g27∧InK .i64 i_1∧loop2 (m58_overflightref32_Next_B0 p choices) m x_1 i_1=some x) 1000000 ⟨([]:List Int)++choices,(IntKind.wrap .i64 (((([]:List Int)++choices).length:Int) - 1)),a21,c22,k23,o24,_,rfl,Frm.of ⟨rfl,rfl,trivial⟩,Step.refl _ _,hs20,f25,(inK_wrap .i64 _),hm⟩ ?_ ?_
 rintro _ _ ⟨_,_,_,_,_,_,_,_,_,_,_,_,_,hm⟩;exact loop2_z hm
 rintro m33 K32 hK32 ρ38 w34 ⟨x_1,i_1,Ae,Ce,k_g27,o_g27,_,rfl,hfr37,hst36,hs35,Fe,Ra,hm⟩
 obtain⟨sf30,hsf31,hm⟩:=loop2_s hm;unfold m58_overflightref32_Next_B0 at hm
 rw [hfr37.eq];clear hfr37
 have ch39:=hst36
 refine Wp_seq<|Wp_seq ?_
 clear f25
 refine Wp_region<|Mve (Iv i_1) rfl<|Rop<|op_geq rfl rfl<|Rg_nil<|Wp_condM hm rfl (fun hc40 hm=>?_) (fun hc40 hm=>?_)
 refine Wp_skip<|Wp_seq<|Wp_block<|Wp_seq<|Wp_region<|Mve (Sl Ae x_1 Ce) rfl<|Mve (Iv i_1) rfl ?_
 obtain⟨hc41,hm⟩:=ck_some hm
 refine Rop<|op_indexAddrG ty31 ty3 rfl rfl Fe hc41 ?_
 rintro b42 rfl rfl
 refine Rop<|op_loadG (m:=i_1) (i:=0) ty3 rfl hs35 rfl rfl Fe hc41 ?_
 intro v43 h44
 obtain⟨rfl,Rb⟩:=un_int h44
 refine Rop<|op_addw rfl rfl ?_
 obtain⟨hc46,hm⟩:=ck_some hm
 refine Rop<|op_indexAddrG ty31 ty3 rfl rfl Fe hc46 ?_
 rintro _ ⟨⟩ -
 refine Rg_op_<|op_storeG (vs:=[Iv (IntKind.wrap .i64 ((x_1.getD i_1.toNat default)+1))]) (i:=0) (m:=i_1) ty3 rfl hs35 rfl rfl rfl rfl Fe hc46 (mk_int (inK_wrap .i64 _)) ?_
 intro w48 o51 p49 hs50 f52
 clear hs35
 refine Rg_nil<|Wp_seq<|Wp_seq<|Wp_drawR (g0:=[]) (m:=11) (fl:=[]) (TS_inv hs50) rfl (.inl rfl) rfl (by decide+kernel) ?_  -- 6
 refine Dw_eq (Sl (some ⟨b42,0,none⟩) (x_1.set i_1.toNat (IntKind.wrap .i64 ((x_1.getD i_1.toNat default)+1))) Ce) (fun ρ53 w54 g hle hi ht=>?_) ?_
 refine StepOp_plain (op_move (v:=Sl (some ⟨b42,0,none⟩) (x_1.set i_1.toNat (IntKind.wrap .i64 ((x_1.getD i_1.toNat default)+1))) Ce) (eqlen (ht 6 rfl) (show x_1.length=(x_1.set i_1.toNat (IntKind.wrap .i64 ((x_1.getD i_1.toNat default)+1))).length from by first |(simp;done) |(simp;omega))) ?_)
 exact Gz hi
 refine Dw_p (Iv i_1) (fun _ _ _ hi ht=>op_move (v:=Iv i_1) (ht 7 rfl)<|Gz hi) ?_
 obtain⟨hc62,hm⟩:=ck_some hm
 refine Dw_eq (Value.pointer (some ⟨b42,i_1.toNat*1,none⟩)) (fun ρ59 w60 g hle hi ht=>?_) ?_
 obtain⟨-,hst,-⟩:=hle
 replace f52:=f52.step hst
 refine StepOp_plain<|op_indexAddrG ty31 ty3 (ht 24 rfl) (ht 25 rfl) f52 hc62 ?_
 rintro _ ⟨⟩ -
 exact Gz hi
 refine Dw_op (VD _ _ (vI .i64) ((x_1.set i_1.toNat (IntKind.wrap .i64 ((x_1.getD i_1.toNat default)+1))).getD i_1.toNat default)) (VD.stab _ _) (fun ρ64 w65 g hle hi ht=>?_) ?_
 obtain⟨-,hst,-⟩:=hle
 replace f52:=f52.step hst
 have hsn:=(Step.nx hi).1
 refine StepOp_plain<|op_loadG (m:=i_1) (i:=0) ty3 rfl hsn rfl (ht 26 rfl) f52 hc62 ?_
 intro v67 h68
 obtain⟨rfl,Rc⟩:=un_int h68
 exact Goes.same hi (show Vr.vd (vI .i64) _ _ _ _ from⟨rfl,Rc⟩)
 refine Dw_p (Pt b1 2) (fun _ _ _ hi ht=>op_fA 2 ty26 rfl ty24 (ht 2 rfl) rfl<|Gz hi)<|Dw_p (Sl Ac p.variables Cc) (fun _ _ _ hi ht=>op_ld 1 ty24 (Step.nx hi).1 (ht 28 rfl) rfl rfl<|Gz hi)<|Dw_p (Iv i_1) (fun _ _ _ hi ht=>op_move (v:=Iv i_1) (ht 7 rfl)<|Gz hi) ?_
 obtain⟨hc82,hm⟩:=ck_some hm
 have p85:=(p17.trans (p19.trans (hst36.trans p49)))
 replace Fc:=Fc.step p85
 refine Dw_op (VP _ _ rXVariable (p.variables.getD i_1.toNat default)) (VP.stab _ _) (fun ρ79 w80 g hle hi ht=>?_) ?_
 obtain⟨-,hst,-⟩:=hle
 replace Fc:=Fc.step hst
 refine StepOp_plain<|op_indexAddr (q:=rXVariable) ty24 ty61 (ht 29 rfl) (ht 30 rfl) Fc rfl hc82.1 hc82.2 ?_
 intro p83 f84
 exact Goes.same hi ⟨_,rfl,f84⟩
 refine Dw_op (VP _ _ (rSl rXChoice) ((p.variables.getD i_1.toNat default).choices)) (VP.stab _ _) (fun ρ86 w87 g hle hi ht=>?_) ?_
 obtain⟨p89,q90,f91⟩:=ht 31 rfl
 refine StepOp_plain<|op_fieldAddr ty61 rfl ty59 (by decide) q90 rfl ?_
 have f92:=f91.via.snd.snd.snd
 exact Goes.same hi ⟨_,rfl,f92⟩
 refine Dw_op (VD _ _ (vC (rSl rXChoice)) ((p.variables.getD i_1.toNat default).choices)) (VD.stab _ _) (fun ρ93 w94 g hle hi ht=>?_) ?_
 obtain⟨p96,q97,f98⟩:=ht 32 rfl
 refine StepOp_plain<|op_loadP ty59 q97 f98 rfl ?_
 intro v99 h100
 obtain⟨Af,Cf,rfl,Ff⟩:=un_sl h100
 exact Goes.same hi (show Vr.vd (vC (rSl rXChoice)) _ _ _ _ from(mkC (mk_sl Ff)))
 refine Dw_op (VD _ _ (vI .i64) (((p.variables.getD i_1.toNat default).choices).length:Int)) (VD.stab _ _) (fun ρ102 w103 g hle hi ht=>?_) ?_
 have h105:Vr.vd (vC (rSl rXChoice)) _ _ _ _:=ht 33 rfl
 obtain⟨Ag,Cg,q106,Fg⟩:=un_sl h105
 exact StepOp_plain<|op_len Try.underlying59 q106<|Goes.same hi (show Vr.vd (vI .i64) _ _ _ _ from⟨rfl,inK_len Fg⟩)
 refine Dw_nil fun w112 g113 hl114 hi115=>?_
 obtain⟨-,hst116,-⟩:=hl114
 obtain⟨hs118,p117⟩:=Step.nx hi115
 rintro v119 h120
 replace h120:Vr.vd (vI .i64) _ _ _ _:=h120
 obtain⟨rfl,Rd⟩:=h120
 rintro v122 h123
 replace h123:Vr.vd (vC (rSl rXChoice)) _ _ _ _:=h123
 obtain⟨Ah,Ch,rfl,Fh⟩:=un_sl h123
 rintro _ ⟨p125,rfl,f126⟩ _ ⟨p127,rfl,f128⟩ _ rfl _ rfl _ rfl v129 h130
 replace h130:Vr.vd (vI .i64) _ _ _ _:=h130
 obtain⟨rfl,Re⟩:=h130
 rintro _ rfl _ rfl _ rfl
 have p132:=hs50.to hs118 (hst116.trans p117)
 replace Fh:=Fh.step p117;replace f126:=f126.step p117;replace f128:=f128.step p117;clear hs50
 refine Rop<|op_lss rfl rfl<|Rg_nil<|Wp_condM hm rfl (fun hc133 hm=>?_) (fun hc133 hm=>?_)
 refine Wp_seq ?_
 clear Fh f126 f128
 refine Wp_region ?_
 refine Rop (op_move (v:=Sl (some ⟨b42,0,none⟩) (x_1.set i_1.toNat (IntKind.wrap .i64 ((x_1.getD i_1.toNat default)+1))) Ce) (eqlen rfl (show x_1.length=(x_1.set i_1.toNat (IntKind.wrap .i64 ((x_1.getD i_1.toNat default)+1))).length from by first |(simp;done) |(simp;omega))) ?_)
 refine Asg (Sl (some ⟨b42,0,none⟩) (x_1.set i_1.toNat (IntKind.wrap .i64 ((x_1.getD i_1.toNat default)+1))) Ce) rfl<|Asg (Bo true) rfl<|Rg_nil<|Wp_ret ?_
 replace f52:=f52.step p132
 obtain⟨hs135,p136,f134⟩:=Gs.publish (i:=0) hs118 rfl f52
 clear hs118
 have hz:=step_all hs135
 refine⟨_,Clo,[Sl (some ⟨b42,0,none⟩) (x_1.set i_1.toNat (IntKind.wrap .i64 ((x_1.getD i_1.toNat default)+1))) Ce,Bo true],⟨rfl,rfl,trivial⟩,hs135.ext,?_⟩
 replace f134:=f134.step hz
 exact Vr.eq (a:=vT2 (vC (rSl (rInt .i64))) vB) (x:=(x_1.set i_1.toNat (IntKind.wrap .i64 ((x_1.getD i_1.toNat default)+1)),true)) (mkT2 (mkC (mk_sl f134)) rfl) (oi hm)
 refine Wp_skip ?_
 clear Fh f126 f128
 refine Wp_region ?_
 refine Rop (op_move (v:=Sl (some ⟨b42,0,none⟩) (x_1.set i_1.toNat (IntKind.wrap .i64 ((x_1.getD i_1.toNat default)+1))) Ce) (eqlen rfl (show x_1.length=(x_1.set i_1.toNat (IntKind.wrap .i64 ((x_1.getD i_1.toNat default)+1))).length from by first |(simp;done) |(simp;omega))) ?_)
 refine Mve (Iv i_1) rfl ?_
 obtain⟨hc137,hm⟩:=ck_some hm
 replace f52:=f52.step p132
 refine Rop<|op_indexAddrG ty31 ty3 rfl rfl f52 hc137 ?_
 rintro _ ⟨⟩ -
 refine Rg_op_<|op_storeG (vs:=[Iv 0]) (i:=0) (m:=i_1) ty3 rfl hs118 rfl rfl rfl rfl f52 hc137 (mk_int (show InK .i64 0 from by decide)) ?_
 intro w139 o142 p140 hs141 f143
 clear hs118
 refine Rg_nil<|Wp_region<|Mve (Iv i_1) rfl<|Rop<|op_subw rfl rfl<|Asg (Iv (IntKind.wrap .i64 (i_1 - 1))) rfl<|Rg_nil ?_
 replace ch39:=ch39.trans (p49.trans (p132.trans p140))
 exact hK32 _ _ ⟨(x_1.set i_1.toNat (IntKind.wrap .i64 ((x_1.getD i_1.toNat default)+1))).set i_1.toNat 0,(IntKind.wrap .i64 (i_1 - 1)),some ⟨b42,0,none⟩,Ce,some b42,o142,_,rfl,Frm.of ⟨eqlenV (show x_1.length=((x_1.set i_1.toNat (IntKind.wrap .i64 ((x_1.getD i_1.toNat default)+1))).set i_1.toNat 0).length from by first |(simp;done) |(simp;omega)),rfl,trivial⟩,ch39,hs141,f143,(inK_wrap .i64 _),jnE2 hsf31 hm⟩
 refine Wp_exit<|Wp_seq ?_
 obtain⟨hs144,p145⟩:=hs35.sub (bs':=[(k_g27,o_g27)]) (.cons_cons _ (.cons _ List.Sublist.slnil))
 clear Fa Fb Fc
 clear hs35
 refine Wp_region<|Mve (Sl Ae x_1 Ce) rfl<|Asg (Sl Ae x_1 Ce) rfl<|Asg (Bo false) rfl<|Rg_nil<|Wp_ret ?_
 replace Fe:=Fe.step p145
 obtain⟨hs147,p148,f146⟩:=Gs.publish (i:=0) hs144 rfl Fe
 clear hs144
 have hz:=step_all hs147
 refine⟨_,Clo,[Sl Ae x_1 Ce,Bo false],⟨rfl,rfl,trivial⟩,hs147.ext,?_⟩
 replace f146:=f146.step hz
 exact Vr.eq (a:=vT2 (vC (rSl (rInt .i64))) vB) (x:=(x_1,false)) (mkT2 (mkC (mk_sl f146)) rfl) (oi hm)

abbrev q25_0:List Nat:=[4,5,8,9,10,11,25,26,27,28,29,30,31,32,33,34,35,36,37,38,39,40]

def m25_overflightref32_Proves_B0 (part_1:XProblem × Int) (sf51:(List Int)→Bool→Option (Bool × Int)) (choices_1:List Int) (more_1:Bool):Option (Bool × Int):=
 bif more_1 then
  (m57_overflightref27_Overloads part_1.1 choices_1).bind fun overloads_1=>
  bif (decide ((overloads_1.1.length:Int)=0)) then
   some (false,0)
  else
   (m58_overflightref32_Next part_1.1 choices_1).bind fun next_1=>
   sf51 next_1.1 next_1.2
 else
  some (true,0)

def m25_overflightref32_Proves (p:XProblem) (r_:XReason):Option (Bool × Int):=
 (m21_overflightref32_Part p r_).bind fun part_1=>
 bif (decide (part_1.2≠0)) then
  some (false,part_1.2)
 else
  ck ((0:Int)≤(part_1.1.variables.length:Int)∧(part_1.1.variables.length:Int)≤(part_1.1.variables.length:Int)∧(8:Int)*(part_1.1.variables.length:Int)≤281474976710656∧(part_1.1.variables.length:Int)≤281474976710656)<|
  loop2 (m25_overflightref32_Proves_B0 part_1) 1000000 (List.replicate part_1.1.variables.length (0:Int)) true

theorem c25_overflightref32_Proves {w:World} {O:List Nat} {p:XProblem} {r_:XReason} {Aa:Option Addr} {Ca:Nat} {Ab:Option Addr} {Cb:Nat} {Ac:Option Addr} {Cc:Nat} {Ad:Option Addr} {Cd:Nat} {Ae:Option Addr} {Ce:Nat} (hO:∀k∈O,k<w.heap.size) (Fa:SlR rXCell w O Aa Ca p.cells) (Fb:SlR (rSl (rInt .i64)) w O Ab Cb p.capacity) (Fc:SlR rXVariable w O Ac Cc p.variables) (Fd:SlR (rInt .i64) w O Ad Cd r_.variables) (Fe:SlR rXPlace w O Ae Ce r_.places) {x:Bool × Int} (hm:m25_overflightref32_Proves p r_=some x):
 Ok Try.prog 25 [Value.agg [Sl Aa p.cells Ca,Sl Ab p.capacity Cb,Sl Ac p.variables Cc].toArray,Value.agg [Sl Ad r_.variables Cd,Sl Ae r_.places Ce].toArray] w O (vT2 vB (vI .i64)) x:=by
 unfold m25_overflightref32_Proves at hm
 refine Fn_of_Wp (n:=41) (xs:=[.tmp 4,.tmp 5]) Try.func25 rfl Try.ntmps25 Try.results25 rfl ?_
 have hs:=St.start hO
 refine Wp_seq<|Wp_region<|Rop<|op_box (cs:=[Sl Aa p.cells Ca,Sl Ab p.capacity Cb,Sl Ac p.variables Cc]) hs rfl rfl ?_
 intro b1 w2 _ p3 hs4
 refine Rop<|op_box (cs:=[Sl Ad r_.variables Cd,Sl Ae r_.places Ce]) hs4 rfl rfl ?_
 intro b6 w7 _ p8 hs9
 clear hs4
 refine Asg (Bo false) rfl<|Asg (Iv 0) rfl<|Rg_nil<|Wp_seq<|Wp_region<|Rop<|op_ldA 1 ty26 hs9 rfl rfl rfl<|Rop<|op_ldA 0 ty34 hs9 rfl rfl rfl ?_
 obtain⟨part_1,hv11,hm⟩:=bd hm
 have p17:=(p3.trans p8)
 replace Fb:=Fb.step p17;replace Fa:=Fa.step p17;replace Fc:=Fc.step p17;replace Fe:=Fe.step p17;replace Fd:=Fd.step p17
 refine Rop<|op_callE hs9 Try.call21 (c21_overflightref32_Part (p:=p) (r_:=r_) hs9.ltw Fa Fb Fc Fd Fe hv11) rfl ?_
 rintro v12 w13 p18 hs16 h15
 clear hs9
 obtain⟨v19,v20,rfl,h21,h22⟩:=h15
 obtain⟨_,rfl,⟨_,_,rfl,⟨Af,Cf,rfl,Ff⟩,⟨_,_,rfl,⟨Ag,Cg,rfl,Fg⟩,⟨Ah,Ch,rfl,Fh⟩⟩⟩⟩:=h21
 obtain⟨rfl,Ra⟩:=h22
 refine Mve (Value.tuple [Value.agg [Sl Af part_1.1.cells Cf,Sl Ag part_1.1.capacity Cg,Sl Ah part_1.1.variables Ch].toArray,Iv part_1.2].toArray) rfl<|Rop<|op_extract (v:=Value.agg [Sl Af part_1.1.cells Cf,Sl Ag part_1.1.capacity Cg,Sl Ah part_1.1.variables Ch].toArray) rfl rfl<|Rop<|op_extract (v:=Iv part_1.2) rfl rfl<|Rop<|op_alloc ty26 hs16 ?_
 intro b25 w26 _ p27 hs28
 clear hs16
 refine Rg_op_<|op_stA .z ty26 hs28 rfl rfl rfl rfl rfl ?_
 intro w30 p31 hs32
 clear hs28
 refine Asg (Iv part_1.2) rfl<|Rg_nil<|Wp_seq<|Wp_seq ?_
 obtain⟨hs33,p34⟩:=hs32.sub (bs':=[(some b25,Oc [Sl Af part_1.1.cells Cf,Sl Ag part_1.1.capacity Cg,Sl Ah part_1.1.variables Ch] 26)]) (.cons_cons _ (.cons _ (.cons _ List.Sublist.slnil)))
 clear Fa Fb Fc Fd Fe
 clear hs32
 refine Wp_region<|Mve (Iv part_1.2) rfl<|Rop<|op_neq rfl rfl<|Rg_nil<|Wp_condM hm rfl (fun hc35 hm=>?_) (fun hc35 hm=>?_)
 refine Wp_seq ?_
 obtain⟨hs36,p37⟩:=hs33.sub (bs':=[]) (.cons _ List.Sublist.slnil)
 clear Ff Fg Fh
 clear hs33
 refine Wp_region<|Mve (Iv part_1.2) rfl<|Asg (Bo false) rfl<|Asg (Iv part_1.2) rfl<|Rg_nil<|Wp_ret<|⟨_,Clo,[Bo false,Iv part_1.2],⟨rfl,rfl,trivial⟩,hs36.ext,?_⟩
 exact Vr.eq (a:=vT2 vB (vI .i64)) (x:=(false,part_1.2)) (mkT2 rfl ⟨rfl,Ra⟩) (oi hm)
 refine Wp_skip<|Wp_seq<|Wp_region<|Rop<|op_fA 2 ty26 rfl ty24 rfl rfl<|Rop<|op_ld 0 ty24 hs33 rfl rfl rfl<|Rop<|op_len Try.underlying24 rfl ?_
 have p39:=(p27.trans (p31.trans p34))
 replace Fh:=Fh.step p39
 have rl38:=inK_len Fh
 obtain⟨hc40,hm⟩:=ck_some hm
 refine Rop<|op_makeSliceI (q:=(rInt .i64)) (v:=Iv 0) (x0:=(0:Int)) ty31 ty3 hs33 rfl rfl hc40 rfl (fun _ _=>(mk_int (show InK .i64 0 from by decide))) ?_
 intro b41 w42 hx46 p43 hs44 f45
 clear hs33
 refine Asg (Sl (some ⟨b41,0,none⟩) (List.replicate part_1.1.variables.length (0:Int)) part_1.1.variables.length) rfl<|Rg_nil<|Wp_seq<|Wp_region<|Asg (Bo true) rfl<|Rg_nil<|Wp_seq<|Wp_block<|Wr [] [(6,Pt b25 0),(8,Sl (some ⟨b41,0,none⟩) (List.replicate part_1.1.variables.length (0:Int)) part_1.1.variables.length),(9,Bo true)] fun ξ50=>?_
 obtain⟨hs56,p57,f55⟩:=Gs.publish (i:=0) hs44 rfl f45
 clear hs44
 refine Wp_loopM q25_0 (fun m fr w'=>∃(choices_1:List Int) (more_1:Bool) (Ai:Option Addr) (Ci:Nat) (Ebs:Ents),Ebs=[(some b25,Oc [Sl Af part_1.1.cells Cf,Sl Ag part_1.1.capacity Cg,Sl Ah part_1.1.variables Ch] 26)]∧fr [] [(8,Sl Ai choices_1 Ci),(9,Bo more_1)]∧hs56.S (ks Ebs O) w'∧St ⟨w,[],[]⟩ O w' Ebs∧SlR (rInt .i64) w' (ks Ebs O) Ai Ci choices_1∧loop2 (m25_overflightref32_Proves_B0 part_1) m choices_1 more_1=some x) 1000000 ⟨List.replicate part_1.1.variables.length (0:Int),true,some ⟨b41,0,none⟩,part_1.1.variables.length,_,rfl,Frm.of ⟨rfl,rfl,trivial⟩,Step.refl _ _,hs56,f55,hm⟩ ?_ ?_
 rintro _ _ ⟨_,_,_,_,_,_,_,_,_,_,hm⟩;exact loop2_z hm
 rintro m54 K53 hK53 ρ62 w58 ⟨choices_1,more_1,Ai,Ci,_,rfl,hfr61,hst60,hs59,Fi,hm⟩
 obtain⟨sf51,hsf52,hm⟩:=loop2_s hm;unfold m25_overflightref32_Proves_B0 at hm
 rw [hfr61.eq];clear hfr61
 have ch63:=hst60
 refine Wp_seq<|Wp_seq ?_
 clear f55
 refine Wp_region<|Mve (Bo more_1) rfl<|Rg_nil<|Wp_condM hm rfl (fun hc64 hm=>?_) (fun hc64 hm=>?_)
 refine Wp_skip<|Wp_block<|Wp_seq<|Wp_region<|Rop<|op_ldA 0 ty26 hs59 rfl rfl rfl<|Mve (Sl Ai choices_1 Ci) rfl ?_
 obtain⟨overloads_1,hv65,hm⟩:=bd hm
 have p71:=(p39.trans (p43.trans (p57.trans hst60)))
 replace Fg:=Fg.step p71;replace Ff:=Ff.step p71
 replace Fh:=Fh.step (p43.trans (p57.trans hst60))
 refine Rop<|op_callE hs59 Try.call57 (c57_overflightref27_Overloads (p:=part_1.1) (choices:=choices_1) hs59.ltw Ff Fg Fh Fi hv65) rfl ?_
 rintro v66 w67 p72 hs70 h69
 clear hs59
 obtain⟨v73,v74,rfl,h75,h76⟩:=h69
 obtain⟨Aj,Cj,rfl,Fj⟩:=un_sl h75
 obtain⟨rfl,Rb⟩:=h76
 refine Mve (Value.tuple [Sl Aj overloads_1.1 Cj,Iv overloads_1.2].toArray) rfl<|Rop<|op_extract (v:=Sl Aj overloads_1.1 Cj) rfl rfl<|Rop<|op_extract (v:=Iv overloads_1.2) rfl rfl<|Asg (Sl Aj overloads_1.1 Cj) rfl<|Asg (Iv overloads_1.2) rfl<|Rg_nil<|Wp_seq<|Wp_seq<|Wp_region<|Mve (Sl Aj overloads_1.1 Cj) rfl<|Rop<|op_len Try.underlying32 rfl ?_
 have rl79:=inK_len Fj
 refine Rop<|op_eql rfl rfl<|Rg_nil<|Wp_condM hm rfl (fun hc80 hm=>?_) (fun hc80 hm=>?_)
 refine Wp_seq ?_
 clear Fi Fj
 refine Wp_region<|Asg (Bo false) rfl<|Asg (Iv 0) rfl<|Rg_nil<|Wp_ret<|⟨_,Clo,[Bo false,Iv 0],⟨rfl,rfl,trivial⟩,hs70.ext,?_⟩
 exact Vr.eq (a:=vT2 vB (vI .i64)) (x:=(false,0)) (mkT2 rfl ⟨rfl,(show InK .i64 0 from by decide)⟩) (oi hm)
 refine Wp_skip ?_
 clear Fj
 refine Wp_region<|Rop<|op_ldA 0 ty26 hs70 rfl rfl rfl<|Mve (Sl Ai choices_1 Ci) rfl ?_
 obtain⟨next_1,hv81,hm⟩:=bd hm
 replace Fg:=Fg.step p72;replace Ff:=Ff.step p72;replace Fh:=Fh.step p72;replace Fi:=Fi.step p72
 refine Rop<|op_callE hs70 Try.call58 (c58_overflightref32_Next (p:=part_1.1) (choices:=choices_1) hs70.ltw Ff Fg Fh Fi hv81) rfl ?_
 rintro v82 w83 p87 hs86 h85
 clear hs70
 obtain⟨v88,v89,rfl,h90,h91⟩:=h85
 obtain⟨Ak,Ck,rfl,Fk⟩:=un_sl h90
 obtain rfl:=h91
 refine Mve (Value.tuple [Sl Ak next_1.1 Ck,Bo next_1.2].toArray) rfl<|Rop<|op_extract (v:=Sl Ak next_1.1 Ck) rfl rfl<|Rop<|op_extract (v:=Bo next_1.2) rfl rfl<|Asg (Sl Ak next_1.1 Ck) rfl<|Asg (Bo next_1.2) rfl<|Rg_nil ?_
 replace ch63:=ch63.trans (p72.trans p87)
 exact hK53 _ _ ⟨next_1.1,next_1.2,Ak,Ck,_,rfl,Frm.of ⟨rfl,rfl,trivial⟩,ch63,hs86,Fk,jnE2 hsf52 hm⟩
 refine Wp_exit<|Wp_seq ?_
 obtain⟨hs94,p95⟩:=hs59.sub (bs':=[]) (.cons _ List.Sublist.slnil)
 clear Ff Fg Fh Fi
 clear hs59
 refine Wp_region<|Asg (Bo true) rfl<|Asg (Iv 0) rfl<|Rg_nil<|Wp_ret<|⟨_,Clo,[Bo true,Iv 0],⟨rfl,rfl,trivial⟩,hs94.ext,?_⟩
 exact Vr.eq (a:=vT2 vB (vI .i64)) (x:=(true,0)) (mkT2 rfl ⟨rfl,(show InK .i64 0 from by decide)⟩) (oi hm)

abbrev q6_0:List Nat:=[11,12,13,14,15,16,17,18]

def m6_overflightlaw32_ReasonProvesSpec (p:XProblem) (r_:XReason):Option Bool:=
 m10_overflightlaw32_sane.bind fun sane_1=>
 bif (!sane_1) then
  some false
 else
  jn (fun(v_1:Bool)=>
   bif v_1 then
    some true
   else
    (m17_reason_Proves p r_).bind fun proves_1=>
    (m25_overflightref32_Proves p r_).bind fun proves_2=>
    bif (proves_1.1 == proves_2.1) then
     some (decide (proves_1.2=proves_2.2))
    else
     some false)
  (fun k24=>
   (m18_overflightref27_Few p).bind fun few_1=>
   bif (!few_1) then
    k24 true
   else
    (m19_overflightref32_Few r_).bind fun few_2=>
    k24 (!few_2))

theorem c6_overflightlaw32_ReasonProvesSpec {w:World} {O:List Nat} {p:XProblem} {r_:XReason} {Aa:Option Addr} {Ca:Nat} {Ab:Option Addr} {Cb:Nat} {Ac:Option Addr} {Cc:Nat} {Ad:Option Addr} {Cd:Nat} {Ae:Option Addr} {Ce:Nat} (hO:∀k∈O,k<w.heap.size) (Fa:SlR rXCell w O Aa Ca p.cells) (Fb:SlR (rSl (rInt .i64)) w O Ab Cb p.capacity) (Fc:SlR rXVariable w O Ac Cc p.variables) (Fd:SlR (rInt .i64) w O Ad Cd r_.variables) (Fe:SlR rXPlace w O Ae Ce r_.places) {x:Bool} (hm:m6_overflightlaw32_ReasonProvesSpec p r_=some x):
 Ok Try.prog 6 [Value.agg [Sl Aa p.cells Ca,Sl Ab p.capacity Cb,Sl Ac p.variables Cc].toArray,Value.agg [Sl Ad r_.variables Cd,Sl Ae r_.places Ce].toArray] w O vB x:=by
 unfold m6_overflightlaw32_ReasonProvesSpec at hm
 refine Fn_of_Wp (n:=39) (xs:=[.tmp 4]) Try.func6 rfl Try.ntmps6 Try.results6 rfl ?_
 have hs:=St.start hO
 refine Wp_seq<|Wp_region<|Rop<|op_box (cs:=[Sl Aa p.cells Ca,Sl Ab p.capacity Cb,Sl Ac p.variables Cc]) hs rfl rfl ?_
 intro b1 w2 _ p3 hs4
 refine Rop<|op_box (cs:=[Sl Ad r_.variables Cd,Sl Ae r_.places Ce]) hs4 rfl rfl ?_
 intro b6 w7 _ p8 hs9
 clear hs4
 refine Asg (Bo false) rfl<|Rg_nil<|Wp_seq<|Wp_seq<|Wp_region ?_
 obtain⟨sane_1,hv11,hm⟩:=bd hm
 refine Rop<|op_callE hs9 Try.call10 (c10_overflightlaw32_sane hs9.ltw hv11) rfl ?_
 rintro v12 w13 p17 hs16 h15
 clear hs9
 obtain rfl:=h15
 refine Rop<|op_not rfl<|Rg_nil<|Wp_condM hm rfl (fun hc19 hm=>?_) (fun hc19 hm=>?_)
 refine Wp_seq ?_
 obtain⟨hs20,p21⟩:=hs16.sub (bs':=[]) (.cons _ (.cons _ List.Sublist.slnil))
 clear Fa Fb Fc Fd Fe
 clear hs16
 refine Wp_region<|Asg (Bo false) rfl<|Rg_nil<|Wp_ret<|⟨_,Clo,[Bo false],⟨rfl,trivial⟩,hs20.ext,?_⟩
 exact Vr.eq (a:=vB) (x:=false) rfl (oi hm)
 refine Wp_skip<|Wp_seq<|Wr [] [(2,Pt b1 0),(3,Pt b6 0)] fun ξ22=>?_
 obtain⟨k24,hk25,hm⟩:=jn_elim hm
 refine Wp_seqJ q6_0 (fun fr w'=>∃(v_1:Bool) (Ebs:Ents),Ebs=[(some b6,Oc [Sl Ad r_.variables Cd,Sl Ae r_.places Ce] 34),(some b1,Oc [Sl Aa p.cells Ca,Sl Ab p.capacity Cb,Sl Ac p.variables Cc] 26)]∧fr [] [(18,Bo v_1)]∧hs16.S (ks Ebs O) w'∧St ⟨w,[],[]⟩ O w' Ebs∧k24 v_1=some x) ?_ ?_
 rintro ρ31 w27 ⟨v_1,_,rfl,hfr30,hst29,hs28,hm⟩
 replace hm:=jnE1 hk25 hm
 rw [hfr30.eq];clear hfr30
 refine Wp_condM hm rfl (fun hc32 hm=>?_) (fun hc32 hm=>?_)
 refine Wp_seq ?_
 obtain⟨hs33,p34⟩:=hs28.sub (bs':=[]) (.cons _ (.cons _ List.Sublist.slnil))
 clear Fa Fb Fc Fd Fe
 clear hs28
 refine Wp_region<|Asg (Bo true) rfl<|Rg_nil<|Wp_ret<|⟨_,Clo,[Bo true],⟨rfl,trivial⟩,hs33.ext,?_⟩
 exact Vr.eq (a:=vB) (x:=true) rfl (oi hm)
 refine Wp_skip<|Wp_seq<|Wp_region<|Rop<|op_ldA 1 ty26 hs28 rfl rfl rfl<|Rop<|op_ldA 0 ty34 hs28 rfl rfl rfl ?_
 obtain⟨proves_1,hv35,hm⟩:=bd hm
 have p41:=(p3.trans (p8.trans (p17.trans hst29)))
 replace Fb:=Fb.step p41;replace Fa:=Fa.step p41;replace Fc:=Fc.step p41;replace Fe:=Fe.step p41;replace Fd:=Fd.step p41
 refine Rop<|op_callE hs28 Try.call17 (c17_reason_Proves (p:=p) (r_:=r_) hs28.ltw Fa Fb Fc Fd Fe hv35) rfl ?_
 rintro v36 w37 p42 hs40 h39
 clear hs28
 obtain⟨v43,v44,rfl,h45,h46⟩:=h39
 obtain rfl:=h45
 obtain⟨rfl,Ra⟩:=h46
 refine Mve (Value.tuple [Bo proves_1.1,Iv proves_1.2].toArray) rfl<|Rop<|op_extract (v:=Bo proves_1.1) rfl rfl<|Rop<|op_extract (v:=Iv proves_1.2) rfl rfl<|Asg (Bo proves_1.1) rfl<|Asg (Iv proves_1.2) rfl<|Rg_nil<|Wp_seq<|Wp_region<|Rop<|op_ldA 1 ty26 hs40 rfl rfl rfl<|Rop<|op_ldA 0 ty34 hs40 rfl rfl rfl ?_
 obtain⟨proves_2,hv49,hm⟩:=bd hm
 replace Fb:=Fb.step p42;replace Fa:=Fa.step p42;replace Fc:=Fc.step p42;replace Fe:=Fe.step p42;replace Fd:=Fd.step p42
 refine Rop<|op_callE hs40 Try.call25 (c25_overflightref32_Proves (p:=p) (r_:=r_) hs40.ltw Fa Fb Fc Fd Fe hv49) rfl ?_
 rintro v50 w51 p55 hs54 h53
 clear hs40
 obtain⟨v56,v57,rfl,h58,h59⟩:=h53
 obtain rfl:=h58
 obtain⟨rfl,Rb⟩:=h59
 refine Mve (Value.tuple [Bo proves_2.1,Iv proves_2.2].toArray) rfl<|Rop<|op_extract (v:=Bo proves_2.1) rfl rfl<|Rop<|op_extract (v:=Iv proves_2.2) rfl rfl<|Asg (Bo proves_2.1) rfl<|Asg (Iv proves_2.2) rfl<|Rg_nil<|Wp_seq ?_
 obtain⟨hs62,p63⟩:=hs54.sub (bs':=[]) (.cons _ (.cons _ List.Sublist.slnil))
 clear Fa Fb Fc Fd Fe
 clear hs54
 refine Wp_region<|Mve (Bo proves_1.1) rfl<|Mve (Bo proves_2.1) rfl<|Rop<|op_eqb Try.underlying4 rfl rfl<|Mve (Bo (proves_1.1 == proves_2.1)) rfl<|Rg_caseM hm (fun hg64 hm=>?_) (fun hg64 hm=>?_)
 refine Rog rfl rfl<|op_move (v:=Iv proves_1.2) rfl<|Rog rfl rfl<|op_move (v:=Iv proves_2.2) rfl<|Rog rfl rfl<|op_eql rfl rfl<|Pkt (Bo (decide (proves_1.2=proves_2.2))) rfl rfl<|Asg (Bo (decide (proves_1.2=proves_2.2))) rfl<|Rg_nil<|Wp_ret<|⟨_,Clo,[Bo (decide (proves_1.2=proves_2.2))],⟨rfl,trivial⟩,hs62.ext,?_⟩
 exact Vr.eq (a:=vB) (x:=decide (proves_1.2=proves_2.2)) rfl (oi hm)
 iterate 3 refine Rg_opx rfl (asB_ne rfl rfl) rfl ?_
 refine Pkf (Bo false) rfl rfl<|Asg (Bo false) rfl<|Rg_nil<|Wp_ret<|⟨_,Clo,[Bo false],⟨rfl,trivial⟩,hs62.ext,?_⟩
 exact Vr.eq (a:=vB) (x:=false) rfl (oi hm)
 intro K26 hK26
 have ch65:=hs16.stepR
 refine Wp_region<|Rop<|op_ldA 1 ty26 hs16 rfl rfl rfl ?_
 obtain⟨few_1,hv66,hm⟩:=bd hm
 have p72:=(p3.trans (p8.trans p17))
 replace Fb:=Fb.step p72;replace Fa:=Fa.step p72;replace Fc:=Fc.step p72
 refine Rop<|op_callE hs16 Try.call18 (c18_overflightref27_Few (p:=p) hs16.ltw Fa Fb Fc hv66) rfl ?_
 rintro v67 w68 p73 hs71 h70
 obtain rfl:=h70
 refine Rop<|op_not rfl<|Mve (Bo (!few_1)) rfl<|Rg_caseM hm (fun hg75 hm=>?_) (fun hg75 hm=>?_)
 iterate 3 refine Rg_opx rfl (asB_ne rfl rfl) rfl ?_
 refine Pkt (Bo true) rfl rfl<|Rg_nil ?_
 replace ch65:=ch65.trans p73
 exact hK26 _ _ ⟨true,_,rfl,Frm.of ⟨rfl,trivial⟩,ch65,hs71,hm⟩
 refine Rog rfl rfl<|op_ldA 0 ty34 hs71 rfl rfl rfl ?_
 obtain⟨few_2,hv76,hm⟩:=bd hm
 have p82:=(p72.trans p73)
 replace Fe:=Fe.step p82;replace Fd:=Fd.step p82
 refine Rog rfl rfl<|op_callE hs71 Try.call19 (c19_overflightref32_Few (r_:=r_) hs71.ltw Fd Fe hv76) rfl ?_
 rintro v77 w78 p83 hs81 h80
 clear hs71
 obtain rfl:=h80
 refine Rog rfl rfl<|op_not rfl<|Pkf (Bo (!few_2)) rfl rfl<|Rg_nil ?_
 have p85:=(p73.trans p83)
 replace ch65:=ch65.trans p85
 exact hK26 _ _ ⟨!few_2,_,rfl,Frm.of ⟨rfl,trivial⟩,ch65,hs81,hm⟩

end Go.Fx
/- What the models of functions compute: loops over lists, checks, meetings. No program in sight. -/
set_option linter.unusedSimpArgs false
set_option linter.unusedVariables false
namespace Go.Fx
open Go Go.RowKit

section
variable {R α σ : Type}
@[simp] theorem jn_eq {κ:Type _} (k:κ) (f:κ→Option R):jn k f=f k:=rfl
theorem ck_eq {c:Prop} [Decidable c] {m:Option R} (h:c):ck c m=m:=if_pos h
@[simp] theorem ck_True {m:Option R} :ck True m=m:=if_pos trivial
theorem wrapN {i:Nat} (h:i<9223372036854775808):IntKind.i64.wrap (i:Int)=(i:Int):=wrap_i64 (by omega) (by omega)
theorem wrapS {i:Nat} (h:i+1<9223372036854775808):IntKind.i64.wrap ((i:Int)+1)=(i:Int)+1:=wrap_i64 (by omega) (by omega)
theorem wrapP {i:Nat} (h:i<9223372036854775808):IntKind.i64.wrap (((i+1:Nat):Int) - 1)=(i:Int):=(wrap_i64 (by omega) (by omega)).trans (by omega)

theorem up_list {L:Nat→Int→σ→Option R} (I:Nat→σ→Prop) (F:Nat→List α→σ→Option R) (l:List α) (hl:l.length<9223372036854775807)
    (hE:∀n s,I l.length s→L (n+1) (l.length:Nat) s=F l.length [] s)
    (hS:∀n (i:Nat) s x t,i<l.length→l[i]?=some x→IntKind.i64.wrap ((i:Int)+1)=(i:Int)+1→I i s→
      (∀s,I (i+1) s→L n ((i:Int)+1) s=F (i+1) t s)→L (n+1) (i:Int) s=F i (x::t) s):
    ∀(fuel:Nat) s,l.length<fuel→I 0 s→L fuel 0 s=F 0 l s:=by
  have main:∀(t:List α) (i fuel:Nat) s,l.drop i=t→i≤l.length→l.length - i<fuel→I i s→L fuel (i:Int) s=F i t s:=by
    intro t
    induction t with
    |nil=>
      intro i fuel s hd hi hf hI
      have:i=l.length:=by have:=congrArg List.length hd;simp at this;omega
      subst this
      obtain⟨n,rfl⟩:∃n,fuel=n+1:=⟨fuel - 1,by omega⟩
      exact hE n s hI
    |cons x t ih=>
      intro i fuel s hd hi hf hI
      have hlt:i<l.length:=by have:=congrArg List.length hd;simp at this;omega
      obtain⟨n,rfl⟩:∃n,fuel=n+1:=⟨fuel - 1,by omega⟩
      have hx:l[i]?=some x:=by rw [← List.head?_drop,hd];rfl
      refine hS n i s x t hlt hx (wrapS (by omega)) hI fun s' hI'=>(ih (i+1) n s' ?_ (by omega) (by omega) hI')
      rw [← List.drop_drop,hd];rfl
  intro fuel s hf hI
  exact main l 0 fuel s rfl (by omega) (by omega) hI

theorem getD_of {l:List α} {i:Nat} {x d:α} (h:l[i]?=some x):l.getD i d=x:=by simp [List.getD,h]

theorem up_list0 {B:(Int→Option R)→Int→Option R} (F:List α→Option R) (l:List α) (hl:l.length<9223372036854775807)
    (hE:∀sf,B sf (l.length:Nat)=F [])
    (hS:∀sf (i:Nat) x t,i<l.length→l[i]?=some x→IntKind.i64.wrap ((i:Int)+1)=(i:Int)+1→
      sf ((i:Int)+1)=F t→B sf (i:Int)=F (x::t))
    {fuel:Nat} (hf:l.length<fuel):loop1 B fuel 0=F l:=by
  refine up_list (L:=fun n i (_:Unit)=>loop1 B n i) (fun _ _=>True) (fun _ t _=>F t) l hl ?_ ?_ fuel () hf trivial
  · intro n _ _;show loop1 B (n+1) _=_;rw [loop1_succ];exact hE _
  · intro n i _ x t h1 h2 h3 _ ih;show loop1 B (n+1) _=_;rw [loop1_succ];exact hS _ i x t h1 h2 h3 (ih () trivial)
theorem up_listA {B:(Int→σ→Option R)→Int→σ→Option R} (I:Nat→σ→Prop) (F:Nat→List α→σ→Option R) (l:List α) (hl:l.length<9223372036854775807)
    (hE:∀sf s,I l.length s→B sf (l.length:Nat) s=F l.length [] s)
    (hS:∀sf (i:Nat) s x t,i<l.length→l[i]?=some x→IntKind.i64.wrap ((i:Int)+1)=(i:Int)+1→I i s→
      (∀s,I (i+1) s→sf ((i:Int)+1) s=F (i+1) t s)→B sf (i:Int) s=F i (x::t) s)
    {fuel:Nat} {s:σ} (hf:l.length<fuel) (hI:I 0 s):loop2 B fuel 0 s=F 0 l s:=by
  refine up_list (L:=fun n i s=>loop2 B n i s) I F l hl ?_ ?_ fuel s hf hI
  · intro n s h;show loop2 B (n+1) _ _=_;rw [loop2_succ];exact hE _ _ h
  · intro n i s x t h1 h2 h3 h4 ih;show loop2 B (n+1) _ _=_;rw [loop2_succ];exact hS _ i s x t h1 h2 h3 h4 ih
theorem up_listB {B:(σ→Int→Option R)→σ→Int→Option R} (I:Nat→σ→Prop) (F:Nat→List α→σ→Option R) (l:List α) (hl:l.length<9223372036854775807)
    (hE:∀sf s,I l.length s→B sf s (l.length:Nat)=F l.length [] s)
    (hS:∀sf (i:Nat) s x t,i<l.length→l[i]?=some x→IntKind.i64.wrap ((i:Int)+1)=(i:Int)+1→I i s→
      (∀s,I (i+1) s→sf s ((i:Int)+1)=F (i+1) t s)→B sf s (i:Int)=F i (x::t) s)
    {fuel:Nat} {s:σ} (hf:l.length<fuel) (hI:I 0 s):loop2 B fuel s 0=F 0 l s:=by
  refine up_list (L:=fun n i s=>loop2 B n s i) I F l hl ?_ ?_ fuel s hf hI
  · intro n s h;show loop2 B (n+1) _ _=_;rw [loop2_succ];exact hE _ _ h
  · intro n i s x t h1 h2 h3 h4 ih;show loop2 B (n+1) _ _=_;rw [loop2_succ];exact hS _ i s x t h1 h2 h3 h4 ih

theorem up_listI {B:(Int→Option R)→Int→Option R} (F:Nat→List α→Option R) (l:List α) (hl:l.length<9223372036854775807)
    (hE:∀sf,B sf (l.length:Nat)=F l.length [])
    (hS:∀sf (i:Nat) x t,i<l.length→l[i]?=some x→IntKind.i64.wrap ((i:Int)+1)=(i:Int)+1→
      sf ((i:Int)+1)=F (i+1) t→B sf (i:Int)=F i (x::t))
    {fuel:Nat} (hf:l.length<fuel):loop1 B fuel 0=F 0 l:=by
  refine up_list (L:=fun n i (_:Unit)=>loop1 B n i) (fun _ _=>True) (fun i t _=>F i t) l hl ?_ ?_ fuel () hf trivial
  · intro n _ _;show loop1 B (n+1) _=_;rw [loop1_succ];exact hE _
  · intro n i _ x t h1 h2 h3 _ ih;show loop1 B (n+1) _=_;rw [loop1_succ];exact hS _ i x t h1 h2 h3 (ih () trivial)
end
end Go.Fx
/- Chapter 32: what is a valid problem, a valid reason. Loops that ask the same of each element. -/
set_option linter.unusedSimpArgs false
set_option linter.unusedVariables false
set_option maxRecDepth 100000
namespace Go.Fx
open Go Go.RowKit
section
variable {R α σ : Type}
def adj (lt : α → α → Bool) : List α → Bool
  | a :: b :: t => lt a b && adj lt (b :: t)
  | _ => true
/-- each element by itself, and beside the one before it -/
def allP (ok : α → Bool) (lt : α → α → Bool) : Option α → List α → Bool
  | _, [] => true
  | o, x :: t => ok x && (o.all fun y => lt y x) && allP ok lt (some x) t
theorem allP_some {ok : α → Bool} {lt : α → α → Bool} : ∀ (t : List α) (a : α), allP ok lt (some a) t = (t.all ok && adj lt (a :: t))
  | [], a => by simp [allP, adj]
  | x :: t, a => by
    simp only [allP, adj, allP_some t x, List.all_cons, Option.all_some]
    cases ok x <;> cases lt a x <;> cases t.all ok <;> simp
theorem allP_none {ok : α → Bool} {lt : α → α → Bool} (l : List α) : allP ok lt none l = (l.all ok && adj lt l) := by
  cases l with
  | nil => simp [allP, adj]
  | cons x t => simp only [allP, allP_some, List.all_cons, Option.all_none, Bool.and_true, Bool.and_assoc]
/-- a loop that asks ok of each element, and lt of each and the one before it -/
theorem adj_up {B : (Int → Option R) → Int → Option R} {l : List α} (ok : α → Bool) (lt : α → α → Bool) (bad fin : Option R) (hl : l.length < 9223372036854775807)
    (hE : ∀ sf, B sf (l.length : Nat) = fin)
    (h0 : ∀ sf x, 0 < l.length → l[0]? = some x → IntKind.i64.wrap ((0 : Int) + 1) = 1 → B sf 0 = bif ok x then sf 1 else bad)
    (hS : ∀ sf (j : Nat) y x, j + 1 < l.length → l[j]? = some y → l[j + 1]? = some x → IntKind.i64.wrap (((j + 1 : Nat) : Int) + 1) = ((j + 1 : Nat) : Int) + 1 → IntKind.i64.wrap (((j + 1 : Nat) : Int) - 1) = (j : Int) →
      B sf ((j + 1 : Nat) : Int) = bif (ok x && lt y x) then sf (((j + 1 : Nat) : Int) + 1) else bad)
    {fuel : Nat} (hf : l.length < fuel) : loop1 B fuel 0 = bif (l.all ok && adj lt l) then fin else bad := by
  refine (up_listI (fun i t => bif allP ok lt (if i = 0 then none else l[i - 1]?) t then fin else bad) l hl (fun sf => by rw [hE]; rfl) ?_ hf).trans ?_
  · intro sf i x t h1 h2 h3 ih
    cases i with
    | zero =>
      have e := h0 sf x h1 h2 (by simpa using h3)
      simp only [Nat.zero_add, Nat.succ_ne_zero, if_false, if_true, Nat.add_sub_cancel, h2, Int.natCast_zero, Int.zero_add] at ih ⊢
      show B sf 0 = _
      rw [e, allP]
      cases ok x
      · simp
      · simp only [cond_true, Option.all_none, Bool.and_true, Bool.true_and]; exact ih
    | succ j =>
      have hy : l[j]? = some l[j] := List.getElem?_eq_getElem (by omega)
      have e := hS sf j l[j] x h1 hy h2 h3 (wrapP (by omega))
      simp only [Nat.succ_ne_zero, if_false, Nat.add_sub_cancel, h2] at ih ⊢
      rw [e, allP, hy]
      cases hc : (ok x && lt l[j] x)
      · simp only [Option.all_some, hc, Bool.false_and, cond_false]
      · simp only [Option.all_some, hc, Bool.true_and, cond_true]; exact ih
  · simp only [if_true, allP_none]
/-- each by itself -/
theorem all_up {B : (Int → Option R) → Int → Option R} {l : List α} (ok : α → Bool) (bad fin : Option R) (hl : l.length < 9223372036854775807)
    (hE : ∀ sf, B sf (l.length : Nat) = fin)
    (hS : ∀ sf (i : Nat) x, i < l.length → l[i]? = some x → IntKind.i64.wrap ((i : Int) + 1) = (i : Int) + 1 → B sf (i : Int) = bif ok x then sf ((i : Int) + 1) else bad)
    {fuel : Nat} (hf : l.length < fuel) : loop1 B fuel 0 = bif l.all ok then fin else bad := by
  refine up_list0 (fun t => bif t.all ok then fin else bad) l hl (fun sf => by rw [hE]; rfl) ?_ hf
  intro sf i x t h1 h2 h3 ih
  rw [hS sf i x h1 h2 h3, List.all_cons]
  cases ok x
  · rfl
  · simp only [cond_true, Bool.true_and]; exact ih
/-- from the second on, beside the one before -/
theorem adj_up1 {B : (Int → Option R) → Int → Option R} {l : List α} (lt : α → α → Bool) (bad fin : Option R) (hl : l.length < 9223372036854775807)
    (hE : ∀ sf (i : Nat), l.length ≤ i → i ≤ l.length + 1 → B sf (i : Int) = fin)
    (hS : ∀ sf (j : Nat) y x, j + 1 < l.length → l[j]? = some y → l[j + 1]? = some x → IntKind.i64.wrap (((j + 1 : Nat) : Int) + 1) = ((j + 1 : Nat) : Int) + 1 → IntKind.i64.wrap (((j + 1 : Nat) : Int) - 1) = (j : Int) →
      B sf ((j + 1 : Nat) : Int) = bif lt y x then sf (((j + 1 : Nat) : Int) + 1) else bad)
    {fuel : Nat} (hf : l.length - 1 < fuel) : loop1 B fuel 1 = bif adj lt l then fin else bad := by
  have main : ∀ (fuel j : Nat) (y : α) (t : List α), l.drop j = y :: t → l.length - (j + 1) < fuel → loop1 B fuel ((j + 1 : Nat) : Int) = bif adj lt (y :: t) then fin else bad := by
    intro fuel
    induction fuel with
    | zero => intro j y t _ h; omega
    | succ n ih =>
      intro j y t hd hf
      have hlen : l.length - j = t.length + 1 := by have := congrArg List.length hd; simpa using this
      have hy : l[j]? = some y := by rw [← List.head?_drop, hd]; rfl
      rw [loop1_succ]
      cases t with
      | nil => rw [hE _ _ (by simp at hlen; omega) (by simp at hlen; omega)]; rfl
      | cons x t =>
        simp only [List.length_cons] at hlen
        have hd2 : l.drop (j + 1) = x :: t := by rw [← List.drop_drop, hd]; rfl
        have hx : l[j + 1]? = some x := by rw [← List.head?_drop, hd2]; rfl
        rw [hS _ j y x (by omega) hy hx (wrapS (by omega)) (wrapP (by omega)), adj]
        cases lt y x
        · rfl
        · simp only [cond_true, Bool.true_and]; exact ih (j + 1) x t hd2 (by omega)
  cases l with
  | nil =>
    obtain ⟨n, rfl⟩ : ∃ n, fuel = n + 1 := ⟨fuel - 1, by simp at hf; omega⟩
    rw [loop1_succ]; exact hE _ 1 (by simp) (by simp)
  | cons y t => exact main fuel 0 y t rfl hf
/-- facts on an index within a list, for simp -/
theorem inBd {i n : Nat} (h : i < n) : ((0 : Int) ≤ (i : Int) ∧ (i : Int) < (n : Int)) = True := by simp; omega
theorem ltBd {i n : Nat} (h : i < n) : decide ((i : Int) < (n : Int)) = true := by simpa using h
theorem ltE {n : Nat} : decide ((n : Int) < (n : Int)) = false := by simp
end
def within (n lo hi : Int) : Bool := decide (lo ≤ n) && decide (n ≤ hi)
theorem m33_eq (n lo hi : Int) : m33_problem_within n lo hi = some (within n lo hi) := by
  unfold m33_problem_within within; cases decide (lo ≤ n) <;> rfl
theorem m61_eq (n lo hi : Int) : m61_overflightref27_within n lo hi = some (within n lo hi) := by
  unfold m61_overflightref27_within within; cases decide (lo ≤ n) <;> rfl
def cmpI (x y : Int) : Int := if x < y then -1 else if y < x then 1 else 0
theorem m39_eq (x y : Int) : m39_cmp_Compare x y = some (cmpI x y) := by
  unfold m39_cmp_Compare m66_cmp_isNaN cmpI
  by_cases h : x < y
  · simp [h]
  · by_cases h2 : y < x <;> simp [h, h2]
theorem m64_eq (x y : Int) : m64_cmp_Or [x, y] = some (if x ≠ 0 then x else y) := by
  unfold m64_cmp_Or
  rw [up_list0 (B := m64_cmp_Or_B0 [x, y]) (fun t => some ((t.find? (fun z => decide (z ≠ 0))).getD 0)) [x, y] (by simp) ?_ ?_ (by simp)]
  · by_cases hx : x = 0
    · by_cases hy : y = 0 <;> simp [hx, hy]
    · simp [hx]
  · intro sf; unfold m64_cmp_Or_B0; simp
  · intro sf i z t h1 h2 h3 ih
    unfold m64_cmp_Or_B0
    simp only [ltBd h1, inBd h1, ck_True, Int.toNat_natCast, getD_of h2, h3, ih, cond_true, List.find?_cons]
    cases decide (z ≠ 0) <;> rfl
/-- the order of cells -/
def cb (a b : XCell) : Bool := if a.airport = b.airport then (if a.index = b.index then decide (a.minute < b.minute) else decide (a.index < b.index)) else b.airport
theorem m60_eq (a b : XCell) : m60_overflightref27_Before a b = some (cb a b) := by
  unfold m60_overflightref27_Before cb
  by_cases h : a.airport = b.airport
  · by_cases h2 : a.index = b.index <;> simp [h, h2]
  · have h3 : (a.airport == b.airport) = false := by simpa using h
    simp [h, h3]
def cmpC (a b : XCell) : Int := if a.airport = b.airport then (if cmpI a.index b.index ≠ 0 then cmpI a.index b.index else cmpI a.minute b.minute) else if b.airport then -1 else 1
theorem m35_eq (a b : XCell) : m35_problem_compare a b = some (cmpC a b) := by
  unfold m35_problem_compare cmpC
  by_cases h : a.airport = b.airport
  · simp only [h, beq_self_eq_true, Bool.not_true, cond_false, m39_eq, m64_eq, Option.bind_some, if_true]
  · have : (a.airport == b.airport) = false := by simpa using h
    simp only [this, h, Bool.not_false, cond_true, if_false]
    cases b.airport <;> rfl
theorem cmpC_cb (a b : XCell) : decide (0 ≤ cmpC a b) = !(cb a b) := by
  unfold cmpC cb cmpI
  by_cases h : a.airport = b.airport
  · simp only [h, if_true]
    by_cases h1 : a.index = b.index
    · simp only [h1, Int.lt_irrefl, if_false, ne_eq, not_true_eq_false, if_true]
      by_cases h2 : a.minute < b.minute
      · simp [h2]
      · simp only [h2, if_false, decide_false, Bool.not_false, decide_eq_true_eq]; split <;> omega
    · simp only [h1, if_false]
      by_cases h2 : a.index < b.index
      · simp [h2]
      · have : b.index < a.index := by omega
        simp [h2, this]
  · simp only [h, if_false]
    cases b.airport <;> simp
theorem m34_eq (l : List XCell) (hl : l.length < 9223372036854775807) : m34_api_Cell_ l (fun x y => m35_problem_compare x y) = some (adj cb l) := by
  unfold m34_api_Cell_
  rw [adj_up1 (l := l) cb (some false) (some true) hl ?_ ?_ (by omega)]
  · cases adj cb l <;> rfl
  · intro sf i h1 h2; unfold m34_api_Cell__B0
    have : decide ((i : Int) < (l.length : Int)) = false := by simp; omega
    rw [this]; rfl
  · intro sf j y x h1 h2 h3 h4 h5; unfold m34_api_Cell__B0
    simp only [ltBd h1, h4, h5, inBd h1, inBd (show j < l.length by omega), ck_True, Int.toNat_natCast, getD_of h2, getD_of h3, m35_eq, Option.bind_some, cmpC_cb, cond_true]
    cases cb y x <;> rfl
theorem m38_eq (l : List Int) (hl : l.length < 9223372036854775807) : m38_problem_increasing l (fun x y => m39_cmp_Compare x y) = some (adj (fun x y => decide (x < y)) l) := by
  unfold m38_problem_increasing
  rw [adj_up1 (l := l) (fun x y => decide (x < y)) (some false) (some true) hl ?_ ?_ (by omega)]
  · cases adj _ l <;> rfl
  · intro sf i h1 h2; unfold m38_problem_increasing_B0
    have : decide ((i : Int) < (l.length : Int)) = false := by simp; omega
    rw [this]; rfl
  · intro sf j y x h1 h2 h3 h4 h5; unfold m38_problem_increasing_B0
    simp only [ltBd h1, h4, h5, inBd h1, inBd (show j < l.length by omega), ck_True, Int.toNat_natCast, getD_of h2, getD_of h3, m39_eq, Option.bind_some, cond_true]
    by_cases h : y < x
    · simp [cmpI, h]
    · have : 0 ≤ cmpI y x := by unfold cmpI; simp only [h, if_false]; split <;> omega
      simp [h, this]
theorem m40_eq (l : List XUse) (hl : l.length < 9223372036854775807) : m40_api_Use_ l (fun x y => m41_problem_Check_2 x y) = some (adj (fun x y => cb x.cell y.cell) l) := by
  unfold m40_api_Use_
  rw [adj_up1 (l := l) (fun x y => cb x.cell y.cell) (some false) (some true) hl ?_ ?_ (by omega)]
  · cases adj _ l <;> rfl
  · intro sf i h1 h2; unfold m40_api_Use__B0
    have : decide ((i : Int) < (l.length : Int)) = false := by simp; omega
    rw [this]; rfl
  · intro sf j y x h1 h2 h3 h4 h5; unfold m40_api_Use__B0
    simp only [ltBd h1, h4, h5, inBd h1, inBd (show j < l.length by omega), ck_True, Int.toNat_natCast, getD_of h2, getD_of h3, m41_problem_Check_2, m35_eq, Option.bind_some, cmpC_cb, cond_true]
    cases cb y.cell x.cell <;> rfl
theorem m36_eq (s : List Int) (hl : s.length < 9223372036854775807) : m36_slices_ContainsFuncint_int_ s (fun x => m37_problem_Check_1 x) = some (!(s.all fun n => within n 0 4096)) := by
  unfold m36_slices_ContainsFuncint_int_ m65_slices_IndexFuncint_int_
  have key : ∃ i : Int, loop1 (m65_slices_IndexFuncint_int__B0 s (fun x => m37_problem_Check_1 x)) (((s.length : Int) - 0).toNat + 1) 0 = some i ∧ decide (0 ≤ i) = !(s.all fun n => within n 0 4096) := by
    rw [up_listI (B := m65_slices_IndexFuncint_int__B0 s (fun x => m37_problem_Check_1 x)) (fun i t => some (match t.findIdx? (fun n => !(within n 0 4096)) with | none => (-1 : Int) | some k => ((i + k : Nat) : Int))) s hl ?_ ?_ (by omega)]
    · refine ⟨_, rfl, ?_⟩
      cases h : s.findIdx? (fun n => !(within n 0 4096)) with
      | none =>
        rw [List.findIdx?_eq_none_iff] at h
        have : (s.all fun n => within n 0 4096) = true := by rw [List.all_eq_true]; intro x hx; simpa using h x hx
        simp [this]
      | some k =>
        have : (s.all fun n => within n 0 4096) = false := by
          rw [List.all_eq_false]
          obtain ⟨hk, h1, _⟩ := List.findIdx?_eq_some_iff_getElem.1 h
          exact ⟨s[k], List.getElem_mem hk, by simpa using h1⟩
        simp [this]
    · intro sf; unfold m65_slices_IndexFuncint_int__B0; simp
    · intro sf i x t h1 h2 h3 ih
      unfold m65_slices_IndexFuncint_int__B0 m37_problem_Check_1
      simp only [ltBd h1, inBd h1, ck_True, Int.toNat_natCast, getD_of h2, m33_eq, Option.bind_some, h3, cond_true, List.findIdx?_cons]
      cases hw : within x 0 4096
      · simp
      · simp only [Bool.not_true, cond_false, Bool.false_eq_true, if_false]
        rw [ih]
        cases t.findIdx? (fun n => !(within n 0 4096)) with
        | none => rfl
        | some k => simp; omega
  obtain ⟨i, h1, h2⟩ := key
  rw [h1, Option.bind_some, h2]
end Go.Fx
/- Chapter 32: problem.Check and the reference's Check say the same; so do the Checks of reasons. -/
set_option linter.unusedSimpArgs false
set_option linter.unusedVariables false
set_option maxRecDepth 100000
namespace Go.Fx
open Go Go.RowKit
def okCell (c : XCell) : Bool := decide (0 ≤ c.index) && decide (0 ≤ c.minute)
def okUse (cells : List XCell) (u : XUse) : Bool := decide (u.cell ∈ cells) && within u.places 1 8
def okChoice (cells : List XCell) (c : XChoice) : Bool :=
  within c.delay 0 1048576 && (within c.cost 0 1048576 && (within c.changes 0 1048576 && (c.uses.all (okUse cells) && adj (fun x y => cb x.cell y.cell) c.uses)))
def okVar (cells : List XCell) (n : Nat) (v : XVariable) : Bool :=
  !(decide (v.leaves.length = 0)) && (within v.choices.length 1 96 && (((v.leaves.all fun k => within k 0 ((n : Int) - 1)) && adj (fun x y => decide (x < y)) v.leaves) && v.choices.all (okChoice cells)))
def okRow (n : Nat) (r : List Int) : Bool := decide (r.length = n) && r.all fun k => within k 0 4096
def okProb (p : XProblem) : Bool :=
  decide (p.cells.length ≤ 4096) && (within p.capacity.length 1 32 && (decide (p.variables.length ≤ 64) && ((p.cells.all okCell && adj cb p.cells) && (p.capacity.all (okRow p.cells.length) && p.variables.all (okVar p.cells p.capacity.length)))))
/-- in a rising list the first is the least, the last the greatest -/
theorem adj_ends {l : List Int} {n : Int} (h : adj (fun x y => decide (x < y)) l = true) {x : Int} (hx : x ∈ l) (d : Int) : l.getD 0 d ≤ x ∧ x ≤ l.getD (l.length - 1) d := by
  induction l generalizing x with
  | nil => cases hx
  | cons a t ih =>
    cases t with
    | nil => simp at hx; simp [hx]
    | cons b t =>
      simp only [adj, Bool.and_eq_true, decide_eq_true_eq] at h
      have e : (a :: b :: t).getD ((a :: b :: t).length - 1) d = (b :: t).getD ((b :: t).length - 1) d := by simp
      rw [e]
      rcases List.mem_cons.1 hx with rfl | hx
      · have := ih h.2 (List.mem_cons_self ..)
        simp only [List.getD_cons_zero] at this ⊢
        omega
      · have := ih h.2 hx
        simp only [List.getD_cons_zero] at this ⊢
        omega
theorem leaves_eq {l : List Int} {n : Nat} (h0 : l.length ≠ 0) (h : adj (fun x y => decide (x < y)) l = true) :
    (!(decide (l.getD 0 default < 0)) && !(decide ((n : Int) ≤ l.getD (l.length - 1) default))) = l.all fun k => within k 0 ((n : Int) - 1) := by
  rw [Bool.eq_iff_iff]
  simp only [Bool.and_eq_true, Bool.not_eq_true', decide_eq_false_iff_not, List.all_eq_true, within, decide_eq_true_eq]
  constructor
  · intro ⟨h1, h2⟩ x hx
    have := adj_ends (n := 0) h hx default
    omega
  · intro ha
    have m0 : l.getD 0 default ∈ l := by
      rw [getD_of (List.getElem?_eq_getElem (show 0 < l.length by omega))]; exact List.getElem_mem _
    have m1 : l.getD (l.length - 1) default ∈ l := by
      rw [getD_of (List.getElem?_eq_getElem (show l.length - 1 < l.length by omega))]; exact List.getElem_mem _
    have := ha _ m0; have := ha _ m1
    omega
theorem sm_len {α : Type} {S : α → Prop} {l : List α} (h : SmL S l) : l.length < 9223372036854775807 := by have := h.1; omega
theorem ge0 {α : Type} {l : List α} {i : Nat} {x : α} (h : l[i]? = some x) : x ∈ l := List.mem_of_getElem? h
theorem choice12 {p : XProblem} {map_1 : List (XCell × Bool)} {v : XVariable} {i : Nat} (hm : ∀ c, (mget map_1 c).getD false = decide (c ∈ p.cells)) (hv : p.variables[i]? = some v) (hs : smXVariable v)
    (sf156 : Int → Option Int) (hw : IntKind.i64.wrap ((i : Int) + 1) = (i : Int) + 1) :
    loop1 (m12_problem_Check_B3 p map_1 (i : Int) sf156) (((((p.variables.getD (i : Int).toNat default).choices).length : Int) - 0).toNat + 1) 0 = bif v.choices.all (okChoice p.cells) then sf156 ((i : Int) + 1) else some 270 := by
  simp only [Int.toNat_natCast, getD_of hv]
  refine all_up (okChoice p.cells) (some 270) (sf156 ((i : Int) + 1)) (sm_len hs.2.2.2) ?_ ?_ (by omega)
  · intro sf; unfold m12_problem_Check_B3
    simp only [Int.toNat_natCast, getD_of hv, ltE, cond_false, hw]
  · intro sf j c h1 h2 h3
    have hc := hs.2.2.2.2 c (ge0 h2)
    unfold m12_problem_Check_B3
    simp only [Int.toNat_natCast, getD_of hv, getD_of h2, ltBd h1, inBd h1, ck_True, cond_true, m33_eq, Option.bind_some, jn_eq, m40_eq _ (sm_len hc.2.2.2), okChoice]
    rw [all_up (B := m12_problem_Check_B4 p map_1 (i : Int) (j : Int) sf) (l := c.uses) (okUse p.cells) (some 270) (sf ((j : Int) + 1)) (sm_len hc.2.2.2) ?_ ?_ (by omega)]
    · cases within c.delay 0 1048576 <;> cases within c.cost 0 1048576 <;> cases within c.changes 0 1048576 <;> cases adj (fun x y => cb x.cell y.cell) c.uses <;> cases c.uses.all (okUse p.cells) <;> rfl
    · intro sf'; unfold m12_problem_Check_B4
      simp only [Int.toNat_natCast, getD_of hv, getD_of h2, ltE, cond_false, h3]
    · intro sf' k u h4 h5 h6
      unfold m12_problem_Check_B4
      simp only [Int.toNat_natCast, getD_of hv, getD_of h2, getD_of h5, ltBd h4, inBd h4, ck_True, cond_true, m33_eq, Option.bind_some, jn_eq, hm, okUse, h6]
      cases decide (u.cell ∈ p.cells) <;> cases within u.places 1 8 <;> rfl
theorem m12_eq {p : XProblem} (hp : smXProblem p) : m12_problem_Check p = some (bif okProb p then 0 else 270) := by
  obtain ⟨s1, s2, s3⟩ := hp
  unfold m12_problem_Check
  simp only [jn_eq, m33_eq, Option.bind_some, m34_eq _ (sm_len s1)]
  have vars : ∀ map_1 : List (XCell × Bool), (∀ c, (mget map_1 c).getD false = decide (c ∈ p.cells)) →
      loop1 (m12_problem_Check_B2 p map_1) (((p.variables.length : Int) - 0).toNat + 1) 0 = bif p.variables.all (okVar p.cells p.capacity.length) then some 0 else some 270 := by
    intro map_1 hm
    refine all_up (okVar p.cells p.capacity.length) (some 270) (some 0) (sm_len s3) ?_ ?_ (by omega)
    · intro sf; unfold m12_problem_Check_B2; simp only [ltE, cond_false]
    · intro sf i v h1 h2 h3
      have hv := s3.2 v (ge0 h2)
      unfold m12_problem_Check_B2
      rw [choice12 hm h2 hv sf h3]
      simp only [Int.toNat_natCast, getD_of h2, ltBd h1, inBd h1, ck_True, cond_true, m33_eq, Option.bind_some, jn_eq, m38_eq _ (sm_len hv.2.2.1), okVar]
      by_cases h0 : v.leaves.length = 0
      · simp [h0]
      · have e1 : IntKind.i64.wrap ((v.leaves.length : Int) - 1) = ((v.leaves.length - 1 : Nat) : Int) := by
          have := sm_len hv.2.2.1
          exact (wrap_i64 (by omega) (by omega)).trans (by omega)
        have c1 : ((0 : Int) ≤ 0 ∧ (0 : Int) < (v.leaves.length : Int)) = True := by simp; omega
        have c2 : ((0 : Int) ≤ ((v.leaves.length - 1 : Nat) : Int) ∧ ((v.leaves.length - 1 : Nat) : Int) < (v.leaves.length : Int)) = True := by simp; omega
        have c3 : decide ((v.leaves.length : Int) = 0) = false := by simpa using h0
        simp only [e1, c1, c2, c3, ck_True, cond_false, h0, decide_false, Bool.not_false, Bool.true_and, Int.toNat_natCast]
        cases within v.choices.length 1 96
        · rfl
        · simp only [Bool.not_true, cond_false, Bool.true_and]
          cases ha : adj (fun x y => decide (x < y)) v.leaves
          · simp
          · rw [← leaves_eq h0 ha]
            simp only [Bool.not_true, cond_false, Bool.and_true]
            cases decide (v.leaves.getD 0 default < 0) <;> cases decide ((p.capacity.length : Int) ≤ v.leaves.getD (v.leaves.length - 1) default) <;> cases v.choices.all (okChoice p.cells) <;> rfl
  have caps : ∀ map_1 : List (XCell × Bool), (∀ c, (mget map_1 c).getD false = decide (c ∈ p.cells)) →
      loop1 (m12_problem_Check_B1 p map_1) (((p.capacity.length : Int) - 0).toNat + 1) 0 = bif p.capacity.all (okRow p.cells.length) then (bif p.variables.all (okVar p.cells p.capacity.length) then some 0 else some 270) else some 270 := by
    intro map_1 hm
    refine all_up (okRow p.cells.length) (some 270) _ (sm_len s2) ?_ ?_ (by omega)
    · intro sf; unfold m12_problem_Check_B1; rw [vars map_1 hm]; simp only [ltE, cond_false]
    · intro sf i r h1 h2 h3
      unfold m12_problem_Check_B1
      simp only [Int.toNat_natCast, getD_of h2, ltBd h1, inBd h1, ck_True, cond_true, jn_eq, m36_eq _ (sm_len (s2.2 r (ge0 h2))), Option.bind_some, okRow, h3]
      by_cases h : r.length = p.cells.length
      · simp only [h, ne_eq, not_true_eq_false, decide_false, cond_false, decide_true, Bool.true_and]
        cases r.all fun k => within k 0 4096 <;> rfl
      · have : ((r.length : Int) ≠ (p.cells.length : Int)) := by omega
        simp [h, this]
  have cells : loop2 (m12_problem_Check_B0 p) (((p.cells.length : Int) - 0).toNat + 1) 0 ([] : List (XCell × Bool)) = bif p.cells.all okCell then (bif p.capacity.all (okRow p.cells.length) then (bif p.variables.all (okVar p.cells p.capacity.length) then some 0 else some 270) else some 270) else some 270 := by
    refine up_listA (fun i s => ∀ c, (mget s c).getD false = decide (c ∈ p.cells.take i)) (fun _ t _ => bif t.all okCell then _ else some 270) p.cells (sm_len s1) ?_ ?_ (by omega) (by simp [mget])
    · intro sf s hI
      unfold m12_problem_Check_B0
      rw [List.take_length] at hI
      rw [caps s hI]; simp only [ltE, cond_false, List.all_nil, cond_true]
    · intro sf i s x t h1 h2 h3 hI ih
      unfold m12_problem_Check_B0
      simp only [Int.toNat_natCast, getD_of h2, ltBd h1, inBd h1, ck_True, cond_true, jn_eq, h3, List.all_cons, okCell]
      have hn : ∀ c, (mget (mput s x true) c).getD false = decide (c ∈ p.cells.take (i + 1)) := by
        intro c
        rw [mget_put, List.take_add_one, h2]
        by_cases hc : x = c
        · simp [hc]
        · rw [if_neg hc, hI c]; simp [Ne.symm hc]
      rw [ih _ hn]
      by_cases h4 : x.index < 0
      · have : ¬ (0 ≤ x.index) := by omega
        simp [h4, this]
      · by_cases h5 : x.minute < 0
        · have : ¬ (0 ≤ x.minute) := by omega
          simp [h4, h5, this]
        · have a1 : 0 ≤ x.index := by omega
          have a2 : 0 ≤ x.minute := by omega
          simp [h4, h5, a1, a2]
  rw [cells]
  unfold okProb
  by_cases h1 : p.cells.length ≤ 4096
  · have e1 : ¬ ((4096 : Int) < (p.cells.length : Int)) := by omega
    by_cases h2 : p.variables.length ≤ 64
    · have e2 : ¬ ((64 : Int) < (p.variables.length : Int)) := by omega
      simp only [h1, h2, e1, e2, decide_true, decide_false, cond_false, Bool.true_and]
      cases within p.capacity.length 1 32 <;> cases adj cb p.cells <;> cases p.cells.all okCell <;> cases p.capacity.all (okRow p.cells.length) <;> cases p.variables.all (okVar p.cells p.capacity.length) <;> rfl
    · have e2 : (64 : Int) < (p.variables.length : Int) := by omega
      simp only [h1, h2, e1, e2, decide_true, decide_false, cond_false, cond_true, Bool.true_and, Bool.false_and, Bool.and_false]
      cases within p.capacity.length 1 32 <;> rfl
  · have e1 : (4096 : Int) < (p.cells.length : Int) := by omega
    simp [h1, e1]
end Go.Fx
/- Chapter 32: the reference's Check of problems; both Checks of reasons. -/
set_option linter.unusedSimpArgs false
set_option linter.unusedVariables false
set_option maxRecDepth 100000
namespace Go.Fx
open Go Go.RowKit
theorem m81_eq (l : List XCell) (c : XCell) (hl : l.length < 9223372036854775807) :
    m81_overflightref27_at l c = some (match l.findIdx? (fun x => decide (x = c)) with | none => (-1 : Int) | some k => (k : Int)) := by
  unfold m81_overflightref27_at
  rw [up_listI (B := m81_overflightref27_at_B0 l c) (fun i t => some (match t.findIdx? (fun x => decide (x = c)) with | none => (-1 : Int) | some k => ((i + k : Nat) : Int))) l hl ?_ ?_ (by omega)]
  · simp
  · intro sf; unfold m81_overflightref27_at_B0; simp
  · intro sf i x t h1 h2 h3 ih
    unfold m81_overflightref27_at_B0
    simp only [ltBd h1, inBd h1, ck_True, Int.toNat_natCast, getD_of h2, h3, cond_true, List.findIdx?_cons]
    cases hw : decide (x = c)
    · simp only [cond_false, Bool.false_eq_true, if_false]
      rw [ih]
      cases t.findIdx? (fun x => decide (x = c)) with
      | none => rfl
      | some k => simp; omega
    · simp
theorem at_neg (l : List XCell) (c : XCell) : decide ((match l.findIdx? (fun x => decide (x = c)) with | none => (-1 : Int) | some k => (k : Int)) < 0) = !(decide (c ∈ l)) := by
  cases h : l.findIdx? (fun x => decide (x = c)) with
  | none =>
    rw [List.findIdx?_eq_none_iff] at h
    have : c ∉ l := fun hc => by have := h c hc; simp at this
    simp [this]
  | some k =>
    obtain ⟨hk, h1, _⟩ := List.findIdx?_eq_some_iff_getElem.1 h
    have : c ∈ l := by have h1 : l[k] = c := by simpa using h1
                       rw [← h1]; exact List.getElem_mem hk
    simp [this]
theorem m62_eq {p : XProblem} {v : XVariable} (h1 : SmL smXCell p.cells) (h2 : p.capacity.length < 9223372036854775807) (hs : smXVariable v) :
    m62_overflightref27_variable p v = some (okVar p.cells p.capacity.length v) := by
  unfold m62_overflightref27_variable
  have chs : loop1 (m62_overflightref27_variable_B1 p v) (((v.choices.length : Int) - 0).toNat + 1) 0 = bif v.choices.all (okChoice p.cells) then some true else some false := by
    refine all_up (okChoice p.cells) (some false) (some true) (sm_len hs.2.2.2) ?_ ?_ (by omega)
    · intro sf; unfold m62_overflightref27_variable_B1; simp only [ltE, cond_false]
    · intro sf i c e1 e2 e3
      have hc := hs.2.2.2.2 c (ge0 e2)
      unfold m62_overflightref27_variable_B1
      simp only [Int.toNat_natCast, getD_of e2, ltBd e1, inBd e1, ck_True, cond_true, m61_eq, Option.bind_some, jn_eq, okChoice]
      rw [adj_up (B := m62_overflightref27_variable_B2 p v (i : Int) sf) (l := c.uses) (okUse p.cells) (fun x y => cb x.cell y.cell) (some false) (sf ((i : Int) + 1)) (sm_len hc.2.2.2) ?_ ?_ ?_ (by omega)]
      · cases within c.delay 0 1048576 <;> cases within c.cost 0 1048576 <;> cases within c.changes 0 1048576 <;> cases adj (fun x y => cb x.cell y.cell) c.uses <;> cases c.uses.all (okUse p.cells) <;> rfl
      · intro sf'; unfold m62_overflightref27_variable_B2
        simp only [Int.toNat_natCast, getD_of e2, ltE, cond_false, e3]
      · intro sf' u h0 hu hw
        unfold m62_overflightref27_variable_B2
        have c1 : ((0 : Int) ≤ 0 ∧ (0 : Int) < (c.uses.length : Int)) = True := by simp <;> omega
        have c2 : decide ((0 : Int) < (c.uses.length : Int)) = true := by simp <;> omega
        have hu' : c.uses.getD (0 : Int).toNat default = u := getD_of hu
        simp only [Int.toNat_natCast, getD_of e2, hu', c1, c2, ck_True, cond_true, m61_eq, m81_eq _ _ (sm_len h1), Option.bind_some, at_neg, jn_eq, okUse, hw, Int.lt_irrefl, decide_false, cond_false]
        cases decide (u.cell ∈ p.cells) <;> cases within u.places 1 8 <;> rfl
      · intro sf' j y u h0 hy hu hw hw2
        unfold m62_overflightref27_variable_B2
        have c3 : decide ((0 : Int) < ((j + 1 : Nat) : Int)) = true := by simp <;> omega
        simp only [Int.toNat_natCast, getD_of e2, getD_of hu, getD_of hy, ltBd h0, inBd h0, inBd (show j < c.uses.length by omega), c3, ck_True, cond_true, m61_eq, m60_eq, m81_eq _ _ (sm_len h1), Option.bind_some, at_neg, jn_eq, okUse, hw, hw2]
        cases decide (u.cell ∈ p.cells) <;> cases within u.places 1 8 <;> cases cb y.cell u.cell <;> rfl
  have e1 : IntKind.i64.wrap ((p.capacity.length : Int) - 1) = (p.capacity.length : Int) - 1 := wrap_i64 (by omega) (by omega)
  rw [adj_up (B := m62_overflightref27_variable_B0 p v) (l := v.leaves) (fun k => within k 0 ((p.capacity.length : Int) - 1)) (fun x y => decide (x < y)) (some false) (bif v.choices.all (okChoice p.cells) then some true else some false) (sm_len hs.2.2.1) ?_ ?_ ?_ (by omega)]
  · simp only [jn_eq, okVar]
    by_cases a : v.leaves.length = 0
    · simp [a]
    · have a1 : ¬ ((v.leaves.length : Int) < 1) := by omega
      simp only [a, a1, decide_false, cond_false, Bool.not_false, Bool.true_and]
      by_cases b : (v.choices.length : Int) < 1
      · have : within v.choices.length 1 96 = false := by simp [within]; omega
        simp [b, this]
      · by_cases b2 : (96 : Int) < (v.choices.length : Int)
        · have : within v.choices.length 1 96 = false := by simp [within]; omega
          simp [b, b2, this]
        · have : within v.choices.length 1 96 = true := by simp [within]; omega
          simp only [b, b2, this, decide_false, cond_false, Bool.true_and]
          cases (v.leaves.all fun k => within k 0 ((p.capacity.length : Int) - 1)) <;> cases adj (fun x y => decide (x < y)) v.leaves <;> cases v.choices.all (okChoice p.cells) <;> rfl
  · intro sf; unfold m62_overflightref27_variable_B0; rw [chs]; simp only [ltE, cond_false]
  · intro sf k h0 hk hw
    unfold m62_overflightref27_variable_B0
    have c1 : ((0 : Int) ≤ 0 ∧ (0 : Int) < (v.leaves.length : Int)) = True := by simp <;> omega
    have c2 : decide ((0 : Int) < (v.leaves.length : Int)) = true := by simp <;> omega
    have hk' : v.leaves.getD (0 : Int).toNat default = k := getD_of hk
    simp only [hk', c1, c2, ck_True, cond_true, m61_eq, Option.bind_some, jn_eq, hw, e1, Int.lt_irrefl, decide_false, cond_false]
    cases within k 0 ((p.capacity.length : Int) - 1) <;> rfl
  · intro sf j y k h0 hy hk hw hw2
    unfold m62_overflightref27_variable_B0
    have c3 : decide ((0 : Int) < ((j + 1 : Nat) : Int)) = true := by simp <;> omega
    have c4 : decide (k ≤ y) = !(decide (y < k)) := by by_cases h : y < k <;> simp [h] <;> omega
    simp only [Int.toNat_natCast, getD_of hk, getD_of hy, ltBd h0, inBd h0, inBd (show j < v.leaves.length by omega), c3, c4, ck_True, cond_true, m61_eq, Option.bind_some, jn_eq, hw, hw2, e1]
    cases within k 0 ((p.capacity.length : Int) - 1) <;> cases decide (y < k) <;> rfl
theorem m31_eq {p : XProblem} (hp : smXProblem p) : m31_overflightref27_Check p = some (bif okProb p then 0 else 270) := by
  obtain ⟨s1, s2, s3⟩ := hp
  have vars : loop1 (m31_overflightref27_Check_B3 p) (((p.variables.length : Int) - 0).toNat + 1) 0 = bif p.variables.all (okVar p.cells p.capacity.length) then some 0 else some 270 := by
    refine all_up (okVar p.cells p.capacity.length) (some 270) (some 0) (sm_len s3) ?_ ?_ (by omega)
    · intro sf; unfold m31_overflightref27_Check_B3; simp only [ltE, cond_false]
    · intro sf i v h1 h2 h3
      unfold m31_overflightref27_Check_B3
      simp only [Int.toNat_natCast, getD_of h2, ltBd h1, inBd h1, ck_True, cond_true, m62_eq s1 (sm_len s2) (s3.2 v (ge0 h2)), Option.bind_some, h3]
      cases okVar p.cells p.capacity.length v <;> rfl
  have caps : loop1 (m31_overflightref27_Check_B1 p) (((p.capacity.length : Int) - 0).toNat + 1) 0 = bif p.capacity.all (okRow p.cells.length) then (bif p.variables.all (okVar p.cells p.capacity.length) then some 0 else some 270) else some 270 := by
    refine all_up (okRow p.cells.length) (some 270) _ (sm_len s2) ?_ ?_ (by omega)
    · intro sf; unfold m31_overflightref27_Check_B1; rw [vars]; simp only [ltE, cond_false]
    · intro sf i r h1 h2 h3
      unfold m31_overflightref27_Check_B1
      simp only [Int.toNat_natCast, getD_of h2, ltBd h1, inBd h1, ck_True, cond_true, okRow]
      by_cases h : r.length = p.cells.length
      · simp only [h, ne_eq, not_true_eq_false, decide_false, cond_false, decide_true, Bool.true_and]
        rw [← h]
        refine all_up (B := m31_overflightref27_Check_B2 p (i : Int) sf) (l := r) (fun k => within k 0 4096) (some 270) (sf ((i : Int) + 1)) (sm_len (s2.2 r (ge0 h2))) ?_ ?_ (by omega)
        · intro sf'; unfold m31_overflightref27_Check_B2; rw [h]; simp only [ltE, cond_false, h3]
        · intro sf' j k h4 h5 h6
          unfold m31_overflightref27_Check_B2
          simp only [Int.toNat_natCast, getD_of h2, getD_of h5, ← h, ltBd h4, inBd h4, inBd h1, ck_True, cond_true, m61_eq, Option.bind_some, h6]
          cases within k 0 4096 <;> rfl
      · have : ((r.length : Int) ≠ (p.cells.length : Int)) := by omega
        simp [h, this]
  have cells : loop1 (m31_overflightref27_Check_B0 p) (((p.cells.length : Int) - 0).toNat + 1) 0 = bif (p.cells.all okCell && adj cb p.cells) then (bif p.capacity.all (okRow p.cells.length) then (bif p.variables.all (okVar p.cells p.capacity.length) then some 0 else some 270) else some 270) else some 270 := by
    have oc : ∀ x : XCell, okCell x = (!(decide (x.index < 0)) && !(decide (x.minute < 0))) := by
      intro x; unfold okCell; by_cases a : x.index < 0 <;> by_cases b : x.minute < 0 <;> simp [a, b] <;> omega
    refine adj_up okCell cb (some 270) _ (sm_len s1) ?_ ?_ ?_ (by omega)
    · intro sf; unfold m31_overflightref27_Check_B0; rw [caps]; simp only [ltE, cond_false]
    · intro sf x h0 hx hw
      unfold m31_overflightref27_Check_B0
      have c1 : ((0 : Int) ≤ 0 ∧ (0 : Int) < (p.cells.length : Int)) = True := by simp <;> omega
      have c2 : decide ((0 : Int) < (p.cells.length : Int)) = true := by simp <;> omega
      have hk' : p.cells.getD (0 : Int).toNat default = x := getD_of hx
      simp only [hk', c1, c2, ck_True, cond_true, jn_eq, hw, oc, Int.lt_irrefl, decide_false, cond_false]
      cases decide (x.index < 0) <;> cases decide (x.minute < 0) <;> rfl
    · intro sf j y x h0 hy hx hw hw2
      unfold m31_overflightref27_Check_B0
      have c3 : decide ((0 : Int) < ((j + 1 : Nat) : Int)) = true := by simp <;> omega
      simp only [Int.toNat_natCast, getD_of hx, getD_of hy, ltBd h0, inBd h0, inBd (show j < p.cells.length by omega), c3, ck_True, cond_true, m60_eq, Option.bind_some, jn_eq, hw, hw2, oc]
      cases decide (x.index < 0) <;> cases decide (x.minute < 0) <;> cases cb y x <;> rfl
  unfold m31_overflightref27_Check
  rw [cells]
  simp only [jn_eq]
  unfold okProb
  by_cases h1 : p.cells.length ≤ 4096
  · have e1 : ¬ ((4096 : Int) < (p.cells.length : Int)) := by omega
    simp only [h1, e1, decide_true, decide_false, cond_false, Bool.true_and]
    by_cases b : (p.capacity.length : Int) < 1
    · have : within p.capacity.length 1 32 = false := by simp [within]; omega
      simp [b, this]
    · by_cases b2 : (32 : Int) < (p.capacity.length : Int)
      · have : within p.capacity.length 1 32 = false := by simp [within]; omega
        simp [b, b2, this]
      · have : within p.capacity.length 1 32 = true := by simp [within]; omega
        simp only [b, b2, this, decide_false, cond_false, Bool.true_and]
        by_cases h2 : p.variables.length ≤ 64
        · have e2 : ¬ ((64 : Int) < (p.variables.length : Int)) := by omega
          simp only [h2, e2, decide_true, decide_false, cond_false, Bool.true_and]
          cases adj cb p.cells <;> cases p.cells.all okCell <;> cases p.capacity.all (okRow p.cells.length) <;> cases p.variables.all (okVar p.cells p.capacity.length) <;> rfl
        · have e2 : (64 : Int) < (p.variables.length : Int) := by omega
          simp [h2, e2]
  · have e1 : (4096 : Int) < (p.cells.length : Int) := by omega
    simp [h1, e1]
/-! reasons -/
def okIdx (n : Nat) (k : Int) : Bool := decide (0 ≤ k) && decide (k < (n : Int))
def okPlace (p : XProblem) (x : XPlace) : Bool := okIdx p.capacity.length x.leaf && okIdx p.cells.length x.cell
def pb (a b : XPlace) : Bool := decide (a.leaf < b.leaf) || (decide (a.leaf = b.leaf) && decide (a.cell < b.cell))
def okReason (p : XProblem) (r : XReason) : Bool := (r.variables.all (okIdx p.variables.length) && adj (fun x y => decide (x < y)) r.variables) && (r.places.all (okPlace p) && adj pb r.places)
theorem m63_eq (a b : XPlace) : m63_overflightref32_Before a b = some (pb a b) := by
  unfold m63_overflightref32_Before pb
  by_cases h : a.leaf < b.leaf
  · simp [h]
  · by_cases h2 : a.leaf = b.leaf <;> simp [h, h2]
def cmpP (a b : XPlace) : Int := if cmpI a.leaf b.leaf ≠ 0 then cmpI a.leaf b.leaf else cmpI a.cell b.cell
theorem m55_eq (a b : XPlace) : m55_reason_order a b = some (cmpP a b) := by
  unfold m55_reason_order cmpP
  simp only [m39_eq, m64_eq, Option.bind_some]
theorem cmpP_pb (a b : XPlace) : decide (0 ≤ cmpP a b) = !(pb a b) := by
  unfold cmpP pb cmpI
  by_cases h : a.leaf < b.leaf
  · simp [h]
  · by_cases h2 : b.leaf < a.leaf
    · have : a.leaf ≠ b.leaf := by omega
      simp [h, h2, this]
    · have : a.leaf = b.leaf := by omega
      simp only [this, Int.lt_irrefl, if_false, ne_eq, not_true_eq_false, decide_false, Bool.false_or, decide_true, Bool.true_and]
      by_cases h3 : a.cell < b.cell
      · simp [h3]
      · simp only [h3, if_false, decide_false, Bool.not_false, decide_eq_true_eq]; split <;> omega
theorem oi_eq (n : Nat) (k : Int) : okIdx n k = (!(decide (k < 0)) && !(decide ((n : Int) ≤ k))) := by
  unfold okIdx; by_cases a : k < 0 <;> by_cases b : (n : Int) ≤ k <;> simp [a, b] <;> omega
theorem m23_eq {p : XProblem} {r : XReason} (hp : smXProblem p) (hr : smXReason r) : m23_reason_Check p r = some (bif okProb p then (bif okReason p r then 0 else 320) else 270) := by
  unfold m23_reason_Check
  rw [m12_eq hp]
  have pl : loop1 (m23_reason_Check_B1 p r) (((r.places.length : Int) - 0).toNat + 1) 0 = bif (r.places.all (okPlace p) && adj pb r.places) then some 0 else some 320 := by
    refine adj_up (okPlace p) pb (some 320) (some 0) (sm_len hr.2) ?_ ?_ ?_ (by omega)
    · intro sf; unfold m23_reason_Check_B1; simp only [ltE, cond_false]
    · intro sf x h0 hx hw
      unfold m23_reason_Check_B1
      have c1 : ((0 : Int) ≤ 0 ∧ (0 : Int) < (r.places.length : Int)) = True := by simp <;> omega
      have c2 : decide ((0 : Int) < (r.places.length : Int)) = true := by simp <;> omega
      have hk' : r.places.getD (0 : Int).toNat default = x := getD_of hx
      simp only [hk', c1, c2, ck_True, cond_true, jn_eq, hw, okPlace, oi_eq, Int.lt_irrefl, decide_false, cond_false]
      cases decide (x.leaf < 0) <;> cases decide ((p.capacity.length : Int) ≤ x.leaf) <;> cases decide (x.cell < 0) <;> cases decide ((p.cells.length : Int) ≤ x.cell) <;> rfl
    · intro sf j y x h0 hy hx hw hw2
      unfold m23_reason_Check_B1
      have c3 : decide ((0 : Int) < ((j + 1 : Nat) : Int)) = true := by simp <;> omega
      simp only [Int.toNat_natCast, getD_of hx, getD_of hy, ltBd h0, inBd h0, inBd (show j < r.places.length by omega), c3, ck_True, cond_true, m55_eq, cmpP_pb, Option.bind_some, jn_eq, hw, hw2, okPlace, oi_eq]
      cases decide (x.leaf < 0) <;> cases decide ((p.capacity.length : Int) ≤ x.leaf) <;> cases decide (x.cell < 0) <;> cases decide ((p.cells.length : Int) ≤ x.cell) <;> cases pb y x <;> rfl
  have vs : loop1 (m23_reason_Check_B0 p r) (((r.variables.length : Int) - 0).toNat + 1) 0 = bif (r.variables.all (okIdx p.variables.length) && adj (fun x y => decide (x < y)) r.variables) then (bif (r.places.all (okPlace p) && adj pb r.places) then some 0 else some 320) else some 320 := by
    refine adj_up (okIdx p.variables.length) (fun x y => decide (x < y)) (some 320) _ (sm_len hr.1) ?_ ?_ ?_ (by omega)
    · intro sf; unfold m23_reason_Check_B0; rw [pl]; simp only [ltE, cond_false]
    · intro sf x h0 hx hw
      unfold m23_reason_Check_B0
      have c1 : ((0 : Int) ≤ 0 ∧ (0 : Int) < (r.variables.length : Int)) = True := by simp <;> omega
      have c2 : decide ((0 : Int) < (r.variables.length : Int)) = true := by simp <;> omega
      have hk' : r.variables.getD (0 : Int).toNat default = x := getD_of hx
      simp only [hk', c1, c2, ck_True, cond_true, jn_eq, hw, oi_eq, Int.lt_irrefl, decide_false, cond_false]
      cases decide (x < 0) <;> cases decide ((p.variables.length : Int) ≤ x) <;> rfl
    · intro sf j y x h0 hy hx hw hw2
      unfold m23_reason_Check_B0
      have c3 : decide ((0 : Int) < ((j + 1 : Nat) : Int)) = true := by simp <;> omega
      have c4 : decide (x ≤ y) = !(decide (y < x)) := by by_cases h : y < x <;> simp [h] <;> omega
      simp only [Int.toNat_natCast, getD_of hx, getD_of hy, ltBd h0, inBd h0, inBd (show j < r.variables.length by omega), c3, c4, ck_True, cond_true, jn_eq, hw, hw2, oi_eq]
      cases decide (x < 0) <;> cases decide ((p.variables.length : Int) ≤ x) <;> cases decide (y < x) <;> rfl
  rw [vs]
  unfold okReason
  cases okProb p
  · rfl
  · simp only [cond_true, Option.bind_some]
    cases (r.variables.all (okIdx p.variables.length) && adj (fun x y => decide (x < y)) r.variables) <;> cases (r.places.all (okPlace p) && adj pb r.places) <;> rfl
theorem m24_eq {p : XProblem} {r : XReason} (hp : smXProblem p) (hr : smXReason r) : m24_overflightref32_Check p r = some (bif okProb p then (bif okReason p r then 0 else 320) else 270) := by
  unfold m24_overflightref32_Check m56_overflightref32_Valid
  rw [m31_eq hp]
  have pl : loop1 (m56_overflightref32_Valid_B1 p r) (((r.places.length : Int) - 0).toNat + 1) 0 = bif (r.places.all (okPlace p) && adj pb r.places) then some true else some false := by
    refine adj_up (okPlace p) pb (some false) (some true) (sm_len hr.2) ?_ ?_ ?_ (by omega)
    · intro sf; unfold m56_overflightref32_Valid_B1; simp only [ltE, cond_false]
    · intro sf x h0 hx hw
      unfold m56_overflightref32_Valid_B1
      have c1 : ((0 : Int) ≤ 0 ∧ (0 : Int) < (r.places.length : Int)) = True := by simp <;> omega
      have c2 : decide ((0 : Int) < (r.places.length : Int)) = true := by simp <;> omega
      have hk' : r.places.getD (0 : Int).toNat default = x := getD_of hx
      simp only [hk', c1, c2, ck_True, cond_true, jn_eq, hw, okPlace, oi_eq, Int.lt_irrefl, decide_false, cond_false]
      cases decide (x.leaf < 0) <;> cases decide ((p.capacity.length : Int) ≤ x.leaf) <;> cases decide (x.cell < 0) <;> cases decide ((p.cells.length : Int) ≤ x.cell) <;> rfl
    · intro sf j y x h0 hy hx hw hw2
      unfold m56_overflightref32_Valid_B1
      have c3 : decide ((0 : Int) < ((j + 1 : Nat) : Int)) = true := by simp <;> omega
      simp only [Int.toNat_natCast, getD_of hx, getD_of hy, ltBd h0, inBd h0, inBd (show j < r.places.length by omega), c3, ck_True, cond_true, m63_eq, Option.bind_some, jn_eq, hw, hw2, okPlace, oi_eq]
      cases decide (x.leaf < 0) <;> cases decide ((p.capacity.length : Int) ≤ x.leaf) <;> cases decide (x.cell < 0) <;> cases decide ((p.cells.length : Int) ≤ x.cell) <;> cases pb y x <;> rfl
  have vs : loop1 (m56_overflightref32_Valid_B0 p r) (((r.variables.length : Int) - 0).toNat + 1) 0 = bif (r.variables.all (okIdx p.variables.length) && adj (fun x y => decide (x < y)) r.variables) then (bif (r.places.all (okPlace p) && adj pb r.places) then some true else some false) else some false := by
    refine adj_up (okIdx p.variables.length) (fun x y => decide (x < y)) (some false) _ (sm_len hr.1) ?_ ?_ ?_ (by omega)
    · intro sf; unfold m56_overflightref32_Valid_B0; rw [pl]; simp only [ltE, cond_false]
    · intro sf x h0 hx hw
      unfold m56_overflightref32_Valid_B0
      have c1 : ((0 : Int) ≤ 0 ∧ (0 : Int) < (r.variables.length : Int)) = True := by simp <;> omega
      have c2 : decide ((0 : Int) < (r.variables.length : Int)) = true := by simp <;> omega
      have hk' : r.variables.getD (0 : Int).toNat default = x := getD_of hx
      simp only [hk', c1, c2, ck_True, cond_true, jn_eq, hw, oi_eq, Int.lt_irrefl, decide_false, cond_false]
      cases decide (x < 0) <;> cases decide ((p.variables.length : Int) ≤ x) <;> rfl
    · intro sf j y x h0 hy hx hw hw2
      unfold m56_overflightref32_Valid_B0
      have c3 : decide ((0 : Int) < ((j + 1 : Nat) : Int)) = true := by simp <;> omega
      have c4 : decide (x ≤ y) = !(decide (y < x)) := by by_cases h : y < x <;> simp [h] <;> omega
      simp only [Int.toNat_natCast, getD_of hx, getD_of hy, ltBd h0, inBd h0, inBd (show j < r.variables.length by omega), c3, c4, ck_True, cond_true, jn_eq, hw, hw2, oi_eq]
      cases decide (x < 0) <;> cases decide ((p.variables.length : Int) ≤ x) <;> cases decide (y < x) <;> rfl
  rw [vs]
  unfold okReason
  cases okProb p
  · rfl
  · simp only [cond_true, Option.bind_some]
    cases (r.variables.all (okIdx p.variables.length) && adj (fun x y => decide (x < y)) r.variables) <;> cases (r.places.all (okPlace p) && adj pb r.places) <;> rfl
end Go.Fx
