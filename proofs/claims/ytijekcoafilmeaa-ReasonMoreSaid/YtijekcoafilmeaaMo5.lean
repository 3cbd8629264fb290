/- Part 5 of the proof: more variables, more places and less capacity do not spoil a proof. -/
import Derived.Test.YtijekcoafilmeaaMo4
set_option linter.unusedVariables false
set_option linter.unusedSimpArgs false
set_option maxRecDepth 100000
set_option maxHeartbeats 0
namespace Go.Fx
open Go Go.RowKit Go.Proofs
abbrev q14_0:List Nat:=[9,10,11,12,31,32,33,34,35,36,37,38,39,40,41,42,43,44,45,46,47,48,49,50,51,52,53,54,55,56,57,58,59,60,61,62,63,64,65,66,67,68,69,70,71,72,73,74,93]

def m14_problem_Value_B0 (sf52:(List Int)→Option ((List Int) × Int)) (xi43:XPlace × Int) (arr_1:List Int):Option ((List Int) × Int):=
 ck ((0:Int)≤(0:Int)∧(0:Int)<(arr_1.length:Int))<|
 ck ((0:Int)≤(0:Int)∧(0:Int)<(arr_1.length:Int))<|
 sf52 (arr_1.set 0 (IntKind.wrap .i64 ((arr_1.getD 0 default)+xi43.2)))

def m14_problem_Value_B1 (p:XProblem) (choices:List Int) (sf90:Int→(List Int)→Option ((List Int) × Int)) (v_1:Int) (arr_2:List Int):Option ((List Int) × Int):=
 bif (decide (v_1<(choices.length:Int))) then
  ck ((0:Int)≤v_1∧v_1<(choices.length:Int))<|
  ck ((0:Int)≤v_1∧v_1<(p.variables.length:Int))<|
  ck ((0:Int)≤(choices.getD v_1.toNat default)∧(choices.getD v_1.toNat default)<(((p.variables.getD v_1.toNat default).choices).length:Int))<|
  ck ((0:Int)≤v_1∧v_1<(p.variables.length:Int))<|
  ck ((0:Int)≤(1:Int)∧(1:Int)<(arr_2.length:Int))<|
  ck ((0:Int)≤(1:Int)∧(1:Int)<(arr_2.length:Int))<|
  ck ((0:Int)≤(2:Int)∧(2:Int)<((arr_2.set 1 (max (arr_2.getD 1 default) ((((p.variables.getD v_1.toNat default).choices).getD (choices.getD v_1.toNat default).toNat default).delay))).length:Int))<|
  ck ((0:Int)≤(2:Int)∧(2:Int)<((arr_2.set 1 (max (arr_2.getD 1 default) ((((p.variables.getD v_1.toNat default).choices).getD (choices.getD v_1.toNat default).toNat default).delay))).length:Int))<|
  ck ((0:Int)≤(3:Int)∧(3:Int)<(((arr_2.set 1 (max (arr_2.getD 1 default) ((((p.variables.getD v_1.toNat default).choices).getD (choices.getD v_1.toNat default).toNat default).delay))).set 2 (IntKind.wrap .i64 (((arr_2.set 1 (max (arr_2.getD 1 default) ((((p.variables.getD v_1.toNat default).choices).getD (choices.getD v_1.toNat default).toNat default).delay))).getD 2 default)+(IntKind.wrap .i64 (((((p.variables.getD v_1.toNat default).choices).getD (choices.getD v_1.toNat default).toNat default).cost)*(((p.variables.getD v_1.toNat default).leaves).length:Int)))))).length:Int))<|
  ck ((0:Int)≤(3:Int)∧(3:Int)<(((arr_2.set 1 (max (arr_2.getD 1 default) ((((p.variables.getD v_1.toNat default).choices).getD (choices.getD v_1.toNat default).toNat default).delay))).set 2 (IntKind.wrap .i64 (((arr_2.set 1 (max (arr_2.getD 1 default) ((((p.variables.getD v_1.toNat default).choices).getD (choices.getD v_1.toNat default).toNat default).delay))).getD 2 default)+(IntKind.wrap .i64 (((((p.variables.getD v_1.toNat default).choices).getD (choices.getD v_1.toNat default).toNat default).cost)*(((p.variables.getD v_1.toNat default).leaves).length:Int)))))).length:Int))<|
  sf90 (IntKind.wrap .i64 (v_1+1)) (((arr_2.set 1 (max (arr_2.getD 1 default) ((((p.variables.getD v_1.toNat default).choices).getD (choices.getD v_1.toNat default).toNat default).delay))).set 2 (IntKind.wrap .i64 (((arr_2.set 1 (max (arr_2.getD 1 default) ((((p.variables.getD v_1.toNat default).choices).getD (choices.getD v_1.toNat default).toNat default).delay))).getD 2 default)+(IntKind.wrap .i64 (((((p.variables.getD v_1.toNat default).choices).getD (choices.getD v_1.toNat default).toNat default).cost)*(((p.variables.getD v_1.toNat default).leaves).length:Int)))))).set 3 (IntKind.wrap .i64 ((((arr_2.set 1 (max (arr_2.getD 1 default) ((((p.variables.getD v_1.toNat default).choices).getD (choices.getD v_1.toNat default).toNat default).delay))).set 2 (IntKind.wrap .i64 (((arr_2.set 1 (max (arr_2.getD 1 default) ((((p.variables.getD v_1.toNat default).choices).getD (choices.getD v_1.toNat default).toNat default).delay))).getD 2 default)+(IntKind.wrap .i64 (((((p.variables.getD v_1.toNat default).choices).getD (choices.getD v_1.toNat default).toNat default).cost)*(((p.variables.getD v_1.toNat default).leaves).length:Int)))))).getD 3 default)+(IntKind.wrap .i64 (((((p.variables.getD v_1.toNat default).choices).getD (choices.getD v_1.toNat default).toNat default).changes)*(((p.variables.getD v_1.toNat default).leaves).length:Int))))))
 else
  ck (arr_2.length=4)<|
  some (arr_2,0)

def m14_problem_Value (p:XProblem) (choices:List Int):Option ((List Int) × Int):=
 (m47_problem_whole p choices).bind fun whole_1=>
 bif (decide (whole_1≠0)) then
  some (([]:List Int),whole_1)
 else
  (m48_problem_overloads p choices).bind fun overloads_1=>
  jn (fun(arr_1:List Int)=>
   loop2 (m14_problem_Value_B1 p choices) (((choices.length:Int) - 0).toNat+1) 0 arr_1)
  (fun k34=>
   rng1 m14_problem_Value_B0 k34 overloads_1 ([0,0,0,0]:List Int))

theorem f14_problem_Value {w:World} {O:List Nat} {p:XProblem} {choices:List Int} {Aa:Option Addr} {Ca:Nat} {Ab:Option Addr} {Cb:Nat} {Ac:Option Addr} {Cc:Nat} {Ad:Option Addr} {Cd:Nat} (hO:∀k∈O,k<w.heap.size) (Fa:SlR rXCell w O Aa Ca p.cells) (Fb:SlR (rSl (rInt .i64)) w O Ab Cb p.capacity) (Fc:SlR rXVariable w O Ac Cc p.variables) (Fd:SlR (rInt .i64) w O Ad Cd choices) {x:(List Int) × Int} (hm:m14_problem_Value p choices=some x):
 OkF Try.prog 14 [Value.agg [Sl Aa p.cells Ca,Sl Ab p.capacity Cb,Sl Ac p.variables Cc].toArray,Sl Ad choices Cd] w O (vT2 (vC (rSl (rInt .i64))) (vI .i64)) x:=by
 unfold m14_problem_Value at hm
 refine Fn_of_Wp (n:=76) (xs:=[.tmp 4,.tmp 5]) Try.func14 rfl Try.ntmps14 Try.results14 rfl ?_
 have hs:=St.start hO
 refine Wp_seq<|Wp_region<|Rop<|op_box (cs:=[Sl Aa p.cells Ca,Sl Ab p.capacity Cb,Sl Ac p.variables Cc]) hs rfl rfl ?_
 intro b1 w2 _ p3 hs4
 refine Asg (Value.slice none 0 0) rfl<|Asg (Iv 0) rfl<|Rg_nil<|Wp_seq<|Wp_seq<|Wp_region<|Rop<|op_ldA 0 ty26 hs4 rfl rfl rfl<|Mve (Sl Ad choices Cd) rfl ?_
 obtain⟨whole_1,hv6,hm⟩:=bd hm
 replace Fd:=Fd.step p3;replace Fb:=Fb.step p3;replace Fa:=Fa.step p3;replace Fc:=Fc.step p3
 refine Rop<|op_callE hs4 Try.call47 (c47_problem_whole (p:=p) (choices:=choices) hs4.ltw Fa Fb Fc Fd hv6) rfl ?_
 rintro v7 w8 p12 hs11 h10
 clear hs4
 obtain⟨rfl,Ra⟩:=h10
 refine Asg (Iv whole_1) rfl<|Rg_nil<|Wp_seq<|Wp_region<|Mve (Iv whole_1) rfl<|Rop<|op_neq rfl rfl<|Rg_nil<|Wp_condM hm rfl (fun hc14 hm=>?_) (fun hc14 hm=>?_)
 refine Wp_seq ?_
 obtain⟨hs15,p16⟩:=hs11.sub (bs':=[]) (.cons _ List.Sublist.slnil)
 clear Fa Fb Fc Fd
 clear hs11
 refine Wp_region<|Mve (Iv whole_1) rfl<|Asg (Value.slice none 0 0) rfl<|Asg (Iv whole_1) rfl<|Rg_nil<|Wp_ret ?_
 have hs17:=St.fresh (O:=O) hs15 (fun k hk=>hk)
 refine⟨_,Clo,[Value.slice none 0 0,Iv whole_1],⟨rfl,rfl,trivial⟩,hs17.ext,?_⟩
 exact Vr.eq (a:=vT2 (vC (rSl (rInt .i64))) (vI .i64)) (x:=(([]:List Int),whole_1)) (mkT2 (mkC (mk_sl SlR.nil_)) ⟨rfl,Ra⟩) (oi hm)
 refine Wp_skip<|Wp_seq<|Wp_region<|Rop<|op_alloc ty93 hs11 ?_
 intro b18 w19 _ p20 hs21
 clear hs11
 have f22:=Gs.of_cells (p:=(rInt .i64)) (e:=93) (bl:=b18) (c:=4) (w:=w19) (O:=ks [(some b18,Obj.cells [Iv 0,Iv 0,Iv 0,Iv 0].toArray 93),(some b1,Oc [Sl Aa p.cells Ca,Sl Ab p.capacity Cb,Sl Ac p.variables Cc] 26)] O) (show Els (rInt .i64) _ _ [Iv 0,Iv 0,Iv 0,Iv 0] ([0,0,0,0]:List Int) from⟨_,_,rfl,mk_int (show InK .i64 0 from by decide),⟨_,_,rfl,mk_int (show InK .i64 0 from by decide),⟨_,_,rfl,mk_int (show InK .i64 0 from by decide),⟨_,_,rfl,mk_int (show InK .i64 0 from by decide),Els.nil⟩⟩⟩⟩) rfl (le_lit rfl)
 refine Rg_nil<|Wp_seq<|Wp_seq<|Wp_region<|Rop<|op_ldA 1 ty26 hs21 rfl rfl rfl<|Mve (Sl Ad choices Cd) rfl ?_
 obtain⟨overloads_1,hv24,hm⟩:=bd hm
 have p30:=(p12.trans p20)
 replace Fd:=Fd.step p30;replace Fb:=Fb.step p30;replace Fa:=Fa.step p30;replace Fc:=Fc.step p30
 refine Rop<|op_callE hs21 Try.call48 (c48_problem_overloads (p:=p) (b:=choices) hs21.ltw Fa Fb Fc Fd hv24) rfl ?_
 rintro v25 w26 p31 hs29 h28
 clear hs21
 have F_y32:ItR Try.prog (enc2 (vA rXPlace) (vI .i64)) _ _ v25 overloads_1:=h28
 refine Rg_nil<|Wp_block ?_
 obtain⟨k34,hk35,hm⟩:=jn_elim hm
 have hit40:=F_y32;obtain⟨fk36,cp37,hvq38,hcl39,hit40⟩:=hit40
 replace f22:=f22.step p31
 refine Wp_rangeFunc (σ:=(List Int) × Obj) (ps:=[22,23]) hs29 (rfl.trans hvq38) hcl39 hit40 rfl enc2_len enc2_step (fun s=>match s with |(arr_1,o_g33)=>[(some b18,o_g33),(some b1,Oc [Sl Aa p.cells Ca,Sl Ab p.capacity Cb,Sl Ac p.variables Cc] 26)]) (fun s w O=>match s with |(arr_1,o_g33)=>Gs (rInt .i64) 93 w O (some ⟨b18,0,none⟩) 4 arr_1 (some b18) o_g33) (fun s w O w' O' p h=>by obtain⟨arr_1,o_g33⟩:=s;have h:Gs (rInt .i64) 93 w O (some ⟨b18,0,none⟩) 4 arr_1 (some b18) o_g33:=h;have Fe:=h;exact Fe.step p) (fun s l=>match s with |(arr_1,o_g33)=>rng1 m14_problem_Value_B0 k34 l arr_1=some x) [] (fun _ _=>False) (([0,0,0,0]:List Int),Obj.cells [Iv 0,Iv 0,Iv 0,Iv 0].toArray 93) rfl f22 hm ?_ ?_ ?_
 rintro l41 E42 ⟨arr_1,o_g33⟩ xi43 rest44 w45 vs46 z47 hz48 hs49 hst50 Fe hm hx51
 replace hs49:St z47 (E42++O) w45 [(some b18,o_g33),(some b1,Oc [Sl Aa p.cells Ca,Sl Ab p.capacity Cb,Sl Ac p.variables Cc] 26)]:=hs49
 have ch54:Step (ks [(some b18,Obj.cells [Iv 0,Iv 0,Iv 0,Iv 0].toArray 93),(some b1,Oc [Sl Aa p.cells Ca,Sl Ab p.capacity Cb,Sl Ac p.variables Cc] 26)] O) w26 (ks [(some b18,o_g33),(some b1,Oc [Sl Aa p.cells Ca,Sl Ab p.capacity Cb,Sl Ac p.variables Cc] 26)] (E42++O)) w45:=hst50;clear hst50
 replace Fe:Gs (rInt .i64) 93 w45 (ks [(some b18,o_g33),(some b1,Oc [Sl Aa p.cells Ca,Sl Ab p.capacity Cb,Sl Ac p.variables Cc] 26)] (E42++O)) (some ⟨b18,0,none⟩) 4 arr_1 (some b18) o_g33:=Fe
 have hm55:=rng1_s (show rng1 _ _ (xi43::rest44) arr_1=some _ from hm);clear hm;obtain⟨sf52,hsf53,hm⟩:=hm55
 unfold m14_problem_Value_B0 at hm
 replace hx51:(enc2 (vA rXPlace) (vI .i64)) xi43 w45 (ks [(some b18,o_g33),(some b1,Oc [Sl Aa p.cells Ca,Sl Ab p.capacity Cb,Sl Ac p.variables Cc] 26)] (E42++O)) vs46:=hx51
 obtain⟨v56,v57,rfl,h58,h59⟩:=hx51
 obtain⟨_,rfl,⟨_,_,rfl,⟨rfl,Rb⟩,⟨rfl,Rc⟩⟩⟩:=h58
 obtain⟨rfl,Rd⟩:=h59
 refine Wp_region<|Asg (Iv xi43.2) rfl<|Rg_nil<|Exists.intro _<|And.intro hs49 ?_
 intro w62 z63 RQ64 hz65 hs66 p67 hN68 hX69
 clear hs49
 refine Wp_block ?_
 clear f22
 refine Wp_region ?_
 obtain⟨hc70,hm⟩:=ck_some hm
 replace Fe:=Fe.step p67
 refine Rop<|op_indexAddrAG ty93 ty3 rfl rfl Fe hc70<|Rop<|op_loadG (m:=0) (i:=0) ty3 rfl hs66 rfl rfl Fe hc70 ?_
 intro v71 h72
 obtain⟨rfl,Re⟩:=un_int h72
 refine Mve (Iv xi43.2) rfl<|Rop<|op_addw rfl rfl ?_
 obtain⟨hc74,hm⟩:=ck_some hm
 refine Rop<|op_indexAddrAG ty93 ty3 rfl rfl Fe hc74<|Rg_op_<|op_storeG (vs:=[Iv (IntKind.wrap .i64 ((arr_1.getD 0 default)+xi43.2))]) (i:=0) (m:=0) ty3 rfl hs66 rfl rfl rfl rfl Fe hc74 (mk_int (inK_wrap .i64 _)) ?_
 intro w75 o78 p76 hs77 f79
 replace f79:Gs _ _ _ _ _ _ (arr_1.set 0 (IntKind.wrap .i64 ((arr_1.getD 0 default)+xi43.2))) _ _:=f79
 clear hs66
 refine Rg_nil ?_
 replace ch54:=ch54.trans (p67.trans p76)
 exact hN68 (arr_1.set 0 (IntKind.wrap .i64 ((arr_1.getD 0 default)+xi43.2)),o78) _ _ hs77 ch54 f79 (jnE1 hsf53 hm)
 rintro D80 ⟨arr_1,o_g33⟩ w81 hs82 hst83 Fe hm
 replace hs82:St ⟨w,[],D80::[]⟩ (D80::O) w81 [(some b18,o_g33),(some b1,Oc [Sl Aa p.cells Ca,Sl Ab p.capacity Cb,Sl Ac p.variables Cc] 26)]:=hs82
 replace hst83:Step (ks [(some b18,Obj.cells [Iv 0,Iv 0,Iv 0,Iv 0].toArray 93),(some b1,Oc [Sl Aa p.cells Ca,Sl Ab p.capacity Cb,Sl Ac p.variables Cc] 26)] O) w26 (ks [(some b18,o_g33),(some b1,Oc [Sl Aa p.cells Ca,Sl Ab p.capacity Cb,Sl Ac p.variables Cc] 26)] (D80::O)) w81:=hst83
 replace Fe:Gs (rInt .i64) 93 w81 (ks [(some b18,o_g33),(some b1,Oc [Sl Aa p.cells Ca,Sl Ab p.capacity Cb,Sl Ac p.variables Cc] 26)] (D80::O)) (some ⟨b18,0,none⟩) 4 arr_1 (some b18) o_g33:=Fe
 replace hm:=rng1_z (show rng1 _ _ [] arr_1=some _ from hm)
 replace hm:=jnE1 hk35 (show k34 arr_1=some _ from hm)
 clear hs29
 refine Wp_seq<|Wp_seq ?_
 clear f22 F_y32
 refine Wp_region<|Mve (Sl Ad choices Cd) rfl<|Rop<|op_len Try.underlying31 rfl ?_
 have p86:=(p31.trans hst83)
 replace Fd:=Fd.step p86
 have rl85:=inK_len Fd
 refine Mve (Iv 0) rfl<|Rg_nil<|Wp_block<|Wr (D80::[]) [(2,Pt b1 0),(6,Pt b18 0),(29,Sl Ad choices Cd),(30,Iv (choices.length:Int)),(31,Iv 0)] fun ξ89=>Wp_loopM q14_0 (fun m fr w'=>∃(v_1:Int) (arr_2:List Int) (o_g88:Obj) (Ebs:Ents),Ebs=[(some b18,o_g88),(some b1,Oc [Sl Aa p.cells Ca,Sl Ab p.capacity Cb,Sl Ac p.variables Cc] 26)]∧fr (D80::[]) [(31,Iv v_1)]∧hs82.S (ks Ebs (D80::O)) w'∧St ⟨w,[],D80::[]⟩ (D80::O) w' Ebs∧InK .i64 v_1∧Gs (rInt .i64) 93 w' (ks Ebs (D80::O)) (some ⟨b18,0,none⟩) 4 arr_2 (some b18) o_g88∧loop2 (m14_problem_Value_B1 p choices) m v_1 arr_2=some x) (((choices.length:Int) - 0).toNat+1) ⟨0,arr_1,o_g33,_,rfl,Frm.of ⟨rfl,trivial⟩,Step.refl _ _,hs82,(show InK .i64 0 from by decide),Fe,hm⟩ ?_ ?_
 rintro _ _ ⟨_,_,_,_,_,_,_,_,_,_,hm⟩;exact loop2_z hm
 rintro m93 K92 hK92 ρ98 w94 ⟨v_1,arr_2,o_g88,_,rfl,hfr97,hst96,hs95,Rf,Ff,hm⟩
 obtain⟨sf90,hsf91,hm⟩:=loop2_s hm;unfold m14_problem_Value_B1 at hm
 rw [hfr97.eq];clear hfr97
 have ch99:=hst96
 refine Wp_seq ?_
 clear Fe
 refine Wp_region<|Rop<|op_lss rfl rfl<|Rg_nil<|Wp_seq<|Wp_condM hm rfl (fun hc100 hm=>?_) (fun hc100 hm=>?_)
 refine Wp_skip<|Wp_seq<|Wp_block<|Wp_seq<|Wp_region<|Mve (Iv v_1) rfl ?_
 obtain⟨hc101,hm⟩:=ck_some hm
 replace Fd:=Fd.step hst96
 refine Rop<|op_indexAddr (q:=(rInt .i64)) ty31 ty3 rfl rfl Fd rfl hc101.1 hc101.2 ?_
 intro p102 f103
 refine Rop<|op_loadP ty3 rfl f103 rfl ?_
 intro v104 h105
 obtain⟨rfl,Rg⟩:=un_int h105
 refine Asg (Iv v_1) rfl<|Asg (Iv (choices.getD v_1.toNat default)) rfl<|Rg_nil<|Wp_seq ?_
 clear f103
 refine Wp_drawAR (T:=TQ (Obj.cells [Iv 0,Iv 0,Iv 0,Value.slice none 0 0].toArray 58) ⟨w,[],D80::[]⟩ (D80::O) [(some b18,o_g88),(some b1,Oc [Sl Aa p.cells Ca,Sl Ab p.capacity Cb,Sl Ac p.variables Cc] 26)] 16 17) (g0:=([],none)) (m:=18) (TQ_inv hs95) rfl rfl (by decide+kernel) ?_  -- 11
 refine Dw_eq (Pt b1 2) (fun ρ107 w108 g hle hi ht=>?_) ?_
 obtain⟨hi,hi2⟩:=hi
 exact StepOp_plain<|op_fA 2 ty26 rfl ty24 (ht 2 rfl) rfl<|GoesQ.same hi hi2 rfl
 refine Dw_eq (Sl Ac p.variables Cc) (fun ρ110 w111 g hle hi ht=>?_) ?_
 obtain⟨hi,hi2⟩:=hi
 have hsn:=(Step.nxQ hi).1
 exact StepOp_plain<|op_ld 1 ty24 hsn (ht 36 rfl) rfl rfl<|GoesQ.same hi hi2 rfl
 refine Dw_eq (Iv v_1) (fun ρ113 w114 g hle hi ht=>?_) ?_
 obtain⟨hi,hi2⟩:=hi
 exact StepOp_plain<|op_move (v:=Iv v_1) (ht 9 rfl)<|GoesQ.same hi hi2 rfl
 obtain⟨hc119,hm⟩:=ck_some hm
 have p122:=(p86.trans hst96)
 replace Fc:=Fc.step p122
 refine Dw_opN (QP _ _ rXVariable (p.variables.getD v_1.toNat default)) (QP.stab _ _) (fun ρ116 w117 g hle hi hk ht=>?_) ?_
 obtain⟨-,hst,-⟩:=hle
 obtain⟨hi,hi2⟩:=hi
 replace Fc:=Fc.step hst
 refine StepOp_plain<|op_indexAddr (q:=rXVariable) ty24 ty61 (ht 37 rfl) (ht 38 rfl) Fc rfl hc119.1 hc119.2 ?_
 intro p120 f121
 exact GoesQ.same hi hi2 ⟨_,rfl,f121⟩
 refine Dw_opN (QP _ _ (rSl rXChoice) ((p.variables.getD v_1.toNat default).choices)) (QP.stab _ _) (fun ρ123 w124 g hle hi hk ht=>?_) ?_
 obtain⟨hi,hi2⟩:=hi
 obtain⟨p126,q127,f128⟩:=ht 39 rfl
 refine StepOp_plain<|op_fieldAddr ty61 rfl ty59 (by decide) q127 rfl ?_
 have f129:=f128.via.snd.snd.snd
 exact GoesQ.same hi hi2 ⟨_,rfl,f129⟩
 refine Dw_opN (QD _ _ (vC (rSl rXChoice)) ((p.variables.getD v_1.toNat default).choices)) (QD.stab _ _) (fun ρ130 w131 g hle hi hk ht=>?_) ?_
 obtain⟨hi,hi2⟩:=hi
 obtain⟨p133,q134,f135⟩:=ht 40 rfl
 refine StepOp_plain<|op_loadP ty59 q134 f135 rfl ?_
 intro v136 h137
 obtain⟨Ae,Ce,rfl,Fg⟩:=un_sl h137
 exact GoesQ.same hi hi2 (show Vr.vd (vC (rSl rXChoice)) _ _ _ _ from(mkC (mk_sl Fg)))
 refine Dw_eq (Iv (choices.getD v_1.toNat default)) (fun ρ139 w140 g hle hi ht=>?_) ?_
 obtain⟨hi,hi2⟩:=hi
 exact StepOp_plain<|op_move (v:=Iv (choices.getD v_1.toNat default)) (ht 10 rfl)<|GoesQ.same hi hi2 rfl
 obtain⟨hc148,hm⟩:=ck_some hm
 refine Dw_opN (QP _ _ rXChoice (((p.variables.getD v_1.toNat default).choices).getD (choices.getD v_1.toNat default).toNat default)) (QP.stab _ _) (fun ρ142 w143 g hle hi hk ht=>?_) ?_
 obtain⟨hi,hi2⟩:=hi
 have h145:Vr.vd (vC (rSl rXChoice)) _ _ _ _:=ht 41 rfl
 obtain⟨Af,Cf,q146,Fh⟩:=un_sl h145
 refine StepOp_plain<|op_indexAddr (q:=rXChoice) ty59 ty58 q146 (ht 42 rfl) Fh rfl hc148.1 hc148.2 ?_
 intro p149 f150
 exact GoesQ.same hi hi2 ⟨_,rfl,f150⟩
 refine Dw_opN (QD _ _ (vA rXChoice) (((p.variables.getD v_1.toNat default).choices).getD (choices.getD v_1.toNat default).toNat default)) (QD.stab _ _) (fun ρ151 w152 g hle hi hk ht=>?_) ?_
 obtain⟨hi,hi2⟩:=hi
 obtain⟨p154,q155,f156⟩:=ht 43 rfl
 refine StepOp_plain<|op_loadPA ty58 q155 f156 rfl ?_
 intro vs157 h158
 obtain⟨_,_,rfl,⟨rfl,Rh⟩,⟨_,_,rfl,⟨rfl,Ri⟩,⟨_,_,rfl,⟨rfl,Rj⟩,⟨Ag,Cg,rfl,Fi⟩⟩⟩⟩:=h158
 exact GoesQ.same hi hi2 (show Vr.vd (vA rXChoice) _ _ _ _ from(mkA (mkVia (mk_pair (mk_int Rh) (mk_pair (mk_int Ri) (mk_pair (mk_int Rj) (mk_sl Fi)))))))
 refine Dw_eq (Pt b1 2) (fun ρ160 w161 g hle hi ht=>?_) ?_
 obtain⟨hi,hi2⟩:=hi
 exact StepOp_plain<|op_fA 2 ty26 rfl ty24 (ht 2 rfl) rfl<|GoesQ.same hi hi2 rfl
 refine Dw_eq (Sl Ac p.variables Cc) (fun ρ163 w164 g hle hi ht=>?_) ?_
 obtain⟨hi,hi2⟩:=hi
 have hsn:=(Step.nxQ hi).1
 exact StepOp_plain<|op_ld 1 ty24 hsn (ht 45 rfl) rfl rfl<|GoesQ.same hi hi2 rfl
 refine Dw_eq (Iv v_1) (fun ρ166 w167 g hle hi ht=>?_) ?_
 obtain⟨hi,hi2⟩:=hi
 exact StepOp_plain<|op_move (v:=Iv v_1) (ht 9 rfl)<|GoesQ.same hi hi2 rfl
 obtain⟨hc172,hm⟩:=ck_some hm
 refine Dw_opN (QP _ _ rXVariable (p.variables.getD v_1.toNat default)) (QP.stab _ _) (fun ρ169 w170 g hle hi hk ht=>?_) ?_
 obtain⟨-,hst,-⟩:=hle
 obtain⟨hi,hi2⟩:=hi
 replace Fc:=Fc.step hst
 refine StepOp_plain<|op_indexAddr (q:=rXVariable) ty24 ty61 (ht 46 rfl) (ht 47 rfl) Fc rfl hc172.1 hc172.2 ?_
 intro p173 f174
 exact GoesQ.same hi hi2 ⟨_,rfl,f174⟩
 refine Dw_opN (QP _ _ (rSl (rInt .i64)) ((p.variables.getD v_1.toNat default).leaves)) (QP.stab _ _) (fun ρ175 w176 g hle hi hk ht=>?_) ?_
 obtain⟨hi,hi2⟩:=hi
 obtain⟨p178,q179,f180⟩:=ht 48 rfl
 refine StepOp_plain<|op_fieldAddr ty61 rfl ty31 (by decide) q179 rfl ?_
 have f181:=f180.via.snd.snd.fst
 exact GoesQ.same hi hi2 ⟨_,rfl,f181⟩
 refine Dw_opN (QD _ _ (vC (rSl (rInt .i64))) ((p.variables.getD v_1.toNat default).leaves)) (QD.stab _ _) (fun ρ182 w183 g hle hi hk ht=>?_) ?_
 obtain⟨hi,hi2⟩:=hi
 obtain⟨p185,q186,f187⟩:=ht 49 rfl
 refine StepOp_plain<|op_loadP ty31 q186 f187 rfl ?_
 intro v188 h189
 obtain⟨Ah,Ch,rfl,Fj⟩:=un_sl h189
 exact GoesQ.same hi hi2 (show Vr.vd (vC (rSl (rInt .i64))) _ _ _ _ from(mkC (mk_sl Fj)))
 refine Dw_opN (QD _ _ (vI .i64) (((p.variables.getD v_1.toNat default).leaves).length:Int)) (QD.stab _ _) (fun ρ191 w192 g hle hi hk ht=>?_) ?_
 obtain⟨hi,hi2⟩:=hi
 have h194:Vr.vd (vC (rSl (rInt .i64))) _ _ _ _:=ht 50 rfl
 obtain⟨Ai,Ci,q195,Fk⟩:=un_sl h194
 exact StepOp_plain<|op_len Try.underlying31 q195<|GoesQ.same hi hi2 (show Vr.vd (vI .i64) _ _ _ _ from⟨rfl,inK_len Fk⟩)
 refine Dw_opN QA QA.stab (fun ρ197 w198 g hle hi hk ht=>?_) ?_
 obtain⟨hi,hi2⟩:=hi
 exact StepOp_plain (op_allocQ ty58 ⟨hi,hi2⟩ hk)
 refine Dw_opN (QS (D80::O) [(some b18,o_g88),(some b1,Oc [Sl Aa p.cells Ca,Sl Ab p.capacity Cb,Sl Ac p.variables Cc] 26)] rXChoice 58 (((p.variables.getD v_1.toNat default).choices).getD (choices.getD v_1.toNat default).toNat default)) QS.stab (fun ρ200 w201 g hle hi hk ht=>?_) ?_
 obtain⟨hi,hi2⟩:=hi
 have h203:Vr.vd (vA rXChoice) _ _ _ _:=ht 44 rfl
 obtain⟨_,q204,⟨_,_,rfl,⟨rfl,Rk⟩,⟨_,_,rfl,⟨rfl,Rl⟩,⟨_,_,rfl,⟨rfl,Rm⟩,⟨Aj,Cj,rfl,Fl⟩⟩⟩⟩⟩:=h203
 exact StepOp_plain (op_storeQ (q:=rXChoice) ty58 rfl rfl ⟨hi,hi2⟩ hk (show QA _ w201 _ from ht 11 rfl) (show Vr.vd (vA rXChoice) _ _ _ _ from ht 44 rfl))
 refine Dw_nil fun w210 g211 hl212 hi213=>?_
 obtain⟨-,hst214,-⟩:=hl212
 obtain⟨hi213,_⟩:=hi213
 rintro _ ⟨b217,vs218,hg219,hr220⟩
 rintro _ ⟨_,_,_,rfl,hg221⟩;rw [hg219] at hg221;cases hg221
 rintro v223 h224
 replace h224:Vr.vd (vI .i64) _ _ _ _:=h224
 obtain⟨rfl,Rn⟩:=h224
 rintro v226 h227
 replace h227:Vr.vd (vC (rSl (rInt .i64))) _ _ _ _:=h227
 obtain⟨Ak,Ck,rfl,Fm⟩:=un_sl h227
 rintro _ ⟨p229,rfl,f230⟩ _ ⟨p231,rfl,f232⟩ _ rfl _ rfl _ rfl v233 h234
 replace h234:Vr.vd (vA rXChoice) _ _ _ _:=h234
 obtain⟨_,rfl,⟨_,_,rfl,⟨rfl,Ro⟩,⟨_,_,rfl,⟨rfl,Rq⟩,⟨_,_,rfl,⟨rfl,Rr⟩,⟨Al,Cl,rfl,Fn⟩⟩⟩⟩⟩:=h234
 rintro _ ⟨p236,rfl,f237⟩ _ rfl v238 h239
 replace h239:Vr.vd (vC (rSl rXChoice)) _ _ _ _:=h239
 obtain⟨Am,Cm,rfl,Fo⟩:=un_sl h239
 rintro _ ⟨p241,rfl,f242⟩ _ ⟨p243,rfl,f244⟩ _ rfl _ rfl _ rfl
 obtain⟨hs216,p215⟩:=Step.nxQ1 hi213 hg219
 have p245:=hs95.to hs216 (hst214.trans p215)
 replace Fm:=Fm.step p215;replace f230:=f230.step p215;replace f232:=f232.step p215;replace Fn:=Fn.step p215;replace f237:=f237.step p215;replace Fo:=Fo.step p215;replace f242:=f242.step p215;replace f244:=f244.step p215
 replace hr220:=Rp.step rXChoice p215 hr220;clear hs95
 obtain⟨_,_,rfl,⟨rfl,Rs⟩,⟨_,_,rfl,⟨rfl,Rt⟩,⟨_,_,rfl,⟨rfl,Ru⟩,⟨An,Cn,rfl,Fp⟩⟩⟩⟩:=hr220
 refine Asg (Iv (((p.variables.getD v_1.toNat default).leaves).length:Int)) rfl<|Rg_nil<|Wp_seq ?_
 clear Fm f230 f232 Fn f237 Fo f242 f244
 refine Wr2 q14_0 (D80::[]) (updL ⟨ξ89,D80::[]⟩ [(2,Pt b1 0),(6,Pt b18 0),(29,Sl Ad choices Cd),(30,Iv (choices.length:Int)),(31,Iv 0)]) [(11,Pt b217 0),(12,Iv (((p.variables.getD v_1.toNat default).leaves).length:Int)),(31,Iv v_1)] fun ξ247=>Wp_region ?_
 obtain⟨hc248,hm⟩:=ck_some hm
 replace Ff:=Ff.step p245
 refine Rop<|op_indexAddrAG ty93 ty3 rfl rfl Ff hc248<|Rop<|op_loadG (m:=1) (i:=1) ty3 rfl hs216 rfl rfl Ff hc248 ?_
 intro v249 h250
 obtain⟨rfl,Rv⟩:=un_int h250
 refine Rop<|op_fA 0 ty58 rfl ty3 rfl rfl<|Rop<|op_ld 0 ty3 hs216 rfl rfl rfl<|Rop<|op_max rfl rfl ?_
 obtain⟨hc252,hm⟩:=ck_some hm
 refine Rop<|op_indexAddrAG ty93 ty3 rfl rfl Ff hc252<|Rg_op_<|op_storeG (vs:=[Iv (max (arr_2.getD 1 default) ((((p.variables.getD v_1.toNat default).choices).getD (choices.getD v_1.toNat default).toNat default).delay))]) (i:=1) (m:=1) ty3 rfl hs216 rfl rfl rfl rfl Ff hc252 (mk_int (inK_max Rv Rs)) ?_
 intro w253 o256 p254 hs255 f257
 replace f257:Gs _ _ _ _ _ _ (arr_2.set 1 (max (arr_2.getD 1 default) ((((p.variables.getD v_1.toNat default).choices).getD (choices.getD v_1.toNat default).toNat default).delay))) _ _:=f257
 clear hs216
 refine Rg_nil<|Wp_seq<|Wp_region ?_
 obtain⟨hc258,hm⟩:=ck_some hm
 refine Rop<|op_indexAddrAG ty93 ty3 rfl rfl f257 hc258<|Rop<|op_loadG (m:=2) (i:=1) ty3 rfl hs255 rfl rfl f257 hc258 ?_
 intro v259 h260
 obtain⟨rfl,Rw⟩:=un_int h260
 refine Rop<|op_fA 1 ty58 rfl ty3 rfl rfl<|Rop<|op_ld 0 ty3 hs255 rfl rfl rfl<|Mve (Iv (((p.variables.getD v_1.toNat default).leaves).length:Int)) rfl<|Rop<|op_mulw rfl rfl<|Rop<|op_addw rfl rfl ?_
 obtain⟨hc262,hm⟩:=ck_some hm
 refine Rop<|op_indexAddrAG ty93 ty3 rfl rfl f257 hc262<|Rg_op_<|op_storeG (vs:=[Iv (IntKind.wrap .i64 (((arr_2.set 1 (max (arr_2.getD 1 default) ((((p.variables.getD v_1.toNat default).choices).getD (choices.getD v_1.toNat default).toNat default).delay))).getD 2 default)+(IntKind.wrap .i64 (((((p.variables.getD v_1.toNat default).choices).getD (choices.getD v_1.toNat default).toNat default).cost)*(((p.variables.getD v_1.toNat default).leaves).length:Int)))))]) (i:=1) (m:=2) ty3 rfl hs255 rfl rfl rfl rfl f257 hc262 (mk_int (inK_wrap .i64 _)) ?_
 intro w263 o266 p264 hs265 f267
 replace f267:Gs _ _ _ _ _ _ ((arr_2.set 1 (max (arr_2.getD 1 default) ((((p.variables.getD v_1.toNat default).choices).getD (choices.getD v_1.toNat default).toNat default).delay))).set 2 (IntKind.wrap .i64 (((arr_2.set 1 (max (arr_2.getD 1 default) ((((p.variables.getD v_1.toNat default).choices).getD (choices.getD v_1.toNat default).toNat default).delay))).getD 2 default)+(IntKind.wrap .i64 (((((p.variables.getD v_1.toNat default).choices).getD (choices.getD v_1.toNat default).toNat default).cost)*(((p.variables.getD v_1.toNat default).leaves).length:Int)))))) _ _:=f267
 clear hs255
 refine Rg_nil<|Wp_region ?_
 obtain⟨hc268,hm⟩:=ck_some hm
 refine Rop<|op_indexAddrAG ty93 ty3 rfl rfl f267 hc268<|Rop<|op_loadG (m:=3) (i:=1) ty3 rfl hs265 rfl rfl f267 hc268 ?_
 intro v269 h270
 obtain⟨rfl,Rx⟩:=un_int h270
 refine Rop<|op_fA 2 ty58 rfl ty3 rfl rfl<|Rop<|op_ld 0 ty3 hs265 rfl rfl rfl<|Mve (Iv (((p.variables.getD v_1.toNat default).leaves).length:Int)) rfl<|Rop<|op_mulw rfl rfl<|Rop<|op_addw rfl rfl ?_
 obtain⟨hc272,hm⟩:=ck_some hm
 refine Rop<|op_indexAddrAG ty93 ty3 rfl rfl f267 hc272<|Rg_op_<|op_storeG (vs:=[Iv (IntKind.wrap .i64 ((((arr_2.set 1 (max (arr_2.getD 1 default) ((((p.variables.getD v_1.toNat default).choices).getD (choices.getD v_1.toNat default).toNat default).delay))).set 2 (IntKind.wrap .i64 (((arr_2.set 1 (max (arr_2.getD 1 default) ((((p.variables.getD v_1.toNat default).choices).getD (choices.getD v_1.toNat default).toNat default).delay))).getD 2 default)+(IntKind.wrap .i64 (((((p.variables.getD v_1.toNat default).choices).getD (choices.getD v_1.toNat default).toNat default).cost)*(((p.variables.getD v_1.toNat default).leaves).length:Int)))))).getD 3 default)+(IntKind.wrap .i64 (((((p.variables.getD v_1.toNat default).choices).getD (choices.getD v_1.toNat default).toNat default).changes)*(((p.variables.getD v_1.toNat default).leaves).length:Int)))))]) (i:=1) (m:=3) ty3 rfl hs265 rfl rfl rfl rfl f267 hc272 (mk_int (inK_wrap .i64 _)) ?_
 intro w273 o276 p274 hs275 f277
 replace f277:Gs _ _ _ _ _ _ (((arr_2.set 1 (max (arr_2.getD 1 default) ((((p.variables.getD v_1.toNat default).choices).getD (choices.getD v_1.toNat default).toNat default).delay))).set 2 (IntKind.wrap .i64 (((arr_2.set 1 (max (arr_2.getD 1 default) ((((p.variables.getD v_1.toNat default).choices).getD (choices.getD v_1.toNat default).toNat default).delay))).getD 2 default)+(IntKind.wrap .i64 (((((p.variables.getD v_1.toNat default).choices).getD (choices.getD v_1.toNat default).toNat default).cost)*(((p.variables.getD v_1.toNat default).leaves).length:Int)))))).set 3 (IntKind.wrap .i64 ((((arr_2.set 1 (max (arr_2.getD 1 default) ((((p.variables.getD v_1.toNat default).choices).getD (choices.getD v_1.toNat default).toNat default).delay))).set 2 (IntKind.wrap .i64 (((arr_2.set 1 (max (arr_2.getD 1 default) ((((p.variables.getD v_1.toNat default).choices).getD (choices.getD v_1.toNat default).toNat default).delay))).getD 2 default)+(IntKind.wrap .i64 (((((p.variables.getD v_1.toNat default).choices).getD (choices.getD v_1.toNat default).toNat default).cost)*(((p.variables.getD v_1.toNat default).leaves).length:Int)))))).getD 3 default)+(IntKind.wrap .i64 (((((p.variables.getD v_1.toNat default).choices).getD (choices.getD v_1.toNat default).toNat default).changes)*(((p.variables.getD v_1.toNat default).leaves).length:Int)))))) _ _:=f277
 clear hs265
 refine Rg_nil<|Wp_region<|Rop<|op_addw rfl rfl<|Mve (Iv (IntKind.wrap .i64 (v_1+1))) rfl<|Rg_nil ?_
 have hs278:=hs275.drop 0
 have p279:=(hs275.dropS 0)
 clear hs275
 have p280:=(p245.trans (p254.trans (p264.trans (p274.trans p279))))
 replace ch99:=ch99.trans p280;replace f277:=f277.step p279
 exact hK92 _ _ ⟨(IntKind.wrap .i64 (v_1+1)),((arr_2.set 1 (max (arr_2.getD 1 default) ((((p.variables.getD v_1.toNat default).choices).getD (choices.getD v_1.toNat default).toNat default).delay))).set 2 (IntKind.wrap .i64 (((arr_2.set 1 (max (arr_2.getD 1 default) ((((p.variables.getD v_1.toNat default).choices).getD (choices.getD v_1.toNat default).toNat default).delay))).getD 2 default)+(IntKind.wrap .i64 (((((p.variables.getD v_1.toNat default).choices).getD (choices.getD v_1.toNat default).toNat default).cost)*(((p.variables.getD v_1.toNat default).leaves).length:Int)))))).set 3 (IntKind.wrap .i64 ((((arr_2.set 1 (max (arr_2.getD 1 default) ((((p.variables.getD v_1.toNat default).choices).getD (choices.getD v_1.toNat default).toNat default).delay))).set 2 (IntKind.wrap .i64 (((arr_2.set 1 (max (arr_2.getD 1 default) ((((p.variables.getD v_1.toNat default).choices).getD (choices.getD v_1.toNat default).toNat default).delay))).getD 2 default)+(IntKind.wrap .i64 (((((p.variables.getD v_1.toNat default).choices).getD (choices.getD v_1.toNat default).toNat default).cost)*(((p.variables.getD v_1.toNat default).leaves).length:Int)))))).getD 3 default)+(IntKind.wrap .i64 (((((p.variables.getD v_1.toNat default).choices).getD (choices.getD v_1.toNat default).toNat default).changes)*(((p.variables.getD v_1.toNat default).leaves).length:Int))))),o276,_,rfl,Frm.of ⟨rfl,trivial⟩,ch99,hs278,(inK_wrap .i64 _),f277,jnE2 hsf91 hm⟩
 refine Wp_exit<|Wp_seq ?_
 obtain⟨hs281,p282⟩:=hs95.sub (bs':=[(some b18,o_g88)]) (.cons_cons _ (.cons _ List.Sublist.slnil))
 clear Fa Fb Fc Fd
 clear hs95
 refine Wp_region ?_
 obtain⟨hc283,hm⟩:=ck_some hm
 refine Rop<|op_sliceA (l:=0) (h:=4) (m:=4) ty93 ty3 rfl rfl rfl rfl (by decide) (by omega) (by omega) (Nat.le_refl _)<|Rop<|op_assign (v:=Sl (some ⟨b18,0,none⟩) arr_2 4) (eqlen rfl hc283.symm)<|Asg (Iv 0) rfl<|Rg_nil<|Wp_ret ?_
 obtain⟨w284,hcl285,hs286,p287⟩:=St.close hs281
 clear hs281
 have hs288:=St.fresh (O:=O) hs286 (fun k hk=>by simp [hk])
 have p289:=(p282.trans p287)
 replace Ff:=Ff.step p289
 replace Ff:=Gs.flat Flat.int Ff w284 (ks [(some b18,o_g88)] (List.range w.heap.size++O))
 obtain⟨hs291,p292,f290⟩:=Gs.publish (i:=0) hs288 rfl Ff
 clear hs288
 have hz:=step_all hs291
 refine⟨_,hcl285,[Sl (some ⟨b18,0,none⟩) arr_2 4,Iv 0],⟨rfl,rfl,trivial⟩,hs291.ext,?_⟩
 replace f290:=f290.step hz
 exact Vr.eq (a:=vT2 (vC (rSl (rInt .i64))) (vI .i64)) (x:=(arr_2,0)) (mkT2 (mkC (mk_sl f290)) ⟨rfl,(show InK .i64 0 from by decide)⟩) (oi hm)
 intro _ _ _ _ h;simp at h
theorem c14_problem_Value {w:World} {O:List Nat} {p:XProblem} {choices:List Int} {Aa:Option Addr} {Ca:Nat} {Ab:Option Addr} {Cb:Nat} {Ac:Option Addr} {Cc:Nat} {Ad:Option Addr} {Cd:Nat} (hO:∀k∈O,k<w.heap.size) (Fa:SlR rXCell w O Aa Ca p.cells) (Fb:SlR (rSl (rInt .i64)) w O Ab Cb p.capacity) (Fc:SlR rXVariable w O Ac Cc p.variables) (Fd:SlR (rInt .i64) w O Ad Cd choices) {x:(List Int) × Int} (hm:m14_problem_Value p choices=some x):
 Ok Try.prog 14 [Value.agg [Sl Aa p.cells Ca,Sl Ab p.capacity Cb,Sl Ac p.variables Cc].toArray,Sl Ad choices Cd] w O (vT2 (vC (rSl (rInt .i64))) (vI .i64)) x:=
 (f14_problem_Value hO Fa Fb Fc Fd hm).ok

abbrev q30_0:List Nat:=[7,8,9,10,11,12,13,14,15,16]

abbrev q30_1:List Nat:=[5,6,7,8,9,10,11,12,13,14,15,16,17,18,19,20,21,22,23,24,25,26,27,28]

def m30_overflightref27_Many_B0 (p:XProblem) (limit:Int) (sf9:Int→Int→Option Int) (n_1:Int) (i_1:Int):Option Int:=
 jn (fun(v_1:Bool)=>
  bif v_1 then
   ck ((0:Int)≤i_1∧i_1<(p.variables.length:Int))<|
   sf9 (IntKind.wrap .i64 (n_1*(max 1 (((p.variables.getD i_1.toNat default).choices).length:Int)))) (IntKind.wrap .i64 (i_1+1))
  else
   some (min n_1 limit))
 (fun k21=>
  bif (decide (i_1<(p.variables.length:Int))) then
   k21 (decide (n_1<limit))
  else
   k21 false)

def m30_overflightref27_Many (p:XProblem) (limit:Int):Option Int:=
 loop2 (m30_overflightref27_Many_B0 p limit) 1000000 1 0

theorem c30_overflightref27_Many {w:World} {O:List Nat} {p:XProblem} {limit:Int} {Aa:Option Addr} {Ca:Nat} {Ab:Option Addr} {Cb:Nat} {Ac:Option Addr} {Cc:Nat} (hO:∀k∈O,k<w.heap.size) (Fa:SlR rXCell w O Aa Ca p.cells) (Fb:SlR (rSl (rInt .i64)) w O Ab Cb p.capacity) (Fc:SlR rXVariable w O Ac Cc p.variables) (Ra:InK .i64 limit) {x:Int} (hm:m30_overflightref27_Many p limit=some x):
 Ok Try.prog 30 [Value.agg [Sl Aa p.cells Ca,Sl Ab p.capacity Cb,Sl Ac p.variables Cc].toArray,Iv limit] w O (vI .i64) x:=by
 unfold m30_overflightref27_Many at hm
 refine Fn_of_Wp (n:=32) (xs:=[.tmp 4]) Try.func30 rfl Try.ntmps30 Try.results30 rfl ?_
 have hs:=St.start hO
 refine Wp_seq<|Wp_region<|Rop<|op_box (cs:=[Sl Aa p.cells Ca,Sl Ab p.capacity Cb,Sl Ac p.variables Cc]) hs rfl rfl ?_
 intro b1 w2 _ p3 hs4
 refine Asg (Iv 0) rfl<|Rg_nil<|Wp_seq<|Wp_region<|Asg (Iv 1) rfl<|Rg_nil<|Wp_seq<|Wp_seq<|Wp_region<|Asg (Iv 0) rfl<|Rg_nil<|Wp_block<|Wr [] [(1,Iv limit),(2,Pt b1 0),(5,Iv 1),(6,Iv 0)] fun ξ8=>Wp_loopM q30_1 (fun m fr w'=>∃(n_1:Int) (i_1:Int) (Ebs:Ents),Ebs=[(some b1,Oc [Sl Aa p.cells Ca,Sl Ab p.capacity Cb,Sl Ac p.variables Cc] 26)]∧fr [] [(5,Iv n_1),(6,Iv i_1)]∧hs4.S (ks Ebs O) w'∧St ⟨w,[],[]⟩ O w' Ebs∧InK .i64 n_1∧InK .i64 i_1∧loop2 (m30_overflightref27_Many_B0 p limit) m n_1 i_1=some x) 1000000 ⟨1,0,_,rfl,Frm.of ⟨rfl,rfl,trivial⟩,Step.refl _ _,hs4,(show InK .i64 1 from by decide),(show InK .i64 0 from by decide),hm⟩ ?_ ?_
 rintro _ _ ⟨_,_,_,_,_,_,_,_,_,hm⟩;exact loop2_z hm
 rintro m12 K11 hK11 ρ17 w13 ⟨n_1,i_1,_,rfl,hfr16,hst15,hs14,Rb,Rc,hm⟩
 obtain⟨sf9,hsf10,hm⟩:=loop2_s hm;unfold m30_overflightref27_Many_B0 at hm
 rw [hfr16.eq];clear hfr16
 have ch18:=hst15
 refine Wp_seq<|Wr2 q30_1 [] (updL ⟨ξ8,[]⟩ [(1,Iv limit),(2,Pt b1 0),(5,Iv 1),(6,Iv 0)]) [(5,Iv n_1),(6,Iv i_1)] fun ξ19=>?_
 obtain⟨k21,hk22,hm⟩:=jn_elim hm
 refine Wp_seqJ q30_0 (fun fr w'=>∃(v_1:Bool) (Ebs:Ents),Ebs=[(some b1,Oc [Sl Aa p.cells Ca,Sl Ab p.capacity Cb,Sl Ac p.variables Cc] 26)]∧fr [] [(16,Bo v_1)]∧hs14.S (ks Ebs O) w'∧St ⟨w,[],[]⟩ O w' Ebs∧k21 v_1=some x) ?_ ?_
 rintro ρ28 w24 ⟨v_1,_,rfl,hfr27,hst26,hs25,hm⟩
 replace hm:=jnE1 hk22 hm
 rw [hfr27.eq];clear hfr27
 refine Wp_condM hm rfl (fun hc29 hm=>?_) (fun hc29 hm=>?_)
 refine Wp_skip<|Wp_seq<|Wp_block<|Wp_region<|Mve (Iv n_1) rfl<|Rop<|op_fA 2 ty26 rfl ty24 rfl rfl<|Rop<|op_ld 0 ty24 hs25 rfl rfl rfl<|Mve (Iv i_1) rfl ?_
 obtain⟨hc30,hm⟩:=ck_some hm
 have p33:=(p3.trans (hst15.trans hst26))
 replace Fc:=Fc.step p33
 refine Rop<|op_indexAddr (q:=rXVariable) ty24 ty61 rfl rfl Fc rfl hc30.1 hc30.2 ?_
 intro p31 f32
 refine Rop<|op_fieldAddr ty61 rfl ty59 (by decide) rfl rfl ?_
 have f34:=f32.via.snd.snd.snd
 refine Rop<|op_loadP ty59 rfl f34 rfl ?_
 intro v35 h36
 obtain⟨Ad,Cd,rfl,Fd⟩:=un_sl h36
 refine Rop<|op_len Try.underlying59 rfl ?_
 have rl38:=inK_len Fd
 refine Rop<|op_max rfl rfl<|Rop<|op_mulw rfl rfl<|Asg (Iv (IntKind.wrap .i64 (n_1*(max 1 (((p.variables.getD i_1.toNat default).choices).length:Int))))) rfl<|Rg_nil ?_
 clear f32 f34 Fd
 refine Wp_region<|Mve (Iv i_1) rfl<|Rop<|op_addw rfl rfl<|Asg (Iv (IntKind.wrap .i64 (i_1+1))) rfl<|Rg_nil ?_
 replace ch18:=ch18.trans hst26
 exact hK11 _ _ ⟨(IntKind.wrap .i64 (n_1*(max 1 (((p.variables.getD i_1.toNat default).choices).length:Int)))),(IntKind.wrap .i64 (i_1+1)),_,rfl,Frm.of ⟨rfl,rfl,trivial⟩,ch18,hs25,(inK_wrap .i64 _),(inK_wrap .i64 _),jnE2 hsf10 hm⟩
 refine Wp_exit<|Wp_seq ?_
 obtain⟨hs39,p40⟩:=hs25.sub (bs':=[]) (.cons _ List.Sublist.slnil)
 clear Fa Fb Fc
 clear hs25
 refine Wp_region<|Mve (Iv n_1) rfl<|Mve (Iv limit) rfl<|Rop<|op_min rfl rfl<|Asg (Iv (min n_1 limit)) rfl<|Rg_nil<|Wp_ret<|⟨_,Clo,[Iv (min n_1 limit)],⟨rfl,trivial⟩,hs39.ext,?_⟩
 exact Vr.eq (a:=(vI .i64)) (x:=min n_1 limit) ⟨rfl,inK_min Rb Ra⟩ (oi hm)
 intro K23 hK23
 have ch41:=hs14.stepR
 refine Wp_region<|Mve (Iv i_1) rfl<|Rop<|op_fA 2 ty26 rfl ty24 rfl rfl<|Rop<|op_ld 0 ty24 hs14 rfl rfl rfl<|Rop<|op_len Try.underlying24 rfl ?_
 have p43:=(p3.trans hst15)
 replace Fc:=Fc.step p43
 have rl42:=inK_len Fc
 refine Rop<|op_lss rfl rfl<|Mve (Bo (decide (i_1<(p.variables.length:Int)))) rfl<|Rg_caseM hm (fun hg44 hm=>?_) (fun hg44 hm=>?_)
 exact Rog rfl rfl<|op_move (v:=Iv n_1) rfl<|Rog rfl rfl<|op_move (v:=Iv limit) rfl<|Rog rfl rfl<|op_lss rfl rfl<|Pkt (Bo (decide (n_1<limit))) rfl rfl<|Rg_nil<|hK23 _ _ ⟨decide (n_1<limit),_,rfl,Frm.of ⟨rfl,trivial⟩,ch41,hs14,hm⟩
 iterate 3 refine Rg_opx rfl (asB_ne rfl rfl) rfl ?_
 exact Pkf (Bo false) rfl rfl<|Rg_nil<|hK23 _ _ ⟨false,_,rfl,Frm.of ⟨rfl,trivial⟩,ch41,hs14,hm⟩

abbrev q18_4:List Nat:=[2,3,23,24,25,26,27,28,29,30,31,32,33,34,35,36]

abbrev q18_2:List Nat:=[2,6,59,60,61,62,63,64,65,66,67,68,69,70,71,72,73]

abbrev q18_1:List Nat:=[49,50,51,52,53,54,55,56,57,58]

abbrev q18_3:List Nat:=[2,4,5,6,37,38,39,40,41,42,43,44,45,46,47,48,49,50,51,52,53,54,55,56,57,58,59,60,61,62,63,64,65,66,67,68,69,70,71,72,73]

abbrev q18_0:List Nat:=[7,8,9,10,11,12,13,14,15,16,17,18,19,20,21,22]

def m18_overflightref27_Few_B2 (p:XProblem) (i_2:Int) (sf44:Int→Option Bool) (sf84:Int→Option Bool) (k_1:Int):Option Bool:=
 bif (decide (k_1<(((p.variables.getD i_2.toNat default).choices).length:Int))) then
  ck ((0:Int)≤k_1∧k_1<(((p.variables.getD i_2.toNat default).choices).length:Int))<|
  bif (decide (12<(((((p.variables.getD i_2.toNat default).choices).getD k_1.toNat default).uses).length:Int))) then
   some false
  else
   sf84 (IntKind.wrap .i64 (k_1+1))
 else
  sf44 (IntKind.wrap .i64 (i_2+1))

def m18_overflightref27_Few_B1 (p:XProblem) (sf44:Int→Option Bool) (i_2:Int):Option Bool:=
 bif (decide (i_2<(p.variables.length:Int))) then
  ck ((0:Int)≤i_2∧i_2<(p.variables.length:Int))<|
  jn (fun(v_2:Bool)=>
   bif v_2 then
    some false
   else
    loop1 (m18_overflightref27_Few_B2 p i_2 sf44) (((((p.variables.getD i_2.toNat default).choices).length:Int) - 0).toNat+1) 0)
  (fun k73=>
   bif (decide (8<(((p.variables.getD i_2.toNat default).leaves).length:Int))) then
    k73 true
   else
    k73 (decide (8<(((p.variables.getD i_2.toNat default).choices).length:Int))))
 else
  (m30_overflightref27_Many p 2000).bind fun many_1=>
  some (decide (many_1<2000))

def m18_overflightref27_Few_B0 (p:XProblem) (sf21:Int→Option Bool) (i_1:Int):Option Bool:=
 bif (decide (i_1<(p.capacity.length:Int))) then
  ck ((0:Int)≤i_1∧i_1<(p.capacity.length:Int))<|
  bif (decide (16<((p.capacity.getD i_1.toNat default).length:Int))) then
   some false
  else
   sf21 (IntKind.wrap .i64 (i_1+1))
 else
  loop1 (m18_overflightref27_Few_B1 p) (((p.variables.length:Int) - 0).toNat+1) 0

def m18_overflightref27_Few (p:XProblem):Option Bool:=
 jn (fun(v_1:Bool)=>
  bif v_1 then
   some false
  else
   loop1 (m18_overflightref27_Few_B0 p) (((p.capacity.length:Int) - 0).toNat+1) 0)
 (fun k8=>
  bif (decide (12<(p.cells.length:Int))) then
   k8 true
  else
   bif (decide (4<(p.capacity.length:Int))) then
    k8 true
   else
    k8 (decide (6<(p.variables.length:Int))))

theorem c18_overflightref27_Few {w:World} {O:List Nat} {p:XProblem} {Aa:Option Addr} {Ca:Nat} {Ab:Option Addr} {Cb:Nat} {Ac:Option Addr} {Cc:Nat} (hO:∀k∈O,k<w.heap.size) (Fa:SlR rXCell w O Aa Ca p.cells) (Fb:SlR (rSl (rInt .i64)) w O Ab Cb p.capacity) (Fc:SlR rXVariable w O Ac Cc p.variables) {x:Bool} (hm:m18_overflightref27_Few p=some x):
 Ok Try.prog 18 [Value.agg [Sl Aa p.cells Ca,Sl Ab p.capacity Cb,Sl Ac p.variables Cc].toArray] w O vB x:=by
 unfold m18_overflightref27_Few at hm
 refine Fn_of_Wp (n:=77) (xs:=[.tmp 2]) Try.func18 rfl Try.ntmps18 Try.results18 rfl ?_
 have hs:=St.start hO
 refine Wp_seq<|Wp_region<|Rop<|op_box (cs:=[Sl Aa p.cells Ca,Sl Ab p.capacity Cb,Sl Ac p.variables Cc]) hs rfl rfl ?_
 intro b1 w2 _ p3 hs4
 refine Asg (Bo false) rfl<|Rg_nil<|Wp_seq<|Wr [] [(1,Pt b1 0)] fun ξ6=>?_
 obtain⟨k8,hk9,hm⟩:=jn_elim hm
 refine Wp_seqJ q18_0 (fun fr w'=>∃(v_1:Bool) (Ebs:Ents),Ebs=[(some b1,Oc [Sl Aa p.cells Ca,Sl Ab p.capacity Cb,Sl Ac p.variables Cc] 26)]∧fr [] [(22,Bo v_1)]∧hs4.S (ks Ebs O) w'∧St ⟨w,[],[]⟩ O w' Ebs∧k8 v_1=some x) ?_ ?_
 rintro ρ15 w11 ⟨v_1,_,rfl,hfr14,hst13,hs12,hm⟩
 replace hm:=jnE1 hk9 hm
 rw [hfr14.eq];clear hfr14
 refine Wp_condM hm rfl (fun hc16 hm=>?_) (fun hc16 hm=>?_)
 refine Wp_seq ?_
 obtain⟨hs17,p18⟩:=hs12.sub (bs':=[]) (.cons _ List.Sublist.slnil)
 clear Fa Fb Fc
 clear hs12
 refine Wp_region<|Asg (Bo false) rfl<|Rg_nil<|Wp_ret<|⟨_,Clo,[Bo false],⟨rfl,trivial⟩,hs17.ext,?_⟩
 exact Vr.eq (a:=vB) (x:=false) rfl (oi hm)
 refine Wp_skip<|Wp_seq<|Wp_seq<|Wp_region<|Asg (Iv 0) rfl<|Rg_nil<|Wp_block<|Wr [] [(1,Pt b1 0),(3,Iv 0)] fun ξ20=>Wp_loopM q18_4 (fun m fr w'=>∃(i_1:Int) (Ebs:Ents),Ebs=[(some b1,Oc [Sl Aa p.cells Ca,Sl Ab p.capacity Cb,Sl Ac p.variables Cc] 26)]∧fr [] [(3,Iv i_1)]∧hs12.S (ks Ebs O) w'∧St ⟨w,[],[]⟩ O w' Ebs∧InK .i64 i_1∧loop1 (m18_overflightref27_Few_B0 p) m i_1=some x) (((p.capacity.length:Int) - 0).toNat+1) ⟨0,_,rfl,Frm.of ⟨rfl,trivial⟩,Step.refl _ _,hs12,(show InK .i64 0 from by decide),hm⟩ ?_ ?_
 rintro _ _ ⟨_,_,_,_,_,_,_,hm⟩;exact loop1_z hm
 rintro m24 K23 hK23 ρ29 w25 ⟨i_1,_,rfl,hfr28,hst27,hs26,Ra,hm⟩
 obtain⟨sf21,hsf22,hm⟩:=loop1_s hm;unfold m18_overflightref27_Few_B0 at hm
 rw [hfr28.eq];clear hfr28
 have ch30:=hst27
 refine Wp_seq<|Wp_seq<|Wp_region<|Mve (Iv i_1) rfl<|Rop<|op_fA 1 ty26 rfl ty23 rfl rfl<|Rop<|op_ld 0 ty23 hs26 rfl rfl rfl<|Rop<|op_len Try.underlying23 rfl ?_
 have p32:=(p3.trans (hst13.trans hst27))
 replace Fb:=Fb.step p32
 have rl31:=inK_len Fb
 refine Rop<|op_lss rfl rfl<|Rg_nil<|Wp_condM hm rfl (fun hc33 hm=>?_) (fun hc33 hm=>?_)
 refine Wp_skip<|Wp_seq<|Wp_block<|Wp_seq<|Wp_region<|Rop<|op_fA 1 ty26 rfl ty23 rfl rfl<|Rop<|op_ld 0 ty23 hs26 rfl rfl rfl<|Mve (Iv i_1) rfl ?_
 obtain⟨hc34,hm⟩:=ck_some hm
 refine Rop<|op_indexAddr (q:=rSl (rInt .i64)) ty23 ty31 rfl rfl Fb rfl hc34.1 hc34.2 ?_
 intro p35 f36
 refine Rop<|op_loadP ty31 rfl f36 rfl ?_
 intro v37 h38
 obtain⟨Ad,Cd,rfl,Fd⟩:=un_sl h38
 refine Rop<|op_len Try.underlying31 rfl ?_
 have rl40:=inK_len Fd
 refine Rop<|op_gtr rfl rfl<|Rg_nil<|Wp_condM hm rfl (fun hc41 hm=>?_) (fun hc41 hm=>?_)
 refine Wp_seq ?_
 clear f36 Fd
 refine Wp_region<|Asg (Bo false) rfl<|Rg_nil<|Wp_ret<|⟨_,Clo,[Bo false],⟨rfl,trivial⟩,hs26.ext,?_⟩
 exact Vr.eq (a:=vB) (x:=false) rfl (oi hm)
 refine Wp_skip ?_
 clear f36 Fd
 exact Wp_region<|Mve (Iv i_1) rfl<|Rop<|op_addw rfl rfl<|Asg (Iv (IntKind.wrap .i64 (i_1+1))) rfl<|Rg_nil<|hK23 _ _ ⟨(IntKind.wrap .i64 (i_1+1)),_,rfl,Frm.of ⟨rfl,trivial⟩,ch30,hs26,(inK_wrap .i64 _),jnE1 hsf22 hm⟩
 refine Wp_exit<|Wp_seq<|Wp_seq<|Wp_region<|Asg (Iv 0) rfl<|Rg_nil<|Wp_block<|Wr [] [(1,Pt b1 0),(4,Iv 0)] fun ξ43=>Wp_loopM q18_3 (fun m fr w'=>∃(i_2:Int) (Ebs:Ents),Ebs=[(some b1,Oc [Sl Aa p.cells Ca,Sl Ab p.capacity Cb,Sl Ac p.variables Cc] 26)]∧fr [] [(4,Iv i_2)]∧hs26.S (ks Ebs O) w'∧St ⟨w,[],[]⟩ O w' Ebs∧InK .i64 i_2∧loop1 (m18_overflightref27_Few_B1 p) m i_2=some x) (((p.variables.length:Int) - 0).toNat+1) ⟨0,_,rfl,Frm.of ⟨rfl,trivial⟩,Step.refl _ _,hs26,(show InK .i64 0 from by decide),hm⟩ ?_ ?_
 rintro _ _ ⟨_,_,_,_,_,_,_,hm⟩;exact loop1_z hm
 rintro m47 K46 hK46 ρ52 w48 ⟨i_2,_,rfl,hfr51,hst50,hs49,Rb,hm⟩
 obtain⟨sf44,hsf45,hm⟩:=loop1_s hm;unfold m18_overflightref27_Few_B1 at hm
 rw [hfr51.eq];clear hfr51
 have ch53:=hst50
 refine Wp_seq<|Wp_seq<|Wp_region<|Mve (Iv i_2) rfl<|Rop<|op_fA 2 ty26 rfl ty24 rfl rfl<|Rop<|op_ld 0 ty24 hs49 rfl rfl rfl<|Rop<|op_len Try.underlying24 rfl ?_
 have p55:=(p32.trans hst50)
 replace Fc:=Fc.step p55
 have rl54:=inK_len Fc
 refine Rop<|op_lss rfl rfl<|Rg_nil<|Wp_condM hm rfl (fun hc56 hm=>?_) (fun hc56 hm=>?_)
 refine Wp_skip<|Wp_seq<|Wp_block<|Wp_seq<|Wp_region<|Rop<|op_fA 2 ty26 rfl ty24 rfl rfl<|Rop<|op_ld 0 ty24 hs49 rfl rfl rfl<|Mve (Iv i_2) rfl ?_
 obtain⟨hc57,hm⟩:=ck_some hm
 refine Rop<|op_indexAddr (q:=rXVariable) ty24 ty61 rfl rfl Fc rfl hc57.1 hc57.2 ?_
 intro p58 f59
 refine Rop<|op_loadPA ty61 rfl f59 rfl ?_
 intro vs60 h61
 obtain⟨_,_,rfl,⟨rfl,Rc⟩,⟨_,_,rfl,⟨rfl,Rd⟩,⟨_,_,rfl,⟨Ae,Ce,rfl,Fe⟩,⟨Af,Cf,rfl,Ff⟩⟩⟩⟩:=h61
 refine Rop<|op_alloc ty61 hs49 ?_
 intro b63 w64 _ p65 hs66
 clear hs49
 refine Rg_op_<|op_stA .z ty61 hs66 rfl rfl rfl rfl rfl ?_
 intro w68 p69 hs70
 clear hs66
 refine Rg_nil<|Wp_seq<|Wr2 q18_3 [] (updL ⟨ξ43,[]⟩ [(1,Pt b1 0),(4,Iv 0)]) [(4,Iv i_2),(5,Pt b63 0)] fun ξ71=>?_
 obtain⟨k73,hk74,hm⟩:=jn_elim hm
 refine Wp_seqJ q18_1 (fun fr w'=>∃(v_2:Bool) (Ebs:Ents),Ebs=[(some b63,Oc [Iv ((p.variables.getD i_2.toNat default).flight),Iv ((p.variables.getD i_2.toNat default).node),Sl Ae ((p.variables.getD i_2.toNat default).leaves) Ce,Sl Af ((p.variables.getD i_2.toNat default).choices) Cf] 61),(some b1,Oc [Sl Aa p.cells Ca,Sl Ab p.capacity Cb,Sl Ac p.variables Cc] 26)]∧fr [] [(58,Bo v_2)]∧hs70.S (ks Ebs O) w'∧St ⟨w,[],[]⟩ O w' Ebs∧k73 v_2=some x) ?_ ?_
 rintro ρ80 w76 ⟨v_2,_,rfl,hfr79,hst78,hs77,hm⟩
 replace hm:=jnE1 hk74 hm
 rw [hfr79.eq];clear hfr79
 refine Wp_condM hm rfl (fun hc81 hm=>?_) (fun hc81 hm=>?_)
 refine Wp_seq ?_
 clear f59
 refine Wp_region<|Asg (Bo false) rfl<|Rg_nil<|Wp_ret<|⟨_,Clo,[Bo false],⟨rfl,trivial⟩,hs77.ext,?_⟩
 exact Vr.eq (a:=vB) (x:=false) rfl (oi hm)
 refine Wp_skip<|Wp_seq ?_
 clear f59
 refine Wp_region<|Asg (Iv 0) rfl<|Rg_nil<|Wp_block<|Wr2 q18_3 [] (updL ⟨ξ43,[]⟩ [(1,Pt b1 0),(4,Iv 0)]) [(4,Iv i_2),(5,Pt b63 0),(6,Iv 0)] fun ξ83=>Wp_loopM q18_2 (fun m fr w'=>∃(k_1:Int) (Ebs:Ents),Ebs=[(some b63,Oc [Iv ((p.variables.getD i_2.toNat default).flight),Iv ((p.variables.getD i_2.toNat default).node),Sl Ae ((p.variables.getD i_2.toNat default).leaves) Ce,Sl Af ((p.variables.getD i_2.toNat default).choices) Cf] 61),(some b1,Oc [Sl Aa p.cells Ca,Sl Ab p.capacity Cb,Sl Ac p.variables Cc] 26)]∧fr [] [(6,Iv k_1)]∧hs77.S (ks Ebs O) w'∧St ⟨w,[],[]⟩ O w' Ebs∧InK .i64 k_1∧loop1 (m18_overflightref27_Few_B2 p i_2 sf44) m k_1=some x) (((((p.variables.getD i_2.toNat default).choices).length:Int) - 0).toNat+1) ⟨0,_,rfl,Frm.of ⟨rfl,trivial⟩,Step.refl _ _,hs77,(show InK .i64 0 from by decide),hm⟩ ?_ ?_
 rintro _ _ ⟨_,_,_,_,_,_,_,hm⟩;exact loop1_z hm
 rintro m87 K86 hK86 ρ92 w88 ⟨k_1,_,rfl,hfr91,hst90,hs89,Re,hm⟩
 obtain⟨sf84,hsf85,hm⟩:=loop1_s hm;unfold m18_overflightref27_Few_B2 at hm
 rw [hfr91.eq];clear hfr91
 have ch93:=hst90
 refine Wp_seq<|Wp_seq<|Wp_region<|Mve (Iv k_1) rfl<|Rop<|op_fA 3 ty61 rfl ty59 rfl rfl<|Rop<|op_ld 0 ty59 hs89 rfl rfl rfl<|Rop<|op_len Try.underlying59 rfl ?_
 have p95:=(p65.trans (p69.trans (hst78.trans hst90)))
 replace Ff:=Ff.step p95
 have rl94:=inK_len Ff
 refine Rop<|op_lss rfl rfl<|Rg_nil<|Wp_condM hm rfl (fun hc96 hm=>?_) (fun hc96 hm=>?_)
 refine Wp_skip<|Wp_seq<|Wp_block<|Wp_seq<|Wp_region<|Rop<|op_fA 3 ty61 rfl ty59 rfl rfl<|Rop<|op_ld 0 ty59 hs89 rfl rfl rfl<|Mve (Iv k_1) rfl ?_
 obtain⟨hc97,hm⟩:=ck_some hm
 refine Rop<|op_indexAddr (q:=rXChoice) ty59 ty58 rfl rfl Ff rfl hc97.1 hc97.2 ?_
 intro p98 f99
 refine Rop<|op_fieldAddr ty58 rfl ty56 (by decide) rfl rfl ?_
 have f100:=f99.via.snd.snd.snd
 refine Rop<|op_loadP ty56 rfl f100 rfl ?_
 intro v101 h102
 obtain⟨Ag,Cg,rfl,Fg⟩:=un_sl h102
 refine Rop<|op_len Try.underlying56 rfl ?_
 have rl104:=inK_len Fg
 refine Rop<|op_gtr rfl rfl<|Rg_nil<|Wp_condM hm rfl (fun hc105 hm=>?_) (fun hc105 hm=>?_)
 refine Wp_seq ?_
 clear f99 f100 Fg
 refine Wp_region<|Asg (Bo false) rfl<|Rg_nil<|Wp_ret<|⟨_,Clo,[Bo false],⟨rfl,trivial⟩,hs89.ext,?_⟩
 exact Vr.eq (a:=vB) (x:=false) rfl (oi hm)
 refine Wp_skip ?_
 clear f99 f100 Fg
 exact Wp_region<|Mve (Iv k_1) rfl<|Rop<|op_addw rfl rfl<|Asg (Iv (IntKind.wrap .i64 (k_1+1))) rfl<|Rg_nil<|hK86 _ _ ⟨(IntKind.wrap .i64 (k_1+1)),_,rfl,Frm.of ⟨rfl,trivial⟩,ch93,hs89,(inK_wrap .i64 _),jnE1 hsf85 hm⟩
 refine Wp_exit<|Wp_region<|Mve (Iv i_2) rfl<|Rop<|op_addw rfl rfl<|Asg (Iv (IntKind.wrap .i64 (i_2+1))) rfl<|Rg_nil ?_
 have hs106:=hs89.drop 0
 have p107:=(hs89.dropS 0)
 clear hs89
 have p108:=(p95.trans p107)
 replace ch53:=ch53.trans p108
 exact hK46 _ _ ⟨(IntKind.wrap .i64 (i_2+1)),_,rfl,Frm.of ⟨rfl,trivial⟩,ch53,hs106,(inK_wrap .i64 _),jnE1 hsf45 hm⟩
 intro K75 hK75
 have ch109:=hs70.stepR
 clear f59
 refine Wp_region<|Rop<|op_fA 2 ty61 rfl ty31 rfl rfl<|Rop<|op_ld 0 ty31 hs70 rfl rfl rfl<|Rop<|op_len Try.underlying31 rfl ?_
 have p111:=(p65.trans p69)
 replace Fe:=Fe.step p111
 have rl110:=inK_len Fe
 refine Rop<|op_gtr rfl rfl<|Mve (Bo (decide (8<(((p.variables.getD i_2.toNat default).leaves).length:Int)))) rfl<|Rg_caseM hm (fun hg112 hm=>?_) (fun hg112 hm=>?_)
 iterate 4 refine Rg_opx rfl (asB_ne rfl rfl) rfl ?_
 exact Pkt (Bo true) rfl rfl<|Rg_nil<|hK75 _ _ ⟨true,_,rfl,Frm.of ⟨rfl,trivial⟩,ch109,hs70,hm⟩
 refine Rog rfl rfl<|op_fA 3 ty61 rfl ty59 rfl rfl<|Rog rfl rfl<|op_ld 0 ty59 hs70 rfl rfl rfl<|Rog rfl rfl<|op_len Try.underlying59 rfl ?_
 replace Ff:=Ff.step p111
 have rl113:=inK_len Ff
 exact Rog rfl rfl<|op_gtr rfl rfl<|Pkf (Bo (decide (8<(((p.variables.getD i_2.toNat default).choices).length:Int)))) rfl rfl<|Rg_nil<|hK75 _ _ ⟨decide (8<(((p.variables.getD i_2.toNat default).choices).length:Int)),_,rfl,Frm.of ⟨rfl,trivial⟩,ch109,hs70,hm⟩
 refine Wp_exit<|Wp_seq<|Wp_region<|Rop<|op_ldA 0 ty26 hs49 rfl rfl rfl ?_
 obtain⟨many_1,hv114,hm⟩:=bd hm
 replace Fb:=Fb.step hst50;replace Fa:=Fa.step p55
 refine Rop<|op_callE hs49 Try.call30 (c30_overflightref27_Many (p:=p) (limit:=2000) hs49.ltw Fa Fb Fc (show InK .i64 2000 from by decide) hv114) rfl ?_
 rintro v115 w116 p120 hs119 h118
 clear hs49
 obtain⟨rfl,Rf⟩:=h118
 refine Rop<|op_lss rfl rfl<|Asg (Bo (decide (many_1<2000))) rfl<|Rg_nil<|Wp_ret<|⟨_,Clo,[Bo (decide (many_1<2000))],⟨rfl,trivial⟩,hs119.ext,?_⟩
 exact Vr.eq (a:=vB) (x:=decide (many_1<2000)) rfl (oi hm)
 intro K10 hK10
 have ch122:=hs4.stepR
 refine Wp_region<|Rop<|op_fA 0 ty26 rfl ty22 rfl rfl<|Rop<|op_ld 0 ty22 hs4 rfl rfl rfl<|Rop<|op_len Try.underlying22 rfl ?_
 replace Fa:=Fa.step p3
 have rl123:=inK_len Fa
 refine Rop<|op_gtr rfl rfl<|Mve (Bo (decide (12<(p.cells.length:Int)))) rfl<|Rg_caseM hm (fun hg124 hm=>?_) (fun hg124 hm=>?_)
 iterate 4 refine Rg_opx rfl (asB_ne rfl rfl) rfl ?_
 refine Pkt (Bo true) rfl rfl<|Mve (Bo true) rfl ?_
 iterate 4 refine Rg_opx rfl (asB_ne rfl rfl) rfl ?_
 exact Pkt (Bo true) rfl rfl<|Rg_nil<|hK10 _ _ ⟨true,_,rfl,Frm.of ⟨rfl,trivial⟩,ch122,hs4,hm⟩
 refine Rog rfl rfl<|op_fA 1 ty26 rfl ty23 rfl rfl<|Rog rfl rfl<|op_ld 0 ty23 hs4 rfl rfl rfl<|Rog rfl rfl<|op_len Try.underlying23 rfl ?_
 replace Fb:=Fb.step p3
 have rl125:=inK_len Fb
 refine Rog rfl rfl<|op_gtr rfl rfl<|Pkf (Bo (decide (4<(p.capacity.length:Int)))) rfl rfl<|Mve (Bo (decide (4<(p.capacity.length:Int)))) rfl<|Rg_caseM hm (fun hg126 hm=>?_) (fun hg126 hm=>?_)
 iterate 4 refine Rg_opx rfl (asB_ne rfl rfl) rfl ?_
 exact Pkt (Bo true) rfl rfl<|Rg_nil<|hK10 _ _ ⟨true,_,rfl,Frm.of ⟨rfl,trivial⟩,ch122,hs4,hm⟩
 refine Rog rfl rfl<|op_fA 2 ty26 rfl ty24 rfl rfl<|Rog rfl rfl<|op_ld 0 ty24 hs4 rfl rfl rfl<|Rog rfl rfl<|op_len Try.underlying24 rfl ?_
 replace Fc:=Fc.step p3
 have rl127:=inK_len Fc
 exact Rog rfl rfl<|op_gtr rfl rfl<|Pkf (Bo (decide (6<(p.variables.length:Int)))) rfl rfl<|Rg_nil<|hK10 _ _ ⟨decide (6<(p.variables.length:Int)),_,rfl,Frm.of ⟨rfl,trivial⟩,ch122,hs4,hm⟩

def m19_overflightref32_Few (r_:XReason):Option Bool:=
 bif (decide ((r_.variables.length:Int)≤20)) then
  some (decide ((r_.places.length:Int)≤60))
 else
  some false

theorem c19_overflightref32_Few {w:World} {O:List Nat} {r_:XReason} {Aa:Option Addr} {Ca:Nat} {Ab:Option Addr} {Cb:Nat} (hO:∀k∈O,k<w.heap.size) (Fa:SlR (rInt .i64) w O Aa Ca r_.variables) (Fb:SlR rXPlace w O Ab Cb r_.places) {x:Bool} (hm:m19_overflightref32_Few r_=some x):
 Ok Try.prog 19 [Value.agg [Sl Aa r_.variables Ca,Sl Ab r_.places Cb].toArray] w O vB x:=by
 unfold m19_overflightref32_Few at hm
 refine Fn_of_Wp (n:=13) (xs:=[.tmp 2]) Try.func19 rfl Try.ntmps19 Try.results19 rfl ?_
 have hs:=St.start hO
 refine Wp_seq<|Wp_region<|Rop<|op_box (cs:=[Sl Aa r_.variables Ca,Sl Ab r_.places Cb]) hs rfl rfl ?_
 intro b1 w2 _ p3 hs4
 refine Asg (Bo false) rfl<|Rg_nil<|Wp_seq<|Wp_region<|Rop<|op_fA 0 ty34 rfl ty31 rfl rfl<|Rop<|op_ld 0 ty31 hs4 rfl rfl rfl<|Rop<|op_len Try.underlying31 rfl ?_
 replace Fa:=Fa.step p3
 have rl6:=inK_len Fa
 refine Rop<|op_leq rfl rfl<|Mve (Bo (decide ((r_.variables.length:Int)≤20))) rfl<|Rg_caseM hm (fun hg7 hm=>?_) (fun hg7 hm=>?_)
 refine Rog rfl rfl<|op_fA 1 ty34 rfl ty32 rfl rfl<|Rog rfl rfl<|op_ld 0 ty32 hs4 rfl rfl rfl<|Rog rfl rfl<|op_len Try.underlying32 rfl ?_
 replace Fb:=Fb.step p3
 have rl8:=inK_len Fb
 refine Rog rfl rfl<|op_leq rfl rfl<|Pkt (Bo (decide ((r_.places.length:Int)≤60))) rfl rfl<|Asg (Bo (decide ((r_.places.length:Int)≤60))) rfl<|Rg_nil<|Wp_ret<|⟨_,Clo,[Bo (decide ((r_.places.length:Int)≤60))],⟨rfl,trivial⟩,hs4.ext,?_⟩
 exact Vr.eq (a:=vB) (x:=decide ((r_.places.length:Int)≤60)) rfl (oi hm)
 iterate 4 refine Rg_opx rfl (asB_ne rfl rfl) rfl ?_
 refine Pkf (Bo false) rfl rfl<|Asg (Bo false) rfl<|Rg_nil<|Wp_ret<|⟨_,Clo,[Bo false],⟨rfl,trivial⟩,hs4.ext,?_⟩
 exact Vr.eq (a:=vB) (x:=false) rfl (oi hm)

abbrev q4_10:List Nat:=[12,250,251,252,253,254,255,256,257,258,259,260,261,262,263,264,265,266,267,268]

abbrev q4_8:List Nat:=[32,33,202,203,204,205,206,207,208,209,210,211,212,213,214,215,216,217,218,219,220,221,222,223,224]

abbrev q4_9:List Nat:=[31,32,33,192,193,194,195,196,197,198,199,200,201,202,203,204,205,206,207,208,209,210,211,212,213,214,215,216,217,218,219,220,221,222,223,224,225,226,227,228,229,230,231]

abbrev q4_5:List Nat:=[27,29,168,169,170,171,172,173,174,175,176,177,178]

abbrev q4_6:List Nat:=[25,26,27,29,150,151,152,153,154,155,156,157,158,159,160,161,162,163,164,165,166,167,168,169,170,171,172,173,174,175,176,177,178,179,180,181,182,183,184,185]

abbrev q4_7:List Nat:=[25,26,27,29,148,149,150,151,152,153,154,155,156,157,158,159,160,161,162,163,164,165,166,167,168,169,170,171,172,173,174,175,176,177,178,179,180,181,182,183,184,185,186]

abbrev q4_2:List Nat:=[20,22,109,110,111,112,113,114,115,116,117,118,119]

abbrev q4_3:List Nat:=[19,20,22,102,103,104,105,106,107,108,109,110,111,112,113,114,115,116,117,118,119,120,121,122,123,124,125,126]

abbrev q4_4:List Nat:=[19,20,22,100,101,102,103,104,105,106,107,108,109,110,111,112,113,114,115,116,117,118,119,120,121,122,123,124,125,126,127]

abbrev q4_1:List Nat:=[75,76,77,78,79,80,81,82,83,84,85,86,87]

abbrev q4_0:List Nat:=[42,43,44,45,46,47,48,49,50,51,52,53,54]

def m4_overflightlaw32_ReasonMore_B1 (r_:XReason) (v_4:Int) (v_5:List Int) (k120:(List Int)→Option Bool) (sf134:Bool→Int→Option Bool) (is_1:Bool) (v_7:Int):Option Bool:=
 bif (decide (v_7<(r_.variables.length:Int))) then
  ck ((0:Int)≤v_7∧v_7<(r_.variables.length:Int))<|
  bif is_1 then
   sf134 true (IntKind.wrap .i64 (v_7+1))
  else
   sf134 (decide (v_4=(r_.variables.getD v_7.toNat default))) (IntKind.wrap .i64 (v_7+1))
 else
  bif is_1 then
   ck ((v_5.length+[v_4].length)*8≤140737488355328)<|
   k120 (v_5++[v_4])
  else
   k120 v_5

def m4_overflightlaw32_ReasonMore_B3 (p:XProblem) (r_:XReason) (v_8:Int) (v_9:List XPlace) (k213:(List XPlace)→Option Bool) (sf288:Bool→Int→Option Bool) (is_2:Bool) (v_11:Int):Option Bool:=
 bif (decide (v_11<(r_.places.length:Int))) then
  ck ((0:Int)≤v_11∧v_11<(r_.places.length:Int))<|
  bif is_2 then
   sf288 true (IntKind.wrap .i64 (v_11+1))
  else
   sf288 (decide ((⟨(IntKind.wrap .i64 (v_8.tdiv (p.cells.length:Int))),v_8.tmod (p.cells.length:Int)⟩:XPlace)=(r_.places.getD v_11.toNat default))) (IntKind.wrap .i64 (v_11+1))
 else
  bif is_2 then
   ck ((v_9.length+[(⟨(IntKind.wrap .i64 (v_8.tdiv (p.cells.length:Int))),v_8.tmod (p.cells.length:Int)⟩:XPlace)].length)*16≤140737488355328)<|
   k213 (v_9++[(⟨(IntKind.wrap .i64 (v_8.tdiv (p.cells.length:Int))),v_8.tmod (p.cells.length:Int)⟩:XPlace)])
  else
   k213 v_9

def m4_overflightlaw32_ReasonMore_B5 (p:XProblem) (place:UInt8) (less:UInt8) (v_12:Int) (v_13:List (List Int)) (sf365:Int→(List (List Int))→Option Bool) (sf407:(List Int)→Int→Option Bool) (l_1:List Int) (v_14:Int):Option Bool:=
 bif (decide (v_14<((([]:List Int)++(p.capacity.getD v_12.toNat default)).length:Int))) then
  bif (decide ((IntKind.wrap .i64 ((IntKind.wrap .i64 (v_12*(l_1.length:Int)))+v_14))=((place.toNat:Int).tmod (IntKind.wrap .i64 ((p.cells.length:Int)*(p.capacity.length:Int)))))) then
   ck ((0:Int)≤v_14∧v_14<(l_1.length:Int))<|
   ck ((0:Int)≤v_14∧v_14<(l_1.length:Int))<|
   sf407 (l_1.set v_14.toNat (max (IntKind.wrap .i64 ((l_1.getD v_14.toNat default) - (less.toNat:Int))) 0)) (IntKind.wrap .i64 (v_14+1))
  else
   sf407 l_1 (IntKind.wrap .i64 (v_14+1))
 else
  ck ((v_13.length+[l_1].length)*24≤140737488355328)<|
  sf365 (IntKind.wrap .i64 (v_12+1)) (v_13++[l_1])

def m4_overflightlaw32_ReasonMore_B4 (p:XProblem) (r_:XReason) (place:UInt8) (less:UInt8) (v_5:List Int) (v_9:List XPlace) (sf365:Int→(List (List Int))→Option Bool) (v_12:Int) (v_13:List (List Int)):Option Bool:=
 bif (decide (v_12<(p.capacity.length:Int))) then
  ck ((0:Int)≤v_12∧v_12<(p.capacity.length:Int))<|
  ck ((([]:List Int).length+(p.capacity.getD v_12.toNat default).length)*8≤140737488355328)<|
  loop2 (m4_overflightlaw32_ReasonMore_B5 p place less v_12 v_13 sf365) ((((([]:List Int)++(p.capacity.getD v_12.toNat default)).length:Int) - 0).toNat+1) (([]:List Int)++(p.capacity.getD v_12.toNat default)) 0
 else
  (m17_reason_Proves p (⟨v_5,r_.places⟩:XReason)).bind fun proves_2=>
  (m17_reason_Proves p (⟨r_.variables,v_9⟩:XReason)).bind fun proves_3=>
  (m17_reason_Proves (⟨p.cells,v_13,p.variables⟩:XProblem) r_).bind fun proves_4=>
  jn (fun(v_15:Bool)=>
   some v_15)
  (fun k517=>
   bif proves_2.1 then
    bif (decide (proves_2.2=0)) then
     bif proves_3.1 then
      bif (decide (proves_3.2=0)) then
       bif proves_4.1 then
        k517 (decide (proves_4.2=0))
       else
        k517 false
      else
       k517 false
     else
      k517 false
    else
     k517 false
   else
    k517 false)

def m4_overflightlaw32_ReasonMore_B2 (p:XProblem) (r_:XReason) (place:UInt8) (less:UInt8) (v_5:List Int) (sf198:Int→(List XPlace)→Option Bool) (v_8:Int) (v_9:List XPlace):Option Bool:=
 bif (decide (v_8<(IntKind.wrap .i64 ((p.cells.length:Int)*(p.capacity.length:Int))))) then
  jn (fun(v_10:List XPlace)=>
   sf198 (IntKind.wrap .i64 (v_8+1)) v_10)
  (fun k213=>
   ck (((p.cells.length:Int):Int)≠0)<|
   ck (((p.cells.length:Int):Int)≠0)<|
   loop2 (m4_overflightlaw32_ReasonMore_B3 p r_ v_8 v_9 k213) (((r_.places.length:Int) - 0).toNat+1) (decide (v_8=((place.toNat:Int).tmod (IntKind.wrap .i64 ((p.cells.length:Int)*(p.capacity.length:Int)))))) 0)
 else
  loop2 (m4_overflightlaw32_ReasonMore_B4 p r_ place less v_5 v_9) (((p.capacity.length:Int) - 0).toNat+1) 0 ([]:List (List Int))

def m4_overflightlaw32_ReasonMore_B0 (p:XProblem) (r_:XReason) (variable_:UInt8) (place:UInt8) (less:UInt8) (sf105:Int→(List Int)→Option Bool) (v_4:Int) (v_5:List Int):Option Bool:=
 bif (decide (v_4<(p.variables.length:Int))) then
  jn (fun(v_6:List Int)=>
   sf105 (IntKind.wrap .i64 (v_4+1)) v_6)
  (fun k120=>
   loop2 (m4_overflightlaw32_ReasonMore_B1 r_ v_4 v_5 k120) (((r_.variables.length:Int) - 0).toNat+1) (decide (v_4=((variable_.toNat:Int).tmod (p.variables.length:Int)))) 0)
 else
  ck (((IntKind.wrap .i64 ((p.cells.length:Int)*(p.capacity.length:Int))):Int)≠0)<|
  loop2 (m4_overflightlaw32_ReasonMore_B2 p r_ place less v_5) (((IntKind.wrap .i64 ((p.cells.length:Int)*(p.capacity.length:Int))) - 0).toNat+1) 0 ([]:List XPlace)

def m4_overflightlaw32_ReasonMore (p:XProblem) (r_:XReason) (variable_:UInt8) (place:UInt8) (less:UInt8) (choices:List Int):Option Bool:=
 m10_overflightlaw32_sane.bind fun sane_1=>
 bif (!sane_1) then
  some false
 else
  jn (fun(v_1:Bool)=>
   bif v_1 then
    some true
   else
    (m17_reason_Proves p r_).bind fun proves_1=>
    jn (fun(v_2:Bool)=>
     bif v_2 then
      some (!proves_1.1)
     else
      (m14_problem_Value p choices).bind fun value_1=>
      jn (fun(v_3:Bool)=>
       bif v_3 then
        some false
       else
        ck (((p.variables.length:Int):Int)≠0)<|
        loop2 (m4_overflightlaw32_ReasonMore_B0 p r_ variable_ place less) (((p.variables.length:Int) - 0).toNat+1) 0 ([]:List Int))
      (fun k78=>
       bif (decide (value_1.2=0)) then
        bif (decide ((value_1.1.length:Int)≠4)) then
         k78 true
        else
         ck ((0:Int)≤0∧0<(value_1.1.length:Int))<|
         k78 (decide ((value_1.1.getD 0 default)=0))
       else
        k78 false))
    (fun k51=>
     bif (decide (proves_1.2≠0)) then
      k51 true
     else
      k51 (!proves_1.1)))
  (fun k24=>
   (m18_overflightref27_Few p).bind fun few_1=>
   bif (!few_1) then
    k24 true
   else
    (m19_overflightref32_Few r_).bind fun few_2=>
    bif (!few_2) then
     k24 true
    else
     k24 (decide (20<(choices.length:Int))))

theorem c4_overflightlaw32_ReasonMore {w:World} {O:List Nat} {p:XProblem} {r_:XReason} {variable_:UInt8} {place:UInt8} {less:UInt8} {choices:List Int} {Aa:Option Addr} {Ca:Nat} {Ab:Option Addr} {Cb:Nat} {Ac:Option Addr} {Cc:Nat} {Ad:Option Addr} {Cd:Nat} {Ae:Option Addr} {Ce:Nat} {Af:Option Addr} {Cf:Nat} (hO:∀k∈O,k<w.heap.size) (Fa:SlR rXCell w O Aa Ca p.cells) (Fb:SlR (rSl (rInt .i64)) w O Ab Cb p.capacity) (Fc:SlR rXVariable w O Ac Cc p.variables) (Fd:SlR (rInt .i64) w O Ad Cd r_.variables) (Fe:SlR rXPlace w O Ae Ce r_.places) (Ff:SlR (rInt .i64) w O Af Cf choices) {x:Bool} (hm:m4_overflightlaw32_ReasonMore p r_ variable_ place less choices=some x):
 Ok Try.prog 4 [Value.agg [Sl Aa p.cells Ca,Sl Ab p.capacity Cb,Sl Ac p.variables Cc].toArray,Value.agg [Sl Ad r_.variables Cd,Sl Ae r_.places Ce].toArray,(Value.int .u8 (variable_.toNat:Int)),(Value.int .u8 (place.toNat:Int)),(Value.int .u8 (less.toNat:Int)),Sl Af choices Cf] w O vB x:=by
 unfold m4_overflightlaw32_ReasonMore at hm
 refine Fn_of_Wp (n:=269) (xs:=[.tmp 12]) Try.func4 rfl Try.ntmps4 Try.results4 rfl ?_
 have hs:=St.start hO
 refine Wp_seq<|Wp_region<|Rop<|op_box (cs:=[Sl Aa p.cells Ca,Sl Ab p.capacity Cb,Sl Ac p.variables Cc]) hs rfl rfl ?_
 intro b1 w2 _ p3 hs4
 refine Rop<|op_box (cs:=[Sl Ad r_.variables Cd,Sl Ae r_.places Ce]) hs4 rfl rfl ?_
 intro b6 w7 _ p8 hs9
 clear hs4
 refine Asg (Bo false) rfl<|Rg_nil<|Wp_seq<|Wp_seq<|Wp_region ?_
 obtain⟨sane_1,hv11,hm⟩:=bd hm
 refine Rop<|op_callE hs9 Try.call10 (c10_overflightlaw32_sane hs9.ltw hv11) rfl ?_
 rintro v12 w13 p17 hs16 h15
 clear hs9
 obtain rfl:=h15
 refine Rop<|op_not rfl<|Rg_nil<|Wp_condM hm rfl (fun hc19 hm=>?_) (fun hc19 hm=>?_)
 refine Wp_seq ?_
 obtain⟨hs20,p21⟩:=hs16.sub (bs':=[]) (.cons _ (.cons _ List.Sublist.slnil))
 clear Fa Fb Fc Fd Fe Ff
 clear hs16
 refine Wp_region<|Asg (Bo false) rfl<|Rg_nil<|Wp_ret<|⟨_,Clo,[Bo false],⟨rfl,trivial⟩,hs20.ext,?_⟩
 exact Vr.eq (a:=vB) (x:=false) rfl (oi hm)
 refine Wp_skip<|Wp_seq<|Wr [] [(2,(Value.int .u8 (variable_.toNat:Int))),(3,(Value.int .u8 (place.toNat:Int))),(4,(Value.int .u8 (less.toNat:Int))),(5,Sl Af choices Cf),(6,Pt b1 0),(7,Pt b6 0)] fun ξ22=>?_
 obtain⟨k24,hk25,hm⟩:=jn_elim hm
 refine Wp_seqJ q4_0 (fun fr w'=>∃(v_1:Bool) (Ebs:Ents),Ebs=[(some b6,Oc [Sl Ad r_.variables Cd,Sl Ae r_.places Ce] 34),(some b1,Oc [Sl Aa p.cells Ca,Sl Ab p.capacity Cb,Sl Ac p.variables Cc] 26)]∧fr [] [(54,Bo v_1)]∧hs16.S (ks Ebs O) w'∧St ⟨w,[],[]⟩ O w' Ebs∧k24 v_1=some x) ?_ ?_
 rintro ρ31 w27 ⟨v_1,_,rfl,hfr30,hst29,hs28,hm⟩
 replace hm:=jnE1 hk25 hm
 rw [hfr30.eq];clear hfr30
 refine Wp_condM hm rfl (fun hc32 hm=>?_) (fun hc32 hm=>?_)
 refine Wp_seq ?_
 obtain⟨hs33,p34⟩:=hs28.sub (bs':=[]) (.cons _ (.cons _ List.Sublist.slnil))
 clear Fa Fb Fc Fd Fe Ff
 clear hs28
 refine Wp_region<|Asg (Bo true) rfl<|Rg_nil<|Wp_ret<|⟨_,Clo,[Bo true],⟨rfl,trivial⟩,hs33.ext,?_⟩
 exact Vr.eq (a:=vB) (x:=true) rfl (oi hm)
 refine Wp_skip<|Wp_seq<|Wp_region<|Rop<|op_ldA 1 ty26 hs28 rfl rfl rfl<|Rop<|op_ldA 0 ty34 hs28 rfl rfl rfl ?_
 obtain⟨proves_1,hv35,hm⟩:=bd hm
 have p41:=(p3.trans (p8.trans (p17.trans hst29)))
 replace Fb:=Fb.step p41;replace Fa:=Fa.step p41;replace Fc:=Fc.step p41;replace Fe:=Fe.step p41;replace Fd:=Fd.step p41
 refine Rop<|op_callE hs28 Try.call17 (c17_reason_Proves (p:=p) (r_:=r_) hs28.ltw Fa Fb Fc Fd Fe hv35) rfl ?_
 rintro v36 w37 p42 hs40 h39
 clear hs28
 obtain⟨v43,v44,rfl,h45,h46⟩:=h39
 obtain rfl:=h45
 obtain⟨rfl,Ra⟩:=h46
 refine Mve (Value.tuple [Bo proves_1.1,Iv proves_1.2].toArray) rfl<|Rop<|op_extract (v:=Bo proves_1.1) rfl rfl<|Rop<|op_extract (v:=Iv proves_1.2) rfl rfl<|Asg (Bo proves_1.1) rfl<|Asg (Iv proves_1.2) rfl<|Rg_nil<|Wp_seq<|Wr [] [(2,(Value.int .u8 (variable_.toNat:Int))),(3,(Value.int .u8 (place.toNat:Int))),(4,(Value.int .u8 (less.toNat:Int))),(5,Sl Af choices Cf),(6,Pt b1 0),(7,Pt b6 0),(13,Bo proves_1.1),(14,Iv proves_1.2)] fun ξ49=>?_
 obtain⟨k51,hk52,hm⟩:=jn_elim hm
 refine Wp_seqJ [61,62,63,64,65,66] (fun fr w'=>∃(v_2:Bool) (Ebs:Ents),Ebs=[(some b6,Oc [Sl Ad r_.variables Cd,Sl Ae r_.places Ce] 34),(some b1,Oc [Sl Aa p.cells Ca,Sl Ab p.capacity Cb,Sl Ac p.variables Cc] 26)]∧fr [] [(66,Bo v_2)]∧hs40.S (ks Ebs O) w'∧St ⟨w,[],[]⟩ O w' Ebs∧k51 v_2=some x) ?_ ?_
 rintro ρ58 w54 ⟨v_2,_,rfl,hfr57,hst56,hs55,hm⟩
 replace hm:=jnE1 hk52 hm
 rw [hfr57.eq];clear hfr57
 refine Wp_condM hm rfl (fun hc59 hm=>?_) (fun hc59 hm=>?_)
 refine Wp_seq ?_
 obtain⟨hs60,p61⟩:=hs55.sub (bs':=[]) (.cons _ (.cons _ List.Sublist.slnil))
 clear Fa Fb Fc Fd Fe Ff
 clear hs55
 refine Wp_region<|Mve (Bo proves_1.1) rfl<|Rop<|op_not rfl<|Asg (Bo (!proves_1.1)) rfl<|Rg_nil<|Wp_ret<|⟨_,Clo,[Bo (!proves_1.1)],⟨rfl,trivial⟩,hs60.ext,?_⟩
 exact Vr.eq (a:=vB) (x:=!proves_1.1) rfl (oi hm)
 refine Wp_skip<|Wp_seq<|Wp_seq<|Wp_region<|Rop<|op_ldA 1 ty26 hs55 rfl rfl rfl<|Mve (Sl Af choices Cf) rfl ?_
 obtain⟨value_1,hv62,hm⟩:=bd hm
 replace Ff:=Ff.step (p41.trans (p42.trans hst56))
 have p68:=(p42.trans hst56)
 replace Fb:=Fb.step p68;replace Fa:=Fa.step p68;replace Fc:=Fc.step p68
 refine Rop<|op_callE hs55 Try.call14 (c14_problem_Value (p:=p) (choices:=choices) hs55.ltw Fa Fb Fc Ff hv62) rfl ?_
 rintro v63 w64 p69 hs67 h66
 clear hs55
 obtain⟨v70,v71,rfl,h72,h73⟩:=h66
 obtain⟨Ag,Cg,rfl,Fg⟩:=un_sl h72
 obtain⟨rfl,Rb⟩:=h73
 refine Mve (Value.tuple [Sl Ag value_1.1 Cg,Iv value_1.2].toArray) rfl<|Rop<|op_extract (v:=Sl Ag value_1.1 Cg) rfl rfl<|Rop<|op_extract (v:=Iv value_1.2) rfl rfl<|Asg (Sl Ag value_1.1 Cg) rfl<|Asg (Iv value_1.2) rfl<|Rg_nil<|Wr [] [(2,(Value.int .u8 (variable_.toNat:Int))),(3,(Value.int .u8 (place.toNat:Int))),(4,(Value.int .u8 (less.toNat:Int))),(6,Pt b1 0),(7,Pt b6 0),(15,Sl Ag value_1.1 Cg),(16,Iv value_1.2)] fun ξ76=>?_
 obtain⟨k78,hk79,hm⟩:=jn_elim hm
 refine Wp_seqJ q4_1 (fun fr w'=>∃(v_3:Bool) (Ebs:Ents),Ebs=[(some b6,Oc [Sl Ad r_.variables Cd,Sl Ae r_.places Ce] 34),(some b1,Oc [Sl Aa p.cells Ca,Sl Ab p.capacity Cb,Sl Ac p.variables Cc] 26)]∧fr [] [(87,Bo v_3)]∧hs67.S (ks Ebs O) w'∧St ⟨w,[],[]⟩ O w' Ebs∧k78 v_3=some x) ?_ ?_
 rintro ρ85 w81 ⟨v_3,_,rfl,hfr84,hst83,hs82,hm⟩
 replace hm:=jnE1 hk79 hm
 rw [hfr84.eq];clear hfr84
 refine Wp_condM hm rfl (fun hc86 hm=>?_) (fun hc86 hm=>?_)
 refine Wp_seq ?_
 obtain⟨hs87,p88⟩:=hs82.sub (bs':=[]) (.cons _ (.cons _ List.Sublist.slnil))
 clear Fa Fb Fc Fd Fe Ff Fg
 clear hs82
 refine Wp_region<|Asg (Bo false) rfl<|Rg_nil<|Wp_ret<|⟨_,Clo,[Bo false],⟨rfl,trivial⟩,hs87.ext,?_⟩
 exact Vr.eq (a:=vB) (x:=false) rfl (oi hm)
 refine Wp_skip<|Wp_seq ?_
 clear Ff Fg
 refine Wp_region<|Rop<|op_fA 1 ty34 rfl ty32 rfl rfl<|Rop<|op_ld 0 ty32 hs82 rfl rfl rfl<|Rop<|op_build (vs:=[Value.slice none 0 0,Sl Ae r_.places Ce]) (parts:=[(1,.tmp 89)]) ty34 pl34 rfl<|Rop<|op_alloc ty34 hs82 ?_
 intro b89 w90 _ p91 hs92
 clear hs82
 refine Rg_op_<|op_stA .z ty34 hs92 rfl rfl rfl rfl rfl ?_
 intro w94 p95 hs96
 clear hs92
 refine Rg_nil<|Wp_seq<|Wp_region<|Mve (Value.int .u8 (variable_.toNat:Int)) rfl<|Rop<|op_conv_u8 Try.underlying5 Try.underlying3 rfl (by decide)<|Rop<|op_fA 2 ty26 rfl ty24 rfl rfl<|Rop<|op_ld 2 ty24 hs96 rfl rfl rfl<|Rop<|op_len Try.underlying24 rfl ?_
 have p98:=(p69.trans (hst83.trans (p91.trans p95)))
 replace Fc:=Fc.step p98
 have rl97:=inK_len Fc
 obtain⟨hc99,hm⟩:=ck_some hm
 refine Rop<|op_rem rfl rfl hc99<|Asg (Iv ((variable_.toNat:Int).tmod (p.variables.length:Int))) rfl<|Rg_nil<|Wp_seq<|Wp_seq<|Wp_region<|Rop<|op_fA 2 ty26 rfl ty24 rfl rfl<|Rop<|op_ld 2 ty24 hs96 rfl rfl rfl<|Rop<|op_len Try.underlying24 rfl ?_
 have rl100:=inK_len Fc
 refine Mve (Iv 0) rfl<|Rg_nil<|Wp_block<|Wr [] [(3,(Value.int .u8 (place.toNat:Int))),(4,(Value.int .u8 (less.toNat:Int))),(6,Pt b1 0),(7,Pt b6 0),(17,Pt b89 0),(18,Iv ((variable_.toNat:Int).tmod (p.variables.length:Int))),(99,Iv (p.variables.length:Int)),(100,Iv 0)] fun ξ104=>?_
 have hs109:=hs96.ghost (Obj.cells #[] 3)
 refine Wp_loopM q4_4 (fun m fr w'=>∃(v_4:Int) (v_5:List Int) (Ah:Option Addr) (Ch:Nat) (k_g103:Option Nat) (o_g103:Obj) (Ebs:Ents),Ebs=[(k_g103,o_g103),(some b89,Oc [Sl Ah v_5 Ch,Sl Ae r_.places Ce] 34),(some b6,Oc [Sl Ad r_.variables Cd,Sl Ae r_.places Ce] 34),(some b1,Oc [Sl Aa p.cells Ca,Sl Ab p.capacity Cb,Sl Ac p.variables Cc] 26)]∧fr [] [(100,Iv v_4)]∧hs109.S (ks Ebs O) w'∧St ⟨w,[],[]⟩ O w' Ebs∧InK .i64 v_4∧Gs (rInt .i64) 3 w' (ks Ebs O) Ah Ch v_5 k_g103 o_g103∧loop2 (m4_overflightlaw32_ReasonMore_B0 p r_ variable_ place less) m v_4 v_5=some x) (((p.variables.length:Int) - 0).toNat+1) ⟨0,([]:List Int),none,0,none,Obj.cells #[] 3,_,rfl,Frm.of ⟨rfl,trivial⟩,Step.refl _ _,hs109,(show InK .i64 0 from by decide),Gs.nil_,hm⟩ ?_ ?_
 rintro _ _ ⟨_,_,_,_,_,_,_,_,_,_,_,_,_,hm⟩;exact loop2_z hm
 rintro m108 K107 hK107 ρ115 w111 ⟨v_4,v_5,Ah,Ch,k_g103,o_g103,_,rfl,hfr114,hst113,hs112,Rc,Fh,hm⟩
 obtain⟨sf105,hsf106,hm⟩:=loop2_s hm;unfold m4_overflightlaw32_ReasonMore_B0 at hm
 rw [hfr114.eq];clear hfr114
 have ch116:=hst113
 refine Wp_seq<|Wp_region<|Rop<|op_lss rfl rfl<|Rg_nil<|Wp_seq<|Wp_condM hm rfl (fun hc117 hm=>?_) (fun hc117 hm=>?_)
 refine Wp_skip<|Wr2 q4_4 [] (updL ⟨ξ104,[]⟩ [(3,(Value.int .u8 (place.toNat:Int))),(4,(Value.int .u8 (less.toNat:Int))),(6,Pt b1 0),(7,Pt b6 0),(17,Pt b89 0),(18,Iv ((variable_.toNat:Int).tmod (p.variables.length:Int))),(99,Iv (p.variables.length:Int)),(100,Iv 0)]) [(100,Iv v_4)] fun ξ118=>?_
 obtain⟨k120,hk121,hm⟩:=jn_elim hm
 refine Wp_seqJ q4_3 (fun fr w'=>∃(v_6:List Int) (Ai:Option Addr) (Ci:Nat) (k_g119:Option Nat) (o_g119:Obj) (Ebs:Ents),Ebs=[(k_g119,o_g119),(some b89,Oc [Sl Ai v_6 Ci,Sl Ae r_.places Ce] 34),(some b6,Oc [Sl Ad r_.variables Cd,Sl Ae r_.places Ce] 34),(some b1,Oc [Sl Aa p.cells Ca,Sl Ab p.capacity Cb,Sl Ac p.variables Cc] 26)]∧fr [] []∧hs112.S (ks Ebs O) w'∧St ⟨w,[],[]⟩ O w' Ebs∧Gs (rInt .i64) 3 w' (ks Ebs O) Ai Ci v_6 k_g119 o_g119∧k120 v_6=some x) ?_ ?_
 rintro ρ127 w123 ⟨v_6,Ai,Ci,k_g119,o_g119,_,rfl,hfr126,hst125,hs124,Fi,hm⟩
 replace hm:=jnE1 hk121 hm
 rw [hfr126.eq];clear hfr126
 clear Fh
 refine Wp_region<|Rop<|op_addw rfl rfl<|Mve (Iv (IntKind.wrap .i64 (v_4+1))) rfl<|Rg_nil ?_
 replace ch116:=ch116.trans hst125
 exact hK107 _ _ ⟨(IntKind.wrap .i64 (v_4+1)),v_6,Ai,Ci,k_g119,o_g119,_,rfl,Frm.of ⟨rfl,trivial⟩,ch116,hs124,(inK_wrap .i64 _),Fi,jnE2 hsf106 hm⟩
 intro K122 hK122
 have ch128:=hs112.stepR
 refine Wp_block<|Wp_seq<|Wp_region<|Mve (Iv v_4) rfl<|Asg (Iv v_4) rfl<|Rg_nil<|Wp_seq<|Wp_region<|Mve (Iv v_4) rfl<|Mve (Iv ((variable_.toNat:Int).tmod (p.variables.length:Int))) rfl<|Rop<|op_eql rfl rfl<|Asg (Bo (decide (v_4=((variable_.toNat:Int).tmod (p.variables.length:Int))))) rfl<|Rg_nil<|Wp_seq<|Wp_seq<|Wp_region<|Rop<|op_fA 0 ty34 rfl ty31 rfl rfl<|Rop<|op_ld 2 ty31 hs112 rfl rfl rfl<|Rop<|op_len Try.underlying31 rfl ?_
 have p130:=(p68.trans (p69.trans (hst83.trans (p91.trans (p95.trans hst113)))))
 replace Fd:=Fd.step p130
 have rl129:=inK_len Fd
 refine Mve (Iv 0) rfl<|Rg_nil<|Wp_block<|Wr2 q4_3 [] (updL (mix q4_4 [] ξ118 (updL ⟨ξ104,[]⟩ [(3,(Value.int .u8 (place.toNat:Int))),(4,(Value.int .u8 (less.toNat:Int))),(6,Pt b1 0),(7,Pt b6 0),(17,Pt b89 0),(18,Iv ((variable_.toNat:Int).tmod (p.variables.length:Int))),(99,Iv (p.variables.length:Int)),(100,Iv 0)])) [(100,Iv v_4)]) [(19,Iv v_4),(20,Bo (decide (v_4=((variable_.toNat:Int).tmod (p.variables.length:Int))))),(107,Sl Ad r_.variables Cd),(108,Iv (r_.variables.length:Int)),(109,Iv 0)] fun ξ133=>Wp_loopM q4_2 (fun m fr w'=>∃(is_1:Bool) (v_7:Int) (Ebs:Ents),Ebs=[(k_g103,o_g103),(some b89,Oc [Sl Ah v_5 Ch,Sl Ae r_.places Ce] 34),(some b6,Oc [Sl Ad r_.variables Cd,Sl Ae r_.places Ce] 34),(some b1,Oc [Sl Aa p.cells Ca,Sl Ab p.capacity Cb,Sl Ac p.variables Cc] 26)]∧fr [] [(20,Bo is_1),(109,Iv v_7)]∧hs112.S (ks Ebs O) w'∧St ⟨w,[],[]⟩ O w' Ebs∧InK .i64 v_7∧loop2 (m4_overflightlaw32_ReasonMore_B1 r_ v_4 v_5 k120) m is_1 v_7=some x) (((r_.variables.length:Int) - 0).toNat+1) ⟨decide (v_4=((variable_.toNat:Int).tmod (p.variables.length:Int))),0,_,rfl,Frm.of ⟨rfl,rfl,trivial⟩,Step.refl _ _,hs112,(show InK .i64 0 from by decide),hm⟩ ?_ ?_
 rintro _ _ ⟨_,_,_,_,_,_,_,_,hm⟩;exact loop2_z hm
 rintro m137 K136 hK136 ρ142 w138 ⟨is_1,v_7,_,rfl,hfr141,hst140,hs139,Rd,hm⟩
 obtain⟨sf134,hsf135,hm⟩:=loop2_s hm;unfold m4_overflightlaw32_ReasonMore_B1 at hm
 rw [hfr141.eq];clear hfr141
 have ch143:=hst140
 refine Wp_seq<|Wp_region<|Rop<|op_lss rfl rfl<|Rg_nil<|Wp_seq<|Wp_condM hm rfl (fun hc144 hm=>?_) (fun hc144 hm=>?_)
 refine Wp_skip<|Wp_seq<|Wp_block<|Wp_seq<|Wp_region ?_
 obtain⟨hc145,hm⟩:=ck_some hm
 replace Fd:=Fd.step hst140
 refine Rop<|op_indexAddr (q:=(rInt .i64)) ty31 ty3 rfl rfl Fd rfl hc145.1 hc145.2 ?_
 intro p146 f147
 refine Rop<|op_loadP ty3 rfl f147 rfl ?_
 intro v148 h149
 obtain⟨rfl,Re⟩:=un_int h149
 refine Asg (Iv (r_.variables.getD v_7.toNat default)) rfl<|Rg_nil ?_
 clear f147
 refine Wp_region<|Mve (Bo is_1) rfl<|Mve (Bo is_1) rfl<|Rg_caseM hm (fun hg151 hm=>?_) (fun hg151 hm=>?_)
 iterate 3 refine Rg_opx rfl (asB_ne rfl rfl) rfl ?_
 exact Pkt (Bo true) rfl rfl<|Asg (Bo true) rfl<|Rg_nil<|Wp_region<|Rop<|op_addw rfl rfl<|Mve (Iv (IntKind.wrap .i64 (v_7+1))) rfl<|Rg_nil<|hK136 _ _ ⟨true,(IntKind.wrap .i64 (v_7+1)),_,rfl,Frm.of ⟨rfl,rfl,trivial⟩,ch143,hs139,(inK_wrap .i64 _),jnE2 hsf135 hm⟩
 exact Rog rfl rfl<|op_move (v:=Iv v_4) rfl<|Rog rfl rfl<|op_move (v:=Iv (r_.variables.getD v_7.toNat default)) rfl<|Rog rfl rfl<|op_eql rfl rfl<|Pkf (Bo (decide (v_4=(r_.variables.getD v_7.toNat default)))) rfl rfl<|Asg (Bo (decide (v_4=(r_.variables.getD v_7.toNat default)))) rfl<|Rg_nil<|Wp_region<|Rop<|op_addw rfl rfl<|Mve (Iv (IntKind.wrap .i64 (v_7+1))) rfl<|Rg_nil<|hK136 _ _ ⟨decide (v_4=(r_.variables.getD v_7.toNat default)),(IntKind.wrap .i64 (v_7+1)),_,rfl,Frm.of ⟨rfl,rfl,trivial⟩,ch143,hs139,(inK_wrap .i64 _),jnE2 hsf135 hm⟩
 refine Wp_exit<|Wp_seq<|Wp_region<|Mve (Bo is_1) rfl<|Rg_nil<|Wp_condM hm rfl (fun hc152 hm=>?_) (fun hc152 hm=>?_)
 refine Wp_region<|Rop<|op_fA 0 ty34 rfl ty31 rfl rfl<|Rop<|op_ld 1 ty31 hs139 rfl rfl rfl<|Mve (Iv v_4) rfl<|Rop<|op_buildSlice (cs:=[Iv v_4]) (parts:=[(0,.tmp 123)]) ty31 ty3 hs139 (by decide) rfl ?_
 intro b153 w154 hx157 p155 hs156
 clear hs139
 have f159:=Gs.of_cells (p:=(rInt .i64)) (e:=3) (bl:=b153) (c:=1) (w:=w154) (O:=ks [(some b153,Oc [Iv v_4] 3),(k_g103,o_g103),(some b89,Oc [Sl Ah v_5 Ch,Sl Ae r_.places Ce] 34),(some b6,Oc [Sl Ad r_.variables Cd,Sl Ae r_.places Ce] 34),(some b1,Oc [Sl Aa p.cells Ca,Sl Ab p.capacity Cb,Sl Ac p.variables Cc] 26)] O) (show Els (rInt .i64) _ _ [Iv v_4] [v_4] from⟨_,_,rfl,mk_int Rc,Els.nil⟩) rfl (le_lit rfl)
 obtain⟨hs161,p162,f160⟩:=Gs.publish (i:=0) hs156 rfl f159
 clear hs156
 obtain⟨hc163,hm⟩:=ck_some hm
 obtain⟨ns164,he165,hr166⟩:=f160.src
 have p175:=(hst140.trans (p155.trans p162))
 replace Fh:=Fh.step p175
 refine Rop (op_append (q:=(rInt .i64)) (i:=0) (xs:=v_5) (ys:=[v_4]) (news:=ns164) ty31 ty3 rfl (by decide) hs161 rfl rfl Fh rfl hr166 he165 hc163 (by have:=hc163;simp only [maxLen];omega) ?_)
 intro a170 c171 k172 o173 w167 p168 hs169 f174
 clear hs161
 refine Rop<|op_fA 0 ty34 rfl ty31 rfl rfl<|Rg_op_<|op_stC (Sl a170 (v_5++[v_4]) c171) (cs':=[Sl a170 (v_5++[v_4]) c171,Sl Ae r_.places Ce]) Put.p1 ty31 hs169 rfl rfl rfl (le_lit rfl) rfl rfl ?_
 intro w176 p177 hs178
 clear hs169
 refine Rg_nil ?_
 have p179:=(p175.trans (p168.trans p177))
 replace ch128:=ch128.trans p179;replace f174:=f174.step p177
 exact hK122 _ _ ⟨v_5++[v_4],a170,c171,k172,o173,_,rfl,Frm.of trivial,ch128,hs178,f174,hm⟩
 refine Wp_skip ?_
 replace ch128:=ch128.trans hst140;replace Fh:=Fh.step hst140
 exact hK122 _ _ ⟨v_5,Ah,Ch,k_g103,o_g103,_,rfl,Frm.of trivial,ch128,hs139,Fh,hm⟩
 refine Wp_exit<|Wp_seq<|Wp_region<|Rop<|op_fA 0 ty34 rfl ty31 rfl rfl<|Rop<|op_ld 2 ty31 hs112 rfl rfl rfl<|Rop<|op_build (vs:=[Sl Ad r_.variables Cd,Value.slice none 0 0]) (parts:=[(0,.tmp 129)]) ty34 pl34 rfl<|Rop<|op_alloc ty34 hs112 ?_
 intro b180 w181 _ p182 hs183
 refine Rg_op_<|op_stA .z ty34 hs183 rfl rfl rfl rfl rfl ?_
 intro w185 p186 hs187
 clear hs183
 refine Rg_nil<|Wp_seq<|Wp_region<|Mve (Value.int .u8 (place.toNat:Int)) rfl<|Rop<|op_conv_u8 Try.underlying5 Try.underlying3 rfl (by decide)<|Rop<|op_fA 0 ty26 rfl ty22 rfl rfl<|Rop<|op_ld 4 ty22 hs187 rfl rfl rfl<|Rop<|op_len Try.underlying22 rfl ?_
 have p189:=(p98.trans (hst113.trans (p182.trans p186)))
 replace Fa:=Fa.step p189
 have rl188:=inK_len Fa
 refine Rop<|op_fA 1 ty26 rfl ty23 rfl rfl<|Rop<|op_ld 4 ty23 hs187 rfl rfl rfl<|Rop<|op_len Try.underlying23 rfl ?_
 replace Fb:=Fb.step p189
 have rl190:=inK_len Fb
 refine Rop<|op_mulw rfl rfl ?_
 obtain⟨hc191,hm⟩:=ck_some hm
 refine Rop<|op_rem rfl rfl hc191<|Asg (Iv ((place.toNat:Int).tmod (IntKind.wrap .i64 ((p.cells.length:Int)*(p.capacity.length:Int))))) rfl<|Rg_nil<|Wp_seq<|Wp_seq<|Wp_region<|Rop<|op_fA 0 ty26 rfl ty22 rfl rfl<|Rop<|op_ld 4 ty22 hs187 rfl rfl rfl<|Rop<|op_len Try.underlying22 rfl ?_
 have rl192:=inK_len Fa
 refine Rop<|op_fA 1 ty26 rfl ty23 rfl rfl<|Rop<|op_ld 4 ty23 hs187 rfl rfl rfl<|Rop<|op_len Try.underlying23 rfl ?_
 have rl193:=inK_len Fb
 refine Rop<|op_mulw rfl rfl<|Mve (Iv 0) rfl<|Rg_nil<|Wp_block<|Wr [] [(4,(Value.int .u8 (less.toNat:Int))),(6,Pt b1 0),(7,Pt b6 0),(17,Pt b89 0),(23,Pt b180 0),(24,Iv ((place.toNat:Int).tmod (IntKind.wrap .i64 ((p.cells.length:Int)*(p.capacity.length:Int))))),(147,Iv (IntKind.wrap .i64 ((p.cells.length:Int)*(p.capacity.length:Int)))),(148,Iv 0)] fun ξ197=>?_
 have hs202:=hs187.ghost (Obj.cells #[] 45)
 refine Wp_loopM q4_7 (fun m fr w'=>∃(v_8:Int) (v_9:List XPlace) (Aj:Option Addr) (Cj:Nat) (k_g196:Option Nat) (o_g196:Obj) (Ebs:Ents),Ebs=[(k_g196,o_g196),(some b180,Oc [Sl Ad r_.variables Cd,Sl Aj v_9 Cj] 34),(k_g103,o_g103),(some b89,Oc [Sl Ah v_5 Ch,Sl Ae r_.places Ce] 34),(some b6,Oc [Sl Ad r_.variables Cd,Sl Ae r_.places Ce] 34),(some b1,Oc [Sl Aa p.cells Ca,Sl Ab p.capacity Cb,Sl Ac p.variables Cc] 26)]∧fr [] [(148,Iv v_8)]∧hs202.S (ks Ebs O) w'∧St ⟨w,[],[]⟩ O w' Ebs∧InK .i64 v_8∧Gs rXPlace 45 w' (ks Ebs O) Aj Cj v_9 k_g196 o_g196∧loop2 (m4_overflightlaw32_ReasonMore_B2 p r_ place less v_5) m v_8 v_9=some x) (((IntKind.wrap .i64 ((p.cells.length:Int)*(p.capacity.length:Int))) - 0).toNat+1) ⟨0,([]:List XPlace),none,0,none,Obj.cells #[] 45,_,rfl,Frm.of ⟨rfl,trivial⟩,Step.refl _ _,hs202,(show InK .i64 0 from by decide),Gs.nil_,hm⟩ ?_ ?_
 rintro _ _ ⟨_,_,_,_,_,_,_,_,_,_,_,_,_,hm⟩;exact loop2_z hm
 rintro m201 K200 hK200 ρ208 w204 ⟨v_8,v_9,Aj,Cj,k_g196,o_g196,_,rfl,hfr207,hst206,hs205,Rf,Fj,hm⟩
 obtain⟨sf198,hsf199,hm⟩:=loop2_s hm;unfold m4_overflightlaw32_ReasonMore_B2 at hm
 rw [hfr207.eq];clear hfr207
 have ch209:=hst206
 refine Wp_seq<|Wp_region<|Rop<|op_lss rfl rfl<|Rg_nil<|Wp_seq<|Wp_condM hm rfl (fun hc210 hm=>?_) (fun hc210 hm=>?_)
 refine Wp_skip<|Wr2 q4_7 [] (updL ⟨ξ197,[]⟩ [(4,(Value.int .u8 (less.toNat:Int))),(6,Pt b1 0),(7,Pt b6 0),(17,Pt b89 0),(23,Pt b180 0),(24,Iv ((place.toNat:Int).tmod (IntKind.wrap .i64 ((p.cells.length:Int)*(p.capacity.length:Int))))),(147,Iv (IntKind.wrap .i64 ((p.cells.length:Int)*(p.capacity.length:Int)))),(148,Iv 0)]) [(148,Iv v_8)] fun ξ211=>?_
 obtain⟨k213,hk214,hm⟩:=jn_elim hm
 refine Wp_seqJ q4_6 (fun fr w'=>∃(v_10:List XPlace) (Ak:Option Addr) (Ck:Nat) (k_g212:Option Nat) (o_g212:Obj) (Ebs:Ents),Ebs=[(k_g212,o_g212),(some b180,Oc [Sl Ad r_.variables Cd,Sl Ak v_10 Ck] 34),(k_g103,o_g103),(some b89,Oc [Sl Ah v_5 Ch,Sl Ae r_.places Ce] 34),(some b6,Oc [Sl Ad r_.variables Cd,Sl Ae r_.places Ce] 34),(some b1,Oc [Sl Aa p.cells Ca,Sl Ab p.capacity Cb,Sl Ac p.variables Cc] 26)]∧fr [] []∧hs205.S (ks Ebs O) w'∧St ⟨w,[],[]⟩ O w' Ebs∧Gs rXPlace 45 w' (ks Ebs O) Ak Ck v_10 k_g212 o_g212∧k213 v_10=some x) ?_ ?_
 rintro ρ220 w216 ⟨v_10,Ak,Ck,k_g212,o_g212,_,rfl,hfr219,hst218,hs217,Fk,hm⟩
 replace hm:=jnE1 hk214 hm
 rw [hfr219.eq];clear hfr219
 clear Fj
 refine Wp_region<|Rop<|op_addw rfl rfl<|Mve (Iv (IntKind.wrap .i64 (v_8+1))) rfl<|Rg_nil ?_
 replace ch209:=ch209.trans hst218
 exact hK200 _ _ ⟨(IntKind.wrap .i64 (v_8+1)),v_10,Ak,Ck,k_g212,o_g212,_,rfl,Frm.of ⟨rfl,trivial⟩,ch209,hs217,(inK_wrap .i64 _),Fk,jnE2 hsf199 hm⟩
 intro K215 hK215
 have ch221:=hs205.stepR
 refine Wp_block<|Wp_seq<|Wp_region<|Mve (Iv v_8) rfl<|Asg (Iv v_8) rfl<|Rg_nil<|Wp_seq<|Wp_drawR (g0:=[]) (m:=12) (fl:=[]) (TS_inv hs205) rfl (.inl rfl) rfl (by decide+kernel) ?_  -- 30
 refine Dw_p (Iv v_8) (fun _ _ _ hi ht=>op_move (v:=Iv v_8) (ht 25 rfl)<|Gz hi)<|Dw_p (Pt b1 0) (fun _ _ _ hi ht=>op_fA 0 ty26 rfl ty22 (ht 6 rfl) rfl<|Gz hi)<|Dw_p (Sl Aa p.cells Ca) (fun _ _ _ hi ht=>op_ld 5 ty22 (Step.nx hi).1 (ht 152 rfl) rfl rfl<|Gz hi)<|Dw_p (Iv (p.cells.length:Int)) (fun _ _ _ hi ht=>op_len Try.underlying22 (ht 153 rfl)<|Gz hi) ?_
 obtain⟨hc237,hm⟩:=ck_some hm
 refine Dw_p (Iv (IntKind.wrap .i64 (v_8.tdiv (p.cells.length:Int)))) (fun _ _ _ hi ht=>op_quo (ht 151 rfl) (ht 154 rfl) hc237<|Gz hi)<|Dw_p (Iv v_8) (fun _ _ _ hi ht=>op_move (v:=Iv v_8) (ht 25 rfl)<|Gz hi)<|Dw_p (Pt b1 0) (fun _ _ _ hi ht=>op_fA 0 ty26 rfl ty22 (ht 6 rfl) rfl<|Gz hi)<|Dw_p (Sl Aa p.cells Ca) (fun _ _ _ hi ht=>op_ld 5 ty22 (Step.nx hi).1 (ht 157 rfl) rfl rfl<|Gz hi)<|Dw_p (Iv (p.cells.length:Int)) (fun _ _ _ hi ht=>op_len Try.underlying22 (ht 158 rfl)<|Gz hi) ?_
 obtain⟨hc253,hm⟩:=ck_some hm
 refine Dw_p (Iv (v_8.tmod (p.cells.length:Int))) (fun _ _ _ hi ht=>op_rem (ht 156 rfl) (ht 159 rfl) hc253<|Gz hi)<|Dw_eq (Value.agg [Iv (IntKind.wrap .i64 (v_8.tdiv (p.cells.length:Int))),Iv (v_8.tmod (p.cells.length:Int))].toArray) (fun ρ254 w255 g hle hi ht=>?_) ?_
 refine StepOp_plain (op_build (vs:=[Iv (IntKind.wrap .i64 (v_8.tdiv (p.cells.length:Int))),Iv (v_8.tmod (p.cells.length:Int))]) (parts:=[(0,.tmp 155),(1,.tmp 160)]) ty45 pl45 (by simp only [List.map,(show ev _ (.tmp 155)=_ from(ht 155 rfl)),(show ev _ (.tmp 160)=_ from(ht 160 rfl))];rfl) ?_)
 exact Gz hi
 refine Dw_op (VN 26 (Obj.cells [Iv 0,Iv 0].toArray 45)) (VN.stab _ _) (fun ρ257 w258 g hle hi ht=>?_) ?_
 refine StepOp_plain<|op_alloc ty45 hi ?_
 intro b260 w261 hx264 p262 hs263;exact Goes.new hi p262 hs263 hx264
 refine Dw_nil fun w269 g270 hl271 hi272=>?_
 obtain⟨-,hst273,-⟩:=hl271
 rintro _ ⟨b276,rfl,h277⟩ _ rfl _ rfl _ rfl _ rfl _ rfl _ rfl _ rfl _ rfl _ rfl _ rfl _ rfl
 obtain⟨hs275,p274⟩:=Step.nx1 hi272 h277
 have p279:=hs205.to hs275 (hst273.trans p274)
 refine Rg_op_<|op_stA .z ty45 hs275 rfl rfl rfl rfl rfl ?_
 intro w280 p281 hs282
 clear hs275
 refine Rg_nil<|Wp_seq<|Wp_region<|Mve (Iv v_8) rfl<|Mve (Iv ((place.toNat:Int).tmod (IntKind.wrap .i64 ((p.cells.length:Int)*(p.capacity.length:Int))))) rfl<|Rop<|op_eql rfl rfl<|Asg (Bo (decide (v_8=((place.toNat:Int).tmod (IntKind.wrap .i64 ((p.cells.length:Int)*(p.capacity.length:Int))))))) rfl<|Rg_nil<|Wp_seq<|Wp_seq<|Wp_region<|Rop<|op_fA 1 ty34 rfl ty32 rfl rfl<|Rop<|op_ld 5 ty32 hs282 rfl rfl rfl<|Rop<|op_len Try.underlying32 rfl ?_
 have p284:=(p68.trans (p69.trans (hst83.trans (p91.trans (p95.trans (hst113.trans (p182.trans (p186.trans (hst206.trans (p279.trans p281))))))))))
 replace Fe:=Fe.step p284
 have rl283:=inK_len Fe
 refine Mve (Iv 0) rfl<|Rg_nil<|Wp_block<|Wr2 q4_6 [] (updL (mix q4_7 [] ξ211 (updL ⟨ξ197,[]⟩ [(4,(Value.int .u8 (less.toNat:Int))),(6,Pt b1 0),(7,Pt b6 0),(17,Pt b89 0),(23,Pt b180 0),(24,Iv ((place.toNat:Int).tmod (IntKind.wrap .i64 ((p.cells.length:Int)*(p.capacity.length:Int))))),(147,Iv (IntKind.wrap .i64 ((p.cells.length:Int)*(p.capacity.length:Int)))),(148,Iv 0)])) [(148,Iv v_8)]) [(26,Pt b276 0),(27,Bo (decide (v_8=((place.toNat:Int).tmod (IntKind.wrap .i64 ((p.cells.length:Int)*(p.capacity.length:Int))))))),(166,Sl Ae r_.places Ce),(167,Iv (r_.places.length:Int)),(168,Iv 0)] fun ξ287=>Wp_loopM q4_5 (fun m fr w'=>∃(is_2:Bool) (v_11:Int) (Ebs:Ents),Ebs=[(some b276,Oc [Iv (IntKind.wrap .i64 (v_8.tdiv (p.cells.length:Int))),Iv (v_8.tmod (p.cells.length:Int))] 45),(k_g196,o_g196),(some b180,Oc [Sl Ad r_.variables Cd,Sl Aj v_9 Cj] 34),(k_g103,o_g103),(some b89,Oc [Sl Ah v_5 Ch,Sl Ae r_.places Ce] 34),(some b6,Oc [Sl Ad r_.variables Cd,Sl Ae r_.places Ce] 34),(some b1,Oc [Sl Aa p.cells Ca,Sl Ab p.capacity Cb,Sl Ac p.variables Cc] 26)]∧fr [] [(27,Bo is_2),(168,Iv v_11)]∧hs282.S (ks Ebs O) w'∧St ⟨w,[],[]⟩ O w' Ebs∧InK .i64 v_11∧loop2 (m4_overflightlaw32_ReasonMore_B3 p r_ v_8 v_9 k213) m is_2 v_11=some x) (((r_.places.length:Int) - 0).toNat+1) ⟨decide (v_8=((place.toNat:Int).tmod (IntKind.wrap .i64 ((p.cells.length:Int)*(p.capacity.length:Int))))),0,_,rfl,Frm.of ⟨rfl,rfl,trivial⟩,Step.refl _ _,hs282,(show InK .i64 0 from by decide),hm⟩ ?_ ?_
 rintro _ _ ⟨_,_,_,_,_,_,_,_,hm⟩;exact loop2_z hm
 rintro m291 K290 hK290 ρ296 w292 ⟨is_2,v_11,_,rfl,hfr295,hst294,hs293,Rg,hm⟩
 obtain⟨sf288,hsf289,hm⟩:=loop2_s hm;unfold m4_overflightlaw32_ReasonMore_B3 at hm
 rw [hfr295.eq];clear hfr295
 have ch297:=hst294
 refine Wp_seq<|Wp_region<|Rop<|op_lss rfl rfl<|Rg_nil<|Wp_seq<|Wp_condM hm rfl (fun hc298 hm=>?_) (fun hc298 hm=>?_)
 refine Wp_skip<|Wp_seq<|Wp_block<|Wp_seq<|Wp_region ?_
 obtain⟨hc299,hm⟩:=ck_some hm
 replace Fe:=Fe.step hst294
 refine Rop<|op_indexAddr (q:=rXPlace) ty32 ty45 rfl rfl Fe rfl hc299.1 hc299.2 ?_
 intro p300 f301
 refine Rop<|op_loadPA ty45 rfl f301 rfl ?_
 intro vs302 h303
 obtain⟨_,_,rfl,⟨rfl,Rh⟩,⟨rfl,Ri⟩⟩:=h303
 refine Rop<|op_alloc ty45 hs293 ?_
 intro b305 w306 _ p307 hs308
 clear hs293
 refine Rg_op_<|op_stA .z ty45 hs308 rfl rfl rfl rfl rfl ?_
 intro w310 p311 hs312
 clear hs308
 refine Rg_nil ?_
 clear f301
 refine Wp_region<|Mve (Bo is_2) rfl<|Mve (Bo is_2) rfl<|Rg_caseM hm (fun hg313 hm=>?_) (fun hg313 hm=>?_)
 iterate 3 refine Rg_opx rfl (asB_ne rfl rfl) rfl ?_
 refine Pkt (Bo true) rfl rfl<|Asg (Bo true) rfl<|Rg_nil<|Wp_region<|Rop<|op_addw rfl rfl<|Mve (Iv (IntKind.wrap .i64 (v_11+1))) rfl<|Rg_nil ?_
 have hs314:=hs312.drop 0
 have p315:=(hs312.dropS 0)
 clear hs312
 have p316:=(p307.trans (p311.trans p315))
 replace ch297:=ch297.trans p316
 exact hK290 _ _ ⟨true,(IntKind.wrap .i64 (v_11+1)),_,rfl,Frm.of ⟨rfl,rfl,trivial⟩,ch297,hs314,(inK_wrap .i64 _),jnE2 hsf289 hm⟩
 refine Rog rfl rfl<|op_ldA 1 ty45 hs312 rfl rfl rfl<|Rog rfl rfl<|op_ldA 0 ty45 hs312 rfl rfl rfl<|Rog rfl rfl<|op_eqlA (c:=decide ((⟨(IntKind.wrap .i64 (v_8.tdiv (p.cells.length:Int))),v_8.tmod (p.cells.length:Int)⟩:XPlace)=(r_.places.getD v_11.toNat default))) rfl rfl eqg45 (eqv45 9998 (⟨(IntKind.wrap .i64 (v_8.tdiv (p.cells.length:Int))),v_8.tmod (p.cells.length:Int)⟩:XPlace) (r_.places.getD v_11.toNat default) _)<|Pkf (Bo (decide ((⟨(IntKind.wrap .i64 (v_8.tdiv (p.cells.length:Int))),v_8.tmod (p.cells.length:Int)⟩:XPlace)=(r_.places.getD v_11.toNat default)))) rfl rfl<|Asg (Bo (decide ((⟨(IntKind.wrap .i64 (v_8.tdiv (p.cells.length:Int))),v_8.tmod (p.cells.length:Int)⟩:XPlace)=(r_.places.getD v_11.toNat default)))) rfl<|Rg_nil<|Wp_region<|Rop<|op_addw rfl rfl<|Mve (Iv (IntKind.wrap .i64 (v_11+1))) rfl<|Rg_nil ?_
 have hs317:=hs312.drop 0
 have p318:=(hs312.dropS 0)
 clear hs312
 have p319:=(p307.trans (p311.trans p318))
 replace ch297:=ch297.trans p319
 exact hK290 _ _ ⟨decide ((⟨(IntKind.wrap .i64 (v_8.tdiv (p.cells.length:Int))),v_8.tmod (p.cells.length:Int)⟩:XPlace)=(r_.places.getD v_11.toNat default)),(IntKind.wrap .i64 (v_11+1)),_,rfl,Frm.of ⟨rfl,rfl,trivial⟩,ch297,hs317,(inK_wrap .i64 _),jnE2 hsf289 hm⟩
 refine Wp_exit<|Wp_seq<|Wp_region<|Mve (Bo is_2) rfl<|Rg_nil<|Wp_condM hm rfl (fun hc320 hm=>?_) (fun hc320 hm=>?_)
 refine Wp_region<|Rop<|op_fA 1 ty34 rfl ty32 rfl rfl<|Rop<|op_ld 2 ty32 hs293 rfl rfl rfl<|Rop<|op_ldA 0 ty45 hs293 rfl rfl rfl<|Rop<|op_buildSlice (cs:=[Iv (IntKind.wrap .i64 (v_8.tdiv (p.cells.length:Int))),Iv (v_8.tmod (p.cells.length:Int))]) (parts:=[(0,.tmp 182)]) ty32 ty45 hs293 (by decide) rfl ?_
 intro b321 w322 hx325 p323 hs324
 clear hs293
 obtain⟨hc327,hm⟩:=ck_some hm
 have p336:=(p279.trans (p281.trans (hst294.trans p323)))
 replace Fj:=Fj.step p336
 refine Rop (op_append (q:=rXPlace) (i:=2) (xs:=v_9) (ys:=[(⟨(IntKind.wrap .i64 (v_8.tdiv (p.cells.length:Int))),v_8.tmod (p.cells.length:Int)⟩:XPlace)]) (news:=[Iv (IntKind.wrap .i64 (v_8.tdiv (p.cells.length:Int))),Iv (v_8.tmod (p.cells.length:Int))]) ty32 ty45 rfl (by decide) hs324 rfl rfl Fj rfl (Src.owned' (len:=2) (hs324.get (i:=0) rfl) rfl) (show Els rXPlace _ _ [Iv (IntKind.wrap .i64 (v_8.tdiv (p.cells.length:Int))),Iv (v_8.tmod (p.cells.length:Int))] [(⟨(IntKind.wrap .i64 (v_8.tdiv (p.cells.length:Int))),v_8.tmod (p.cells.length:Int)⟩:XPlace)] from⟨_,_,rfl,mkVia (mk_pair (mk_int (inK_wrap .i64 _)) (mk_int (inK_tmod Rf))),Els.nil⟩) hc327 (by have:=hc327;simp only [maxLen];omega) ?_)
 intro a331 c332 k333 o334 w328 p329 hs330 f335
 clear hs324
 have hs337:=hs330.drop 0
 have p338:=(hs330.dropS 0)
 clear hs330
 refine Rop<|op_fA 1 ty34 rfl ty32 rfl rfl<|Rg_op_<|op_stC (Sl a331 (v_9++[(⟨(IntKind.wrap .i64 (v_8.tdiv (p.cells.length:Int))),v_8.tmod (p.cells.length:Int)⟩:XPlace)]) c332) (cs':=[Sl Ad r_.variables Cd,Sl a331 (v_9++[(⟨(IntKind.wrap .i64 (v_8.tdiv (p.cells.length:Int))),v_8.tmod (p.cells.length:Int)⟩:XPlace)]) c332]) Put.p2 ty32 hs337 rfl rfl rfl (le_lit rfl) rfl rfl ?_
 intro w339 p340 hs341
 clear hs337
 refine Rg_nil ?_
 have hs342:=hs341.drop 0
 have p343:=(hs341.dropS 0)
 clear hs341
 have p344:=(p336.trans (p329.trans (p338.trans (p340.trans p343))))
 replace ch221:=ch221.trans p344
 replace f335:=f335.step (p338.trans (p340.trans p343))
 exact hK215 _ _ ⟨v_9++[(⟨(IntKind.wrap .i64 (v_8.tdiv (p.cells.length:Int))),v_8.tmod (p.cells.length:Int)⟩:XPlace)],a331,c332,k333,o334,_,rfl,Frm.of trivial,ch221,hs342,f335,hm⟩
 refine Wp_skip ?_
 have hs345:=hs293.drop 0
 have p346:=(hs293.dropS 0)
 clear hs293
 have p347:=(p279.trans (p281.trans (hst294.trans p346)))
 replace ch221:=ch221.trans p347;replace Fj:=Fj.step p347
 exact hK215 _ _ ⟨v_9,Aj,Cj,k_g196,o_g196,_,rfl,Frm.of trivial,ch221,hs345,Fj,hm⟩
 refine Wp_exit<|Wp_seq<|Wp_region<|Rop<|op_ldA 5 ty26 hs205 rfl rfl rfl<|Rop<|op_alloc ty26 hs205 ?_
 intro b348 w349 _ p350 hs351
 refine Rg_op_<|op_stA .z ty26 hs351 rfl rfl rfl rfl rfl ?_
 intro w353 p354 hs355
 clear hs351
 refine Rg_nil<|Wp_seq<|Wp_region<|Rop<|op_fA 1 ty26 rfl ty23 rfl rfl<|Rg_op_<|op_stC (Value.slice none 0 0) (cs':=[Sl Aa p.cells Ca,Value.slice none 0 0,Sl Ac p.variables Cc]) .z ty23 hs355 rfl rfl rfl (le_lit rfl) rfl rfl ?_
 intro w356 p357 hs358
 clear hs355
 refine Rg_nil<|Wp_seq<|Wp_seq<|Wp_region<|Rop<|op_fA 1 ty26 rfl ty23 rfl rfl<|Rop<|op_ld 6 ty23 hs358 rfl rfl rfl<|Rop<|op_len Try.underlying23 rfl ?_
 have p360:=(hst206.trans (p350.trans (p354.trans p357)))
 replace Fb:=Fb.step p360
 have rl359:=inK_len Fb
 refine Mve (Iv 0) rfl<|Rg_nil<|Wp_block<|Wr [] [(4,(Value.int .u8 (less.toNat:Int))),(6,Pt b1 0),(7,Pt b6 0),(17,Pt b89 0),(23,Pt b180 0),(24,Iv ((place.toNat:Int).tmod (IntKind.wrap .i64 ((p.cells.length:Int)*(p.capacity.length:Int))))),(30,Pt b348 0),(190,Sl Ab p.capacity Cb),(191,Iv (p.capacity.length:Int)),(192,Iv 0)] fun ξ364=>?_
 have hs369:=hs358.ghost (Obj.cells #[] 31)
 refine Wp_loopM q4_9 (fun m fr w'=>∃(v_12:Int) (v_13:List (List Int)) (Al:Option Addr) (Cl:Nat) (k_g363:Option Nat) (o_g363:Obj) (Ebs:Ents),Ebs=[(k_g363,o_g363),(some b348,Oc [Sl Aa p.cells Ca,Sl Al v_13 Cl,Sl Ac p.variables Cc] 26),(k_g196,o_g196),(some b180,Oc [Sl Ad r_.variables Cd,Sl Aj v_9 Cj] 34),(k_g103,o_g103),(some b89,Oc [Sl Ah v_5 Ch,Sl Ae r_.places Ce] 34),(some b6,Oc [Sl Ad r_.variables Cd,Sl Ae r_.places Ce] 34),(some b1,Oc [Sl Aa p.cells Ca,Sl Ab p.capacity Cb,Sl Ac p.variables Cc] 26)]∧fr [] [(192,Iv v_12)]∧hs369.S (ks Ebs O) w'∧St ⟨w,[],[]⟩ O w' Ebs∧InK .i64 v_12∧Gs (rSl (rInt .i64)) 31 w' (ks Ebs O) Al Cl v_13 k_g363 o_g363∧loop2 (m4_overflightlaw32_ReasonMore_B4 p r_ place less v_5 v_9) m v_12 v_13=some x) (((p.capacity.length:Int) - 0).toNat+1) ⟨0,([]:List (List Int)),none,0,none,Obj.cells #[] 31,_,rfl,Frm.of ⟨rfl,trivial⟩,Step.refl _ _,hs369,(show InK .i64 0 from by decide),Gs.nil_,hm⟩ ?_ ?_
 rintro _ _ ⟨_,_,_,_,_,_,_,_,_,_,_,_,_,hm⟩;exact loop2_z hm
 rintro m368 K367 hK367 ρ375 w371 ⟨v_12,v_13,Al,Cl,k_g363,o_g363,_,rfl,hfr374,hst373,hs372,Rj,Fl,hm⟩
 obtain⟨sf365,hsf366,hm⟩:=loop2_s hm;unfold m4_overflightlaw32_ReasonMore_B4 at hm
 rw [hfr374.eq];clear hfr374
 have ch376:=hst373
 refine Wp_seq<|Wp_region<|Rop<|op_lss rfl rfl<|Rg_nil<|Wp_seq<|Wp_condM hm rfl (fun hc377 hm=>?_) (fun hc377 hm=>?_)
 refine Wp_skip<|Wp_seq<|Wp_block<|Wp_seq<|Wp_region<|Mve (Iv v_12) rfl ?_
 obtain⟨hc378,hm⟩:=ck_some hm
 replace Fb:=Fb.step hst373
 refine Rop<|op_indexAddr (q:=rSl (rInt .i64)) ty23 ty31 rfl rfl Fb rfl hc378.1 hc378.2 ?_
 intro p379 f380
 refine Rop<|op_loadP ty31 rfl f380 rfl ?_
 intro v381 h382
 obtain⟨Am,Cm,rfl,Fm⟩:=un_sl h382
 refine Asg (Iv v_12) rfl<|Asg (Sl Am (p.capacity.getD v_12.toNat default) Cm) rfl<|Rg_nil<|Wp_seq ?_
 clear f380
 refine Wp_region<|Rop<|op_buildSlice (cs:=[]) (parts:=[]) ty31 ty3 hs372 (by decide) rfl ?_
 intro b384 w385 hx388 p386 hs387
 clear hs372
 refine Mve (Sl Am (p.capacity.getD v_12.toNat default) Cm) rfl ?_
 have f390:=Gs.of_cells (p:=(rInt .i64)) (e:=3) (bl:=b384) (c:=0) (w:=w385) (O:=ks [(some b384,Oc [] 3),(k_g363,o_g363),(some b348,Oc [Sl Aa p.cells Ca,Sl Al v_13 Cl,Sl Ac p.variables Cc] 26),(k_g196,o_g196),(some b180,Oc [Sl Ad r_.variables Cd,Sl Aj v_9 Cj] 34),(k_g103,o_g103),(some b89,Oc [Sl Ah v_5 Ch,Sl Ae r_.places Ce] 34),(some b6,Oc [Sl Ad r_.variables Cd,Sl Ae r_.places Ce] 34),(some b1,Oc [Sl Aa p.cells Ca,Sl Ab p.capacity Cb,Sl Ac p.variables Cc] 26)] O) (show Els (rInt .i64) _ _ [] [] from Els.nil) rfl (le_lit rfl)
 obtain⟨hc391,hm⟩:=ck_some hm
 replace Fm:=Fm.step p386
 obtain⟨ns392,he393,hr394⟩:=Fm.src
 refine Rop (op_append (q:=(rInt .i64)) (i:=0) (xs:=([]:List Int)) (ys:=p.capacity.getD v_12.toNat default) (news:=ns392) ty31 ty3 rfl (by decide) hs387 rfl rfl f390 rfl hr394 he393 hc391 (by have:=hc391;simp only [maxLen];omega) ?_)
 intro a398 c399 k400 o401 w395 p396 hs397 f402
 clear hs387
 refine Asg (Sl a398 (([]:List Int)++(p.capacity.getD v_12.toNat default)) c399) rfl<|Rg_nil<|Wp_seq<|Wp_seq ?_
 clear Fm
 refine Wp_region<|Mve (Sl a398 (([]:List Int)++(p.capacity.getD v_12.toNat default)) c399) rfl<|Rop<|op_len Try.underlying31 rfl ?_
 have rl403:=inK_lenG f402
 refine Mve (Iv 0) rfl<|Rg_nil<|Wp_block<|Wr2 q4_9 [] (updL ⟨ξ364,[]⟩ [(4,(Value.int .u8 (less.toNat:Int))),(6,Pt b1 0),(7,Pt b6 0),(17,Pt b89 0),(23,Pt b180 0),(24,Iv ((place.toNat:Int).tmod (IntKind.wrap .i64 ((p.cells.length:Int)*(p.capacity.length:Int))))),(30,Pt b348 0),(190,Sl Ab p.capacity Cb),(191,Iv (p.capacity.length:Int)),(192,Iv 0)]) [(31,Iv v_12),(32,Sl a398 (([]:List Int)++(p.capacity.getD v_12.toNat default)) c399),(192,Iv v_12),(201,Iv ((([]:List Int)++(p.capacity.getD v_12.toNat default)).length:Int)),(202,Iv 0)] fun ξ406=>Wp_loopM q4_8 (fun m fr w'=>∃(l_1:List Int) (v_14:Int) (An:Option Addr) (Cn:Nat) (k_g404:Option Nat) (o_g404:Obj) (Ebs:Ents),Ebs=[(k_g404,o_g404),(k_g363,o_g363),(some b348,Oc [Sl Aa p.cells Ca,Sl Al v_13 Cl,Sl Ac p.variables Cc] 26),(k_g196,o_g196),(some b180,Oc [Sl Ad r_.variables Cd,Sl Aj v_9 Cj] 34),(k_g103,o_g103),(some b89,Oc [Sl Ah v_5 Ch,Sl Ae r_.places Ce] 34),(some b6,Oc [Sl Ad r_.variables Cd,Sl Ae r_.places Ce] 34),(some b1,Oc [Sl Aa p.cells Ca,Sl Ab p.capacity Cb,Sl Ac p.variables Cc] 26)]∧fr [] [(32,Sl An l_1 Cn),(202,Iv v_14)]∧hs397.S (ks Ebs O) w'∧St ⟨w,[],[]⟩ O w' Ebs∧Gs (rInt .i64) 3 w' (ks Ebs O) An Cn l_1 k_g404 o_g404∧InK .i64 v_14∧loop2 (m4_overflightlaw32_ReasonMore_B5 p place less v_12 v_13 sf365) m l_1 v_14=some x) ((((([]:List Int)++(p.capacity.getD v_12.toNat default)).length:Int) - 0).toNat+1) ⟨([]:List Int)++(p.capacity.getD v_12.toNat default),0,a398,c399,k400,o401,_,rfl,Frm.of ⟨rfl,rfl,trivial⟩,Step.refl _ _,hs397,f402,(show InK .i64 0 from by decide),hm⟩ ?_ ?_
 rintro _ _ ⟨_,_,_,_,_,_,_,_,_,_,_,_,_,hm⟩;exact loop2_z hm
 rintro m410 K409 hK409 ρ415 w411 ⟨l_1,v_14,An,Cn,k_g404,o_g404,_,rfl,hfr414,hst413,hs412,Fn,Rk,hm⟩
 obtain⟨sf407,hsf408,hm⟩:=loop2_s hm;unfold m4_overflightlaw32_ReasonMore_B5 at hm
 rw [hfr414.eq];clear hfr414
 have ch416:=hst413
 refine Wp_seq ?_
 clear f402
 refine Wp_region<|Rop<|op_lss rfl rfl<|Rg_nil<|Wp_seq<|Wp_condM hm rfl (fun hc417 hm=>?_) (fun hc417 hm=>?_)
 refine Wp_skip<|Wp_seq<|Wp_block<|Wp_seq<|Wp_region<|Mve (Iv v_14) rfl<|Asg (Iv v_14) rfl<|Rg_nil<|Wp_seq<|Wp_region<|Mve (Iv v_12) rfl<|Mve (Sl An l_1 Cn) rfl<|Rop<|op_len Try.underlying31 rfl ?_
 have rl418:=inK_lenG Fn
 refine Rop<|op_mulw rfl rfl<|Mve (Iv v_14) rfl<|Rop<|op_addw rfl rfl<|Mve (Iv ((place.toNat:Int).tmod (IntKind.wrap .i64 ((p.cells.length:Int)*(p.capacity.length:Int))))) rfl<|Rop<|op_eql rfl rfl<|Rg_nil<|Wp_condM hm rfl (fun hc419 hm=>?_) (fun hc419 hm=>?_)
 refine Wp_region<|Mve (Sl An l_1 Cn) rfl<|Mve (Iv v_14) rfl<|Mve (Sl An l_1 Cn) rfl<|Mve (Iv v_14) rfl ?_
 obtain⟨hc420,hm⟩:=ck_some hm
 refine Rop<|op_indexAddrG ty31 ty3 rfl rfl Fn hc420 ?_
 rintro b421 rfl rfl
 refine Rop<|op_loadG (m:=v_14) (i:=0) ty3 rfl hs412 rfl rfl Fn hc420 ?_
 intro v422 h423
 obtain⟨rfl,Rl⟩:=un_int h423
 refine Mve (Value.int .u8 (less.toNat:Int)) rfl<|Rop<|op_conv_u8 Try.underlying5 Try.underlying3 rfl (by decide)<|Rop<|op_subw rfl rfl<|Rop<|op_max rfl rfl ?_
 obtain⟨hc425,hm⟩:=ck_some hm
 refine Rop<|op_indexAddrG ty31 ty3 rfl rfl Fn hc425 ?_
 rintro _ ⟨⟩ -
 refine Rg_op_<|op_storeG (vs:=[Iv (max (IntKind.wrap .i64 ((l_1.getD v_14.toNat default) - (less.toNat:Int))) 0)]) (i:=0) (m:=v_14) ty3 rfl hs412 rfl rfl rfl rfl Fn hc425 (mk_int (inK_max (inK_wrap .i64 _) (show InK .i64 0 from by decide))) ?_
 intro w427 o430 p428 hs429 f431
 clear hs412
 refine Rg_nil<|Wp_region<|Rop<|op_addw rfl rfl<|Mve (Iv (IntKind.wrap .i64 (v_14+1))) rfl<|Rg_nil ?_
 replace ch416:=ch416.trans p428
 exact hK409 _ _ ⟨l_1.set v_14.toNat (max (IntKind.wrap .i64 ((l_1.getD v_14.toNat default) - (less.toNat:Int))) 0),(IntKind.wrap .i64 (v_14+1)),some ⟨b421,0,none⟩,Cn,some b421,o430,_,rfl,Frm.of ⟨eqlenV (show l_1.length=(l_1.set v_14.toNat (max (IntKind.wrap .i64 ((l_1.getD v_14.toNat default) - (less.toNat:Int))) 0)).length from by first |(simp;done) |(simp;omega)),rfl,trivial⟩,ch416,hs429,f431,(inK_wrap .i64 _),jnE2 hsf408 hm⟩
 exact Wp_skip<|Wp_region<|Rop<|op_addw rfl rfl<|Mve (Iv (IntKind.wrap .i64 (v_14+1))) rfl<|Rg_nil<|hK409 _ _ ⟨l_1,(IntKind.wrap .i64 (v_14+1)),An,Cn,k_g404,o_g404,_,rfl,Frm.of ⟨rfl,rfl,trivial⟩,ch416,hs412,Fn,(inK_wrap .i64 _),jnE2 hsf408 hm⟩
 refine Wp_exit<|Wp_region<|Rop<|op_fA 1 ty26 rfl ty23 rfl rfl<|Rop<|op_ld 2 ty23 hs412 rfl rfl rfl<|Mve (Sl An l_1 Cn) rfl ?_
 obtain⟨hs433,p434,f432⟩:=Gs.publish (i:=0) hs412 rfl Fn
 clear hs412
 refine Rop<|op_buildSlice (cs:=[Sl An l_1 Cn]) (parts:=[(0,.tmp 227)]) ty23 ty31 hs433 (by decide) rfl ?_
 intro b435 w436 hx439 p437 hs438
 clear hs433
 obtain⟨hc441,hm⟩:=ck_some hm
 replace f432:=f432.step p437
 have p450:=(p386.trans (p396.trans (hst413.trans (p434.trans p437))))
 replace Fl:=Fl.step p450
 refine Rop (op_append (q:=rSl (rInt .i64)) (i:=1) (xs:=v_13) (ys:=[l_1]) (news:=[Sl An l_1 Cn]) ty23 ty31 rfl (by decide) hs438 rfl rfl Fl rfl (Src.owned' (len:=1) (hs438.get (i:=0) rfl) rfl) (show Els (rSl (rInt .i64)) _ _ [Sl An l_1 Cn] [l_1] from⟨_,_,rfl,mk_sl f432,Els.nil⟩) hc441 (by have:=hc441;simp only [maxLen];omega) ?_)
 intro a445 c446 k447 o448 w442 p443 hs444 f449
 clear hs438
 have hs451:=hs444.drop 0
 have p452:=(hs444.dropS 0)
 clear hs444
 refine Rop<|op_fA 1 ty26 rfl ty23 rfl rfl<|Rg_op_<|op_stC (Sl a445 (v_13++[l_1]) c446) (cs':=[Sl Aa p.cells Ca,Sl a445 (v_13++[l_1]) c446,Sl Ac p.variables Cc]) Put.p1 ty23 hs451 rfl rfl rfl (le_lit rfl) rfl rfl ?_
 intro w453 p454 hs455
 clear hs451
 refine Rg_nil ?_
 clear f432
 refine Wp_region<|Rop<|op_addw rfl rfl<|Mve (Iv (IntKind.wrap .i64 (v_12+1))) rfl<|Rg_nil ?_
 have p456:=(p450.trans (p443.trans (p452.trans p454)))
 replace ch376:=ch376.trans p456
 replace f449:=f449.step (p452.trans p454)
 exact hK367 _ _ ⟨(IntKind.wrap .i64 (v_12+1)),v_13++[l_1],a445,c446,k447,o448,_,rfl,Frm.of ⟨rfl,trivial⟩,ch376,hs455,(inK_wrap .i64 _),f449,jnE2 hsf366 hm⟩
 refine Wp_exit<|Wp_seq<|Wp_region<|Rop<|op_ldA 7 ty26 hs372 rfl rfl rfl<|Rop<|op_ldA 5 ty34 hs372 rfl rfl rfl ?_
 have p460:=(p182.trans (p186.trans (hst206.trans (p350.trans (p354.trans (p357.trans hst373))))))
 replace Fh:=Fh.step p460
 obtain⟨hs458,p459,f457⟩:=Gs.publish (i:=4) hs372 rfl Fh
 clear hs372
 obtain⟨proves_2,hv461,hm⟩:=bd hm
 replace Fb:=Fb.step (hst373.trans p459)
 replace Fa:=Fa.step (p360.trans (hst373.trans p459))
 replace Fc:=Fc.step (hst113.trans (p182.trans (p186.trans (hst206.trans (p350.trans (p354.trans (p357.trans (hst373.trans p459))))))))
 have p467:=(p68.trans (p69.trans (hst83.trans (p91.trans (p95.trans (hst113.trans (p182.trans (p186.trans (hst206.trans (p350.trans (p354.trans (p357.trans (hst373.trans p459)))))))))))))
 replace Fe:=Fe.step p467
 refine Rop<|op_callE hs458 Try.call17 (c17_reason_Proves (p:=p) (r_:=(⟨v_5,r_.places⟩:XReason)) hs458.ltw Fa Fb Fc f457 Fe hv461) rfl ?_
 rintro v462 w463 p468 hs466 h465
 clear hs458
 obtain⟨v469,v470,rfl,h471,h472⟩:=h465
 obtain rfl:=h471
 obtain⟨rfl,Rm⟩:=h472
 refine Mve (Value.tuple [Bo proves_2.1,Iv proves_2.2].toArray) rfl<|Rop<|op_extract (v:=Bo proves_2.1) rfl rfl<|Rop<|op_extract (v:=Iv proves_2.2) rfl rfl<|Asg (Bo proves_2.1) rfl<|Asg (Iv proves_2.2) rfl<|Rg_nil<|Wp_seq ?_
 obtain⟨hs475,p476⟩:=hs466.sub (bs':=[(k_g363,o_g363),(some b348,Oc [Sl Aa p.cells Ca,Sl Al v_13 Cl,Sl Ac p.variables Cc] 26),(k_g196,o_g196),(some b180,Oc [Sl Ad r_.variables Cd,Sl Aj v_9 Cj] 34),(some b6,Oc [Sl Ad r_.variables Cd,Sl Ae r_.places Ce] 34),(some b1,Oc [Sl Aa p.cells Ca,Sl Ab p.capacity Cb,Sl Ac p.variables Cc] 26)]) (.cons_cons _ (.cons_cons _ (.cons_cons _ (.cons_cons _ (.cons _ (.cons_cons _ (.cons_cons _ List.Sublist.slnil)))))))
 clear f457
 clear hs466
 refine Wp_region<|Rop<|op_ldA 5 ty26 hs475 rfl rfl rfl<|Rop<|op_ldA 3 ty34 hs475 rfl rfl rfl ?_
 have p480:=(p350.trans (p354.trans (p357.trans (hst373.trans (p459.trans (p468.trans p476))))))
 replace Fj:=Fj.step p480
 obtain⟨hs478,p479,f477⟩:=Gs.publish (i:=2) hs475 rfl Fj
 clear hs475
 obtain⟨proves_3,hv481,hm⟩:=bd hm
 have p487:=(p468.trans (p476.trans p479))
 replace Fb:=Fb.step p487;replace Fa:=Fa.step p487;replace Fc:=Fc.step p487
 replace Fd:=Fd.step (p467.trans (p468.trans (p476.trans p479)))
 refine Rop<|op_callE hs478 Try.call17 (c17_reason_Proves (p:=p) (r_:=(⟨r_.variables,v_9⟩:XReason)) hs478.ltw Fa Fb Fc Fd f477 hv481) rfl ?_
 rintro v482 w483 p488 hs486 h485
 clear hs478
 obtain⟨v489,v490,rfl,h491,h492⟩:=h485
 obtain rfl:=h491
 obtain⟨rfl,Rn⟩:=h492
 refine Mve (Value.tuple [Bo proves_3.1,Iv proves_3.2].toArray) rfl<|Rop<|op_extract (v:=Bo proves_3.1) rfl rfl<|Rop<|op_extract (v:=Iv proves_3.2) rfl rfl<|Asg (Bo proves_3.1) rfl<|Asg (Iv proves_3.2) rfl<|Rg_nil<|Wp_seq ?_
 obtain⟨hs495,p496⟩:=hs486.sub (bs':=[(k_g363,o_g363),(some b348,Oc [Sl Aa p.cells Ca,Sl Al v_13 Cl,Sl Ac p.variables Cc] 26),(some b6,Oc [Sl Ad r_.variables Cd,Sl Ae r_.places Ce] 34)]) (.cons_cons _ (.cons_cons _ (.cons _ (.cons_cons _ (.cons _ List.Sublist.slnil)))))
 clear Fb f477
 clear hs486
 refine Wp_region<|Rop<|op_ldA 1 ty26 hs495 rfl rfl rfl<|Rop<|op_ldA 2 ty34 hs495 rfl rfl rfl ?_
 have p500:=(p459.trans (p468.trans (p476.trans (p479.trans (p488.trans p496)))))
 replace Fl:=Fl.step p500
 obtain⟨hs498,p499,f497⟩:=Gs.publish (i:=0) hs495 rfl Fl
 clear hs495
 obtain⟨proves_4,hv501,hm⟩:=bd hm
 have p507:=(p488.trans (p496.trans p499))
 replace Fa:=Fa.step p507;replace Fc:=Fc.step p507
 replace Fe:=Fe.step (p487.trans (p488.trans (p496.trans p499)));replace Fd:=Fd.step p507
 refine Rop<|op_callE hs498 Try.call17 (c17_reason_Proves (p:=(⟨p.cells,v_13,p.variables⟩:XProblem)) (r_:=r_) hs498.ltw Fa f497 Fc Fd Fe hv501) rfl ?_
 rintro v502 w503 p508 hs506 h505
 clear hs498
 obtain⟨v509,v510,rfl,h511,h512⟩:=h505
 obtain rfl:=h511
 obtain⟨rfl,Ro⟩:=h512
 refine Mve (Value.tuple [Bo proves_4.1,Iv proves_4.2].toArray) rfl<|Rop<|op_extract (v:=Bo proves_4.1) rfl rfl<|Rop<|op_extract (v:=Iv proves_4.2) rfl rfl<|Asg (Bo proves_4.1) rfl<|Asg (Iv proves_4.2) rfl<|Rg_nil<|Wr [] [(34,Bo proves_2.1),(35,Iv proves_2.2),(36,Bo proves_3.1),(37,Iv proves_3.2),(38,Bo proves_4.1),(39,Iv proves_4.2)] fun ξ515=>?_
 obtain⟨k517,hk518,hm⟩:=jn_elim hm
 refine Wp_seqJ q4_10 (fun fr w'=>∃(v_15:Bool) (Ebs:Ents),Ebs=[(some b348,Oc [Sl Aa p.cells Ca,Sl Al v_13 Cl,Sl Ac p.variables Cc] 26),(some b6,Oc [Sl Ad r_.variables Cd,Sl Ae r_.places Ce] 34)]∧fr [] [(12,Bo v_15)]∧hs506.S (ks Ebs O) w'∧St ⟨w,[],[]⟩ O w' Ebs∧k517 v_15=some x) ?_ ?_
 rintro ρ524 w520 ⟨v_15,_,rfl,hfr523,hst522,hs521,hm⟩
 replace hm:=jnE1 hk518 hm
 rw [hfr523.eq];clear hfr523
 refine Wp_ret<|⟨_,Clo,[Bo v_15],⟨rfl,trivial⟩,hs521.ext,?_⟩
 exact Vr.eq (a:=vB) (x:=v_15) rfl (oi hm)
 intro K519 hK519
 have ch525:=hs506.stepR
 refine Wp_region<|Mve (Bo proves_2.1) rfl<|Mve (Bo proves_2.1) rfl<|Rg_caseM hm (fun hg526 hm=>?_) (fun hg526 hm=>?_)
 refine Rog rfl rfl<|op_move (v:=Iv proves_2.2) rfl<|Rog rfl rfl<|op_eql rfl rfl<|Pkt (Bo (decide (proves_2.2=0))) rfl rfl<|Mve (Bo (decide (proves_2.2=0))) rfl<|Rg_caseM hm (fun hg527 hm=>?_) (fun hg527 hm=>?_)
 refine Rog rfl rfl<|op_move (v:=Bo proves_3.1) rfl<|Pkt (Bo proves_3.1) rfl rfl<|Mve (Bo proves_3.1) rfl<|Rg_caseM hm (fun hg528 hm=>?_) (fun hg528 hm=>?_)
 refine Rog rfl rfl<|op_move (v:=Iv proves_3.2) rfl<|Rog rfl rfl<|op_eql rfl rfl<|Pkt (Bo (decide (proves_3.2=0))) rfl rfl<|Mve (Bo (decide (proves_3.2=0))) rfl<|Rg_caseM hm (fun hg529 hm=>?_) (fun hg529 hm=>?_)
 refine Rog rfl rfl<|op_move (v:=Bo proves_4.1) rfl<|Pkt (Bo proves_4.1) rfl rfl<|Mve (Bo proves_4.1) rfl<|Rg_caseM hm (fun hg530 hm=>?_) (fun hg530 hm=>?_)
 exact Rog rfl rfl<|op_move (v:=Iv proves_4.2) rfl<|Rog rfl rfl<|op_eql rfl rfl<|Pkt (Bo (decide (proves_4.2=0))) rfl rfl<|Asg (Bo (decide (proves_4.2=0))) rfl<|Rg_nil<|hK519 _ _ ⟨decide (proves_4.2=0),_,rfl,Frm.of ⟨rfl,trivial⟩,ch525,hs506,hm⟩
 exact Rg_opx rfl (asB_ne rfl rfl) rfl<|Rg_opx rfl (asB_ne rfl rfl) rfl<|Pkf (Bo false) rfl rfl<|Asg (Bo false) rfl<|Rg_nil<|hK519 _ _ ⟨false,_,rfl,Frm.of ⟨rfl,trivial⟩,ch525,hs506,hm⟩
 exact Rg_opx rfl (asB_ne rfl rfl) rfl<|Pkf (Bo false) rfl rfl<|Mve (Bo false) rfl<|Rg_opx rfl (asB_ne rfl rfl) rfl<|Rg_opx rfl (asB_ne rfl rfl) rfl<|Pkf (Bo false) rfl rfl<|Asg (Bo false) rfl<|Rg_nil<|hK519 _ _ ⟨false,_,rfl,Frm.of ⟨rfl,trivial⟩,ch525,hs506,hm⟩
 exact Rg_opx rfl (asB_ne rfl rfl) rfl<|Rg_opx rfl (asB_ne rfl rfl) rfl<|Pkf (Bo false) rfl rfl<|Mve (Bo false) rfl<|Rg_opx rfl (asB_ne rfl rfl) rfl<|Pkf (Bo false) rfl rfl<|Mve (Bo false) rfl<|Rg_opx rfl (asB_ne rfl rfl) rfl<|Rg_opx rfl (asB_ne rfl rfl) rfl<|Pkf (Bo false) rfl rfl<|Asg (Bo false) rfl<|Rg_nil<|hK519 _ _ ⟨false,_,rfl,Frm.of ⟨rfl,trivial⟩,ch525,hs506,hm⟩
 exact Rg_opx rfl (asB_ne rfl rfl) rfl<|Pkf (Bo false) rfl rfl<|Mve (Bo false) rfl<|Rg_opx rfl (asB_ne rfl rfl) rfl<|Rg_opx rfl (asB_ne rfl rfl) rfl<|Pkf (Bo false) rfl rfl<|Mve (Bo false) rfl<|Rg_opx rfl (asB_ne rfl rfl) rfl<|Pkf (Bo false) rfl rfl<|Mve (Bo false) rfl<|Rg_opx rfl (asB_ne rfl rfl) rfl<|Rg_opx rfl (asB_ne rfl rfl) rfl<|Pkf (Bo false) rfl rfl<|Asg (Bo false) rfl<|Rg_nil<|hK519 _ _ ⟨false,_,rfl,Frm.of ⟨rfl,trivial⟩,ch525,hs506,hm⟩
 exact Rg_opx rfl (asB_ne rfl rfl) rfl<|Rg_opx rfl (asB_ne rfl rfl) rfl<|Pkf (Bo false) rfl rfl<|Mve (Bo false) rfl<|Rg_opx rfl (asB_ne rfl rfl) rfl<|Pkf (Bo false) rfl rfl<|Mve (Bo false) rfl<|Rg_opx rfl (asB_ne rfl rfl) rfl<|Rg_opx rfl (asB_ne rfl rfl) rfl<|Pkf (Bo false) rfl rfl<|Mve (Bo false) rfl<|Rg_opx rfl (asB_ne rfl rfl) rfl<|Pkf (Bo false) rfl rfl<|Mve (Bo false) rfl<|Rg_opx rfl (asB_ne rfl rfl) rfl<|Rg_opx rfl (asB_ne rfl rfl) rfl<|Pkf (Bo false) rfl rfl<|Asg (Bo false) rfl<|Rg_nil<|hK519 _ _ ⟨false,_,rfl,Frm.of ⟨rfl,trivial⟩,ch525,hs506,hm⟩
 intro K80 hK80
 have ch531:=hs67.stepR
 clear Ff
 refine Wp_region<|Mve (Iv value_1.2) rfl<|Rop<|op_eql rfl rfl<|Mve (Bo (decide (value_1.2=0))) rfl<|Rg_caseM hm (fun hg532 hm=>?_) (fun hg532 hm=>?_)
 refine Rog rfl rfl<|op_move (v:=Sl Ag value_1.1 Cg) rfl<|Rog rfl rfl<|op_len Try.underlying31 rfl ?_
 have rl533:=inK_len Fg
 refine Rog rfl rfl<|op_neq rfl rfl<|Rog rfl rfl<|op_move (v:=Bo (decide ((value_1.1.length:Int)≠4))) rfl<|Rg_caseM hm (fun hg534 hm=>?_) (fun hg534 hm=>?_)
 iterate 4 refine Rg_opx rfl (asB_ne rfl rfl) rfl ?_
 exact Rog rfl rfl<|op_pick_t (v:=Bo true) rfl rfl<|Pkt (Bo true) rfl rfl<|Rg_nil<|hK80 _ _ ⟨true,_,rfl,Frm.of ⟨rfl,trivial⟩,ch531,hs67,hm⟩
 refine Rog rfl rfl<|op_move (v:=Sl Ag value_1.1 Cg) rfl ?_
 obtain⟨hc535,hm⟩:=ck_some hm
 refine Rog rfl rfl<|op_indexAddr (q:=(rInt .i64)) ty31 ty3 rfl rfl Fg rfl hc535.1 hc535.2 ?_
 intro p536 f537
 refine Rog rfl rfl<|op_loadP ty3 rfl f537 rfl ?_
 intro v538 h539
 obtain⟨rfl,Rp⟩:=un_int h539
 exact Rog rfl rfl<|op_eql rfl rfl<|Rog rfl rfl<|op_pick_f (v:=Bo (decide ((value_1.1.getD 0 default)=0))) rfl rfl<|Pkt (Bo (decide ((value_1.1.getD 0 default)=0))) rfl rfl<|Rg_nil<|hK80 _ _ ⟨decide ((value_1.1.getD 0 default)=0),_,rfl,Frm.of ⟨rfl,trivial⟩,ch531,hs67,hm⟩
 iterate 9 refine Rg_opx rfl (asB_ne rfl rfl) rfl ?_
 exact Pkf (Bo false) rfl rfl<|Rg_nil<|hK80 _ _ ⟨false,_,rfl,Frm.of ⟨rfl,trivial⟩,ch531,hs67,hm⟩
 intro K53 hK53
 have ch541:=hs40.stepR
 refine Wp_region<|Mve (Iv proves_1.2) rfl<|Rop<|op_neq rfl rfl<|Mve (Bo (decide (proves_1.2≠0))) rfl<|Rg_caseM hm (fun hg542 hm=>?_) (fun hg542 hm=>?_)
 exact Rg_opx rfl (asB_ne rfl rfl) rfl<|Rg_opx rfl (asB_ne rfl rfl) rfl<|Pkt (Bo true) rfl rfl<|Rg_nil<|hK53 _ _ ⟨true,_,rfl,Frm.of ⟨rfl,trivial⟩,ch541,hs40,hm⟩
 exact Rog rfl rfl<|op_move (v:=Bo proves_1.1) rfl<|Rog rfl rfl<|op_not rfl<|Pkf (Bo (!proves_1.1)) rfl rfl<|Rg_nil<|hK53 _ _ ⟨!proves_1.1,_,rfl,Frm.of ⟨rfl,trivial⟩,ch541,hs40,hm⟩
 intro K26 hK26
 have ch543:=hs16.stepR
 refine Wp_region<|Rop<|op_ldA 1 ty26 hs16 rfl rfl rfl ?_
 obtain⟨few_1,hv544,hm⟩:=bd hm
 have p550:=(p3.trans (p8.trans p17))
 replace Fb:=Fb.step p550;replace Fa:=Fa.step p550;replace Fc:=Fc.step p550
 refine Rop<|op_callE hs16 Try.call18 (c18_overflightref27_Few (p:=p) hs16.ltw Fa Fb Fc hv544) rfl ?_
 rintro v545 w546 p551 hs549 h548
 obtain rfl:=h548
 refine Rop<|op_not rfl<|Mve (Bo (!few_1)) rfl<|Rg_caseM hm (fun hg553 hm=>?_) (fun hg553 hm=>?_)
 iterate 3 refine Rg_opx rfl (asB_ne rfl rfl) rfl ?_
 refine Pkt (Bo true) rfl rfl<|Mve (Bo true) rfl ?_
 iterate 3 refine Rg_opx rfl (asB_ne rfl rfl) rfl ?_
 refine Pkt (Bo true) rfl rfl<|Rg_nil ?_
 replace ch543:=ch543.trans p551
 exact hK26 _ _ ⟨true,_,rfl,Frm.of ⟨rfl,trivial⟩,ch543,hs549,hm⟩
 refine Rog rfl rfl<|op_ldA 0 ty34 hs549 rfl rfl rfl ?_
 obtain⟨few_2,hv554,hm⟩:=bd hm
 have p560:=(p550.trans p551)
 replace Fe:=Fe.step p560;replace Fd:=Fd.step p560
 refine Rog rfl rfl<|op_callE hs549 Try.call19 (c19_overflightref32_Few (r_:=r_) hs549.ltw Fd Fe hv554) rfl ?_
 rintro v555 w556 p561 hs559 h558
 clear hs549
 obtain rfl:=h558
 refine Rog rfl rfl<|op_not rfl<|Pkf (Bo (!few_2)) rfl rfl<|Mve (Bo (!few_2)) rfl<|Rg_caseM hm (fun hg563 hm=>?_) (fun hg563 hm=>?_)
 iterate 3 refine Rg_opx rfl (asB_ne rfl rfl) rfl ?_
 refine Pkt (Bo true) rfl rfl<|Rg_nil ?_
 have p564:=(p551.trans p561)
 replace ch543:=ch543.trans p564
 exact hK26 _ _ ⟨true,_,rfl,Frm.of ⟨rfl,trivial⟩,ch543,hs559,hm⟩
 refine Rog rfl rfl<|op_move (v:=Sl Af choices Cf) rfl<|Rog rfl rfl<|op_len Try.underlying31 rfl ?_
 replace Ff:=Ff.step (p560.trans p561)
 have rl565:=inK_len Ff
 refine Rog rfl rfl<|op_gtr rfl rfl<|Pkf (Bo (decide (20<(choices.length:Int)))) rfl rfl<|Rg_nil ?_
 have p566:=(p551.trans p561)
 replace ch543:=ch543.trans p566
 exact hK26 _ _ ⟨decide (20<(choices.length:Int)),_,rfl,Frm.of ⟨rfl,trivial⟩,ch543,hs559,hm⟩

end Go.Fx
/- What the models of functions compute: loops over lists, checks, meetings. No program in sight. -/
set_option linter.unusedSimpArgs false
set_option linter.unusedVariables false
namespace Go.Fx
open Go Go.RowKit

section
variable {R α σ : Type}
@[simp] theorem jn_eq {κ:Type _} (k:κ) (f:κ→Option R):jn k f=f k:=rfl
theorem ck_eq {c:Prop} [Decidable c] {m:Option R} (h:c):ck c m=m:=if_pos h
@[simp] theorem ck_True {m:Option R} :ck True m=m:=if_pos trivial
theorem wrapN {i:Nat} (h:i<9223372036854775808):IntKind.i64.wrap (i:Int)=(i:Int):=wrap_i64 (by omega) (by omega)
theorem wrapS {i:Nat} (h:i+1<9223372036854775808):IntKind.i64.wrap ((i:Int)+1)=(i:Int)+1:=wrap_i64 (by omega) (by omega)
theorem wrapP {i:Nat} (h:i<9223372036854775808):IntKind.i64.wrap (((i+1:Nat):Int) - 1)=(i:Int):=(wrap_i64 (by omega) (by omega)).trans (by omega)

theorem up_list {L:Nat→Int→σ→Option R} (I:Nat→σ→Prop) (F:Nat→List α→σ→Option R) (l:List α) (hl:l.length<9223372036854775807)
    (hE:∀n s,I l.length s→L (n+1) (l.length:Nat) s=F l.length [] s)
    (hS:∀n (i:Nat) s x t,i<l.length→l[i]?=some x→IntKind.i64.wrap ((i:Int)+1)=(i:Int)+1→I i s→
      (∀s,I (i+1) s→L n ((i:Int)+1) s=F (i+1) t s)→L (n+1) (i:Int) s=F i (x::t) s):
    ∀(fuel:Nat) s,l.length<fuel→I 0 s→L fuel 0 s=F 0 l s:=by
  have main:∀(t:List α) (i fuel:Nat) s,l.drop i=t→i≤l.length→l.length - i<fuel→I i s→L fuel (i:Int) s=F i t s:=by
    intro t
    induction t with
    |nil=>
      intro i fuel s hd hi hf hI
      have:i=l.length:=by have:=congrArg List.length hd;simp at this;omega
      subst this
      obtain⟨n,rfl⟩:∃n,fuel=n+1:=⟨fuel - 1,by omega⟩
      exact hE n s hI
    |cons x t ih=>
      intro i fuel s hd hi hf hI
      have hlt:i<l.length:=by have:=congrArg List.length hd;simp at this;omega
      obtain⟨n,rfl⟩:∃n,fuel=n+1:=⟨fuel - 1,by omega⟩
      have hx:l[i]?=some x:=by rw [← List.head?_drop,hd];rfl
      refine hS n i s x t hlt hx (wrapS (by omega)) hI fun s' hI'=>(ih (i+1) n s' ?_ (by omega) (by omega) hI')
      rw [← List.drop_drop,hd];rfl
  intro fuel s hf hI
  exact main l 0 fuel s rfl (by omega) (by omega) hI

theorem getD_of {l:List α} {i:Nat} {x d:α} (h:l[i]?=some x):l.getD i d=x:=by simp [List.getD,h]

theorem up_list0 {B:(Int→Option R)→Int→Option R} (F:List α→Option R) (l:List α) (hl:l.length<9223372036854775807)
    (hE:∀sf,B sf (l.length:Nat)=F [])
    (hS:∀sf (i:Nat) x t,i<l.length→l[i]?=some x→IntKind.i64.wrap ((i:Int)+1)=(i:Int)+1→
      sf ((i:Int)+1)=F t→B sf (i:Int)=F (x::t))
    {fuel:Nat} (hf:l.length<fuel):loop1 B fuel 0=F l:=by
  refine up_list (L:=fun n i (_:Unit)=>loop1 B n i) (fun _ _=>True) (fun _ t _=>F t) l hl ?_ ?_ fuel () hf trivial
  · intro n _ _;show loop1 B (n+1) _=_;rw [loop1_succ];exact hE _
  · intro n i _ x t h1 h2 h3 _ ih;show loop1 B (n+1) _=_;rw [loop1_succ];exact hS _ i x t h1 h2 h3 (ih () trivial)
theorem up_listA {B:(Int→σ→Option R)→Int→σ→Option R} (I:Nat→σ→Prop) (F:Nat→List α→σ→Option R) (l:List α) (hl:l.length<9223372036854775807)
    (hE:∀sf s,I l.length s→B sf (l.length:Nat) s=F l.length [] s)
    (hS:∀sf (i:Nat) s x t,i<l.length→l[i]?=some x→IntKind.i64.wrap ((i:Int)+1)=(i:Int)+1→I i s→
      (∀s,I (i+1) s→sf ((i:Int)+1) s=F (i+1) t s)→B sf (i:Int) s=F i (x::t) s)
    {fuel:Nat} {s:σ} (hf:l.length<fuel) (hI:I 0 s):loop2 B fuel 0 s=F 0 l s:=by
  refine up_list (L:=fun n i s=>loop2 B n i s) I F l hl ?_ ?_ fuel s hf hI
  · intro n s h;show loop2 B (n+1) _ _=_;rw [loop2_succ];exact hE _ _ h
  · intro n i s x t h1 h2 h3 h4 ih;show loop2 B (n+1) _ _=_;rw [loop2_succ];exact hS _ i s x t h1 h2 h3 h4 ih
theorem up_listB {B:(σ→Int→Option R)→σ→Int→Option R} (I:Nat→σ→Prop) (F:Nat→List α→σ→Option R) (l:List α) (hl:l.length<9223372036854775807)
    (hE:∀sf s,I l.length s→B sf s (l.length:Nat)=F l.length [] s)
    (hS:∀sf (i:Nat) s x t,i<l.length→l[i]?=some x→IntKind.i64.wrap ((i:Int)+1)=(i:Int)+1→I i s→
      (∀s,I (i+1) s→sf s ((i:Int)+1)=F (i+1) t s)→B sf s (i:Int)=F i (x::t) s)
    {fuel:Nat} {s:σ} (hf:l.length<fuel) (hI:I 0 s):loop2 B fuel s 0=F 0 l s:=by
  refine up_list (L:=fun n i s=>loop2 B n s i) I F l hl ?_ ?_ fuel s hf hI
  · intro n s h;show loop2 B (n+1) _ _=_;rw [loop2_succ];exact hE _ _ h
  · intro n i s x t h1 h2 h3 h4 ih;show loop2 B (n+1) _ _=_;rw [loop2_succ];exact hS _ i s x t h1 h2 h3 h4 ih

theorem up_listI {B:(Int→Option R)→Int→Option R} (F:Nat→List α→Option R) (l:List α) (hl:l.length<9223372036854775807)
    (hE:∀sf,B sf (l.length:Nat)=F l.length [])
    (hS:∀sf (i:Nat) x t,i<l.length→l[i]?=some x→IntKind.i64.wrap ((i:Int)+1)=(i:Int)+1→
      sf ((i:Int)+1)=F (i+1) t→B sf (i:Int)=F i (x::t))
    {fuel:Nat} (hf:l.length<fuel):loop1 B fuel 0=F 0 l:=by
  refine up_list (L:=fun n i (_:Unit)=>loop1 B n i) (fun _ _=>True) (fun i t _=>F i t) l hl ?_ ?_ fuel () hf trivial
  · intro n _ _;show loop1 B (n+1) _=_;rw [loop1_succ];exact hE _
  · intro n i _ x t h1 h2 h3 _ ih;show loop1 B (n+1) _=_;rw [loop1_succ];exact hS _ i x t h1 h2 h3 (ih () trivial)
end
end Go.Fx
/- Chapter 32: what is a valid problem, a valid reason. Loops that ask the same of each element. -/
set_option linter.unusedSimpArgs false
set_option linter.unusedVariables false
set_option maxRecDepth 100000
namespace Go.Fx
open Go Go.RowKit
section
variable {R α σ : Type}
def adj (lt : α → α → Bool) : List α → Bool
  | a :: b :: t => lt a b && adj lt (b :: t)
  | _ => true
/-- each element by itself, and beside the one before it -/
def allP (ok : α → Bool) (lt : α → α → Bool) : Option α → List α → Bool
  | _, [] => true
  | o, x :: t => ok x && (o.all fun y => lt y x) && allP ok lt (some x) t
theorem allP_some {ok : α → Bool} {lt : α → α → Bool} : ∀ (t : List α) (a : α), allP ok lt (some a) t = (t.all ok && adj lt (a :: t))
  | [], a => by simp [allP, adj]
  | x :: t, a => by
    simp only [allP, adj, allP_some t x, List.all_cons, Option.all_some]
    cases ok x <;> cases lt a x <;> cases t.all ok <;> simp
theorem allP_none {ok : α → Bool} {lt : α → α → Bool} (l : List α) : allP ok lt none l = (l.all ok && adj lt l) := by
  cases l with
  | nil => simp [allP, adj]
  | cons x t => simp only [allP, allP_some, List.all_cons, Option.all_none, Bool.and_true, Bool.and_assoc]
/-- a loop that asks ok of each element, and lt of each and the one before it -/
theorem adj_up {B : (Int → Option R) → Int → Option R} {l : List α} (ok : α → Bool) (lt : α → α → Bool) (bad fin : Option R) (hl : l.length < 9223372036854775807)
    (hE : ∀ sf, B sf (l.length : Nat) = fin)
    (h0 : ∀ sf x, 0 < l.length → l[0]? = some x → IntKind.i64.wrap ((0 : Int) + 1) = 1 → B sf 0 = bif ok x then sf 1 else bad)
    (hS : ∀ sf (j : Nat) y x, j + 1 < l.length → l[j]? = some y → l[j + 1]? = some x → IntKind.i64.wrap (((j + 1 : Nat) : Int) + 1) = ((j + 1 : Nat) : Int) + 1 → IntKind.i64.wrap (((j + 1 : Nat) : Int) - 1) = (j : Int) →
      B sf ((j + 1 : Nat) : Int) = bif (ok x && lt y x) then sf (((j + 1 : Nat) : Int) + 1) else bad)
    {fuel : Nat} (hf : l.length < fuel) : loop1 B fuel 0 = bif (l.all ok && adj lt l) then fin else bad := by
  refine (up_listI (fun i t => bif allP ok lt (if i = 0 then none else l[i - 1]?) t then fin else bad) l hl (fun sf => by rw [hE]; rfl) ?_ hf).trans ?_
  · intro sf i x t h1 h2 h3 ih
    cases i with
    | zero =>
      have e := h0 sf x h1 h2 (by simpa using h3)
      simp only [Nat.zero_add, Nat.succ_ne_zero, if_false, if_true, Nat.add_sub_cancel, h2, Int.natCast_zero, Int.zero_add] at ih ⊢
      show B sf 0 = _
      rw [e, allP]
      cases ok x
      · simp
      · simp only [cond_true, Option.all_none, Bool.and_true, Bool.true_and]; exact ih
    | succ j =>
      have hy : l[j]? = some l[j] := List.getElem?_eq_getElem (by omega)
      have e := hS sf j l[j] x h1 hy h2 h3 (wrapP (by omega))
      simp only [Nat.succ_ne_zero, if_false, Nat.add_sub_cancel, h2] at ih ⊢
      rw [e, allP, hy]
      cases hc : (ok x && lt l[j] x)
      · simp only [Option.all_some, hc, Bool.false_and, cond_false]
      · simp only [Option.all_some, hc, Bool.true_and, cond_true]; exact ih
  · simp only [if_true, allP_none]
/-- each by itself -/
theorem all_up {B : (Int → Option R) → Int → Option R} {l : List α} (ok : α → Bool) (bad fin : Option R) (hl : l.length < 9223372036854775807)
    (hE : ∀ sf, B sf (l.length : Nat) = fin)
    (hS : ∀ sf (i : Nat) x, i < l.length → l[i]? = some x → IntKind.i64.wrap ((i : Int) + 1) = (i : Int) + 1 → B sf (i : Int) = bif ok x then sf ((i : Int) + 1) else bad)
    {fuel : Nat} (hf : l.length < fuel) : loop1 B fuel 0 = bif l.all ok then fin else bad := by
  refine up_list0 (fun t => bif t.all ok then fin else bad) l hl (fun sf => by rw [hE]; rfl) ?_ hf
  intro sf i x t h1 h2 h3 ih
  rw [hS sf i x h1 h2 h3, List.all_cons]
  cases ok x
  · rfl
  · simp only [cond_true, Bool.true_and]; exact ih
/-- from the second on, beside the one before -/
theorem adj_up1 {B : (Int → Option R) → Int → Option R} {l : List α} (lt : α → α → Bool) (bad fin : Option R) (hl : l.length < 9223372036854775807)
    (hE : ∀ sf (i : Nat), l.length ≤ i → i ≤ l.length + 1 → B sf (i : Int) = fin)
    (hS : ∀ sf (j : Nat) y x, j + 1 < l.length → l[j]? = some y → l[j + 1]? = some x → IntKind.i64.wrap (((j + 1 : Nat) : Int) + 1) = ((j + 1 : Nat) : Int) + 1 → IntKind.i64.wrap (((j + 1 : Nat) : Int) - 1) = (j : Int) →
      B sf ((j + 1 : Nat) : Int) = bif lt y x then sf (((j + 1 : Nat) : Int) + 1) else bad)
    {fuel : Nat} (hf : l.length - 1 < fuel) : loop1 B fuel 1 = bif adj lt l then fin else bad := by
  have main : ∀ (fuel j : Nat) (y : α) (t : List α), l.drop j = y :: t → l.length - (j + 1) < fuel → loop1 B fuel ((j + 1 : Nat) : Int) = bif adj lt (y :: t) then fin else bad := by
    intro fuel
    induction fuel with
    | zero => intro j y t _ h; omega
    | succ n ih =>
      intro j y t hd hf
      have hlen : l.length - j = t.length + 1 := by have := congrArg List.length hd; simpa using this
      have hy : l[j]? = some y := by rw [← List.head?_drop, hd]; rfl
      rw [loop1_succ]
      cases t with
      | nil => rw [hE _ _ (by simp at hlen; omega) (by simp at hlen; omega)]; rfl
      | cons x t =>
        simp only [List.length_cons] at hlen
        have hd2 : l.drop (j + 1) = x :: t := by rw [← List.drop_drop, hd]; rfl
        have hx : l[j + 1]? = some x := by rw [← List.head?_drop, hd2]; rfl
        rw [hS _ j y x (by omega) hy hx (wrapS (by omega)) (wrapP (by omega)), adj]
        cases lt y x
        · rfl
        · simp only [cond_true, Bool.true_and]; exact ih (j + 1) x t hd2 (by omega)
  cases l with
  | nil =>
    obtain ⟨n, rfl⟩ : ∃ n, fuel = n + 1 := ⟨fuel - 1, by simp at hf; omega⟩
    rw [loop1_succ]; exact hE _ 1 (by simp) (by simp)
  | cons y t => exact main fuel 0 y t rfl hf
/-- facts on an index within a list, for simp -/
theorem inBd {i n : Nat} (h : i < n) : ((0 : Int) ≤ (i : Int) ∧ (i : Int) < (n : Int)) = True := by simp; omega
theorem ltBd {i n : Nat} (h : i < n) : decide ((i : Int) < (n : Int)) = true := by simpa using h
theorem ltE {n : Nat} : decide ((n : Int) < (n : Int)) = false := by simp
end
def within (n lo hi : Int) : Bool := decide (lo ≤ n) && decide (n ≤ hi)
theorem m33_eq (n lo hi : Int) : m33_problem_within n lo hi = some (within n lo hi) := by
  unfold m33_problem_within within; cases decide (lo ≤ n) <;> rfl
def cmpI (x y : Int) : Int := if x < y then -1 else if y < x then 1 else 0
theorem m39_eq (x y : Int) : m39_cmp_Compare x y = some (cmpI x y) := by
  unfold m39_cmp_Compare m66_cmp_isNaN cmpI
  by_cases h : x < y
  · simp [h]
  · by_cases h2 : y < x <;> simp [h, h2]
theorem m64_eq (x y : Int) : m64_cmp_Or [x, y] = some (if x ≠ 0 then x else y) := by
  unfold m64_cmp_Or
  rw [up_list0 (B := m64_cmp_Or_B0 [x, y]) (fun t => some ((t.find? (fun z => decide (z ≠ 0))).getD 0)) [x, y] (by simp) ?_ ?_ (by simp)]
  · by_cases hx : x = 0
    · by_cases hy : y = 0 <;> simp [hx, hy]
    · simp [hx]
  · intro sf; unfold m64_cmp_Or_B0; simp
  · intro sf i z t h1 h2 h3 ih
    unfold m64_cmp_Or_B0
    simp only [ltBd h1, inBd h1, ck_True, Int.toNat_natCast, getD_of h2, h3, ih, cond_true, List.find?_cons]
    cases decide (z ≠ 0) <;> rfl
/-- the order of cells -/
def cb (a b : XCell) : Bool := if a.airport = b.airport then (if a.index = b.index then decide (a.minute < b.minute) else decide (a.index < b.index)) else b.airport
def cmpC (a b : XCell) : Int := if a.airport = b.airport then (if cmpI a.index b.index ≠ 0 then cmpI a.index b.index else cmpI a.minute b.minute) else if b.airport then -1 else 1
theorem m35_eq (a b : XCell) : m35_problem_compare a b = some (cmpC a b) := by
  unfold m35_problem_compare cmpC
  by_cases h : a.airport = b.airport
  · simp only [h, beq_self_eq_true, Bool.not_true, cond_false, m39_eq, m64_eq, Option.bind_some, if_true]
  · have : (a.airport == b.airport) = false := by simpa using h
    simp only [this, h, Bool.not_false, cond_true, if_false]
    cases b.airport <;> rfl
theorem cmpC_cb (a b : XCell) : decide (0 ≤ cmpC a b) = !(cb a b) := by
  unfold cmpC cb cmpI
  by_cases h : a.airport = b.airport
  · simp only [h, if_true]
    by_cases h1 : a.index = b.index
    · simp only [h1, Int.lt_irrefl, if_false, ne_eq, not_true_eq_false, if_true]
      by_cases h2 : a.minute < b.minute
      · simp [h2]
      · simp only [h2, if_false, decide_false, Bool.not_false, decide_eq_true_eq]; split <;> omega
    · simp only [h1, if_false]
      by_cases h2 : a.index < b.index
      · simp [h2]
      · have : b.index < a.index := by omega
        simp [h2, this]
  · simp only [h, if_false]
    cases b.airport <;> simp
theorem m34_eq (l : List XCell) (hl : l.length < 9223372036854775807) : m34_api_Cell_ l (fun x y => m35_problem_compare x y) = some (adj cb l) := by
  unfold m34_api_Cell_
  rw [adj_up1 (l := l) cb (some false) (some true) hl ?_ ?_ (by omega)]
  · cases adj cb l <;> rfl
  · intro sf i h1 h2; unfold m34_api_Cell__B0
    have : decide ((i : Int) < (l.length : Int)) = false := by simp; omega
    rw [this]; rfl
  · intro sf j y x h1 h2 h3 h4 h5; unfold m34_api_Cell__B0
    simp only [ltBd h1, h4, h5, inBd h1, inBd (show j < l.length by omega), ck_True, Int.toNat_natCast, getD_of h2, getD_of h3, m35_eq, Option.bind_some, cmpC_cb, cond_true]
    cases cb y x <;> rfl
theorem m38_eq (l : List Int) (hl : l.length < 9223372036854775807) : m38_problem_increasing l (fun x y => m39_cmp_Compare x y) = some (adj (fun x y => decide (x < y)) l) := by
  unfold m38_problem_increasing
  rw [adj_up1 (l := l) (fun x y => decide (x < y)) (some false) (some true) hl ?_ ?_ (by omega)]
  · cases adj _ l <;> rfl
  · intro sf i h1 h2; unfold m38_problem_increasing_B0
    have : decide ((i : Int) < (l.length : Int)) = false := by simp; omega
    rw [this]; rfl
  · intro sf j y x h1 h2 h3 h4 h5; unfold m38_problem_increasing_B0
    simp only [ltBd h1, h4, h5, inBd h1, inBd (show j < l.length by omega), ck_True, Int.toNat_natCast, getD_of h2, getD_of h3, m39_eq, Option.bind_some, cond_true]
    by_cases h : y < x
    · simp [cmpI, h]
    · have : 0 ≤ cmpI y x := by unfold cmpI; simp only [h, if_false]; split <;> omega
      simp [h, this]
theorem m40_eq (l : List XUse) (hl : l.length < 9223372036854775807) : m40_api_Use_ l (fun x y => m41_problem_Check_2 x y) = some (adj (fun x y => cb x.cell y.cell) l) := by
  unfold m40_api_Use_
  rw [adj_up1 (l := l) (fun x y => cb x.cell y.cell) (some false) (some true) hl ?_ ?_ (by omega)]
  · cases adj _ l <;> rfl
  · intro sf i h1 h2; unfold m40_api_Use__B0
    have : decide ((i : Int) < (l.length : Int)) = false := by simp; omega
    rw [this]; rfl
  · intro sf j y x h1 h2 h3 h4 h5; unfold m40_api_Use__B0
    simp only [ltBd h1, h4, h5, inBd h1, inBd (show j < l.length by omega), ck_True, Int.toNat_natCast, getD_of h2, getD_of h3, m41_problem_Check_2, m35_eq, Option.bind_some, cmpC_cb, cond_true]
    cases cb y.cell x.cell <;> rfl
theorem m36_eq (s : List Int) (hl : s.length < 9223372036854775807) : m36_slices_ContainsFuncint_int_ s (fun x => m37_problem_Check_1 x) = some (!(s.all fun n => within n 0 4096)) := by
  unfold m36_slices_ContainsFuncint_int_ m65_slices_IndexFuncint_int_
  have key : ∃ i : Int, loop1 (m65_slices_IndexFuncint_int__B0 s (fun x => m37_problem_Check_1 x)) (((s.length : Int) - 0).toNat + 1) 0 = some i ∧ decide (0 ≤ i) = !(s.all fun n => within n 0 4096) := by
    rw [up_listI (B := m65_slices_IndexFuncint_int__B0 s (fun x => m37_problem_Check_1 x)) (fun i t => some (match t.findIdx? (fun n => !(within n 0 4096)) with | none => (-1 : Int) | some k => ((i + k : Nat) : Int))) s hl ?_ ?_ (by omega)]
    · refine ⟨_, rfl, ?_⟩
      cases h : s.findIdx? (fun n => !(within n 0 4096)) with
      | none =>
        rw [List.findIdx?_eq_none_iff] at h
        have : (s.all fun n => within n 0 4096) = true := by rw [List.all_eq_true]; intro x hx; simpa using h x hx
        simp [this]
      | some k =>
        have : (s.all fun n => within n 0 4096) = false := by
          rw [List.all_eq_false]
          obtain ⟨hk, h1, _⟩ := List.findIdx?_eq_some_iff_getElem.1 h
          exact ⟨s[k], List.getElem_mem hk, by simpa using h1⟩
        simp [this]
    · intro sf; unfold m65_slices_IndexFuncint_int__B0; simp
    · intro sf i x t h1 h2 h3 ih
      unfold m65_slices_IndexFuncint_int__B0 m37_problem_Check_1
      simp only [ltBd h1, inBd h1, ck_True, Int.toNat_natCast, getD_of h2, m33_eq, Option.bind_some, h3, cond_true, List.findIdx?_cons]
      cases hw : within x 0 4096
      · simp
      · simp only [Bool.not_true, cond_false, Bool.false_eq_true, if_false]
        rw [ih]
        cases t.findIdx? (fun n => !(within n 0 4096)) with
        | none => rfl
        | some k => simp; omega
  obtain ⟨i, h1, h2⟩ := key
  rw [h1, Option.bind_some, h2]
end Go.Fx
/- Chapter 32: problem.Check and the reference's Check say the same; so do the Checks of reasons. -/
set_option linter.unusedSimpArgs false
set_option linter.unusedVariables false
set_option maxRecDepth 100000
namespace Go.Fx
open Go Go.RowKit
def okCell (c : XCell) : Bool := decide (0 ≤ c.index) && decide (0 ≤ c.minute)
def okUse (cells : List XCell) (u : XUse) : Bool := decide (u.cell ∈ cells) && within u.places 1 8
def okChoice (cells : List XCell) (c : XChoice) : Bool :=
  within c.delay 0 1048576 && (within c.cost 0 1048576 && (within c.changes 0 1048576 && (c.uses.all (okUse cells) && adj (fun x y => cb x.cell y.cell) c.uses)))
def okVar (cells : List XCell) (n : Nat) (v : XVariable) : Bool :=
  !(decide (v.leaves.length = 0)) && (within v.choices.length 1 96 && (((v.leaves.all fun k => within k 0 ((n : Int) - 1)) && adj (fun x y => decide (x < y)) v.leaves) && v.choices.all (okChoice cells)))
def okRow (n : Nat) (r : List Int) : Bool := decide (r.length = n) && r.all fun k => within k 0 4096
def okProb (p : XProblem) : Bool :=
  decide (p.cells.length ≤ 4096) && (within p.capacity.length 1 32 && (decide (p.variables.length ≤ 64) && ((p.cells.all okCell && adj cb p.cells) && (p.capacity.all (okRow p.cells.length) && p.variables.all (okVar p.cells p.capacity.length)))))
/-- in a rising list the first is the least, the last the greatest -/
theorem adj_ends {l : List Int} {n : Int} (h : adj (fun x y => decide (x < y)) l = true) {x : Int} (hx : x ∈ l) (d : Int) : l.getD 0 d ≤ x ∧ x ≤ l.getD (l.length - 1) d := by
  induction l generalizing x with
  | nil => cases hx
  | cons a t ih =>
    cases t with
    | nil => simp at hx; simp [hx]
    | cons b t =>
      simp only [adj, Bool.and_eq_true, decide_eq_true_eq] at h
      have e : (a :: b :: t).getD ((a :: b :: t).length - 1) d = (b :: t).getD ((b :: t).length - 1) d := by simp
      rw [e]
      rcases List.mem_cons.1 hx with rfl | hx
      · have := ih h.2 (List.mem_cons_self ..)
        simp only [List.getD_cons_zero] at this ⊢
        omega
      · have := ih h.2 hx
        simp only [List.getD_cons_zero] at this ⊢
        omega
theorem leaves_eq {l : List Int} {n : Nat} (h0 : l.length ≠ 0) (h : adj (fun x y => decide (x < y)) l = true) :
    (!(decide (l.getD 0 default < 0)) && !(decide ((n : Int) ≤ l.getD (l.length - 1) default))) = l.all fun k => within k 0 ((n : Int) - 1) := by
  rw [Bool.eq_iff_iff]
  simp only [Bool.and_eq_true, Bool.not_eq_true', decide_eq_false_iff_not, List.all_eq_true, within, decide_eq_true_eq]
  constructor
  · intro ⟨h1, h2⟩ x hx
    have := adj_ends (n := 0) h hx default
    omega
  · intro ha
    have m0 : l.getD 0 default ∈ l := by
      rw [getD_of (List.getElem?_eq_getElem (show 0 < l.length by omega))]; exact List.getElem_mem _
    have m1 : l.getD (l.length - 1) default ∈ l := by
      rw [getD_of (List.getElem?_eq_getElem (show l.length - 1 < l.length by omega))]; exact List.getElem_mem _
    have := ha _ m0; have := ha _ m1
    omega
theorem sm_len {α : Type} {S : α → Prop} {l : List α} (h : SmL S l) : l.length < 9223372036854775807 := by have := h.1; omega
theorem ge0 {α : Type} {l : List α} {i : Nat} {x : α} (h : l[i]? = some x) : x ∈ l := List.mem_of_getElem? h
theorem choice12 {p : XProblem} {map_1 : List (XCell × Bool)} {v : XVariable} {i : Nat} (hm : ∀ c, (mget map_1 c).getD false = decide (c ∈ p.cells)) (hv : p.variables[i]? = some v) (hs : smXVariable v)
    (sf156 : Int → Option Int) (hw : IntKind.i64.wrap ((i : Int) + 1) = (i : Int) + 1) :
    loop1 (m12_problem_Check_B3 p map_1 (i : Int) sf156) (((((p.variables.getD (i : Int).toNat default).choices).length : Int) - 0).toNat + 1) 0 = bif v.choices.all (okChoice p.cells) then sf156 ((i : Int) + 1) else some 270 := by
  simp only [Int.toNat_natCast, getD_of hv]
  refine all_up (okChoice p.cells) (some 270) (sf156 ((i : Int) + 1)) (sm_len hs.2.2.2) ?_ ?_ (by omega)
  · intro sf; unfold m12_problem_Check_B3
    simp only [Int.toNat_natCast, getD_of hv, ltE, cond_false, hw]
  · intro sf j c h1 h2 h3
    have hc := hs.2.2.2.2 c (ge0 h2)
    unfold m12_problem_Check_B3
    simp only [Int.toNat_natCast, getD_of hv, getD_of h2, ltBd h1, inBd h1, ck_True, cond_true, m33_eq, Option.bind_some, jn_eq, m40_eq _ (sm_len hc.2.2.2), okChoice]
    rw [all_up (B := m12_problem_Check_B4 p map_1 (i : Int) (j : Int) sf) (l := c.uses) (okUse p.cells) (some 270) (sf ((j : Int) + 1)) (sm_len hc.2.2.2) ?_ ?_ (by omega)]
    · cases within c.delay 0 1048576 <;> cases within c.cost 0 1048576 <;> cases within c.changes 0 1048576 <;> cases adj (fun x y => cb x.cell y.cell) c.uses <;> cases c.uses.all (okUse p.cells) <;> rfl
    · intro sf'; unfold m12_problem_Check_B4
      simp only [Int.toNat_natCast, getD_of hv, getD_of h2, ltE, cond_false, h3]
    · intro sf' k u h4 h5 h6
      unfold m12_problem_Check_B4
      simp only [Int.toNat_natCast, getD_of hv, getD_of h2, getD_of h5, ltBd h4, inBd h4, ck_True, cond_true, m33_eq, Option.bind_some, jn_eq, hm, okUse, h6]
      cases decide (u.cell ∈ p.cells) <;> cases within u.places 1 8 <;> rfl
theorem m12_eq {p : XProblem} (hp : smXProblem p) : m12_problem_Check p = some (bif okProb p then 0 else 270) := by
  obtain ⟨s1, s2, s3⟩ := hp
  unfold m12_problem_Check
  simp only [jn_eq, m33_eq, Option.bind_some, m34_eq _ (sm_len s1)]
  have vars : ∀ map_1 : List (XCell × Bool), (∀ c, (mget map_1 c).getD false = decide (c ∈ p.cells)) →
      loop1 (m12_problem_Check_B2 p map_1) (((p.variables.length : Int) - 0).toNat + 1) 0 = bif p.variables.all (okVar p.cells p.capacity.length) then some 0 else some 270 := by
    intro map_1 hm
    refine all_up (okVar p.cells p.capacity.length) (some 270) (some 0) (sm_len s3) ?_ ?_ (by omega)
    · intro sf; unfold m12_problem_Check_B2; simp only [ltE, cond_false]
    · intro sf i v h1 h2 h3
      have hv := s3.2 v (ge0 h2)
      unfold m12_problem_Check_B2
      rw [choice12 hm h2 hv sf h3]
      simp only [Int.toNat_natCast, getD_of h2, ltBd h1, inBd h1, ck_True, cond_true, m33_eq, Option.bind_some, jn_eq, m38_eq _ (sm_len hv.2.2.1), okVar]
      by_cases h0 : v.leaves.length = 0
      · simp [h0]
      · have e1 : IntKind.i64.wrap ((v.leaves.length : Int) - 1) = ((v.leaves.length - 1 : Nat) : Int) := by
          have := sm_len hv.2.2.1
          exact (wrap_i64 (by omega) (by omega)).trans (by omega)
        have c1 : ((0 : Int) ≤ 0 ∧ (0 : Int) < (v.leaves.length : Int)) = True := by simp; omega
        have c2 : ((0 : Int) ≤ ((v.leaves.length - 1 : Nat) : Int) ∧ ((v.leaves.length - 1 : Nat) : Int) < (v.leaves.length : Int)) = True := by simp; omega
        have c3 : decide ((v.leaves.length : Int) = 0) = false := by simpa using h0
        simp only [e1, c1, c2, c3, ck_True, cond_false, h0, decide_false, Bool.not_false, Bool.true_and, Int.toNat_natCast]
        cases within v.choices.length 1 96
        · rfl
        · simp only [Bool.not_true, cond_false, Bool.true_and]
          cases ha : adj (fun x y => decide (x < y)) v.leaves
          · simp
          · rw [← leaves_eq h0 ha]
            simp only [Bool.not_true, cond_false, Bool.and_true]
            cases decide (v.leaves.getD 0 default < 0) <;> cases decide ((p.capacity.length : Int) ≤ v.leaves.getD (v.leaves.length - 1) default) <;> cases v.choices.all (okChoice p.cells) <;> rfl
  have caps : ∀ map_1 : List (XCell × Bool), (∀ c, (mget map_1 c).getD false = decide (c ∈ p.cells)) →
      loop1 (m12_problem_Check_B1 p map_1) (((p.capacity.length : Int) - 0).toNat + 1) 0 = bif p.capacity.all (okRow p.cells.length) then (bif p.variables.all (okVar p.cells p.capacity.length) then some 0 else some 270) else some 270 := by
    intro map_1 hm
    refine all_up (okRow p.cells.length) (some 270) _ (sm_len s2) ?_ ?_ (by omega)
    · intro sf; unfold m12_problem_Check_B1; rw [vars map_1 hm]; simp only [ltE, cond_false]
    · intro sf i r h1 h2 h3
      unfold m12_problem_Check_B1
      simp only [Int.toNat_natCast, getD_of h2, ltBd h1, inBd h1, ck_True, cond_true, jn_eq, m36_eq _ (sm_len (s2.2 r (ge0 h2))), Option.bind_some, okRow, h3]
      by_cases h : r.length = p.cells.length
      · simp only [h, ne_eq, not_true_eq_false, decide_false, cond_false, decide_true, Bool.true_and]
        cases r.all fun k => within k 0 4096 <;> rfl
      · have : ((r.length : Int) ≠ (p.cells.length : Int)) := by omega
        simp [h, this]
  have cells : loop2 (m12_problem_Check_B0 p) (((p.cells.length : Int) - 0).toNat + 1) 0 ([] : List (XCell × Bool)) = bif p.cells.all okCell then (bif p.capacity.all (okRow p.cells.length) then (bif p.variables.all (okVar p.cells p.capacity.length) then some 0 else some 270) else some 270) else some 270 := by
    refine up_listA (fun i s => ∀ c, (mget s c).getD false = decide (c ∈ p.cells.take i)) (fun _ t _ => bif t.all okCell then _ else some 270) p.cells (sm_len s1) ?_ ?_ (by omega) (by simp [mget])
    · intro sf s hI
      unfold m12_problem_Check_B0
      rw [List.take_length] at hI
      rw [caps s hI]; simp only [ltE, cond_false, List.all_nil, cond_true]
    · intro sf i s x t h1 h2 h3 hI ih
      unfold m12_problem_Check_B0
      simp only [Int.toNat_natCast, getD_of h2, ltBd h1, inBd h1, ck_True, cond_true, jn_eq, h3, List.all_cons, okCell]
      have hn : ∀ c, (mget (mput s x true) c).getD false = decide (c ∈ p.cells.take (i + 1)) := by
        intro c
        rw [mget_put, List.take_add_one, h2]
        by_cases hc : x = c
        · simp [hc]
        · rw [if_neg hc, hI c]; simp [Ne.symm hc]
      rw [ih _ hn]
      by_cases h4 : x.index < 0
      · have : ¬ (0 ≤ x.index) := by omega
        simp [h4, this]
      · by_cases h5 : x.minute < 0
        · have : ¬ (0 ≤ x.minute) := by omega
          simp [h4, h5, this]
        · have a1 : 0 ≤ x.index := by omega
          have a2 : 0 ≤ x.minute := by omega
          simp [h4, h5, a1, a2]
  rw [cells]
  unfold okProb
  by_cases h1 : p.cells.length ≤ 4096
  · have e1 : ¬ ((4096 : Int) < (p.cells.length : Int)) := by omega
    by_cases h2 : p.variables.length ≤ 64
    · have e2 : ¬ ((64 : Int) < (p.variables.length : Int)) := by omega
      simp only [h1, h2, e1, e2, decide_true, decide_false, cond_false, Bool.true_and]
      cases within p.capacity.length 1 32 <;> cases adj cb p.cells <;> cases p.cells.all okCell <;> cases p.capacity.all (okRow p.cells.length) <;> cases p.variables.all (okVar p.cells p.capacity.length) <;> rfl
    · have e2 : (64 : Int) < (p.variables.length : Int) := by omega
      simp only [h1, h2, e1, e2, decide_true, decide_false, cond_false, cond_true, Bool.true_and, Bool.false_and, Bool.and_false]
      cases within p.capacity.length 1 32 <;> rfl
  · have e1 : (4096 : Int) < (p.cells.length : Int) := by omega
    simp [h1, e1]
end Go.Fx
/- Chapter 32: the reference's Check of problems; both Checks of reasons. -/
set_option linter.unusedSimpArgs false
set_option linter.unusedVariables false
set_option maxRecDepth 100000
namespace Go.Fx
open Go Go.RowKit
/-! reasons -/
def okIdx (n : Nat) (k : Int) : Bool := decide (0 ≤ k) && decide (k < (n : Int))
def okPlace (p : XProblem) (x : XPlace) : Bool := okIdx p.capacity.length x.leaf && okIdx p.cells.length x.cell
def pb (a b : XPlace) : Bool := decide (a.leaf < b.leaf) || (decide (a.leaf = b.leaf) && decide (a.cell < b.cell))
def okReason (p : XProblem) (r : XReason) : Bool := (r.variables.all (okIdx p.variables.length) && adj (fun x y => decide (x < y)) r.variables) && (r.places.all (okPlace p) && adj pb r.places)
def cmpP (a b : XPlace) : Int := if cmpI a.leaf b.leaf ≠ 0 then cmpI a.leaf b.leaf else cmpI a.cell b.cell
theorem m55_eq (a b : XPlace) : m55_reason_order a b = some (cmpP a b) := by
  unfold m55_reason_order cmpP
  simp only [m39_eq, m64_eq, Option.bind_some]
theorem cmpP_pb (a b : XPlace) : decide (0 ≤ cmpP a b) = !(pb a b) := by
  unfold cmpP pb cmpI
  by_cases h : a.leaf < b.leaf
  · simp [h]
  · by_cases h2 : b.leaf < a.leaf
    · have : a.leaf ≠ b.leaf := by omega
      simp [h, h2, this]
    · have : a.leaf = b.leaf := by omega
      simp only [this, Int.lt_irrefl, if_false, ne_eq, not_true_eq_false, decide_false, Bool.false_or, decide_true, Bool.true_and]
      by_cases h3 : a.cell < b.cell
      · simp [h3]
      · simp only [h3, if_false, decide_false, Bool.not_false, decide_eq_true_eq]; split <;> omega
theorem oi_eq (n : Nat) (k : Int) : okIdx n k = (!(decide (k < 0)) && !(decide ((n : Int) ≤ k))) := by
  unfold okIdx; by_cases a : k < 0 <;> by_cases b : (n : Int) ≤ k <;> simp [a, b] <;> omega
theorem m23_eq {p : XProblem} {r : XReason} (hp : smXProblem p) (hr : smXReason r) : m23_reason_Check p r = some (bif okProb p then (bif okReason p r then 0 else 320) else 270) := by
  unfold m23_reason_Check
  rw [m12_eq hp]
  have pl : loop1 (m23_reason_Check_B1 p r) (((r.places.length : Int) - 0).toNat + 1) 0 = bif (r.places.all (okPlace p) && adj pb r.places) then some 0 else some 320 := by
    refine adj_up (okPlace p) pb (some 320) (some 0) (sm_len hr.2) ?_ ?_ ?_ (by omega)
    · intro sf; unfold m23_reason_Check_B1; simp only [ltE, cond_false]
    · intro sf x h0 hx hw
      unfold m23_reason_Check_B1
      have c1 : ((0 : Int) ≤ 0 ∧ (0 : Int) < (r.places.length : Int)) = True := by simp <;> omega
      have c2 : decide ((0 : Int) < (r.places.length : Int)) = true := by simp <;> omega
      have hk' : r.places.getD (0 : Int).toNat default = x := getD_of hx
      simp only [hk', c1, c2, ck_True, cond_true, jn_eq, hw, okPlace, oi_eq, Int.lt_irrefl, decide_false, cond_false]
      cases decide (x.leaf < 0) <;> cases decide ((p.capacity.length : Int) ≤ x.leaf) <;> cases decide (x.cell < 0) <;> cases decide ((p.cells.length : Int) ≤ x.cell) <;> rfl
    · intro sf j y x h0 hy hx hw hw2
      unfold m23_reason_Check_B1
      have c3 : decide ((0 : Int) < ((j + 1 : Nat) : Int)) = true := by simp <;> omega
      simp only [Int.toNat_natCast, getD_of hx, getD_of hy, ltBd h0, inBd h0, inBd (show j < r.places.length by omega), c3, ck_True, cond_true, m55_eq, cmpP_pb, Option.bind_some, jn_eq, hw, hw2, okPlace, oi_eq]
      cases decide (x.leaf < 0) <;> cases decide ((p.capacity.length : Int) ≤ x.leaf) <;> cases decide (x.cell < 0) <;> cases decide ((p.cells.length : Int) ≤ x.cell) <;> cases pb y x <;> rfl
  have vs : loop1 (m23_reason_Check_B0 p r) (((r.variables.length : Int) - 0).toNat + 1) 0 = bif (r.variables.all (okIdx p.variables.length) && adj (fun x y => decide (x < y)) r.variables) then (bif (r.places.all (okPlace p) && adj pb r.places) then some 0 else some 320) else some 320 := by
    refine adj_up (okIdx p.variables.length) (fun x y => decide (x < y)) (some 320) _ (sm_len hr.1) ?_ ?_ ?_ (by omega)
    · intro sf; unfold m23_reason_Check_B0; rw [pl]; simp only [ltE, cond_false]
    · intro sf x h0 hx hw
      unfold m23_reason_Check_B0
      have c1 : ((0 : Int) ≤ 0 ∧ (0 : Int) < (r.variables.length : Int)) = True := by simp <;> omega
      have c2 : decide ((0 : Int) < (r.variables.length : Int)) = true := by simp <;> omega
      have hk' : r.variables.getD (0 : Int).toNat default = x := getD_of hx
      simp only [hk', c1, c2, ck_True, cond_true, jn_eq, hw, oi_eq, Int.lt_irrefl, decide_false, cond_false]
      cases decide (x < 0) <;> cases decide ((p.variables.length : Int) ≤ x) <;> rfl
    · intro sf j y x h0 hy hx hw hw2
      unfold m23_reason_Check_B0
      have c3 : decide ((0 : Int) < ((j + 1 : Nat) : Int)) = true := by simp <;> omega
      have c4 : decide (x ≤ y) = !(decide (y < x)) := by by_cases h : y < x <;> simp [h] <;> omega
      simp only [Int.toNat_natCast, getD_of hx, getD_of hy, ltBd h0, inBd h0, inBd (show j < r.variables.length by omega), c3, c4, ck_True, cond_true, jn_eq, hw, hw2, oi_eq]
      cases decide (x < 0) <;> cases decide ((p.variables.length : Int) ≤ x) <;> cases decide (y < x) <;> rfl
  rw [vs]
  unfold okReason
  cases okProb p
  · rfl
  · simp only [cond_true, Option.bind_some]
    cases (r.variables.all (okIdx p.variables.length) && adj (fun x y => decide (x < y)) r.variables) <;> cases (r.places.all (okPlace p) && adj pb r.places) <;> rfl
end Go.Fx
namespace Go.Fx
open Go Go.RowKit Go.Proofs
end Go.Fx
/- Chapter 32: small problems; a problem is the same as itself; Part. -/
set_option linter.unusedSimpArgs false
set_option linter.unusedVariables false
set_option maxRecDepth 100000
namespace Go.Fx
open Go Go.RowKit
theorem sane32 : m10_overflightlaw32_sane = some true := by decide +kernel
theorem m30_some (p : XProblem) (lim : Int) (h : p.variables.length ≤ 999) : ∃ v, m30_overflightref27_Many p lim = some v := by
  unfold m30_overflightref27_Many
  obtain ⟨fu, hfu⟩ : ∃ n : Nat, n = 1000000 := ⟨_, rfl⟩
  rw [← hfu]
  have main : ∀ (fuel i : Nat) (n : Int), i ≤ p.variables.length → p.variables.length - i < fuel → ∃ v, loop2 (m30_overflightref27_Many_B0 p lim) fuel n (i : Int) = some v := by
    intro fuel
    induction fuel with
    | zero => intro i n _ h; omega
    | succ m ih =>
      intro i n h1 h2
      rw [loop2_succ]
      unfold m30_overflightref27_Many_B0
      by_cases h3 : i < p.variables.length
      · simp only [ltBd h3, inBd h3, cond_true, jn_eq, ck_True]
        cases decide (n < lim)
        · exact ⟨_, rfl⟩
        · simp only [cond_true]
          rw [wrapS (i := i) (by omega)]
          exact ih (i + 1) _ (by omega) (by omega)
      · have : decide ((i : Int) < (p.variables.length : Int)) = false := by simpa using h3
        simp only [this, cond_false, jn_eq]; exact ⟨_, rfl⟩
  exact main fu 0 1 (by omega) (by omega)
/-- what is known of a small problem -/
structure Small (p : XProblem) : Prop where
  cells : p.cells.length ≤ 12
  caps : p.capacity.length ≤ 4
  vars : p.variables.length ≤ 6
  row : ∀ r ∈ p.capacity, r.length ≤ 16
  var : ∀ v ∈ p.variables, v.leaves.length ≤ 8 ∧ v.choices.length ≤ 8 ∧ ∀ c ∈ v.choices, c.uses.length ≤ 12
theorem m18_eq {p : XProblem} (hp : smXProblem p) : ∃ b, m18_overflightref27_Few p = some b ∧ (b = true → Small p) := by
  obtain ⟨s1, s2, s3⟩ := hp
  unfold m18_overflightref27_Few
  simp only [jn_eq]
  by_cases a1 : (12 : Int) < (p.cells.length : Int)
  · exact ⟨false, by simp [a1], by simp⟩
  by_cases a2 : (4 : Int) < (p.capacity.length : Int)
  · exact ⟨false, by simp [a1, a2], by simp⟩
  by_cases a3 : (6 : Int) < (p.variables.length : Int)
  · exact ⟨false, by simp [a1, a2, a3], by simp⟩
  simp only [a1, a2, a3, decide_false, cond_false]
  obtain ⟨mn, hmn⟩ := m30_some p 2000 (by omega)
  have ok : ∀ v : XVariable, Bool := fun v => !(decide ((8 : Int) < (v.leaves.length : Int))) && (!(decide ((8 : Int) < (v.choices.length : Int))) && v.choices.all fun c => !(decide ((12 : Int) < (c.uses.length : Int))))
  have vars : loop1 (m18_overflightref27_Few_B1 p) (((p.variables.length : Int) - 0).toNat + 1) 0 = bif (p.variables.all fun v => !(decide ((8 : Int) < (v.leaves.length : Int))) && (!(decide ((8 : Int) < (v.choices.length : Int))) && v.choices.all fun c => !(decide ((12 : Int) < (c.uses.length : Int))))) then some (decide (mn < 2000)) else some false := by
    refine all_up _ (some false) _ (sm_len s3) ?_ ?_ (by omega)
    · intro sf; unfold m18_overflightref27_Few_B1; simp only [ltE, cond_false, hmn, Option.bind_some]
    · intro sf i v h1 h2 h3
      unfold m18_overflightref27_Few_B1
      have hv := s3.2 v (ge0 h2)
      simp only [Int.toNat_natCast, getD_of h2, ltBd h1, inBd h1, ck_True, cond_true, jn_eq]
      rw [all_up (B := m18_overflightref27_Few_B2 p (i : Int) sf) (l := v.choices) (fun c => !(decide ((12 : Int) < (c.uses.length : Int)))) (some false) (sf ((i : Int) + 1)) (sm_len hv.2.2.2) ?_ ?_ (by omega)]
      · cases decide ((8 : Int) < (v.leaves.length : Int)) <;> cases decide ((8 : Int) < (v.choices.length : Int)) <;> rfl
      · intro sf'; unfold m18_overflightref27_Few_B2; simp only [Int.toNat_natCast, getD_of h2, ltE, cond_false, h3]
      · intro sf' j c h4 h5 h6
        unfold m18_overflightref27_Few_B2
        simp only [Int.toNat_natCast, getD_of h2, getD_of h5, ltBd h4, inBd h4, ck_True, cond_true, h6]
        cases decide ((12 : Int) < (c.uses.length : Int)) <;> rfl
  rw [all_up (B := m18_overflightref27_Few_B0 p) (l := p.capacity) (fun r => !(decide ((16 : Int) < (r.length : Int)))) (some false) (bif (p.variables.all fun v => !(decide ((8 : Int) < (v.leaves.length : Int))) && (!(decide ((8 : Int) < (v.choices.length : Int))) && v.choices.all fun c => !(decide ((12 : Int) < (c.uses.length : Int))))) then some (decide (mn < 2000)) else some false) (sm_len s2) ?_ ?_ (by omega)]
  · cases hc : (p.capacity.all fun r => !(decide ((16 : Int) < (r.length : Int))))
    · exact ⟨false, rfl, by simp⟩
    cases hv : (p.variables.all fun v => !(decide ((8 : Int) < (v.leaves.length : Int))) && (!(decide ((8 : Int) < (v.choices.length : Int))) && v.choices.all fun c => !(decide ((12 : Int) < (c.uses.length : Int)))))
    · exact ⟨false, rfl, by simp⟩
    refine ⟨_, rfl, fun _ => ⟨by omega, by omega, by omega, fun r hr => ?_, fun v hw => ?_⟩⟩
    · have := List.all_eq_true.1 hc r hr
      simp at this; omega
    · have := List.all_eq_true.1 hv v hw
      simp only [Bool.and_eq_true, Bool.not_eq_true', decide_eq_false_iff_not, List.all_eq_true] at this
      exact ⟨by omega, by omega, fun c hc => by have := this.2.2 c hc; omega⟩
  · intro sf; unfold m18_overflightref27_Few_B0; rw [vars]; simp only [ltE, cond_false]
  · intro sf i r h1 h2 h3
    unfold m18_overflightref27_Few_B0
    simp only [Int.toNat_natCast, getD_of h2, ltBd h1, inBd h1, ck_True, cond_true, h3]
    cases decide ((16 : Int) < (r.length : Int)) <;> rfl
theorem m19_eq (r : XReason) : ∃ b, m19_overflightref32_Few r = some b ∧ (b = true → r.variables.length ≤ 20 ∧ r.places.length ≤ 60) := by
  unfold m19_overflightref32_Few
  by_cases h : (r.variables.length : Int) ≤ 20
  · refine ⟨decide ((r.places.length : Int) ≤ 60), by simp [h], fun h2 => ?_⟩
    simp at h2; omega
  · exact ⟨false, by simp [h], by simp⟩
/-! Part -/
/-- a place's capacity is set -/
def put1 (p : XProblem) (rows : List (List Int)) (y : XPlace) : List (List Int) :=
  rows.set y.leaf.toNat ((rows.getD y.leaf.toNat default).set y.cell.toNat ((p.capacity.getD y.leaf.toNat default).getD y.cell.toNat default))
def blank (p : XProblem) : List (List Int) := List.replicate p.capacity.length (List.replicate p.cells.length 4096)
def partOf (p : XProblem) (r : XReason) : XProblem := ⟨p.cells, r.places.foldl (put1 p) (blank p), r.variables.map fun i => p.variables.getD i.toNat default⟩
def Rect (n m : Nat) (rows : List (List Int)) : Prop := rows.length = n ∧ ∀ r ∈ rows, r.length = m
theorem Rect.put {p : XProblem} {n m : Nat} {rows : List (List Int)} (h : Rect n m rows) (y : XPlace) : Rect n m (put1 p rows y) := by
  unfold put1
  refine ⟨by rw [List.length_set]; exact h.1, fun r hr => ?_⟩
  by_cases hl : y.leaf.toNat < rows.length
  · rcases List.mem_or_eq_of_mem_set hr with h1 | h1
    · exact h.2 r h1
    · rw [h1, List.length_set, getD_of (List.getElem?_eq_getElem hl)]; exact h.2 _ (List.getElem_mem hl)
  · rw [List.set_eq_of_length_le (by omega)] at hr; exact h.2 r hr
theorem Rect.blank (p : XProblem) : Rect p.capacity.length p.cells.length (blank p) := by
  refine ⟨by simp [Fx.blank], fun r hr => ?_⟩
  rw [Fx.blank] at hr; rw [List.eq_of_mem_replicate hr]; simp
theorem okIdx_iff {n : Nat} {k : Int} : okIdx n k = true ↔ 0 ≤ k ∧ k < (n : Int) := by simp [okIdx]
theorem reason_idx {p : XProblem} {r : XReason} (h : okReason p r = true) : (∀ i ∈ r.variables, 0 ≤ i ∧ i < (p.variables.length : Int)) ∧ adj (fun x y => decide (x < y)) r.variables = true ∧
    (∀ x ∈ r.places, (0 ≤ x.leaf ∧ x.leaf < (p.capacity.length : Int)) ∧ 0 ≤ x.cell ∧ x.cell < (p.cells.length : Int)) ∧ adj pb r.places = true := by
  unfold okReason at h
  simp only [Bool.and_eq_true, List.all_eq_true, okPlace, okIdx_iff] at h
  exact ⟨h.1.1, h.1.2, h.2.1, h.2.2⟩
end Go.Fx
/- Chapter 32: what broken does: all ways through the choices of some variables, until it is told to stop. -/
set_option linter.unusedSimpArgs false
set_option linter.unusedVariables false
set_option maxRecDepth 100000
namespace Go.Fx
open Go Go.RowKit
section
variable {R α σ : Type}
/-- a loop in whatever order: what holds with the rest still to come leads to one answer -/
theorem mrng_inv [DecidableEq R] {b : (σ → Option R) → α → σ → Option R} {k : σ → Option R} (J : List α → σ → Prop) (R0 : Option R) (hz : ∀ s, J [] s → k s = R0)
    (hs : ∀ r1 r2 p s sf, J (r1 ++ p :: r2) s → (∀ s', J (r1 ++ r2) s' → sf s' = R0) → b sf p s = R0) : ∀ xs s, J xs s → mrng b k xs s = R0 := by
  intro xs
  generalize hn : xs.length = n
  induction n generalizing xs with
  | zero => intro s h; obtain rfl := List.length_eq_zero_iff.1 hn; exact hz s h
  | succ n ih =>
    intro s h
    have key : ∀ u ∈ (picks xs).map (fun p => b (mrngN b k n p.2) p.1 s), u = R0 := by
      intro u hu
      obtain ⟨p, hp, rfl⟩ := List.mem_map.1 hu
      obtain ⟨r1, r2, e1, e2⟩ := mem_picks.1 hp
      have hl : p.2.length = n := by have := mem_picks_length hp; omega
      rw [e1] at h
      refine hs r1 r2 p.1 s _ h fun s' h' => ?_
      rw [← e2] at h'
      have := ih p.2 hl s' h'
      unfold mrng at this; rw [hl] at this; exact this
    have hne : (picks xs).map (fun p => b (mrngN b k n p.2) p.1 s) ≠ [] := by
      intro e2
      have e2 : picks xs = [] := List.map_eq_nil_iff.1 e2
      cases xs with
      | nil => cases hn
      | cons x t => simp [picks] at e2
    unfold mrng
    rw [hn]
    show allSame ((picks xs).map fun p => b (mrngN b k n p.2) p.1 s) = _
    cases e : R0 with
    | some a => rw [e] at key; exact allSame_iff.2 ⟨hne, key⟩
    | none =>
      rw [e] at key
      cases e2 : allSame ((picks xs).map fun p => b (mrngN b k n p.2) p.1 s) with
      | none => rfl
      | some a =>
        have := allSame_iff.1 e2
        cases hL : (picks xs).map fun p => b (mrngN b k n p.2) p.1 s with
        | nil => exact absurd hL this.1
        | cons u t =>
          have h1 := this.2 u (by rw [hL]; simp)
          have h2 := key u (by rw [hL]; simp)
          rw [h1] at h2; cases h2
end
abbrev PM := List (XPlace × Int)
/-- the value at a place -/
def vl (d : PM) (x : XPlace) : Int := (mget d x).getD 0
theorem vl_put (d : PM) (x y : XPlace) (n : Int) : vl (mput d x n) y = if x = y then n else vl d y := by
  unfold vl; rw [mget_put]; split <;> rfl
section
variable (cap : XPlace → Int)
/-- the places where more stands than there is room for -/
def badL (d : PM) : List (XPlace × Bool) := (d.filter fun q => decide (cap q.1 < q.2)).map fun q => (q.1, true)
theorem badL_ris {d : PM} (h : Ris d) : Ris (badL cap d) := by
  unfold badL Ris
  rw [List.pairwise_map]
  exact List.Pairwise.filter _ h
theorem badL_get (hc : ∀ x, 0 ≤ cap x) {d : PM} (h : Ris d) (x : XPlace) : mget (badL cap d) x = if cap x < vl d x then some true else none := by
  have hr := badL_ris cap h
  by_cases hx : cap x < vl d x
  · rw [if_pos hx]
    cases hg : mget d x with
    | none => have h0 := hc x; unfold vl at hx; rw [hg] at hx; simp at hx; omega
    | some n =>
      have hm := mget_some hg
      have hv : vl d x = n := by unfold vl; rw [hg]; rfl
      refine mget_of hr (List.mem_map.2 ⟨(x, n), List.mem_filter.2 ⟨hm, ?_⟩, rfl⟩)
      rw [hv] at hx; simpa using hx
  · rw [if_neg hx]
    cases hg : mget (badL cap d) x with
    | none => rfl
    | some b =>
      obtain ⟨q, hq, he⟩ := List.mem_map.1 (mget_some hg)
      obtain ⟨hq1, hq2⟩ := List.mem_filter.1 hq
      obtain ⟨e1, e2⟩ := Prod.mk.inj he
      have : mget d x = some q.2 := by rw [← e1]; exact mget_of h (by simpa using hq1)
      have hv : vl d x = q.2 := by unfold vl; rw [this]; rfl
      rw [← e1] at hx hv
      have := of_decide_eq_true hq2
      omega
theorem badL_ext (hc : ∀ x, 0 ≤ cap x) {d e : PM} (hd : Ris d) (he : Ris e) (h : ∀ x, vl d x = vl e x) : badL cap d = badL cap e :=
  mget_ext (badL_ris cap hd) (badL_ris cap he) fun x => by rw [badL_get cap hc hd, badL_get cap hc he, h x]
end
/-- m is added at its places, in some order -/
def addD (m : PM) (d : PM) : PM := m.foldl (fun e q => mput e q.1 (vl d q.1 + q.2)) d
def subD (m : PM) (d : PM) : PM := m.foldl (fun e q => mput e q.1 (vl d q.1 - q.2)) d
theorem fold_put (f : XPlace → Int → Int) : ∀ (m : PM) (e : PM), Ris e → (m.Pairwise fun a b => a.1 ≠ b.1) →
    Ris (m.foldl (fun e q => mput e q.1 (f q.1 q.2)) e) ∧ ∀ x, mget (m.foldl (fun e q => mput e q.1 (f q.1 q.2)) e) x = match mget m x with | some n => some (f x n) | none => mget e x := by
  intro m
  induction m with
  | nil => intro e he _; exact ⟨he, fun x => rfl⟩
  | cons q t ih =>
    intro e he hp
    rw [List.pairwise_cons] at hp
    obtain ⟨h1, h2⟩ := ih (mput e q.1 (f q.1 q.2)) (mput_ris he _ _) hp.2
    refine ⟨h1, fun x => ?_⟩
    rw [List.foldl_cons, h2 x]
    obtain ⟨k, n⟩ := q
    simp only [mget]
    by_cases hk : k = x
    · subst hk
      have : mget t k = none := by
        cases hg : mget t k with
        | none => rfl
        | some v => exact absurd rfl (hp.1 (k, v) (mget_some hg))
      rw [this, if_pos rfl, mget_put, if_pos rfl]
    · rw [if_neg hk]
      cases mget t x with
      | some v => rfl
      | none => simp only [mget_put, if_neg hk]
theorem ris_ne {V : Type} {m : List (XPlace × V)} (h : Ris m) : m.Pairwise fun a b => a.1 ≠ b.1 :=
  h.imp fun {a b} hab e => by rw [e] at hab; have := klt_asym hab; rw [hab] at this; cases this
theorem addD_ris {m d : PM} (hm : Ris m) (hd : Ris d) : Ris (addD m d) := (fold_put (fun x n => vl d x + n) m d hd (ris_ne hm)).1
theorem subD_ris {m d : PM} (hm : Ris m) (hd : Ris d) : Ris (subD m d) := (fold_put (fun x n => vl d x - n) m d hd (ris_ne hm)).1
theorem addD_get {m d : PM} (hm : Ris m) (hd : Ris d) (x : XPlace) : mget (addD m d) x = match mget m x with | some n => some (vl d x + n) | none => mget d x := (fold_put (fun x n => vl d x + n) m d hd (ris_ne hm)).2 x
theorem subD_get {m d : PM} (hm : Ris m) (hd : Ris d) (x : XPlace) : mget (subD m d) x = match mget m x with | some n => some (vl d x - n) | none => mget d x := (fold_put (fun x n => vl d x - n) m d hd (ris_ne hm)).2 x
theorem addD_vl {m d : PM} (hm : Ris m) (hd : Ris d) (x : XPlace) : vl (addD m d) x = vl d x + vl m x := by
  unfold vl; rw [addD_get hm hd]; cases mget m x <;> simp [vl]
theorem subD_vl {m d : PM} (hm : Ris m) (hd : Ris d) (x : XPlace) : vl (subD m d) x = vl d x - vl m x := by
  unfold vl; rw [subD_get hm hd]; cases mget m x <;> simp [vl]
/-- all ways to take one of each -/
def ways {α : Type} : List (List α) → List (List α)
  | [] => [[]]
  | ms :: t => ms.flatMap fun m => (ways t).map (m :: ·)
/-- what is called takes what it is handed, until it says false -/
def runB {β σ : Type} (D : β → σ → Option (Bool × σ)) : List β → σ → Option (Bool × σ)
  | [], s => some (true, s)
  | b :: t, s => (D b s).bind fun r => bif r.1 then runB D t r.2 else some (false, r.2)
theorem runB_append {β σ : Type} (D : β → σ → Option (Bool × σ)) : ∀ (l m : List β) (s : σ), runB D (l ++ m) s = (runB D l s).bind fun r => bif r.1 then runB D m r.2 else some (false, r.2)
  | [], m, s => rfl
  | b :: t, m, s => by
    simp only [List.cons_append, runB]
    cases D b s with
    | none => rfl
    | some r =>
      simp only [Option.bind_some]
      cases h : r.1
      · simp
      · simp only [cond_true]; exact runB_append D t m r.2
end Go.Fx
/- Chapter 32: broken, said plainly. -/
set_option linter.unusedSimpArgs false
set_option linter.unusedVariables false
set_option maxRecDepth 100000
namespace Go.Fx
open Go Go.RowKit
def capT (t : XTable) (x : XPlace) : Int := (t.p.capacity.getD x.leaf.toNat default).getD x.cell.toNat default
/-- a map of a table: places that are there, numbers that are small -/
structure GoodM (t : XTable) (m : PM) : Prop where
  ris : Ris m
  pl : ∀ q ∈ m, ((0 : Int) ≤ q.1.leaf ∧ q.1.leaf < (t.p.capacity.length : Int)) ∧ ((0 : Int) ≤ q.1.cell ∧ q.1.cell < ((t.p.capacity.getD q.1.leaf.toNat default).length : Int))
  sm : ∀ q ∈ m, 0 ≤ q.2 ∧ q.2 ≤ 8
theorem GoodM.vl {t : XTable} {m : PM} (h : GoodM t m) (x : XPlace) : 0 ≤ vl m x ∧ vl m x ≤ 8 := by
  unfold Fx.vl
  cases hg : mget m x with
  | none => simp
  | some n => exact h.sm _ (mget_some hg)
def J1 (f : XPlace → Int → Int) (cap : XPlace → Int) (m d : PM) (rest : PM) (s : List (XPlace × Bool) × PM) : Prop :=
  Ris s.2 ∧ s.1 = badL cap s.2 ∧ (rest.Pairwise fun a b => a.1 ≠ b.1) ∧ (∀ q ∈ rest, q ∈ m) ∧
  ∀ x, mget s.2 x = match mget m x with | some n => if x ∈ rest.map (·.1) then mget d x else some (f x n) | none => mget d x
theorem J1.next {f : XPlace → Int → Int} {cap : XPlace → Int} {m d r1 r2 : PM} {p : XPlace × Int} {s : List (XPlace × Bool) × PM} (hm : Ris m) (h : J1 f cap m d (r1 ++ p :: r2) s) {e : PM} {b : List (XPlace × Bool)}
    (he : Ris e) (hb : b = badL cap e) (hg : ∀ y, mget e y = if p.1 = y then some (f p.1 p.2) else mget s.2 y) : J1 f cap m d (r1 ++ r2) (b, e) := by
  obtain ⟨h1, h2, h3, h4, h5⟩ := h
  have hsub : (r1 ++ r2).Sublist (r1 ++ p :: r2) := List.Sublist.append (List.Sublist.refl _) (List.sublist_cons_self _ _)
  refine ⟨he, hb, h3.sublist hsub, fun q hq => h4 q (hsub.subset hq), fun x => ?_⟩
  have hp : mget m p.1 = some p.2 := mget_of hm (h4 p (by simp))
  have hnot : p.1 ∉ (r1 ++ r2).map (·.1) := by
    intro hc
    obtain ⟨q, hq, e⟩ := List.mem_map.1 hc
    rw [List.pairwise_append] at h3
    rcases List.mem_append.1 hq with hq | hq
    · exact h3.2.2 q hq p (List.mem_cons_self ..) e
    · exact (List.pairwise_cons.1 h3.2.1).1 q hq e.symm
  show mget e x = _
  rw [hg x]
  by_cases hx : p.1 = x
  · subst hx
    rw [if_pos rfl, hp]; simp only [hnot, if_false]
  · rw [if_neg hx, h5 x]
    have : x ∈ (r1 ++ p :: r2).map (·.1) ↔ x ∈ (r1 ++ r2).map (·.1) := by
      simp only [List.map_append, List.map_cons, List.mem_append, List.mem_cons]
      constructor
      · rintro (h | h | h)
        · exact .inl h
        · exact absurd h.symm hx
        · exact .inr h
      · rintro (h | h)
        · exact .inl h
        · exact .inr (.inr h)
    simp only [this]
theorem J1.at {f : XPlace → Int → Int} {cap : XPlace → Int} {m d r1 r2 : PM} {p : XPlace × Int} {s : List (XPlace × Bool) × PM} (hm : Ris m) (h : J1 f cap m d (r1 ++ p :: r2) s) : vl s.2 p.1 = vl d p.1 := by
  obtain ⟨h1, h2, h3, h4, h5⟩ := h
  have hp : mget m p.1 = some p.2 := mget_of hm (h4 p (by simp))
  have hmem : p.1 ∈ (r1 ++ p :: r2).map (·.1) := by simp
  unfold vl
  rw [h5 p.1, hp]; simp only [hmem, if_true]
section
variable {σ : Type} [DecidableEq σ] {t : XTable} (hc : ∀ x, 0 ≤ capT t x)
include hc
theorem addAll {K : List (XPlace × Bool) → PM → Option (Bool × List (XPlace × Bool) × PM × σ)} {m d : PM} (hm : GoodM t m) (hd : Ris d) (hb : ∀ x, 0 ≤ vl d x ∧ vl d x ≤ 1000000) :
    mrng2 (m76_reason_table__broken_1_B1 t) K m (badL (capT t) d) d = K (badL (capT t) (addD m d)) (addD m d) := by
  unfold mrng2
  refine mrng_inv (J1 (fun x n => vl d x + n) (capT t) m d) _ ?_ ?_ m (badL (capT t) d, d) ⟨hd, rfl, ris_ne hm.ris, fun q hq => hq, fun x => ?_⟩
  · rintro ⟨b, e⟩ ⟨h1, h2, _, _, h5⟩
    have : e = addD m d := mget_ext h1 (addD_ris hm.ris hd) fun x => by
      rw [addD_get hm.ris hd]; have h := h5 x; cases hg : mget m x with
      | none => rw [hg] at h; exact h
      | some n => rw [hg] at h; simpa using h
    simp only at h2
    rw [h2, this]
  · rintro r1 r2 ⟨x0, n0⟩ ⟨b, e⟩ sf h ih
    have hv : vl e x0 = vl d x0 := h.at hm.ris
    have hmem : (x0, n0) ∈ m := h.2.2.2.1 _ (by simp)
    have hpl := hm.pl _ hmem
    have hsm := hm.sm _ hmem
    have hbd := hb x0
    unfold m76_reason_table__broken_1_B1
    have hv' : (mget e x0).getD 0 = vl d x0 := hv
    have hw : IntKind.wrap .i64 (vl d x0 + n0) = vl d x0 + n0 := wrap_i64 (by simp only at hsm; omega) (by simp only at hsm; omega)
    simp only [hv', hw]
    rw [ck_eq hpl.1, ck_eq hpl.2]
    generalize hE : mput (mput e x0 (vl d x0)) x0 (vl d x0 + n0) = E
    have hER : Ris E := by rw [← hE]; exact mput_ris (mput_ris h.1 _ _) _ _
    have hEg : ∀ y, mget E y = if x0 = y then some (vl d x0 + n0) else mget e y := by
      intro y; rw [← hE, mget_put]; split
      · rfl
      · rw [mget_put, if_neg ‹_›]
    have hEv : (mget E x0).getD 0 = vl d x0 + n0 := by rw [hEg, if_pos rfl]; rfl
    have hEv2 : vl E x0 = vl d x0 + n0 := hEv
    rw [hEv]
    have hb0 : b = badL (capT t) e := h.2.1
    cases hcp : decide ((t.p.capacity.getD x0.leaf.toNat default).getD x0.cell.toNat default < vl d x0 + n0)
    · rw [cond_false]
      have hcp : ¬ (capT t x0 < vl d x0 + n0) := of_decide_eq_false hcp
      refine ih (b, E) (h.next hm.ris hER ?_ hEg)
      rw [hb0]
      refine mget_ext (badL_ris _ h.1) (badL_ris _ hER) fun y => ?_
      rw [badL_get _ hc h.1, badL_get _ hc hER]
      by_cases hy : x0 = y
      · subst hy
        simp only at hsm
        rw [hEv2, if_neg hcp, if_neg (by rw [hv]; omega)]
      · have : vl E y = vl e y := by unfold vl; rw [hEg, if_neg hy]
        rw [this]
    · rw [cond_true]
      have hcp : capT t x0 < vl d x0 + n0 := of_decide_eq_true hcp
      refine ih (mput b x0 true, E) (h.next hm.ris hER ?_ hEg)
      rw [hb0]
      refine mget_ext (mput_ris (badL_ris _ h.1) _ _) (badL_ris _ hER) fun y => ?_
      rw [mget_put, badL_get _ hc h.1, badL_get _ hc hER]
      by_cases hy : x0 = y
      · subst hy
        rw [hEv2, if_pos rfl, if_pos hcp]
      · have : vl E y = vl e y := by unfold vl; rw [hEg, if_neg hy]
        rw [this, if_neg hy]
  · show mget d x = _
    cases hg : mget m x with
    | none => rfl
    | some n =>
      have : x ∈ m.map (·.1) := List.mem_map.2 ⟨(x, n), mget_some hg, rfl⟩
      simp only [this, if_true]
theorem subAll {K : List (XPlace × Bool) → PM → Option (Bool × List (XPlace × Bool) × PM × σ)} {m d : PM} (hm : GoodM t m) (hd : Ris d) (hb : ∀ x, 0 ≤ vl d x ∧ vl d x ≤ 1000008) :
    mrng2 (m76_reason_table__broken_1_B2 t) K m (badL (capT t) d) d = K (badL (capT t) (subD m d)) (subD m d) := by
  unfold mrng2
  refine mrng_inv (J1 (fun x n => vl d x - n) (capT t) m d) _ ?_ ?_ m (badL (capT t) d, d) ⟨hd, rfl, ris_ne hm.ris, fun q hq => hq, fun x => ?_⟩
  · rintro ⟨b, e⟩ ⟨h1, h2, _, _, h5⟩
    have : e = subD m d := mget_ext h1 (subD_ris hm.ris hd) fun x => by
      rw [subD_get hm.ris hd]; have h := h5 x; cases hg : mget m x with
      | none => rw [hg] at h; exact h
      | some n => rw [hg] at h; simpa using h
    simp only at h2
    rw [h2, this]
  · rintro r1 r2 ⟨x0, n0⟩ ⟨b, e⟩ sf h ih
    have hv : vl e x0 = vl d x0 := h.at hm.ris
    have hmem : (x0, n0) ∈ m := h.2.2.2.1 _ (by simp)
    have hpl := hm.pl _ hmem
    have hsm := hm.sm _ hmem
    have hbd := hb x0
    unfold m76_reason_table__broken_1_B2
    have hv' : (mget e x0).getD 0 = vl d x0 := hv
    have hw : IntKind.wrap .i64 (vl d x0 - n0) = vl d x0 - n0 := wrap_i64 (by simp only at hsm; omega) (by simp only at hsm; omega)
    simp only [hv', hw]
    rw [ck_eq hpl.1, ck_eq hpl.2]
    generalize hE : mput (mput e x0 (vl d x0)) x0 (vl d x0 - n0) = E
    have hER : Ris E := by rw [← hE]; exact mput_ris (mput_ris h.1 _ _) _ _
    have hEg : ∀ y, mget E y = if x0 = y then some (vl d x0 - n0) else mget e y := by
      intro y; rw [← hE, mget_put]; split
      · rfl
      · rw [mget_put, if_neg ‹_›]
    have hEv : (mget E x0).getD 0 = vl d x0 - n0 := by rw [hEg, if_pos rfl]; rfl
    have hEv2 : vl E x0 = vl d x0 - n0 := hEv
    rw [hEv]
    have hb0 : b = badL (capT t) e := h.2.1
    cases hcp : decide (vl d x0 - n0 ≤ (t.p.capacity.getD x0.leaf.toNat default).getD x0.cell.toNat default)
    · rw [cond_false]
      have hcp : ¬ (vl d x0 - n0 ≤ capT t x0) := of_decide_eq_false hcp
      refine ih (b, E) (h.next hm.ris hER ?_ hEg)
      rw [hb0]
      refine mget_ext (badL_ris _ h.1) (badL_ris _ hER) fun y => ?_
      rw [badL_get _ hc h.1, badL_get _ hc hER]
      by_cases hy : x0 = y
      · subst hy
        simp only at hsm
        rw [hEv2, hv, if_pos (show capT t x0 < vl d x0 by omega), if_pos (show capT t x0 < vl d x0 - n0 by omega)]
      · have : vl E y = vl e y := by unfold vl; rw [hEg, if_neg hy]
        rw [this]
    · rw [cond_true]
      have hcp : vl d x0 - n0 ≤ capT t x0 := of_decide_eq_true hcp
      refine ih (mdel b x0, E) (h.next hm.ris hER ?_ hEg)
      rw [hb0]
      refine mget_ext (mdel_ris (badL_ris _ h.1) _) (badL_ris _ hER) fun y => ?_
      rw [mget_del, badL_get _ hc h.1, badL_get _ hc hER]
      by_cases hy : x0 = y
      · subst hy
        rw [hEv2, if_pos rfl, if_neg (by omega)]
      · have : vl E y = vl e y := by unfold vl; rw [hEg, if_neg hy]
        rw [this, if_neg hy]
  · show mget d x = _
    cases hg : mget m x with
    | none => rfl
    | some n =>
      have : x ∈ m.map (·.1) := List.mem_map.2 ⟨(x, n), mget_some hg, rfl⟩
      simp only [this, if_true]
end
end Go.Fx
/- Chapter 32: broken hands out the places that are not kept, for all ways. -/
set_option linter.unusedSimpArgs false
set_option linter.unusedVariables false
set_option maxRecDepth 100000
namespace Go.Fx
open Go Go.RowKit
/-- the sum of what stands at x -/
def sumW (w : List PM) (x : XPlace) : Int := (w.map fun m => vl m x).sum
theorem sumW_cons (m : PM) (w : List PM) (x : XPlace) : sumW (m :: w) x = vl m x + sumW w x := by simp [sumW]
section
variable {σ : Type} [DecidableEq σ] {t : XTable} (hc : ∀ x, 0 ≤ capT t x)
abbrev PhiB (t : XTable) (D : List (XPlace × Bool) → σ → Option (Bool × σ)) : (List Int → List (XPlace × Bool) → PM → σ → Option (Bool × List (XPlace × Bool) × PM × σ)) → List Int → List (XPlace × Bool) → PM → σ → Option (Bool × List (XPlace × Bool) × PM × σ) :=
  fun fx63 x64 d65 d66 s67 => m76_reason_table__broken_1 x64 D d65 t d66 fx63 s67
include hc
theorem brk (D : List (XPlace × Bool) → σ → Option (Bool × σ)) (hu : ∀ ms ∈ t.uses, ms.length < 9223372036854775807 ∧ ∀ m ∈ ms, GoodM t m) :
    ∀ (l : List Int) (fuel : Nat) (M : Int) (d : PM) (s0 : σ) (g : List PM → List (XPlace × Bool)), l.length < fuel → l.length < 9223372036854775807 → (∀ v ∈ l, 0 ≤ v ∧ v < (t.uses.length : Int)) → Ris d → (∀ x, 0 ≤ vl d x ∧ vl d x ≤ M) → M + 8 * (l.length : Int) ≤ 1000000 →
      (∀ w ∈ ways (l.map fun v => t.uses.getD v.toNat default), ∀ e, Ris e → (∀ x, vl e x = vl d x + sumW w x) → g w = badL (capT t) e) →
      ∀ r s', runB D ((ways (l.map fun v => t.uses.getD v.toNat default)).map g) s0 = some (r, s') →
        ∃ d', fix4 (PhiB t D) fuel l (badL (capT t) d) d s0 = some (r, badL (capT t) d', d', s') ∧ Ris d' ∧ ∀ x, vl d' x = vl d x := by
  intro l
  induction l with
  | nil =>
    intro fuel M d s0 g hf _ _ hd _ _ hg r s' hr
    obtain ⟨n, rfl⟩ : ∃ n, fuel = n + 1 := ⟨fuel - 1, by simp at hf; omega⟩
    refine ⟨d, ?_, hd, fun x => rfl⟩
    have e : g [] = badL (capT t) d := hg [] (by simp [ways]) d hd (fun x => by simp [sumW])
    simp only [List.map_nil, ways, List.map_cons, runB, e] at hr
    show m76_reason_table__broken_1 [] D (badL (capT t) d) t d _ s0 = _
    unfold m76_reason_table__broken_1
    simp only [List.length_nil, Int.natCast_zero, decide_true, cond_true]
    cases hD : D (badL (capT t) d) s0 with
    | none => rw [hD] at hr; cases hr
    | some q =>
      rw [hD] at hr
      simp only [Option.bind_some] at hr ⊢
      obtain ⟨a, b⟩ := q
      cases a
      · simp only [cond_false, Option.some.injEq, Prod.mk.injEq] at hr; obtain ⟨rfl, rfl⟩ := hr; rfl
      · simp only [cond_true, Option.some.injEq, Prod.mk.injEq] at hr; obtain ⟨rfl, rfl⟩ := hr; rfl
  | cons v l ih =>
    intro fuel M d s0 g hf hl64 hv hd hb hM hg r s' hr
    obtain ⟨n, rfl⟩ : ∃ n, fuel = n + 1 := ⟨fuel - 1, by simp at hf; omega⟩
    have hv0 := hv v (List.mem_cons_self ..)
    have hlt : v.toNat < t.uses.length := by omega
    obtain ⟨hmsl, hms⟩ := hu _ (List.getElem_mem hlt)
    have hget : t.uses.getD v.toNat default = t.uses[v.toNat] := getD_of (List.getElem?_eq_getElem hlt)
    show ∃ d', m76_reason_table__broken_1 (v :: l) D (badL (capT t) d) t d (fix4 (PhiB t D) n) s0 = _ ∧ _
    unfold m76_reason_table__broken_1
    have c0 : decide (((v :: l).length : Int) = 0) = false := by simp <;> omega
    rw [c0, cond_false]
    rw [ck_eq (by simp <;> omega), ck_eq (by simpa using hv0)]
    simp only [List.getD_cons_zero, hget]
    generalize hms0 : t.uses[v.toNat] = ms at *
    simp only [List.map_cons, hget, ways] at hr hg
    have hMl : M + 8 + 8 * (l.length : Int) ≤ 1000000 := by simp at hM; omega
    have loop : ∀ (rest : List PM) (i fl : Nat) (e : PM) (s : σ), ms.drop i = rest → i ≤ ms.length → rest.length < fl → Ris e → (∀ x, vl e x = vl d x) →
        runB D ((rest.flatMap fun m => (ways (l.map fun v => t.uses.getD v.toNat default)).map (m :: ·)).map g) s = some (r, s') →
        ∃ d', loop4 (m76_reason_table__broken_1_B0 (v :: l) t (fix4 (PhiB t D) n)) fl (i : Int) (badL (capT t) e) e s = some (r, badL (capT t) d', d', s') ∧ Ris d' ∧ ∀ x, vl d' x = vl d x := by
      intro rest
      induction rest with
      | nil =>
        intro i fl e s hdr hi hfl he hev hrun
        obtain ⟨k, rfl⟩ : ∃ k, fl = k + 1 := ⟨fl - 1, by simp at hfl; omega⟩
        have hil : i = ms.length := by have := congrArg List.length hdr; simp at this; omega
        simp only [List.flatMap_nil, List.map_nil, runB, Option.some.injEq, Prod.mk.injEq] at hrun
        obtain ⟨rfl, rfl⟩ := hrun
        refine ⟨e, ?_, he, hev⟩
        rw [loop4_succ, m76_reason_table__broken_1_B0]
        simp only [List.getD_cons_zero, hget, hms0, hil, ltE, cond_false]
      | cons m rest ihr =>
        intro i fl e s hdr hi hfl he hev hrun
        obtain ⟨k, rfl⟩ : ∃ k, fl = k + 1 := ⟨fl - 1, by simp at hfl; omega⟩
        have hil : i < ms.length := by have := congrArg List.length hdr; simp at this; omega
        have hmi : ms[i]? = some m := by rw [← List.head?_drop, hdr]; rfl
        have hdr2 : ms.drop (i + 1) = rest := by rw [← List.drop_drop, hdr]; rfl
        have hmm : m ∈ ms := ge0 hmi
        have hgm := hms m hmm
        rw [List.flatMap_cons, List.map_append, runB_append] at hrun
        rw [loop4_succ, m76_reason_table__broken_1_B0]
        simp only [List.getD_cons_zero, hget, hms0, ltBd hil, inBd hil, ck_True, cond_true, Int.toNat_natCast, getD_of hmi]
        rw [addAll hc hgm he (fun x => by rw [hev]; have := hb x; omega)]
        rw [m76_reason_table__broken_1_K1, ck_eq (by simp <;> omega)]
        simp only [List.getD_cons_zero, hget, hms0, Int.toNat_natCast, getD_of hmi]
        rw [show ((v :: l).drop 1).take ((v :: l).length - 1) = l by simp]
        cases hq : runB D (((ways (l.map fun v => t.uses.getD v.toNat default)).map (m :: ·)).map g) s with
        | none => rw [hq] at hrun; cases hrun
        | some q =>
          obtain ⟨r1, s1⟩ := q
          rw [hq] at hrun
          have hadd := fun x => addD_vl hgm.ris he x
          obtain ⟨d2, e1, e2, e3⟩ := ih n (M + 8) (addD m e) s (fun w => g (m :: w)) (by simp at hf; omega) (by simp at hl64; omega) (fun u hu => hv u (List.mem_cons_of_mem _ hu)) (addD_ris hgm.ris he)
            (fun x => by rw [hadd, hev]; have := hb x; have := hgm.vl x; omega) (by omega)
            (fun w hw f hf1 hf2 => hg (m :: w) (List.mem_flatMap.2 ⟨m, hmm, List.mem_map.2 ⟨w, hw, rfl⟩⟩) f hf1 fun x => by rw [hf2, hadd, hev, sumW_cons]; omega) r1 s1 (by rw [← hq, List.map_map]; rfl)
          rw [e1, Option.bind_some]
          simp only
          rw [subAll hc hgm e2 (fun x => by rw [e3, hadd, hev]; have := hb x; have := hgm.vl x; omega)]
          have hsub : ∀ x, vl (subD m d2) x = vl d x := fun x => by rw [subD_vl hgm.ris e2, e3, hadd, hev]; omega
          rw [m76_reason_table__broken_1_K2]
          simp only [Option.bind_some] at hrun
          cases r1
          · simp only [cond_false, Option.some.injEq, Prod.mk.injEq] at hrun
            obtain ⟨rfl, rfl⟩ := hrun
            exact ⟨subD m d2, rfl, subD_ris hgm.ris e2, hsub⟩
          · simp only [cond_true] at hrun
            simp only [Bool.not_true, cond_false]
            rw [wrapS (by omega)]
            exact ihr (i + 1) k (subD m d2) s1 hdr2 (by omega) (by simp at hfl; omega) (subD_ris hgm.ris e2) hsub hrun
    have hfin := loop ms 0 (((ms.length : Int) - 0).toNat + 1) d s0 rfl (by omega) (by omega) hd (fun x => rfl) hr
    exact hfin
/-- broken hands out, for each way, the places where more stands than there is room for -/
theorem m49_eq (D : List (XPlace × Bool) → σ → Option (Bool × σ)) (hu : ∀ ms ∈ t.uses, ms.length < 9223372036854775807 ∧ ∀ m ∈ ms, GoodM t m) {l : List Int} (hl : l.length ≤ 20) (hv : ∀ v ∈ l, 0 ≤ v ∧ v < (t.uses.length : Int)) {g : List PM → List (XPlace × Bool)}
    (hg : ∀ w ∈ ways (l.map fun v => t.uses.getD v.toNat default), ∀ e, Ris e → (∀ x, vl e x = sumW w x) → g w = badL (capT t) e) {s0 s' : σ} {r : Bool}
    (hr : runB D ((ways (l.map fun v => t.uses.getD v.toNat default)).map g) s0 = some (r, s')) : m49_reason_table__broken t l D s0 = some s' := by
  obtain ⟨fu, hfu⟩ : ∃ n : Nat, n = 1000000 := ⟨_, rfl⟩
  unfold m49_reason_table__broken
  rw [← hfu]
  obtain ⟨d', h1, h2, h3⟩ := brk hc D hu l fu 0 [] s0 g (by omega) (by omega) hv List.Pairwise.nil (fun x => by simp [vl, mget]) (by omega) (fun w hw e he hx => hg w hw e he fun x => by rw [hx]; simp [vl, mget]) r s' hr
  have e : badL (capT t) [] = [] := rfl
  rw [e] at h1
  show (fix4 (PhiB t D) fu l [] [] s0).bind _ = _
  rw [h1]; rfl
end
end Go.Fx
/- Chapter 32: the table of a problem. -/
set_option linter.unusedSimpArgs false
set_option linter.unusedVariables false
set_option maxRecDepth 100000
namespace Go.Fx
open Go Go.RowKit
theorem adj_pairwise {α : Type} {lt : α → α → Bool} (ht : ∀ a b c, lt a b = true → lt b c = true → lt a c = true) : ∀ {l : List α}, adj lt l = true → l.Pairwise fun a b => lt a b = true
  | [], _ => List.Pairwise.nil
  | [a], _ => List.pairwise_singleton ..
  | a :: b :: l, h => by
    simp only [adj, Bool.and_eq_true] at h
    have ih := adj_pairwise ht h.2
    refine List.pairwise_cons.2 ⟨fun x hx => ?_, ih⟩
    rcases List.mem_cons.1 hx with rfl | hx
    · exact h.1
    · exact ht _ _ _ h.1 ((List.pairwise_cons.1 ih).1 x hx)
theorem cb_iff (a b : XCell) : cb a b = true ↔ (a.airport = b.airport ∧ (a.index < b.index ∨ (a.index = b.index ∧ a.minute < b.minute))) ∨ (a.airport = false ∧ b.airport = true) := by
  unfold cb
  by_cases e1 : a.airport = b.airport
  · rw [if_pos e1]
    by_cases f1 : a.index = b.index
    · rw [if_pos f1]; simp only [decide_eq_true_eq, e1, f1, true_and, Int.lt_irrefl, false_or]
      constructor
      · exact fun h => .inl h
      · rintro (h | h)
        · exact h
        · rw [h.1] at h; cases h.2
    · rw [if_neg f1]; simp only [decide_eq_true_eq, e1, f1, true_and, false_and, or_false]
      constructor
      · exact fun h => .inl h
      · rintro (h | h)
        · exact h
        · rw [h.1] at h; cases h.2
  · rw [if_neg e1]; simp only [e1, false_and, false_or]
    cases ha : a.airport <;> cases hb : b.airport <;> simp_all
theorem cb_trans (a b c : XCell) (h1 : cb a b = true) (h2 : cb b c = true) : cb a c = true := by
  rw [cb_iff] at *
  rcases h1 with ⟨e1, h1⟩ | ⟨e1, h1⟩ <;> rcases h2 with ⟨e2, h2⟩ | ⟨e2, h2⟩
  · exact .inl ⟨e1.trans e2, by omega⟩
  · exact .inr ⟨e1.trans e2, h2⟩
  · exact .inr ⟨e1, e2 ▸ h1⟩
  · rw [h1] at e2; cases e2
theorem cb_irrefl (a : XCell) : cb a a = false := by unfold cb; simp
theorem cb_ne {a b : XCell} (h : cb a b = true) : a ≠ b := fun e => by rw [e, cb_irrefl] at h; cases h
/-- where a cell stands -/
def ix (cells : List XCell) (c : XCell) : Int := match cells.findIdx? (fun x => decide (x = c)) with | none => (-1 : Int) | some k => (k : Int)
theorem ix_mem {cells : List XCell} {c : XCell} (h : c ∈ cells) : ∃ k : Nat, ix cells c = (k : Int) ∧ cells[k]? = some c := by
  unfold ix
  cases hf : cells.findIdx? (fun x => decide (x = c)) with
  | none =>
    rw [List.findIdx?_eq_none_iff] at hf
    have := hf c h; simp at this
  | some k =>
    obtain ⟨hk, h1, _⟩ := List.findIdx?_eq_some_iff_getElem.1 hf
    exact ⟨k, rfl, by rw [List.getElem?_eq_getElem hk]; simpa using h1⟩
theorem ix_inj {cells : List XCell} {c d : XCell} (hc : c ∈ cells) (hd : d ∈ cells) (h : ix cells c = ix cells d) : c = d := by
  obtain ⟨k, e1, e2⟩ := ix_mem hc
  obtain ⟨j, e3, e4⟩ := ix_mem hd
  have : k = j := by omega
  subst this
  rw [e2] at e4; exact Option.some.inj e4
theorem ix_at {cells : List XCell} (hn : cells.Nodup) {k : Nat} {c : XCell} (h : cells[k]? = some c) : ix cells c = (k : Int) := by
  obtain ⟨j, e1, e2⟩ := ix_mem (ge0 h)
  rw [e1]
  have h1 : k < cells.length := (List.getElem?_eq_some_iff.1 h).1
  have h2 : j < cells.length := (List.getElem?_eq_some_iff.1 e2).1
  have h3 : cells[k] = c := (List.getElem?_eq_some_iff.1 h).2
  have h4 : cells[j] = c := (List.getElem?_eq_some_iff.1 e2).2
  have hp := List.pairwise_iff_getElem.1 hn
  rcases Nat.lt_trichotomy k j with hlt | he | hlt
  · exact absurd (h3.trans h4.symm) (hp k j h1 h2 hlt)
  · omega
  · exact absurd (h4.trans h3.symm) (hp j k h2 h1 hlt)
/-- what is known of a valid problem -/
structure Prob (p : XProblem) : Prop where
  cells : p.cells.Nodup
  row : ∀ r ∈ p.capacity, r.length = p.cells.length ∧ ∀ k ∈ r, 0 ≤ k ∧ k ≤ 4096
  leaf : ∀ v ∈ p.variables, ∀ k ∈ v.leaves, 0 ≤ k ∧ k < (p.capacity.length : Int)
  lnd : ∀ v ∈ p.variables, v.leaves.Nodup
  ch : ∀ v ∈ p.variables, 1 ≤ v.choices.length
  use : ∀ v ∈ p.variables, ∀ c ∈ v.choices, ∀ u ∈ c.uses, u.cell ∈ p.cells ∧ 1 ≤ u.places ∧ u.places ≤ 8
  und : ∀ v ∈ p.variables, ∀ c ∈ v.choices, c.uses.Pairwise fun a b => a.cell ≠ b.cell
  cap : 1 ≤ p.capacity.length
theorem Prob.of {p : XProblem} (h : okProb p = true) : Prob p := by
  unfold okProb at h
  simp only [Bool.and_eq_true, List.all_eq_true, okRow, okVar, okChoice, okUse, within, decide_eq_true_eq, Bool.not_eq_true', decide_eq_false_iff_not] at h
  obtain ⟨h1, h2, h3, h4, h5, h6⟩ := h
  refine ⟨?_, fun r hr => ⟨(h5 r hr).1, fun k hk => (h5 r hr).2 k hk⟩, fun v hv k hk => ?_, fun v hv => ?_, fun v hv => ?_, fun v hv c hc u hu => ?_, fun v hv c hc => ?_, by omega⟩
  · exact (adj_pairwise cb_trans h4.2).imp fun h => cb_ne h
  · have := (h6 v hv).2.2.1.1 k hk; omega
  · exact (adj_pairwise (lt := fun x y : Int => decide (x < y)) (by intro a b c; simp; omega) (h6 v hv).2.2.1.2).imp fun h => by simp at h; omega
  · have := (h6 v hv).2.1; omega
  · have := ((h6 v hv).2.2.2 c hc).2.2.2.1 u hu; exact ⟨this.1, this.2.1, this.2.2⟩
  · exact (adj_pairwise (lt := fun x y : XUse => cb x.cell y.cell) (fun _ _ _ h1 h2 => cb_trans _ _ _ h1 h2) ((h6 v hv).2.2.2 c hc).2.2.2.2).imp fun h => cb_ne h
/-- the places that a choice takes -/
def tabM (p : XProblem) (v : XVariable) (c : XChoice) : PM := c.uses.foldl (fun m u => v.leaves.foldl (fun m k => mput m ⟨k, ix p.cells u.cell⟩ u.places) m) []
def tabU (p : XProblem) : List (List PM) := p.variables.map fun v => v.choices.map fun c => tabM p v c
theorem m42_eq {p : XProblem} (hp : smXProblem p) (hs : Small p) (hk : Prob p) : m42_reason_tabled p = some ⟨p, tabU p⟩ := by
  unfold m42_reason_tabled
  have vars : ∀ map_1 : List (XCell × Int), (∀ c ∈ p.cells, (mget map_1 c).getD 0 = ix p.cells c) →
      loop2 (m42_reason_tabled_B1 p map_1) (((p.variables.length : Int) - 0).toNat + 1) 0 ([] : List (List PM)) = some ⟨p, tabU p⟩ := by
    intro map_1 hm
    refine (up_listA (B := m42_reason_tabled_B1 p map_1) (fuel := ((p.variables.length : Int) - 0).toNat + 1) (s := ([] : List (List PM))) (fun i (s : List (List PM)) => s.length = i) (fun _ t s => some (⟨p, s ++ t.map fun v => v.choices.map fun c => tabM p v c⟩ : XTable)) p.variables (sm_len hp.2.2) ?_ ?_ (by omega) rfl).trans (by simp [tabU])
    · intro sf s _; unfold m42_reason_tabled_B1; simp
    · intro sf i s v tv a1 a2 a3 a4 ih
      have hv := ge0 a2
      have sv := hs.var v hv
      unfold m42_reason_tabled_B1
      simp only [Int.toNat_natCast, getD_of a2, ltBd a1, inBd a1, ck_True, cond_true]
      refine (up_listB (B := m42_reason_tabled_B2 p map_1 (i : Int) s sf) (fuel := ((v.choices.length : Int) - 0).toNat + 1) (s := ([] : List PM)) (fun i (s : List PM) => s.length = i) (fun _ t l => some (⟨p, (s ++ [l ++ t.map fun c => tabM p v c]) ++ tv.map fun v => v.choices.map fun c => tabM p v c⟩ : XTable)) v.choices (by omega) ?_ ?_ (by omega) rfl).trans (by simp)
      · intro sf2 l e
        unfold m42_reason_tabled_B2
        simp only [Int.toNat_natCast, getD_of a2, ltE, cond_false]
        rw [ck_eq (by have := hs.vars; simp; omega), a3, ih _ (by simp [a4])]
        simp
      · intro sf2 j l c tc b1 b2 b3 b4 ih2
        have hc := ge0 b2
        have sc := sv.2.2 c hc
        unfold m42_reason_tabled_B2
        simp only [Int.toNat_natCast, getD_of a2, getD_of b2, ltBd b1, inBd b1, ck_True, cond_true]
        refine (up_listA (B := m42_reason_tabled_B3 p map_1 (i : Int) l (j : Int) sf2) (fuel := ((c.uses.length : Int) - 0).toNat + 1) (s := ([] : PM)) (fun _ _ => True) (fun _ t m => some (⟨p, (s ++ [(l ++ [t.foldl (fun m u => v.leaves.foldl (fun m k => mput m ⟨k, ix p.cells u.cell⟩ u.places) m) m]) ++ tc.map fun c => tabM p v c]) ++ tv.map fun v => v.choices.map fun c => tabM p v c⟩ : XTable)) c.uses (by omega) ?_ ?_ (by omega) trivial).trans (by simp [tabM])
        · intro sf3 m _
          unfold m42_reason_tabled_B3
          simp only [Int.toNat_natCast, getD_of a2, getD_of b2, ltE, cond_false]
          rw [ck_eq (by simp; omega), b3, ih2 _ (by simp [b4])]
          simp
        · intro sf3 k m u tu d1 d2 d3 _ ih3
          have hu := hk.use v hv c hc u (ge0 d2)
          unfold m42_reason_tabled_B3
          simp only [Int.toNat_natCast, getD_of a2, getD_of b2, getD_of d2, ltBd d1, inBd d1, ck_True, cond_true]
          refine (up_listA (B := m42_reason_tabled_B4 p map_1 (i : Int) (j : Int) (k : Int) sf3) (fuel := ((v.leaves.length : Int) - 0).toNat + 1) (s := m) (fun _ _ => True) (fun _ t m => some (⟨p, (s ++ [(l ++ [tu.foldl (fun m u => v.leaves.foldl (fun m k => mput m ⟨k, ix p.cells u.cell⟩ u.places) m) (t.foldl (fun m k => mput m ⟨k, ix p.cells u.cell⟩ u.places) m)]) ++ tc.map fun c => tabM p v c]) ++ tv.map fun v => v.choices.map fun c => tabM p v c⟩ : XTable)) v.leaves (by omega) ?_ ?_ (by omega) trivial).trans (by simp)
          · intro sf4 m' _
            unfold m42_reason_tabled_B4
            simp only [Int.toNat_natCast, getD_of a2, ltE, cond_false]
            rw [d3, ih3 _ trivial]; rfl
          · intro sf4 q m' lf tl f1 f2 f3 _ ih4
            unfold m42_reason_tabled_B4
            simp only [Int.toNat_natCast, getD_of a2, getD_of b2, getD_of d2, getD_of f2, ltBd f1, inBd f1, ck_True, cond_true, hm _ hu.1]
            rw [f3, ih4 _ trivial]; rfl
  refine up_listA (B := m42_reason_tabled_B0 p) (fuel := ((p.cells.length : Int) - 0).toNat + 1) (s := ([] : List (XCell × Int))) (fun i s => ∀ j c, j < i → p.cells[j]? = some c → mget s c = some (j : Int)) (fun _ _ _ => some ⟨p, tabU p⟩) p.cells (sm_len hp.1) ?_ ?_ (by omega) (fun j c h => by omega)
  · intro sf s hI
    unfold m42_reason_tabled_B0
    rw [vars s ?_]
    · simp only [ltE, cond_false]
    · intro c hc
      obtain ⟨k, e1, e2⟩ := ix_mem hc
      rw [hI k c (List.getElem?_eq_some_iff.1 e2).1 e2, e1]; rfl
  · intro sf i s c t e1 e2 e3 hI ih
    unfold m42_reason_tabled_B0
    simp only [Int.toNat_natCast, getD_of e2, ltBd e1, inBd e1, ck_True, cond_true]
    rw [e3]
    refine ih _ fun j c' hj hc' => ?_
    rw [mget_put]
    by_cases h : c = c'
    · subst h
      rw [if_pos rfl]
      have := ix_at hk.cells e2; have := ix_at hk.cells hc'
      congr 1; omega
    · rw [if_neg h]
      refine hI j c' ?_ hc'
      rcases Nat.lt_or_ge j i with hlt | hge
      · exact hlt
      · have : j = i := by omega
        subst this; rw [e2] at hc'; exact absurd (Option.some.inj hc') h
end Go.Fx
namespace Go.Fx
open Go Go.RowKit Go.Proofs
end Go.Fx
/- Chapter 32: a problem is the same as itself; what a part is made of. -/
set_option linter.unusedSimpArgs false
set_option linter.unusedVariables false
set_option maxRecDepth 100000
namespace Go.Fx
open Go Go.RowKit
theorem getD_sm {α : Type} [Inhabited α] {S : α → Prop} {l : List α} (h : ∀ x ∈ l, S x) (hd : S default) (i : Nat) : S (l.getD i default) := by
  cases hx : l[i]? with
  | none => rw [List.getD, hx]; exact hd
  | some x => rw [getD_of hx]; exact h x (ge0 hx)
end Go.Fx
/- Chapter 32: Proves, said plainly. -/
set_option linter.unusedSimpArgs false
set_option linter.unusedVariables false
set_option maxRecDepth 100000
namespace Go.Fx
open Go Go.RowKit
/-- what a choice takes of cell k -/
def useS (p : XProblem) (c : XChoice) (k : Int) : Int := (c.uses.map fun u => if ix p.cells u.cell = k then u.places else 0).sum
def takes (p : XProblem) (x : XPlace) (vc : XVariable × XChoice) : Int := if x.leaf ∈ vc.1.leaves then useS p vc.2 x.cell else 0
/-- what is taken of a place -/
def dem (p : XProblem) (w : List (XVariable × XChoice)) (x : XPlace) : Int := (w.map (takes p x)).sum
def capP (p : XProblem) (x : XPlace) : Int := (p.capacity.getD x.leaf.toNat default).getD x.cell.toNat default
theorem leaves_fold (q n : Int) : ∀ (ls : List Int) (m : PM), Ris m → Ris (ls.foldl (fun m k => mput m (⟨k, q⟩ : XPlace) n) m) ∧
    (∀ x : XPlace, vl (ls.foldl (fun m k => mput m (⟨k, q⟩ : XPlace) n) m) x = if x.leaf ∈ ls ∧ x.cell = q then n else vl m x) ∧
    ∀ e ∈ ls.foldl (fun m k => mput m (⟨k, q⟩ : XPlace) n) m, e ∈ m ∨ (e.1.leaf ∈ ls ∧ e.1.cell = q ∧ e.2 = n)
  | [], m, h => ⟨h, fun x => by simp, fun e he => .inl he⟩
  | k :: ls, m, h => by
    obtain ⟨h1, h2, h3⟩ := leaves_fold q n ls (mput m ⟨k, q⟩ n) (mput_ris h _ _)
    refine ⟨h1, fun x => ?_, fun e he => ?_⟩
    · rw [List.foldl_cons, h2 x, vl_put]
      by_cases hq : x.cell = q
      · by_cases hl : x.leaf ∈ ls
        · simp [hq, hl]
        · by_cases hk : x.leaf = k
          · have : (⟨k, q⟩ : XPlace) = x := by cases x; simp_all
            simp [hq, hl, hk, this]
          · have : (⟨k, q⟩ : XPlace) ≠ x := fun e => hk (by rw [← e])
            simp [hq, hl, hk, this]
      · have : (⟨k, q⟩ : XPlace) ≠ x := fun e => hq (by rw [← e])
        simp [hq, this]
    · rw [List.foldl_cons] at he
      rcases h3 e he with h4 | ⟨h4, h5, h6⟩
      · rcases (mput_mem h _ _ e).1 h4 with h5 | h5
        · right; subst h5; simp
        · exact .inl h5.1
      · exact .inr ⟨List.mem_cons_of_mem _ h4, h5, h6⟩
theorem uses_fold (p : XProblem) (ls : List Int) : ∀ (us : List XUse) (m : PM), Ris m → (∀ u ∈ us, u.cell ∈ p.cells) → (us.Pairwise fun a b => a.cell ≠ b.cell) → (∀ u ∈ us, ∀ k, vl m ⟨k, ix p.cells u.cell⟩ = 0) →
    Ris (us.foldl (fun m u => ls.foldl (fun m k => mput m ⟨k, ix p.cells u.cell⟩ u.places) m) m) ∧
    (∀ x : XPlace, vl (us.foldl (fun m u => ls.foldl (fun m k => mput m ⟨k, ix p.cells u.cell⟩ u.places) m) m) x = vl m x + if x.leaf ∈ ls then (us.map fun u => if ix p.cells u.cell = x.cell then u.places else 0).sum else 0) ∧
    ∀ e ∈ us.foldl (fun m u => ls.foldl (fun m k => mput m ⟨k, ix p.cells u.cell⟩ u.places) m) m, e ∈ m ∨ ∃ u ∈ us, e.1.leaf ∈ ls ∧ e.1.cell = ix p.cells u.cell ∧ e.2 = u.places
  | [], m, h, _, _, _ => ⟨h, fun x => by simp, fun e he => .inl he⟩
  | u :: us, m, h, hc, hp, hz => by
    obtain ⟨g1, g2, g3⟩ := leaves_fold (ix p.cells u.cell) u.places ls m h
    rw [List.pairwise_cons] at hp
    have hz' : ∀ u' ∈ us, ∀ k, vl (ls.foldl (fun m k => mput m ⟨k, ix p.cells u.cell⟩ u.places) m) ⟨k, ix p.cells u'.cell⟩ = 0 := by
      intro u' hu' k
      rw [g2]
      have : ix p.cells u'.cell ≠ ix p.cells u.cell := fun e => hp.1 u' hu' (ix_inj (hc u' (List.mem_cons_of_mem _ hu')) (hc u (List.mem_cons_self ..)) e).symm
      simp only [this, and_false, if_false]
      exact hz u' (List.mem_cons_of_mem _ hu') k
    obtain ⟨h1, h2, h3⟩ := uses_fold p ls us _ g1 (fun u hu => hc u (List.mem_cons_of_mem _ hu)) hp.2 hz'
    refine ⟨h1, fun x => ?_, fun e he => ?_⟩
    · rw [List.foldl_cons, h2 x, g2 x, List.map_cons, List.sum_cons]
      by_cases hl : x.leaf ∈ ls
      · by_cases hq : x.cell = ix p.cells u.cell
        · have : vl m x = 0 := by have := hz u (List.mem_cons_self ..) x.leaf; rw [← hq] at this; exact this
          simp only [hl, hq, and_self, if_true, this]; omega
        · have : ¬ (ix p.cells u.cell = x.cell) := fun e => hq e.symm
          simp only [hl, hq, and_false, if_false, this, if_true]; omega
      · simp only [hl, false_and, if_false]
    · rw [List.foldl_cons] at he
      rcases h3 e he with h4 | ⟨u', h4, h5⟩
      · rcases g3 e h4 with h5 | h5
        · exact .inl h5
        · exact .inr ⟨u, List.mem_cons_self .., h5⟩
      · exact .inr ⟨u', List.mem_cons_of_mem _ h4, h5⟩
theorem row_len {p : XProblem} (hk : Prob p) {k : Int} (h0 : 0 ≤ k) (h1 : k < (p.capacity.length : Int)) : (p.capacity.getD k.toNat default).length = p.cells.length := by
  rw [getD_of (List.getElem?_eq_getElem (show k.toNat < p.capacity.length by omega))]
  exact (hk.row _ (List.getElem_mem _)).1
theorem tab_good {p : XProblem} (hk : Prob p) {v : XVariable} (hv : v ∈ p.variables) {c : XChoice} (hc : c ∈ v.choices) (U : List (List PM)) : GoodM ⟨p, U⟩ (tabM p v c) ∧ ∀ x, vl (tabM p v c) x = takes p x (v, c) := by
  obtain ⟨h1, h2, h3⟩ := uses_fold p v.leaves c.uses [] List.Pairwise.nil (fun u hu => (hk.use v hv c hc u hu).1) (hk.und v hv c hc) (fun u hu k => rfl)
  refine ⟨⟨h1, fun q hq => ?_, fun q hq => ?_⟩, fun x => ?_⟩
  · obtain h | ⟨u, hu, e1, e2, e3⟩ := h3 q hq
    · cases h
    · have hl := hk.leaf v hv _ e1
      refine ⟨hl, ?_⟩
      show (0 : Int) ≤ q.1.cell ∧ q.1.cell < ((p.capacity.getD q.1.leaf.toNat default).length : Int)
      rw [row_len hk hl.1 hl.2, e2]
      obtain ⟨k, f1, f2⟩ := ix_mem (hk.use v hv c hc u hu).1
      have := (List.getElem?_eq_some_iff.1 f2).1
      omega
  · obtain h | ⟨u, hu, e1, e2, e3⟩ := h3 q hq
    · cases h
    · have := (hk.use v hv c hc u hu).2; omega
  · rw [show vl (tabM p v c) x = _ from h2 x]
    simp [vl, mget, takes, useS]
theorem ways_map {α β : Type} (f : α → β) : ∀ L : List (List α), ways (L.map (List.map f)) = (ways L).map (List.map f)
  | [] => rfl
  | l :: L => by
    simp only [List.map_cons, ways, ways_map f L, List.flatMap_map, List.map_flatMap, List.map_map]
    rfl
theorem mem_ways {α : Type} : ∀ {L : List (List α)} {w : List α}, w ∈ ways L → ∀ a ∈ w, ∃ l ∈ L, a ∈ l
  | [], w, h, a, ha => by simp [ways] at h; subst h; cases ha
  | l :: L, w, h, a, ha => by
    simp only [ways, List.mem_flatMap, List.mem_map] at h
    obtain ⟨m, hm, w', hw', rfl⟩ := h
    rcases List.mem_cons.1 ha with rfl | ha
    · exact ⟨l, List.mem_cons_self .., hm⟩
    · obtain ⟨l', h1, h2⟩ := mem_ways hw' a ha
      exact ⟨l', List.mem_cons_of_mem _ h1, h2⟩
/-- the choices of some variables, each with its variable -/
def pairsOf (p : XProblem) (l : List Int) : List (List (XVariable × XChoice)) := l.map fun i => (p.variables.getD i.toNat default).choices.map fun c => (p.variables.getD i.toNat default, c)
theorem mem_pairs {p : XProblem} {l : List Int} (hl : ∀ i ∈ l, 0 ≤ i ∧ i < (p.variables.length : Int)) {w : List (XVariable × XChoice)} (hw : w ∈ ways (pairsOf p l)) : ∀ vc ∈ w, vc.1 ∈ p.variables ∧ vc.2 ∈ vc.1.choices := by
  intro vc hvc
  obtain ⟨q, h1, h2⟩ := mem_ways hw vc hvc
  obtain ⟨i, hi, rfl⟩ := List.mem_map.1 h1
  obtain ⟨c, hc, rfl⟩ := List.mem_map.1 h2
  have := hl i hi
  refine ⟨?_, hc⟩
  show p.variables.getD i.toNat default ∈ p.variables
  rw [getD_of (List.getElem?_eq_getElem (show i.toNat < p.variables.length by omega))]
  exact List.getElem_mem _
theorem tabU_get {p : XProblem} {l : List Int} (hl : ∀ i ∈ l, 0 ≤ i ∧ i < (p.variables.length : Int)) : (l.map fun v => (tabU p).getD v.toNat default) = (pairsOf p l).map (List.map fun vc => tabM p vc.1 vc.2) := by
  unfold pairsOf
  rw [List.map_map]
  refine List.map_congr_left fun i hi => ?_
  have hlt : i.toNat < p.variables.length := by have := hl i hi; omega
  simp only [Function.comp, List.map_map]
  rw [getD_of (List.getElem?_eq_getElem hlt), tabU, getD_of (l := p.variables.map _) (x := p.variables[i.toNat].choices.map fun c => tabM p p.variables[i.toNat] c) (by rw [List.getElem?_map, List.getElem?_eq_getElem hlt]; rfl)]
  rfl
theorem cap_nonneg {p : XProblem} (hk : Prob p) (x : XPlace) : 0 ≤ capP p x := by
  unfold capP
  have : ∀ k ∈ p.capacity.getD x.leaf.toNat default, 0 ≤ k := getD_sm (S := fun r : List Int => ∀ k ∈ r, 0 ≤ k) (fun r hr k hkk => ((hk.row r hr).2 k hkk).1) (by intro k h; cases h) _
  exact getD_sm (S := fun k : Int => 0 ≤ k) this (by show (0 : Int) ≤ 0; omega) _
/-- broken over the table of a problem -/
theorem broken_eq {σ : Type} [DecidableEq σ] {p : XProblem} (hk : Prob p) (hs : Small p) {l : List Int} (hl : l.length ≤ 20) (hi : ∀ i ∈ l, 0 ≤ i ∧ i < (p.variables.length : Int)) (D : List (XPlace × Bool) → σ → Option (Bool × σ))
    {G : List (XVariable × XChoice) → List (XPlace × Bool)} (hG : ∀ w ∈ ways (pairsOf p l), ∀ e, Ris e → (∀ x, vl e x = dem p w x) → G w = badL (capP p) e) {s0 s' : σ} {r : Bool}
    (hr : runB D ((ways (pairsOf p l)).map G) s0 = some (r, s')) : m49_reason_table__broken ⟨p, tabU p⟩ l D s0 = some s' := by
  have hadd : ∀ w : List PM, (∀ m ∈ w, Ris m) → ∀ d, Ris d → Ris (w.foldl (fun d m => addD m d) d) ∧ ∀ x, vl (w.foldl (fun d m => addD m d) d) x = vl d x + sumW w x := by
    intro w
    induction w with
    | nil => intro _ d hd; exact ⟨hd, fun x => by simp [sumW]⟩
    | cons m w ih =>
      intro hm d hd
      obtain ⟨h1, h2⟩ := ih (fun m h => hm m (List.mem_cons_of_mem _ h)) (addD m d) (addD_ris (hm m (List.mem_cons_self ..)) hd)
      exact ⟨h1, fun x => by rw [List.foldl_cons, h2, addD_vl (hm m (List.mem_cons_self ..)) hd, sumW_cons]; omega⟩
  have hsum : ∀ w ∈ ways (pairsOf p l), ∀ x, sumW (w.map fun vc => tabM p vc.1 vc.2) x = dem p w x := by
    intro w hw x
    unfold sumW dem
    rw [List.map_map]
    congr 1
    refine List.map_congr_left fun vc hvc => ?_
    obtain ⟨h1, h2⟩ := mem_pairs hi hw vc hvc
    exact (tab_good hk h1 h2 (tabU p)).2 x
  have hris : ∀ w ∈ ways (pairsOf p l), ∀ m ∈ w.map (fun vc => tabM p vc.1 vc.2), Ris m := by
    intro w hw m hm
    obtain ⟨vc, hvc, rfl⟩ := List.mem_map.1 hm
    obtain ⟨h1, h2⟩ := mem_pairs hi hw vc hvc
    exact (tab_good hk h1 h2 (tabU p)).1.ris
  have hw : ways (l.map fun v => (tabU p).getD v.toNat default) = (ways (pairsOf p l)).map (List.map fun vc => tabM p vc.1 vc.2) := by rw [tabU_get hi, ways_map]
  refine m49_eq (t := ⟨p, tabU p⟩) (cap_nonneg hk) D ?_ hl ?_ (g := fun w => badL (capP p) (w.foldl (fun d m => addD m d) [])) ?_ (r := r) ?_
  · intro ms hms
    obtain ⟨v, hv, rfl⟩ := List.mem_map.1 hms
    refine ⟨by rw [List.length_map]; have := (hs.var v hv).2.1; omega, fun m hm => ?_⟩
    obtain ⟨c, hc, rfl⟩ := List.mem_map.1 hm
    exact (tab_good hk hv hc _).1
  · intro v hv; have := hi v hv; simpa [tabU] using this
  · intro w hww e he hx
    rw [hw] at hww
    obtain ⟨w', hw', rfl⟩ := List.mem_map.1 hww
    obtain ⟨h1, h2⟩ := hadd _ (hris w' hw') [] List.Pairwise.nil
    exact badL_ext _ (cap_nonneg hk) h1 he fun x => by rw [h2, hx]; simp [vl, mget]
  · rw [hw, List.map_map, ← hr]
    congr 1
    refine List.map_congr_left fun w' hw' => ?_
    obtain ⟨h1, h2⟩ := hadd _ (hris w' hw') [] List.Pairwise.nil
    exact (hG w' hw' _ h1 fun x => by rw [h2, hsum w' hw']; simp [vl, mget]).symm
theorem m77_any (s : List XPlace) (hl : s.length < 9223372036854775807) (f : XPlace → Option Bool) (h : XPlace → Bool) (hf : ∀ x ∈ s, f x = some (h x)) : m51_api_Place_ s f = some (s.any h) := by
  unfold m51_api_Place_ m77_api_Place_
  have key : ∃ i : Int, loop1 (m77_api_Place__B0 s f) (((s.length : Int) - 0).toNat + 1) 0 = some i ∧ decide (0 ≤ i) = s.any h := by
    rw [up_listI (B := m77_api_Place__B0 s f) (fun i t => some (match t.findIdx? h with | none => (-1 : Int) | some k => ((i + k : Nat) : Int))) s hl ?_ ?_ (by omega)]
    · refine ⟨_, rfl, ?_⟩
      cases hc : s.findIdx? h with
      | none =>
        rw [List.findIdx?_eq_none_iff] at hc
        have : s.any h = false := by rw [List.any_eq_false]; intro x hx; simpa using hc x hx
        simp [this]
      | some k =>
        have : s.any h = true := by
          rw [List.any_eq_true]
          obtain ⟨hk, h1, _⟩ := List.findIdx?_eq_some_iff_getElem.1 hc
          exact ⟨s[k], List.getElem_mem hk, by simpa using h1⟩
        simp [this]
    · intro sf; unfold m77_api_Place__B0; simp
    · intro sf i x t h1 h2 h3 ih
      unfold m77_api_Place__B0
      simp only [ltBd h1, inBd h1, ck_True, Int.toNat_natCast, getD_of h2, hf x (ge0 h2), Option.bind_some, h3, cond_true, List.findIdx?_cons]
      cases hw : h x
      · simp only [cond_false, Bool.false_eq_true, if_false]
        rw [ih]
        cases t.findIdx? h with
        | none => rfl
        | some k => simp; omega
      · simp
  obtain ⟨i, h1, h2⟩ := key
  rw [h1, Option.bind_some, h2]
/-- every way breaks one of the places -/
def provesB (p : XProblem) (r : XReason) : Bool := (ways (pairsOf p r.variables)).all fun w => r.places.any fun x => decide (capP p x < dem p w x)
theorem m17_eq {p : XProblem} {r : XReason} (hp : smXProblem p) (hr : smXReason r) (hs : Small p) (hv : r.variables.length ≤ 20) :
    m17_reason_Proves p r = some (bif okProb p then (bif okReason p r then (provesB p r, 0) else (false, 320)) else (false, 270)) := by
  unfold m17_reason_Proves
  rw [m23_eq hp hr]
  cases h1 : okProb p
  · rfl
  cases h2 : okReason p r
  · rfl
  have hk := Prob.of h1
  obtain ⟨i1, i2, i3, i4⟩ := reason_idx h2
  simp only [cond_true, Option.bind_some, ne_eq, not_true_eq_false, decide_false, cond_false]
  rw [m42_eq hp hs hk, Option.bind_some]
  let P : List (XVariable × XChoice) → Bool := fun w => r.places.any fun x => decide (capP p x < dem p w x)
  have hD : ∀ w e, Ris e → (∀ x, vl e x = dem p w x) → ∀ s, m50_reason_Proves_1 (badL (capP p) e) r s = some (P w, P w) := by
    intro w e he hx s
    unfold m50_reason_Proves_1
    rw [m77_any r.places (sm_len hr.2) _ (fun x => decide (capP p x < dem p w x)) (fun x _ => by
      unfold m52_reason_Proves_1_1
      rw [badL_get _ (cap_nonneg hk) he, hx]
      by_cases hlt : capP p x < dem p w x <;> simp [hlt])]
    rfl
  have hex : ∀ w ∈ ways (pairsOf p r.variables), ∃ e, Ris e ∧ ∀ x, vl e x = dem p w x := by
    intro w hw
    have : ∀ w' : List (XVariable × XChoice), (∀ vc ∈ w', vc.1 ∈ p.variables ∧ vc.2 ∈ vc.1.choices) → ∃ e, Ris e ∧ ∀ x, vl e x = dem p w' x := by
      intro w'
      induction w' with
      | nil => intro _; exact ⟨[], List.Pairwise.nil, fun x => by simp [vl, mget, dem]⟩
      | cons vc w' ih =>
        intro h
        obtain ⟨e, e1, e2⟩ := ih fun vc hvc => h vc (List.mem_cons_of_mem _ hvc)
        obtain ⟨a1, a2⟩ := h vc (List.mem_cons_self ..)
        obtain ⟨g1, g2⟩ := tab_good hk a1 a2 []
        refine ⟨addD (tabM p vc.1 vc.2) e, addD_ris g1.ris e1, fun x => ?_⟩
        rw [addD_vl g1.ris e1, e2, g2, show (vc.1, vc.2) = vc from rfl]
        simp only [dem, List.map_cons, List.sum_cons]; omega
    exact this w (mem_pairs i1 hw)
  let G : List (XVariable × XChoice) → List (XPlace × Bool) := fun w => if h : w ∈ ways (pairsOf p r.variables) then badL (capP p) (hex w h).choose else []
  have hG : ∀ w ∈ ways (pairsOf p r.variables), ∀ e, Ris e → (∀ x, vl e x = dem p w x) → G w = badL (capP p) e := by
    intro w hw e he hx
    have := (hex w hw).choose_spec
    show (if h : w ∈ ways (pairsOf p r.variables) then badL (capP p) (hex w h).choose else []) = _
    rw [dif_pos hw]
    exact badL_ext _ (cap_nonneg hk) this.1 he fun x => by rw [this.2, hx]
  have hrun : ∀ L : List (List (XVariable × XChoice)), (∀ w ∈ L, w ∈ ways (pairsOf p r.variables)) → runB (fun xs s => m50_reason_Proves_1 xs r s) (L.map G) true = some (L.all P, L.all P) := by
    intro L
    induction L with
    | nil => intro _; rfl
    | cons w L ih =>
      intro h
      obtain ⟨e, e1, e2⟩ := hex w (h w (List.mem_cons_self ..))
      simp only [List.map_cons, runB, hG w (h w (List.mem_cons_self ..)) e e1 e2, hD w e e1 e2, Option.bind_some, List.all_cons]
      cases P w
      · rfl
      · simp only [cond_true, Bool.true_and]; exact ih fun w hw => h w (List.mem_cons_of_mem _ hw)
  rw [broken_eq hk hs hv i1 _ hG (hrun _ fun w hw => hw)]
  rfl
end Go.Fx
/- Chapter 32: all choices of some variables, one after another. -/
set_option linter.unusedSimpArgs false
set_option linter.unusedVariables false
set_option maxRecDepth 100000
namespace Go.Fx
open Go Go.RowKit
/-- choices that are there -/
def Fit : List Int → List Int → Prop
  | [], [] => True
  | a :: c, n :: ns => (0 ≤ a ∧ a < n) ∧ Fit c ns
  | _, _ => False
theorem Fit.length : ∀ {c ns : List Int}, Fit c ns → c.length = ns.length
  | [], [], _ => rfl
  | a :: c, n :: ns, h => by simp [Fit.length h.2]
  | [], n :: ns, h => h.elim
  | a :: c, [], h => h.elim
end Go.Fx
namespace Go.Fx
open Go Go.RowKit Go.Proofs
end Go.Fx
/- Chapter 32: the next choices. -/
set_option linter.unusedSimpArgs false
set_option linter.unusedVariables false
set_option maxRecDepth 100000
namespace Go.Fx
open Go Go.RowKit
/-- how many choices each variable has -/
def cnV (vs : List XVariable) : List Int := vs.map fun v => (v.choices.length : Int)
def zs (k : Nat) : List Int := List.replicate k 0
end Go.Fx
namespace Go.Fx
open Go Go.RowKit Go.Proofs
end Go.Fx
/- Chapter 32: the reference's demand. -/
set_option linter.unusedSimpArgs false
set_option linter.unusedVariables false
set_option maxRecDepth 100000
namespace Go.Fx
open Go Go.RowKit
/-- the variables with what is chosen -/
def wayOf (p : XProblem) (ch : List Int) : List (XVariable × XChoice) := List.zipWith (fun v a => (v, v.choices.getD a.toNat default)) p.variables ch
theorem fit_get : ∀ {vs : List XVariable} {ch : List Int}, Fit ch (cnV vs) → ∀ {i : Nat} {v : XVariable}, vs[i]? = some v → ∃ a, ch[i]? = some a ∧ 0 ≤ a ∧ a < (v.choices.length : Int)
  | [], _, _, i, v, h => by simp at h
  | w :: vs, [], hf, _, _, _ => by simp [cnV, Fit] at hf
  | w :: vs, a :: ch, hf, 0, v, h => by
    simp only [cnV, List.map_cons, Fit] at hf
    simp at h; subst h
    exact ⟨a, rfl, hf.1.1, hf.1.2⟩
  | w :: vs, a :: ch, hf, i + 1, v, h => by
    simp only [cnV, List.map_cons, Fit] at hf
    obtain ⟨b, h1, h2⟩ := fit_get (vs := vs) hf.2 (i := i) (v := v) (by simpa using h)
    exact ⟨b, by simpa using h1, h2⟩
theorem way_get {p : XProblem} {ch : List Int} (hf : Fit ch (cnV p.variables)) {i : Nat} {vc : XVariable × XChoice} (h : (wayOf p ch)[i]? = some vc) :
    p.variables[i]? = some vc.1 ∧ ∃ a, ch[i]? = some a ∧ 0 ≤ a ∧ a < (vc.1.choices.length : Int) ∧ vc.1.choices.getD a.toNat default = vc.2 ∧ vc.2 ∈ vc.1.choices := by
  unfold wayOf at h
  rw [List.getElem?_zipWith] at h
  cases hv : p.variables[i]? with
  | none => rw [hv] at h; simp at h
  | some v =>
    obtain ⟨a, h1, h2, h3⟩ := fit_get hf hv
    rw [hv, h1] at h
    simp at h
    subst h
    refine ⟨rfl, a, h1, h2, h3, by simp [List.getD], ?_⟩
    rw [← List.getD_eq_getElem?_getD, getD_of (List.getElem?_eq_getElem (show a.toNat < v.choices.length by omega))]
    exact List.getElem_mem _
theorem way_len {p : XProblem} {ch : List Int} (hf : Fit ch (cnV p.variables)) : (wayOf p ch).length = ch.length ∧ ch.length = p.variables.length := by
  have := hf.length
  simp [cnV] at this
  refine ⟨?_, this⟩
  unfold wayOf; simp; omega
theorem way_mem {p : XProblem} {ch : List Int} (hf : Fit ch (cnV p.variables)) {vc : XVariable × XChoice} (h : vc ∈ wayOf p ch) : vc.1 ∈ p.variables ∧ vc.2 ∈ vc.1.choices := by
  obtain ⟨i, hi, e⟩ := List.getElem_of_mem h
  have := way_get hf (i := i) (vc := vc) (by rw [List.getElem?_eq_getElem hi, e])
  exact ⟨ge0 this.1, by obtain ⟨a, _, _, _, _, h⟩ := this.2; exact h⟩
/-- part of what a choice takes -/
theorem use_bound {p : XProblem} (us : List XUse) (k : Int) (hu : ∀ u ∈ us, 1 ≤ u.places ∧ u.places ≤ 8) : 0 ≤ (us.map fun u => if ix p.cells u.cell = k then u.places else 0).sum ∧ (us.map fun u => if ix p.cells u.cell = k then u.places else 0).sum ≤ 8 * (us.length : Int) := by
  induction us with
  | nil => simp
  | cons u us ih =>
    have h1 := ih fun u h => hu u (List.mem_cons_of_mem _ h)
    have h2 := hu u (List.mem_cons_self ..)
    simp only [List.map_cons, List.sum_cons, List.length_cons]
    split <;> omega
theorem takes_bound {p : XProblem} (hk : Prob p) (hs : Small p) {vc : XVariable × XChoice} (h1 : vc.1 ∈ p.variables) (h2 : vc.2 ∈ vc.1.choices) (x : XPlace) : 0 ≤ takes p x vc ∧ takes p x vc ≤ 96 := by
  unfold takes useS
  have h3 := use_bound (p := p) vc.2.uses x.cell fun u hu => (hk.use _ h1 _ h2 u hu).2
  have h4 := (hs.var _ h1).2.2 _ h2
  split <;> omega
theorem dem_bound {p : XProblem} (hk : Prob p) (hs : Small p) (x : XPlace) : ∀ {w : List (XVariable × XChoice)}, (∀ vc ∈ w, vc.1 ∈ p.variables ∧ vc.2 ∈ vc.1.choices) → 0 ≤ dem p w x ∧ dem p w x ≤ 96 * (w.length : Int)
  | [], _ => by simp [dem]
  | vc :: w, h => by
    have h1 := dem_bound hk hs x (w := w) fun vc hvc => h vc (List.mem_cons_of_mem _ hvc)
    obtain ⟨a, b⟩ := h vc (List.mem_cons_self ..)
    have h2 := takes_bound hk hs a b x
    simp only [dem, List.map_cons, List.sum_cons, List.length_cons] at *
    omega
/-- what is taken of the cells of a leaf -/
def demL (p : XProblem) (w : List (XVariable × XChoice)) (leaf : Int) : List Int := (List.range p.cells.length).map fun k : Nat => dem p w ⟨leaf, (k : Int)⟩
theorem list_ext_getD {l m : List Int} (h1 : l.length = m.length) (h : ∀ k, k < l.length → l.getD k default = m.getD k default) : l = m := by
  refine List.ext_getElem h1 fun k a b => ?_
  have := h k a
  rw [getD_of (List.getElem?_eq_getElem a), getD_of (List.getElem?_eq_getElem b)] at this
  exact this
theorem demL_get {p : XProblem} {w : List (XVariable × XChoice)} {leaf : Int} {k : Nat} (h : k < p.cells.length) : (demL p w leaf).getD k default = dem p w ⟨leaf, (k : Int)⟩ := by
  refine getD_of ?_
  unfold demL
  rw [List.getElem?_map, List.getElem?_range h]; rfl
theorem set_getD {l : List Int} {i j : Nat} {a : Int} (hi : i < l.length) : (l.set i a).getD j default = if i = j then a else l.getD j default := by
  by_cases h : i = j
  · subst h
    rw [if_pos rfl]; exact getD_of (by rw [List.getElem?_set_self hi])
  · rw [if_neg h, List.getD, List.getElem?_set_ne h]; rfl
end Go.Fx
/- Chapter 32: the reference's Overloads. -/
set_option linter.unusedSimpArgs false
set_option linter.unusedVariables false
set_option maxRecDepth 100000
namespace Go.Fx
open Go Go.RowKit
section
variable {R α σ : Type}
/-- a loop that comes to an end -/
theorem up_some {L : Nat → Int → σ → Option R} (I : Nat → σ → Prop) (N : Nat) (hN : N < 9223372036854775807)
    (hE : ∀ n s, I N s → ∃ v, L (n + 1) (N : Nat) s = some v)
    (hS : ∀ n (i : Nat) s, i < N → IntKind.i64.wrap ((i : Int) + 1) = (i : Int) + 1 → I i s → (∀ s, I (i + 1) s → ∃ v, L n ((i : Int) + 1) s = some v) → ∃ v, L (n + 1) (i : Int) s = some v) :
    ∀ (fuel : Nat) s, N < fuel → I 0 s → ∃ v, L fuel 0 s = some v := by
  have main : ∀ (d i fuel : Nat) s, N - i = d → i ≤ N → d < fuel → I i s → ∃ v, L fuel (i : Int) s = some v := by
    intro d
    induction d with
    | zero =>
      intro i fuel s h1 h2 h3 hI
      obtain ⟨n, rfl⟩ : ∃ n, fuel = n + 1 := ⟨fuel - 1, by omega⟩
      have : i = N := by omega
      subst this; exact hE n s hI
    | succ d ih =>
      intro i fuel s h1 h2 h3 hI
      obtain ⟨n, rfl⟩ : ∃ n, fuel = n + 1 := ⟨fuel - 1, by omega⟩
      exact hS n i s (by omega) (wrapS (by omega)) hI fun s' hs' => ih (i + 1) n s' (by omega) (by omega) (by omega) hs'
  intro fuel s h1 h2
  exact main N 0 fuel s (by omega) (by omega) h1 h2
end
theorem demL_len (p : XProblem) (w : List (XVariable × XChoice)) (leaf : Int) : (demL p w leaf).length = p.cells.length := by simp [demL]
theorem row_get {p : XProblem} (hk : Prob p) {i : Nat} (hi : i < p.capacity.length) : (p.capacity.getD i default).length = p.cells.length := by
  rw [getD_of (List.getElem?_eq_getElem hi)]; exact (hk.row _ (List.getElem_mem hi)).1
/-- the places of a leaf where more is taken than there is -/
def overR (p : XProblem) (w : List (XVariable × XChoice)) (leaf : Nat) (ks : List Nat) : List XPlace := (ks.filter fun k : Nat => decide (capP p ⟨(leaf : Int), (k : Int)⟩ < dem p w ⟨(leaf : Int), (k : Int)⟩)).map fun k : Nat => (⟨(leaf : Int), (k : Int)⟩ : XPlace)
def overL (p : XProblem) (w : List (XVariable × XChoice)) : List XPlace := (List.range p.capacity.length).flatMap fun leaf => overR p w leaf (List.range p.cells.length)
end Go.Fx
namespace Go.Fx
open Go Go.RowKit Go.Proofs
end Go.Fx
/- Chapter 32: the reference's Proves says the same. -/
set_option linter.unusedSimpArgs false
set_option linter.unusedVariables false
set_option maxRecDepth 100000
namespace Go.Fx
open Go Go.RowKit
theorem mem_ways_iff : ∀ {vs : List XVariable} {w : List (XVariable × XChoice)}, w ∈ ways (vs.map fun v => v.choices.map fun c => (v, c)) ↔ ∃ ch, Fit ch (cnV vs) ∧ w = List.zipWith (fun v a => (v, v.choices.getD a.toNat default)) vs ch
  | [], w => by
    simp only [List.map_nil, ways, List.mem_singleton, cnV]
    constructor
    · rintro rfl; exact ⟨[], trivial, rfl⟩
    · rintro ⟨ch, h, rfl⟩; rfl
  | v :: vs, w => by
    simp only [List.map_cons, ways, List.mem_flatMap, List.mem_map, cnV]
    constructor
    · rintro ⟨_, ⟨c, hc, rfl⟩, t, ht, rfl⟩
      obtain ⟨ch, h1, rfl⟩ := mem_ways_iff.1 ht
      obtain ⟨i, hi, e⟩ := List.getElem_of_mem hc
      refine ⟨(i : Int) :: ch, ⟨⟨by omega, by omega⟩, h1⟩, ?_⟩
      rw [List.zipWith_cons_cons, Int.toNat_natCast, getD_of (List.getElem?_eq_getElem hi), e]
    · rintro ⟨ch, h, rfl⟩
      cases ch with
      | nil => exact h.elim
      | cons a ch =>
        refine ⟨(v, v.choices.getD a.toNat default), ⟨v.choices.getD a.toNat default, ?_, rfl⟩, _, mem_ways_iff.2 ⟨ch, h.2, rfl⟩, rfl⟩
        have := h.1
        rw [getD_of (List.getElem?_eq_getElem (show a.toNat < v.choices.length by omega))]
        exact List.getElem_mem _
/-! the part of a problem -/
structure PartOk (p : XProblem) (r : XReason) : Prop where
  sm : smXProblem (partOf p r)
  small : Small (partOf p r)
  ok : okProb (partOf p r) = true
  cap : ∀ x : XPlace, (0 ≤ x.leaf ∧ x.leaf < (p.capacity.length : Int)) → (0 ≤ x.cell ∧ x.cell < (p.cells.length : Int)) → capP (partOf p r) x = if x ∈ r.places then capP p x else 4096
  capl : (partOf p r).capacity.length = p.capacity.length
theorem overL_ne {p : XProblem} {w : List (XVariable × XChoice)} : overL p w ≠ [] ↔ ∃ i k : Nat, i < p.capacity.length ∧ k < p.cells.length ∧ capP p ⟨(i : Int), (k : Int)⟩ < dem p w ⟨(i : Int), (k : Int)⟩ := by
  unfold overL overR
  constructor
  · intro h
    obtain ⟨x, hx⟩ := List.exists_mem_of_ne_nil _ h
    obtain ⟨i, hi, hx⟩ := List.mem_flatMap.1 hx
    obtain ⟨k, hk, rfl⟩ := List.mem_map.1 hx
    obtain ⟨h1, h2⟩ := List.mem_filter.1 hk
    exact ⟨i, k, List.mem_range.1 hi, List.mem_range.1 h1, of_decide_eq_true h2⟩
  · rintro ⟨i, k, h1, h2, h3⟩ he
    have : (⟨(i : Int), (k : Int)⟩ : XPlace) ∈ ([] : List XPlace) := by
      rw [← he]
      exact List.mem_flatMap.2 ⟨i, List.mem_range.2 h1, List.mem_map.2 ⟨k, List.mem_filter.2 ⟨List.mem_range.2 h2, decide_eq_true h3⟩, rfl⟩⟩
    cases this
end Go.Fx
namespace Go.Fx
open Go Go.RowKit Go.Proofs
end Go.Fx
/- Chapter 32: problem.Overloads, said plainly. -/
set_option linter.unusedSimpArgs false
set_option linter.unusedVariables false
set_option maxRecDepth 100000
namespace Go.Fx
open Go Go.RowKit
/-- the leaves and the uses of a way, in order -/
def usesL (w : List (XVariable × XChoice)) : List (Int × XUse) := w.flatMap fun vc => vc.1.leaves.flatMap fun k => vc.2.uses.map fun u => (k, u)
theorem m84_eq {p : XProblem} (hs : Small p) {ch : List Int} (hf : Fit ch (cnV p.variables)) : m84_problem_uses p ch = some (usesL (wayOf p ch)) := by
  obtain ⟨l1, l2⟩ := way_len hf
  have hv6 := hs.vars
  have main : m100_problem_uses_1 ch p = some (usesL (wayOf p ch)) := by
    unfold m100_problem_uses_1
    rw [show (((ch.length : Int) - 0).toNat + 1) = ((((wayOf p ch).length : Int) - 0).toNat + 1) by rw [l1]]
    refine up_list0 (B := m100_problem_uses_1_B0 ch p) (fun t => some (usesL t)) (wayOf p ch) (by omega) ?_ ?_ (by omega)
    · intro sf; unfold m100_problem_uses_1_B0; rw [l1]; simp [usesL]
    · intro sf i vc t a1 a2 a3 ih
      obtain ⟨v1, a, v2, v3, v4, v5, v6⟩ := way_get hf a2
      have hvm := ge0 v1
      have hvl : i < p.variables.length := (List.getElem?_eq_some_iff.1 v1).1
      have hchl : i < ch.length := by omega
      have hsv := hs.var _ hvm
      rw [m100_problem_uses_1_B0]
      simp only [ltBd hchl, inBd hchl, inBd hvl, ck_True, cond_true, Int.toNat_natCast, getD_of v1]
      refine (up_list0 (B := m100_problem_uses_1_B1 ch p (i : Int) sf) (fuel := ((vc.1.leaves.length : Int) - 0).toNat + 1) (fun tl => some ((tl.flatMap fun k => vc.2.uses.map fun u => (k, u)) ++ usesL t)) vc.1.leaves (by omega) ?_ ?_ (by omega)).trans (by simp [usesL])
      · intro sf'; unfold m100_problem_uses_1_B1; simp only [Int.toNat_natCast, getD_of v1, ltE, cond_false, a3, ih]; simp
      · intro sf' j k tl b1 b2 b3 ih'
        rw [m100_problem_uses_1_B1]
        simp only [Int.toNat_natCast, getD_of v1, getD_of v2, v5, ltBd b1, inBd b1, inBd hvl, ck_True, cond_true]
        rw [ck_eq ⟨v3, v4⟩]
        refine (up_list0 (B := m100_problem_uses_1_B2 ch p (i : Int) (j : Int) sf') (fuel := ((vc.2.uses.length : Int) - 0).toNat + 1) (fun tu => some ((tu.map fun u => (k, u)) ++ ((tl.flatMap fun k => vc.2.uses.map fun u => (k, u)) ++ usesL t))) vc.2.uses (by have := hsv.2.2 _ v6; omega) ?_ ?_ (by omega)).trans (by simp)
        · intro sf''; unfold m100_problem_uses_1_B2; simp only [Int.toNat_natCast, getD_of v1, getD_of v2, v5, ltE, cond_false, b3, ih']; simp
        · intro sf'' q u tu c1 c2 c3 ih''
          rw [m100_problem_uses_1_B2]
          simp only [Int.toNat_natCast, getD_of v1, getD_of v2, getD_of b2, v5, getD_of c2, ltBd c1, inBd c1, ck_True, cond_true, c3, ih'']
          rfl
  unfold m84_problem_uses
  rw [main]; rfl
def sumU (p : XProblem) (L : List (Int × XUse)) (x : XPlace) : Int := (L.map fun e => if e.1 = x.leaf ∧ ix p.cells e.2.cell = x.cell then e.2.places else 0).sum
theorem sumU_append (p : XProblem) (L M : List (Int × XUse)) (x : XPlace) : sumU p (L ++ M) x = sumU p L x + sumU p M x := by simp [sumU, List.sum_append]
theorem sumU_one (p : XProblem) (us : List XUse) (k : Int) (x : XPlace) : sumU p (us.map fun u => (k, u)) x = if k = x.leaf then (us.map fun u => if ix p.cells u.cell = x.cell then u.places else 0).sum else 0 := by
  unfold sumU
  rw [List.map_map]
  by_cases h : k = x.leaf
  · simp only [h, true_and, if_true, Function.comp_def]
  · simp only [h, false_and, if_false, Function.comp_def]
    induction us with
    | nil => rfl
    | cons u us ih => simp only [List.map_cons, List.sum_cons, ih]; rfl
theorem sumU_leaves (p : XProblem) (us : List XUse) (x : XPlace) : ∀ ls : List Int, ls.Nodup → sumU p (ls.flatMap fun k => us.map fun u => (k, u)) x = if x.leaf ∈ ls then (us.map fun u => if ix p.cells u.cell = x.cell then u.places else 0).sum else 0
  | [], _ => by simp [sumU]
  | k :: ls, h => by
    have hn := List.nodup_cons.1 h
    rw [List.flatMap_cons, sumU_append, sumU_one, sumU_leaves p us x ls hn.2]
    by_cases hk : k = x.leaf
    · subst hk; simp [hn.1]
    · have : ¬ x.leaf = k := fun e => hk e.symm
      simp [hk, this]
theorem sumU_uses {p : XProblem} : ∀ {w : List (XVariable × XChoice)}, (∀ vc ∈ w, vc.1.leaves.Nodup) → ∀ x, sumU p (usesL w) x = dem p w x
  | [], _, x => by simp [usesL, sumU, dem]
  | vc :: w, h, x => by
    have e : usesL (vc :: w) = (vc.1.leaves.flatMap fun k => vc.2.uses.map fun u => (k, u)) ++ usesL w := by simp [usesL]
    rw [e, sumU_append, sumU_leaves _ _ _ _ (h vc (List.mem_cons_self ..)), sumU_uses (fun vc hvc => h vc (List.mem_cons_of_mem _ hvc)) x]
    simp [dem, takes, useS]
theorem sumU_nonneg {p : XProblem} {L : List (Int × XUse)} (h : ∀ e ∈ L, 0 ≤ e.2.places) (x : XPlace) : 0 ≤ sumU p L x := by
  induction L with
  | nil => simp [sumU]
  | cons e L ih =>
    have h1 := ih fun e he => h e (List.mem_cons_of_mem _ he)
    have h2 := h e (List.mem_cons_self ..)
    simp only [sumU, List.map_cons, List.sum_cons] at *
    split <;> omega
theorem mem_usesL {w : List (XVariable × XChoice)} {e : Int × XUse} (h : e ∈ usesL w) : ∃ vc ∈ w, e.1 ∈ vc.1.leaves ∧ e.2 ∈ vc.2.uses := by
  obtain ⟨vc, h1, h2⟩ := List.mem_flatMap.1 h
  obtain ⟨k, h3, h4⟩ := List.mem_flatMap.1 h2
  obtain ⟨u, h5, rfl⟩ := List.mem_map.1 h4
  exact ⟨vc, h1, h3, h5⟩
/-- what is taken of all cells in all leaves -/
def demR (p : XProblem) (w : List (XVariable × XChoice)) : List (List Int) := (List.range p.capacity.length).map fun i : Nat => demL p w (i : Int)
theorem rows_ext {n m : Nat} {a b : List (List Int)} (ha : Rect n m a) (hb : Rect n m b) (h : ∀ i k, i < n → k < m → (a.getD i default).getD k default = (b.getD i default).getD k default) : a = b := by
  refine List.ext_getElem (ha.1.trans hb.1.symm) fun i h1 h2 => ?_
  have e1 := ha.2 _ (List.getElem_mem h1)
  have e2 := hb.2 _ (List.getElem_mem h2)
  refine list_ext_getD (e1.trans e2.symm) fun k hk => ?_
  have := h i k (by rw [← ha.1]; exact h1) (by omega)
  rwa [getD_of (List.getElem?_eq_getElem h1), getD_of (List.getElem?_eq_getElem h2)] at this
theorem demR_rect (p : XProblem) (w : List (XVariable × XChoice)) : Rect p.capacity.length p.cells.length (demR p w) := by
  refine ⟨by simp [demR], fun r hr => ?_⟩
  obtain ⟨i, _, rfl⟩ := List.mem_map.1 hr
  exact demL_len _ _ _
theorem demR_row {p : XProblem} {w : List (XVariable × XChoice)} {i : Nat} (h : i < p.capacity.length) : (demR p w).getD i default = demL p w (i : Int) :=
  getD_of (by unfold demR; rw [List.getElem?_map, List.getElem?_range h]; rfl)
theorem set_midL {α : Type} {u z : List α} {a b : α} {n : Nat} (h : n = u.length) : (u ++ a :: z).set n b = u ++ b :: z := by subst h; simp
theorem m75_eq {p : XProblem} (hp : smXProblem p) (hk : Prob p) (hs : Small p) {ch : List Int} (hf : Fit ch (cnV p.variables)) : m75_problem_demand p ch = some (demR p (wayOf p ch)) := by
  have hc := hs.cells; have hcap := hs.caps
  have hway := fun vc (h : vc ∈ wayOf p ch) => way_mem hf h
  have hU : ∀ e ∈ usesL (wayOf p ch), (0 ≤ e.1 ∧ e.1 < (p.capacity.length : Int)) ∧ e.2.cell ∈ p.cells ∧ 1 ≤ e.2.places ∧ e.2.places ≤ 8 := by
    intro e he
    obtain ⟨vc, h1, h2, h3⟩ := mem_usesL he
    obtain ⟨a1, a2⟩ := hway vc h1
    exact ⟨hk.leaf _ a1 _ h2, hk.use _ a1 _ a2 _ h3⟩
  have hsum := sumU_uses (p := p) (w := wayOf p ch) fun vc h => hk.lnd _ (hway vc h).1
  have hbd : ∀ x, sumU p (usesL (wayOf p ch)) x ≤ 576 := by
    intro x
    rw [hsum]
    have := dem_bound hk hs x (w := wayOf p ch) hway
    obtain ⟨l1, l2⟩ := way_len hf
    have := hs.vars
    omega
  -- the uses, one by one
  have adds : ∀ map_1 : List (XCell × Int), (∀ c ∈ p.cells, (mget map_1 c).getD 0 = ix p.cells c) → ∀ (t done : List (Int × XUse)) (rows : List (List Int)), usesL (wayOf p ch) = done ++ t → Rect p.capacity.length p.cells.length rows →
      (∀ i k : Nat, i < p.capacity.length → k < p.cells.length → (rows.getD i default).getD k default = sumU p done ⟨(i : Int), (k : Int)⟩) →
      rng1 (m75_problem_demand_B2 map_1) (fun rows_2 => some rows_2) t rows = some (demR p (wayOf p ch)) := by
    intro map_1 hm t
    induction t with
    | nil =>
      intro done rows h1 h2 h3
      rw [List.append_nil] at h1
      rw [rng1_nil]
      congr 1
      refine rows_ext h2 (demR_rect p _) fun i k hi hkk => ?_
      rw [h3 i k hi hkk, ← h1, hsum, demR_row hi, demL_get hkk]
    | cons e t ih =>
      intro done rows h1 h2 h3
      obtain ⟨b1, b2, b3, b4⟩ := hU e (by rw [h1]; simp)
      obtain ⟨q, q1, q2⟩ := ix_mem b2
      have hq : q < p.cells.length := (List.getElem?_eq_some_iff.1 q2).1
      have hlr : e.1.toNat < rows.length := by rw [h2.1]; omega
      have hrow : (rows.getD e.1.toNat default).length = p.cells.length := by rw [getD_of (List.getElem?_eq_getElem hlr)]; exact h2.2 _ (List.getElem_mem hlr)
      have hle : (((e.1.toNat : Nat) : Int)) = e.1 := by omega
      have hold := h3 e.1.toNat q (by omega) hq
      have hnn := sumU_nonneg (p := p) (L := done) (fun e' he' => by have := (hU e' (by rw [h1]; exact List.mem_append_left _ he')).2.2.1; omega) ⟨e.1, (q : Int)⟩
      have hub : sumU p done ⟨e.1, (q : Int)⟩ + e.2.places ≤ 576 := by
        have h4 := hbd ⟨e.1, (q : Int)⟩
        rw [h1, sumU_append] at h4
        have h5 : sumU p (e :: t) ⟨e.1, (q : Int)⟩ = e.2.places + sumU p t ⟨e.1, (q : Int)⟩ := by simp [sumU, q1]
        have h6 := sumU_nonneg (p := p) (L := t) (fun e' he' => by have := (hU e' (by rw [h1]; simp [he'])).2.2.1; omega) ⟨e.1, (q : Int)⟩
        omega
      rw [rng1_cons, m75_problem_demand_B2, hm _ b2, q1]
      rw [ck_eq (by rw [h2.1]; exact b1), ck_eq (by rw [hrow]; omega), ck_eq (by rw [hrow]; omega)]
      rw [Int.toNat_natCast, hold, hle, show IntKind.wrap .i64 (sumU p done ⟨e.1, (q : Int)⟩ + e.2.places) = sumU p done ⟨e.1, (q : Int)⟩ + e.2.places from wrap_i64 (by omega) (by omega)]
      refine ih (done ++ [e]) _ (by rw [h1]; simp) ⟨by rw [List.length_set]; exact h2.1, fun r hr => ?_⟩ fun i k hi hkk => ?_
      · rcases List.mem_or_eq_of_mem_set hr with h | h
        · exact h2.2 r h
        · rw [h, List.length_set]; exact hrow
      · rw [sumU_append]
        have e1 : sumU p [e] ⟨(i : Int), (k : Int)⟩ = if e.1 = (i : Int) ∧ (q : Int) = (k : Int) then e.2.places else 0 := by simp [sumU, q1]
        rw [e1]
        by_cases hi' : e.1 = (i : Int)
        · have hin : e.1.toNat = i := by omega
          rw [hin, getD_of (l := rows.set i _) (by rw [List.getElem?_set_self (by omega)]), set_getD (by rw [← hin, hrow]; exact hq)]
          by_cases hqk : q = k
          · subst hqk; simp [hi']
          · have : ¬ ((q : Int) = (k : Int)) := by omega
            rw [if_neg hqk, h3 i k hi hkk]; simp [this]
        · have hin : e.1.toNat ≠ i := by omega
          have e2 : (rows.set e.1.toNat ((rows.getD e.1.toNat default).set q (sumU p done ⟨e.1, (q : Int)⟩ + e.2.places))).getD i default = rows.getD i default := by
            rw [List.getD, List.getElem?_set_ne hin]; rfl
          rw [e2, h3 i k hi hkk]; simp [hi']
  have blank0 : ∀ map_1 : List (XCell × Int), (∀ c ∈ p.cells, (mget map_1 c).getD 0 = ix p.cells c) →
      loop2 (m75_problem_demand_B1 p ch map_1) ((((List.replicate p.capacity.length ([] : List Int)).length : Int) - 0).toNat + 1) 0 (List.replicate p.capacity.length ([] : List Int)) = some (demR p (wayOf p ch)) := by
    intro map_1 hm
    refine up_listA (B := m75_problem_demand_B1 p ch map_1) (fun i (s : List (List Int)) => s = List.replicate i (List.replicate p.cells.length 0) ++ List.replicate (p.capacity.length - i) []) (fun _ _ _ => some (demR p (wayOf p ch))) (List.replicate p.capacity.length ([] : List Int)) (by simp; omega) ?_ ?_ (by omega) (by simp)
    · intro sf s hI
      rw [m75_problem_demand_B1, ltE, cond_false, m84_eq hs hf, Option.bind_some, jn_eq]
      rw [List.length_replicate, Nat.sub_self, List.replicate_zero, List.append_nil] at hI
      subst hI
      refine adds map_1 hm _ [] _ rfl ⟨by simp, fun r hr => by rw [List.eq_of_mem_replicate hr]; simp⟩ fun i k hi hkk => ?_
      rw [getD_of (l := List.replicate _ _) (by rw [List.getElem?_replicate, if_pos hi]), getD_of (by rw [List.getElem?_replicate, if_pos hkk])]
      simp [sumU]
    · intro sf i s x t a1 a2 a3 hI ih
      have hi : i < p.capacity.length := by simpa using a1
      rw [m75_problem_demand_B1, ltBd a1, cond_true, ck_eq (by omega), ck_eq (by rw [hI]; simp; omega), a3]
      refine ih _ ?_
      rw [hI, Int.toNat_natCast]
      obtain ⟨d, hd⟩ : ∃ d, p.capacity.length - i = d + 1 := ⟨p.capacity.length - i - 1, by omega⟩
      rw [hd, List.replicate_succ, set_midL (by simp), show p.capacity.length - (i + 1) = d by omega, List.replicate_succ']
      simp
  unfold m75_problem_demand
  refine up_listA (B := m75_problem_demand_B0 p ch) (fuel := ((p.cells.length : Int) - 0).toNat + 1) (s := ([] : List (XCell × Int))) (fun i s => ∀ j c, j < i → p.cells[j]? = some c → mget s c = some (j : Int)) (fun _ _ _ => some (demR p (wayOf p ch))) p.cells (sm_len hp.1) ?_ ?_ (by omega) (fun j c h => by omega)
  · intro sf s hI
    rw [m75_problem_demand_B0, ltE, cond_false, ck_eq (by omega)]
    refine blank0 s fun c hcc => ?_
    obtain ⟨k, e1, e2⟩ := ix_mem hcc
    rw [hI k c (List.getElem?_eq_some_iff.1 e2).1 e2, e1]; rfl
  · intro sf i s c t e1 e2 e3 hI ih
    unfold m75_problem_demand_B0
    simp only [Int.toNat_natCast, getD_of e2, ltBd e1, inBd e1, ck_True, cond_true]
    rw [e3]
    refine ih _ fun j c' hj hc' => ?_
    rw [mget_put]
    by_cases h : c = c'
    · subst h
      rw [if_pos rfl]
      have := ix_at hk.cells e2; have := ix_at hk.cells hc'
      congr 1; omega
    · rw [if_neg h]
      refine hI j c' ?_ hc'
      rcases Nat.lt_or_ge j i with hlt | hge
      · exact hlt
      · have : j = i := by omega
        subst this; rw [e2] at hc'; exact absurd (Option.some.inj hc') h
end Go.Fx
/- Chapter 32: problem.Overloads hands out the same as the reference's. -/
set_option linter.unusedSimpArgs false
set_option linter.unusedVariables false
set_option maxRecDepth 100000
namespace Go.Fx
open Go Go.RowKit
theorem m73_eq {p : XProblem} (hp : smXProblem p) (ho : okProb p = true) (hs : Small p) {ch : List Int} (hf : Fit ch (cnV p.variables)) : m73_problem_branch p ch = some 0 := by
  obtain ⟨l1, l2⟩ := way_len hf
  have := hs.vars
  unfold m73_problem_branch
  rw [m12_eq hp, ho]
  have c0 : decide ((p.variables.length : Int) < (ch.length : Int)) = false := by simp <;> omega
  simp only [cond_true, Option.bind_some, ne_eq, not_true_eq_false, decide_false, cond_false, c0]
  rw [all_up (l := ch) (B := m73_problem_branch_B0 p ch) (fun _ => true) (some 270) (some 0) (by omega) ?_ ?_ (by omega)]
  · cases hh : ch.all fun _ => true
    · rw [List.all_eq_false] at hh; obtain ⟨x, _, h⟩ := hh; simp at h
    · rfl
  · intro sf; unfold m73_problem_branch_B0; simp only [ltE, cond_false]
  · intro sf i a h1 h2 h3
    have hlt : i < p.variables.length := by omega
    obtain ⟨b, b1, b2, b3⟩ := fit_get hf (List.getElem?_eq_getElem hlt)
    rw [h2] at b1; obtain rfl := Option.some.inj b1
    have hcl := (hs.var _ (List.getElem_mem hlt)).2.1
    unfold m73_problem_branch_B0
    simp only [ltBd h1, inBd h1, inBd hlt, ck_True, cond_true, Int.toNat_natCast, getD_of h2, getD_of (List.getElem?_eq_getElem hlt), m33_eq, Option.bind_some, h3]
    rw [show IntKind.wrap .i64 ((p.variables[i].choices.length : Int) - 1) = (p.variables[i].choices.length : Int) - 1 from wrap_i64 (by omega) (by omega)]
    have : within a 0 ((p.variables[i].choices.length : Int) - 1) = true := by simp [within]; omega
    rw [this]; rfl
theorem m47_eq {p : XProblem} (hp : smXProblem p) (ho : okProb p = true) (hs : Small p) {ch : List Int} (hf : Fit ch (cnV p.variables)) : m47_problem_whole p ch = some 0 := by
  obtain ⟨l1, l2⟩ := way_len hf
  unfold m47_problem_whole
  rw [m73_eq hp ho hs hf]
  have c0 : decide ((ch.length : Int) ≠ (p.variables.length : Int)) = false := by simp <;> omega
  simp only [Option.bind_some, ne_eq, not_true_eq_false, decide_false, cond_false]
  rw [show decide (¬((ch.length : Int) = (p.variables.length : Int))) = false from c0]; rfl
/-- the overloads, with how much -/
def overV (p : XProblem) (w : List (XVariable × XChoice)) (leaf : Nat) (ks : List Nat) : List (XPlace × Int) :=
  (ks.filter fun k : Nat => decide (capP p ⟨(leaf : Int), (k : Int)⟩ < dem p w ⟨(leaf : Int), (k : Int)⟩)).map fun k : Nat => ((⟨(leaf : Int), (k : Int)⟩ : XPlace), dem p w ⟨(leaf : Int), (k : Int)⟩ - capP p ⟨(leaf : Int), (k : Int)⟩)
def overW (p : XProblem) (w : List (XVariable × XChoice)) : List (XPlace × Int) := (List.range p.capacity.length).flatMap fun leaf => overV p w leaf (List.range p.cells.length)
theorem cap_le {p : XProblem} (hk : Prob p) (x : XPlace) : capP p x ≤ 4096 := by
  unfold capP
  have : ∀ k ∈ p.capacity.getD x.leaf.toNat default, k ≤ 4096 := getD_sm (S := fun r : List Int => ∀ k ∈ r, k ≤ 4096) (fun r hr k hkk => ((hk.row r hr).2 k hkk).2) (by intro k h; cases h) _
  exact getD_sm (S := fun k : Int => k ≤ 4096) this (by show (0 : Int) ≤ 4096; omega) _
theorem dem_way {p : XProblem} (hk : Prob p) (hs : Small p) {ch : List Int} (hf : Fit ch (cnV p.variables)) (x : XPlace) : 0 ≤ dem p (wayOf p ch) x ∧ dem p (wayOf p ch) x ≤ 576 := by
  have := dem_bound hk hs x (w := wayOf p ch) fun vc h => way_mem hf h
  obtain ⟨l1, l2⟩ := way_len hf
  have := hs.vars
  omega
theorem m48_eq {p : XProblem} (hp : smXProblem p) (ho : okProb p = true) (hs : Small p) {ch : List Int} (hf : Fit ch (cnV p.variables)) : m48_problem_overloads p ch = some (overW p (wayOf p ch)) := by
  have hk := Prob.of ho
  have hc := hs.cells; have hcap := hs.caps
  have hR := demR_rect p (wayOf p ch)
  have main : m74_problem_overloads_1 p ch = some (overW p (wayOf p ch)) := by
    unfold m74_problem_overloads_1
    rw [m75_eq hp hk hs hf, Option.bind_some, hR.1]
    have hl : (List.range p.capacity.length).length = p.capacity.length := List.length_range
    rw [show (((p.capacity.length : Int) - 0).toNat + 1) = (((List.range p.capacity.length).length : Int) - 0).toNat + 1 by rw [hl]]
    refine up_list0 (B := m74_problem_overloads_1_B0 p (demR p (wayOf p ch))) (fun t => some (t.flatMap fun leaf => overV p (wayOf p ch) leaf (List.range p.cells.length))) (List.range p.capacity.length) (by omega) ?_ ?_ (by omega)
    · intro sf; unfold m74_problem_overloads_1_B0; rw [hl, hR.1]; simp
    · intro sf i x t a1 a2 a3 ih
      rw [hl] at a1
      have hx : x = i := by rw [List.getElem?_range a1] at a2; exact (Option.some.inj a2).symm
      subst hx
      have hl2 : (List.range p.cells.length).length = p.cells.length := List.length_range
      rw [m74_problem_overloads_1_B0, hR.1, ltBd a1, cond_true, ck_eq (by omega), Int.toNat_natCast, demR_row a1, demL_len]
      rw [show (((p.cells.length : Int) - 0).toNat + 1) = (((List.range p.cells.length).length : Int) - 0).toNat + 1 by rw [hl2]]
      refine (up_list0 (B := m74_problem_overloads_1_B1 p (demR p (wayOf p ch)) (x : Int) sf) (fuel := (((List.range p.cells.length).length : Int) - 0).toNat + 1) (fun tk => some (overV p (wayOf p ch) x tk ++ t.flatMap fun leaf => overV p (wayOf p ch) leaf (List.range p.cells.length))) (List.range p.cells.length) (by omega) ?_ ?_ (by omega)).trans (by simp)
      · intro sf'; rw [m74_problem_overloads_1_B1, Int.toNat_natCast, demR_row a1, demL_len, hl2, ltE, cond_false, a3, ih]; simp [overV]
      · intro sf' j k tk b1 b2 b3 ih'
        rw [hl2] at b1
        have hkj : k = j := by rw [List.getElem?_range b1] at b2; exact (Option.some.inj b2).symm
        subst hkj
        rw [m74_problem_overloads_1_B1]
        simp only [Int.toNat_natCast, demR_row a1, demL_len, demL_get b1, ltBd b1, inBd b1, inBd a1, ck_True, cond_true, row_get hk a1, b3]
        have hcp : (p.capacity.getD x default).getD k default = capP p ⟨(x : Int), (k : Int)⟩ := by simp [capP]
        have hd := dem_way hk hs hf ⟨(x : Int), (k : Int)⟩
        have h0 := cap_nonneg hk ⟨(x : Int), (k : Int)⟩
        have h1 := cap_le hk ⟨(x : Int), (k : Int)⟩
        rw [hcp, show IntKind.wrap .i64 (dem p (wayOf p ch) ⟨(x : Int), (k : Int)⟩ - capP p ⟨(x : Int), (k : Int)⟩) = dem p (wayOf p ch) ⟨(x : Int), (k : Int)⟩ - capP p ⟨(x : Int), (k : Int)⟩ from wrap_i64 (by omega) (by omega), ih']
        by_cases hlt : capP p ⟨(x : Int), (k : Int)⟩ < dem p (wayOf p ch) ⟨(x : Int), (k : Int)⟩
        · rw [decide_eq_true (show (0 : Int) < dem p (wayOf p ch) ⟨(x : Int), (k : Int)⟩ - capP p ⟨(x : Int), (k : Int)⟩ by omega), cond_true]
          simp [overV, hlt, yl]
        · rw [decide_eq_false (show ¬ (0 : Int) < dem p (wayOf p ch) ⟨(x : Int), (k : Int)⟩ - capP p ⟨(x : Int), (k : Int)⟩ by omega), cond_false]
          simp [overV, hlt]
  unfold m48_problem_overloads
  rw [main]; rfl
theorem overW_fst (p : XProblem) (w : List (XVariable × XChoice)) : (overW p w).map (·.1) = overL p w := by
  unfold overW overL
  rw [List.map_flatMap]
  congr 1; funext leaf
  unfold overV overR; rw [List.map_map]; rfl
theorem overW_len {p : XProblem} (hs : Small p) (w : List (XVariable × XChoice)) : (overW p w).length ≤ 48 := by
  have h1 := hs.cells; have h2 := hs.caps
  have : ∀ t : List Nat, (t.flatMap fun leaf => overV p w leaf (List.range p.cells.length)).length ≤ 12 * t.length := by
    intro t
    induction t with
    | nil => simp
    | cons a t ih =>
      have : (overV p w a (List.range p.cells.length)).length ≤ 12 := by
        unfold overV; rw [List.length_map]
        have := List.length_filter_le (fun k : Nat => decide (capP p ⟨(a : Int), (k : Int)⟩ < dem p w ⟨(a : Int), (k : Int)⟩)) (List.range p.cells.length)
        rw [List.length_range] at this; omega
      simp only [List.flatMap_cons, List.length_append, List.length_cons]; omega
  have := this (List.range p.capacity.length)
  rw [List.length_range] at this
  unfold overW; omega
end Go.Fx
/- Chapter 32: problem.Value: an answer for choices that fit, an error for others; its first number is the sum of the overloads. -/
set_option linter.unusedSimpArgs false
set_option linter.unusedVariables false
set_option maxRecDepth 100000
namespace Go.Fx
open Go Go.RowKit
/-- whether choices are there, looked at from the front -/
def fitB : List Int → List Int → Bool
  | [], _ => true
  | a :: c, n :: ns => within a 0 (n - 1) && fitB c ns
  | _ :: _, [] => false
theorem fitB_fit : ∀ {c ns : List Int}, c.length = ns.length → (fitB c ns = true ↔ Fit c ns)
  | [], [], _ => by simp [fitB, Fit]
  | a :: c, n :: ns, h => by
    simp only [fitB, Fit, Bool.and_eq_true, within, decide_eq_true_eq]
    rw [fitB_fit (by simpa using h)]
    constructor
    · rintro ⟨h1, h2⟩; exact ⟨by omega, h2⟩
    · rintro ⟨h1, h2⟩; exact ⟨by omega, h2⟩
  | [], n :: ns, h => by simp at h
  | a :: c, [], h => by simp at h
theorem m47_any {p : XProblem} (hp : smXProblem p) (hs : Small p) (ch : List Int) (hl : ch.length < 9223372036854775807) :
    ∃ e, m47_problem_whole p ch = some e ∧ (e = 0 → okProb p = true ∧ Fit ch (cnV p.variables)) := by
  have hv := hs.vars
  unfold m47_problem_whole m73_problem_branch
  rw [m12_eq hp]
  cases ho : okProb p
  · exact ⟨270, rfl, by simp⟩
  simp only [cond_true, Option.bind_some, ne_eq, not_true_eq_false, decide_false, cond_false]
  by_cases hlen : p.variables.length < ch.length
  · have c0 : decide ((p.variables.length : Int) < (ch.length : Int)) = true := by simp; omega
    rw [c0]; exact ⟨270, rfl, by simp⟩
  have c0 : decide ((p.variables.length : Int) < (ch.length : Int)) = false := by simp; omega
  rw [c0, cond_false]
  have main : loop1 (m73_problem_branch_B0 p ch) (((ch.length : Int) - 0).toNat + 1) 0 = some (bif fitB ch (cnV p.variables) then 0 else 270) := by
    refine (up_listI (B := m73_problem_branch_B0 p ch) (fun i t => some (bif fitB t (cnV (p.variables.drop i)) then (0 : Int) else 270)) ch hl ?_ ?_ (by omega)).trans (by simp)
    · intro sf; unfold m73_problem_branch_B0; simp only [ltE, cond_false]; rfl
    · intro sf i a t h1 h2 h3 ih
      have hlt : i < p.variables.length := by omega
      have hcl := (hs.var _ (List.getElem_mem hlt)).2.1
      unfold m73_problem_branch_B0
      simp only [ltBd h1, inBd h1, inBd hlt, ck_True, cond_true, Int.toNat_natCast, getD_of h2, getD_of (List.getElem?_eq_getElem hlt), m33_eq, Option.bind_some, h3, ih]
      rw [show IntKind.wrap .i64 ((p.variables[i].choices.length : Int) - 1) = (p.variables[i].choices.length : Int) - 1 from wrap_i64 (by omega) (by omega)]
      rw [List.drop_eq_getElem_cons hlt]
      simp only [cnV, List.map_cons, fitB]
      cases within a 0 ((p.variables[i].choices.length : Int) - 1) <;> rfl
  rw [main]
  simp only [Option.bind_some]
  cases hfb : fitB ch (cnV p.variables)
  · exact ⟨270, rfl, by simp⟩
  simp only [cond_true, not_true_eq_false, decide_false, cond_false]
  by_cases he : ch.length = p.variables.length
  · refine ⟨0, by simp [he], fun _ => ⟨by simp, (fitB_fit (by simp [cnV, he])).1 hfb⟩⟩
  · have : ¬ ((ch.length : Int) = (p.variables.length : Int)) := by omega
    exact ⟨270, by simp [this], by simp⟩
/-- Value of choices that fit: four numbers, the first of which is above zero exactly where there is an overload -/
theorem m14_fit {p : XProblem} (hp : smXProblem p) (ho : okProb p = true) (hs : Small p) {ch : List Int} (hf : Fit ch (cnV p.variables)) :
    ∃ v : List Int, m14_problem_Value p ch = some (v, 0) ∧ v.length = 4 ∧ decide (0 < v.getD 0 default) = !(decide (overL p (wayOf p ch) = [])) := by
  have hk := Prob.of ho
  obtain ⟨l1, l2⟩ := way_len hf
  have hv6 := hs.vars
  unfold m14_problem_Value
  rw [m47_eq hp ho hs hf, m48_eq hp ho hs hf]
  simp only [Option.bind_some, ne_eq, not_true_eq_false, decide_false, cond_false, jn_eq]
  have hW : ∀ e ∈ overW p (wayOf p ch), 1 ≤ e.2 ∧ e.2 ≤ 576 := by
    intro e he
    obtain ⟨i, _, h2⟩ := List.mem_flatMap.1 he
    obtain ⟨k, h3, rfl⟩ := List.mem_map.1 h2
    have h4 := of_decide_eq_true (List.mem_filter.1 h3).2
    have h5 := dem_way hk hs hf ⟨(i : Int), (k : Int)⟩
    have h6 := cap_nonneg hk ⟨(i : Int), (k : Int)⟩
    simp only; omega
  have tail : ∀ (t : List (XPlace × Int)) (s : List Int), s.length = 4 → (∀ e ∈ t, 1 ≤ e.2 ∧ e.2 ≤ 576) → 0 ≤ s.getD 0 default → s.getD 0 default + 576 * (t.length : Int) ≤ 1000000 →
      ∃ v : List Int, rng1 m14_problem_Value_B0 (fun arr_1 => loop2 (m14_problem_Value_B1 p ch) (((ch.length : Int) - 0).toNat + 1) 0 arr_1) t s = some (v, 0) ∧ v.length = 4 ∧ (0 < v.getD 0 default ↔ 0 < s.getD 0 default ∨ t ≠ []) := by
    intro t
    induction t with
    | nil =>
      intro s h4 _ h0 _
      rw [rng1_nil]
      have := up_some (R := {q : List Int × Int // q.2 = 0 ∧ q.1.length = 4 ∧ q.1.getD 0 default = s.getD 0 default}) (L := fun n i s' => (loop2 (m14_problem_Value_B1 p ch) n i s').bind fun q => if h : q.2 = 0 ∧ q.1.length = 4 ∧ q.1.getD 0 default = s.getD 0 default then some ⟨q, h⟩ else none) (fun _ s' => s'.length = 4 ∧ s'.getD 0 default = s.getD 0 default) ch.length (by omega) ?_ ?_ (((ch.length : Int) - 0).toNat + 1) s (by omega) ⟨h4, rfl⟩
      · obtain ⟨⟨q, hq⟩, h⟩ := this
        cases hl : loop2 (m14_problem_Value_B1 p ch) (((ch.length : Int) - 0).toNat + 1) 0 s with
        | none => simp only [hl] at h; cases h
        | some q' =>
          simp only [hl, Option.bind_some] at h
          split at h
          · rename_i hz
            obtain ⟨a, b⟩ := q'
            obtain ⟨z1, z2, z3⟩ := hz
            simp only at z1 z2 z3
            subst z1
            exact ⟨a, rfl, z2, by rw [z3]; simp⟩
          · cases h
      · intro n s' hI
        refine ⟨⟨(s', 0), rfl, hI.1, hI.2⟩, ?_⟩
        simp only [loop2_succ]; unfold m14_problem_Value_B1; simp only [ltE, cond_false]
        rw [ck_eq hI.1]; simp only [Option.bind_some, hI.1, hI.2, and_self, dite_true]
      · intro n i s' h1 h2 hI ih
        have hlt : i < p.variables.length := by omega
        obtain ⟨b, b1, b2, b3⟩ := fit_get hf (List.getElem?_eq_getElem hlt)
        simp only [loop2_succ]
        rw [m14_problem_Value_B1]
        simp only [ltBd h1, inBd h1, inBd hlt, ck_True, cond_true, Int.toNat_natCast, getD_of b1, getD_of (List.getElem?_eq_getElem hlt), List.length_set, h2]
        rw [ck_eq ⟨b2, b3⟩, ck_eq (by rw [hI.1]; decide), ck_eq (by rw [hI.1]; decide), ck_eq (by rw [hI.1]; decide), ck_eq (by rw [hI.1]; decide), ck_eq (by rw [hI.1]; decide), ck_eq (by rw [hI.1]; decide)]
        refine ih _ ⟨by simpa using hI.1, ?_⟩
        rw [set_getD (by simp [hI.1]), if_neg (by omega), set_getD (by simp [hI.1]), if_neg (by omega), set_getD (by simp [hI.1]), if_neg (by omega)]
        exact hI.2
    | cons e t ih =>
      intro s h4 hb h0 hM
      have he := hb e (List.mem_cons_self ..)
      simp only [List.length_cons] at hM
      rw [rng1_cons, m14_problem_Value_B0, ck_eq (by rw [h4]; decide), ck_eq (by rw [h4]; decide)]
      rw [show IntKind.wrap .i64 (s.getD 0 default + e.2) = s.getD 0 default + e.2 from wrap_i64 (by omega) (by omega)]
      have hg : (s.set 0 (s.getD 0 default + e.2)).getD 0 default = s.getD 0 default + e.2 := by rw [set_getD (by omega), if_pos rfl]
      obtain ⟨v, v1, v2, v3⟩ := ih (s.set 0 (s.getD 0 default + e.2)) (by simpa using h4) (fun e' h' => hb e' (List.mem_cons_of_mem _ h')) (by rw [hg]; omega) (by rw [hg]; omega)
      refine ⟨v, v1, v2, v3.trans ?_⟩
      rw [hg]
      constructor
      · intro _; right; simp
      · intro _; left; omega
  have hwl := overW_len hs (wayOf p ch)
  obtain ⟨v, v1, v2, v3⟩ := tail (overW p (wayOf p ch)) [0, 0, 0, 0] rfl hW (by decide) (by show (0 : Int) + _ ≤ _; omega)
  refine ⟨v, v1, v2, ?_⟩
  rw [Bool.eq_iff_iff]
  simp only [decide_eq_true_eq, Bool.not_eq_true', decide_eq_false_iff_not]
  rw [v3, ← overW_fst]
  have : ¬ (0 : Int) < ([0, 0, 0, 0] : List Int).getD 0 default := by decide
  simp [this]
end Go.Fx
/- Chapter 32: ways as functions that choose; more variables take no less. -/
set_option linter.unusedSimpArgs false
set_option linter.unusedVariables false
set_option maxRecDepth 100000
namespace Go.Fx
open Go Go.RowKit
def varOf (p : XProblem) (i : Int) : XVariable := p.variables.getD i.toNat default
theorem ways_fun {p : XProblem} : ∀ {l : List Int} {w : List (XVariable × XChoice)}, l.Nodup → (w ∈ ways (pairsOf p l) ↔ ∃ f : Int → XChoice, (∀ i ∈ l, f i ∈ (varOf p i).choices) ∧ w = l.map fun i => (varOf p i, f i))
  | [], w, _ => by
    simp only [pairsOf, List.map_nil, ways, List.mem_singleton]
    constructor
    · rintro rfl; exact ⟨fun _ => default, by simp, rfl⟩
    · rintro ⟨f, _, rfl⟩; rfl
  | i :: l, w, h => by
    have hn := List.nodup_cons.1 h
    simp only [pairsOf, List.map_cons, ways, List.mem_flatMap, List.mem_map]
    constructor
    · rintro ⟨_, ⟨c, hc, rfl⟩, t, ht, rfl⟩
      obtain ⟨f, h1, rfl⟩ := (ways_fun hn.2).1 (show t ∈ ways (pairsOf p l) from ht)
      refine ⟨fun j => if j = i then c else f j, fun j hj => ?_, ?_⟩
      · rcases List.mem_cons.1 hj with rfl | hj
        · show (if j = j then c else f j) ∈ _; rw [if_pos rfl]; exact hc
        · have : j ≠ i := fun e => hn.1 (e ▸ hj)
          simpa [this] using h1 j hj
      · simp only [List.map_cons, if_true]
        congr 1
        refine List.map_congr_left fun j hj => ?_
        have : j ≠ i := fun e => hn.1 (e ▸ hj)
        simp [this]
    · rintro ⟨f, h1, e⟩
      refine ⟨(varOf p i, f i), ⟨f i, h1 i (List.mem_cons_self ..), rfl⟩, l.map fun j => (varOf p j, f j), (ways_fun hn.2).2 ⟨f, fun j hj => h1 j (List.mem_cons_of_mem _ hj), rfl⟩, by rw [e]⟩
/-- what f takes of x for the variables of l -/
def demF (p : XProblem) (f : Int → XChoice) (l : List Int) (x : XPlace) : Int := (l.map fun i => takes p x (varOf p i, f i)).sum
theorem dem_demF (p : XProblem) (f : Int → XChoice) (l : List Int) (x : XPlace) : dem p (l.map fun i => (varOf p i, f i)) x = demF p f l x := by
  unfold dem demF; rw [List.map_map]; rfl
theorem provesB_fun {p : XProblem} {r : XReason} (hn : r.variables.Nodup) : provesB p r = true ↔ ∀ f : Int → XChoice, (∀ i ∈ r.variables, f i ∈ (varOf p i).choices) → ∃ x ∈ r.places, capP p x < demF p f r.variables x := by
  unfold provesB
  rw [List.all_eq_true]
  constructor
  · intro h f hf
    have := h _ ((ways_fun hn).2 ⟨f, hf, rfl⟩)
    obtain ⟨x, hx, hd⟩ := List.any_eq_true.1 this
    exact ⟨x, hx, by rw [← dem_demF]; exact of_decide_eq_true hd⟩
  · intro h w hw
    obtain ⟨f, h1, rfl⟩ := (ways_fun hn).1 hw
    obtain ⟨x, hx, hd⟩ := h f h1
    exact List.any_eq_true.2 ⟨x, hx, decide_eq_true (by rw [dem_demF]; exact hd)⟩
theorem demF_sub {p : XProblem} {f : Int → XChoice} {x : XPlace} : ∀ {l m : List Int}, l.Sublist m → (∀ i ∈ m, 0 ≤ takes p x (varOf p i, f i)) → demF p f l x ≤ demF p f m x := by
  intro l m h
  induction h with
  | slnil => intro _; exact Int.le_refl _
  | cons a h ih =>
    intro hm
    have := ih fun i hi => hm i (List.mem_cons_of_mem _ hi)
    have := hm a (List.mem_cons_self ..)
    simp only [demF, List.map_cons, List.sum_cons] at *; omega
  | cons_cons a h ih =>
    intro hm
    have := ih fun i hi => hm i (List.mem_cons_of_mem _ hi)
    simp only [demF, List.map_cons, List.sum_cons] at *; omega
end Go.Fx
/- ReasonMore: the inner loops. -/
set_option linter.unusedSimpArgs false
set_option linter.unusedVariables false
set_option maxRecDepth 100000
namespace Go.Fx
open Go Go.RowKit
theorem more_B1 {r : XReason} (hr : r.variables.length < 9223372036854775807) (v : Int) (l : List Int) (hl : l.length ≤ 1000) (k : List Int → Option Bool) (is : Bool) :
    loop2 (m4_overflightlaw32_ReasonMore_B1 r v l k) (((r.variables.length : Int) - 0).toNat + 1) is 0 = k (bif (is || decide (v ∈ r.variables)) then l ++ [v] else l) := by
  refine (up_listB (B := m4_overflightlaw32_ReasonMore_B1 r v l k) (s := is) (fuel := ((r.variables.length : Int) - 0).toNat + 1) (fun _ _ => True) (fun _ t is => k (bif (is || t.any fun x => decide (v = x)) then l ++ [v] else l)) r.variables hr ?_ ?_ (by omega) trivial).trans ?_
  · intro sf is _
    rw [m4_overflightlaw32_ReasonMore_B1, ltE, cond_false]
    cases is
    · rfl
    · rw [cond_true, ck_eq (by simp; omega)]; rfl
  · intro sf j is x t a1 a2 a3 _ ih
    rw [m4_overflightlaw32_ReasonMore_B1]
    simp only [ltBd a1, inBd a1, ck_True, cond_true, Int.toNat_natCast, getD_of a2, a3]
    cases is
    · rw [cond_false, ih _ trivial, List.any_cons, Bool.false_or]
    · rw [cond_true, ih _ trivial]; rfl
  · have : (r.variables.any fun x => decide (v = x)) = decide (v ∈ r.variables) := by
      rw [Bool.eq_iff_iff, List.any_eq_true]; simp only [decide_eq_true_eq]
      exact ⟨fun ⟨x, h1, h2⟩ => h2 ▸ h1, fun h => ⟨v, h, rfl⟩⟩
    rw [this]
/-- the place of number v -/
def plc (p : XProblem) (v : Int) : XPlace := ⟨IntKind.wrap .i64 (v.tdiv (p.cells.length : Int)), v.tmod (p.cells.length : Int)⟩
theorem more_B3 {p : XProblem} {r : XReason} (hr : r.places.length < 9223372036854775807) (v : Int) (l : List XPlace) (hl : l.length ≤ 1000) (k : List XPlace → Option Bool) (is : Bool) :
    loop2 (m4_overflightlaw32_ReasonMore_B3 p r v l k) (((r.places.length : Int) - 0).toNat + 1) is 0 = k (bif (is || decide (plc p v ∈ r.places)) then l ++ [plc p v] else l) := by
  refine (up_listB (B := m4_overflightlaw32_ReasonMore_B3 p r v l k) (s := is) (fuel := ((r.places.length : Int) - 0).toNat + 1) (fun _ _ => True) (fun _ t is => k (bif (is || t.any fun x => decide (plc p v = x)) then l ++ [plc p v] else l)) r.places hr ?_ ?_ (by omega) trivial).trans ?_
  · intro sf is _
    rw [m4_overflightlaw32_ReasonMore_B3, ltE, cond_false]
    cases is
    · rfl
    · rw [cond_true, ck_eq (by simp; omega)]; rfl
  · intro sf j is x t a1 a2 a3 _ ih
    rw [m4_overflightlaw32_ReasonMore_B3]
    simp only [ltBd a1, inBd a1, ck_True, cond_true, Int.toNat_natCast, getD_of a2, a3]
    cases is
    · rw [cond_false, ih _ trivial, List.any_cons, Bool.false_or]; rfl
    · rw [cond_true, ih _ trivial]; rfl
  · have : (r.places.any fun x => decide (plc p v = x)) = decide (plc p v ∈ r.places) := by
      rw [Bool.eq_iff_iff, List.any_eq_true]; simp only [decide_eq_true_eq]
      exact ⟨fun ⟨x, h1, h2⟩ => h2 ▸ h1, fun h => ⟨plc p v, h, rfl⟩⟩
    rw [this]
/-- more variables, more places, less room: what breaks still breaks -/
theorem demF_nonneg {p : XProblem} (hk : Prob p) (hs : Small p) {f : Int → XChoice} {i : Int} (hi : 0 ≤ i ∧ i < (p.variables.length : Int)) (hf : f i ∈ (varOf p i).choices) (x : XPlace) : 0 ≤ takes p x (varOf p i, f i) := by
  have : varOf p i ∈ p.variables := by
    unfold varOf
    rw [getD_of (List.getElem?_eq_getElem (show i.toNat < p.variables.length by omega))]
    exact List.getElem_mem _
  exact (takes_bound hk hs this hf x).1
theorem proves_vars {p : XProblem} (hk : Prob p) (hs : Small p) {r r' : XReason} (hsub : r.variables.Sublist r'.variables) (hi : ∀ i ∈ r'.variables, 0 ≤ i ∧ i < (p.variables.length : Int)) (hn : r'.variables.Nodup) (hpl : ∀ x ∈ r.places, x ∈ r'.places) (h : provesB p r = true) : provesB p r' = true := by
  rw [provesB_fun (hn.sublist hsub)] at h
  rw [provesB_fun hn]
  intro f hf
  obtain ⟨x, hx, hlt⟩ := h f fun i hi => hf i (hsub.subset hi)
  have := demF_sub (p := p) (f := f) (x := x) hsub fun i hh => demF_nonneg hk hs (hi i hh) (hf i hh) x
  exact ⟨x, hpl x hx, by omega⟩
end Go.Fx
/- ReasonMore: one place with less room. -/
set_option linter.unusedSimpArgs false
set_option linter.unusedVariables false
set_option maxRecDepth 100000
namespace Go.Fx
open Go Go.RowKit
/-- as long, and nowhere more -/
def LeR (a b : List Int) : Prop := a.length = b.length ∧ ∀ k, k < b.length → 0 ≤ a.getD k default ∧ a.getD k default ≤ b.getD k default
theorem more_B5 {p : XProblem} {place less : UInt8} {i : Nat} {row : List Int} (hi : p.capacity[i]? = some row) (hrow : ∀ k ∈ row, 0 ≤ k ∧ k ≤ 4096) (hl : row.length ≤ 16) (rows : List (List Int)) (hrl : rows.length ≤ 100) {sf : Int → List (List Int) → Option Bool} {R : Option Bool}
    (hw : IntKind.i64.wrap ((i : Int) + 1) = (i : Int) + 1) (hk : ∀ l', LeR l' row → sf ((i : Int) + 1) (rows ++ [l']) = R) :
    loop2 (m4_overflightlaw32_ReasonMore_B5 p place less (i : Int) rows sf) (((row.length : Int) - 0).toNat + 1) row 0 = R := by
  refine up_listB (B := m4_overflightlaw32_ReasonMore_B5 p place less (i : Int) rows sf) (fun _ s => LeR s row) (fun _ _ _ => R) row (by omega) ?_ ?_ (by omega) ⟨rfl, fun k hkk => ⟨?_, Int.le_refl _⟩⟩
  · intro sf' s hI
    rw [m4_overflightlaw32_ReasonMore_B5]
    simp only [List.nil_append, Int.toNat_natCast, getD_of hi, ltE, cond_false]
    rw [ck_eq (by simp; omega), hw]
    exact hk s hI
  · intro sf' j s x t a1 a2 a3 hI ih
    rw [m4_overflightlaw32_ReasonMore_B5]
    simp only [List.nil_append, Int.toNat_natCast, getD_of hi, ltBd a1, cond_true, a3]
    generalize decide (IntKind.wrap .i64 (IntKind.wrap .i64 ((i : Int) * (s.length : Int)) + (j : Int)) = (place.toNat : Int).tmod (IntKind.wrap .i64 ((p.cells.length : Int) * (p.capacity.length : Int)))) = b
    cases b
    · rw [cond_false]; exact ih s hI
    · have hj : j < s.length := by rw [hI.1]; exact a1
      have hb := hI.2 j a1
      have hx := hrow x (ge0 a2)
      rw [getD_of a2] at hb
      have h256 : (less.toNat : Int) < 256 := by have := less.toNat_lt; omega
      rw [cond_true, ck_eq (by omega), ck_eq (by omega)]
      rw [show IntKind.wrap .i64 (s.getD j default - (less.toNat : Int)) = s.getD j default - (less.toNat : Int) from wrap_i64 (by omega) (by omega)]
      refine ih _ ⟨by rw [List.length_set]; exact hI.1, fun k hkk => ?_⟩
      rw [set_getD hj]
      by_cases h : j = k
      · subst h
        rw [if_pos rfl, getD_of a2]; omega
      · rw [if_neg h]; exact hI.2 k hkk
  · rw [getD_of (List.getElem?_eq_getElem hkk)]; exact (hrow _ (List.getElem_mem hkk)).1
end Go.Fx
/- ReasonMore: the problem with less room. -/
set_option linter.unusedSimpArgs false
set_option linter.unusedVariables false
set_option maxRecDepth 100000
namespace Go.Fx
open Go Go.RowKit
def tightP (p : XProblem) (rows : List (List Int)) : XProblem := ⟨p.cells, rows, p.variables⟩
def LeRs (rows cap : List (List Int)) : Prop := rows.length = cap.length ∧ ∀ i, i < cap.length → LeR (rows.getD i default) (cap.getD i default)
theorem LeR.mem {a b : List Int} (h : LeR a b) (hb : ∀ k ∈ b, k ≤ 4096) : ∀ k ∈ a, 0 ≤ k ∧ k ≤ 4096 := by
  intro k hk
  obtain ⟨j, hj, rfl⟩ := List.getElem_of_mem hk
  have hj2 : j < b.length := by rw [← h.1]; exact hj
  have := h.2 j hj2
  rw [getD_of (List.getElem?_eq_getElem hj), getD_of (List.getElem?_eq_getElem hj2)] at this
  have := hb _ (List.getElem_mem hj2)
  omega
theorem LeRs.row {rows cap : List (List Int)} (h : LeRs rows cap) : ∀ r ∈ rows, ∃ c ∈ cap, LeR r c := by
  intro r hr
  obtain ⟨j, hj, rfl⟩ := List.getElem_of_mem hr
  have hj2 : j < cap.length := by rw [← h.1]; exact hj
  have := h.2 j hj2
  rw [getD_of (List.getElem?_eq_getElem hj), getD_of (List.getElem?_eq_getElem hj2)] at this
  exact ⟨_, List.getElem_mem hj2, this⟩
theorem tight_ok {p : XProblem} {rows : List (List Int)} (hp : smXProblem p) (ho : okProb p = true) (hs : Small p) (h : LeRs rows p.capacity) :
    smXProblem (tightP p rows) ∧ okProb (tightP p rows) = true ∧ Small (tightP p rows) ∧ (∀ x, capP (tightP p rows) x ≤ capP p x) := by
  have hk := Prob.of ho
  have hrow : ∀ r ∈ rows, r.length = p.cells.length ∧ ∀ k ∈ r, 0 ≤ k ∧ k ≤ 4096 := by
    intro r hr
    obtain ⟨c, hc, hle⟩ := h.row r hr
    obtain ⟨a1, a2⟩ := hk.row c hc
    exact ⟨hle.1.trans a1, hle.mem fun k hkk => (a2 k hkk).2⟩
  have hcc := hs.cells; have hca := hs.caps
  refine ⟨⟨hp.1, ⟨by show rows.length ≤ _; rw [h.1]; exact hp.2.1.1, fun r hr => ⟨by rw [(hrow r hr).1]; omega, fun k hkk => ?_⟩⟩, hp.2.2⟩, ?_, ⟨hs.cells, by show rows.length ≤ 4; rw [h.1]; exact hs.caps, hs.vars, fun r hr => by rw [(hrow r hr).1]; omega, hs.var⟩, fun x => ?_⟩
  · have := (hrow r hr).2 k hkk
    have e : k = ((k.toNat : Nat) : Int) := by omega
    rw [e]; exact inK_of (by omega)
  · unfold okProb at ho ⊢
    have e : (tightP p rows).capacity.length = p.capacity.length := h.1
    simp only [Bool.and_eq_true, List.all_eq_true, e] at ho ⊢
    obtain ⟨a1, a2, a3, a4, a5, a6⟩ := ho
    refine ⟨a1, a2, a3, a4, fun r hr => ?_, a6⟩
    unfold okRow
    simp only [Bool.and_eq_true, decide_eq_true_eq, List.all_eq_true, within]
    exact ⟨(hrow r hr).1, fun k hkk => (hrow r hr).2 k hkk⟩
  · unfold capP
    show (rows.getD x.leaf.toNat default).getD x.cell.toNat default ≤ _
    by_cases hi : x.leaf.toNat < p.capacity.length
    · have hle := h.2 _ hi
      by_cases hj : x.cell.toNat < (p.capacity.getD x.leaf.toNat default).length
      · exact (hle.2 _ hj).2
      · have e1 : (rows.getD x.leaf.toNat default).getD x.cell.toNat default = (default : Int) := by rw [List.getD, List.getElem?_eq_none (by rw [hle.1]; omega)]; rfl
        have e2 : (p.capacity.getD x.leaf.toNat default).getD x.cell.toNat default = (default : Int) := by rw [List.getD, List.getElem?_eq_none (by omega)]; rfl
        rw [e1, e2]; exact Int.le_refl _
    · have e1 : rows.getD x.leaf.toNat default = (default : List Int) := by rw [List.getD, List.getElem?_eq_none (by rw [h.1]; omega)]; rfl
      have e2 : p.capacity.getD x.leaf.toNat default = (default : List Int) := by rw [List.getD, List.getElem?_eq_none (by omega)]; rfl
      rw [e1, e2]; exact Int.le_refl _
theorem tight_proves {p : XProblem} {r : XReason} {rows : List (List Int)} (hc : ∀ x, capP (tightP p rows) x ≤ capP p x) (h : provesB p r = true) : provesB (tightP p rows) r = true := by
  unfold provesB at *
  rw [List.all_eq_true] at *
  intro w hw
  obtain ⟨x, hx, hd⟩ := List.any_eq_true.1 (h w hw)
  refine List.any_eq_true.2 ⟨x, hx, decide_eq_true ?_⟩
  have hd := of_decide_eq_true hd
  have := hc x
  have e : dem (tightP p rows) w x = dem p w x := rfl
  rw [e]; omega
theorem tight_reason {p : XProblem} {r : XReason} {rows : List (List Int)} (h : rows.length = p.capacity.length) (ho : okReason p r = true) : okReason (tightP p rows) r = true := by
  have e : ∀ x, okPlace (tightP p rows) x = okPlace p x := by intro x; unfold okPlace; rw [show (tightP p rows).capacity.length = p.capacity.length from h]; rfl
  unfold okReason at *
  have : okPlace (tightP p rows) = okPlace p := funext e
  rw [this]; exact ho
end Go.Fx
/- ReasonMore: the loops joined. -/
set_option linter.unusedSimpArgs false
set_option linter.unusedVariables false
set_option maxRecDepth 100000
namespace Go.Fx
open Go Go.RowKit
theorem more_B4 {p : XProblem} {r : XReason} {place less : UInt8} (hk : Prob p) (hs : Small p) {v5 : List Int} {v9 : List XPlace} (h2 : m17_reason_Proves p ⟨v5, r.places⟩ = some (true, 0)) (h3 : m17_reason_Proves p ⟨r.variables, v9⟩ = some (true, 0))
    (h4 : ∀ rows, LeRs rows p.capacity → m17_reason_Proves (tightP p rows) r = some (true, 0)) :
    loop2 (m4_overflightlaw32_ReasonMore_B4 p r place less v5 v9) (((p.capacity.length : Int) - 0).toNat + 1) 0 ([] : List (List Int)) = some true := by
  have hca := hs.caps
  refine up_listA (B := m4_overflightlaw32_ReasonMore_B4 p r place less v5 v9) (fun i (s : List (List Int)) => s.length = i ∧ ∀ j, j < i → LeR (s.getD j default) (p.capacity.getD j default)) (fun _ _ _ => some true) p.capacity (by omega) ?_ ?_ (by omega) ⟨rfl, fun j h => by omega⟩
  · intro sf s hI
    rw [m4_overflightlaw32_ReasonMore_B4, ltE, cond_false, h2, h3]
    rw [show (⟨p.cells, s, p.variables⟩ : XProblem) = tightP p s from rfl, h4 s ⟨hI.1, hI.2⟩]
    rfl
  · intro sf i s row t a1 a2 a3 hI ih
    have hr := hk.row _ (ge0 a2)
    have hr16 := hs.row _ (ge0 a2)
    rw [m4_overflightlaw32_ReasonMore_B4]
    simp only [ltBd a1, inBd a1, ck_True, cond_true, Int.toNat_natCast, getD_of a2, List.nil_append]
    rw [ck_eq (by simp; omega)]
    refine more_B5 a2 hr.2 hr16 s (by omega) a3 fun l' hl' => ih _ ⟨by simp [hI.1], fun j hj => ?_⟩
    rcases Nat.lt_or_ge j i with h | h
    · rw [List.getD, List.getElem?_append_left (by omega)]; exact hI.2 j h
    · have : j = i := by omega
      subst this
      rw [List.getD, List.getElem?_append_right (by omega), hI.1, Nat.sub_self, getD_of a2]; exact hl'
end Go.Fx
/- ReasonMore: the lists that are made. -/
set_option linter.unusedSimpArgs false
set_option linter.unusedVariables false
set_option maxRecDepth 100000
namespace Go.Fx
open Go Go.RowKit
def wideL (p : XProblem) (r : XReason) (m : Int) (n : Nat) : List XPlace := ((List.range n).filter fun v : Nat => decide ((v : Int) = m) || decide (plc p (v : Int) ∈ r.places)).map fun v : Nat => plc p (v : Int)
def moreL (r : XReason) (m : Int) (n : Nat) : List Int := ((List.range n).filter fun v : Nat => decide ((v : Int) = m) || decide ((v : Int) ∈ r.variables)).map fun v : Nat => (v : Int)
theorem wideL_succ (p : XProblem) (r : XReason) (m : Int) (n : Nat) : wideL p r m (n + 1) = bif (decide ((n : Int) = m) || decide (plc p (n : Int) ∈ r.places)) then wideL p r m n ++ [plc p (n : Int)] else wideL p r m n := by
  unfold wideL
  rw [List.range_succ, List.filter_append, List.map_append]
  cases h : (decide ((n : Int) = m) || decide (plc p (n : Int) ∈ r.places)) <;> simp [h]
theorem moreL_succ (r : XReason) (m : Int) (n : Nat) : moreL r m (n + 1) = bif (decide ((n : Int) = m) || decide ((n : Int) ∈ r.variables)) then moreL r m n ++ [(n : Int)] else moreL r m n := by
  unfold moreL
  rw [List.range_succ, List.filter_append, List.map_append]
  cases h : (decide ((n : Int) = m) || decide ((n : Int) ∈ r.variables)) <;> simp [h]
theorem wideL_len (p : XProblem) (r : XReason) (m : Int) (n : Nat) : (wideL p r m n).length ≤ n := by
  unfold wideL; rw [List.length_map]; have := List.length_filter_le (fun v : Nat => decide ((v : Int) = m) || decide (plc p (v : Int) ∈ r.places)) (List.range n); rw [List.length_range] at this; exact this
theorem moreL_len (r : XReason) (m : Int) (n : Nat) : (moreL r m n).length ≤ n := by
  unfold moreL; rw [List.length_map]; have := List.length_filter_le (fun v : Nat => decide ((v : Int) = m) || decide ((v : Int) ∈ r.variables)) (List.range n); rw [List.length_range] at this; exact this
theorem more_B2 {p : XProblem} {r : XReason} {place less : UInt8} {v5 : List Int} (hr : r.places.length < 9223372036854775807) (hs : Small p) (hc : 1 ≤ p.cells.length) {N : Nat} (hN : N = p.cells.length * p.capacity.length) (hN2 : N ≤ 48)
    (h : loop2 (m4_overflightlaw32_ReasonMore_B4 p r place less v5 (wideL p r ((place.toNat : Int).tmod (N : Int)) N)) (((p.capacity.length : Int) - 0).toNat + 1) 0 ([] : List (List Int)) = some true) :
    loop2 (m4_overflightlaw32_ReasonMore_B2 p r place less v5) (((N : Int) - 0).toNat + 1) 0 ([] : List XPlace) = some true := by
  have hl : (List.range N).length = N := List.length_range
  have hw : IntKind.wrap .i64 ((p.cells.length : Int) * (p.capacity.length : Int)) = (N : Int) := by
    rw [show (p.cells.length : Int) * (p.capacity.length : Int) = (N : Int) by rw [hN]; simp]
    exact wrapN (by omega)
  refine up_listA (B := m4_overflightlaw32_ReasonMore_B2 p r place less v5) (fun i s => s = wideL p r ((place.toNat : Int).tmod (N : Int)) i) (fun _ _ _ => some true) (List.range N) (by omega) ?_ ?_ (by omega) rfl
  · intro sf s hI
    rw [m4_overflightlaw32_ReasonMore_B2, hw, hl, ltE, cond_false, hI, hl]; exact h
  · intro sf i s x t a1 a2 a3 hI ih
    rw [hl] at a1
    rw [m4_overflightlaw32_ReasonMore_B2, hw, ltBd a1, cond_true, jn_eq, ck_eq (by omega), ck_eq (by omega), more_B3 hr _ _ (by rw [hI]; have := wideL_len p r ((place.toNat : Int).tmod (N : Int)) i; omega), a3]
    exact ih _ (by rw [hI, wideL_succ])
theorem more_B0 {p : XProblem} {r : XReason} {variable_ place less : UInt8} (hr : r.variables.length < 9223372036854775807) (hs : Small p) (hc : 1 ≤ p.cells.length) {N : Nat} (hN : N = p.cells.length * p.capacity.length) (hN1 : 1 ≤ N) (hN2 : N ≤ 48)
    (h : loop2 (m4_overflightlaw32_ReasonMore_B2 p r place less (moreL r ((variable_.toNat : Int).tmod (p.variables.length : Int)) p.variables.length)) (((N : Int) - 0).toNat + 1) 0 ([] : List XPlace) = some true) :
    loop2 (m4_overflightlaw32_ReasonMore_B0 p r variable_ place less) (((p.variables.length : Int) - 0).toNat + 1) 0 ([] : List Int) = some true := by
  have hv := hs.vars
  have hw : IntKind.wrap .i64 ((p.cells.length : Int) * (p.capacity.length : Int)) = (N : Int) := by
    rw [show (p.cells.length : Int) * (p.capacity.length : Int) = (N : Int) by rw [hN]; simp]
    exact wrapN (by omega)
  refine up_listA (B := m4_overflightlaw32_ReasonMore_B0 p r variable_ place less) (fun i s => s = moreL r ((variable_.toNat : Int).tmod (p.variables.length : Int)) i) (fun _ _ _ => some true) p.variables (by omega) ?_ ?_ (by omega) rfl
  · intro sf s hI
    rw [m4_overflightlaw32_ReasonMore_B0, hw, ltE, cond_false, ck_eq (by omega), hI]; exact h
  · intro sf i s x t a1 a2 a3 hI ih
    rw [m4_overflightlaw32_ReasonMore_B0, ltBd a1, cond_true, jn_eq, more_B1 hr _ _ (by rw [hI]; have := moreL_len r ((variable_.toNat : Int).tmod (p.variables.length : Int)) i; omega), a3]
    exact ih _ (by rw [hI, moreL_succ])
end Go.Fx
/- ReasonMore: rising lists within rising lists. -/
set_option linter.unusedSimpArgs false
set_option linter.unusedVariables false
set_option maxRecDepth 100000
namespace Go.Fx
open Go Go.RowKit
theorem rising_sub {α : Type} {lt : α → α → Prop} (ht : ∀ a b c, lt a b → lt b c → lt a c) (hi : ∀ a, ¬ lt a a) : ∀ {m l : List α}, m.Pairwise lt → l.Pairwise lt → (∀ x ∈ l, x ∈ m) → l.Sublist m
  | [], l, _, _, h => by
    cases l with
    | nil => exact List.Sublist.slnil
    | cons a l => exact absurd (h a (List.mem_cons_self ..)) (by simp)
  | b :: m, [], _, _, _ => List.nil_sublist _
  | b :: m, a :: l, hm, hl, h => by
    rw [List.pairwise_cons] at hm hl
    rcases List.mem_cons.1 (h a (List.mem_cons_self ..)) with e | e
    · subst e
      refine List.Sublist.cons_cons _ (rising_sub ht hi hm.2 hl.2 fun x hx => ?_)
      rcases List.mem_cons.1 (h x (List.mem_cons_of_mem _ hx)) with e | e
      · exact absurd (hl.1 x hx) (by rw [e]; exact hi a)
      · exact e
    · refine List.Sublist.cons _ (rising_sub ht hi hm.2 (List.pairwise_cons.2 hl) fun x hx => ?_)
      rcases List.mem_cons.1 (h x hx) with e2 | e2
      · subst e2
        have h1 := hm.1 a e
        rcases List.mem_cons.1 hx with e3 | e3
        · subst e3; exact absurd h1 (hi _)
        · exact absurd (ht _ _ _ h1 (hl.1 _ e3)) (hi _)
      · exact e2
theorem moreL_mem {r : XReason} {m : Int} {n : Nat} {i : Int} : i ∈ moreL r m n ↔ (0 ≤ i ∧ i < (n : Int)) ∧ (i = m ∨ i ∈ r.variables) := by
  unfold moreL
  simp only [List.mem_map, List.mem_filter, List.mem_range, Bool.or_eq_true, decide_eq_true_eq]
  constructor
  · rintro ⟨k, ⟨h1, h2⟩, rfl⟩; exact ⟨by omega, h2⟩
  · rintro ⟨h1, h2⟩
    have e : ((i.toNat : Nat) : Int) = i := by omega
    exact ⟨i.toNat, ⟨by omega, by rw [e]; exact h2⟩, e⟩
theorem moreL_rise (r : XReason) (m : Int) (n : Nat) : (moreL r m n).Pairwise fun a b => a < b := by
  unfold moreL
  rw [List.pairwise_map]
  exact (List.Pairwise.filter _ List.pairwise_lt_range).imp fun h => by omega
theorem pairwise_adj {α : Type} {lt : α → α → Bool} : ∀ {l : List α}, l.Pairwise (fun a b => lt a b = true) → adj lt l = true
  | [], _ => rfl
  | [a], _ => rfl
  | a :: b :: l, h => by
    rw [List.pairwise_cons] at h
    simp only [adj, Bool.and_eq_true]
    exact ⟨h.1 b (List.mem_cons_self ..), pairwise_adj h.2⟩
end Go.Fx
/- ReasonMore: the places in order. -/
set_option linter.unusedSimpArgs false
set_option linter.unusedVariables false
set_option maxRecDepth 100000
namespace Go.Fx
open Go Go.RowKit
theorem plc_nat {p : XProblem} {v : Nat} (hv : v < 1000000) : plc p (v : Int) = ⟨((v / p.cells.length : Nat) : Int), ((v % p.cells.length : Nat) : Int)⟩ := by
  unfold plc
  have e1 : ((v : Int)).tdiv (p.cells.length : Int) = ((v / p.cells.length : Nat) : Int) := by
    rw [Int.tdiv_eq_ediv_of_nonneg (by omega)]; exact (Int.natCast_ediv v p.cells.length).symm
  have e2 : ((v : Int)).tmod (p.cells.length : Int) = ((v % p.cells.length : Nat) : Int) := by
    rw [Int.tmod_eq_emod_of_nonneg (by omega)]; exact (Int.natCast_emod v p.cells.length).symm
  rw [e1, e2, wrapN (by have := Nat.div_le_self v p.cells.length; omega)]
theorem plc_rise {p : XProblem} (hc : 1 ≤ p.cells.length) {v u : Nat} (h : v < u) (hu : u < 1000000) : pb (plc p (v : Int)) (plc p (u : Int)) = true := by
  rw [plc_nat (by omega), plc_nat hu]
  unfold pb
  have h1 : v / p.cells.length ≤ u / p.cells.length := Nat.div_le_div_right (by omega)
  have h2 := Nat.div_add_mod v p.cells.length
  have h3 := Nat.div_add_mod u p.cells.length
  rcases Nat.lt_or_eq_of_le h1 with h4 | h4
  · have : ((v / p.cells.length : Nat) : Int) < ((u / p.cells.length : Nat) : Int) := by omega
    simp only [decide_eq_true this, Bool.true_or]
  · have h5 : v % p.cells.length < u % p.cells.length := by rw [h4] at h2; omega
    have : ((v % p.cells.length : Nat) : Int) < ((u % p.cells.length : Nat) : Int) := by omega
    simp [h4, decide_eq_true this]
    omega
theorem wideL_rise {p : XProblem} (hc : 1 ≤ p.cells.length) (r : XReason) (m : Int) {n : Nat} (hn : n < 1000000) : adj pb (wideL p r m n) = true := by
  apply pairwise_adj
  unfold wideL
  rw [List.pairwise_map]
  refine (List.Pairwise.filter _ List.pairwise_lt_range).imp_of_mem fun {a b} ha hb h => plc_rise hc h ?_
  have := List.mem_range.1 (List.mem_filter.1 hb).1; omega
theorem wideL_mem {p : XProblem} {r : XReason} {m : Int} (hc : 1 ≤ p.cells.length) {N : Nat} (hN : N = p.cells.length * p.capacity.length) (hN2 : N ≤ 48) {x : XPlace} (hx : x ∈ r.places) (h1 : 0 ≤ x.leaf ∧ x.leaf < (p.capacity.length : Int)) (h2 : 0 ≤ x.cell ∧ x.cell < (p.cells.length : Int)) : x ∈ wideL p r m N := by
  have hlt : x.leaf.toNat * p.cells.length + x.cell.toNat < N := by
    rw [hN, Nat.mul_comm p.cells.length]
    have a : x.leaf.toNat + 1 ≤ p.capacity.length := by omega
    have b := Nat.mul_le_mul_right p.cells.length a
    rw [Nat.add_mul, Nat.one_mul] at b
    omega
  have e : plc p ((x.leaf.toNat * p.cells.length + x.cell.toNat : Nat) : Int) = x := by
    rw [plc_nat (by omega)]
    have d1 : (x.leaf.toNat * p.cells.length + x.cell.toNat) / p.cells.length = x.leaf.toNat := by
      rw [Nat.mul_comm, Nat.mul_add_div (by omega), Nat.div_eq_of_lt (by omega), Nat.add_zero]
    have d2 : (x.leaf.toNat * p.cells.length + x.cell.toNat) % p.cells.length = x.cell.toNat := by
      rw [Nat.mul_comm, Nat.mul_add_mod, Nat.mod_eq_of_lt (by omega)]
    rw [d1, d2]
    obtain ⟨a, b⟩ := x
    simp only at h1 h2
    simp only [Int.toNat_of_nonneg h1.1, Int.toNat_of_nonneg h2.1]
  unfold wideL
  refine List.mem_map.2 ⟨x.leaf.toNat * p.cells.length + x.cell.toNat, List.mem_filter.2 ⟨List.mem_range.2 hlt, ?_⟩, e⟩
  rw [e]; simp [hx]
theorem wideL_ok {p : XProblem} {r : XReason} {m : Int} (hc : 1 ≤ p.cells.length) {N : Nat} (hN : N = p.cells.length * p.capacity.length) (hN2 : N ≤ 48) : ∀ x ∈ wideL p r m N, (0 ≤ x.leaf ∧ x.leaf < (p.capacity.length : Int)) ∧ 0 ≤ x.cell ∧ x.cell < (p.cells.length : Int) := by
  intro x hx
  obtain ⟨v, hv, rfl⟩ := List.mem_map.1 hx
  have hlt := List.mem_range.1 (List.mem_filter.1 hv).1
  rw [plc_nat (by omega)]
  have h1 : v / p.cells.length < p.capacity.length := Nat.div_lt_of_lt_mul (by omega)
  have h2 : v % p.cells.length < p.cells.length := Nat.mod_lt _ (by omega)
  exact ⟨⟨Int.natCast_nonneg _, Int.ofNat_lt.2 h1⟩, Int.natCast_nonneg _, Int.ofNat_lt.2 h2⟩
end Go.Fx
