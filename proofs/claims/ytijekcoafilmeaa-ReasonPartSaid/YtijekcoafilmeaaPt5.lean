/- A reason is a problem without a solution that keeps its capacities. -/
import Derived.Test.YtijekcoafilmeaaPt4
import Derived.Test.YtijekcoafilmeaaRows
import Derived.WalkKit
import Derived.ShutString
set_option linter.unusedVariables false
set_option linter.unusedSimpArgs false
set_option maxRecDepth 100000
set_option maxHeartbeats 0
namespace Go.Fx
open Go Go.RowKit Go.Proofs
abbrev q74_0:List Nat:=[6,7,8,20,21,22,23,24,25,26,27,28,29,30,31,32,33,34,35,36,37,38,39,40,41,42,43,44,45,46]

abbrev q74_1:List Nat:=[4,5,6,7,8,13,14,15,16,17,18,19,20,21,22,23,24,25,26,27,28,29,30,31,32,33,34,35,36,37,38,39,40,41,42,43,44,45,46,47]

def m74_problem_overloads_1_B1 (fv0_:XProblem) (demand_1:(List (List Int))) (v_1:Int) (sf25:Int→Option (List (XPlace × Int))) (sf52:Int→Option (List (XPlace × Int))) (v_2:Int):Option (List (XPlace × Int)):=
 bif (decide (v_2<((demand_1.getD v_1.toNat default).length:Int))) then
  ck ((0:Int)≤v_2∧v_2<((demand_1.getD v_1.toNat default).length:Int))<|
  ck ((0:Int)≤v_1∧v_1<(fv0_.capacity.length:Int))<|
  ck ((0:Int)≤v_2∧v_2<((fv0_.capacity.getD v_1.toNat default).length:Int))<|
  bif (decide (0<(IntKind.wrap .i64 (((demand_1.getD v_1.toNat default).getD v_2.toNat default) - ((fv0_.capacity.getD v_1.toNat default).getD v_2.toNat default))))) then
   yl ((⟨v_1,v_2⟩:XPlace),(IntKind.wrap .i64 (((demand_1.getD v_1.toNat default).getD v_2.toNat default) - ((fv0_.capacity.getD v_1.toNat default).getD v_2.toNat default)))) (
   sf52 (IntKind.wrap .i64 (v_2+1)))
  else
   sf52 (IntKind.wrap .i64 (v_2+1))
 else
  sf25 (IntKind.wrap .i64 (v_1+1))

def m74_problem_overloads_1_B0 (fv0_:XProblem) (demand_1:(List (List Int))) (sf25:Int→Option (List (XPlace × Int))) (v_1:Int):Option (List (XPlace × Int)):=
 bif (decide (v_1<(demand_1.length:Int))) then
  ck ((0:Int)≤v_1∧v_1<(demand_1.length:Int))<|
  loop1 (m74_problem_overloads_1_B1 fv0_ demand_1 v_1 sf25) ((((demand_1.getD v_1.toNat default).length:Int) - 0).toNat+1) 0
 else
  some ([]:List (XPlace × Int))

def m74_problem_overloads_1 (fv0_:XProblem) (fv1_:List Int):Option (List (XPlace × Int)):=
 (m75_problem_demand fv0_ fv1_).bind fun demand_1=>
 loop1 (m74_problem_overloads_1_B0 fv0_ demand_1) (((demand_1.length:Int) - 0).toNat+1) 0

theorem c74_problem_overloads_1 {w:World} {O:List Nat} {fv0_:XProblem} {fv1_:List Int} {p_fv0_:Addr} {p_fv1_:Addr} (hO:∀k∈O,k<w.heap.size) (Fa:PtR rXProblem w O p_fv0_ fv0_) (Fb:PtR (rSl (rInt .i64)) w O p_fv1_ fv1_) {L:List (XPlace × Int)} (hm:m74_problem_overloads_1 fv0_ fv1_=some L):
 IterF Try.prog w O 74 [Value.pointer (some p_fv0_),Value.pointer (some p_fv1_)] (enc2 (vA rXPlace) (vI .i64)) L:=by
 unfold m74_problem_overloads_1 at hm
 obtain⟨x,hm,hL⟩:∃x,_=some x∧L=[]++x:=⟨L,hm,rfl⟩
 intro w1 O1 hst0 hO1 l J Jx hJ hJx hY h0
 refine Fn_of_Wp (n:=48) (xs:=[]) Try.func74 rfl Try.ntmps74 Try.results74 rfl ?_
 have hs:=St.start hO1
 have hI:=Itr.start h0
 refine Wp_seq<|Wp_region ?_
 replace Fa:=Fa.step hst0
 refine Rop<|op_loadPA ty26 rfl Fa rfl ?_
 intro vs1 h2
 obtain⟨_,_,rfl,⟨Aa,Ca,rfl,Fc⟩,⟨_,_,rfl,⟨Ab,Cb,rfl,Fd⟩,⟨Ac,Cc,rfl,Fe⟩⟩⟩:=h2
 replace Fb:=Fb.step hst0
 refine Rop<|op_loadP ty31 rfl Fb rfl ?_
 intro v4 h5
 obtain⟨Ad,Cd,rfl,Ff⟩:=un_sl h5
 obtain⟨demand_1,hv7,hm⟩:=bd hm
 refine Rop<|op_callE hs Try.call75 (c75_problem_demand (p:=fv0_) (b:=fv1_) hs.ltw Fc Fd Fe Ff hv7) rfl ?_
 rintro v8 w9 p13 hs12 h11
 obtain⟨Ae,Ce,rfl,Fg⟩:=un_sl h11
 refine Rop<|op_len Try.underlying23 rfl ?_
 have rl15:=inK_len Fg
 refine Mve (Iv 0) rfl<|Rg_nil<|Wp_block<|Wr [] [(0,Value.func (.yield l) #[] #[]),(1,Value.pointer (some p_fv0_)),(11,Sl Ae demand_1 Ce),(12,Iv (demand_1.length:Int)),(13,Iv 0)] fun ξ24=>Wp_loopM q74_1 (fun m fr w'=>∃(v_1:Int) (xr17 pre18:List (XPlace × Int)) (wz19:World) (Kz20 Oz21:List Nat) (Ebs:Ents),Ebs=[]∧fr [] [(13,Iv v_1)]∧hs12.S (ks Ebs Oz21) w'∧St ⟨wz19,Kz20,[]⟩ Oz21 w' Ebs∧InK .i64 v_1∧Itr J pre18 ⟨wz19,Kz20,[]⟩ Oz21∧L=pre18++xr17∧loop1 (m74_problem_overloads_1_B0 fv0_ demand_1) m v_1=some xr17) (((demand_1.length:Int) - 0).toNat+1) ⟨0,x,([]:List _),w1,[],O1,_,rfl,Frm.of ⟨rfl,trivial⟩,Step.refl _ _,hs12,(show InK .i64 0 from by decide),hI,hL,hm⟩ ?_ ?_
 rintro _ _ ⟨_,_,_,_,_,_,_,_,_,_,_,_,_,_,hm⟩;exact loop1_z hm
 rintro m28 K27 hK27 ρ33 w29 ⟨v_1,xr17,pre18,wz19,Kz20,Oz21,_,rfl,hfr32,hst31,hs30,Ra,hI22,hL23,hm⟩
 obtain⟨sf25,hsf26,hm⟩:=loop1_s hm;unfold m74_problem_overloads_1_B0 at hm
 rw [hfr32.eq];clear hfr32
 have ch34:=hst31
 refine Wp_seq ?_
 clear Fb Fc Fd Fe Ff
 refine Wp_region<|Rop<|op_lss rfl rfl<|Rg_nil<|Wp_seq<|Wp_condM hm rfl (fun hc35 hm=>?_) (fun hc35 hm=>?_)
 refine Wp_skip<|Wp_seq<|Wp_block<|Wp_seq<|Wp_region<|Mve (Iv v_1) rfl ?_
 obtain⟨hc36,hm⟩:=ck_some hm
 replace Fg:=Fg.step hst31
 refine Rop<|op_indexAddr (q:=rSl (rInt .i64)) ty23 ty31 rfl rfl Fg rfl hc36.1 hc36.2 ?_
 intro p37 f38
 refine Rop<|op_loadP ty31 rfl f38 rfl ?_
 intro v39 h40
 obtain⟨Af,Cf,rfl,Fh⟩:=un_sl h40
 refine Asg (Iv v_1) rfl<|Asg (Sl Af (demand_1.getD v_1.toNat default) Cf) rfl<|Rg_nil<|Wp_seq ?_
 clear f38
 refine Wp_region<|Mve (Sl Af (demand_1.getD v_1.toNat default) Cf) rfl<|Rop<|op_len Try.underlying31 rfl ?_
 have rl42:=inK_len Fh
 refine Mve (Iv 0) rfl<|Rg_nil<|Wp_block<|Wr2 q74_1 [] (updL ⟨ξ24,[]⟩ [(0,Value.func (.yield l) #[] #[]),(1,Value.pointer (some p_fv0_)),(11,Sl Ae demand_1 Ce),(12,Iv (demand_1.length:Int)),(13,Iv 0)]) [(4,Iv v_1),(13,Iv v_1),(18,Sl Af (demand_1.getD v_1.toNat default) Cf),(19,Iv ((demand_1.getD v_1.toNat default).length:Int)),(20,Iv 0)] fun ξ51=>Wp_loopM q74_0 (fun m fr w'=>∃(v_2:Int) (xr44 pre45:List (XPlace × Int)) (wz46:World) (Kz47 Oz48:List Nat) (Ebs:Ents),Ebs=[]∧fr [] [(20,Iv v_2)]∧hs30.S (ks Ebs Oz48) w'∧St ⟨wz46,Kz47,[]⟩ Oz48 w' Ebs∧InK .i64 v_2∧Itr J pre45 ⟨wz46,Kz47,[]⟩ Oz48∧L=pre45++xr44∧loop1 (m74_problem_overloads_1_B1 fv0_ demand_1 v_1 sf25) m v_2=some xr44) ((((demand_1.getD v_1.toNat default).length:Int) - 0).toNat+1) ⟨0,xr17,pre18,wz19,Kz20,Oz21,_,rfl,Frm.of ⟨rfl,trivial⟩,Step.refl _ _,hs30,(show InK .i64 0 from by decide),hI22,hL23,hm⟩ ?_ ?_
 rintro _ _ ⟨_,_,_,_,_,_,_,_,_,_,_,_,_,_,hm⟩;exact loop1_z hm
 rintro m55 K54 hK54 ρ60 w56 ⟨v_2,xr44,pre45,wz46,Kz47,Oz48,_,rfl,hfr59,hst58,hs57,Rb,hI49,hL50,hm⟩
 obtain⟨sf52,hsf53,hm⟩:=loop1_s hm;unfold m74_problem_overloads_1_B1 at hm
 rw [hfr59.eq];clear hfr59
 have ch61:=hst58
 refine Wp_seq<|Wp_region<|Rop<|op_lss rfl rfl<|Rg_nil<|Wp_seq<|Wp_condM hm rfl (fun hc62 hm=>?_) (fun hc62 hm=>?_)
 refine Wp_skip<|Wp_seq<|Wp_block<|Wp_seq<|Wp_region<|Mve (Iv v_2) rfl ?_
 obtain⟨hc63,hm⟩:=ck_some hm
 replace Fh:=Fh.step hst58
 refine Rop<|op_indexAddr (q:=(rInt .i64)) ty31 ty3 rfl rfl Fh rfl hc63.1 hc63.2 ?_
 intro p64 f65
 refine Rop<|op_loadP ty3 rfl f65 rfl ?_
 intro v66 h67
 obtain⟨rfl,Rc⟩:=un_int h67
 refine Asg (Iv v_2) rfl<|Asg (Iv ((demand_1.getD v_1.toNat default).getD v_2.toNat default)) rfl<|Rg_nil<|Wp_seq ?_
 clear f65
 refine Wp_region<|Mve (Iv ((demand_1.getD v_1.toNat default).getD v_2.toNat default)) rfl<|Rop<|op_fieldAddr ty26 rfl ty23 (by decide) rfl rfl ?_
 replace Fa:=Fa.step (p13.trans (hst31.trans hst58))
 have f69:=Fa.via.snd.fst
 refine Rop<|op_loadP ty23 rfl f69 rfl ?_
 intro v70 h71
 obtain⟨Ag,Cg,rfl,Fi⟩:=un_sl h71
 refine Mve (Iv v_1) rfl ?_
 obtain⟨hc73,hm⟩:=ck_some hm
 refine Rop<|op_indexAddr (q:=rSl (rInt .i64)) ty23 ty31 rfl rfl Fi rfl hc73.1 hc73.2 ?_
 intro p74 f75
 refine Rop<|op_loadP ty31 rfl f75 rfl ?_
 intro v76 h77
 obtain⟨Ah,Ch,rfl,Fj⟩:=un_sl h77
 refine Mve (Iv v_2) rfl ?_
 obtain⟨hc79,hm⟩:=ck_some hm
 refine Rop<|op_indexAddr (q:=(rInt .i64)) ty31 ty3 rfl rfl Fj rfl hc79.1 hc79.2 ?_
 intro p80 f81
 refine Rop<|op_loadP ty3 rfl f81 rfl ?_
 intro v82 h83
 obtain⟨rfl,Rd⟩:=un_int h83
 refine Rop<|op_subw rfl rfl<|Asg (Iv (IntKind.wrap .i64 (((demand_1.getD v_1.toNat default).getD v_2.toNat default) - ((fv0_.capacity.getD v_1.toNat default).getD v_2.toNat default)))) rfl<|Rg_nil<|Wp_seq ?_
 clear f69 Fi f75 Fj f81
 refine Wp_region<|Mve (Iv (IntKind.wrap .i64 (((demand_1.getD v_1.toNat default).getD v_2.toNat default) - ((fv0_.capacity.getD v_1.toNat default).getD v_2.toNat default)))) rfl<|Rop<|op_gtr rfl rfl<|Mve (Bo (decide (0<(IntKind.wrap .i64 (((demand_1.getD v_1.toNat default).getD v_2.toNat default) - ((fv0_.capacity.getD v_1.toNat default).getD v_2.toNat default)))))) rfl<|Rg_caseM hm (fun hg85 hm=>?_) (fun hg85 hm=>?_)
 refine Rog rfl rfl<|op_move (v:=Value.func (.yield l) #[] #[]) rfl<|Rog rfl rfl<|op_move (v:=Iv v_1) rfl<|Rog rfl rfl<|op_move (v:=Iv v_2) rfl<|Rog rfl rfl<|op_build (vs:=[Iv v_1,Iv v_2]) (parts:=[(0,.tmp 39),(1,.tmp 40)]) ty45 pl45 rfl<|Rog rfl rfl<|op_move (v:=Iv (IntKind.wrap .i64 (((demand_1.getD v_1.toNat default).getD v_2.toNat default) - ((fv0_.capacity.getD v_1.toNat default).getD v_2.toNat default)))) rfl ?_
 obtain⟨xr86,hm,hL87⟩:=yl_elim hm
 rw [hL87] at hL50
 refine Rog rfl rfl (op_yield (pre:=pre45) (a:=((⟨v_1,v_2⟩:XPlace),(IntKind.wrap .i64 (((demand_1.getD v_1.toNat default).getD v_2.toNat default) - ((fv0_.capacity.getD v_1.toNat default).getD v_2.toNat default))))) rfl rfl hY hJ hI49 hs57 ⟨xr86,by rw [hL50];simp⟩ (show(enc2 (vA rXPlace) (vI .i64)) _ _ _ _ from⟨_,_,rfl,mkA (mkVia (mk_pair (mk_int Ra) (mk_int Rb))),⟨rfl,(inK_wrap .i64 _)⟩⟩) ?_ ?_)
 intro w88 O89 hs90 p91 hI92
 clear hs57
 have hL93:L=(pre45++[((⟨v_1,v_2⟩:XPlace),(IntKind.wrap .i64 (((demand_1.getD v_1.toNat default).getD v_2.toNat default) - ((fv0_.capacity.getD v_1.toNat default).getD v_2.toNat default))))])++xr86:=by rw [hL50];simp
 refine Rog rfl rfl<|op_not rfl<|Pkt (Bo false) rfl rfl<|Rg_nil<|Wp_cond_f rfl<|Wp_skip<|Wr2 q74_0 [] (updL (mix q74_1 [] ξ51 (updL ⟨ξ24,[]⟩ [(0,Value.func (.yield l) #[] #[]),(1,Value.pointer (some p_fv0_)),(11,Sl Ae demand_1 Ce),(12,Iv (demand_1.length:Int)),(13,Iv 0)])) [(4,Iv v_1),(13,Iv v_1),(18,Sl Af (demand_1.getD v_1.toNat default) Cf),(19,Iv ((demand_1.getD v_1.toNat default).length:Int)),(20,Iv 0)]) [(20,Iv v_2),(38,Value.func (.yield l) #[] #[]),(39,Iv v_1),(40,Iv v_2),(41,Value.agg [Iv v_1,Iv v_2].toArray),(42,Iv (IntKind.wrap .i64 (((demand_1.getD v_1.toNat default).getD v_2.toNat default) - ((fv0_.capacity.getD v_1.toNat default).getD v_2.toNat default)))),(43,Bo true),(44,Bo false)] fun ξ94=>Wp_region<|Rop<|op_addw rfl rfl<|Mve (Iv (IntKind.wrap .i64 (v_2+1))) rfl<|Rg_nil ?_
 replace ch61:=ch61.trans p91
 exact hK54 _ _ ⟨(IntKind.wrap .i64 (v_2+1)),xr86,pre45++[((⟨v_1,v_2⟩:XPlace),(IntKind.wrap .i64 (((demand_1.getD v_1.toNat default).getD v_2.toNat default) - ((fv0_.capacity.getD v_1.toNat default).getD v_2.toNat default))))],w88,List.filterMap Prod.fst [],O89,_,rfl,Frm.of ⟨rfl,trivial⟩,ch61,hs90,(inK_wrap .i64 _),hI92,hL93,jnE1 hsf53 hm⟩
 intro w95 O96 hs97 hI99
 exact Rog rfl rfl<|op_not rfl<|Pkt (Bo true) rfl rfl<|Rg_nil<|Wp_cond_t rfl<|Wp_ret<|⟨_,Clo,[],trivial,_,.inr ⟨_,hI99.fin hJx hs97⟩⟩
 iterate 7 refine Rg_opx rfl (asB_ne rfl rfl) rfl ?_
 exact Pkf (Bo false) rfl rfl<|Rg_nil<|Wp_cond_f rfl<|Wp_skip<|Wr2 q74_0 [] (updL (mix q74_1 [] ξ51 (updL ⟨ξ24,[]⟩ [(0,Value.func (.yield l) #[] #[]),(1,Value.pointer (some p_fv0_)),(11,Sl Ae demand_1 Ce),(12,Iv (demand_1.length:Int)),(13,Iv 0)])) [(4,Iv v_1),(13,Iv v_1),(18,Sl Af (demand_1.getD v_1.toNat default) Cf),(19,Iv ((demand_1.getD v_1.toNat default).length:Int)),(20,Iv 0)]) [(20,Iv v_2)] fun ξ100=>Wp_region<|Rop<|op_addw rfl rfl<|Mve (Iv (IntKind.wrap .i64 (v_2+1))) rfl<|Rg_nil<|hK54 _ _ ⟨(IntKind.wrap .i64 (v_2+1)),xr44,pre45,wz46,Kz47,Oz48,_,rfl,Frm.of ⟨rfl,trivial⟩,ch61,hs57,(inK_wrap .i64 _),hI49,hL50,jnE1 hsf53 hm⟩
 refine Wp_exit ?_
 clear Fh
 refine Wp_region<|Rop<|op_addw rfl rfl<|Mve (Iv (IntKind.wrap .i64 (v_1+1))) rfl<|Rg_nil ?_
 replace ch34:=ch34.trans hst58
 exact hK27 _ _ ⟨(IntKind.wrap .i64 (v_1+1)),xr44,pre45,wz46,Kz47,Oz48,_,rfl,Frm.of ⟨rfl,trivial⟩,ch34,hs57,(inK_wrap .i64 _),hI49,hL50,jnE1 hsf26 hm⟩
 refine Wp_exit ?_
 have h101:=hI22.fin hJ hs30
 rw [← Option.some.inj hm,List.append_nil] at hL23;rw [← hL23] at h101
 exact⟨_,Clo,[],trivial,_,.inl h101⟩

def m48_problem_overloads (p:XProblem) (b:List Int):Option (List (XPlace × Int)):=
 (m74_problem_overloads_1 p b).bind fun l_1=>
 some l_1

theorem c48_problem_overloads {w:World} {O:List Nat} {p:XProblem} {b:List Int} {Aa:Option Addr} {Ca:Nat} {Ab:Option Addr} {Cb:Nat} {Ac:Option Addr} {Cc:Nat} {Ad:Option Addr} {Cd:Nat} (hO:∀k∈O,k<w.heap.size) (Fa:SlR rXCell w O Aa Ca p.cells) (Fb:SlR (rSl (rInt .i64)) w O Ab Cb p.capacity) (Fc:SlR rXVariable w O Ac Cc p.variables) (Fd:SlR (rInt .i64) w O Ad Cd b) {x:(List (XPlace × Int))} (hm:m48_problem_overloads p b=some x):
 Ok Try.prog 48 [Value.agg [Sl Aa p.cells Ca,Sl Ab p.capacity Cb,Sl Ac p.variables Cc].toArray,Sl Ad b Cd] w O (vIt Try.prog (enc2 (vA rXPlace) (vI .i64))) x:=by
 unfold m48_problem_overloads at hm
 refine Fn_of_Wp (n:=6) (xs:=[.tmp 4]) Try.func48 rfl Try.ntmps48 Try.results48 rfl ?_
 have hs:=St.start hO
 refine Wp_seq<|Wp_region<|Rop<|op_box (cs:=[Sl Aa p.cells Ca,Sl Ab p.capacity Cb,Sl Ac p.variables Cc]) hs rfl rfl ?_
 intro b1 w2 _ p3 hs4
 refine Rop<|op_box (cs:=[Sl Ad b Cd]) hs4 rfl rfl ?_
 intro b6 w7 _ p8 hs9
 clear hs4
 refine Asg (Value.nilFunc) rfl<|Rg_nil<|Wp_seq<|Wp_region ?_
 have p14:=(p3.trans p8)
 replace Fb:=Fb.step p14;replace Fa:=Fa.step p14;replace Fc:=Fc.step p14
 obtain⟨hs12,p13,f11⟩:=St.publishP (p:=rXProblem) (i:=1) (x:=p) hs9 rfl (mkVia (mk_pair (mk_sl Fa) (mk_pair (mk_sl Fb) (mk_sl Fc))))
 clear hs9
 replace Fd:=Fd.step (p14.trans p13)
 obtain⟨hs16,p17,f15⟩:=St.publishP (p:=rSl (rInt .i64)) (i:=0) (x:=b) hs12 rfl (mk_sl Fd)
 clear hs12
 refine Rop<|op_makeFunc' (a':=[]) (c':=[Value.pointer (some (⟨b1,0,none⟩:Addr)),Value.pointer (some (⟨b6,0,none⟩:Addr))]) rfl rfl ?_
 obtain⟨l_1,hv18,hm⟩:=bd hm
 replace f11:=f11.step p17
 have F19:ItR Try.prog (enc2 (vA rXPlace) (vI .i64)) w7 (ks [] O) (Value.func (.func 74) #[] #[Value.pointer (some (⟨b1,0,none⟩:Addr)),Value.pointer (some (⟨b6,0,none⟩:Addr))]) l_1:=⟨74,[Value.pointer (some (⟨b1,0,none⟩:Addr)),Value.pointer (some (⟨b6,0,none⟩:Addr))],rfl,Try.call74,c74_problem_overloads_1 hs16.ltw f11 f15 hv18⟩
 refine Asg (Value.func (.func 74) #[] #[Value.pointer (some (⟨b1,0,none⟩:Addr)),Value.pointer (some (⟨b6,0,none⟩:Addr))]) rfl<|Rg_nil<|Wp_ret ?_
 have hz:=step_all hs16
 refine⟨_,Clo,[Value.func (.func 74) #[] #[Value.pointer (some (⟨b1,0,none⟩:Addr)),Value.pointer (some (⟨b6,0,none⟩:Addr))]],⟨rfl,trivial⟩,hs16.ext,?_⟩
 replace F19:=F19.step hz
 exact Vr.eq (a:=vIt Try.prog (enc2 (vA rXPlace) (vI .i64))) (x:=l_1) F19 (oi hm)

def m28_problem_Overloads_B0 (sf57:(List XPlace)→Option ((List XPlace) × Int)) (xi48:XPlace × Int) (v_1:List XPlace):Option ((List XPlace) × Int):=
 ck ((v_1.length+[xi48.1].length)*16≤140737488355328)<|
 sf57 (v_1++[xi48.1])

def m28_problem_Overloads (p:XProblem) (choices:List Int):Option ((List XPlace) × Int):=
 (m47_problem_whole p choices).bind fun whole_1=>
 bif (decide (whole_1≠0)) then
  some (([]:List XPlace),whole_1)
 else
  (m48_problem_overloads p choices).bind fun overloads_1=>
  jn (fun(v_1:List XPlace)=>
   some (v_1,0))
  (fun k37=>
   rng1 m28_problem_Overloads_B0 k37 overloads_1 ([]:List XPlace))

theorem f28_problem_Overloads {w:World} {O:List Nat} {p:XProblem} {choices:List Int} {Aa:Option Addr} {Ca:Nat} {Ab:Option Addr} {Cb:Nat} {Ac:Option Addr} {Cc:Nat} {Ad:Option Addr} {Cd:Nat} (hO:∀k∈O,k<w.heap.size) (Fa:SlR rXCell w O Aa Ca p.cells) (Fb:SlR (rSl (rInt .i64)) w O Ab Cb p.capacity) (Fc:SlR rXVariable w O Ac Cc p.variables) (Fd:SlR (rInt .i64) w O Ad Cd choices) {x:(List XPlace) × Int} (hm:m28_problem_Overloads p choices=some x):
 OkF Try.prog 28 [Value.agg [Sl Aa p.cells Ca,Sl Ab p.capacity Cb,Sl Ac p.variables Cc].toArray,Sl Ad choices Cd] w O (vT2 (vC (rSl rXPlace)) (vI .i64)) x:=by
 unfold m28_problem_Overloads at hm
 refine Fn_of_Wp (n:=23) (xs:=[.cell 4 32,.tmp 5]) Try.func28 rfl Try.ntmps28 Try.results28 rfl ?_
 have hs:=St.start hO
 refine Wp_seq<|Wp_region<|Rop<|op_box (cs:=[Sl Aa p.cells Ca,Sl Ab p.capacity Cb,Sl Ac p.variables Cc]) hs rfl rfl ?_
 intro b1 w2 _ p3 hs4
 refine Rop<|op_alloc ty32 hs4 ?_
 intro b6 w7 _ p8 hs9
 clear hs4
 refine Asg (Iv 0) rfl<|Rg_nil<|Wp_seq<|Wp_seq<|Wp_region<|Rop<|op_ldA 1 ty26 hs9 rfl rfl rfl<|Mve (Sl Ad choices Cd) rfl ?_
 obtain⟨whole_1,hv11,hm⟩:=bd hm
 have p17:=(p3.trans p8)
 replace Fd:=Fd.step p17;replace Fb:=Fb.step p17;replace Fa:=Fa.step p17;replace Fc:=Fc.step p17
 refine Rop<|op_callE hs9 Try.call47 (c47_problem_whole (p:=p) (choices:=choices) hs9.ltw Fa Fb Fc Fd hv11) rfl ?_
 rintro v12 w13 p18 hs16 h15
 clear hs9
 obtain⟨rfl,Ra⟩:=h15
 refine Asg (Iv whole_1) rfl<|Rg_nil<|Wp_seq<|Wp_region<|Mve (Iv whole_1) rfl<|Rop<|op_neq rfl rfl<|Rg_nil<|Wp_condM hm rfl (fun hc20 hm=>?_) (fun hc20 hm=>?_)
 refine Wp_seq ?_
 obtain⟨hs21,p22⟩:=hs16.sub (bs':=[(some b6,Oc [Value.slice none 0 0] 32)]) (.cons_cons _ (.cons _ List.Sublist.slnil))
 clear Fa Fb Fc Fd
 clear hs16
 refine Wp_region<|Mve (Iv whole_1) rfl<|Rg_op_<|op_stS (Value.slice none 0 0) .z ty32 hs21 rfl rfl rfl rfl ?_
 intro w23 p24 hs25
 clear hs21
 refine Asg (Iv whole_1) rfl<|Rg_nil<|Wp_ret ?_
 have hs26:=St.fresh (O:=O) hs25 (fun k hk=>hk)
 refine⟨_,Clo,[Value.slice none 0 0,Iv whole_1],⟨res1 (cs:=[Value.slice none 0 0]) ty32 (i:=0) hs26 rfl rfl rfl,rfl,trivial⟩,hs26.ext,?_⟩
 exact Vr.eq (a:=vT2 (vC (rSl rXPlace)) (vI .i64)) (x:=(([]:List XPlace),whole_1)) (mkT2 (mkC (mk_sl SlR.nil_)) ⟨rfl,Ra⟩) (oi hm)
 refine Wp_skip<|Wp_seq<|Wp_seq<|Wp_region<|Rop<|op_ldA 1 ty26 hs16 rfl rfl rfl<|Mve (Sl Ad choices Cd) rfl ?_
 obtain⟨overloads_1,hv27,hm⟩:=bd hm
 replace Fd:=Fd.step p18;replace Fb:=Fb.step p18;replace Fa:=Fa.step p18;replace Fc:=Fc.step p18
 refine Rop<|op_callE hs16 Try.call48 (c48_problem_overloads (p:=p) (b:=choices) hs16.ltw Fa Fb Fc Fd hv27) rfl ?_
 rintro v28 w29 p33 hs32 h31
 clear hs16
 have F_y34:ItR Try.prog (enc2 (vA rXPlace) (vI .i64)) _ _ v28 overloads_1:=h31
 refine Rg_nil<|Wp_block ?_
 obtain⟨k37,hk38,hm⟩:=jn_elim hm
 have hs44:=hs32.ghost (Obj.cells #[] 45)
 have hit43:=F_y34;obtain⟨fk39,cp40,hvq41,hcl42,hit43⟩:=hit43
 refine Wp_rangeFunc (σ:=(List XPlace) × (Option Addr) × Nat × (Option Nat) × Obj) (ps:=[16,17]) hs44 (rfl.trans hvq41) hcl42 hit43 rfl enc2_len enc2_step (fun s=>match s with |(v_1,Ae,Ce,k_g36,o_g36)=>[(k_g36,o_g36),(some b6,Oc [Sl Ae v_1 Ce] 32),(some b1,Oc [Sl Aa p.cells Ca,Sl Ab p.capacity Cb,Sl Ac p.variables Cc] 26)]) (fun s w O=>match s with |(v_1,Ae,Ce,k_g36,o_g36)=>Gs rXPlace 45 w O Ae Ce v_1 k_g36 o_g36) (fun s w O w' O' p h=>by obtain⟨v_1,Ae,Ce,k_g36,o_g36⟩:=s;have h:Gs rXPlace 45 w O Ae Ce v_1 k_g36 o_g36:=h;have Fe:=h;exact Fe.step p) (fun s l=>match s with |(v_1,Ae,Ce,k_g36,o_g36)=>rng1 m28_problem_Overloads_B0 k37 l v_1=some x) [] (fun _ _=>False) (([]:List XPlace),none,0,none,Obj.cells #[] 45) rfl Gs.nil_ hm ?_ ?_ ?_
 rintro l46 E47 ⟨v_1,Ae,Ce,k_g36,o_g36⟩ xi48 rest49 w50 vs51 z52 hz53 hs54 hst55 Fe hm hx56
 replace hs54:St z52 (E47++O) w50 [(k_g36,o_g36),(some b6,Oc [Sl Ae v_1 Ce] 32),(some b1,Oc [Sl Aa p.cells Ca,Sl Ab p.capacity Cb,Sl Ac p.variables Cc] 26)]:=hs54
 have ch59:Step (ks [(none,Obj.cells #[] 45),(some b6,Oc [Value.slice none 0 0] 32),(some b1,Oc [Sl Aa p.cells Ca,Sl Ab p.capacity Cb,Sl Ac p.variables Cc] 26)] O) w29 (ks [(k_g36,o_g36),(some b6,Oc [Sl Ae v_1 Ce] 32),(some b1,Oc [Sl Aa p.cells Ca,Sl Ab p.capacity Cb,Sl Ac p.variables Cc] 26)] (E47++O)) w50:=hst55;clear hst55
 replace Fe:Gs rXPlace 45 w50 (ks [(k_g36,o_g36),(some b6,Oc [Sl Ae v_1 Ce] 32),(some b1,Oc [Sl Aa p.cells Ca,Sl Ab p.capacity Cb,Sl Ac p.variables Cc] 26)] (E47++O)) Ae Ce v_1 k_g36 o_g36:=Fe
 have hm60:=rng1_s (show rng1 _ _ (xi48::rest49) v_1=some _ from hm);clear hm;obtain⟨sf57,hsf58,hm⟩:=hm60
 unfold m28_problem_Overloads_B0 at hm
 replace hx56:(enc2 (vA rXPlace) (vI .i64)) xi48 w50 (ks [(k_g36,o_g36),(some b6,Oc [Sl Ae v_1 Ce] 32),(some b1,Oc [Sl Aa p.cells Ca,Sl Ab p.capacity Cb,Sl Ac p.variables Cc] 26)] (E47++O)) vs51:=hx56
 obtain⟨v61,v62,rfl,h63,h64⟩:=hx56
 obtain⟨_,rfl,⟨_,_,rfl,⟨rfl,Rb⟩,⟨rfl,Rc⟩⟩⟩:=h63
 obtain⟨rfl,Rd⟩:=h64
 refine Wp_region<|Rop<|op_alloc ty45 hs54 ?_
 intro b67 w68 _ p69 hs70
 clear hs54
 refine Rg_op_<|op_stA .z ty45 hs70 rfl rfl rfl rfl rfl ?_
 intro w72 p73 hs74
 clear hs70
 refine Rg_nil<|Exists.intro _<|And.intro hs74 ?_
 intro w75 z76 RQ77 hz78 hs79 p80 hN81 hX82
 clear hs74
 refine Wp_block ?_
 clear Fd
 refine Wp_region<|Rop<|op_ld 2 ty32 hs79 rfl rfl rfl<|Rop<|op_ldA 0 ty45 hs79 rfl rfl rfl<|Rop<|op_buildSlice (cs:=[Iv xi48.1.leaf,Iv xi48.1.cell]) (parts:=[(0,.tmp 19)]) ty32 ty45 hs79 (by decide) rfl ?_
 intro b83 w84 hx87 p85 hs86
 clear hs79
 obtain⟨hc89,hm⟩:=ck_some hm
 have p98:=(p69.trans (p73.trans (p80.trans p85)))
 replace Fe:=Fe.step p98
 refine Rop (op_append (q:=rXPlace) (i:=2) (xs:=v_1) (ys:=[xi48.1]) (news:=[Iv xi48.1.leaf,Iv xi48.1.cell]) ty32 ty45 rfl (by decide) hs86 rfl rfl Fe rfl (Src.owned' (len:=2) (hs86.get (i:=0) rfl) rfl) (show Els rXPlace _ _ [Iv xi48.1.leaf,Iv xi48.1.cell] [xi48.1] from⟨_,_,rfl,mkVia (mk_pair (mk_int Rb) (mk_int Rc)),Els.nil⟩) hc89 (by have:=hc89;simp only [maxLen];omega) ?_)
 intro a93 c94 k95 o96 w90 p91 hs92 f97
 clear hs86
 have hs99:=hs92.drop 0
 have p100:=(hs92.dropS 0)
 clear hs92
 refine Rg_op_<|op_stS (Sl a93 (v_1++[xi48.1]) c94) Put.p2 ty32 hs99 rfl rfl rfl rfl ?_
 intro w101 p102 hs103
 clear hs99
 refine Rg_nil ?_
 have hs104:=hs103.drop 0
 have p105:=(hs103.dropS 0)
 clear hs103
 replace ch59:=ch59.trans (p98.trans (p91.trans (p100.trans (p102.trans p105))))
 replace f97:=f97.step (p100.trans (p102.trans p105))
 exact hN81 (v_1++[xi48.1],a93,c94,k95,o96) _ _ hs104 ch59 f97 (jnE1 hsf58 hm)
 rintro D106 ⟨v_1,Ae,Ce,k_g36,o_g36⟩ w107 hs108 hst109 Fe hm
 replace hs108:St ⟨w,[],D106::[]⟩ (D106::O) w107 [(k_g36,o_g36),(some b6,Oc [Sl Ae v_1 Ce] 32),(some b1,Oc [Sl Aa p.cells Ca,Sl Ab p.capacity Cb,Sl Ac p.variables Cc] 26)]:=hs108
 replace hst109:Step (ks [(none,Obj.cells #[] 45),(some b6,Oc [Value.slice none 0 0] 32),(some b1,Oc [Sl Aa p.cells Ca,Sl Ab p.capacity Cb,Sl Ac p.variables Cc] 26)] O) w29 (ks [(k_g36,o_g36),(some b6,Oc [Sl Ae v_1 Ce] 32),(some b1,Oc [Sl Aa p.cells Ca,Sl Ab p.capacity Cb,Sl Ac p.variables Cc] 26)] (D106::O)) w107:=hst109
 replace Fe:Gs rXPlace 45 w107 (ks [(k_g36,o_g36),(some b6,Oc [Sl Ae v_1 Ce] 32),(some b1,Oc [Sl Aa p.cells Ca,Sl Ab p.capacity Cb,Sl Ac p.variables Cc] 26)] (D106::O)) Ae Ce v_1 k_g36 o_g36:=Fe
 replace hm:=rng1_z (show rng1 _ _ [] v_1=some _ from hm)
 replace hm:=jnE1 hk38 (show k37 v_1=some _ from hm)
 clear hs44
 refine Wp_seq ?_
 obtain⟨hs111,p112⟩:=hs108.sub (bs':=[(k_g36,o_g36),(some b6,Oc [Sl Ae v_1 Ce] 32)]) (.cons_cons _ (.cons_cons _ (.cons _ List.Sublist.slnil)))
 clear Fa Fb Fc Fd F_y34
 clear hs108
 refine Wp_region<|Rop<|op_ld 1 ty32 hs111 rfl rfl rfl<|Rg_op_<|op_stS (Sl Ae v_1 Ce) Put.p1 ty32 hs111 rfl rfl rfl rfl ?_
 intro w113 p114 hs115
 clear hs111
 refine Asg (Iv 0) rfl<|Rg_nil<|Wp_ret ?_
 obtain⟨w116,hcl117,hs118,p119⟩:=St.close hs115
 clear hs115
 have hs120:=St.fresh (O:=O) hs118 (fun k hk=>by simp [hk])
 replace Fe:=Fe.step (p112.trans (p114.trans p119))
 replace Fe:=Gs.flat (Flat.via (Flat.pair Flat.int Flat.int)) Fe w116 (ks [(k_g36,o_g36),(some b6,Oc [Sl Ae v_1 Ce] 32)] (List.range w.heap.size++O))
 obtain⟨hs122,p123,f121⟩:=Gs.publish (i:=0) hs120 rfl Fe
 clear hs120
 have hz:=step_all hs122
 refine⟨_,hcl117,[Sl Ae v_1 Ce,Iv 0],⟨res1 (cs:=[Sl Ae v_1 Ce]) ty32 (i:=0) hs122 rfl rfl rfl,rfl,trivial⟩,hs122.ext,?_⟩
 replace f121:=f121.step hz
 exact Vr.eq (a:=vT2 (vC (rSl rXPlace)) (vI .i64)) (x:=(v_1,0)) (mkT2 (mkC (mk_sl f121)) ⟨rfl,(show InK .i64 0 from by decide)⟩) (oi hm)
 intro _ _ _ _ h;simp at h
abbrev q9_3:List Nat:=[14,15,94,95,96,97,98,99,100,101,102,103,104,105,106,107,108,109,110,111,112,113]

abbrev q9_4:List Nat:=[4,13,14,15,88,89,90,91,92,93,94,95,96,97,98,99,100,101,102,103,104,105,106,107,108,109,110,111,112,113,114,115]

abbrev q9_5:List Nat:=[4,9,10,11,12,13,14,15,74,75,76,77,78,79,80,81,82,83,84,85,86,87,88,89,90,91,92,93,94,95,96,97,98,99,100,101,102,103,104,105,106,107,108,109,110,111,112,113,114,115,116,117,118,119]

abbrev q9_2:List Nat:=[58,59,60,61,62,63,64,65,66,67,68,69]

abbrev q9_1:List Nat:=[38,39,40,41,42,43,44,45,46,47]

abbrev q9_0:List Nat:=[18,19,20,21,22,23,24,25]

def m9_overflightlaw32_ReasonPart_B2 (r_:XReason) (overloads_1:(List XPlace) × Int) (i_1:Int) (sf157:Int→Option Bool) (sf172:Bool→Int→Option Bool) (met_1:Bool) (k_1:Int):Option Bool:=
 bif (decide (k_1<(r_.places.length:Int))) then
  bif met_1 then
   sf172 true (IntKind.wrap .i64 (k_1+1))
  else
   ck ((0:Int)≤k_1∧k_1<(r_.places.length:Int))<|
   ck ((0:Int)≤i_1∧i_1<(overloads_1.1.length:Int))<|
   sf172 (decide ((r_.places.getD k_1.toNat default)=(overloads_1.1.getD i_1.toNat default))) (IntKind.wrap .i64 (k_1+1))
 else
  bif (!met_1) then
   some false
  else
   sf157 (IntKind.wrap .i64 (i_1+1))

def m9_overflightlaw32_ReasonPart_B1 (r_:XReason) (proves_1:Bool × Int) (part_1:XProblem × Int) (choices_1:List Int) (sf117:Bool→(List Int)→Option Bool) (overloads_1:(List XPlace) × Int) (all_2:Bool) (sf157:Int→Option Bool) (i_1:Int):Option Bool:=
 bif (decide (i_1<(overloads_1.1.length:Int))) then
  loop2 (m9_overflightlaw32_ReasonPart_B2 r_ overloads_1 i_1 sf157) (((r_.places.length:Int) - 0).toNat+1) false 0
 else
  (m16_overflightlaw32_next part_1.1 choices_1).bind fun next_1=>
  ck (choices_1.length=next_1.2.length)<|
  ck (choices_1.length=next_1.2.length)<|
  bif (!next_1.1) then
   some (all_2 == proves_1.1)
  else
   sf117 all_2 next_1.2

def m9_overflightlaw32_ReasonPart_B0 (r_:XReason) (proves_1:Bool × Int) (part_1:XProblem × Int) (sf117:Bool→(List Int)→Option Bool) (all_1:Bool) (choices_1:List Int):Option Bool:=
 (m28_problem_Overloads part_1.1 choices_1).bind fun overloads_1=>
 bif (decide (overloads_1.2≠0)) then
  some false
 else
  jn (fun(all_2:Bool)=>
   loop1 (m9_overflightlaw32_ReasonPart_B1 r_ proves_1 part_1 choices_1 sf117 overloads_1 all_2) (((overloads_1.1.length:Int) - 0).toNat+1) 0)
  (fun k147=>
   bif all_1 then
    k147 (decide (0<(overloads_1.1.length:Int)))
   else
    k147 false)

def m9_overflightlaw32_ReasonPart (p:XProblem) (r_:XReason):Option Bool:=
 m10_overflightlaw32_sane.bind fun sane_1=>
 bif (!sane_1) then
  some false
 else
  jn (fun(v_1:Bool)=>
   bif v_1 then
    some true
   else
    (m17_reason_Proves p r_).bind fun proves_1=>
    (m20_reason_Part p r_).bind fun part_1=>
    jn (fun(v_2:Bool)=>
     bif v_2 then
      some false
     else
      bif (decide (proves_1.2≠0)) then
       bif (!proves_1.1) then
        some (decide ((part_1.1.variables.length:Int)=0))
       else
        some false
      else
       jn (fun(v_3:Bool)=>
        bif v_3 then
         some false
        else
         ck ((0:Int)≤(part_1.1.variables.length:Int)∧(part_1.1.variables.length:Int)≤(part_1.1.variables.length:Int)∧(8:Int)*(part_1.1.variables.length:Int)≤281474976710656∧(part_1.1.variables.length:Int)≤281474976710656)<|
         loop2 (m9_overflightlaw32_ReasonPart_B0 r_ proves_1 part_1) 1000000 true (List.replicate part_1.1.variables.length (0:Int)))
       (fun k93=>
        bif (decide ((part_1.1.variables.length:Int)≠(r_.variables.length:Int))) then
         k93 true
        else
         (m12_problem_Check part_1.1).bind fun check_1=>
         k93 (decide (check_1≠0))))
    (fun k72=>
     bif (decide (proves_1.2≠part_1.2)) then
      k72 true
     else
      (m23_reason_Check p r_).bind fun check_2=>
      k72 (decide (proves_1.2≠check_2))))
  (fun k24=>
   (m18_overflightref27_Few p).bind fun few_1=>
   bif (!few_1) then
    k24 true
   else
    (m19_overflightref32_Few r_).bind fun few_2=>
    k24 (!few_2))

theorem c9_overflightlaw32_ReasonPart {w:World} {O:List Nat} {p:XProblem} {r_:XReason} {Aa:Option Addr} {Ca:Nat} {Ab:Option Addr} {Cb:Nat} {Ac:Option Addr} {Cc:Nat} {Ad:Option Addr} {Cd:Nat} {Ae:Option Addr} {Ce:Nat} (hO:∀k∈O,k<w.heap.size) (Fa:SlR rXCell w O Aa Ca p.cells) (Fb:SlR (rSl (rInt .i64)) w O Ab Cb p.capacity) (Fc:SlR rXVariable w O Ac Cc p.variables) (Fd:SlR (rInt .i64) w O Ad Cd r_.variables) (Fe:SlR rXPlace w O Ae Ce r_.places) {x:Bool} (hm:m9_overflightlaw32_ReasonPart p r_=some x):
 Ok Try.prog 9 [Value.agg [Sl Aa p.cells Ca,Sl Ab p.capacity Cb,Sl Ac p.variables Cc].toArray,Value.agg [Sl Ad r_.variables Cd,Sl Ae r_.places Ce].toArray] w O vB x:=by
 unfold m9_overflightlaw32_ReasonPart at hm
 refine Fn_of_Wp (n:=123) (xs:=[.tmp 4]) Try.func9 rfl Try.ntmps9 Try.results9 rfl ?_
 have hs:=St.start hO
 refine Wp_seq<|Wp_region<|Rop<|op_box (cs:=[Sl Aa p.cells Ca,Sl Ab p.capacity Cb,Sl Ac p.variables Cc]) hs rfl rfl ?_
 intro b1 w2 _ p3 hs4
 refine Rop<|op_box (cs:=[Sl Ad r_.variables Cd,Sl Ae r_.places Ce]) hs4 rfl rfl ?_
 intro b6 w7 _ p8 hs9
 clear hs4
 refine Asg (Bo false) rfl<|Rg_nil<|Wp_seq<|Wp_seq<|Wp_region ?_
 obtain⟨sane_1,hv11,hm⟩:=bd hm
 refine Rop<|op_callE hs9 Try.call10 (c10_overflightlaw32_sane hs9.ltw hv11) rfl ?_
 rintro v12 w13 p17 hs16 h15
 clear hs9
 obtain rfl:=h15
 refine Rop<|op_not rfl<|Rg_nil<|Wp_condM hm rfl (fun hc19 hm=>?_) (fun hc19 hm=>?_)
 refine Wp_seq ?_
 obtain⟨hs20,p21⟩:=hs16.sub (bs':=[]) (.cons _ (.cons _ List.Sublist.slnil))
 clear Fa Fb Fc Fd Fe
 clear hs16
 refine Wp_region<|Asg (Bo false) rfl<|Rg_nil<|Wp_ret<|⟨_,Clo,[Bo false],⟨rfl,trivial⟩,hs20.ext,?_⟩
 exact Vr.eq (a:=vB) (x:=false) rfl (oi hm)
 refine Wp_skip<|Wp_seq<|Wr [] [(2,Pt b1 0),(3,Pt b6 0)] fun ξ22=>?_
 obtain⟨k24,hk25,hm⟩:=jn_elim hm
 refine Wp_seqJ q9_0 (fun fr w'=>∃(v_1:Bool) (Ebs:Ents),Ebs=[(some b6,Oc [Sl Ad r_.variables Cd,Sl Ae r_.places Ce] 34),(some b1,Oc [Sl Aa p.cells Ca,Sl Ab p.capacity Cb,Sl Ac p.variables Cc] 26)]∧fr [] [(25,Bo v_1)]∧hs16.S (ks Ebs O) w'∧St ⟨w,[],[]⟩ O w' Ebs∧k24 v_1=some x) ?_ ?_
 rintro ρ31 w27 ⟨v_1,_,rfl,hfr30,hst29,hs28,hm⟩
 replace hm:=jnE1 hk25 hm
 rw [hfr30.eq];clear hfr30
 refine Wp_condM hm rfl (fun hc32 hm=>?_) (fun hc32 hm=>?_)
 refine Wp_seq ?_
 obtain⟨hs33,p34⟩:=hs28.sub (bs':=[]) (.cons _ (.cons _ List.Sublist.slnil))
 clear Fa Fb Fc Fd Fe
 clear hs28
 refine Wp_region<|Asg (Bo true) rfl<|Rg_nil<|Wp_ret<|⟨_,Clo,[Bo true],⟨rfl,trivial⟩,hs33.ext,?_⟩
 exact Vr.eq (a:=vB) (x:=true) rfl (oi hm)
 refine Wp_skip<|Wp_seq<|Wp_region<|Rop<|op_ldA 1 ty26 hs28 rfl rfl rfl<|Rop<|op_ldA 0 ty34 hs28 rfl rfl rfl ?_
 obtain⟨proves_1,hv35,hm⟩:=bd hm
 have p41:=(p3.trans (p8.trans (p17.trans hst29)))
 replace Fb:=Fb.step p41;replace Fa:=Fa.step p41;replace Fc:=Fc.step p41;replace Fe:=Fe.step p41;replace Fd:=Fd.step p41
 refine Rop<|op_callE hs28 Try.call17 (c17_reason_Proves (p:=p) (r_:=r_) hs28.ltw Fa Fb Fc Fd Fe hv35) rfl ?_
 rintro v36 w37 p42 hs40 h39
 clear hs28
 obtain⟨v43,v44,rfl,h45,h46⟩:=h39
 obtain rfl:=h45
 obtain⟨rfl,Ra⟩:=h46
 refine Mve (Value.tuple [Bo proves_1.1,Iv proves_1.2].toArray) rfl<|Rop<|op_extract (v:=Bo proves_1.1) rfl rfl<|Rop<|op_extract (v:=Iv proves_1.2) rfl rfl<|Asg (Bo proves_1.1) rfl<|Asg (Iv proves_1.2) rfl<|Rg_nil<|Wp_seq<|Wp_region<|Rop<|op_ldA 1 ty26 hs40 rfl rfl rfl<|Rop<|op_ldA 0 ty34 hs40 rfl rfl rfl ?_
 obtain⟨part_1,hv49,hm⟩:=bd hm
 replace Fb:=Fb.step p42;replace Fa:=Fa.step p42;replace Fc:=Fc.step p42;replace Fe:=Fe.step p42;replace Fd:=Fd.step p42
 refine Rop<|op_callE hs40 Try.call20 (c20_reason_Part (p:=p) (r_:=r_) hs40.ltw Fa Fb Fc Fd Fe hv49) rfl ?_
 rintro v50 w51 p55 hs54 h53
 clear hs40
 obtain⟨v56,v57,rfl,h58,h59⟩:=h53
 obtain⟨_,rfl,⟨_,_,rfl,⟨Af,Cf,rfl,Ff⟩,⟨_,_,rfl,⟨Ag,Cg,rfl,Fg⟩,⟨Ah,Ch,rfl,Fh⟩⟩⟩⟩:=h58
 obtain⟨rfl,Rb⟩:=h59
 refine Mve (Value.tuple [Value.agg [Sl Af part_1.1.cells Cf,Sl Ag part_1.1.capacity Cg,Sl Ah part_1.1.variables Ch].toArray,Iv part_1.2].toArray) rfl<|Rop<|op_extract (v:=Value.agg [Sl Af part_1.1.cells Cf,Sl Ag part_1.1.capacity Cg,Sl Ah part_1.1.variables Ch].toArray) rfl rfl<|Rop<|op_extract (v:=Iv part_1.2) rfl rfl<|Rop<|op_alloc ty26 hs54 ?_
 intro b62 w63 _ p64 hs65
 clear hs54
 refine Rg_op_<|op_stA .z ty26 hs65 rfl rfl rfl rfl rfl ?_
 intro w67 p68 hs69
 clear hs65
 refine Asg (Iv part_1.2) rfl<|Rg_nil<|Wp_seq<|Wr [] [(2,Pt b1 0),(3,Pt b6 0),(5,Bo proves_1.1),(6,Iv proves_1.2),(7,Pt b62 0),(8,Iv part_1.2)] fun ξ70=>?_
 obtain⟨k72,hk73,hm⟩:=jn_elim hm
 refine Wp_seqJ q9_1 (fun fr w'=>∃(v_2:Bool) (Ebs:Ents),Ebs=[(some b62,Oc [Sl Af part_1.1.cells Cf,Sl Ag part_1.1.capacity Cg,Sl Ah part_1.1.variables Ch] 26),(some b6,Oc [Sl Ad r_.variables Cd,Sl Ae r_.places Ce] 34),(some b1,Oc [Sl Aa p.cells Ca,Sl Ab p.capacity Cb,Sl Ac p.variables Cc] 26)]∧fr [] [(47,Bo v_2)]∧hs69.S (ks Ebs O) w'∧St ⟨w,[],[]⟩ O w' Ebs∧k72 v_2=some x) ?_ ?_
 rintro ρ79 w75 ⟨v_2,_,rfl,hfr78,hst77,hs76,hm⟩
 replace hm:=jnE1 hk73 hm
 rw [hfr78.eq];clear hfr78
 refine Wp_condM hm rfl (fun hc80 hm=>?_) (fun hc80 hm=>?_)
 refine Wp_seq ?_
 obtain⟨hs81,p82⟩:=hs76.sub (bs':=[]) (.cons _ (.cons _ (.cons _ List.Sublist.slnil)))
 clear Fa Fb Fc Fd Fe Ff Fg Fh
 clear hs76
 refine Wp_region<|Asg (Bo false) rfl<|Rg_nil<|Wp_ret<|⟨_,Clo,[Bo false],⟨rfl,trivial⟩,hs81.ext,?_⟩
 exact Vr.eq (a:=vB) (x:=false) rfl (oi hm)
 refine Wp_skip<|Wp_seq<|Wp_seq ?_
 obtain⟨hs83,p84⟩:=hs76.sub (bs':=[(some b62,Oc [Sl Af part_1.1.cells Cf,Sl Ag part_1.1.capacity Cg,Sl Ah part_1.1.variables Ch] 26),(some b6,Oc [Sl Ad r_.variables Cd,Sl Ae r_.places Ce] 34)]) (.cons_cons _ (.cons_cons _ (.cons _ List.Sublist.slnil)))
 clear Fa Fb Fc
 clear hs76
 refine Wp_region<|Mve (Iv proves_1.2) rfl<|Rop<|op_neq rfl rfl<|Rg_nil<|Wp_condM hm rfl (fun hc85 hm=>?_) (fun hc85 hm=>?_)
 refine Wp_seq ?_
 obtain⟨hs86,p87⟩:=hs83.sub (bs':=[(some b62,Oc [Sl Af part_1.1.cells Cf,Sl Ag part_1.1.capacity Cg,Sl Ah part_1.1.variables Ch] 26)]) (.cons_cons _ (.cons _ List.Sublist.slnil))
 clear Fd Fe
 clear hs83
 refine Wp_region<|Mve (Bo proves_1.1) rfl<|Rop<|op_not rfl<|Mve (Bo (!proves_1.1)) rfl<|Rg_caseM hm (fun hg88 hm=>?_) (fun hg88 hm=>?_)
 refine Rog rfl rfl<|op_fA 2 ty26 rfl ty24 rfl rfl<|Rog rfl rfl<|op_ld 0 ty24 hs86 rfl rfl rfl<|Rog rfl rfl<|op_len Try.underlying24 rfl ?_
 have p90:=(p64.trans (p68.trans (hst77.trans (p84.trans p87))))
 replace Fh:=Fh.step p90
 have rl89:=inK_len Fh
 refine Rog rfl rfl<|op_eql rfl rfl<|Pkt (Bo (decide ((part_1.1.variables.length:Int)=0))) rfl rfl<|Asg (Bo (decide ((part_1.1.variables.length:Int)=0))) rfl<|Rg_nil<|Wp_ret<|⟨_,Clo,[Bo (decide ((part_1.1.variables.length:Int)=0))],⟨rfl,trivial⟩,hs86.ext,?_⟩
 exact Vr.eq (a:=vB) (x:=decide ((part_1.1.variables.length:Int)=0)) rfl (oi hm)
 iterate 4 refine Rg_opx rfl (asB_ne rfl rfl) rfl ?_
 refine Pkf (Bo false) rfl rfl<|Asg (Bo false) rfl<|Rg_nil<|Wp_ret<|⟨_,Clo,[Bo false],⟨rfl,trivial⟩,hs86.ext,?_⟩
 exact Vr.eq (a:=vB) (x:=false) rfl (oi hm)
 refine Wp_skip<|Wp_seq<|Wr [] [(3,Pt b6 0),(5,Bo proves_1.1),(7,Pt b62 0)] fun ξ91=>?_
 obtain⟨k93,hk94,hm⟩:=jn_elim hm
 refine Wp_seqJ q9_2 (fun fr w'=>∃(v_3:Bool) (Ebs:Ents),Ebs=[(some b62,Oc [Sl Af part_1.1.cells Cf,Sl Ag part_1.1.capacity Cg,Sl Ah part_1.1.variables Ch] 26),(some b6,Oc [Sl Ad r_.variables Cd,Sl Ae r_.places Ce] 34)]∧fr [] [(69,Bo v_3)]∧hs83.S (ks Ebs O) w'∧St ⟨w,[],[]⟩ O w' Ebs∧k93 v_3=some x) ?_ ?_
 rintro ρ100 w96 ⟨v_3,_,rfl,hfr99,hst98,hs97,hm⟩
 replace hm:=jnE1 hk94 hm
 rw [hfr99.eq];clear hfr99
 refine Wp_condM hm rfl (fun hc101 hm=>?_) (fun hc101 hm=>?_)
 refine Wp_seq ?_
 obtain⟨hs102,p103⟩:=hs97.sub (bs':=[]) (.cons _ (.cons _ List.Sublist.slnil))
 clear Fd Fe Ff Fg Fh
 clear hs97
 refine Wp_region<|Asg (Bo false) rfl<|Rg_nil<|Wp_ret<|⟨_,Clo,[Bo false],⟨rfl,trivial⟩,hs102.ext,?_⟩
 exact Vr.eq (a:=vB) (x:=false) rfl (oi hm)
 refine Wp_skip<|Wp_seq<|Wp_region<|Asg (Bo true) rfl<|Rg_nil<|Wp_seq<|Wp_region<|Rop<|op_fA 2 ty26 rfl ty24 rfl rfl<|Rop<|op_ld 0 ty24 hs97 rfl rfl rfl<|Rop<|op_len Try.underlying24 rfl ?_
 have p105:=(p64.trans (p68.trans (hst77.trans (p84.trans hst98))))
 replace Fh:=Fh.step p105
 have rl104:=inK_len Fh
 obtain⟨hc106,hm⟩:=ck_some hm
 refine Rop<|op_makeSliceI (q:=(rInt .i64)) (v:=Iv 0) (x0:=(0:Int)) ty31 ty3 hs97 rfl rfl hc106 rfl (fun _ _=>(mk_int (show InK .i64 0 from by decide))) ?_
 intro b107 w108 hx112 p109 hs110 f111
 clear hs97
 refine Asg (Sl (some ⟨b107,0,none⟩) (List.replicate part_1.1.variables.length (0:Int)) part_1.1.variables.length) rfl<|Rg_nil<|Wp_seq<|Wp_block<|Wr [] [(3,Pt b6 0),(5,Bo proves_1.1),(7,Pt b62 0),(9,Bo true),(10,Sl (some ⟨b107,0,none⟩) (List.replicate part_1.1.variables.length (0:Int)) part_1.1.variables.length)] fun ξ116=>Wp_loopM q9_5 (fun m fr w'=>∃(all_1:Bool) (choices_1:List Int) (o_g115:Obj) (Ebs:Ents),Ebs=[(some b107,o_g115),(some b62,Oc [Sl Af part_1.1.cells Cf,Sl Ag part_1.1.capacity Cg,Sl Ah part_1.1.variables Ch] 26),(some b6,Oc [Sl Ad r_.variables Cd,Sl Ae r_.places Ce] 34)]∧fr [] [(9,Bo all_1),(10,Sl (some ⟨b107,0,none⟩) choices_1 part_1.1.variables.length)]∧hs110.S (ks Ebs O) w'∧St ⟨w,[],[]⟩ O w' Ebs∧Gs (rInt .i64) 3 w' (ks Ebs O) (some ⟨b107,0,none⟩) part_1.1.variables.length choices_1 (some b107) o_g115∧loop2 (m9_overflightlaw32_ReasonPart_B0 r_ proves_1 part_1) m all_1 choices_1=some x) 1000000 ⟨true,List.replicate part_1.1.variables.length (0:Int),Obj.cells (List.replicate part_1.1.variables.length (Iv 0)).toArray 3,_,rfl,Frm.of ⟨rfl,rfl,trivial⟩,Step.refl _ _,hs110,f111,hm⟩ ?_ ?_
 rintro _ _ ⟨_,_,_,_,_,_,_,_,_,hm⟩;exact loop2_z hm
 rintro m120 K119 hK119 ρ125 w121 ⟨all_1,choices_1,o_g115,_,rfl,hfr124,hst123,hs122,Fi,hm⟩
 obtain⟨sf117,hsf118,hm⟩:=loop2_s hm;unfold m9_overflightlaw32_ReasonPart_B0 at hm
 rw [hfr124.eq];clear hfr124
 have ch126:=hst123
 refine Wp_block<|Wp_seq ?_
 clear f111
 refine Wp_region<|Rop<|op_ldA 1 ty26 hs122 rfl rfl rfl<|Mve (Sl (some ⟨b107,0,none⟩) choices_1 part_1.1.variables.length) rfl ?_
 obtain⟨hs127,p128,f129⟩:=Gs.publish (i:=0) hs122 rfl Fi
 obtain⟨overloads_1,hv130,hm⟩:=bd hm
 have p136:=(p105.trans (p109.trans hst123))
 replace Fg:=Fg.step p136;replace Ff:=Ff.step p136
 replace Fh:=Fh.step (p109.trans hst123)
 refine Rop<|op_call Try.call28 (f28_problem_Overloads (p:=part_1.1) (choices:=choices_1) hs127.ltw (Ff.step p128) (Fg.step p128) (Fh.step p128) f129 hv130) rfl ?_
 rintro v131 w132 ⟨hx133,h134⟩
 replace h134:Vr.vd (vT2 (vC (rSl rXPlace)) (vI .i64)) w132 (ks [(some b107,o_g115),(some b62,Oc [Sl Af part_1.1.cells Cf,Sl Ag part_1.1.capacity Cg,Sl Ah part_1.1.variables Ch] 26),(some b6,Oc [Sl Ad r_.variables Cd,Sl Ae r_.places Ce] 34)] O) v131 overloads_1:=Vr.step _ (Step.sub fun k hk=>List.mem_append_left _ (List.mem_range.2 (hs122.ltw k hk))) h134
 have hs135:=hs122.call hx133
 have p137:=hs122.stepE hx133
 clear hx133
 clear hs122
 obtain⟨v138,v139,rfl,h140,h141⟩:=h134
 obtain⟨Ai,Ci,rfl,Fj⟩:=un_sl h140
 obtain⟨rfl,Rc⟩:=h141
 refine Mve (Value.tuple [Sl Ai overloads_1.1 Ci,Iv overloads_1.2].toArray) rfl<|Rop<|op_extract (v:=Sl Ai overloads_1.1 Ci) rfl rfl<|Rop<|op_extract (v:=Iv overloads_1.2) rfl rfl<|Asg (Sl Ai overloads_1.1 Ci) rfl<|Asg (Iv overloads_1.2) rfl<|Rg_nil<|Wp_seq<|Wp_seq<|Wp_region<|Mve (Iv overloads_1.2) rfl<|Rop<|op_neq rfl rfl<|Rg_nil<|Wp_condM hm rfl (fun hc144 hm=>?_) (fun hc144 hm=>?_)
 refine Wp_seq ?_
 clear Fi Fj
 refine Wp_region<|Asg (Bo false) rfl<|Rg_nil<|Wp_ret<|⟨_,Clo,[Bo false],⟨rfl,trivial⟩,hs135.ext,?_⟩
 exact Vr.eq (a:=vB) (x:=false) rfl (oi hm)
 refine Wp_skip<|Wr2 q9_5 [] (updL ⟨ξ116,[]⟩ [(3,Pt b6 0),(5,Bo proves_1.1),(7,Pt b62 0),(9,Bo true),(10,Sl (some ⟨b107,0,none⟩) (List.replicate part_1.1.variables.length (0:Int)) part_1.1.variables.length)]) [(9,Bo all_1),(10,Sl (some ⟨b107,0,none⟩) choices_1 part_1.1.variables.length),(11,Sl Ai overloads_1.1 Ci)] fun ξ145=>?_
 obtain⟨k147,hk148,hm⟩:=jn_elim hm
 refine Wp_seqJ [9,82,83,84,85,86,87] (fun fr w'=>∃(all_2:Bool) (Ebs:Ents),Ebs=[(some b107,o_g115),(some b62,Oc [Sl Af part_1.1.cells Cf,Sl Ag part_1.1.capacity Cg,Sl Ah part_1.1.variables Ch] 26),(some b6,Oc [Sl Ad r_.variables Cd,Sl Ae r_.places Ce] 34)]∧fr [] [(9,Bo all_2)]∧hs135.S (ks Ebs O) w'∧St ⟨w,[],[]⟩ O w' Ebs∧k147 all_2=some x) ?_ ?_
 rintro ρ154 w150 ⟨all_2,_,rfl,hfr153,hst152,hs151,hm⟩
 replace hm:=jnE1 hk148 hm
 rw [hfr153.eq];clear hfr153
 refine Wp_seq<|Wp_seq<|Wp_region<|Asg (Iv 0) rfl<|Rg_nil<|Wp_block<|Wr2 q9_5 [] (updL ⟨ξ116,[]⟩ [(3,Pt b6 0),(5,Bo proves_1.1),(7,Pt b62 0),(9,Bo true),(10,Sl (some ⟨b107,0,none⟩) (List.replicate part_1.1.variables.length (0:Int)) part_1.1.variables.length)]) [(9,Bo all_2),(10,Sl (some ⟨b107,0,none⟩) choices_1 part_1.1.variables.length),(11,Sl Ai overloads_1.1 Ci),(13,Iv 0)] fun ξ156=>Wp_loopM q9_4 (fun m fr w'=>∃(i_1:Int) (Ebs:Ents),Ebs=[(some b107,o_g115),(some b62,Oc [Sl Af part_1.1.cells Cf,Sl Ag part_1.1.capacity Cg,Sl Ah part_1.1.variables Ch] 26),(some b6,Oc [Sl Ad r_.variables Cd,Sl Ae r_.places Ce] 34)]∧fr [] [(13,Iv i_1)]∧hs151.S (ks Ebs O) w'∧St ⟨w,[],[]⟩ O w' Ebs∧InK .i64 i_1∧loop1 (m9_overflightlaw32_ReasonPart_B1 r_ proves_1 part_1 choices_1 sf117 overloads_1 all_2) m i_1=some x) (((overloads_1.1.length:Int) - 0).toNat+1) ⟨0,_,rfl,Frm.of ⟨rfl,trivial⟩,Step.refl _ _,hs151,(show InK .i64 0 from by decide),hm⟩ ?_ ?_
 rintro _ _ ⟨_,_,_,_,_,_,_,hm⟩;exact loop1_z hm
 rintro m160 K159 hK159 ρ165 w161 ⟨i_1,_,rfl,hfr164,hst163,hs162,Rd,hm⟩
 obtain⟨sf157,hsf158,hm⟩:=loop1_s hm;unfold m9_overflightlaw32_ReasonPart_B1 at hm
 rw [hfr164.eq];clear hfr164
 have ch166:=hst163
 refine Wp_seq<|Wp_seq<|Wp_region<|Mve (Iv i_1) rfl<|Mve (Sl Ai overloads_1.1 Ci) rfl<|Rop<|op_len Try.underlying32 rfl ?_
 replace Fj:=Fj.step (hst152.trans hst163)
 have rl167:=inK_len Fj
 refine Rop<|op_lss rfl rfl<|Rg_nil<|Wp_condM hm rfl (fun hc168 hm=>?_) (fun hc168 hm=>?_)
 refine Wp_skip<|Wp_seq<|Wp_block<|Wp_seq<|Wp_region<|Asg (Bo false) rfl<|Rg_nil<|Wp_seq<|Wp_seq<|Wp_region<|Asg (Iv 0) rfl<|Rg_nil<|Wp_block<|Wr2 q9_4 [] (updL (mix q9_5 [] ξ156 (updL ⟨ξ116,[]⟩ [(3,Pt b6 0),(5,Bo proves_1.1),(7,Pt b62 0),(9,Bo true),(10,Sl (some ⟨b107,0,none⟩) (List.replicate part_1.1.variables.length (0:Int)) part_1.1.variables.length)])) [(9,Bo all_2),(10,Sl (some ⟨b107,0,none⟩) choices_1 part_1.1.variables.length),(11,Sl Ai overloads_1.1 Ci),(13,Iv 0)]) [(13,Iv i_1),(14,Bo false),(15,Iv 0)] fun ξ171=>Wp_loopM q9_3 (fun m fr w'=>∃(met_1:Bool) (k_1:Int) (Ebs:Ents),Ebs=[(some b107,o_g115),(some b62,Oc [Sl Af part_1.1.cells Cf,Sl Ag part_1.1.capacity Cg,Sl Ah part_1.1.variables Ch] 26),(some b6,Oc [Sl Ad r_.variables Cd,Sl Ae r_.places Ce] 34)]∧fr [] [(14,Bo met_1),(15,Iv k_1)]∧hs162.S (ks Ebs O) w'∧St ⟨w,[],[]⟩ O w' Ebs∧InK .i64 k_1∧loop2 (m9_overflightlaw32_ReasonPart_B2 r_ overloads_1 i_1 sf157) m met_1 k_1=some x) (((r_.places.length:Int) - 0).toNat+1) ⟨false,0,_,rfl,Frm.of ⟨rfl,rfl,trivial⟩,Step.refl _ _,hs162,(show InK .i64 0 from by decide),hm⟩ ?_ ?_
 rintro _ _ ⟨_,_,_,_,_,_,_,_,hm⟩;exact loop2_z hm
 rintro m175 K174 hK174 ρ180 w176 ⟨met_1,k_1,_,rfl,hfr179,hst178,hs177,Re,hm⟩
 obtain⟨sf172,hsf173,hm⟩:=loop2_s hm;unfold m9_overflightlaw32_ReasonPart_B2 at hm
 rw [hfr179.eq];clear hfr179
 have ch181:=hst178
 refine Wp_seq<|Wp_seq<|Wp_region<|Mve (Iv k_1) rfl<|Rop<|op_fA 1 ty34 rfl ty32 rfl rfl<|Rop<|op_ld 2 ty32 hs177 rfl rfl rfl<|Rop<|op_len Try.underlying32 rfl ?_
 have p183:=(p55.trans (p64.trans (p68.trans (hst77.trans (p84.trans (hst98.trans (p109.trans (hst123.trans (p137.trans (hst152.trans (hst163.trans hst178)))))))))))
 replace Fe:=Fe.step p183
 have rl182:=inK_len Fe
 refine Rop<|op_lss rfl rfl<|Rg_nil<|Wp_condM hm rfl (fun hc184 hm=>?_) (fun hc184 hm=>?_)
 refine Wp_skip<|Wp_seq<|Wp_block<|Wp_drawR (g0:=[]) (m:=11) (fl:=[]) (TS_inv hs177) rfl (.inl rfl) rfl (by decide+kernel) ?_  -- 26
 refine Dw_p (Bo met_1) (fun _ _ _ hi ht=>op_move (v:=Bo met_1) (ht 14 rfl)<|Gz hi)<|Dw_opB met_1 (fun _ _ _ _ hi ht=>StepOp_plain<|op_move (v:=Bo met_1) (ht 101 rfl)<|Gz hi) (fun hg191=>?_) (fun hg191=>?_)
 replace hm:=bif_t hm hg191
 iterate 9 refine Dw_sk rfl rfl (fun _ _ _ h=>h) rfl ?_
 refine Dw_nil fun w196 g197 hl198 hi199=>?_
 obtain⟨-,hst200,-⟩:=hl198
 obtain⟨hs202,p201⟩:=Step.nx hi199
 rintro _ rfl _ rfl _ rfl _ rfl _ rfl _ rfl _ rfl _ rfl _ rfl _ rfl _ rfl
 have p203:=hs177.to hs202 (hst200.trans p201)
 clear hs177
 refine Rg_opx rfl (asB_ne rfl rfl) rfl<|Pkt (Bo true) rfl rfl<|Asg (Bo true) rfl<|Rg_nil<|Wp_region<|Mve (Iv k_1) rfl<|Rop<|op_addw rfl rfl<|Asg (Iv (IntKind.wrap .i64 (k_1+1))) rfl<|Rg_nil ?_
 replace ch181:=ch181.trans p203
 exact hK174 _ _ ⟨true,(IntKind.wrap .i64 (k_1+1)),_,rfl,Frm.of ⟨rfl,rfl,trivial⟩,ch181,hs202,(inK_wrap .i64 _),jnE2 hsf173 hm⟩
 replace hm:=bif_f hm hg191
 refine Dw_g (Pt b6 1) rfl rfl (fun _ _ _ h=>h) (fun _ _ _ hi ht=>op_fA 1 ty34 rfl ty32 (ht 3 rfl) rfl<|Gz hi)<|Dw_g (Sl Ae r_.places Ce) rfl rfl (fun _ _ _ h=>h) (fun _ _ _ hi ht=>op_ld 2 ty32 (Step.nx hi).1 (ht 103 rfl) rfl rfl<|Gz hi)<|Dw_g (Iv k_1) rfl rfl (fun _ _ _ h=>h) (fun _ _ _ hi ht=>op_move (v:=Iv k_1) (ht 15 rfl)<|Gz hi) ?_
 obtain⟨hc216,hm⟩:=ck_some hm
 refine Dw_op (VP _ _ rXPlace (r_.places.getD k_1.toNat default)) (VP.stab _ _) (fun ρ213 w214 g hle hi ht=>?_) ?_
 obtain⟨-,hst,-⟩:=hle
 replace Fe:=Fe.step hst
 refine StepOp_g rfl (ht 102 rfl)<|op_indexAddr (q:=rXPlace) ty32 ty45 (ht 104 rfl) (ht 105 rfl) Fe rfl hc216.1 hc216.2 ?_
 intro p217 f218
 exact Goes.same hi ⟨_,rfl,f218⟩
 refine Dw_op (VD _ _ (vA rXPlace) (r_.places.getD k_1.toNat default)) (VD.stab _ _) (fun ρ219 w220 g hle hi ht=>?_) ?_
 obtain⟨p222,q223,f224⟩:=ht 106 rfl
 refine StepOp_g rfl (ht 102 rfl)<|op_loadPA ty45 q223 f224 rfl ?_
 intro vs225 h226
 obtain⟨_,_,rfl,⟨rfl,Rf⟩,⟨rfl,Rg⟩⟩:=h226
 exact Goes.same hi (show Vr.vd (vA rXPlace) _ _ _ _ from(mkA (mkVia (mk_pair (mk_int Rf) (mk_int Rg)))))
 refine Dw_g (Sl Ai overloads_1.1 Ci) rfl rfl (fun _ _ _ h=>h) (fun _ _ _ hi ht=>op_move (v:=Sl Ai overloads_1.1 Ci) (ht 11 rfl)<|Gz hi)<|Dw_g (Iv i_1) rfl rfl (fun _ _ _ h=>h) (fun _ _ _ hi ht=>op_move (v:=Iv i_1) (ht 13 rfl)<|Gz hi) ?_
 obtain⟨hc237,hm⟩:=ck_some hm
 replace Fj:=Fj.step hst178
 refine Dw_op (VP _ _ rXPlace (overloads_1.1.getD i_1.toNat default)) (VP.stab _ _) (fun ρ234 w235 g hle hi ht=>?_) ?_
 obtain⟨-,hst,-⟩:=hle
 replace Fj:=Fj.step hst
 refine StepOp_g rfl (ht 102 rfl)<|op_indexAddr (q:=rXPlace) ty32 ty45 (ht 108 rfl) (ht 109 rfl) Fj rfl hc237.1 hc237.2 ?_
 intro p238 f239
 exact Goes.same hi ⟨_,rfl,f239⟩
 refine Dw_op (VD _ _ (vA rXPlace) (overloads_1.1.getD i_1.toNat default)) (VD.stab _ _) (fun ρ240 w241 g hle hi ht=>?_) ?_
 obtain⟨p243,q244,f245⟩:=ht 110 rfl
 refine StepOp_g rfl (ht 102 rfl)<|op_loadPA ty45 q244 f245 rfl ?_
 intro vs246 h247
 obtain⟨_,_,rfl,⟨rfl,Rh⟩,⟨rfl,Ri⟩⟩:=h247
 exact Goes.same hi (show Vr.vd (vA rXPlace) _ _ _ _ from(mkA (mkVia (mk_pair (mk_int Rh) (mk_int Ri)))))
 refine Dw_nil fun w253 g254 hl255 hi256=>?_
 obtain⟨-,hst257,-⟩:=hl255
 obtain⟨hs259,p258⟩:=Step.nx hi256
 rintro v260 h261
 replace h261:Vr.vd (vA rXPlace) _ _ _ _:=h261
 obtain⟨_,rfl,⟨_,_,rfl,⟨rfl,Rj⟩,⟨rfl,Rk⟩⟩⟩:=h261
 rintro _ ⟨p263,rfl,f264⟩ _ rfl _ rfl v265 h266
 replace h266:Vr.vd (vA rXPlace) _ _ _ _:=h266
 obtain⟨_,rfl,⟨_,_,rfl,⟨rfl,Rl⟩,⟨rfl,Rm⟩⟩⟩:=h266
 rintro _ ⟨p268,rfl,f269⟩ _ rfl _ rfl _ rfl _ rfl _ rfl
 have p270:=hs177.to hs259 (hst257.trans p258)
 replace f264:=f264.step p258;replace f269:=f269.step p258;clear hs177
 refine Rog rfl rfl<|op_eqlA (c:=decide ((r_.places.getD k_1.toNat default)=(overloads_1.1.getD i_1.toNat default))) rfl rfl eqg45 (eqv45 9998 (r_.places.getD k_1.toNat default) (overloads_1.1.getD i_1.toNat default) _)<|Pkf (Bo (decide ((r_.places.getD k_1.toNat default)=(overloads_1.1.getD i_1.toNat default)))) rfl rfl<|Asg (Bo (decide ((r_.places.getD k_1.toNat default)=(overloads_1.1.getD i_1.toNat default)))) rfl<|Rg_nil<|Wp_region<|Mve (Iv k_1) rfl<|Rop<|op_addw rfl rfl<|Asg (Iv (IntKind.wrap .i64 (k_1+1))) rfl<|Rg_nil ?_
 replace ch181:=ch181.trans p270
 exact hK174 _ _ ⟨decide ((r_.places.getD k_1.toNat default)=(overloads_1.1.getD i_1.toNat default)),(IntKind.wrap .i64 (k_1+1)),_,rfl,Frm.of ⟨rfl,rfl,trivial⟩,ch181,hs259,(inK_wrap .i64 _),jnE2 hsf173 hm⟩
 refine Wp_exit<|Wp_seq<|Wp_region<|Mve (Bo met_1) rfl<|Rop<|op_not rfl<|Rg_nil<|Wp_condM hm rfl (fun hc271 hm=>?_) (fun hc271 hm=>?_)
 refine Wp_seq ?_
 clear Fi Fj
 refine Wp_region<|Asg (Bo false) rfl<|Rg_nil<|Wp_ret<|⟨_,Clo,[Bo false],⟨rfl,trivial⟩,hs177.ext,?_⟩
 exact Vr.eq (a:=vB) (x:=false) rfl (oi hm)
 refine Wp_skip<|Wp_region<|Mve (Iv i_1) rfl<|Rop<|op_addw rfl rfl<|Asg (Iv (IntKind.wrap .i64 (i_1+1))) rfl<|Rg_nil ?_
 replace ch166:=ch166.trans hst178
 exact hK159 _ _ ⟨(IntKind.wrap .i64 (i_1+1)),_,rfl,Frm.of ⟨rfl,trivial⟩,ch166,hs177,(inK_wrap .i64 _),jnE1 hsf158 hm⟩
 refine Wp_exit<|Wp_seq ?_
 clear Fj
 refine Wp_region<|Rop<|op_ldA 1 ty26 hs162 rfl rfl rfl<|Mve (Sl (some ⟨b107,0,none⟩) choices_1 part_1.1.variables.length) rfl ?_
 obtain⟨next_1,hv272,hm⟩:=bd hm
 have p274:=(p137.trans (hst152.trans hst163))
 replace Fi:=Fi.step p274
 have hp273:Gs (rInt .i64) 3 w161 (ks [(some b107,o_g115)] (ks [(some b62,Oc [Sl Af part_1.1.cells Cf,Sl Ag part_1.1.capacity Cg,Sl Ah part_1.1.variables Ch] 26),(some b6,Oc [Sl Ad r_.variables Cd,Sl Ae r_.places Ce] 34)] O)) (some ⟨b107,0,none⟩) part_1.1.variables.length ([]++choices_1++[]) (some b107) o_g115:=by rw [List.nil_append,List.append_nil,← ks_app];exact Fi
 replace Fg:=Fg.step p274;replace Ff:=Ff.step p274;replace Fh:=Fh.step p274
 refine Rop<|op_callL (rest:=[(some b62,Oc [Sl Af part_1.1.cells Cf,Sl Ag part_1.1.capacity Cg,Sl Ah part_1.1.variables Ch] 26),(some b6,Oc [Sl Ad r_.variables Cd,Sl Ae r_.places Ce] 34)]) Try.call16 [(some b107,o_g115)] hs162 (c16_overflightlaw32_next (p:=part_1.1) (choices:=choices_1) (pre_choices:=[]) (post_choices:=[]) (x0:=next_1.1) (y_choices:=next_1.2) (St.lendL (L:=[(some b107,o_g115)]) (rest:=[(some b62,Oc [Sl Af part_1.1.cells Cf,Sl Ag part_1.1.capacity Cg,Sl Ah part_1.1.variables Ch] 26),(some b6,Oc [Sl Ad r_.variables Cd,Sl Ae r_.places Ce] 34)]) hs162) Ff Fg Fh hp273 hv272) rfl ?_
 intro v275 w276 L277 p279 hs280 hP283 h282;obtain⟨o278,rfl,f281⟩:=hP283;clear hp273
 replace f281:Gs (rInt .i64) 3 w276 (ks [(some b107,o278),(some b62,Oc [Sl Af part_1.1.cells Cf,Sl Ag part_1.1.capacity Cg,Sl Ah part_1.1.variables Ch] 26),(some b6,Oc [Sl Ad r_.variables Cd,Sl Ae r_.places Ce] 34)] O) (some ⟨b107,0,none⟩) part_1.1.variables.length next_1.2 (some b107) o278:=by have h_:=f281;rw [List.nil_append,List.append_nil,← ks_app] at h_;exact h_
 replace hs280:St ⟨w,[],[]⟩ O w276 [(some b107,o278),(some b62,Oc [Sl Af part_1.1.cells Cf,Sl Ag part_1.1.capacity Cg,Sl Ah part_1.1.variables Ch] 26),(some b6,Oc [Sl Ad r_.variables Cd,Sl Ae r_.places Ce] 34)]:=hs280
 replace h282:Vr.vd vB w276 (ks [(some b107,o278),(some b62,Oc [Sl Af part_1.1.cells Cf,Sl Ag part_1.1.capacity Cg,Sl Ah part_1.1.variables Ch] 26),(some b6,Oc [Sl Ad r_.variables Cd,Sl Ae r_.places Ce] 34)] O) v275 next_1.1:=h282
 obtain⟨hc284,hm⟩:=ck_some hm
 obtain⟨hc285,hm⟩:=ck_some hm
 obtain rfl:=h282
 refine Rop<|op_not rfl<|Rg_nil<|Wp_condM hm rfl (fun hc287 hm=>?_) (fun hc287 hm=>?_)
 refine Wp_exit<|Wp_seq ?_
 obtain⟨hs288,p289⟩:=hs280.sub (bs':=[]) (.cons _ (.cons _ (.cons _ List.Sublist.slnil)))
 clear Fd Fe Ff Fg Fh f281
 clear hs280
 refine Wp_region<|Mve (Bo all_2) rfl<|Mve (Bo proves_1.1) rfl<|Rop<|op_eqb Try.underlying4 rfl rfl<|Asg (Bo (all_2 == proves_1.1)) rfl<|Rg_nil<|Wp_ret<|⟨_,Clo,[Bo (all_2 == proves_1.1)],⟨rfl,trivial⟩,hs288.ext,?_⟩
 exact Vr.eq (a:=vB) (x:=all_2 == proves_1.1) rfl (oi hm)
 refine Wp_skip ?_
 replace ch126:=ch126.trans (p274.trans p279)
 exact hK119 _ _ ⟨all_2,next_1.2,o278,_,rfl,Frm.of ⟨rfl,eqlenV hc284,trivial⟩,ch126,hs280,f281,jnE2 hsf118 hm⟩
 intro K149 hK149
 have ch290:=hs135.stepR
 refine Wp_region<|Mve (Bo all_1) rfl<|Mve (Bo all_1) rfl<|Rg_caseM hm (fun hg291 hm=>?_) (fun hg291 hm=>?_)
 refine Rog rfl rfl<|op_move (v:=Sl Ai overloads_1.1 Ci) rfl<|Rog rfl rfl<|op_len Try.underlying32 rfl ?_
 have rl292:=inK_len Fj
 exact Rog rfl rfl<|op_gtr rfl rfl<|Pkt (Bo (decide (0<(overloads_1.1.length:Int)))) rfl rfl<|Asg (Bo (decide (0<(overloads_1.1.length:Int)))) rfl<|Rg_nil<|hK149 _ _ ⟨decide (0<(overloads_1.1.length:Int)),_,rfl,Frm.of ⟨rfl,trivial⟩,ch290,hs135,hm⟩
 iterate 3 refine Rg_opx rfl (asB_ne rfl rfl) rfl ?_
 exact Pkf (Bo false) rfl rfl<|Asg (Bo false) rfl<|Rg_nil<|hK149 _ _ ⟨false,_,rfl,Frm.of ⟨rfl,trivial⟩,ch290,hs135,hm⟩
 intro K95 hK95
 have ch293:=hs83.stepR
 refine Wp_region<|Rop<|op_fA 2 ty26 rfl ty24 rfl rfl<|Rop<|op_ld 0 ty24 hs83 rfl rfl rfl<|Rop<|op_len Try.underlying24 rfl ?_
 have p295:=(p64.trans (p68.trans (hst77.trans p84)))
 replace Fh:=Fh.step p295
 have rl294:=inK_len Fh
 refine Rop<|op_fA 0 ty34 rfl ty31 rfl rfl<|Rop<|op_ld 1 ty31 hs83 rfl rfl rfl<|Rop<|op_len Try.underlying31 rfl ?_
 have p297:=(p55.trans (p64.trans (p68.trans (hst77.trans p84))))
 replace Fd:=Fd.step p297
 have rl296:=inK_len Fd
 refine Rop<|op_neq rfl rfl<|Mve (Bo (decide ((part_1.1.variables.length:Int)≠(r_.variables.length:Int)))) rfl<|Rg_caseM hm (fun hg298 hm=>?_) (fun hg298 hm=>?_)
 iterate 3 refine Rg_opx rfl (asB_ne rfl rfl) rfl ?_
 exact Pkt (Bo true) rfl rfl<|Rg_nil<|hK95 _ _ ⟨true,_,rfl,Frm.of ⟨rfl,trivial⟩,ch293,hs83,hm⟩
 refine Rog rfl rfl<|op_ldA 0 ty26 hs83 rfl rfl rfl ?_
 obtain⟨check_1,hv299,hm⟩:=bd hm
 replace Fg:=Fg.step p295;replace Ff:=Ff.step p295
 refine Rog rfl rfl<|op_callE hs83 Try.call12 (c12_problem_Check (p:=part_1.1) hs83.ltw Ff Fg Fh hv299) rfl ?_
 rintro v300 w301 p305 hs304 h303
 obtain⟨rfl,Rn⟩:=h303
 refine Rog rfl rfl<|op_neq rfl rfl<|Pkf (Bo (decide (check_1≠0))) rfl rfl<|Rg_nil ?_
 replace ch293:=ch293.trans p305
 exact hK95 _ _ ⟨decide (check_1≠0),_,rfl,Frm.of ⟨rfl,trivial⟩,ch293,hs304,hm⟩
 intro K74 hK74
 have ch307:=hs69.stepR
 refine Wp_region<|Mve (Iv proves_1.2) rfl<|Mve (Iv part_1.2) rfl<|Rop<|op_neq rfl rfl<|Mve (Bo (decide (proves_1.2≠part_1.2))) rfl<|Rg_caseM hm (fun hg308 hm=>?_) (fun hg308 hm=>?_)
 iterate 5 refine Rg_opx rfl (asB_ne rfl rfl) rfl ?_
 exact Pkt (Bo true) rfl rfl<|Rg_nil<|hK74 _ _ ⟨true,_,rfl,Frm.of ⟨rfl,trivial⟩,ch307,hs69,hm⟩
 refine Rog rfl rfl<|op_move (v:=Iv proves_1.2) rfl<|Rog rfl rfl<|op_ldA 2 ty26 hs69 rfl rfl rfl<|Rog rfl rfl<|op_ldA 1 ty34 hs69 rfl rfl rfl ?_
 obtain⟨check_2,hv309,hm⟩:=bd hm
 have p315:=(p55.trans (p64.trans p68))
 replace Fb:=Fb.step p315;replace Fa:=Fa.step p315;replace Fc:=Fc.step p315;replace Fe:=Fe.step p315;replace Fd:=Fd.step p315
 refine Rog rfl rfl<|op_callE hs69 Try.call23 (c23_reason_Check (p:=p) (r_:=r_) hs69.ltw Fa Fb Fc Fd Fe hv309) rfl ?_
 rintro v310 w311 p316 hs314 h313
 obtain⟨rfl,Ro⟩:=h313
 refine Rog rfl rfl<|op_neq rfl rfl<|Pkf (Bo (decide (proves_1.2≠check_2))) rfl rfl<|Rg_nil ?_
 replace ch307:=ch307.trans p316
 exact hK74 _ _ ⟨decide (proves_1.2≠check_2),_,rfl,Frm.of ⟨rfl,trivial⟩,ch307,hs314,hm⟩
 intro K26 hK26
 have ch318:=hs16.stepR
 refine Wp_region<|Rop<|op_ldA 1 ty26 hs16 rfl rfl rfl ?_
 obtain⟨few_1,hv319,hm⟩:=bd hm
 have p325:=(p3.trans (p8.trans p17))
 replace Fb:=Fb.step p325;replace Fa:=Fa.step p325;replace Fc:=Fc.step p325
 refine Rop<|op_callE hs16 Try.call18 (c18_overflightref27_Few (p:=p) hs16.ltw Fa Fb Fc hv319) rfl ?_
 rintro v320 w321 p326 hs324 h323
 obtain rfl:=h323
 refine Rop<|op_not rfl<|Mve (Bo (!few_1)) rfl<|Rg_caseM hm (fun hg328 hm=>?_) (fun hg328 hm=>?_)
 iterate 3 refine Rg_opx rfl (asB_ne rfl rfl) rfl ?_
 refine Pkt (Bo true) rfl rfl<|Rg_nil ?_
 replace ch318:=ch318.trans p326
 exact hK26 _ _ ⟨true,_,rfl,Frm.of ⟨rfl,trivial⟩,ch318,hs324,hm⟩
 refine Rog rfl rfl<|op_ldA 0 ty34 hs324 rfl rfl rfl ?_
 obtain⟨few_2,hv329,hm⟩:=bd hm
 have p335:=(p325.trans p326)
 replace Fe:=Fe.step p335;replace Fd:=Fd.step p335
 refine Rog rfl rfl<|op_callE hs324 Try.call19 (c19_overflightref32_Few (r_:=r_) hs324.ltw Fd Fe hv329) rfl ?_
 rintro v330 w331 p336 hs334 h333
 clear hs324
 obtain rfl:=h333
 refine Rog rfl rfl<|op_not rfl<|Pkf (Bo (!few_2)) rfl rfl<|Rg_nil ?_
 have p338:=(p326.trans p336)
 replace ch318:=ch318.trans p338
 exact hK26 _ _ ⟨!few_2,_,rfl,Frm.of ⟨rfl,trivial⟩,ch318,hs334,hm⟩

end Go.Fx
/- What the models of functions compute: loops over lists, checks, meetings. No program in sight. -/
set_option linter.unusedSimpArgs false
set_option linter.unusedVariables false
namespace Go.Fx
open Go Go.RowKit

section
variable {R α σ : Type}
@[simp] theorem jn_eq {κ:Type _} (k:κ) (f:κ→Option R):jn k f=f k:=rfl
theorem ck_eq {c:Prop} [Decidable c] {m:Option R} (h:c):ck c m=m:=if_pos h
@[simp] theorem ck_True {m:Option R} :ck True m=m:=if_pos trivial
theorem wrapN {i:Nat} (h:i<9223372036854775808):IntKind.i64.wrap (i:Int)=(i:Int):=wrap_i64 (by omega) (by omega)
theorem wrapS {i:Nat} (h:i+1<9223372036854775808):IntKind.i64.wrap ((i:Int)+1)=(i:Int)+1:=wrap_i64 (by omega) (by omega)
theorem wrapP {i:Nat} (h:i<9223372036854775808):IntKind.i64.wrap (((i+1:Nat):Int) - 1)=(i:Int):=(wrap_i64 (by omega) (by omega)).trans (by omega)

theorem up_list {L:Nat→Int→σ→Option R} (I:Nat→σ→Prop) (F:Nat→List α→σ→Option R) (l:List α) (hl:l.length<9223372036854775807)
    (hE:∀n s,I l.length s→L (n+1) (l.length:Nat) s=F l.length [] s)
    (hS:∀n (i:Nat) s x t,i<l.length→l[i]?=some x→IntKind.i64.wrap ((i:Int)+1)=(i:Int)+1→I i s→
      (∀s,I (i+1) s→L n ((i:Int)+1) s=F (i+1) t s)→L (n+1) (i:Int) s=F i (x::t) s):
    ∀(fuel:Nat) s,l.length<fuel→I 0 s→L fuel 0 s=F 0 l s:=by
  have main:∀(t:List α) (i fuel:Nat) s,l.drop i=t→i≤l.length→l.length - i<fuel→I i s→L fuel (i:Int) s=F i t s:=by
    intro t
    induction t with
    |nil=>
      intro i fuel s hd hi hf hI
      have:i=l.length:=by have:=congrArg List.length hd;simp at this;omega
      subst this
      obtain⟨n,rfl⟩:∃n,fuel=n+1:=⟨fuel - 1,by omega⟩
      exact hE n s hI
    |cons x t ih=>
      intro i fuel s hd hi hf hI
      have hlt:i<l.length:=by have:=congrArg List.length hd;simp at this;omega
      obtain⟨n,rfl⟩:∃n,fuel=n+1:=⟨fuel - 1,by omega⟩
      have hx:l[i]?=some x:=by rw [← List.head?_drop,hd];rfl
      refine hS n i s x t hlt hx (wrapS (by omega)) hI fun s' hI'=>(ih (i+1) n s' ?_ (by omega) (by omega) hI')
      rw [← List.drop_drop,hd];rfl
  intro fuel s hf hI
  exact main l 0 fuel s rfl (by omega) (by omega) hI

theorem getD_of {l:List α} {i:Nat} {x d:α} (h:l[i]?=some x):l.getD i d=x:=by simp [List.getD,h]

theorem up_list0 {B:(Int→Option R)→Int→Option R} (F:List α→Option R) (l:List α) (hl:l.length<9223372036854775807)
    (hE:∀sf,B sf (l.length:Nat)=F [])
    (hS:∀sf (i:Nat) x t,i<l.length→l[i]?=some x→IntKind.i64.wrap ((i:Int)+1)=(i:Int)+1→
      sf ((i:Int)+1)=F t→B sf (i:Int)=F (x::t))
    {fuel:Nat} (hf:l.length<fuel):loop1 B fuel 0=F l:=by
  refine up_list (L:=fun n i (_:Unit)=>loop1 B n i) (fun _ _=>True) (fun _ t _=>F t) l hl ?_ ?_ fuel () hf trivial
  · intro n _ _;show loop1 B (n+1) _=_;rw [loop1_succ];exact hE _
  · intro n i _ x t h1 h2 h3 _ ih;show loop1 B (n+1) _=_;rw [loop1_succ];exact hS _ i x t h1 h2 h3 (ih () trivial)
theorem up_listA {B:(Int→σ→Option R)→Int→σ→Option R} (I:Nat→σ→Prop) (F:Nat→List α→σ→Option R) (l:List α) (hl:l.length<9223372036854775807)
    (hE:∀sf s,I l.length s→B sf (l.length:Nat) s=F l.length [] s)
    (hS:∀sf (i:Nat) s x t,i<l.length→l[i]?=some x→IntKind.i64.wrap ((i:Int)+1)=(i:Int)+1→I i s→
      (∀s,I (i+1) s→sf ((i:Int)+1) s=F (i+1) t s)→B sf (i:Int) s=F i (x::t) s)
    {fuel:Nat} {s:σ} (hf:l.length<fuel) (hI:I 0 s):loop2 B fuel 0 s=F 0 l s:=by
  refine up_list (L:=fun n i s=>loop2 B n i s) I F l hl ?_ ?_ fuel s hf hI
  · intro n s h;show loop2 B (n+1) _ _=_;rw [loop2_succ];exact hE _ _ h
  · intro n i s x t h1 h2 h3 h4 ih;show loop2 B (n+1) _ _=_;rw [loop2_succ];exact hS _ i s x t h1 h2 h3 h4 ih
theorem up_listB {B:(σ→Int→Option R)→σ→Int→Option R} (I:Nat→σ→Prop) (F:Nat→List α→σ→Option R) (l:List α) (hl:l.length<9223372036854775807)
    (hE:∀sf s,I l.length s→B sf s (l.length:Nat)=F l.length [] s)
    (hS:∀sf (i:Nat) s x t,i<l.length→l[i]?=some x→IntKind.i64.wrap ((i:Int)+1)=(i:Int)+1→I i s→
      (∀s,I (i+1) s→sf s ((i:Int)+1)=F (i+1) t s)→B sf s (i:Int)=F i (x::t) s)
    {fuel:Nat} {s:σ} (hf:l.length<fuel) (hI:I 0 s):loop2 B fuel s 0=F 0 l s:=by
  refine up_list (L:=fun n i s=>loop2 B n s i) I F l hl ?_ ?_ fuel s hf hI
  · intro n s h;show loop2 B (n+1) _ _=_;rw [loop2_succ];exact hE _ _ h
  · intro n i s x t h1 h2 h3 h4 ih;show loop2 B (n+1) _ _=_;rw [loop2_succ];exact hS _ i s x t h1 h2 h3 h4 ih

theorem up_listI {B:(Int→Option R)→Int→Option R} (F:Nat→List α→Option R) (l:List α) (hl:l.length<9223372036854775807)
    (hE:∀sf,B sf (l.length:Nat)=F l.length [])
    (hS:∀sf (i:Nat) x t,i<l.length→l[i]?=some x→IntKind.i64.wrap ((i:Int)+1)=(i:Int)+1→
      sf ((i:Int)+1)=F (i+1) t→B sf (i:Int)=F i (x::t))
    {fuel:Nat} (hf:l.length<fuel):loop1 B fuel 0=F 0 l:=by
  refine up_list (L:=fun n i (_:Unit)=>loop1 B n i) (fun _ _=>True) (fun i t _=>F i t) l hl ?_ ?_ fuel () hf trivial
  · intro n _ _;show loop1 B (n+1) _=_;rw [loop1_succ];exact hE _
  · intro n i _ x t h1 h2 h3 _ ih;show loop1 B (n+1) _=_;rw [loop1_succ];exact hS _ i x t h1 h2 h3 (ih () trivial)
end
end Go.Fx
/- Chapter 32: what is a valid problem, a valid reason. Loops that ask the same of each element. -/
set_option linter.unusedSimpArgs false
set_option linter.unusedVariables false
set_option maxRecDepth 100000
namespace Go.Fx
open Go Go.RowKit
section
variable {R α σ : Type}
def adj (lt : α → α → Bool) : List α → Bool
  | a :: b :: t => lt a b && adj lt (b :: t)
  | _ => true
/-- each element by itself, and beside the one before it -/
def allP (ok : α → Bool) (lt : α → α → Bool) : Option α → List α → Bool
  | _, [] => true
  | o, x :: t => ok x && (o.all fun y => lt y x) && allP ok lt (some x) t
theorem allP_some {ok : α → Bool} {lt : α → α → Bool} : ∀ (t : List α) (a : α), allP ok lt (some a) t = (t.all ok && adj lt (a :: t))
  | [], a => by simp [allP, adj]
  | x :: t, a => by
    simp only [allP, adj, allP_some t x, List.all_cons, Option.all_some]
    cases ok x <;> cases lt a x <;> cases t.all ok <;> simp
theorem allP_none {ok : α → Bool} {lt : α → α → Bool} (l : List α) : allP ok lt none l = (l.all ok && adj lt l) := by
  cases l with
  | nil => simp [allP, adj]
  | cons x t => simp only [allP, allP_some, List.all_cons, Option.all_none, Bool.and_true, Bool.and_assoc]
/-- a loop that asks ok of each element, and lt of each and the one before it -/
theorem adj_up {B : (Int → Option R) → Int → Option R} {l : List α} (ok : α → Bool) (lt : α → α → Bool) (bad fin : Option R) (hl : l.length < 9223372036854775807)
    (hE : ∀ sf, B sf (l.length : Nat) = fin)
    (h0 : ∀ sf x, 0 < l.length → l[0]? = some x → IntKind.i64.wrap ((0 : Int) + 1) = 1 → B sf 0 = bif ok x then sf 1 else bad)
    (hS : ∀ sf (j : Nat) y x, j + 1 < l.length → l[j]? = some y → l[j + 1]? = some x → IntKind.i64.wrap (((j + 1 : Nat) : Int) + 1) = ((j + 1 : Nat) : Int) + 1 → IntKind.i64.wrap (((j + 1 : Nat) : Int) - 1) = (j : Int) →
      B sf ((j + 1 : Nat) : Int) = bif (ok x && lt y x) then sf (((j + 1 : Nat) : Int) + 1) else bad)
    {fuel : Nat} (hf : l.length < fuel) : loop1 B fuel 0 = bif (l.all ok && adj lt l) then fin else bad := by
  refine (up_listI (fun i t => bif allP ok lt (if i = 0 then none else l[i - 1]?) t then fin else bad) l hl (fun sf => by rw [hE]; rfl) ?_ hf).trans ?_
  · intro sf i x t h1 h2 h3 ih
    cases i with
    | zero =>
      have e := h0 sf x h1 h2 (by simpa using h3)
      simp only [Nat.zero_add, Nat.succ_ne_zero, if_false, if_true, Nat.add_sub_cancel, h2, Int.natCast_zero, Int.zero_add] at ih ⊢
      show B sf 0 = _
      rw [e, allP]
      cases ok x
      · simp
      · simp only [cond_true, Option.all_none, Bool.and_true, Bool.true_and]; exact ih
    | succ j =>
      have hy : l[j]? = some l[j] := List.getElem?_eq_getElem (by omega)
      have e := hS sf j l[j] x h1 hy h2 h3 (wrapP (by omega))
      simp only [Nat.succ_ne_zero, if_false, Nat.add_sub_cancel, h2] at ih ⊢
      rw [e, allP, hy]
      cases hc : (ok x && lt l[j] x)
      · simp only [Option.all_some, hc, Bool.false_and, cond_false]
      · simp only [Option.all_some, hc, Bool.true_and, cond_true]; exact ih
  · simp only [if_true, allP_none]
/-- each by itself -/
theorem all_up {B : (Int → Option R) → Int → Option R} {l : List α} (ok : α → Bool) (bad fin : Option R) (hl : l.length < 9223372036854775807)
    (hE : ∀ sf, B sf (l.length : Nat) = fin)
    (hS : ∀ sf (i : Nat) x, i < l.length → l[i]? = some x → IntKind.i64.wrap ((i : Int) + 1) = (i : Int) + 1 → B sf (i : Int) = bif ok x then sf ((i : Int) + 1) else bad)
    {fuel : Nat} (hf : l.length < fuel) : loop1 B fuel 0 = bif l.all ok then fin else bad := by
  refine up_list0 (fun t => bif t.all ok then fin else bad) l hl (fun sf => by rw [hE]; rfl) ?_ hf
  intro sf i x t h1 h2 h3 ih
  rw [hS sf i x h1 h2 h3, List.all_cons]
  cases ok x
  · rfl
  · simp only [cond_true, Bool.true_and]; exact ih
/-- from the second on, beside the one before -/
theorem adj_up1 {B : (Int → Option R) → Int → Option R} {l : List α} (lt : α → α → Bool) (bad fin : Option R) (hl : l.length < 9223372036854775807)
    (hE : ∀ sf (i : Nat), l.length ≤ i → i ≤ l.length + 1 → B sf (i : Int) = fin)
    (hS : ∀ sf (j : Nat) y x, j + 1 < l.length → l[j]? = some y → l[j + 1]? = some x → IntKind.i64.wrap (((j + 1 : Nat) : Int) + 1) = ((j + 1 : Nat) : Int) + 1 → IntKind.i64.wrap (((j + 1 : Nat) : Int) - 1) = (j : Int) →
      B sf ((j + 1 : Nat) : Int) = bif lt y x then sf (((j + 1 : Nat) : Int) + 1) else bad)
    {fuel : Nat} (hf : l.length - 1 < fuel) : loop1 B fuel 1 = bif adj lt l then fin else bad := by
  have main : ∀ (fuel j : Nat) (y : α) (t : List α), l.drop j = y :: t → l.length - (j + 1) < fuel → loop1 B fuel ((j + 1 : Nat) : Int) = bif adj lt (y :: t) then fin else bad := by
    intro fuel
    induction fuel with
    | zero => intro j y t _ h; omega
    | succ n ih =>
      intro j y t hd hf
      have hlen : l.length - j = t.length + 1 := by have := congrArg List.length hd; simpa using this
      have hy : l[j]? = some y := by rw [← List.head?_drop, hd]; rfl
      rw [loop1_succ]
      cases t with
      | nil => rw [hE _ _ (by simp at hlen; omega) (by simp at hlen; omega)]; rfl
      | cons x t =>
        simp only [List.length_cons] at hlen
        have hd2 : l.drop (j + 1) = x :: t := by rw [← List.drop_drop, hd]; rfl
        have hx : l[j + 1]? = some x := by rw [← List.head?_drop, hd2]; rfl
        rw [hS _ j y x (by omega) hy hx (wrapS (by omega)) (wrapP (by omega)), adj]
        cases lt y x
        · rfl
        · simp only [cond_true, Bool.true_and]; exact ih (j + 1) x t hd2 (by omega)
  cases l with
  | nil =>
    obtain ⟨n, rfl⟩ : ∃ n, fuel = n + 1 := ⟨fuel - 1, by simp at hf; omega⟩
    rw [loop1_succ]; exact hE _ 1 (by simp) (by simp)
  | cons y t => exact main fuel 0 y t rfl hf
/-- facts on an index within a list, for simp -/
theorem inBd {i n : Nat} (h : i < n) : ((0 : Int) ≤ (i : Int) ∧ (i : Int) < (n : Int)) = True := by simp; omega
theorem ltBd {i n : Nat} (h : i < n) : decide ((i : Int) < (n : Int)) = true := by simpa using h
theorem ltE {n : Nat} : decide ((n : Int) < (n : Int)) = false := by simp
end
def within (n lo hi : Int) : Bool := decide (lo ≤ n) && decide (n ≤ hi)
theorem m33_eq (n lo hi : Int) : m33_problem_within n lo hi = some (within n lo hi) := by
  unfold m33_problem_within within; cases decide (lo ≤ n) <;> rfl
def cmpI (x y : Int) : Int := if x < y then -1 else if y < x then 1 else 0
theorem m39_eq (x y : Int) : m39_cmp_Compare x y = some (cmpI x y) := by
  unfold m39_cmp_Compare m66_cmp_isNaN cmpI
  by_cases h : x < y
  · simp [h]
  · by_cases h2 : y < x <;> simp [h, h2]
theorem m64_eq (x y : Int) : m64_cmp_Or [x, y] = some (if x ≠ 0 then x else y) := by
  unfold m64_cmp_Or
  rw [up_list0 (B := m64_cmp_Or_B0 [x, y]) (fun t => some ((t.find? (fun z => decide (z ≠ 0))).getD 0)) [x, y] (by simp) ?_ ?_ (by simp)]
  · by_cases hx : x = 0
    · by_cases hy : y = 0 <;> simp [hx, hy]
    · simp [hx]
  · intro sf; unfold m64_cmp_Or_B0; simp
  · intro sf i z t h1 h2 h3 ih
    unfold m64_cmp_Or_B0
    simp only [ltBd h1, inBd h1, ck_True, Int.toNat_natCast, getD_of h2, h3, ih, cond_true, List.find?_cons]
    cases decide (z ≠ 0) <;> rfl
/-- the order of cells -/
def cb (a b : XCell) : Bool := if a.airport = b.airport then (if a.index = b.index then decide (a.minute < b.minute) else decide (a.index < b.index)) else b.airport
def cmpC (a b : XCell) : Int := if a.airport = b.airport then (if cmpI a.index b.index ≠ 0 then cmpI a.index b.index else cmpI a.minute b.minute) else if b.airport then -1 else 1
theorem m35_eq (a b : XCell) : m35_problem_compare a b = some (cmpC a b) := by
  unfold m35_problem_compare cmpC
  by_cases h : a.airport = b.airport
  · simp only [h, beq_self_eq_true, Bool.not_true, cond_false, m39_eq, m64_eq, Option.bind_some, if_true]
  · have : (a.airport == b.airport) = false := by simpa using h
    simp only [this, h, Bool.not_false, cond_true, if_false]
    cases b.airport <;> rfl
theorem cmpC_cb (a b : XCell) : decide (0 ≤ cmpC a b) = !(cb a b) := by
  unfold cmpC cb cmpI
  by_cases h : a.airport = b.airport
  · simp only [h, if_true]
    by_cases h1 : a.index = b.index
    · simp only [h1, Int.lt_irrefl, if_false, ne_eq, not_true_eq_false, if_true]
      by_cases h2 : a.minute < b.minute
      · simp [h2]
      · simp only [h2, if_false, decide_false, Bool.not_false, decide_eq_true_eq]; split <;> omega
    · simp only [h1, if_false]
      by_cases h2 : a.index < b.index
      · simp [h2]
      · have : b.index < a.index := by omega
        simp [h2, this]
  · simp only [h, if_false]
    cases b.airport <;> simp
theorem m34_eq (l : List XCell) (hl : l.length < 9223372036854775807) : m34_api_Cell_ l (fun x y => m35_problem_compare x y) = some (adj cb l) := by
  unfold m34_api_Cell_
  rw [adj_up1 (l := l) cb (some false) (some true) hl ?_ ?_ (by omega)]
  · cases adj cb l <;> rfl
  · intro sf i h1 h2; unfold m34_api_Cell__B0
    have : decide ((i : Int) < (l.length : Int)) = false := by simp; omega
    rw [this]; rfl
  · intro sf j y x h1 h2 h3 h4 h5; unfold m34_api_Cell__B0
    simp only [ltBd h1, h4, h5, inBd h1, inBd (show j < l.length by omega), ck_True, Int.toNat_natCast, getD_of h2, getD_of h3, m35_eq, Option.bind_some, cmpC_cb, cond_true]
    cases cb y x <;> rfl
theorem m38_eq (l : List Int) (hl : l.length < 9223372036854775807) : m38_problem_increasing l (fun x y => m39_cmp_Compare x y) = some (adj (fun x y => decide (x < y)) l) := by
  unfold m38_problem_increasing
  rw [adj_up1 (l := l) (fun x y => decide (x < y)) (some false) (some true) hl ?_ ?_ (by omega)]
  · cases adj _ l <;> rfl
  · intro sf i h1 h2; unfold m38_problem_increasing_B0
    have : decide ((i : Int) < (l.length : Int)) = false := by simp; omega
    rw [this]; rfl
  · intro sf j y x h1 h2 h3 h4 h5; unfold m38_problem_increasing_B0
    simp only [ltBd h1, h4, h5, inBd h1, inBd (show j < l.length by omega), ck_True, Int.toNat_natCast, getD_of h2, getD_of h3, m39_eq, Option.bind_some, cond_true]
    by_cases h : y < x
    · simp [cmpI, h]
    · have : 0 ≤ cmpI y x := by unfold cmpI; simp only [h, if_false]; split <;> omega
      simp [h, this]
theorem m40_eq (l : List XUse) (hl : l.length < 9223372036854775807) : m40_api_Use_ l (fun x y => m41_problem_Check_2 x y) = some (adj (fun x y => cb x.cell y.cell) l) := by
  unfold m40_api_Use_
  rw [adj_up1 (l := l) (fun x y => cb x.cell y.cell) (some false) (some true) hl ?_ ?_ (by omega)]
  · cases adj _ l <;> rfl
  · intro sf i h1 h2; unfold m40_api_Use__B0
    have : decide ((i : Int) < (l.length : Int)) = false := by simp; omega
    rw [this]; rfl
  · intro sf j y x h1 h2 h3 h4 h5; unfold m40_api_Use__B0
    simp only [ltBd h1, h4, h5, inBd h1, inBd (show j < l.length by omega), ck_True, Int.toNat_natCast, getD_of h2, getD_of h3, m41_problem_Check_2, m35_eq, Option.bind_some, cmpC_cb, cond_true]
    cases cb y.cell x.cell <;> rfl
theorem m36_eq (s : List Int) (hl : s.length < 9223372036854775807) : m36_slices_ContainsFuncint_int_ s (fun x => m37_problem_Check_1 x) = some (!(s.all fun n => within n 0 4096)) := by
  unfold m36_slices_ContainsFuncint_int_ m65_slices_IndexFuncint_int_
  have key : ∃ i : Int, loop1 (m65_slices_IndexFuncint_int__B0 s (fun x => m37_problem_Check_1 x)) (((s.length : Int) - 0).toNat + 1) 0 = some i ∧ decide (0 ≤ i) = !(s.all fun n => within n 0 4096) := by
    rw [up_listI (B := m65_slices_IndexFuncint_int__B0 s (fun x => m37_problem_Check_1 x)) (fun i t => some (match t.findIdx? (fun n => !(within n 0 4096)) with | none => (-1 : Int) | some k => ((i + k : Nat) : Int))) s hl ?_ ?_ (by omega)]
    · refine ⟨_, rfl, ?_⟩
      cases h : s.findIdx? (fun n => !(within n 0 4096)) with
      | none =>
        rw [List.findIdx?_eq_none_iff] at h
        have : (s.all fun n => within n 0 4096) = true := by rw [List.all_eq_true]; intro x hx; simpa using h x hx
        simp [this]
      | some k =>
        have : (s.all fun n => within n 0 4096) = false := by
          rw [List.all_eq_false]
          obtain ⟨hk, h1, _⟩ := List.findIdx?_eq_some_iff_getElem.1 h
          exact ⟨s[k], List.getElem_mem hk, by simpa using h1⟩
        simp [this]
    · intro sf; unfold m65_slices_IndexFuncint_int__B0; simp
    · intro sf i x t h1 h2 h3 ih
      unfold m65_slices_IndexFuncint_int__B0 m37_problem_Check_1
      simp only [ltBd h1, inBd h1, ck_True, Int.toNat_natCast, getD_of h2, m33_eq, Option.bind_some, h3, cond_true, List.findIdx?_cons]
      cases hw : within x 0 4096
      · simp
      · simp only [Bool.not_true, cond_false, Bool.false_eq_true, if_false]
        rw [ih]
        cases t.findIdx? (fun n => !(within n 0 4096)) with
        | none => rfl
        | some k => simp; omega
  obtain ⟨i, h1, h2⟩ := key
  rw [h1, Option.bind_some, h2]
end Go.Fx
/- Chapter 32: problem.Check and the reference's Check say the same; so do the Checks of reasons. -/
set_option linter.unusedSimpArgs false
set_option linter.unusedVariables false
set_option maxRecDepth 100000
namespace Go.Fx
open Go Go.RowKit
def okCell (c : XCell) : Bool := decide (0 ≤ c.index) && decide (0 ≤ c.minute)
def okUse (cells : List XCell) (u : XUse) : Bool := decide (u.cell ∈ cells) && within u.places 1 8
def okChoice (cells : List XCell) (c : XChoice) : Bool :=
  within c.delay 0 1048576 && (within c.cost 0 1048576 && (within c.changes 0 1048576 && (c.uses.all (okUse cells) && adj (fun x y => cb x.cell y.cell) c.uses)))
def okVar (cells : List XCell) (n : Nat) (v : XVariable) : Bool :=
  !(decide (v.leaves.length = 0)) && (within v.choices.length 1 96 && (((v.leaves.all fun k => within k 0 ((n : Int) - 1)) && adj (fun x y => decide (x < y)) v.leaves) && v.choices.all (okChoice cells)))
def okRow (n : Nat) (r : List Int) : Bool := decide (r.length = n) && r.all fun k => within k 0 4096
def okProb (p : XProblem) : Bool :=
  decide (p.cells.length ≤ 4096) && (within p.capacity.length 1 32 && (decide (p.variables.length ≤ 64) && ((p.cells.all okCell && adj cb p.cells) && (p.capacity.all (okRow p.cells.length) && p.variables.all (okVar p.cells p.capacity.length)))))
/-- in a rising list the first is the least, the last the greatest -/
theorem adj_ends {l : List Int} {n : Int} (h : adj (fun x y => decide (x < y)) l = true) {x : Int} (hx : x ∈ l) (d : Int) : l.getD 0 d ≤ x ∧ x ≤ l.getD (l.length - 1) d := by
  induction l generalizing x with
  | nil => cases hx
  | cons a t ih =>
    cases t with
    | nil => simp at hx; simp [hx]
    | cons b t =>
      simp only [adj, Bool.and_eq_true, decide_eq_true_eq] at h
      have e : (a :: b :: t).getD ((a :: b :: t).length - 1) d = (b :: t).getD ((b :: t).length - 1) d := by simp
      rw [e]
      rcases List.mem_cons.1 hx with rfl | hx
      · have := ih h.2 (List.mem_cons_self ..)
        simp only [List.getD_cons_zero] at this ⊢
        omega
      · have := ih h.2 hx
        simp only [List.getD_cons_zero] at this ⊢
        omega
theorem leaves_eq {l : List Int} {n : Nat} (h0 : l.length ≠ 0) (h : adj (fun x y => decide (x < y)) l = true) :
    (!(decide (l.getD 0 default < 0)) && !(decide ((n : Int) ≤ l.getD (l.length - 1) default))) = l.all fun k => within k 0 ((n : Int) - 1) := by
  rw [Bool.eq_iff_iff]
  simp only [Bool.and_eq_true, Bool.not_eq_true', decide_eq_false_iff_not, List.all_eq_true, within, decide_eq_true_eq]
  constructor
  · intro ⟨h1, h2⟩ x hx
    have := adj_ends (n := 0) h hx default
    omega
  · intro ha
    have m0 : l.getD 0 default ∈ l := by
      rw [getD_of (List.getElem?_eq_getElem (show 0 < l.length by omega))]; exact List.getElem_mem _
    have m1 : l.getD (l.length - 1) default ∈ l := by
      rw [getD_of (List.getElem?_eq_getElem (show l.length - 1 < l.length by omega))]; exact List.getElem_mem _
    have := ha _ m0; have := ha _ m1
    omega
theorem sm_len {α : Type} {S : α → Prop} {l : List α} (h : SmL S l) : l.length < 9223372036854775807 := by have := h.1; omega
theorem ge0 {α : Type} {l : List α} {i : Nat} {x : α} (h : l[i]? = some x) : x ∈ l := List.mem_of_getElem? h
theorem choice12 {p : XProblem} {map_1 : List (XCell × Bool)} {v : XVariable} {i : Nat} (hm : ∀ c, (mget map_1 c).getD false = decide (c ∈ p.cells)) (hv : p.variables[i]? = some v) (hs : smXVariable v)
    (sf156 : Int → Option Int) (hw : IntKind.i64.wrap ((i : Int) + 1) = (i : Int) + 1) :
    loop1 (m12_problem_Check_B3 p map_1 (i : Int) sf156) (((((p.variables.getD (i : Int).toNat default).choices).length : Int) - 0).toNat + 1) 0 = bif v.choices.all (okChoice p.cells) then sf156 ((i : Int) + 1) else some 270 := by
  simp only [Int.toNat_natCast, getD_of hv]
  refine all_up (okChoice p.cells) (some 270) (sf156 ((i : Int) + 1)) (sm_len hs.2.2.2) ?_ ?_ (by omega)
  · intro sf; unfold m12_problem_Check_B3
    simp only [Int.toNat_natCast, getD_of hv, ltE, cond_false, hw]
  · intro sf j c h1 h2 h3
    have hc := hs.2.2.2.2 c (ge0 h2)
    unfold m12_problem_Check_B3
    simp only [Int.toNat_natCast, getD_of hv, getD_of h2, ltBd h1, inBd h1, ck_True, cond_true, m33_eq, Option.bind_some, jn_eq, m40_eq _ (sm_len hc.2.2.2), okChoice]
    rw [all_up (B := m12_problem_Check_B4 p map_1 (i : Int) (j : Int) sf) (l := c.uses) (okUse p.cells) (some 270) (sf ((j : Int) + 1)) (sm_len hc.2.2.2) ?_ ?_ (by omega)]
    · cases within c.delay 0 1048576 <;> cases within c.cost 0 1048576 <;> cases within c.changes 0 1048576 <;> cases adj (fun x y => cb x.cell y.cell) c.uses <;> cases c.uses.all (okUse p.cells) <;> rfl
    · intro sf'; unfold m12_problem_Check_B4
      simp only [Int.toNat_natCast, getD_of hv, getD_of h2, ltE, cond_false, h3]
    · intro sf' k u h4 h5 h6
      unfold m12_problem_Check_B4
      simp only [Int.toNat_natCast, getD_of hv, getD_of h2, getD_of h5, ltBd h4, inBd h4, ck_True, cond_true, m33_eq, Option.bind_some, jn_eq, hm, okUse, h6]
      cases decide (u.cell ∈ p.cells) <;> cases within u.places 1 8 <;> rfl
theorem m12_eq {p : XProblem} (hp : smXProblem p) : m12_problem_Check p = some (bif okProb p then 0 else 270) := by
  obtain ⟨s1, s2, s3⟩ := hp
  unfold m12_problem_Check
  simp only [jn_eq, m33_eq, Option.bind_some, m34_eq _ (sm_len s1)]
  have vars : ∀ map_1 : List (XCell × Bool), (∀ c, (mget map_1 c).getD false = decide (c ∈ p.cells)) →
      loop1 (m12_problem_Check_B2 p map_1) (((p.variables.length : Int) - 0).toNat + 1) 0 = bif p.variables.all (okVar p.cells p.capacity.length) then some 0 else some 270 := by
    intro map_1 hm
    refine all_up (okVar p.cells p.capacity.length) (some 270) (some 0) (sm_len s3) ?_ ?_ (by omega)
    · intro sf; unfold m12_problem_Check_B2; simp only [ltE, cond_false]
    · intro sf i v h1 h2 h3
      have hv := s3.2 v (ge0 h2)
      unfold m12_problem_Check_B2
      rw [choice12 hm h2 hv sf h3]
      simp only [Int.toNat_natCast, getD_of h2, ltBd h1, inBd h1, ck_True, cond_true, m33_eq, Option.bind_some, jn_eq, m38_eq _ (sm_len hv.2.2.1), okVar]
      by_cases h0 : v.leaves.length = 0
      · simp [h0]
      · have e1 : IntKind.i64.wrap ((v.leaves.length : Int) - 1) = ((v.leaves.length - 1 : Nat) : Int) := by
          have := sm_len hv.2.2.1
          exact (wrap_i64 (by omega) (by omega)).trans (by omega)
        have c1 : ((0 : Int) ≤ 0 ∧ (0 : Int) < (v.leaves.length : Int)) = True := by simp; omega
        have c2 : ((0 : Int) ≤ ((v.leaves.length - 1 : Nat) : Int) ∧ ((v.leaves.length - 1 : Nat) : Int) < (v.leaves.length : Int)) = True := by simp; omega
        have c3 : decide ((v.leaves.length : Int) = 0) = false := by simpa using h0
        simp only [e1, c1, c2, c3, ck_True, cond_false, h0, decide_false, Bool.not_false, Bool.true_and, Int.toNat_natCast]
        cases within v.choices.length 1 96
        · rfl
        · simp only [Bool.not_true, cond_false, Bool.true_and]
          cases ha : adj (fun x y => decide (x < y)) v.leaves
          · simp
          · rw [← leaves_eq h0 ha]
            simp only [Bool.not_true, cond_false, Bool.and_true]
            cases decide (v.leaves.getD 0 default < 0) <;> cases decide ((p.capacity.length : Int) ≤ v.leaves.getD (v.leaves.length - 1) default) <;> cases v.choices.all (okChoice p.cells) <;> rfl
  have caps : ∀ map_1 : List (XCell × Bool), (∀ c, (mget map_1 c).getD false = decide (c ∈ p.cells)) →
      loop1 (m12_problem_Check_B1 p map_1) (((p.capacity.length : Int) - 0).toNat + 1) 0 = bif p.capacity.all (okRow p.cells.length) then (bif p.variables.all (okVar p.cells p.capacity.length) then some 0 else some 270) else some 270 := by
    intro map_1 hm
    refine all_up (okRow p.cells.length) (some 270) _ (sm_len s2) ?_ ?_ (by omega)
    · intro sf; unfold m12_problem_Check_B1; rw [vars map_1 hm]; simp only [ltE, cond_false]
    · intro sf i r h1 h2 h3
      unfold m12_problem_Check_B1
      simp only [Int.toNat_natCast, getD_of h2, ltBd h1, inBd h1, ck_True, cond_true, jn_eq, m36_eq _ (sm_len (s2.2 r (ge0 h2))), Option.bind_some, okRow, h3]
      by_cases h : r.length = p.cells.length
      · simp only [h, ne_eq, not_true_eq_false, decide_false, cond_false, decide_true, Bool.true_and]
        cases r.all fun k => within k 0 4096 <;> rfl
      · have : ((r.length : Int) ≠ (p.cells.length : Int)) := by omega
        simp [h, this]
  have cells : loop2 (m12_problem_Check_B0 p) (((p.cells.length : Int) - 0).toNat + 1) 0 ([] : List (XCell × Bool)) = bif p.cells.all okCell then (bif p.capacity.all (okRow p.cells.length) then (bif p.variables.all (okVar p.cells p.capacity.length) then some 0 else some 270) else some 270) else some 270 := by
    refine up_listA (fun i s => ∀ c, (mget s c).getD false = decide (c ∈ p.cells.take i)) (fun _ t _ => bif t.all okCell then _ else some 270) p.cells (sm_len s1) ?_ ?_ (by omega) (by simp [mget])
    · intro sf s hI
      unfold m12_problem_Check_B0
      rw [List.take_length] at hI
      rw [caps s hI]; simp only [ltE, cond_false, List.all_nil, cond_true]
    · intro sf i s x t h1 h2 h3 hI ih
      unfold m12_problem_Check_B0
      simp only [Int.toNat_natCast, getD_of h2, ltBd h1, inBd h1, ck_True, cond_true, jn_eq, h3, List.all_cons, okCell]
      have hn : ∀ c, (mget (mput s x true) c).getD false = decide (c ∈ p.cells.take (i + 1)) := by
        intro c
        rw [mget_put, List.take_add_one, h2]
        by_cases hc : x = c
        · simp [hc]
        · rw [if_neg hc, hI c]; simp [Ne.symm hc]
      rw [ih _ hn]
      by_cases h4 : x.index < 0
      · have : ¬ (0 ≤ x.index) := by omega
        simp [h4, this]
      · by_cases h5 : x.minute < 0
        · have : ¬ (0 ≤ x.minute) := by omega
          simp [h4, h5, this]
        · have a1 : 0 ≤ x.index := by omega
          have a2 : 0 ≤ x.minute := by omega
          simp [h4, h5, a1, a2]
  rw [cells]
  unfold okProb
  by_cases h1 : p.cells.length ≤ 4096
  · have e1 : ¬ ((4096 : Int) < (p.cells.length : Int)) := by omega
    by_cases h2 : p.variables.length ≤ 64
    · have e2 : ¬ ((64 : Int) < (p.variables.length : Int)) := by omega
      simp only [h1, h2, e1, e2, decide_true, decide_false, cond_false, Bool.true_and]
      cases within p.capacity.length 1 32 <;> cases adj cb p.cells <;> cases p.cells.all okCell <;> cases p.capacity.all (okRow p.cells.length) <;> cases p.variables.all (okVar p.cells p.capacity.length) <;> rfl
    · have e2 : (64 : Int) < (p.variables.length : Int) := by omega
      simp only [h1, h2, e1, e2, decide_true, decide_false, cond_false, cond_true, Bool.true_and, Bool.false_and, Bool.and_false]
      cases within p.capacity.length 1 32 <;> rfl
  · have e1 : (4096 : Int) < (p.cells.length : Int) := by omega
    simp [h1, e1]
end Go.Fx
/- Chapter 32: the reference's Check of problems; both Checks of reasons. -/
set_option linter.unusedSimpArgs false
set_option linter.unusedVariables false
set_option maxRecDepth 100000
namespace Go.Fx
open Go Go.RowKit
/-! reasons -/
def okIdx (n : Nat) (k : Int) : Bool := decide (0 ≤ k) && decide (k < (n : Int))
def okPlace (p : XProblem) (x : XPlace) : Bool := okIdx p.capacity.length x.leaf && okIdx p.cells.length x.cell
def pb (a b : XPlace) : Bool := decide (a.leaf < b.leaf) || (decide (a.leaf = b.leaf) && decide (a.cell < b.cell))
def okReason (p : XProblem) (r : XReason) : Bool := (r.variables.all (okIdx p.variables.length) && adj (fun x y => decide (x < y)) r.variables) && (r.places.all (okPlace p) && adj pb r.places)
def cmpP (a b : XPlace) : Int := if cmpI a.leaf b.leaf ≠ 0 then cmpI a.leaf b.leaf else cmpI a.cell b.cell
theorem m55_eq (a b : XPlace) : m55_reason_order a b = some (cmpP a b) := by
  unfold m55_reason_order cmpP
  simp only [m39_eq, m64_eq, Option.bind_some]
theorem cmpP_pb (a b : XPlace) : decide (0 ≤ cmpP a b) = !(pb a b) := by
  unfold cmpP pb cmpI
  by_cases h : a.leaf < b.leaf
  · simp [h]
  · by_cases h2 : b.leaf < a.leaf
    · have : a.leaf ≠ b.leaf := by omega
      simp [h, h2, this]
    · have : a.leaf = b.leaf := by omega
      simp only [this, Int.lt_irrefl, if_false, ne_eq, not_true_eq_false, decide_false, Bool.false_or, decide_true, Bool.true_and]
      by_cases h3 : a.cell < b.cell
      · simp [h3]
      · simp only [h3, if_false, decide_false, Bool.not_false, decide_eq_true_eq]; split <;> omega
theorem oi_eq (n : Nat) (k : Int) : okIdx n k = (!(decide (k < 0)) && !(decide ((n : Int) ≤ k))) := by
  unfold okIdx; by_cases a : k < 0 <;> by_cases b : (n : Int) ≤ k <;> simp [a, b] <;> omega
theorem m23_eq {p : XProblem} {r : XReason} (hp : smXProblem p) (hr : smXReason r) : m23_reason_Check p r = some (bif okProb p then (bif okReason p r then 0 else 320) else 270) := by
  unfold m23_reason_Check
  rw [m12_eq hp]
  have pl : loop1 (m23_reason_Check_B1 p r) (((r.places.length : Int) - 0).toNat + 1) 0 = bif (r.places.all (okPlace p) && adj pb r.places) then some 0 else some 320 := by
    refine adj_up (okPlace p) pb (some 320) (some 0) (sm_len hr.2) ?_ ?_ ?_ (by omega)
    · intro sf; unfold m23_reason_Check_B1; simp only [ltE, cond_false]
    · intro sf x h0 hx hw
      unfold m23_reason_Check_B1
      have c1 : ((0 : Int) ≤ 0 ∧ (0 : Int) < (r.places.length : Int)) = True := by simp <;> omega
      have c2 : decide ((0 : Int) < (r.places.length : Int)) = true := by simp <;> omega
      have hk' : r.places.getD (0 : Int).toNat default = x := getD_of hx
      simp only [hk', c1, c2, ck_True, cond_true, jn_eq, hw, okPlace, oi_eq, Int.lt_irrefl, decide_false, cond_false]
      cases decide (x.leaf < 0) <;> cases decide ((p.capacity.length : Int) ≤ x.leaf) <;> cases decide (x.cell < 0) <;> cases decide ((p.cells.length : Int) ≤ x.cell) <;> rfl
    · intro sf j y x h0 hy hx hw hw2
      unfold m23_reason_Check_B1
      have c3 : decide ((0 : Int) < ((j + 1 : Nat) : Int)) = true := by simp <;> omega
      simp only [Int.toNat_natCast, getD_of hx, getD_of hy, ltBd h0, inBd h0, inBd (show j < r.places.length by omega), c3, ck_True, cond_true, m55_eq, cmpP_pb, Option.bind_some, jn_eq, hw, hw2, okPlace, oi_eq]
      cases decide (x.leaf < 0) <;> cases decide ((p.capacity.length : Int) ≤ x.leaf) <;> cases decide (x.cell < 0) <;> cases decide ((p.cells.length : Int) ≤ x.cell) <;> cases pb y x <;> rfl
  have vs : loop1 (m23_reason_Check_B0 p r) (((r.variables.length : Int) - 0).toNat + 1) 0 = bif (r.variables.all (okIdx p.variables.length) && adj (fun x y => decide (x < y)) r.variables) then (bif (r.places.all (okPlace p) && adj pb r.places) then some 0 else some 320) else some 320 := by
    refine adj_up (okIdx p.variables.length) (fun x y => decide (x < y)) (some 320) _ (sm_len hr.1) ?_ ?_ ?_ (by omega)
    · intro sf; unfold m23_reason_Check_B0; rw [pl]; simp only [ltE, cond_false]
    · intro sf x h0 hx hw
      unfold m23_reason_Check_B0
      have c1 : ((0 : Int) ≤ 0 ∧ (0 : Int) < (r.variables.length : Int)) = True := by simp <;> omega
      have c2 : decide ((0 : Int) < (r.variables.length : Int)) = true := by simp <;> omega
      have hk' : r.variables.getD (0 : Int).toNat default = x := getD_of hx
      simp only [hk', c1, c2, ck_True, cond_true, jn_eq, hw, oi_eq, Int.lt_irrefl, decide_false, cond_false]
      cases decide (x < 0) <;> cases decide ((p.variables.length : Int) ≤ x) <;> rfl
    · intro sf j y x h0 hy hx hw hw2
      unfold m23_reason_Check_B0
      have c3 : decide ((0 : Int) < ((j + 1 : Nat) : Int)) = true := by simp <;> omega
      have c4 : decide (x ≤ y) = !(decide (y < x)) := by by_cases h : y < x <;> simp [h] <;> omega
      simp only [Int.toNat_natCast, getD_of hx, getD_of hy, ltBd h0, inBd h0, inBd (show j < r.variables.length by omega), c3, c4, ck_True, cond_true, jn_eq, hw, hw2, oi_eq]
      cases decide (x < 0) <;> cases decide ((p.variables.length : Int) ≤ x) <;> cases decide (y < x) <;> rfl
  rw [vs]
  unfold okReason
  cases okProb p
  · rfl
  · simp only [cond_true, Option.bind_some]
    cases (r.variables.all (okIdx p.variables.length) && adj (fun x y => decide (x < y)) r.variables) <;> cases (r.places.all (okPlace p) && adj pb r.places) <;> rfl
end Go.Fx
namespace Go.Fx
open Go Go.RowKit Go.Proofs
end Go.Fx
/- Chapter 32: small problems; a problem is the same as itself; Part. -/
set_option linter.unusedSimpArgs false
set_option linter.unusedVariables false
set_option maxRecDepth 100000
namespace Go.Fx
open Go Go.RowKit
theorem sane32 : m10_overflightlaw32_sane = some true := by decide +kernel
theorem m30_some (p : XProblem) (lim : Int) (h : p.variables.length ≤ 999) : ∃ v, m30_overflightref27_Many p lim = some v := by
  unfold m30_overflightref27_Many
  obtain ⟨fu, hfu⟩ : ∃ n : Nat, n = 1000000 := ⟨_, rfl⟩
  rw [← hfu]
  have main : ∀ (fuel i : Nat) (n : Int), i ≤ p.variables.length → p.variables.length - i < fuel → ∃ v, loop2 (m30_overflightref27_Many_B0 p lim) fuel n (i : Int) = some v := by
    intro fuel
    induction fuel with
    | zero => intro i n _ h; omega
    | succ m ih =>
      intro i n h1 h2
      rw [loop2_succ]
      unfold m30_overflightref27_Many_B0
      by_cases h3 : i < p.variables.length
      · simp only [ltBd h3, inBd h3, cond_true, jn_eq, ck_True]
        cases decide (n < lim)
        · exact ⟨_, rfl⟩
        · simp only [cond_true]
          rw [wrapS (i := i) (by omega)]
          exact ih (i + 1) _ (by omega) (by omega)
      · have : decide ((i : Int) < (p.variables.length : Int)) = false := by simpa using h3
        simp only [this, cond_false, jn_eq]; exact ⟨_, rfl⟩
  exact main fu 0 1 (by omega) (by omega)
/-- what is known of a small problem -/
structure Small (p : XProblem) : Prop where
  cells : p.cells.length ≤ 12
  caps : p.capacity.length ≤ 4
  vars : p.variables.length ≤ 6
  row : ∀ r ∈ p.capacity, r.length ≤ 16
  var : ∀ v ∈ p.variables, v.leaves.length ≤ 8 ∧ v.choices.length ≤ 8 ∧ ∀ c ∈ v.choices, c.uses.length ≤ 12
theorem m18_eq {p : XProblem} (hp : smXProblem p) : ∃ b, m18_overflightref27_Few p = some b ∧ (b = true → Small p) := by
  obtain ⟨s1, s2, s3⟩ := hp
  unfold m18_overflightref27_Few
  simp only [jn_eq]
  by_cases a1 : (12 : Int) < (p.cells.length : Int)
  · exact ⟨false, by simp [a1], by simp⟩
  by_cases a2 : (4 : Int) < (p.capacity.length : Int)
  · exact ⟨false, by simp [a1, a2], by simp⟩
  by_cases a3 : (6 : Int) < (p.variables.length : Int)
  · exact ⟨false, by simp [a1, a2, a3], by simp⟩
  simp only [a1, a2, a3, decide_false, cond_false]
  obtain ⟨mn, hmn⟩ := m30_some p 2000 (by omega)
  have ok : ∀ v : XVariable, Bool := fun v => !(decide ((8 : Int) < (v.leaves.length : Int))) && (!(decide ((8 : Int) < (v.choices.length : Int))) && v.choices.all fun c => !(decide ((12 : Int) < (c.uses.length : Int))))
  have vars : loop1 (m18_overflightref27_Few_B1 p) (((p.variables.length : Int) - 0).toNat + 1) 0 = bif (p.variables.all fun v => !(decide ((8 : Int) < (v.leaves.length : Int))) && (!(decide ((8 : Int) < (v.choices.length : Int))) && v.choices.all fun c => !(decide ((12 : Int) < (c.uses.length : Int))))) then some (decide (mn < 2000)) else some false := by
    refine all_up _ (some false) _ (sm_len s3) ?_ ?_ (by omega)
    · intro sf; unfold m18_overflightref27_Few_B1; simp only [ltE, cond_false, hmn, Option.bind_some]
    · intro sf i v h1 h2 h3
      unfold m18_overflightref27_Few_B1
      have hv := s3.2 v (ge0 h2)
      simp only [Int.toNat_natCast, getD_of h2, ltBd h1, inBd h1, ck_True, cond_true, jn_eq]
      rw [all_up (B := m18_overflightref27_Few_B2 p (i : Int) sf) (l := v.choices) (fun c => !(decide ((12 : Int) < (c.uses.length : Int)))) (some false) (sf ((i : Int) + 1)) (sm_len hv.2.2.2) ?_ ?_ (by omega)]
      · cases decide ((8 : Int) < (v.leaves.length : Int)) <;> cases decide ((8 : Int) < (v.choices.length : Int)) <;> rfl
      · intro sf'; unfold m18_overflightref27_Few_B2; simp only [Int.toNat_natCast, getD_of h2, ltE, cond_false, h3]
      · intro sf' j c h4 h5 h6
        unfold m18_overflightref27_Few_B2
        simp only [Int.toNat_natCast, getD_of h2, getD_of h5, ltBd h4, inBd h4, ck_True, cond_true, h6]
        cases decide ((12 : Int) < (c.uses.length : Int)) <;> rfl
  rw [all_up (B := m18_overflightref27_Few_B0 p) (l := p.capacity) (fun r => !(decide ((16 : Int) < (r.length : Int)))) (some false) (bif (p.variables.all fun v => !(decide ((8 : Int) < (v.leaves.length : Int))) && (!(decide ((8 : Int) < (v.choices.length : Int))) && v.choices.all fun c => !(decide ((12 : Int) < (c.uses.length : Int))))) then some (decide (mn < 2000)) else some false) (sm_len s2) ?_ ?_ (by omega)]
  · cases hc : (p.capacity.all fun r => !(decide ((16 : Int) < (r.length : Int))))
    · exact ⟨false, rfl, by simp⟩
    cases hv : (p.variables.all fun v => !(decide ((8 : Int) < (v.leaves.length : Int))) && (!(decide ((8 : Int) < (v.choices.length : Int))) && v.choices.all fun c => !(decide ((12 : Int) < (c.uses.length : Int)))))
    · exact ⟨false, rfl, by simp⟩
    refine ⟨_, rfl, fun _ => ⟨by omega, by omega, by omega, fun r hr => ?_, fun v hw => ?_⟩⟩
    · have := List.all_eq_true.1 hc r hr
      simp at this; omega
    · have := List.all_eq_true.1 hv v hw
      simp only [Bool.and_eq_true, Bool.not_eq_true', decide_eq_false_iff_not, List.all_eq_true] at this
      exact ⟨by omega, by omega, fun c hc => by have := this.2.2 c hc; omega⟩
  · intro sf; unfold m18_overflightref27_Few_B0; rw [vars]; simp only [ltE, cond_false]
  · intro sf i r h1 h2 h3
    unfold m18_overflightref27_Few_B0
    simp only [Int.toNat_natCast, getD_of h2, ltBd h1, inBd h1, ck_True, cond_true, h3]
    cases decide ((16 : Int) < (r.length : Int)) <;> rfl
theorem m19_eq (r : XReason) : ∃ b, m19_overflightref32_Few r = some b ∧ (b = true → r.variables.length ≤ 20 ∧ r.places.length ≤ 60) := by
  unfold m19_overflightref32_Few
  by_cases h : (r.variables.length : Int) ≤ 20
  · refine ⟨decide ((r.places.length : Int) ≤ 60), by simp [h], fun h2 => ?_⟩
    simp at h2; omega
  · exact ⟨false, by simp [h], by simp⟩
/-! Part -/
theorem m53_eq (n : Nat) (h : n ≤ 12) : m53_slices_Repeatint_int_ [4096] (n : Int) = some (List.replicate n 4096) := by
  have : ∀ n : Nat, n < 13 → m53_slices_Repeatint_int_ [4096] (n : Int) = some (List.replicate n 4096) := by decide +kernel
  exact this n (by omega)
/-- a place's capacity is set -/
def put1 (p : XProblem) (rows : List (List Int)) (y : XPlace) : List (List Int) :=
  rows.set y.leaf.toNat ((rows.getD y.leaf.toNat default).set y.cell.toNat ((p.capacity.getD y.leaf.toNat default).getD y.cell.toNat default))
def blank (p : XProblem) : List (List Int) := List.replicate p.capacity.length (List.replicate p.cells.length 4096)
def partOf (p : XProblem) (r : XReason) : XProblem := ⟨p.cells, r.places.foldl (put1 p) (blank p), r.variables.map fun i => p.variables.getD i.toNat default⟩
def Rect (n m : Nat) (rows : List (List Int)) : Prop := rows.length = n ∧ ∀ r ∈ rows, r.length = m
theorem Rect.put {p : XProblem} {n m : Nat} {rows : List (List Int)} (h : Rect n m rows) (y : XPlace) : Rect n m (put1 p rows y) := by
  unfold put1
  refine ⟨by rw [List.length_set]; exact h.1, fun r hr => ?_⟩
  by_cases hl : y.leaf.toNat < rows.length
  · rcases List.mem_or_eq_of_mem_set hr with h1 | h1
    · exact h.2 r h1
    · rw [h1, List.length_set, getD_of (List.getElem?_eq_getElem hl)]; exact h.2 _ (List.getElem_mem hl)
  · rw [List.set_eq_of_length_le (by omega)] at hr; exact h.2 r hr
theorem Rect.blank (p : XProblem) : Rect p.capacity.length p.cells.length (blank p) := by
  refine ⟨by simp [Fx.blank], fun r hr => ?_⟩
  rw [Fx.blank] at hr; rw [List.eq_of_mem_replicate hr]; simp
/-- what is known of a valid problem -/
theorem prob_rows {p : XProblem} (h : okProb p = true) : ∀ r ∈ p.capacity, r.length = p.cells.length := by
  unfold okProb at h
  simp only [Bool.and_eq_true, List.all_eq_true] at h
  intro r hr
  have := h.2.2.2.2.1 r hr
  simp only [okRow, Bool.and_eq_true, decide_eq_true_eq] at this
  exact this.1
theorem okIdx_iff {n : Nat} {k : Int} : okIdx n k = true ↔ 0 ≤ k ∧ k < (n : Int) := by simp [okIdx]
theorem reason_idx {p : XProblem} {r : XReason} (h : okReason p r = true) : (∀ i ∈ r.variables, 0 ≤ i ∧ i < (p.variables.length : Int)) ∧ adj (fun x y => decide (x < y)) r.variables = true ∧
    (∀ x ∈ r.places, (0 ≤ x.leaf ∧ x.leaf < (p.capacity.length : Int)) ∧ 0 ≤ x.cell ∧ x.cell < (p.cells.length : Int)) ∧ adj pb r.places = true := by
  unfold okReason at h
  simp only [Bool.and_eq_true, List.all_eq_true, okPlace, okIdx_iff] at h
  exact ⟨h.1.1, h.1.2, h.2.1, h.2.2⟩
/-- one place's checks hold -/
theorem placeB {p : XProblem} {rows : List (List Int)} {x : XPlace} (hc : ∀ r ∈ p.capacity, r.length = p.cells.length) (hR : Rect p.capacity.length p.cells.length rows)
    (hx : (0 ≤ x.leaf ∧ x.leaf < (p.capacity.length : Int)) ∧ 0 ≤ x.cell ∧ x.cell < (p.cells.length : Int)) :
    ((0 : Int) ≤ x.leaf ∧ x.leaf < (rows.length : Int)) ∧ ((0 : Int) ≤ x.leaf ∧ x.leaf < (p.capacity.length : Int)) ∧
    ((0 : Int) ≤ x.cell ∧ x.cell < ((p.capacity.getD x.leaf.toNat default).length : Int)) ∧ ((0 : Int) ≤ x.cell ∧ x.cell < ((rows.getD x.leaf.toNat default).length : Int)) := by
  have h1 : x.leaf.toNat < p.capacity.length := by omega
  have h2 : x.leaf.toNat < rows.length := by rw [hR.1]; exact h1
  rw [hR.1, getD_of (List.getElem?_eq_getElem h1), getD_of (List.getElem?_eq_getElem h2), hc _ (List.getElem_mem h1), hR.2 _ (List.getElem_mem h2)]
  exact ⟨hx.1, hx.1, hx.2, hx.2⟩
theorem m20_eq {p : XProblem} {r : XReason} (hp : smXProblem p) (hr : smXReason r) (hs : Small p) (hv : r.variables.length ≤ 20) :
    m20_reason_Part p r = some (bif okProb p then (bif okReason p r then (partOf p r, 0) else (⟨[], [], []⟩, 320)) else (⟨[], [], []⟩, 270)) := by
  unfold m20_reason_Part
  rw [m23_eq hp hr]
  cases h1 : okProb p
  · rfl
  cases h2 : okReason p r
  · rfl
  simp only [cond_true, Option.bind_some, ne_eq, not_true_eq_false, decide_false, cond_false]
  obtain ⟨i1, i2, i3, i4⟩ := reason_idx h2
  have hc := prob_rows h1
  have vs : ∀ rows, loop2 (m20_reason_Part_B2 p r rows) (((r.variables.length : Int) - 0).toNat + 1) 0 ([] : List XVariable) = some (⟨p.cells, rows, r.variables.map fun i => p.variables.getD i.toNat default⟩, 0) := by
    intro rows
    refine (up_listA (B := m20_reason_Part_B2 p r rows) (s := ([] : List XVariable)) (fuel := ((r.variables.length : Int) - 0).toNat + 1) (fun i (s : List XVariable) => s.length = i) (fun _ t s => some ((⟨p.cells, rows, s ++ t.map fun i => p.variables.getD i.toNat default⟩ : XProblem), (0 : Int))) r.variables (sm_len hr.1) ?_ ?_ (by omega) rfl).trans (by simp)
    · intro sf s _; unfold m20_reason_Part_B2; simp
    · intro sf i s x t e1 e2 e3 e4 ih
      unfold m20_reason_Part_B2
      have b1 := i1 x (ge0 e2)
      simp only [Int.toNat_natCast, getD_of e2, ltBd e1, inBd e1, ck_True, cond_true, e3]
      rw [ck_eq b1, ck_eq (by simp only [List.length_singleton]; omega), ih _ (by simp [e4])]
      simp
  have ps : loop2 (m20_reason_Part_B1 p r) (((r.places.length : Int) - 0).toNat + 1) 0 (blank p) = some (partOf p r, 0) := by
    refine up_listA (fuel := ((r.places.length : Int) - 0).toNat + 1) (s := blank p) (fun i s => Rect p.capacity.length p.cells.length s) (fun _ t s => some ((⟨p.cells, t.foldl (put1 p) s, r.variables.map fun i => p.variables.getD i.toNat default⟩ : XProblem), (0 : Int))) r.places (sm_len hr.2) ?_ ?_ (by omega) (Rect.blank p)
    · intro sf s _; unfold m20_reason_Part_B1; rw [vs]; simp
    · intro sf i s x t e1 e2 e3 e4 ih
      unfold m20_reason_Part_B1
      obtain ⟨b1, b2, b3, b4⟩ := placeB hc e4 (i3 x (ge0 e2))
      simp only [Int.toNat_natCast, getD_of e2, ltBd e1, inBd e1, ck_True, cond_true, e3]
      rw [ck_eq b1, ck_eq b2, ck_eq b3, ck_eq b4]
      exact ih _ (e4.put x)
  refine up_listA (fun i (s : List (List Int)) => s = List.replicate i (List.replicate p.cells.length 4096)) (fun _ _ _ => some (partOf p r, 0)) p.capacity (sm_len hp.2.1) ?_ ?_ (by omega) rfl
  · intro sf s e; unfold m20_reason_Part_B0; subst e; rw [show List.replicate p.capacity.length (List.replicate p.cells.length 4096) = blank p from rfl, ps]; simp
  · intro sf i s x t e1 e2 e3 e4 ih
    unfold m20_reason_Part_B0
    subst e4
    simp only [ltBd e1, cond_true, e3, m53_eq _ hs.cells, Option.bind_some]
    rw [ck_eq (by have := hs.caps; simp; omega)]
    exact ih _ (by rw [List.replicate_succ'])
end Go.Fx
/- Chapter 32: what broken does: all ways through the choices of some variables, until it is told to stop. -/
set_option linter.unusedSimpArgs false
set_option linter.unusedVariables false
set_option maxRecDepth 100000
namespace Go.Fx
open Go Go.RowKit
section
variable {R α σ : Type}
/-- a loop in whatever order: what holds with the rest still to come leads to one answer -/
theorem mrng_inv [DecidableEq R] {b : (σ → Option R) → α → σ → Option R} {k : σ → Option R} (J : List α → σ → Prop) (R0 : Option R) (hz : ∀ s, J [] s → k s = R0)
    (hs : ∀ r1 r2 p s sf, J (r1 ++ p :: r2) s → (∀ s', J (r1 ++ r2) s' → sf s' = R0) → b sf p s = R0) : ∀ xs s, J xs s → mrng b k xs s = R0 := by
  intro xs
  generalize hn : xs.length = n
  induction n generalizing xs with
  | zero => intro s h; obtain rfl := List.length_eq_zero_iff.1 hn; exact hz s h
  | succ n ih =>
    intro s h
    have key : ∀ u ∈ (picks xs).map (fun p => b (mrngN b k n p.2) p.1 s), u = R0 := by
      intro u hu
      obtain ⟨p, hp, rfl⟩ := List.mem_map.1 hu
      obtain ⟨r1, r2, e1, e2⟩ := mem_picks.1 hp
      have hl : p.2.length = n := by have := mem_picks_length hp; omega
      rw [e1] at h
      refine hs r1 r2 p.1 s _ h fun s' h' => ?_
      rw [← e2] at h'
      have := ih p.2 hl s' h'
      unfold mrng at this; rw [hl] at this; exact this
    have hne : (picks xs).map (fun p => b (mrngN b k n p.2) p.1 s) ≠ [] := by
      intro e2
      have e2 : picks xs = [] := List.map_eq_nil_iff.1 e2
      cases xs with
      | nil => cases hn
      | cons x t => simp [picks] at e2
    unfold mrng
    rw [hn]
    show allSame ((picks xs).map fun p => b (mrngN b k n p.2) p.1 s) = _
    cases e : R0 with
    | some a => rw [e] at key; exact allSame_iff.2 ⟨hne, key⟩
    | none =>
      rw [e] at key
      cases e2 : allSame ((picks xs).map fun p => b (mrngN b k n p.2) p.1 s) with
      | none => rfl
      | some a =>
        have := allSame_iff.1 e2
        cases hL : (picks xs).map fun p => b (mrngN b k n p.2) p.1 s with
        | nil => exact absurd hL this.1
        | cons u t =>
          have h1 := this.2 u (by rw [hL]; simp)
          have h2 := key u (by rw [hL]; simp)
          rw [h1] at h2; cases h2
end
abbrev PM := List (XPlace × Int)
/-- the value at a place -/
def vl (d : PM) (x : XPlace) : Int := (mget d x).getD 0
theorem vl_put (d : PM) (x y : XPlace) (n : Int) : vl (mput d x n) y = if x = y then n else vl d y := by
  unfold vl; rw [mget_put]; split <;> rfl
section
variable (cap : XPlace → Int)
/-- the places where more stands than there is room for -/
def badL (d : PM) : List (XPlace × Bool) := (d.filter fun q => decide (cap q.1 < q.2)).map fun q => (q.1, true)
theorem badL_ris {d : PM} (h : Ris d) : Ris (badL cap d) := by
  unfold badL Ris
  rw [List.pairwise_map]
  exact List.Pairwise.filter _ h
theorem badL_get (hc : ∀ x, 0 ≤ cap x) {d : PM} (h : Ris d) (x : XPlace) : mget (badL cap d) x = if cap x < vl d x then some true else none := by
  have hr := badL_ris cap h
  by_cases hx : cap x < vl d x
  · rw [if_pos hx]
    cases hg : mget d x with
    | none => have h0 := hc x; unfold vl at hx; rw [hg] at hx; simp at hx; omega
    | some n =>
      have hm := mget_some hg
      have hv : vl d x = n := by unfold vl; rw [hg]; rfl
      refine mget_of hr (List.mem_map.2 ⟨(x, n), List.mem_filter.2 ⟨hm, ?_⟩, rfl⟩)
      rw [hv] at hx; simpa using hx
  · rw [if_neg hx]
    cases hg : mget (badL cap d) x with
    | none => rfl
    | some b =>
      obtain ⟨q, hq, he⟩ := List.mem_map.1 (mget_some hg)
      obtain ⟨hq1, hq2⟩ := List.mem_filter.1 hq
      obtain ⟨e1, e2⟩ := Prod.mk.inj he
      have : mget d x = some q.2 := by rw [← e1]; exact mget_of h (by simpa using hq1)
      have hv : vl d x = q.2 := by unfold vl; rw [this]; rfl
      rw [← e1] at hx hv
      have := of_decide_eq_true hq2
      omega
theorem badL_ext (hc : ∀ x, 0 ≤ cap x) {d e : PM} (hd : Ris d) (he : Ris e) (h : ∀ x, vl d x = vl e x) : badL cap d = badL cap e :=
  mget_ext (badL_ris cap hd) (badL_ris cap he) fun x => by rw [badL_get cap hc hd, badL_get cap hc he, h x]
end
/-- m is added at its places, in some order -/
def addD (m : PM) (d : PM) : PM := m.foldl (fun e q => mput e q.1 (vl d q.1 + q.2)) d
def subD (m : PM) (d : PM) : PM := m.foldl (fun e q => mput e q.1 (vl d q.1 - q.2)) d
theorem fold_put (f : XPlace → Int → Int) : ∀ (m : PM) (e : PM), Ris e → (m.Pairwise fun a b => a.1 ≠ b.1) →
    Ris (m.foldl (fun e q => mput e q.1 (f q.1 q.2)) e) ∧ ∀ x, mget (m.foldl (fun e q => mput e q.1 (f q.1 q.2)) e) x = match mget m x with | some n => some (f x n) | none => mget e x := by
  intro m
  induction m with
  | nil => intro e he _; exact ⟨he, fun x => rfl⟩
  | cons q t ih =>
    intro e he hp
    rw [List.pairwise_cons] at hp
    obtain ⟨h1, h2⟩ := ih (mput e q.1 (f q.1 q.2)) (mput_ris he _ _) hp.2
    refine ⟨h1, fun x => ?_⟩
    rw [List.foldl_cons, h2 x]
    obtain ⟨k, n⟩ := q
    simp only [mget]
    by_cases hk : k = x
    · subst hk
      have : mget t k = none := by
        cases hg : mget t k with
        | none => rfl
        | some v => exact absurd rfl (hp.1 (k, v) (mget_some hg))
      rw [this, if_pos rfl, mget_put, if_pos rfl]
    · rw [if_neg hk]
      cases mget t x with
      | some v => rfl
      | none => simp only [mget_put, if_neg hk]
theorem ris_ne {V : Type} {m : List (XPlace × V)} (h : Ris m) : m.Pairwise fun a b => a.1 ≠ b.1 :=
  h.imp fun {a b} hab e => by rw [e] at hab; have := klt_asym hab; rw [hab] at this; cases this
theorem addD_ris {m d : PM} (hm : Ris m) (hd : Ris d) : Ris (addD m d) := (fold_put (fun x n => vl d x + n) m d hd (ris_ne hm)).1
theorem subD_ris {m d : PM} (hm : Ris m) (hd : Ris d) : Ris (subD m d) := (fold_put (fun x n => vl d x - n) m d hd (ris_ne hm)).1
theorem addD_get {m d : PM} (hm : Ris m) (hd : Ris d) (x : XPlace) : mget (addD m d) x = match mget m x with | some n => some (vl d x + n) | none => mget d x := (fold_put (fun x n => vl d x + n) m d hd (ris_ne hm)).2 x
theorem subD_get {m d : PM} (hm : Ris m) (hd : Ris d) (x : XPlace) : mget (subD m d) x = match mget m x with | some n => some (vl d x - n) | none => mget d x := (fold_put (fun x n => vl d x - n) m d hd (ris_ne hm)).2 x
theorem addD_vl {m d : PM} (hm : Ris m) (hd : Ris d) (x : XPlace) : vl (addD m d) x = vl d x + vl m x := by
  unfold vl; rw [addD_get hm hd]; cases mget m x <;> simp [vl]
theorem subD_vl {m d : PM} (hm : Ris m) (hd : Ris d) (x : XPlace) : vl (subD m d) x = vl d x - vl m x := by
  unfold vl; rw [subD_get hm hd]; cases mget m x <;> simp [vl]
/-- all ways to take one of each -/
def ways {α : Type} : List (List α) → List (List α)
  | [] => [[]]
  | ms :: t => ms.flatMap fun m => (ways t).map (m :: ·)
/-- what is called takes what it is handed, until it says false -/
def runB {β σ : Type} (D : β → σ → Option (Bool × σ)) : List β → σ → Option (Bool × σ)
  | [], s => some (true, s)
  | b :: t, s => (D b s).bind fun r => bif r.1 then runB D t r.2 else some (false, r.2)
theorem runB_append {β σ : Type} (D : β → σ → Option (Bool × σ)) : ∀ (l m : List β) (s : σ), runB D (l ++ m) s = (runB D l s).bind fun r => bif r.1 then runB D m r.2 else some (false, r.2)
  | [], m, s => rfl
  | b :: t, m, s => by
    simp only [List.cons_append, runB]
    cases D b s with
    | none => rfl
    | some r =>
      simp only [Option.bind_some]
      cases h : r.1
      · simp
      · simp only [cond_true]; exact runB_append D t m r.2
end Go.Fx
/- Chapter 32: broken, said plainly. -/
set_option linter.unusedSimpArgs false
set_option linter.unusedVariables false
set_option maxRecDepth 100000
namespace Go.Fx
open Go Go.RowKit
def capT (t : XTable) (x : XPlace) : Int := (t.p.capacity.getD x.leaf.toNat default).getD x.cell.toNat default
/-- a map of a table: places that are there, numbers that are small -/
structure GoodM (t : XTable) (m : PM) : Prop where
  ris : Ris m
  pl : ∀ q ∈ m, ((0 : Int) ≤ q.1.leaf ∧ q.1.leaf < (t.p.capacity.length : Int)) ∧ ((0 : Int) ≤ q.1.cell ∧ q.1.cell < ((t.p.capacity.getD q.1.leaf.toNat default).length : Int))
  sm : ∀ q ∈ m, 0 ≤ q.2 ∧ q.2 ≤ 8
theorem GoodM.vl {t : XTable} {m : PM} (h : GoodM t m) (x : XPlace) : 0 ≤ vl m x ∧ vl m x ≤ 8 := by
  unfold Fx.vl
  cases hg : mget m x with
  | none => simp
  | some n => exact h.sm _ (mget_some hg)
def J1 (f : XPlace → Int → Int) (cap : XPlace → Int) (m d : PM) (rest : PM) (s : List (XPlace × Bool) × PM) : Prop :=
  Ris s.2 ∧ s.1 = badL cap s.2 ∧ (rest.Pairwise fun a b => a.1 ≠ b.1) ∧ (∀ q ∈ rest, q ∈ m) ∧
  ∀ x, mget s.2 x = match mget m x with | some n => if x ∈ rest.map (·.1) then mget d x else some (f x n) | none => mget d x
theorem J1.next {f : XPlace → Int → Int} {cap : XPlace → Int} {m d r1 r2 : PM} {p : XPlace × Int} {s : List (XPlace × Bool) × PM} (hm : Ris m) (h : J1 f cap m d (r1 ++ p :: r2) s) {e : PM} {b : List (XPlace × Bool)}
    (he : Ris e) (hb : b = badL cap e) (hg : ∀ y, mget e y = if p.1 = y then some (f p.1 p.2) else mget s.2 y) : J1 f cap m d (r1 ++ r2) (b, e) := by
  obtain ⟨h1, h2, h3, h4, h5⟩ := h
  have hsub : (r1 ++ r2).Sublist (r1 ++ p :: r2) := List.Sublist.append (List.Sublist.refl _) (List.sublist_cons_self _ _)
  refine ⟨he, hb, h3.sublist hsub, fun q hq => h4 q (hsub.subset hq), fun x => ?_⟩
  have hp : mget m p.1 = some p.2 := mget_of hm (h4 p (by simp))
  have hnot : p.1 ∉ (r1 ++ r2).map (·.1) := by
    intro hc
    obtain ⟨q, hq, e⟩ := List.mem_map.1 hc
    rw [List.pairwise_append] at h3
    rcases List.mem_append.1 hq with hq | hq
    · exact h3.2.2 q hq p (List.mem_cons_self ..) e
    · exact (List.pairwise_cons.1 h3.2.1).1 q hq e.symm
  show mget e x = _
  rw [hg x]
  by_cases hx : p.1 = x
  · subst hx
    rw [if_pos rfl, hp]; simp only [hnot, if_false]
  · rw [if_neg hx, h5 x]
    have : x ∈ (r1 ++ p :: r2).map (·.1) ↔ x ∈ (r1 ++ r2).map (·.1) := by
      simp only [List.map_append, List.map_cons, List.mem_append, List.mem_cons]
      constructor
      · rintro (h | h | h)
        · exact .inl h
        · exact absurd h.symm hx
        · exact .inr h
      · rintro (h | h)
        · exact .inl h
        · exact .inr (.inr h)
    simp only [this]
theorem J1.at {f : XPlace → Int → Int} {cap : XPlace → Int} {m d r1 r2 : PM} {p : XPlace × Int} {s : List (XPlace × Bool) × PM} (hm : Ris m) (h : J1 f cap m d (r1 ++ p :: r2) s) : vl s.2 p.1 = vl d p.1 := by
  obtain ⟨h1, h2, h3, h4, h5⟩ := h
  have hp : mget m p.1 = some p.2 := mget_of hm (h4 p (by simp))
  have hmem : p.1 ∈ (r1 ++ p :: r2).map (·.1) := by simp
  unfold vl
  rw [h5 p.1, hp]; simp only [hmem, if_true]
section
variable {σ : Type} [DecidableEq σ] {t : XTable} (hc : ∀ x, 0 ≤ capT t x)
include hc
theorem addAll {K : List (XPlace × Bool) → PM → Option (Bool × List (XPlace × Bool) × PM × σ)} {m d : PM} (hm : GoodM t m) (hd : Ris d) (hb : ∀ x, 0 ≤ vl d x ∧ vl d x ≤ 1000000) :
    mrng2 (m76_reason_table__broken_1_B1 t) K m (badL (capT t) d) d = K (badL (capT t) (addD m d)) (addD m d) := by
  unfold mrng2
  refine mrng_inv (J1 (fun x n => vl d x + n) (capT t) m d) _ ?_ ?_ m (badL (capT t) d, d) ⟨hd, rfl, ris_ne hm.ris, fun q hq => hq, fun x => ?_⟩
  · rintro ⟨b, e⟩ ⟨h1, h2, _, _, h5⟩
    have : e = addD m d := mget_ext h1 (addD_ris hm.ris hd) fun x => by
      rw [addD_get hm.ris hd]; have h := h5 x; cases hg : mget m x with
      | none => rw [hg] at h; exact h
      | some n => rw [hg] at h; simpa using h
    simp only at h2
    rw [h2, this]
  · rintro r1 r2 ⟨x0, n0⟩ ⟨b, e⟩ sf h ih
    have hv : vl e x0 = vl d x0 := h.at hm.ris
    have hmem : (x0, n0) ∈ m := h.2.2.2.1 _ (by simp)
    have hpl := hm.pl _ hmem
    have hsm := hm.sm _ hmem
    have hbd := hb x0
    unfold m76_reason_table__broken_1_B1
    have hv' : (mget e x0).getD 0 = vl d x0 := hv
    have hw : IntKind.wrap .i64 (vl d x0 + n0) = vl d x0 + n0 := wrap_i64 (by simp only at hsm; omega) (by simp only at hsm; omega)
    simp only [hv', hw]
    rw [ck_eq hpl.1, ck_eq hpl.2]
    generalize hE : mput (mput e x0 (vl d x0)) x0 (vl d x0 + n0) = E
    have hER : Ris E := by rw [← hE]; exact mput_ris (mput_ris h.1 _ _) _ _
    have hEg : ∀ y, mget E y = if x0 = y then some (vl d x0 + n0) else mget e y := by
      intro y; rw [← hE, mget_put]; split
      · rfl
      · rw [mget_put, if_neg ‹_›]
    have hEv : (mget E x0).getD 0 = vl d x0 + n0 := by rw [hEg, if_pos rfl]; rfl
    have hEv2 : vl E x0 = vl d x0 + n0 := hEv
    rw [hEv]
    have hb0 : b = badL (capT t) e := h.2.1
    cases hcp : decide ((t.p.capacity.getD x0.leaf.toNat default).getD x0.cell.toNat default < vl d x0 + n0)
    · rw [cond_false]
      have hcp : ¬ (capT t x0 < vl d x0 + n0) := of_decide_eq_false hcp
      refine ih (b, E) (h.next hm.ris hER ?_ hEg)
      rw [hb0]
      refine mget_ext (badL_ris _ h.1) (badL_ris _ hER) fun y => ?_
      rw [badL_get _ hc h.1, badL_get _ hc hER]
      by_cases hy : x0 = y
      · subst hy
        simp only at hsm
        rw [hEv2, if_neg hcp, if_neg (by rw [hv]; omega)]
      · have : vl E y = vl e y := by unfold vl; rw [hEg, if_neg hy]
        rw [this]
    · rw [cond_true]
      have hcp : capT t x0 < vl d x0 + n0 := of_decide_eq_true hcp
      refine ih (mput b x0 true, E) (h.next hm.ris hER ?_ hEg)
      rw [hb0]
      refine mget_ext (mput_ris (badL_ris _ h.1) _ _) (badL_ris _ hER) fun y => ?_
      rw [mget_put, badL_get _ hc h.1, badL_get _ hc hER]
      by_cases hy : x0 = y
      · subst hy
        rw [hEv2, if_pos rfl, if_pos hcp]
      · have : vl E y = vl e y := by unfold vl; rw [hEg, if_neg hy]
        rw [this, if_neg hy]
  · show mget d x = _
    cases hg : mget m x with
    | none => rfl
    | some n =>
      have : x ∈ m.map (·.1) := List.mem_map.2 ⟨(x, n), mget_some hg, rfl⟩
      simp only [this, if_true]
theorem subAll {K : List (XPlace × Bool) → PM → Option (Bool × List (XPlace × Bool) × PM × σ)} {m d : PM} (hm : GoodM t m) (hd : Ris d) (hb : ∀ x, 0 ≤ vl d x ∧ vl d x ≤ 1000008) :
    mrng2 (m76_reason_table__broken_1_B2 t) K m (badL (capT t) d) d = K (badL (capT t) (subD m d)) (subD m d) := by
  unfold mrng2
  refine mrng_inv (J1 (fun x n => vl d x - n) (capT t) m d) _ ?_ ?_ m (badL (capT t) d, d) ⟨hd, rfl, ris_ne hm.ris, fun q hq => hq, fun x => ?_⟩
  · rintro ⟨b, e⟩ ⟨h1, h2, _, _, h5⟩
    have : e = subD m d := mget_ext h1 (subD_ris hm.ris hd) fun x => by
      rw [subD_get hm.ris hd]; have h := h5 x; cases hg : mget m x with
      | none => rw [hg] at h; exact h
      | some n => rw [hg] at h; simpa using h
    simp only at h2
    rw [h2, this]
  · rintro r1 r2 ⟨x0, n0⟩ ⟨b, e⟩ sf h ih
    have hv : vl e x0 = vl d x0 := h.at hm.ris
    have hmem : (x0, n0) ∈ m := h.2.2.2.1 _ (by simp)
    have hpl := hm.pl _ hmem
    have hsm := hm.sm _ hmem
    have hbd := hb x0
    unfold m76_reason_table__broken_1_B2
    have hv' : (mget e x0).getD 0 = vl d x0 := hv
    have hw : IntKind.wrap .i64 (vl d x0 - n0) = vl d x0 - n0 := wrap_i64 (by simp only at hsm; omega) (by simp only at hsm; omega)
    simp only [hv', hw]
    rw [ck_eq hpl.1, ck_eq hpl.2]
    generalize hE : mput (mput e x0 (vl d x0)) x0 (vl d x0 - n0) = E
    have hER : Ris E := by rw [← hE]; exact mput_ris (mput_ris h.1 _ _) _ _
    have hEg : ∀ y, mget E y = if x0 = y then some (vl d x0 - n0) else mget e y := by
      intro y; rw [← hE, mget_put]; split
      · rfl
      · rw [mget_put, if_neg ‹_›]
    have hEv : (mget E x0).getD 0 = vl d x0 - n0 := by rw [hEg, if_pos rfl]; rfl
    have hEv2 : vl E x0 = vl d x0 - n0 := hEv
    rw [hEv]
    have hb0 : b = badL (capT t) e := h.2.1
    cases hcp : decide (vl d x0 - n0 ≤ (t.p.capacity.getD x0.leaf.toNat default).getD x0.cell.toNat default)
    · rw [cond_false]
      have hcp : ¬ (vl d x0 - n0 ≤ capT t x0) := of_decide_eq_false hcp
      refine ih (b, E) (h.next hm.ris hER ?_ hEg)
      rw [hb0]
      refine mget_ext (badL_ris _ h.1) (badL_ris _ hER) fun y => ?_
      rw [badL_get _ hc h.1, badL_get _ hc hER]
      by_cases hy : x0 = y
      · subst hy
        simp only at hsm
        rw [hEv2, hv, if_pos (show capT t x0 < vl d x0 by omega), if_pos (show capT t x0 < vl d x0 - n0 by omega)]
      · have : vl E y = vl e y := by unfold vl; rw [hEg, if_neg hy]
        rw [this]
    · rw [cond_true]
      have hcp : vl d x0 - n0 ≤ capT t x0 := of_decide_eq_true hcp
      refine ih (mdel b x0, E) (h.next hm.ris hER ?_ hEg)
      rw [hb0]
      refine mget_ext (mdel_ris (badL_ris _ h.1) _) (badL_ris _ hER) fun y => ?_
      rw [mget_del, badL_get _ hc h.1, badL_get _ hc hER]
      by_cases hy : x0 = y
      · subst hy
        rw [hEv2, if_pos rfl, if_neg (by omega)]
      · have : vl E y = vl e y := by unfold vl; rw [hEg, if_neg hy]
        rw [this, if_neg hy]
  · show mget d x = _
    cases hg : mget m x with
    | none => rfl
    | some n =>
      have : x ∈ m.map (·.1) := List.mem_map.2 ⟨(x, n), mget_some hg, rfl⟩
      simp only [this, if_true]
end
end Go.Fx
/- Chapter 32: broken hands out the places that are not kept, for all ways. -/
set_option linter.unusedSimpArgs false
set_option linter.unusedVariables false
set_option maxRecDepth 100000
namespace Go.Fx
open Go Go.RowKit
/-- the sum of what stands at x -/
def sumW (w : List PM) (x : XPlace) : Int := (w.map fun m => vl m x).sum
theorem sumW_cons (m : PM) (w : List PM) (x : XPlace) : sumW (m :: w) x = vl m x + sumW w x := by simp [sumW]
section
variable {σ : Type} [DecidableEq σ] {t : XTable} (hc : ∀ x, 0 ≤ capT t x)
abbrev PhiB (t : XTable) (D : List (XPlace × Bool) → σ → Option (Bool × σ)) : (List Int → List (XPlace × Bool) → PM → σ → Option (Bool × List (XPlace × Bool) × PM × σ)) → List Int → List (XPlace × Bool) → PM → σ → Option (Bool × List (XPlace × Bool) × PM × σ) :=
  fun fx63 x64 d65 d66 s67 => m76_reason_table__broken_1 x64 D d65 t d66 fx63 s67
include hc
theorem brk (D : List (XPlace × Bool) → σ → Option (Bool × σ)) (hu : ∀ ms ∈ t.uses, ms.length < 9223372036854775807 ∧ ∀ m ∈ ms, GoodM t m) :
    ∀ (l : List Int) (fuel : Nat) (M : Int) (d : PM) (s0 : σ) (g : List PM → List (XPlace × Bool)), l.length < fuel → l.length < 9223372036854775807 → (∀ v ∈ l, 0 ≤ v ∧ v < (t.uses.length : Int)) → Ris d → (∀ x, 0 ≤ vl d x ∧ vl d x ≤ M) → M + 8 * (l.length : Int) ≤ 1000000 →
      (∀ w ∈ ways (l.map fun v => t.uses.getD v.toNat default), ∀ e, Ris e → (∀ x, vl e x = vl d x + sumW w x) → g w = badL (capT t) e) →
      ∀ r s', runB D ((ways (l.map fun v => t.uses.getD v.toNat default)).map g) s0 = some (r, s') →
        ∃ d', fix4 (PhiB t D) fuel l (badL (capT t) d) d s0 = some (r, badL (capT t) d', d', s') ∧ Ris d' ∧ ∀ x, vl d' x = vl d x := by
  intro l
  induction l with
  | nil =>
    intro fuel M d s0 g hf _ _ hd _ _ hg r s' hr
    obtain ⟨n, rfl⟩ : ∃ n, fuel = n + 1 := ⟨fuel - 1, by simp at hf; omega⟩
    refine ⟨d, ?_, hd, fun x => rfl⟩
    have e : g [] = badL (capT t) d := hg [] (by simp [ways]) d hd (fun x => by simp [sumW])
    simp only [List.map_nil, ways, List.map_cons, runB, e] at hr
    show m76_reason_table__broken_1 [] D (badL (capT t) d) t d _ s0 = _
    unfold m76_reason_table__broken_1
    simp only [List.length_nil, Int.natCast_zero, decide_true, cond_true]
    cases hD : D (badL (capT t) d) s0 with
    | none => rw [hD] at hr; cases hr
    | some q =>
      rw [hD] at hr
      simp only [Option.bind_some] at hr ⊢
      obtain ⟨a, b⟩ := q
      cases a
      · simp only [cond_false, Option.some.injEq, Prod.mk.injEq] at hr; obtain ⟨rfl, rfl⟩ := hr; rfl
      · simp only [cond_true, Option.some.injEq, Prod.mk.injEq] at hr; obtain ⟨rfl, rfl⟩ := hr; rfl
  | cons v l ih =>
    intro fuel M d s0 g hf hl64 hv hd hb hM hg r s' hr
    obtain ⟨n, rfl⟩ : ∃ n, fuel = n + 1 := ⟨fuel - 1, by simp at hf; omega⟩
    have hv0 := hv v (List.mem_cons_self ..)
    have hlt : v.toNat < t.uses.length := by omega
    obtain ⟨hmsl, hms⟩ := hu _ (List.getElem_mem hlt)
    have hget : t.uses.getD v.toNat default = t.uses[v.toNat] := getD_of (List.getElem?_eq_getElem hlt)
    show ∃ d', m76_reason_table__broken_1 (v :: l) D (badL (capT t) d) t d (fix4 (PhiB t D) n) s0 = _ ∧ _
    unfold m76_reason_table__broken_1
    have c0 : decide (((v :: l).length : Int) = 0) = false := by simp <;> omega
    rw [c0, cond_false]
    rw [ck_eq (by simp <;> omega), ck_eq (by simpa using hv0)]
    simp only [List.getD_cons_zero, hget]
    generalize hms0 : t.uses[v.toNat] = ms at *
    simp only [List.map_cons, hget, ways] at hr hg
    have hMl : M + 8 + 8 * (l.length : Int) ≤ 1000000 := by simp at hM; omega
    have loop : ∀ (rest : List PM) (i fl : Nat) (e : PM) (s : σ), ms.drop i = rest → i ≤ ms.length → rest.length < fl → Ris e → (∀ x, vl e x = vl d x) →
        runB D ((rest.flatMap fun m => (ways (l.map fun v => t.uses.getD v.toNat default)).map (m :: ·)).map g) s = some (r, s') →
        ∃ d', loop4 (m76_reason_table__broken_1_B0 (v :: l) t (fix4 (PhiB t D) n)) fl (i : Int) (badL (capT t) e) e s = some (r, badL (capT t) d', d', s') ∧ Ris d' ∧ ∀ x, vl d' x = vl d x := by
      intro rest
      induction rest with
      | nil =>
        intro i fl e s hdr hi hfl he hev hrun
        obtain ⟨k, rfl⟩ : ∃ k, fl = k + 1 := ⟨fl - 1, by simp at hfl; omega⟩
        have hil : i = ms.length := by have := congrArg List.length hdr; simp at this; omega
        simp only [List.flatMap_nil, List.map_nil, runB, Option.some.injEq, Prod.mk.injEq] at hrun
        obtain ⟨rfl, rfl⟩ := hrun
        refine ⟨e, ?_, he, hev⟩
        rw [loop4_succ, m76_reason_table__broken_1_B0]
        simp only [List.getD_cons_zero, hget, hms0, hil, ltE, cond_false]
      | cons m rest ihr =>
        intro i fl e s hdr hi hfl he hev hrun
        obtain ⟨k, rfl⟩ : ∃ k, fl = k + 1 := ⟨fl - 1, by simp at hfl; omega⟩
        have hil : i < ms.length := by have := congrArg List.length hdr; simp at this; omega
        have hmi : ms[i]? = some m := by rw [← List.head?_drop, hdr]; rfl
        have hdr2 : ms.drop (i + 1) = rest := by rw [← List.drop_drop, hdr]; rfl
        have hmm : m ∈ ms := ge0 hmi
        have hgm := hms m hmm
        rw [List.flatMap_cons, List.map_append, runB_append] at hrun
        rw [loop4_succ, m76_reason_table__broken_1_B0]
        simp only [List.getD_cons_zero, hget, hms0, ltBd hil, inBd hil, ck_True, cond_true, Int.toNat_natCast, getD_of hmi]
        rw [addAll hc hgm he (fun x => by rw [hev]; have := hb x; omega)]
        rw [m76_reason_table__broken_1_K1, ck_eq (by simp <;> omega)]
        simp only [List.getD_cons_zero, hget, hms0, Int.toNat_natCast, getD_of hmi]
        rw [show ((v :: l).drop 1).take ((v :: l).length - 1) = l by simp]
        cases hq : runB D (((ways (l.map fun v => t.uses.getD v.toNat default)).map (m :: ·)).map g) s with
        | none => rw [hq] at hrun; cases hrun
        | some q =>
          obtain ⟨r1, s1⟩ := q
          rw [hq] at hrun
          have hadd := fun x => addD_vl hgm.ris he x
          obtain ⟨d2, e1, e2, e3⟩ := ih n (M + 8) (addD m e) s (fun w => g (m :: w)) (by simp at hf; omega) (by simp at hl64; omega) (fun u hu => hv u (List.mem_cons_of_mem _ hu)) (addD_ris hgm.ris he)
            (fun x => by rw [hadd, hev]; have := hb x; have := hgm.vl x; omega) (by omega)
            (fun w hw f hf1 hf2 => hg (m :: w) (List.mem_flatMap.2 ⟨m, hmm, List.mem_map.2 ⟨w, hw, rfl⟩⟩) f hf1 fun x => by rw [hf2, hadd, hev, sumW_cons]; omega) r1 s1 (by rw [← hq, List.map_map]; rfl)
          rw [e1, Option.bind_some]
          simp only
          rw [subAll hc hgm e2 (fun x => by rw [e3, hadd, hev]; have := hb x; have := hgm.vl x; omega)]
          have hsub : ∀ x, vl (subD m d2) x = vl d x := fun x => by rw [subD_vl hgm.ris e2, e3, hadd, hev]; omega
          rw [m76_reason_table__broken_1_K2]
          simp only [Option.bind_some] at hrun
          cases r1
          · simp only [cond_false, Option.some.injEq, Prod.mk.injEq] at hrun
            obtain ⟨rfl, rfl⟩ := hrun
            exact ⟨subD m d2, rfl, subD_ris hgm.ris e2, hsub⟩
          · simp only [cond_true] at hrun
            simp only [Bool.not_true, cond_false]
            rw [wrapS (by omega)]
            exact ihr (i + 1) k (subD m d2) s1 hdr2 (by omega) (by simp at hfl; omega) (subD_ris hgm.ris e2) hsub hrun
    have hfin := loop ms 0 (((ms.length : Int) - 0).toNat + 1) d s0 rfl (by omega) (by omega) hd (fun x => rfl) hr
    exact hfin
/-- broken hands out, for each way, the places where more stands than there is room for -/
theorem m49_eq (D : List (XPlace × Bool) → σ → Option (Bool × σ)) (hu : ∀ ms ∈ t.uses, ms.length < 9223372036854775807 ∧ ∀ m ∈ ms, GoodM t m) {l : List Int} (hl : l.length ≤ 20) (hv : ∀ v ∈ l, 0 ≤ v ∧ v < (t.uses.length : Int)) {g : List PM → List (XPlace × Bool)}
    (hg : ∀ w ∈ ways (l.map fun v => t.uses.getD v.toNat default), ∀ e, Ris e → (∀ x, vl e x = sumW w x) → g w = badL (capT t) e) {s0 s' : σ} {r : Bool}
    (hr : runB D ((ways (l.map fun v => t.uses.getD v.toNat default)).map g) s0 = some (r, s')) : m49_reason_table__broken t l D s0 = some s' := by
  obtain ⟨fu, hfu⟩ : ∃ n : Nat, n = 1000000 := ⟨_, rfl⟩
  unfold m49_reason_table__broken
  rw [← hfu]
  obtain ⟨d', h1, h2, h3⟩ := brk hc D hu l fu 0 [] s0 g (by omega) (by omega) hv List.Pairwise.nil (fun x => by simp [vl, mget]) (by omega) (fun w hw e he hx => hg w hw e he fun x => by rw [hx]; simp [vl, mget]) r s' hr
  have e : badL (capT t) [] = [] := rfl
  rw [e] at h1
  show (fix4 (PhiB t D) fu l [] [] s0).bind _ = _
  rw [h1]; rfl
end
end Go.Fx
/- Chapter 32: the table of a problem. -/
set_option linter.unusedSimpArgs false
set_option linter.unusedVariables false
set_option maxRecDepth 100000
namespace Go.Fx
open Go Go.RowKit
theorem adj_pairwise {α : Type} {lt : α → α → Bool} (ht : ∀ a b c, lt a b = true → lt b c = true → lt a c = true) : ∀ {l : List α}, adj lt l = true → l.Pairwise fun a b => lt a b = true
  | [], _ => List.Pairwise.nil
  | [a], _ => List.pairwise_singleton ..
  | a :: b :: l, h => by
    simp only [adj, Bool.and_eq_true] at h
    have ih := adj_pairwise ht h.2
    refine List.pairwise_cons.2 ⟨fun x hx => ?_, ih⟩
    rcases List.mem_cons.1 hx with rfl | hx
    · exact h.1
    · exact ht _ _ _ h.1 ((List.pairwise_cons.1 ih).1 x hx)
theorem cb_iff (a b : XCell) : cb a b = true ↔ (a.airport = b.airport ∧ (a.index < b.index ∨ (a.index = b.index ∧ a.minute < b.minute))) ∨ (a.airport = false ∧ b.airport = true) := by
  unfold cb
  by_cases e1 : a.airport = b.airport
  · rw [if_pos e1]
    by_cases f1 : a.index = b.index
    · rw [if_pos f1]; simp only [decide_eq_true_eq, e1, f1, true_and, Int.lt_irrefl, false_or]
      constructor
      · exact fun h => .inl h
      · rintro (h | h)
        · exact h
        · rw [h.1] at h; cases h.2
    · rw [if_neg f1]; simp only [decide_eq_true_eq, e1, f1, true_and, false_and, or_false]
      constructor
      · exact fun h => .inl h
      · rintro (h | h)
        · exact h
        · rw [h.1] at h; cases h.2
  · rw [if_neg e1]; simp only [e1, false_and, false_or]
    cases ha : a.airport <;> cases hb : b.airport <;> simp_all
theorem cb_trans (a b c : XCell) (h1 : cb a b = true) (h2 : cb b c = true) : cb a c = true := by
  rw [cb_iff] at *
  rcases h1 with ⟨e1, h1⟩ | ⟨e1, h1⟩ <;> rcases h2 with ⟨e2, h2⟩ | ⟨e2, h2⟩
  · exact .inl ⟨e1.trans e2, by omega⟩
  · exact .inr ⟨e1.trans e2, h2⟩
  · exact .inr ⟨e1, e2 ▸ h1⟩
  · rw [h1] at e2; cases e2
theorem cb_irrefl (a : XCell) : cb a a = false := by unfold cb; simp
theorem cb_ne {a b : XCell} (h : cb a b = true) : a ≠ b := fun e => by rw [e, cb_irrefl] at h; cases h
/-- where a cell stands -/
def ix (cells : List XCell) (c : XCell) : Int := match cells.findIdx? (fun x => decide (x = c)) with | none => (-1 : Int) | some k => (k : Int)
theorem ix_mem {cells : List XCell} {c : XCell} (h : c ∈ cells) : ∃ k : Nat, ix cells c = (k : Int) ∧ cells[k]? = some c := by
  unfold ix
  cases hf : cells.findIdx? (fun x => decide (x = c)) with
  | none =>
    rw [List.findIdx?_eq_none_iff] at hf
    have := hf c h; simp at this
  | some k =>
    obtain ⟨hk, h1, _⟩ := List.findIdx?_eq_some_iff_getElem.1 hf
    exact ⟨k, rfl, by rw [List.getElem?_eq_getElem hk]; simpa using h1⟩
theorem ix_inj {cells : List XCell} {c d : XCell} (hc : c ∈ cells) (hd : d ∈ cells) (h : ix cells c = ix cells d) : c = d := by
  obtain ⟨k, e1, e2⟩ := ix_mem hc
  obtain ⟨j, e3, e4⟩ := ix_mem hd
  have : k = j := by omega
  subst this
  rw [e2] at e4; exact Option.some.inj e4
theorem ix_at {cells : List XCell} (hn : cells.Nodup) {k : Nat} {c : XCell} (h : cells[k]? = some c) : ix cells c = (k : Int) := by
  obtain ⟨j, e1, e2⟩ := ix_mem (ge0 h)
  rw [e1]
  have h1 : k < cells.length := (List.getElem?_eq_some_iff.1 h).1
  have h2 : j < cells.length := (List.getElem?_eq_some_iff.1 e2).1
  have h3 : cells[k] = c := (List.getElem?_eq_some_iff.1 h).2
  have h4 : cells[j] = c := (List.getElem?_eq_some_iff.1 e2).2
  have hp := List.pairwise_iff_getElem.1 hn
  rcases Nat.lt_trichotomy k j with hlt | he | hlt
  · exact absurd (h3.trans h4.symm) (hp k j h1 h2 hlt)
  · omega
  · exact absurd (h4.trans h3.symm) (hp j k h2 h1 hlt)
/-- what is known of a valid problem -/
structure Prob (p : XProblem) : Prop where
  cells : p.cells.Nodup
  row : ∀ r ∈ p.capacity, r.length = p.cells.length ∧ ∀ k ∈ r, 0 ≤ k ∧ k ≤ 4096
  leaf : ∀ v ∈ p.variables, ∀ k ∈ v.leaves, 0 ≤ k ∧ k < (p.capacity.length : Int)
  lnd : ∀ v ∈ p.variables, v.leaves.Nodup
  ch : ∀ v ∈ p.variables, 1 ≤ v.choices.length
  use : ∀ v ∈ p.variables, ∀ c ∈ v.choices, ∀ u ∈ c.uses, u.cell ∈ p.cells ∧ 1 ≤ u.places ∧ u.places ≤ 8
  und : ∀ v ∈ p.variables, ∀ c ∈ v.choices, c.uses.Pairwise fun a b => a.cell ≠ b.cell
  cap : 1 ≤ p.capacity.length
theorem Prob.of {p : XProblem} (h : okProb p = true) : Prob p := by
  unfold okProb at h
  simp only [Bool.and_eq_true, List.all_eq_true, okRow, okVar, okChoice, okUse, within, decide_eq_true_eq, Bool.not_eq_true', decide_eq_false_iff_not] at h
  obtain ⟨h1, h2, h3, h4, h5, h6⟩ := h
  refine ⟨?_, fun r hr => ⟨(h5 r hr).1, fun k hk => (h5 r hr).2 k hk⟩, fun v hv k hk => ?_, fun v hv => ?_, fun v hv => ?_, fun v hv c hc u hu => ?_, fun v hv c hc => ?_, by omega⟩
  · exact (adj_pairwise cb_trans h4.2).imp fun h => cb_ne h
  · have := (h6 v hv).2.2.1.1 k hk; omega
  · exact (adj_pairwise (lt := fun x y : Int => decide (x < y)) (by intro a b c; simp; omega) (h6 v hv).2.2.1.2).imp fun h => by simp at h; omega
  · have := (h6 v hv).2.1; omega
  · have := ((h6 v hv).2.2.2 c hc).2.2.2.1 u hu; exact ⟨this.1, this.2.1, this.2.2⟩
  · exact (adj_pairwise (lt := fun x y : XUse => cb x.cell y.cell) (fun _ _ _ h1 h2 => cb_trans _ _ _ h1 h2) ((h6 v hv).2.2.2 c hc).2.2.2.2).imp fun h => cb_ne h
/-- the places that a choice takes -/
def tabM (p : XProblem) (v : XVariable) (c : XChoice) : PM := c.uses.foldl (fun m u => v.leaves.foldl (fun m k => mput m ⟨k, ix p.cells u.cell⟩ u.places) m) []
def tabU (p : XProblem) : List (List PM) := p.variables.map fun v => v.choices.map fun c => tabM p v c
theorem m42_eq {p : XProblem} (hp : smXProblem p) (hs : Small p) (hk : Prob p) : m42_reason_tabled p = some ⟨p, tabU p⟩ := by
  unfold m42_reason_tabled
  have vars : ∀ map_1 : List (XCell × Int), (∀ c ∈ p.cells, (mget map_1 c).getD 0 = ix p.cells c) →
      loop2 (m42_reason_tabled_B1 p map_1) (((p.variables.length : Int) - 0).toNat + 1) 0 ([] : List (List PM)) = some ⟨p, tabU p⟩ := by
    intro map_1 hm
    refine (up_listA (B := m42_reason_tabled_B1 p map_1) (fuel := ((p.variables.length : Int) - 0).toNat + 1) (s := ([] : List (List PM))) (fun i (s : List (List PM)) => s.length = i) (fun _ t s => some (⟨p, s ++ t.map fun v => v.choices.map fun c => tabM p v c⟩ : XTable)) p.variables (sm_len hp.2.2) ?_ ?_ (by omega) rfl).trans (by simp [tabU])
    · intro sf s _; unfold m42_reason_tabled_B1; simp
    · intro sf i s v tv a1 a2 a3 a4 ih
      have hv := ge0 a2
      have sv := hs.var v hv
      unfold m42_reason_tabled_B1
      simp only [Int.toNat_natCast, getD_of a2, ltBd a1, inBd a1, ck_True, cond_true]
      refine (up_listB (B := m42_reason_tabled_B2 p map_1 (i : Int) s sf) (fuel := ((v.choices.length : Int) - 0).toNat + 1) (s := ([] : List PM)) (fun i (s : List PM) => s.length = i) (fun _ t l => some (⟨p, (s ++ [l ++ t.map fun c => tabM p v c]) ++ tv.map fun v => v.choices.map fun c => tabM p v c⟩ : XTable)) v.choices (by omega) ?_ ?_ (by omega) rfl).trans (by simp)
      · intro sf2 l e
        unfold m42_reason_tabled_B2
        simp only [Int.toNat_natCast, getD_of a2, ltE, cond_false]
        rw [ck_eq (by have := hs.vars; simp; omega), a3, ih _ (by simp [a4])]
        simp
      · intro sf2 j l c tc b1 b2 b3 b4 ih2
        have hc := ge0 b2
        have sc := sv.2.2 c hc
        unfold m42_reason_tabled_B2
        simp only [Int.toNat_natCast, getD_of a2, getD_of b2, ltBd b1, inBd b1, ck_True, cond_true]
        refine (up_listA (B := m42_reason_tabled_B3 p map_1 (i : Int) l (j : Int) sf2) (fuel := ((c.uses.length : Int) - 0).toNat + 1) (s := ([] : PM)) (fun _ _ => True) (fun _ t m => some (⟨p, (s ++ [(l ++ [t.foldl (fun m u => v.leaves.foldl (fun m k => mput m ⟨k, ix p.cells u.cell⟩ u.places) m) m]) ++ tc.map fun c => tabM p v c]) ++ tv.map fun v => v.choices.map fun c => tabM p v c⟩ : XTable)) c.uses (by omega) ?_ ?_ (by omega) trivial).trans (by simp [tabM])
        · intro sf3 m _
          unfold m42_reason_tabled_B3
          simp only [Int.toNat_natCast, getD_of a2, getD_of b2, ltE, cond_false]
          rw [ck_eq (by simp; omega), b3, ih2 _ (by simp [b4])]
          simp
        · intro sf3 k m u tu d1 d2 d3 _ ih3
          have hu := hk.use v hv c hc u (ge0 d2)
          unfold m42_reason_tabled_B3
          simp only [Int.toNat_natCast, getD_of a2, getD_of b2, getD_of d2, ltBd d1, inBd d1, ck_True, cond_true]
          refine (up_listA (B := m42_reason_tabled_B4 p map_1 (i : Int) (j : Int) (k : Int) sf3) (fuel := ((v.leaves.length : Int) - 0).toNat + 1) (s := m) (fun _ _ => True) (fun _ t m => some (⟨p, (s ++ [(l ++ [tu.foldl (fun m u => v.leaves.foldl (fun m k => mput m ⟨k, ix p.cells u.cell⟩ u.places) m) (t.foldl (fun m k => mput m ⟨k, ix p.cells u.cell⟩ u.places) m)]) ++ tc.map fun c => tabM p v c]) ++ tv.map fun v => v.choices.map fun c => tabM p v c⟩ : XTable)) v.leaves (by omega) ?_ ?_ (by omega) trivial).trans (by simp)
          · intro sf4 m' _
            unfold m42_reason_tabled_B4
            simp only [Int.toNat_natCast, getD_of a2, ltE, cond_false]
            rw [d3, ih3 _ trivial]; rfl
          · intro sf4 q m' lf tl f1 f2 f3 _ ih4
            unfold m42_reason_tabled_B4
            simp only [Int.toNat_natCast, getD_of a2, getD_of b2, getD_of d2, getD_of f2, ltBd f1, inBd f1, ck_True, cond_true, hm _ hu.1]
            rw [f3, ih4 _ trivial]; rfl
  refine up_listA (B := m42_reason_tabled_B0 p) (fuel := ((p.cells.length : Int) - 0).toNat + 1) (s := ([] : List (XCell × Int))) (fun i s => ∀ j c, j < i → p.cells[j]? = some c → mget s c = some (j : Int)) (fun _ _ _ => some ⟨p, tabU p⟩) p.cells (sm_len hp.1) ?_ ?_ (by omega) (fun j c h => by omega)
  · intro sf s hI
    unfold m42_reason_tabled_B0
    rw [vars s ?_]
    · simp only [ltE, cond_false]
    · intro c hc
      obtain ⟨k, e1, e2⟩ := ix_mem hc
      rw [hI k c (List.getElem?_eq_some_iff.1 e2).1 e2, e1]; rfl
  · intro sf i s c t e1 e2 e3 hI ih
    unfold m42_reason_tabled_B0
    simp only [Int.toNat_natCast, getD_of e2, ltBd e1, inBd e1, ck_True, cond_true]
    rw [e3]
    refine ih _ fun j c' hj hc' => ?_
    rw [mget_put]
    by_cases h : c = c'
    · subst h
      rw [if_pos rfl]
      have := ix_at hk.cells e2; have := ix_at hk.cells hc'
      congr 1; omega
    · rw [if_neg h]
      refine hI j c' ?_ hc'
      rcases Nat.lt_or_ge j i with hlt | hge
      · exact hlt
      · have : j = i := by omega
        subst this; rw [e2] at hc'; exact absurd (Option.some.inj hc') h
end Go.Fx
namespace Go.Fx
open Go Go.RowKit Go.Proofs
end Go.Fx
/- Chapter 32: a problem is the same as itself; what a part is made of. -/
set_option linter.unusedSimpArgs false
set_option linter.unusedVariables false
set_option maxRecDepth 100000
namespace Go.Fx
open Go Go.RowKit
theorem getD_sm {α : Type} [Inhabited α] {S : α → Prop} {l : List α} (h : ∀ x ∈ l, S x) (hd : S default) (i : Nat) : S (l.getD i default) := by
  cases hx : l[i]? with
  | none => rw [List.getD, hx]; exact hd
  | some x => rw [getD_of hx]; exact h x (ge0 hx)
theorem sm_part {p : XProblem} {r : XReason} (hp : smXProblem p) (hr : smXReason r) (hs : Small p) (hi : ∀ i ∈ r.variables, 0 ≤ i ∧ i < (p.variables.length : Int)) : smXProblem (partOf p r) := by
  have z : InK .i64 (default : Int) := by show InK .i64 0; decide
  refine ⟨hp.1, ?_, ⟨by simp only [partOf, List.length_map]; exact hr.1.1, fun v hv => ?_⟩⟩
  · have main : ∀ (l : List XPlace) (rows : List (List Int)), Rect p.capacity.length p.cells.length rows → (∀ r ∈ rows, ∀ k ∈ r, InK .i64 k) →
        Rect p.capacity.length p.cells.length (l.foldl (put1 p) rows) ∧ ∀ r ∈ l.foldl (put1 p) rows, ∀ k ∈ r, InK .i64 k := by
      intro l
      induction l with
      | nil => intro rows h1 h2; exact ⟨h1, h2⟩
      | cons y t ih =>
        intro rows h1 h2
        refine ih _ (h1.put y) fun r hr k hk => ?_
        unfold put1 at hr
        rcases List.mem_or_eq_of_mem_set hr with h | h
        · exact h2 r h k hk
        · rw [h] at hk
          rcases List.mem_or_eq_of_mem_set hk with h3 | h3
          · exact getD_sm (S := fun r => ∀ k ∈ r, InK .i64 k) h2 (by intro k hk; cases hk) y.leaf.toNat k h3
          · rw [h3]; exact getD_sm (getD_sm (S := fun r => ∀ k ∈ r, InK .i64 k) (fun r hr => (hp.2.1.2 r hr).2) (by intro k hk; cases hk) _) z _
    obtain ⟨h1, h2⟩ := main r.places (blank p) (Rect.blank p) (by
      intro r hr k hk
      rw [blank] at hr; rw [List.eq_of_mem_replicate hr] at hk; rw [List.eq_of_mem_replicate hk]; decide)
    have a1 := hs.caps
    have a2 := hs.cells
    exact ⟨by show List.length (r.places.foldl (put1 p) (blank p)) ≤ _; rw [h1.1]; omega, fun row hrow => ⟨by rw [h1.2 row hrow]; omega, h2 row hrow⟩⟩
  · simp only [partOf, List.mem_map] at hv
    obtain ⟨i, h1, rfl⟩ := hv
    have := hi i h1
    rw [getD_of (List.getElem?_eq_getElem (show i.toNat < p.variables.length by omega))]
    exact hp.2.2.2 _ (List.getElem_mem _)
end Go.Fx
/- Chapter 32: Proves, said plainly. -/
set_option linter.unusedSimpArgs false
set_option linter.unusedVariables false
set_option maxRecDepth 100000
namespace Go.Fx
open Go Go.RowKit
/-- what a choice takes of cell k -/
def useS (p : XProblem) (c : XChoice) (k : Int) : Int := (c.uses.map fun u => if ix p.cells u.cell = k then u.places else 0).sum
def takes (p : XProblem) (x : XPlace) (vc : XVariable × XChoice) : Int := if x.leaf ∈ vc.1.leaves then useS p vc.2 x.cell else 0
/-- what is taken of a place -/
def dem (p : XProblem) (w : List (XVariable × XChoice)) (x : XPlace) : Int := (w.map (takes p x)).sum
def capP (p : XProblem) (x : XPlace) : Int := (p.capacity.getD x.leaf.toNat default).getD x.cell.toNat default
theorem leaves_fold (q n : Int) : ∀ (ls : List Int) (m : PM), Ris m → Ris (ls.foldl (fun m k => mput m (⟨k, q⟩ : XPlace) n) m) ∧
    (∀ x : XPlace, vl (ls.foldl (fun m k => mput m (⟨k, q⟩ : XPlace) n) m) x = if x.leaf ∈ ls ∧ x.cell = q then n else vl m x) ∧
    ∀ e ∈ ls.foldl (fun m k => mput m (⟨k, q⟩ : XPlace) n) m, e ∈ m ∨ (e.1.leaf ∈ ls ∧ e.1.cell = q ∧ e.2 = n)
  | [], m, h => ⟨h, fun x => by simp, fun e he => .inl he⟩
  | k :: ls, m, h => by
    obtain ⟨h1, h2, h3⟩ := leaves_fold q n ls (mput m ⟨k, q⟩ n) (mput_ris h _ _)
    refine ⟨h1, fun x => ?_, fun e he => ?_⟩
    · rw [List.foldl_cons, h2 x, vl_put]
      by_cases hq : x.cell = q
      · by_cases hl : x.leaf ∈ ls
        · simp [hq, hl]
        · by_cases hk : x.leaf = k
          · have : (⟨k, q⟩ : XPlace) = x := by cases x; simp_all
            simp [hq, hl, hk, this]
          · have : (⟨k, q⟩ : XPlace) ≠ x := fun e => hk (by rw [← e])
            simp [hq, hl, hk, this]
      · have : (⟨k, q⟩ : XPlace) ≠ x := fun e => hq (by rw [← e])
        simp [hq, this]
    · rw [List.foldl_cons] at he
      rcases h3 e he with h4 | ⟨h4, h5, h6⟩
      · rcases (mput_mem h _ _ e).1 h4 with h5 | h5
        · right; subst h5; simp
        · exact .inl h5.1
      · exact .inr ⟨List.mem_cons_of_mem _ h4, h5, h6⟩
theorem uses_fold (p : XProblem) (ls : List Int) : ∀ (us : List XUse) (m : PM), Ris m → (∀ u ∈ us, u.cell ∈ p.cells) → (us.Pairwise fun a b => a.cell ≠ b.cell) → (∀ u ∈ us, ∀ k, vl m ⟨k, ix p.cells u.cell⟩ = 0) →
    Ris (us.foldl (fun m u => ls.foldl (fun m k => mput m ⟨k, ix p.cells u.cell⟩ u.places) m) m) ∧
    (∀ x : XPlace, vl (us.foldl (fun m u => ls.foldl (fun m k => mput m ⟨k, ix p.cells u.cell⟩ u.places) m) m) x = vl m x + if x.leaf ∈ ls then (us.map fun u => if ix p.cells u.cell = x.cell then u.places else 0).sum else 0) ∧
    ∀ e ∈ us.foldl (fun m u => ls.foldl (fun m k => mput m ⟨k, ix p.cells u.cell⟩ u.places) m) m, e ∈ m ∨ ∃ u ∈ us, e.1.leaf ∈ ls ∧ e.1.cell = ix p.cells u.cell ∧ e.2 = u.places
  | [], m, h, _, _, _ => ⟨h, fun x => by simp, fun e he => .inl he⟩
  | u :: us, m, h, hc, hp, hz => by
    obtain ⟨g1, g2, g3⟩ := leaves_fold (ix p.cells u.cell) u.places ls m h
    rw [List.pairwise_cons] at hp
    have hz' : ∀ u' ∈ us, ∀ k, vl (ls.foldl (fun m k => mput m ⟨k, ix p.cells u.cell⟩ u.places) m) ⟨k, ix p.cells u'.cell⟩ = 0 := by
      intro u' hu' k
      rw [g2]
      have : ix p.cells u'.cell ≠ ix p.cells u.cell := fun e => hp.1 u' hu' (ix_inj (hc u' (List.mem_cons_of_mem _ hu')) (hc u (List.mem_cons_self ..)) e).symm
      simp only [this, and_false, if_false]
      exact hz u' (List.mem_cons_of_mem _ hu') k
    obtain ⟨h1, h2, h3⟩ := uses_fold p ls us _ g1 (fun u hu => hc u (List.mem_cons_of_mem _ hu)) hp.2 hz'
    refine ⟨h1, fun x => ?_, fun e he => ?_⟩
    · rw [List.foldl_cons, h2 x, g2 x, List.map_cons, List.sum_cons]
      by_cases hl : x.leaf ∈ ls
      · by_cases hq : x.cell = ix p.cells u.cell
        · have : vl m x = 0 := by have := hz u (List.mem_cons_self ..) x.leaf; rw [← hq] at this; exact this
          simp only [hl, hq, and_self, if_true, this]; omega
        · have : ¬ (ix p.cells u.cell = x.cell) := fun e => hq e.symm
          simp only [hl, hq, and_false, if_false, this, if_true]; omega
      · simp only [hl, false_and, if_false]
    · rw [List.foldl_cons] at he
      rcases h3 e he with h4 | ⟨u', h4, h5⟩
      · rcases g3 e h4 with h5 | h5
        · exact .inl h5
        · exact .inr ⟨u, List.mem_cons_self .., h5⟩
      · exact .inr ⟨u', List.mem_cons_of_mem _ h4, h5⟩
theorem row_len {p : XProblem} (hk : Prob p) {k : Int} (h0 : 0 ≤ k) (h1 : k < (p.capacity.length : Int)) : (p.capacity.getD k.toNat default).length = p.cells.length := by
  rw [getD_of (List.getElem?_eq_getElem (show k.toNat < p.capacity.length by omega))]
  exact (hk.row _ (List.getElem_mem _)).1
theorem tab_good {p : XProblem} (hk : Prob p) {v : XVariable} (hv : v ∈ p.variables) {c : XChoice} (hc : c ∈ v.choices) (U : List (List PM)) : GoodM ⟨p, U⟩ (tabM p v c) ∧ ∀ x, vl (tabM p v c) x = takes p x (v, c) := by
  obtain ⟨h1, h2, h3⟩ := uses_fold p v.leaves c.uses [] List.Pairwise.nil (fun u hu => (hk.use v hv c hc u hu).1) (hk.und v hv c hc) (fun u hu k => rfl)
  refine ⟨⟨h1, fun q hq => ?_, fun q hq => ?_⟩, fun x => ?_⟩
  · obtain h | ⟨u, hu, e1, e2, e3⟩ := h3 q hq
    · cases h
    · have hl := hk.leaf v hv _ e1
      refine ⟨hl, ?_⟩
      show (0 : Int) ≤ q.1.cell ∧ q.1.cell < ((p.capacity.getD q.1.leaf.toNat default).length : Int)
      rw [row_len hk hl.1 hl.2, e2]
      obtain ⟨k, f1, f2⟩ := ix_mem (hk.use v hv c hc u hu).1
      have := (List.getElem?_eq_some_iff.1 f2).1
      omega
  · obtain h | ⟨u, hu, e1, e2, e3⟩ := h3 q hq
    · cases h
    · have := (hk.use v hv c hc u hu).2; omega
  · rw [show vl (tabM p v c) x = _ from h2 x]
    simp [vl, mget, takes, useS]
theorem ways_map {α β : Type} (f : α → β) : ∀ L : List (List α), ways (L.map (List.map f)) = (ways L).map (List.map f)
  | [] => rfl
  | l :: L => by
    simp only [List.map_cons, ways, ways_map f L, List.flatMap_map, List.map_flatMap, List.map_map]
    rfl
theorem mem_ways {α : Type} : ∀ {L : List (List α)} {w : List α}, w ∈ ways L → ∀ a ∈ w, ∃ l ∈ L, a ∈ l
  | [], w, h, a, ha => by simp [ways] at h; subst h; cases ha
  | l :: L, w, h, a, ha => by
    simp only [ways, List.mem_flatMap, List.mem_map] at h
    obtain ⟨m, hm, w', hw', rfl⟩ := h
    rcases List.mem_cons.1 ha with rfl | ha
    · exact ⟨l, List.mem_cons_self .., hm⟩
    · obtain ⟨l', h1, h2⟩ := mem_ways hw' a ha
      exact ⟨l', List.mem_cons_of_mem _ h1, h2⟩
/-- the choices of some variables, each with its variable -/
def pairsOf (p : XProblem) (l : List Int) : List (List (XVariable × XChoice)) := l.map fun i => (p.variables.getD i.toNat default).choices.map fun c => (p.variables.getD i.toNat default, c)
theorem mem_pairs {p : XProblem} {l : List Int} (hl : ∀ i ∈ l, 0 ≤ i ∧ i < (p.variables.length : Int)) {w : List (XVariable × XChoice)} (hw : w ∈ ways (pairsOf p l)) : ∀ vc ∈ w, vc.1 ∈ p.variables ∧ vc.2 ∈ vc.1.choices := by
  intro vc hvc
  obtain ⟨q, h1, h2⟩ := mem_ways hw vc hvc
  obtain ⟨i, hi, rfl⟩ := List.mem_map.1 h1
  obtain ⟨c, hc, rfl⟩ := List.mem_map.1 h2
  have := hl i hi
  refine ⟨?_, hc⟩
  show p.variables.getD i.toNat default ∈ p.variables
  rw [getD_of (List.getElem?_eq_getElem (show i.toNat < p.variables.length by omega))]
  exact List.getElem_mem _
theorem tabU_get {p : XProblem} {l : List Int} (hl : ∀ i ∈ l, 0 ≤ i ∧ i < (p.variables.length : Int)) : (l.map fun v => (tabU p).getD v.toNat default) = (pairsOf p l).map (List.map fun vc => tabM p vc.1 vc.2) := by
  unfold pairsOf
  rw [List.map_map]
  refine List.map_congr_left fun i hi => ?_
  have hlt : i.toNat < p.variables.length := by have := hl i hi; omega
  simp only [Function.comp, List.map_map]
  rw [getD_of (List.getElem?_eq_getElem hlt), tabU, getD_of (l := p.variables.map _) (x := p.variables[i.toNat].choices.map fun c => tabM p p.variables[i.toNat] c) (by rw [List.getElem?_map, List.getElem?_eq_getElem hlt]; rfl)]
  rfl
theorem cap_nonneg {p : XProblem} (hk : Prob p) (x : XPlace) : 0 ≤ capP p x := by
  unfold capP
  have : ∀ k ∈ p.capacity.getD x.leaf.toNat default, 0 ≤ k := getD_sm (S := fun r : List Int => ∀ k ∈ r, 0 ≤ k) (fun r hr k hkk => ((hk.row r hr).2 k hkk).1) (by intro k h; cases h) _
  exact getD_sm (S := fun k : Int => 0 ≤ k) this (by show (0 : Int) ≤ 0; omega) _
/-- broken over the table of a problem -/
theorem broken_eq {σ : Type} [DecidableEq σ] {p : XProblem} (hk : Prob p) (hs : Small p) {l : List Int} (hl : l.length ≤ 20) (hi : ∀ i ∈ l, 0 ≤ i ∧ i < (p.variables.length : Int)) (D : List (XPlace × Bool) → σ → Option (Bool × σ))
    {G : List (XVariable × XChoice) → List (XPlace × Bool)} (hG : ∀ w ∈ ways (pairsOf p l), ∀ e, Ris e → (∀ x, vl e x = dem p w x) → G w = badL (capP p) e) {s0 s' : σ} {r : Bool}
    (hr : runB D ((ways (pairsOf p l)).map G) s0 = some (r, s')) : m49_reason_table__broken ⟨p, tabU p⟩ l D s0 = some s' := by
  have hadd : ∀ w : List PM, (∀ m ∈ w, Ris m) → ∀ d, Ris d → Ris (w.foldl (fun d m => addD m d) d) ∧ ∀ x, vl (w.foldl (fun d m => addD m d) d) x = vl d x + sumW w x := by
    intro w
    induction w with
    | nil => intro _ d hd; exact ⟨hd, fun x => by simp [sumW]⟩
    | cons m w ih =>
      intro hm d hd
      obtain ⟨h1, h2⟩ := ih (fun m h => hm m (List.mem_cons_of_mem _ h)) (addD m d) (addD_ris (hm m (List.mem_cons_self ..)) hd)
      exact ⟨h1, fun x => by rw [List.foldl_cons, h2, addD_vl (hm m (List.mem_cons_self ..)) hd, sumW_cons]; omega⟩
  have hsum : ∀ w ∈ ways (pairsOf p l), ∀ x, sumW (w.map fun vc => tabM p vc.1 vc.2) x = dem p w x := by
    intro w hw x
    unfold sumW dem
    rw [List.map_map]
    congr 1
    refine List.map_congr_left fun vc hvc => ?_
    obtain ⟨h1, h2⟩ := mem_pairs hi hw vc hvc
    exact (tab_good hk h1 h2 (tabU p)).2 x
  have hris : ∀ w ∈ ways (pairsOf p l), ∀ m ∈ w.map (fun vc => tabM p vc.1 vc.2), Ris m := by
    intro w hw m hm
    obtain ⟨vc, hvc, rfl⟩ := List.mem_map.1 hm
    obtain ⟨h1, h2⟩ := mem_pairs hi hw vc hvc
    exact (tab_good hk h1 h2 (tabU p)).1.ris
  have hw : ways (l.map fun v => (tabU p).getD v.toNat default) = (ways (pairsOf p l)).map (List.map fun vc => tabM p vc.1 vc.2) := by rw [tabU_get hi, ways_map]
  refine m49_eq (t := ⟨p, tabU p⟩) (cap_nonneg hk) D ?_ hl ?_ (g := fun w => badL (capP p) (w.foldl (fun d m => addD m d) [])) ?_ (r := r) ?_
  · intro ms hms
    obtain ⟨v, hv, rfl⟩ := List.mem_map.1 hms
    refine ⟨by rw [List.length_map]; have := (hs.var v hv).2.1; omega, fun m hm => ?_⟩
    obtain ⟨c, hc, rfl⟩ := List.mem_map.1 hm
    exact (tab_good hk hv hc _).1
  · intro v hv; have := hi v hv; simpa [tabU] using this
  · intro w hww e he hx
    rw [hw] at hww
    obtain ⟨w', hw', rfl⟩ := List.mem_map.1 hww
    obtain ⟨h1, h2⟩ := hadd _ (hris w' hw') [] List.Pairwise.nil
    exact badL_ext _ (cap_nonneg hk) h1 he fun x => by rw [h2, hx]; simp [vl, mget]
  · rw [hw, List.map_map, ← hr]
    congr 1
    refine List.map_congr_left fun w' hw' => ?_
    obtain ⟨h1, h2⟩ := hadd _ (hris w' hw') [] List.Pairwise.nil
    exact (hG w' hw' _ h1 fun x => by rw [h2, hsum w' hw']; simp [vl, mget]).symm
theorem m77_any (s : List XPlace) (hl : s.length < 9223372036854775807) (f : XPlace → Option Bool) (h : XPlace → Bool) (hf : ∀ x ∈ s, f x = some (h x)) : m51_api_Place_ s f = some (s.any h) := by
  unfold m51_api_Place_ m77_api_Place_
  have key : ∃ i : Int, loop1 (m77_api_Place__B0 s f) (((s.length : Int) - 0).toNat + 1) 0 = some i ∧ decide (0 ≤ i) = s.any h := by
    rw [up_listI (B := m77_api_Place__B0 s f) (fun i t => some (match t.findIdx? h with | none => (-1 : Int) | some k => ((i + k : Nat) : Int))) s hl ?_ ?_ (by omega)]
    · refine ⟨_, rfl, ?_⟩
      cases hc : s.findIdx? h with
      | none =>
        rw [List.findIdx?_eq_none_iff] at hc
        have : s.any h = false := by rw [List.any_eq_false]; intro x hx; simpa using hc x hx
        simp [this]
      | some k =>
        have : s.any h = true := by
          rw [List.any_eq_true]
          obtain ⟨hk, h1, _⟩ := List.findIdx?_eq_some_iff_getElem.1 hc
          exact ⟨s[k], List.getElem_mem hk, by simpa using h1⟩
        simp [this]
    · intro sf; unfold m77_api_Place__B0; simp
    · intro sf i x t h1 h2 h3 ih
      unfold m77_api_Place__B0
      simp only [ltBd h1, inBd h1, ck_True, Int.toNat_natCast, getD_of h2, hf x (ge0 h2), Option.bind_some, h3, cond_true, List.findIdx?_cons]
      cases hw : h x
      · simp only [cond_false, Bool.false_eq_true, if_false]
        rw [ih]
        cases t.findIdx? h with
        | none => rfl
        | some k => simp; omega
      · simp
  obtain ⟨i, h1, h2⟩ := key
  rw [h1, Option.bind_some, h2]
/-- every way breaks one of the places -/
def provesB (p : XProblem) (r : XReason) : Bool := (ways (pairsOf p r.variables)).all fun w => r.places.any fun x => decide (capP p x < dem p w x)
theorem m17_eq {p : XProblem} {r : XReason} (hp : smXProblem p) (hr : smXReason r) (hs : Small p) (hv : r.variables.length ≤ 20) :
    m17_reason_Proves p r = some (bif okProb p then (bif okReason p r then (provesB p r, 0) else (false, 320)) else (false, 270)) := by
  unfold m17_reason_Proves
  rw [m23_eq hp hr]
  cases h1 : okProb p
  · rfl
  cases h2 : okReason p r
  · rfl
  have hk := Prob.of h1
  obtain ⟨i1, i2, i3, i4⟩ := reason_idx h2
  simp only [cond_true, Option.bind_some, ne_eq, not_true_eq_false, decide_false, cond_false]
  rw [m42_eq hp hs hk, Option.bind_some]
  let P : List (XVariable × XChoice) → Bool := fun w => r.places.any fun x => decide (capP p x < dem p w x)
  have hD : ∀ w e, Ris e → (∀ x, vl e x = dem p w x) → ∀ s, m50_reason_Proves_1 (badL (capP p) e) r s = some (P w, P w) := by
    intro w e he hx s
    unfold m50_reason_Proves_1
    rw [m77_any r.places (sm_len hr.2) _ (fun x => decide (capP p x < dem p w x)) (fun x _ => by
      unfold m52_reason_Proves_1_1
      rw [badL_get _ (cap_nonneg hk) he, hx]
      by_cases hlt : capP p x < dem p w x <;> simp [hlt])]
    rfl
  have hex : ∀ w ∈ ways (pairsOf p r.variables), ∃ e, Ris e ∧ ∀ x, vl e x = dem p w x := by
    intro w hw
    have : ∀ w' : List (XVariable × XChoice), (∀ vc ∈ w', vc.1 ∈ p.variables ∧ vc.2 ∈ vc.1.choices) → ∃ e, Ris e ∧ ∀ x, vl e x = dem p w' x := by
      intro w'
      induction w' with
      | nil => intro _; exact ⟨[], List.Pairwise.nil, fun x => by simp [vl, mget, dem]⟩
      | cons vc w' ih =>
        intro h
        obtain ⟨e, e1, e2⟩ := ih fun vc hvc => h vc (List.mem_cons_of_mem _ hvc)
        obtain ⟨a1, a2⟩ := h vc (List.mem_cons_self ..)
        obtain ⟨g1, g2⟩ := tab_good hk a1 a2 []
        refine ⟨addD (tabM p vc.1 vc.2) e, addD_ris g1.ris e1, fun x => ?_⟩
        rw [addD_vl g1.ris e1, e2, g2, show (vc.1, vc.2) = vc from rfl]
        simp only [dem, List.map_cons, List.sum_cons]; omega
    exact this w (mem_pairs i1 hw)
  let G : List (XVariable × XChoice) → List (XPlace × Bool) := fun w => if h : w ∈ ways (pairsOf p r.variables) then badL (capP p) (hex w h).choose else []
  have hG : ∀ w ∈ ways (pairsOf p r.variables), ∀ e, Ris e → (∀ x, vl e x = dem p w x) → G w = badL (capP p) e := by
    intro w hw e he hx
    have := (hex w hw).choose_spec
    show (if h : w ∈ ways (pairsOf p r.variables) then badL (capP p) (hex w h).choose else []) = _
    rw [dif_pos hw]
    exact badL_ext _ (cap_nonneg hk) this.1 he fun x => by rw [this.2, hx]
  have hrun : ∀ L : List (List (XVariable × XChoice)), (∀ w ∈ L, w ∈ ways (pairsOf p r.variables)) → runB (fun xs s => m50_reason_Proves_1 xs r s) (L.map G) true = some (L.all P, L.all P) := by
    intro L
    induction L with
    | nil => intro _; rfl
    | cons w L ih =>
      intro h
      obtain ⟨e, e1, e2⟩ := hex w (h w (List.mem_cons_self ..))
      simp only [List.map_cons, runB, hG w (h w (List.mem_cons_self ..)) e e1 e2, hD w e e1 e2, Option.bind_some, List.all_cons]
      cases P w
      · rfl
      · simp only [cond_true, Bool.true_and]; exact ih fun w hw => h w (List.mem_cons_of_mem _ hw)
  rw [broken_eq hk hs hv i1 _ hG (hrun _ fun w hw => hw)]
  rfl
end Go.Fx
/- Chapter 32: all choices of some variables, one after another. -/
set_option linter.unusedSimpArgs false
set_option linter.unusedVariables false
set_option maxRecDepth 100000
namespace Go.Fx
open Go Go.RowKit
/-- the next choices, written backwards: the first one turns fastest -/
def nr : List Int → List Int → Option (List Int)
  | n :: ns, a :: t => if a + 1 < n then some ((a + 1) :: t) else (nr ns t).map (0 :: ·)
  | _, _ => none
def upTo (n : Int) : List Int := (List.range n.toNat).map fun k : Nat => (k : Int)
/-- all choices, written backwards, in order -/
def allR : List Int → List (List Int)
  | [] => [[]]
  | n :: ns => (allR ns).flatMap fun t => (upTo n).map (· :: t)
/-- each leads to the next, the last to none -/
def Enum {α : Type} (f : α → Option α) : List α → Prop
  | [] => True
  | [a] => f a = none
  | a :: b :: t => f a = some b ∧ Enum f (b :: t)
theorem enum_append {α : Type} {f : α → Option α} : ∀ {l : List α} {b : α} {m : List α}, (∀ (h : l ≠ []), f (l.getLast h) = some b) → (l ≠ [] → ∀ l1 x y l2, l = l1 ++ x :: y :: l2 → f x = some y) → Enum f (b :: m) → Enum f (l ++ b :: m)
  | [], b, m, _, _, h => h
  | [a], b, m, h1, _, h => ⟨h1 (by simp), h⟩
  | a :: c :: t, b, m, h1, h2, h => ⟨h2 (by simp) [] a c t rfl, enum_append (l := c :: t) (fun hn => by have := h1 (by simp); simpa using this) (fun _ l1 x y l2 e => h2 (by simp) (a :: l1) x y l2 (by rw [e]; rfl)) h⟩
theorem enum_last {α : Type} {f : α → Option α} : ∀ {l : List α}, (∀ (h : l ≠ []), f (l.getLast h) = none) → (∀ l1 x y l2, l = l1 ++ x :: y :: l2 → f x = some y) → Enum f l
  | [], _, _ => trivial
  | [a], h, _ => h (by simp)
  | a :: c :: t, h1, h2 => ⟨h2 [] a c t rfl, enum_last (l := c :: t) (fun hn => by have := h1 (by simp); simpa using this) (fun l1 x y l2 e => h2 (a :: l1) x y l2 (by rw [e]; rfl))⟩
theorem upTo_ne {n : Int} (h : 1 ≤ n) : upTo n ≠ [] := by
  unfold upTo; intro e; have := congrArg List.length e; simp at this; omega
theorem upTo_mem {n a : Int} : a ∈ upTo n ↔ 0 ≤ a ∧ a < n := by
  unfold upTo
  simp only [List.mem_map, List.mem_range]
  constructor
  · rintro ⟨k, hk, rfl⟩; omega
  · rintro ⟨h1, h2⟩; exact ⟨a.toNat, by omega, by omega⟩
theorem upTo_last {n : Int} (h : 1 ≤ n) : (upTo n).getLast (upTo_ne h) = n - 1 := by
  rw [List.getLast_eq_getElem]
  simp only [upTo, List.getElem_map, List.getElem_range, List.length_map, List.length_range]
  omega
theorem upTo_step {n : Int} {l1 l2 : List Int} {x y : Int} (h : upTo n = l1 ++ x :: y :: l2) : y = x + 1 ∧ y < n := by
  have hx : (upTo n)[l1.length]? = some x := by rw [h]; simp
  have hy : (upTo n)[l1.length + 1]? = some y := by rw [h]; simp [List.getElem?_append]
  unfold upTo at hx hy
  rw [List.getElem?_map] at hx hy
  have hlen : l1.length + 1 < n.toNat := by
    rcases Nat.lt_or_ge (l1.length + 1) n.toNat with h | h
    · exact h
    · rw [List.getElem?_eq_none (by simpa using h)] at hy; cases hy
  rw [List.getElem?_range (by omega)] at hx hy
  simp at hx hy
  omega
theorem upTo_head {n : Int} (h : 1 ≤ n) : ∃ t, upTo n = 0 :: t := by
  unfold upTo
  obtain ⟨k, hk⟩ : ∃ k, n.toNat = k + 1 := ⟨n.toNat - 1, by omega⟩
  rw [hk, List.range_succ_eq_map]; exact ⟨_, rfl⟩
theorem allR_enum : ∀ {ns : List Int}, (∀ n ∈ ns, 1 ≤ n) → Enum (nr ns) (allR ns) ∧ ∃ t, allR ns = (ns.map fun _ => (0 : Int)) :: t
  | [], _ => ⟨rfl, [], rfl⟩
  | n :: ns, h => by
    obtain ⟨h1, t, h2⟩ := allR_enum (ns := ns) fun m hm => h m (List.mem_cons_of_mem _ hm)
    have hn := h n (List.mem_cons_self ..)
    refine ⟨?_, ?_⟩
    · have main : ∀ L : List (List Int), Enum (nr ns) L → Enum (nr (n :: ns)) (L.flatMap fun t => (upTo n).map (· :: t)) := by
        intro L
        induction L with
        | nil => intro _; trivial
        | cons a L ih =>
          intro hL
          have inner : ∀ l1 x y l2, (upTo n).map (· :: a) = l1 ++ x :: y :: l2 → nr (n :: ns) x = some y := by
            intro l1 x y l2 e
            obtain ⟨m1, m2, e1, rfl, e2⟩ := List.map_eq_append_iff.1 e
            obtain ⟨u, m3, rfl, rfl, e3⟩ := List.map_eq_cons_iff.1 e2
            obtain ⟨v, m4, rfl, rfl, rfl⟩ := List.map_eq_cons_iff.1 e3
            have := upTo_step e1
            simp only [nr]
            rw [if_pos (by omega), this.1]
          have last : ∀ hne : (upTo n).map (· :: a) ≠ [], nr (n :: ns) (((upTo n).map (· :: a)).getLast hne) = (nr ns a).map (0 :: ·) := by
            intro hne
            rw [List.getLast_map, upTo_last hn]
            simp only [nr]
            rw [if_neg (by omega)]
          cases L with
          | nil =>
            rw [List.flatMap_cons, List.flatMap_nil, List.append_nil]
            refine enum_last (fun hne => ?_) inner
            rw [last hne, show nr ns a = none from hL]; rfl
          | cons b L =>
            have ih' := ih hL.2
            obtain ⟨z, hz⟩ := upTo_head hn
            have e2 : ((b :: L).flatMap fun t => (upTo n).map (· :: t)) = (0 :: b) :: (z.map (· :: b) ++ L.flatMap fun t => (upTo n).map (· :: t)) := by
              rw [List.flatMap_cons, hz]; rfl
            rw [List.flatMap_cons, e2]
            rw [e2] at ih'
            refine enum_append (fun hne => ?_) (fun _ => inner) ih'
            rw [last hne, hL.1]; rfl
      exact main _ h1
    · obtain ⟨z, hz⟩ := upTo_head hn
      rw [allR, h2, List.flatMap_cons, hz]
      exact ⟨_, rfl⟩
/-- choices that are there -/
def Fit : List Int → List Int → Prop
  | [], [] => True
  | a :: c, n :: ns => (0 ≤ a ∧ a < n) ∧ Fit c ns
  | _, _ => False
theorem mem_allR : ∀ {ns c : List Int}, c ∈ allR ns ↔ Fit c ns
  | [], [] => by simp [allR, Fit]
  | [], a :: c => by simp [allR, Fit]
  | n :: ns, [] => by simp [allR, Fit]
  | n :: ns, a :: c => by
    simp only [allR, List.mem_flatMap, List.mem_map, Fit]
    constructor
    · rintro ⟨t, ht, b, hb, e⟩
      obtain ⟨rfl, rfl⟩ := List.cons.inj e
      exact ⟨upTo_mem.1 hb, mem_allR.1 ht⟩
    · rintro ⟨h1, h2⟩
      exact ⟨c, mem_allR.2 h2, a, upTo_mem.2 h1, rfl⟩
theorem Fit.length : ∀ {c ns : List Int}, Fit c ns → c.length = ns.length
  | [], [], _ => rfl
  | a :: c, n :: ns, h => by simp [Fit.length h.2]
  | [], n :: ns, h => h.elim
  | a :: c, [], h => h.elim
end Go.Fx
namespace Go.Fx
open Go Go.RowKit Go.Proofs
end Go.Fx
/- Chapter 32: the next choices. -/
set_option linter.unusedSimpArgs false
set_option linter.unusedVariables false
set_option maxRecDepth 100000
namespace Go.Fx
open Go Go.RowKit
/-- how many choices each variable has -/
def cnV (vs : List XVariable) : List Int := vs.map fun v => (v.choices.length : Int)
def zs (k : Nat) : List Int := List.replicate k 0
theorem cnV_take {vs : List XVariable} {i : Nat} {v : XVariable} (h : vs[i]? = some v) : (cnV (vs.take (i + 1))).reverse = (v.choices.length : Int) :: (cnV (vs.take i)).reverse := by
  unfold cnV
  rw [List.take_add_one, h]; simp
theorem at_mid {u z : List Int} {a : Int} : (u ++ a :: z)[u.length]? = some a := by simp
theorem set_mid' {u z : List Int} {a b : Int} {n : Nat} (h : n = u.length) : (u ++ a :: z).set n b = u ++ b :: z := by subst h; simp
/-- what the next choices are -/
def nextOf (p : XProblem) (c : List Int) : Option (List Int) := (nr (cnV p.variables).reverse c.reverse).map List.reverse
theorem m16_loop {p : XProblem} (ch : List Int) : ∀ (t : List Int) (k fuel : Nat), t.length ≤ p.variables.length → t.length + k = ch.length → t.length ≤ 1000 → (∀ a ∈ t, -1 ≤ a ∧ a < 1000000) → t.length < fuel →
    loop2 (m16_overflightlaw32_next_B0 p ch) fuel ((t.length : Int) - 1) (t.reverse ++ zs k) = some (match nr (cnV (p.variables.take t.length)).reverse t with | some c => (true, c.reverse ++ zs k) | none => (false, zs (t.length + k))) := by
  intro t
  induction t with
  | nil =>
    intro k fuel _ _ _ _ hf
    obtain ⟨n, rfl⟩ : ∃ n, fuel = n + 1 := ⟨fuel - 1, by simp at hf; omega⟩
    rw [loop2_succ]; unfold m16_overflightlaw32_next_B0
    simp [cnV, nr]
  | cons a t ih =>
    intro k fuel h1 hk h2 h3 hf
    obtain ⟨n, rfl⟩ : ∃ n, fuel = n + 1 := ⟨fuel - 1, by simp at hf; omega⟩
    simp only [List.length_cons] at h1 h2 hf hk
    have hlt : t.length < p.variables.length := by omega
    have hv : p.variables[t.length]? = some p.variables[t.length] := List.getElem?_eq_getElem hlt
    have ha := h3 a (List.mem_cons_self ..)
    have e0 : (((a :: t).length : Nat) : Int) - 1 = (t.length : Int) := by simp
    have er : (a :: t).reverse ++ zs k = t.reverse ++ a :: zs k := by simp
    have el : t.length = t.reverse.length := by simp
    rw [e0, er, loop2_succ, m16_overflightlaw32_next_B0]
    have g1 : (t.reverse ++ a :: zs k).getD t.length default = a := by exact getD_of (by rw [el]; exact at_mid)
    have hw : IntKind.wrap .i64 (a + 1) = a + 1 := wrap_i64 (by omega) (by omega)
    have g2 : (t.reverse ++ a :: zs k).set t.length (a + 1) = t.reverse ++ (a + 1) :: zs k := set_mid' el
    have g3 : (t.reverse ++ (a + 1) :: zs k).getD t.length default = a + 1 := by exact getD_of (by rw [el]; exact at_mid)
    have g4 : (t.reverse ++ (a + 1) :: zs k).set t.length 0 = t.reverse ++ 0 :: zs k := set_mid' el
    have b1 : ((0 : Int) ≤ (t.length : Int) ∧ (t.length : Int) < (ch.length : Int) ∧ (t.length : Int) < ((t.reverse ++ a :: zs k).length : Int)) = True := by
      refine eq_true ⟨by omega, by omega, ?_⟩; simp only [List.length_append, List.length_reverse, List.length_cons]; omega
    have b2 : ((0 : Int) ≤ (t.length : Int) ∧ (t.length : Int) < (ch.length : Int) ∧ (t.length : Int) < ((t.reverse ++ (a + 1) :: zs k).length : Int)) = True := by
      refine eq_true ⟨by omega, by omega, ?_⟩; simp only [List.length_append, List.length_reverse, List.length_cons]; omega
    have c0 : decide ((0 : Int) ≤ (t.length : Int)) = true := by simp
    simp only [Int.toNat_natCast]
    simp only [g1, hw, g2, g3, g4, b1, b2, c0, ck_True, cond_true, inBd hlt, Int.toNat_natCast, getD_of hv]
    rw [show (a :: t).length = t.length + 1 from rfl, cnV_take hv]
    simp only [nr]
    by_cases hn : a + 1 < (p.variables[t.length].choices.length : Int)
    · simp only [hn, decide_true, cond_true, if_true]; simp
    · simp only [hn, decide_false, cond_false, if_false]
      rw [show IntKind.wrap .i64 ((t.length : Int) - 1) = (t.length : Int) - 1 from wrap_i64 (by omega) (by omega)]
      rw [show t.reverse ++ 0 :: zs k = t.reverse ++ zs (k + 1) by rw [zs, zs, List.replicate_succ]]
      rw [ih (k + 1) n (by omega) (by omega) (by omega) (fun b hb => h3 b (List.mem_cons_of_mem _ hb)) (by omega)]
      cases nr (cnV (p.variables.take t.length)).reverse t with
      | none => simp only [Option.map_none]; rw [show t.length + (k + 1) = t.length + 1 + k by omega]
      | some c => simp [zs, List.replicate_succ]
theorem m16_eq {p : XProblem} (ch : List Int) (hl : ch.length = p.variables.length) (hs : p.variables.length ≤ 1000) (hb : ∀ a ∈ ch, -1 ≤ a ∧ a < 1000000) :
    m16_overflightlaw32_next p ch = some (match nextOf p ch with | some c => (true, c) | none => (false, zs ch.length)) := by
  obtain ⟨fu, hfu⟩ : ∃ n : Nat, n = 1000000 := ⟨_, rfl⟩
  unfold m16_overflightlaw32_next
  rw [← hfu]
  have := m16_loop (p := p) ch ch.reverse 0 fu (by simp; omega) (by simp) (by simp; omega) (fun a ha => hb a (by simpa using ha)) (by simp; omega)
  simp only [List.length_reverse, List.reverse_reverse, zs, List.replicate_zero, List.append_nil, Nat.add_zero] at this
  rw [show IntKind.wrap .i64 ((ch.length : Int) - 1) = (ch.length : Int) - 1 from wrap_i64 (by omega) (by omega), this]
  unfold nextOf
  rw [hl, List.take_length]
  cases nr (cnV p.variables).reverse ch.reverse with
  | none => simp [zs]
  | some c => rfl
end Go.Fx
namespace Go.Fx
open Go Go.RowKit Go.Proofs
end Go.Fx
/- Chapter 32: the reference's demand. -/
set_option linter.unusedSimpArgs false
set_option linter.unusedVariables false
set_option maxRecDepth 100000
namespace Go.Fx
open Go Go.RowKit
/-- the variables with what is chosen -/
def wayOf (p : XProblem) (ch : List Int) : List (XVariable × XChoice) := List.zipWith (fun v a => (v, v.choices.getD a.toNat default)) p.variables ch
theorem fit_get : ∀ {vs : List XVariable} {ch : List Int}, Fit ch (cnV vs) → ∀ {i : Nat} {v : XVariable}, vs[i]? = some v → ∃ a, ch[i]? = some a ∧ 0 ≤ a ∧ a < (v.choices.length : Int)
  | [], _, _, i, v, h => by simp at h
  | w :: vs, [], hf, _, _, _ => by simp [cnV, Fit] at hf
  | w :: vs, a :: ch, hf, 0, v, h => by
    simp only [cnV, List.map_cons, Fit] at hf
    simp at h; subst h
    exact ⟨a, rfl, hf.1.1, hf.1.2⟩
  | w :: vs, a :: ch, hf, i + 1, v, h => by
    simp only [cnV, List.map_cons, Fit] at hf
    obtain ⟨b, h1, h2⟩ := fit_get (vs := vs) hf.2 (i := i) (v := v) (by simpa using h)
    exact ⟨b, by simpa using h1, h2⟩
theorem way_get {p : XProblem} {ch : List Int} (hf : Fit ch (cnV p.variables)) {i : Nat} {vc : XVariable × XChoice} (h : (wayOf p ch)[i]? = some vc) :
    p.variables[i]? = some vc.1 ∧ ∃ a, ch[i]? = some a ∧ 0 ≤ a ∧ a < (vc.1.choices.length : Int) ∧ vc.1.choices.getD a.toNat default = vc.2 ∧ vc.2 ∈ vc.1.choices := by
  unfold wayOf at h
  rw [List.getElem?_zipWith] at h
  cases hv : p.variables[i]? with
  | none => rw [hv] at h; simp at h
  | some v =>
    obtain ⟨a, h1, h2, h3⟩ := fit_get hf hv
    rw [hv, h1] at h
    simp at h
    subst h
    refine ⟨rfl, a, h1, h2, h3, by simp [List.getD], ?_⟩
    rw [← List.getD_eq_getElem?_getD, getD_of (List.getElem?_eq_getElem (show a.toNat < v.choices.length by omega))]
    exact List.getElem_mem _
theorem way_len {p : XProblem} {ch : List Int} (hf : Fit ch (cnV p.variables)) : (wayOf p ch).length = ch.length ∧ ch.length = p.variables.length := by
  have := hf.length
  simp [cnV] at this
  refine ⟨?_, this⟩
  unfold wayOf; simp; omega
theorem way_mem {p : XProblem} {ch : List Int} (hf : Fit ch (cnV p.variables)) {vc : XVariable × XChoice} (h : vc ∈ wayOf p ch) : vc.1 ∈ p.variables ∧ vc.2 ∈ vc.1.choices := by
  obtain ⟨i, hi, e⟩ := List.getElem_of_mem h
  have := way_get hf (i := i) (vc := vc) (by rw [List.getElem?_eq_getElem hi, e])
  exact ⟨ge0 this.1, by obtain ⟨a, _, _, _, _, h⟩ := this.2; exact h⟩
/-- part of what a choice takes -/
theorem use_bound {p : XProblem} (us : List XUse) (k : Int) (hu : ∀ u ∈ us, 1 ≤ u.places ∧ u.places ≤ 8) : 0 ≤ (us.map fun u => if ix p.cells u.cell = k then u.places else 0).sum ∧ (us.map fun u => if ix p.cells u.cell = k then u.places else 0).sum ≤ 8 * (us.length : Int) := by
  induction us with
  | nil => simp
  | cons u us ih =>
    have h1 := ih fun u h => hu u (List.mem_cons_of_mem _ h)
    have h2 := hu u (List.mem_cons_self ..)
    simp only [List.map_cons, List.sum_cons, List.length_cons]
    split <;> omega
theorem takes_bound {p : XProblem} (hk : Prob p) (hs : Small p) {vc : XVariable × XChoice} (h1 : vc.1 ∈ p.variables) (h2 : vc.2 ∈ vc.1.choices) (x : XPlace) : 0 ≤ takes p x vc ∧ takes p x vc ≤ 96 := by
  unfold takes useS
  have h3 := use_bound (p := p) vc.2.uses x.cell fun u hu => (hk.use _ h1 _ h2 u hu).2
  have h4 := (hs.var _ h1).2.2 _ h2
  split <;> omega
theorem dem_bound {p : XProblem} (hk : Prob p) (hs : Small p) (x : XPlace) : ∀ {w : List (XVariable × XChoice)}, (∀ vc ∈ w, vc.1 ∈ p.variables ∧ vc.2 ∈ vc.1.choices) → 0 ≤ dem p w x ∧ dem p w x ≤ 96 * (w.length : Int)
  | [], _ => by simp [dem]
  | vc :: w, h => by
    have h1 := dem_bound hk hs x (w := w) fun vc hvc => h vc (List.mem_cons_of_mem _ hvc)
    obtain ⟨a, b⟩ := h vc (List.mem_cons_self ..)
    have h2 := takes_bound hk hs a b x
    simp only [dem, List.map_cons, List.sum_cons, List.length_cons] at *
    omega
/-- what is taken of the cells of a leaf -/
def demL (p : XProblem) (w : List (XVariable × XChoice)) (leaf : Int) : List Int := (List.range p.cells.length).map fun k : Nat => dem p w ⟨leaf, (k : Int)⟩
theorem list_ext_getD {l m : List Int} (h1 : l.length = m.length) (h : ∀ k, k < l.length → l.getD k default = m.getD k default) : l = m := by
  refine List.ext_getElem h1 fun k a b => ?_
  have := h k a
  rw [getD_of (List.getElem?_eq_getElem a), getD_of (List.getElem?_eq_getElem b)] at this
  exact this
theorem demL_get {p : XProblem} {w : List (XVariable × XChoice)} {leaf : Int} {k : Nat} (h : k < p.cells.length) : (demL p w leaf).getD k default = dem p w ⟨leaf, (k : Int)⟩ := by
  refine getD_of ?_
  unfold demL
  rw [List.getElem?_map, List.getElem?_range h]; rfl
theorem set_getD {l : List Int} {i j : Nat} {a : Int} (hi : i < l.length) : (l.set i a).getD j default = if i = j then a else l.getD j default := by
  by_cases h : i = j
  · subst h
    rw [if_pos rfl]; exact getD_of (by rw [List.getElem?_set_self hi])
  · rw [if_neg h, List.getD, List.getElem?_set_ne h]; rfl
end Go.Fx
/- Chapter 32: the reference's Overloads. -/
set_option linter.unusedSimpArgs false
set_option linter.unusedVariables false
set_option maxRecDepth 100000
namespace Go.Fx
open Go Go.RowKit
section
variable {R α σ : Type}
end
theorem demL_len (p : XProblem) (w : List (XVariable × XChoice)) (leaf : Int) : (demL p w leaf).length = p.cells.length := by simp [demL]
theorem row_get {p : XProblem} (hk : Prob p) {i : Nat} (hi : i < p.capacity.length) : (p.capacity.getD i default).length = p.cells.length := by
  rw [getD_of (List.getElem?_eq_getElem hi)]; exact (hk.row _ (List.getElem_mem hi)).1
/-- the places of a leaf where more is taken than there is -/
def overR (p : XProblem) (w : List (XVariable × XChoice)) (leaf : Nat) (ks : List Nat) : List XPlace := (ks.filter fun k : Nat => decide (capP p ⟨(leaf : Int), (k : Int)⟩ < dem p w ⟨(leaf : Int), (k : Int)⟩)).map fun k : Nat => (⟨(leaf : Int), (k : Int)⟩ : XPlace)
def overL (p : XProblem) (w : List (XVariable × XChoice)) : List XPlace := (List.range p.capacity.length).flatMap fun leaf => overR p w leaf (List.range p.cells.length)
end Go.Fx
namespace Go.Fx
open Go Go.RowKit Go.Proofs
end Go.Fx
/- Chapter 32: the reference's Proves says the same. -/
set_option linter.unusedSimpArgs false
set_option linter.unusedVariables false
set_option maxRecDepth 100000
namespace Go.Fx
open Go Go.RowKit
theorem mem_ways_iff : ∀ {vs : List XVariable} {w : List (XVariable × XChoice)}, w ∈ ways (vs.map fun v => v.choices.map fun c => (v, c)) ↔ ∃ ch, Fit ch (cnV vs) ∧ w = List.zipWith (fun v a => (v, v.choices.getD a.toNat default)) vs ch
  | [], w => by
    simp only [List.map_nil, ways, List.mem_singleton, cnV]
    constructor
    · rintro rfl; exact ⟨[], trivial, rfl⟩
    · rintro ⟨ch, h, rfl⟩; rfl
  | v :: vs, w => by
    simp only [List.map_cons, ways, List.mem_flatMap, List.mem_map, cnV]
    constructor
    · rintro ⟨_, ⟨c, hc, rfl⟩, t, ht, rfl⟩
      obtain ⟨ch, h1, rfl⟩ := mem_ways_iff.1 ht
      obtain ⟨i, hi, e⟩ := List.getElem_of_mem hc
      refine ⟨(i : Int) :: ch, ⟨⟨by omega, by omega⟩, h1⟩, ?_⟩
      rw [List.zipWith_cons_cons, Int.toNat_natCast, getD_of (List.getElem?_eq_getElem hi), e]
    · rintro ⟨ch, h, rfl⟩
      cases ch with
      | nil => exact h.elim
      | cons a ch =>
        refine ⟨(v, v.choices.getD a.toNat default), ⟨v.choices.getD a.toNat default, ?_, rfl⟩, _, mem_ways_iff.2 ⟨ch, h.2, rfl⟩, rfl⟩
        have := h.1
        rw [getD_of (List.getElem?_eq_getElem (show a.toNat < v.choices.length by omega))]
        exact List.getElem_mem _
theorem fit_reverse_app : ∀ {a b c d : List Int}, Fit a b → Fit c d → Fit (a ++ c) (b ++ d)
  | [], [], _, _, _, h => h
  | x :: a, y :: b, _, _, h1, h2 => ⟨h1.1, fit_reverse_app h1.2 h2⟩
  | [], _ :: _, _, _, h, _ => h.elim
  | _ :: _, [], _, _, h, _ => h.elim
theorem fit_reverse : ∀ {a b : List Int}, Fit a b → Fit a.reverse b.reverse
  | [], [], _ => trivial
  | x :: a, y :: b, h => by
    rw [List.reverse_cons, List.reverse_cons]
    exact fit_reverse_app (fit_reverse h.2) ⟨h.1, trivial⟩
  | [], _ :: _, h => h.elim
  | _ :: _, [], h => h.elim
/-- all ways, and all choices backwards -/
theorem all_ways {vs : List XVariable} (P : List (XVariable × XChoice) → Bool) :
    ((allR (cnV vs).reverse).all fun c => P (List.zipWith (fun v a => (v, v.choices.getD a.toNat default)) vs c.reverse)) = (ways (vs.map fun v => v.choices.map fun c => (v, c))).all P := by
  rw [Bool.eq_iff_iff, List.all_eq_true, List.all_eq_true]
  constructor
  · intro h w hw
    obtain ⟨ch, h1, rfl⟩ := mem_ways_iff.1 hw
    have := h ch.reverse (mem_allR.2 (fit_reverse h1))
    rwa [List.reverse_reverse] at this
  · intro h c hc
    have h1 := fit_reverse (mem_allR.1 hc)
    rw [List.reverse_reverse] at h1
    exact h _ (mem_ways_iff.2 ⟨c.reverse, h1, rfl⟩)
theorem allR_len : ∀ {ns : List Int}, (∀ n ∈ ns, n ≤ 8) → (allR ns).length ≤ 8 ^ ns.length
  | [], _ => by simp [allR]
  | n :: ns, h => by
    have ih := allR_len (ns := ns) fun m hm => h m (List.mem_cons_of_mem _ hm)
    have hn := h n (List.mem_cons_self ..)
    have hu : (upTo n).length ≤ 8 := by unfold upTo; simp; omega
    have : ∀ L : List (List Int), (L.flatMap fun t => (upTo n).map (· :: t)).length ≤ 8 * L.length := by
      intro L
      induction L with
      | nil => simp
      | cons a L ih => simp only [List.flatMap_cons, List.length_append, List.length_map, List.length_cons]; omega
    have := this (allR ns)
    rw [allR, List.length_cons, Nat.pow_succ]
    omega
theorem rising_aux : ∀ {l : List Int} {b n : Int}, l.Pairwise (fun a c => decide (a < c) = true) → (∀ i ∈ l, b ≤ i ∧ i < n) → b ≤ n → (l.length : Int) ≤ n - b
  | [], _, _, _, _, _ => by simp; omega
  | a :: l, b, n, h, hb, hn => by
    rw [List.pairwise_cons] at h
    have ha := hb a (List.mem_cons_self ..)
    have := rising_aux (b := a + 1) (n := n) h.2 (fun i hi => by have := h.1 i hi; have := hb i (List.mem_cons_of_mem _ hi); simp at *; omega) (by omega)
    simp only [List.length_cons]; omega
theorem rising_len {l : List Int} {n : Nat} (h1 : ∀ i ∈ l, 0 ≤ i ∧ i < (n : Int)) (h2 : adj (fun x y => decide (x < y)) l = true) : l.length ≤ n := by
  have hp := adj_pairwise (lt := fun x y : Int => decide (x < y)) (by intro a b c; simp; omega) h2
  have := rising_aux (b := 0) (n := (n : Int)) hp h1 (by omega)
  omega
/-! the part of a problem -/
theorem part_rows {p : XProblem} (hk : Prob p) : ∀ (l : List XPlace) (rows : List (List Int)), Rect p.capacity.length p.cells.length rows → (∀ x ∈ l, (0 ≤ x.leaf ∧ x.leaf < (p.capacity.length : Int)) ∧ 0 ≤ x.cell ∧ x.cell < (p.cells.length : Int)) →
    Rect p.capacity.length p.cells.length (l.foldl (put1 p) rows) ∧ ∀ x : XPlace, (0 ≤ x.leaf ∧ x.leaf < (p.capacity.length : Int)) → (0 ≤ x.cell ∧ x.cell < (p.cells.length : Int)) →
      ((l.foldl (put1 p) rows).getD x.leaf.toNat default).getD x.cell.toNat default = if x ∈ l then capP p x else (rows.getD x.leaf.toNat default).getD x.cell.toNat default
  | [], rows, h, _ => ⟨h, fun x _ _ => by simp⟩
  | y :: l, rows, h, hb => by
    obtain ⟨h1, h2⟩ := part_rows hk l (put1 p rows y) (h.put y) fun x hx => hb x (List.mem_cons_of_mem _ hx)
    refine ⟨h1, fun x hx1 hx2 => ?_⟩
    rw [List.foldl_cons, h2 x hx1 hx2]
    by_cases hm : x ∈ l
    · simp [hm]
    · rw [if_neg hm]
      have hy := hb y (List.mem_cons_self ..)
      have hyl : y.leaf.toNat < rows.length := by rw [h.1]; omega
      have hrow : (rows.getD y.leaf.toNat default).length = p.cells.length := by rw [getD_of (List.getElem?_eq_getElem hyl)]; exact h.2 _ (List.getElem_mem hyl)
      by_cases hl : x.leaf = y.leaf
      · have e1 : (put1 p rows y).getD x.leaf.toNat default = (rows.getD y.leaf.toNat default).set y.cell.toNat ((p.capacity.getD y.leaf.toNat default).getD y.cell.toNat default) := by
          rw [hl]; unfold put1; exact getD_of (by rw [List.getElem?_set_self hyl])
        rw [e1, set_getD (by rw [hrow]; omega)]
        by_cases hc : x.cell = y.cell
        · have : x = y := by cases x; cases y; simp_all
          rw [if_pos (by rw [hc]), if_pos (by rw [this]; exact List.mem_cons_self ..), this]; rfl
        · have hne : x ≠ y := fun e => hc (by rw [e])
          rw [if_neg (by omega), if_neg (by simp [hne, hm]), hl]
      · have hne : x ≠ y := fun e => hl (by rw [e])
        have e1 : (put1 p rows y).getD x.leaf.toNat default = rows.getD x.leaf.toNat default := by
          unfold put1; rw [List.getD, List.getElem?_set_ne (by omega)]; rfl
        rw [e1, if_neg (by simp [hne, hm])]
structure PartOk (p : XProblem) (r : XReason) : Prop where
  sm : smXProblem (partOf p r)
  small : Small (partOf p r)
  ok : okProb (partOf p r) = true
  cap : ∀ x : XPlace, (0 ≤ x.leaf ∧ x.leaf < (p.capacity.length : Int)) → (0 ≤ x.cell ∧ x.cell < (p.cells.length : Int)) → capP (partOf p r) x = if x ∈ r.places then capP p x else 4096
  capl : (partOf p r).capacity.length = p.capacity.length
theorem part_ok {p : XProblem} {r : XReason} (hp : smXProblem p) (hr : smXReason r) (hs : Small p) (h1 : okProb p = true) (h2 : okReason p r = true) : PartOk p r := by
  obtain ⟨i1, i2, i3, i4⟩ := reason_idx h2
  have hk := Prob.of h1
  obtain ⟨g1, g2⟩ := part_rows hk r.places (blank p) (Rect.blank p) i3
  have hcapl : (partOf p r).capacity.length = p.capacity.length := g1.1
  have hcap : ∀ x : XPlace, (0 ≤ x.leaf ∧ x.leaf < (p.capacity.length : Int)) → (0 ≤ x.cell ∧ x.cell < (p.cells.length : Int)) → capP (partOf p r) x = if x ∈ r.places then capP p x else 4096 := by
    intro x hx1 hx2
    refine (g2 x hx1 hx2).trans ?_
    have : ((blank p).getD x.leaf.toNat default).getD x.cell.toNat default = 4096 := by
      unfold blank
      rw [getD_of (l := List.replicate _ _) (by rw [List.getElem?_replicate, if_pos (by omega)]), getD_of (by rw [List.getElem?_replicate, if_pos (by omega)])]
    rw [this]
  have hmem : ∀ v ∈ (partOf p r).variables, v ∈ p.variables := by
    intro v hv
    obtain ⟨i, hi, rfl⟩ := List.mem_map.1 hv
    have := i1 i hi
    rw [getD_of (List.getElem?_eq_getElem (show i.toNat < p.variables.length by omega))]
    exact List.getElem_mem _
  have hvl : r.variables.length ≤ p.variables.length := rising_len i1 i2
  have hrl : ∀ row ∈ (partOf p r).capacity, row.length = p.cells.length := g1.2
  refine ⟨sm_part hp hr hs i1, ⟨hs.cells, by rw [hcapl]; exact hs.caps, ?_, fun row hrow => ?_, fun v hv => hs.var v (hmem v hv)⟩, ?_, hcap, hcapl⟩
  · show (r.variables.map _).length ≤ 6
    rw [List.length_map]; have := hs.vars; omega
  · rw [hrl row hrow]; have := hs.cells; omega
  · unfold okProb at h1 ⊢
    simp only [Bool.and_eq_true, List.all_eq_true, hcapl] at h1 ⊢
    obtain ⟨a1, a2, a3, a4, a5, a6⟩ := h1
    refine ⟨a1, a2, ?_, a4, fun row hrow => ?_, fun v hv => a6 v (hmem v hv)⟩
    · simp only [decide_eq_true_eq] at a3 ⊢
      show (r.variables.map _).length ≤ 64
      rw [List.length_map]; omega
    · unfold okRow
      simp only [Bool.and_eq_true, decide_eq_true_eq, List.all_eq_true, within]
      refine ⟨hrl row hrow, fun k hkk => ?_⟩
      obtain ⟨i, hi, e⟩ := List.getElem_of_mem hrow
      obtain ⟨j, hj, e'⟩ := List.getElem_of_mem hkk
      have hjl : j < p.cells.length := by rw [← hrl row hrow]; exact hj
      have hil : i < p.capacity.length := by rw [← hcapl]; exact hi
      have hv : capP (partOf p r) ⟨(i : Int), (j : Int)⟩ = k := by
        unfold capP
        simp only [Int.toNat_natCast]
        rw [getD_of (List.getElem?_eq_getElem hi), e, getD_of (List.getElem?_eq_getElem hj), e']
      rw [← hv, hcap _ (by simp only; omega) (by simp only; omega)]
      split
      · refine ⟨cap_nonneg hk _, ?_⟩
        unfold capP
        have hj2 : j < (p.capacity[i]).length := by rw [(hk.row _ (List.getElem_mem hil)).1]; exact hjl
        simp only [Int.toNat_natCast]
        rw [getD_of (List.getElem?_eq_getElem hil), getD_of (List.getElem?_eq_getElem hj2)]
        exact ((hk.row _ (List.getElem_mem hil)).2 _ (List.getElem_mem hj2)).2
      · omega
theorem overL_ne {p : XProblem} {w : List (XVariable × XChoice)} : overL p w ≠ [] ↔ ∃ i k : Nat, i < p.capacity.length ∧ k < p.cells.length ∧ capP p ⟨(i : Int), (k : Int)⟩ < dem p w ⟨(i : Int), (k : Int)⟩ := by
  unfold overL overR
  constructor
  · intro h
    obtain ⟨x, hx⟩ := List.exists_mem_of_ne_nil _ h
    obtain ⟨i, hi, hx⟩ := List.mem_flatMap.1 hx
    obtain ⟨k, hk, rfl⟩ := List.mem_map.1 hx
    obtain ⟨h1, h2⟩ := List.mem_filter.1 hk
    exact ⟨i, k, List.mem_range.1 hi, List.mem_range.1 h1, of_decide_eq_true h2⟩
  · rintro ⟨i, k, h1, h2, h3⟩ he
    have : (⟨(i : Int), (k : Int)⟩ : XPlace) ∈ ([] : List XPlace) := by
      rw [← he]
      exact List.mem_flatMap.2 ⟨i, List.mem_range.2 h1, List.mem_map.2 ⟨k, List.mem_filter.2 ⟨List.mem_range.2 h2, decide_eq_true h3⟩, rfl⟩⟩
    cases this
/-- an overload of the part is one at a place of the reason -/
theorem part_over {p : XProblem} {r : XReason} (hp : smXProblem p) (hr : smXReason r) (hs : Small p) (h1 : okProb p = true) (h2 : okReason p r = true) {ch : List Int} (hf : Fit ch (cnV (partOf p r).variables)) :
    (!(decide (overL (partOf p r) (wayOf (partOf p r) ch) = []))) = r.places.any fun x => decide (capP p x < dem p (wayOf (partOf p r) ch) x) := by
  have hq := part_ok hp hr hs h1 h2
  have hk := Prob.of h1
  obtain ⟨i1, i2, i3, i4⟩ := reason_idx h2
  have hb : ∀ x, dem p (wayOf (partOf p r) ch) x ≤ 576 := by
    intro x
    have := dem_bound (Prob.of hq.ok) hq.small x (w := wayOf (partOf p r) ch) fun vc h => way_mem hf h
    obtain ⟨l1, l2⟩ := way_len hf
    have l3 := hq.small.vars
    have e : dem (partOf p r) (wayOf (partOf p r) ch) x = dem p (wayOf (partOf p r) ch) x := rfl
    rw [e] at this
    omega
  rw [Bool.eq_iff_iff]
  simp only [Bool.not_eq_true', decide_eq_false_iff_not, List.any_eq_true, decide_eq_true_eq]
  rw [← ne_eq, overL_ne, hq.capl]
  constructor
  · rintro ⟨i, k, a1, a2, a3⟩
    have a3 : capP (partOf p r) ⟨(i : Int), (k : Int)⟩ < dem p (wayOf (partOf p r) ch) ⟨(i : Int), (k : Int)⟩ := a3
    have a2 : k < p.cells.length := a2
    rw [hq.cap _ (by simp only; omega) (by simp only; omega)] at a3
    by_cases hm : (⟨(i : Int), (k : Int)⟩ : XPlace) ∈ r.places
    · rw [if_pos hm] at a3; exact ⟨_, hm, a3⟩
    · rw [if_neg hm] at a3; have := hb ⟨(i : Int), (k : Int)⟩; omega
  · rintro ⟨x, hx, hlt⟩
    obtain ⟨b1, b2⟩ := i3 x hx
    have ex : (⟨((x.leaf.toNat : Nat) : Int), ((x.cell.toNat : Nat) : Int)⟩ : XPlace) = x := by
      obtain ⟨a, b⟩ := x
      simp only at b1 b2
      rw [Int.toNat_of_nonneg b1.1, Int.toNat_of_nonneg b2.1]
    refine ⟨x.leaf.toNat, x.cell.toNat, by omega, (by omega : x.cell.toNat < p.cells.length), ?_⟩
    rw [ex, hq.cap x b1 b2, if_pos hx]
    exact hlt
theorem pairs_part (p : XProblem) (r : XReason) : pairsOf p r.variables = (partOf p r).variables.map fun v => v.choices.map fun c => (v, c) := by
  unfold pairsOf partOf; rw [List.map_map]; rfl
end Go.Fx
/- Chapter 32: problem.Overloads, said plainly. -/
set_option linter.unusedSimpArgs false
set_option linter.unusedVariables false
set_option maxRecDepth 100000
namespace Go.Fx
open Go Go.RowKit
/-- the leaves and the uses of a way, in order -/
def usesL (w : List (XVariable × XChoice)) : List (Int × XUse) := w.flatMap fun vc => vc.1.leaves.flatMap fun k => vc.2.uses.map fun u => (k, u)
theorem m84_eq {p : XProblem} (hs : Small p) {ch : List Int} (hf : Fit ch (cnV p.variables)) : m84_problem_uses p ch = some (usesL (wayOf p ch)) := by
  obtain ⟨l1, l2⟩ := way_len hf
  have hv6 := hs.vars
  have main : m100_problem_uses_1 ch p = some (usesL (wayOf p ch)) := by
    unfold m100_problem_uses_1
    rw [show (((ch.length : Int) - 0).toNat + 1) = ((((wayOf p ch).length : Int) - 0).toNat + 1) by rw [l1]]
    refine up_list0 (B := m100_problem_uses_1_B0 ch p) (fun t => some (usesL t)) (wayOf p ch) (by omega) ?_ ?_ (by omega)
    · intro sf; unfold m100_problem_uses_1_B0; rw [l1]; simp [usesL]
    · intro sf i vc t a1 a2 a3 ih
      obtain ⟨v1, a, v2, v3, v4, v5, v6⟩ := way_get hf a2
      have hvm := ge0 v1
      have hvl : i < p.variables.length := (List.getElem?_eq_some_iff.1 v1).1
      have hchl : i < ch.length := by omega
      have hsv := hs.var _ hvm
      rw [m100_problem_uses_1_B0]
      simp only [ltBd hchl, inBd hchl, inBd hvl, ck_True, cond_true, Int.toNat_natCast, getD_of v1]
      refine (up_list0 (B := m100_problem_uses_1_B1 ch p (i : Int) sf) (fuel := ((vc.1.leaves.length : Int) - 0).toNat + 1) (fun tl => some ((tl.flatMap fun k => vc.2.uses.map fun u => (k, u)) ++ usesL t)) vc.1.leaves (by omega) ?_ ?_ (by omega)).trans (by simp [usesL])
      · intro sf'; unfold m100_problem_uses_1_B1; simp only [Int.toNat_natCast, getD_of v1, ltE, cond_false, a3, ih]; simp
      · intro sf' j k tl b1 b2 b3 ih'
        rw [m100_problem_uses_1_B1]
        simp only [Int.toNat_natCast, getD_of v1, getD_of v2, v5, ltBd b1, inBd b1, inBd hvl, ck_True, cond_true]
        rw [ck_eq ⟨v3, v4⟩]
        refine (up_list0 (B := m100_problem_uses_1_B2 ch p (i : Int) (j : Int) sf') (fuel := ((vc.2.uses.length : Int) - 0).toNat + 1) (fun tu => some ((tu.map fun u => (k, u)) ++ ((tl.flatMap fun k => vc.2.uses.map fun u => (k, u)) ++ usesL t))) vc.2.uses (by have := hsv.2.2 _ v6; omega) ?_ ?_ (by omega)).trans (by simp)
        · intro sf''; unfold m100_problem_uses_1_B2; simp only [Int.toNat_natCast, getD_of v1, getD_of v2, v5, ltE, cond_false, b3, ih']; simp
        · intro sf'' q u tu c1 c2 c3 ih''
          rw [m100_problem_uses_1_B2]
          simp only [Int.toNat_natCast, getD_of v1, getD_of v2, getD_of b2, v5, getD_of c2, ltBd c1, inBd c1, ck_True, cond_true, c3, ih'']
          rfl
  unfold m84_problem_uses
  rw [main]; rfl
def sumU (p : XProblem) (L : List (Int × XUse)) (x : XPlace) : Int := (L.map fun e => if e.1 = x.leaf ∧ ix p.cells e.2.cell = x.cell then e.2.places else 0).sum
theorem sumU_append (p : XProblem) (L M : List (Int × XUse)) (x : XPlace) : sumU p (L ++ M) x = sumU p L x + sumU p M x := by simp [sumU, List.sum_append]
theorem sumU_one (p : XProblem) (us : List XUse) (k : Int) (x : XPlace) : sumU p (us.map fun u => (k, u)) x = if k = x.leaf then (us.map fun u => if ix p.cells u.cell = x.cell then u.places else 0).sum else 0 := by
  unfold sumU
  rw [List.map_map]
  by_cases h : k = x.leaf
  · simp only [h, true_and, if_true, Function.comp_def]
  · simp only [h, false_and, if_false, Function.comp_def]
    induction us with
    | nil => rfl
    | cons u us ih => simp only [List.map_cons, List.sum_cons, ih]; rfl
theorem sumU_leaves (p : XProblem) (us : List XUse) (x : XPlace) : ∀ ls : List Int, ls.Nodup → sumU p (ls.flatMap fun k => us.map fun u => (k, u)) x = if x.leaf ∈ ls then (us.map fun u => if ix p.cells u.cell = x.cell then u.places else 0).sum else 0
  | [], _ => by simp [sumU]
  | k :: ls, h => by
    have hn := List.nodup_cons.1 h
    rw [List.flatMap_cons, sumU_append, sumU_one, sumU_leaves p us x ls hn.2]
    by_cases hk : k = x.leaf
    · subst hk; simp [hn.1]
    · have : ¬ x.leaf = k := fun e => hk e.symm
      simp [hk, this]
theorem sumU_uses {p : XProblem} : ∀ {w : List (XVariable × XChoice)}, (∀ vc ∈ w, vc.1.leaves.Nodup) → ∀ x, sumU p (usesL w) x = dem p w x
  | [], _, x => by simp [usesL, sumU, dem]
  | vc :: w, h, x => by
    have e : usesL (vc :: w) = (vc.1.leaves.flatMap fun k => vc.2.uses.map fun u => (k, u)) ++ usesL w := by simp [usesL]
    rw [e, sumU_append, sumU_leaves _ _ _ _ (h vc (List.mem_cons_self ..)), sumU_uses (fun vc hvc => h vc (List.mem_cons_of_mem _ hvc)) x]
    simp [dem, takes, useS]
theorem sumU_nonneg {p : XProblem} {L : List (Int × XUse)} (h : ∀ e ∈ L, 0 ≤ e.2.places) (x : XPlace) : 0 ≤ sumU p L x := by
  induction L with
  | nil => simp [sumU]
  | cons e L ih =>
    have h1 := ih fun e he => h e (List.mem_cons_of_mem _ he)
    have h2 := h e (List.mem_cons_self ..)
    simp only [sumU, List.map_cons, List.sum_cons] at *
    split <;> omega
theorem mem_usesL {w : List (XVariable × XChoice)} {e : Int × XUse} (h : e ∈ usesL w) : ∃ vc ∈ w, e.1 ∈ vc.1.leaves ∧ e.2 ∈ vc.2.uses := by
  obtain ⟨vc, h1, h2⟩ := List.mem_flatMap.1 h
  obtain ⟨k, h3, h4⟩ := List.mem_flatMap.1 h2
  obtain ⟨u, h5, rfl⟩ := List.mem_map.1 h4
  exact ⟨vc, h1, h3, h5⟩
/-- what is taken of all cells in all leaves -/
def demR (p : XProblem) (w : List (XVariable × XChoice)) : List (List Int) := (List.range p.capacity.length).map fun i : Nat => demL p w (i : Int)
theorem rows_ext {n m : Nat} {a b : List (List Int)} (ha : Rect n m a) (hb : Rect n m b) (h : ∀ i k, i < n → k < m → (a.getD i default).getD k default = (b.getD i default).getD k default) : a = b := by
  refine List.ext_getElem (ha.1.trans hb.1.symm) fun i h1 h2 => ?_
  have e1 := ha.2 _ (List.getElem_mem h1)
  have e2 := hb.2 _ (List.getElem_mem h2)
  refine list_ext_getD (e1.trans e2.symm) fun k hk => ?_
  have := h i k (by rw [← ha.1]; exact h1) (by omega)
  rwa [getD_of (List.getElem?_eq_getElem h1), getD_of (List.getElem?_eq_getElem h2)] at this
theorem demR_rect (p : XProblem) (w : List (XVariable × XChoice)) : Rect p.capacity.length p.cells.length (demR p w) := by
  refine ⟨by simp [demR], fun r hr => ?_⟩
  obtain ⟨i, _, rfl⟩ := List.mem_map.1 hr
  exact demL_len _ _ _
theorem demR_row {p : XProblem} {w : List (XVariable × XChoice)} {i : Nat} (h : i < p.capacity.length) : (demR p w).getD i default = demL p w (i : Int) :=
  getD_of (by unfold demR; rw [List.getElem?_map, List.getElem?_range h]; rfl)
theorem set_midL {α : Type} {u z : List α} {a b : α} {n : Nat} (h : n = u.length) : (u ++ a :: z).set n b = u ++ b :: z := by subst h; simp
theorem m75_eq {p : XProblem} (hp : smXProblem p) (hk : Prob p) (hs : Small p) {ch : List Int} (hf : Fit ch (cnV p.variables)) : m75_problem_demand p ch = some (demR p (wayOf p ch)) := by
  have hc := hs.cells; have hcap := hs.caps
  have hway := fun vc (h : vc ∈ wayOf p ch) => way_mem hf h
  have hU : ∀ e ∈ usesL (wayOf p ch), (0 ≤ e.1 ∧ e.1 < (p.capacity.length : Int)) ∧ e.2.cell ∈ p.cells ∧ 1 ≤ e.2.places ∧ e.2.places ≤ 8 := by
    intro e he
    obtain ⟨vc, h1, h2, h3⟩ := mem_usesL he
    obtain ⟨a1, a2⟩ := hway vc h1
    exact ⟨hk.leaf _ a1 _ h2, hk.use _ a1 _ a2 _ h3⟩
  have hsum := sumU_uses (p := p) (w := wayOf p ch) fun vc h => hk.lnd _ (hway vc h).1
  have hbd : ∀ x, sumU p (usesL (wayOf p ch)) x ≤ 576 := by
    intro x
    rw [hsum]
    have := dem_bound hk hs x (w := wayOf p ch) hway
    obtain ⟨l1, l2⟩ := way_len hf
    have := hs.vars
    omega
  -- the uses, one by one
  have adds : ∀ map_1 : List (XCell × Int), (∀ c ∈ p.cells, (mget map_1 c).getD 0 = ix p.cells c) → ∀ (t done : List (Int × XUse)) (rows : List (List Int)), usesL (wayOf p ch) = done ++ t → Rect p.capacity.length p.cells.length rows →
      (∀ i k : Nat, i < p.capacity.length → k < p.cells.length → (rows.getD i default).getD k default = sumU p done ⟨(i : Int), (k : Int)⟩) →
      rng1 (m75_problem_demand_B2 map_1) (fun rows_2 => some rows_2) t rows = some (demR p (wayOf p ch)) := by
    intro map_1 hm t
    induction t with
    | nil =>
      intro done rows h1 h2 h3
      rw [List.append_nil] at h1
      rw [rng1_nil]
      congr 1
      refine rows_ext h2 (demR_rect p _) fun i k hi hkk => ?_
      rw [h3 i k hi hkk, ← h1, hsum, demR_row hi, demL_get hkk]
    | cons e t ih =>
      intro done rows h1 h2 h3
      obtain ⟨b1, b2, b3, b4⟩ := hU e (by rw [h1]; simp)
      obtain ⟨q, q1, q2⟩ := ix_mem b2
      have hq : q < p.cells.length := (List.getElem?_eq_some_iff.1 q2).1
      have hlr : e.1.toNat < rows.length := by rw [h2.1]; omega
      have hrow : (rows.getD e.1.toNat default).length = p.cells.length := by rw [getD_of (List.getElem?_eq_getElem hlr)]; exact h2.2 _ (List.getElem_mem hlr)
      have hle : (((e.1.toNat : Nat) : Int)) = e.1 := by omega
      have hold := h3 e.1.toNat q (by omega) hq
      have hnn := sumU_nonneg (p := p) (L := done) (fun e' he' => by have := (hU e' (by rw [h1]; exact List.mem_append_left _ he')).2.2.1; omega) ⟨e.1, (q : Int)⟩
      have hub : sumU p done ⟨e.1, (q : Int)⟩ + e.2.places ≤ 576 := by
        have h4 := hbd ⟨e.1, (q : Int)⟩
        rw [h1, sumU_append] at h4
        have h5 : sumU p (e :: t) ⟨e.1, (q : Int)⟩ = e.2.places + sumU p t ⟨e.1, (q : Int)⟩ := by simp [sumU, q1]
        have h6 := sumU_nonneg (p := p) (L := t) (fun e' he' => by have := (hU e' (by rw [h1]; simp [he'])).2.2.1; omega) ⟨e.1, (q : Int)⟩
        omega
      rw [rng1_cons, m75_problem_demand_B2, hm _ b2, q1]
      rw [ck_eq (by rw [h2.1]; exact b1), ck_eq (by rw [hrow]; omega), ck_eq (by rw [hrow]; omega)]
      rw [Int.toNat_natCast, hold, hle, show IntKind.wrap .i64 (sumU p done ⟨e.1, (q : Int)⟩ + e.2.places) = sumU p done ⟨e.1, (q : Int)⟩ + e.2.places from wrap_i64 (by omega) (by omega)]
      refine ih (done ++ [e]) _ (by rw [h1]; simp) ⟨by rw [List.length_set]; exact h2.1, fun r hr => ?_⟩ fun i k hi hkk => ?_
      · rcases List.mem_or_eq_of_mem_set hr with h | h
        · exact h2.2 r h
        · rw [h, List.length_set]; exact hrow
      · rw [sumU_append]
        have e1 : sumU p [e] ⟨(i : Int), (k : Int)⟩ = if e.1 = (i : Int) ∧ (q : Int) = (k : Int) then e.2.places else 0 := by simp [sumU, q1]
        rw [e1]
        by_cases hi' : e.1 = (i : Int)
        · have hin : e.1.toNat = i := by omega
          rw [hin, getD_of (l := rows.set i _) (by rw [List.getElem?_set_self (by omega)]), set_getD (by rw [← hin, hrow]; exact hq)]
          by_cases hqk : q = k
          · subst hqk; simp [hi']
          · have : ¬ ((q : Int) = (k : Int)) := by omega
            rw [if_neg hqk, h3 i k hi hkk]; simp [this]
        · have hin : e.1.toNat ≠ i := by omega
          have e2 : (rows.set e.1.toNat ((rows.getD e.1.toNat default).set q (sumU p done ⟨e.1, (q : Int)⟩ + e.2.places))).getD i default = rows.getD i default := by
            rw [List.getD, List.getElem?_set_ne hin]; rfl
          rw [e2, h3 i k hi hkk]; simp [hi']
  have blank0 : ∀ map_1 : List (XCell × Int), (∀ c ∈ p.cells, (mget map_1 c).getD 0 = ix p.cells c) →
      loop2 (m75_problem_demand_B1 p ch map_1) ((((List.replicate p.capacity.length ([] : List Int)).length : Int) - 0).toNat + 1) 0 (List.replicate p.capacity.length ([] : List Int)) = some (demR p (wayOf p ch)) := by
    intro map_1 hm
    refine up_listA (B := m75_problem_demand_B1 p ch map_1) (fun i (s : List (List Int)) => s = List.replicate i (List.replicate p.cells.length 0) ++ List.replicate (p.capacity.length - i) []) (fun _ _ _ => some (demR p (wayOf p ch))) (List.replicate p.capacity.length ([] : List Int)) (by simp; omega) ?_ ?_ (by omega) (by simp)
    · intro sf s hI
      rw [m75_problem_demand_B1, ltE, cond_false, m84_eq hs hf, Option.bind_some, jn_eq]
      rw [List.length_replicate, Nat.sub_self, List.replicate_zero, List.append_nil] at hI
      subst hI
      refine adds map_1 hm _ [] _ rfl ⟨by simp, fun r hr => by rw [List.eq_of_mem_replicate hr]; simp⟩ fun i k hi hkk => ?_
      rw [getD_of (l := List.replicate _ _) (by rw [List.getElem?_replicate, if_pos hi]), getD_of (by rw [List.getElem?_replicate, if_pos hkk])]
      simp [sumU]
    · intro sf i s x t a1 a2 a3 hI ih
      have hi : i < p.capacity.length := by simpa using a1
      rw [m75_problem_demand_B1, ltBd a1, cond_true, ck_eq (by omega), ck_eq (by rw [hI]; simp; omega), a3]
      refine ih _ ?_
      rw [hI, Int.toNat_natCast]
      obtain ⟨d, hd⟩ : ∃ d, p.capacity.length - i = d + 1 := ⟨p.capacity.length - i - 1, by omega⟩
      rw [hd, List.replicate_succ, set_midL (by simp), show p.capacity.length - (i + 1) = d by omega, List.replicate_succ']
      simp
  unfold m75_problem_demand
  refine up_listA (B := m75_problem_demand_B0 p ch) (fuel := ((p.cells.length : Int) - 0).toNat + 1) (s := ([] : List (XCell × Int))) (fun i s => ∀ j c, j < i → p.cells[j]? = some c → mget s c = some (j : Int)) (fun _ _ _ => some (demR p (wayOf p ch))) p.cells (sm_len hp.1) ?_ ?_ (by omega) (fun j c h => by omega)
  · intro sf s hI
    rw [m75_problem_demand_B0, ltE, cond_false, ck_eq (by omega)]
    refine blank0 s fun c hcc => ?_
    obtain ⟨k, e1, e2⟩ := ix_mem hcc
    rw [hI k c (List.getElem?_eq_some_iff.1 e2).1 e2, e1]; rfl
  · intro sf i s c t e1 e2 e3 hI ih
    unfold m75_problem_demand_B0
    simp only [Int.toNat_natCast, getD_of e2, ltBd e1, inBd e1, ck_True, cond_true]
    rw [e3]
    refine ih _ fun j c' hj hc' => ?_
    rw [mget_put]
    by_cases h : c = c'
    · subst h
      rw [if_pos rfl]
      have := ix_at hk.cells e2; have := ix_at hk.cells hc'
      congr 1; omega
    · rw [if_neg h]
      refine hI j c' ?_ hc'
      rcases Nat.lt_or_ge j i with hlt | hge
      · exact hlt
      · have : j = i := by omega
        subst this; rw [e2] at hc'; exact absurd (Option.some.inj hc') h
end Go.Fx
/- Chapter 32: problem.Overloads hands out the same as the reference's. -/
set_option linter.unusedSimpArgs false
set_option linter.unusedVariables false
set_option maxRecDepth 100000
namespace Go.Fx
open Go Go.RowKit
theorem m73_eq {p : XProblem} (hp : smXProblem p) (ho : okProb p = true) (hs : Small p) {ch : List Int} (hf : Fit ch (cnV p.variables)) : m73_problem_branch p ch = some 0 := by
  obtain ⟨l1, l2⟩ := way_len hf
  have := hs.vars
  unfold m73_problem_branch
  rw [m12_eq hp, ho]
  have c0 : decide ((p.variables.length : Int) < (ch.length : Int)) = false := by simp <;> omega
  simp only [cond_true, Option.bind_some, ne_eq, not_true_eq_false, decide_false, cond_false, c0]
  rw [all_up (l := ch) (B := m73_problem_branch_B0 p ch) (fun _ => true) (some 270) (some 0) (by omega) ?_ ?_ (by omega)]
  · cases hh : ch.all fun _ => true
    · rw [List.all_eq_false] at hh; obtain ⟨x, _, h⟩ := hh; simp at h
    · rfl
  · intro sf; unfold m73_problem_branch_B0; simp only [ltE, cond_false]
  · intro sf i a h1 h2 h3
    have hlt : i < p.variables.length := by omega
    obtain ⟨b, b1, b2, b3⟩ := fit_get hf (List.getElem?_eq_getElem hlt)
    rw [h2] at b1; obtain rfl := Option.some.inj b1
    have hcl := (hs.var _ (List.getElem_mem hlt)).2.1
    unfold m73_problem_branch_B0
    simp only [ltBd h1, inBd h1, inBd hlt, ck_True, cond_true, Int.toNat_natCast, getD_of h2, getD_of (List.getElem?_eq_getElem hlt), m33_eq, Option.bind_some, h3]
    rw [show IntKind.wrap .i64 ((p.variables[i].choices.length : Int) - 1) = (p.variables[i].choices.length : Int) - 1 from wrap_i64 (by omega) (by omega)]
    have : within a 0 ((p.variables[i].choices.length : Int) - 1) = true := by simp [within]; omega
    rw [this]; rfl
theorem m47_eq {p : XProblem} (hp : smXProblem p) (ho : okProb p = true) (hs : Small p) {ch : List Int} (hf : Fit ch (cnV p.variables)) : m47_problem_whole p ch = some 0 := by
  obtain ⟨l1, l2⟩ := way_len hf
  unfold m47_problem_whole
  rw [m73_eq hp ho hs hf]
  have c0 : decide ((ch.length : Int) ≠ (p.variables.length : Int)) = false := by simp <;> omega
  simp only [Option.bind_some, ne_eq, not_true_eq_false, decide_false, cond_false]
  rw [show decide (¬((ch.length : Int) = (p.variables.length : Int))) = false from c0]; rfl
/-- the overloads, with how much -/
def overV (p : XProblem) (w : List (XVariable × XChoice)) (leaf : Nat) (ks : List Nat) : List (XPlace × Int) :=
  (ks.filter fun k : Nat => decide (capP p ⟨(leaf : Int), (k : Int)⟩ < dem p w ⟨(leaf : Int), (k : Int)⟩)).map fun k : Nat => ((⟨(leaf : Int), (k : Int)⟩ : XPlace), dem p w ⟨(leaf : Int), (k : Int)⟩ - capP p ⟨(leaf : Int), (k : Int)⟩)
def overW (p : XProblem) (w : List (XVariable × XChoice)) : List (XPlace × Int) := (List.range p.capacity.length).flatMap fun leaf => overV p w leaf (List.range p.cells.length)
theorem cap_le {p : XProblem} (hk : Prob p) (x : XPlace) : capP p x ≤ 4096 := by
  unfold capP
  have : ∀ k ∈ p.capacity.getD x.leaf.toNat default, k ≤ 4096 := getD_sm (S := fun r : List Int => ∀ k ∈ r, k ≤ 4096) (fun r hr k hkk => ((hk.row r hr).2 k hkk).2) (by intro k h; cases h) _
  exact getD_sm (S := fun k : Int => k ≤ 4096) this (by show (0 : Int) ≤ 4096; omega) _
theorem dem_way {p : XProblem} (hk : Prob p) (hs : Small p) {ch : List Int} (hf : Fit ch (cnV p.variables)) (x : XPlace) : 0 ≤ dem p (wayOf p ch) x ∧ dem p (wayOf p ch) x ≤ 576 := by
  have := dem_bound hk hs x (w := wayOf p ch) fun vc h => way_mem hf h
  obtain ⟨l1, l2⟩ := way_len hf
  have := hs.vars
  omega
theorem m48_eq {p : XProblem} (hp : smXProblem p) (ho : okProb p = true) (hs : Small p) {ch : List Int} (hf : Fit ch (cnV p.variables)) : m48_problem_overloads p ch = some (overW p (wayOf p ch)) := by
  have hk := Prob.of ho
  have hc := hs.cells; have hcap := hs.caps
  have hR := demR_rect p (wayOf p ch)
  have main : m74_problem_overloads_1 p ch = some (overW p (wayOf p ch)) := by
    unfold m74_problem_overloads_1
    rw [m75_eq hp hk hs hf, Option.bind_some, hR.1]
    have hl : (List.range p.capacity.length).length = p.capacity.length := List.length_range
    rw [show (((p.capacity.length : Int) - 0).toNat + 1) = (((List.range p.capacity.length).length : Int) - 0).toNat + 1 by rw [hl]]
    refine up_list0 (B := m74_problem_overloads_1_B0 p (demR p (wayOf p ch))) (fun t => some (t.flatMap fun leaf => overV p (wayOf p ch) leaf (List.range p.cells.length))) (List.range p.capacity.length) (by omega) ?_ ?_ (by omega)
    · intro sf; unfold m74_problem_overloads_1_B0; rw [hl, hR.1]; simp
    · intro sf i x t a1 a2 a3 ih
      rw [hl] at a1
      have hx : x = i := by rw [List.getElem?_range a1] at a2; exact (Option.some.inj a2).symm
      subst hx
      have hl2 : (List.range p.cells.length).length = p.cells.length := List.length_range
      rw [m74_problem_overloads_1_B0, hR.1, ltBd a1, cond_true, ck_eq (by omega), Int.toNat_natCast, demR_row a1, demL_len]
      rw [show (((p.cells.length : Int) - 0).toNat + 1) = (((List.range p.cells.length).length : Int) - 0).toNat + 1 by rw [hl2]]
      refine (up_list0 (B := m74_problem_overloads_1_B1 p (demR p (wayOf p ch)) (x : Int) sf) (fuel := (((List.range p.cells.length).length : Int) - 0).toNat + 1) (fun tk => some (overV p (wayOf p ch) x tk ++ t.flatMap fun leaf => overV p (wayOf p ch) leaf (List.range p.cells.length))) (List.range p.cells.length) (by omega) ?_ ?_ (by omega)).trans (by simp)
      · intro sf'; rw [m74_problem_overloads_1_B1, Int.toNat_natCast, demR_row a1, demL_len, hl2, ltE, cond_false, a3, ih]; simp [overV]
      · intro sf' j k tk b1 b2 b3 ih'
        rw [hl2] at b1
        have hkj : k = j := by rw [List.getElem?_range b1] at b2; exact (Option.some.inj b2).symm
        subst hkj
        rw [m74_problem_overloads_1_B1]
        simp only [Int.toNat_natCast, demR_row a1, demL_len, demL_get b1, ltBd b1, inBd b1, inBd a1, ck_True, cond_true, row_get hk a1, b3]
        have hcp : (p.capacity.getD x default).getD k default = capP p ⟨(x : Int), (k : Int)⟩ := by simp [capP]
        have hd := dem_way hk hs hf ⟨(x : Int), (k : Int)⟩
        have h0 := cap_nonneg hk ⟨(x : Int), (k : Int)⟩
        have h1 := cap_le hk ⟨(x : Int), (k : Int)⟩
        rw [hcp, show IntKind.wrap .i64 (dem p (wayOf p ch) ⟨(x : Int), (k : Int)⟩ - capP p ⟨(x : Int), (k : Int)⟩) = dem p (wayOf p ch) ⟨(x : Int), (k : Int)⟩ - capP p ⟨(x : Int), (k : Int)⟩ from wrap_i64 (by omega) (by omega), ih']
        by_cases hlt : capP p ⟨(x : Int), (k : Int)⟩ < dem p (wayOf p ch) ⟨(x : Int), (k : Int)⟩
        · rw [decide_eq_true (show (0 : Int) < dem p (wayOf p ch) ⟨(x : Int), (k : Int)⟩ - capP p ⟨(x : Int), (k : Int)⟩ by omega), cond_true]
          simp [overV, hlt, yl]
        · rw [decide_eq_false (show ¬ (0 : Int) < dem p (wayOf p ch) ⟨(x : Int), (k : Int)⟩ - capP p ⟨(x : Int), (k : Int)⟩ by omega), cond_false]
          simp [overV, hlt]
  unfold m48_problem_overloads
  rw [main]; rfl
theorem overW_fst (p : XProblem) (w : List (XVariable × XChoice)) : (overW p w).map (·.1) = overL p w := by
  unfold overW overL
  rw [List.map_flatMap]
  congr 1; funext leaf
  unfold overV overR; rw [List.map_map]; rfl
theorem overW_len {p : XProblem} (hs : Small p) (w : List (XVariable × XChoice)) : (overW p w).length ≤ 48 := by
  have h1 := hs.cells; have h2 := hs.caps
  have : ∀ t : List Nat, (t.flatMap fun leaf => overV p w leaf (List.range p.cells.length)).length ≤ 12 * t.length := by
    intro t
    induction t with
    | nil => simp
    | cons a t ih =>
      have : (overV p w a (List.range p.cells.length)).length ≤ 12 := by
        unfold overV; rw [List.length_map]
        have := List.length_filter_le (fun k : Nat => decide (capP p ⟨(a : Int), (k : Int)⟩ < dem p w ⟨(a : Int), (k : Int)⟩)) (List.range p.cells.length)
        rw [List.length_range] at this; omega
      simp only [List.flatMap_cons, List.length_append, List.length_cons]; omega
  have := this (List.range p.capacity.length)
  rw [List.length_range] at this
  unfold overW; omega
theorem m28_eq {p : XProblem} (hp : smXProblem p) (ho : okProb p = true) (hs : Small p) {ch : List Int} (hf : Fit ch (cnV p.variables)) : m28_problem_Overloads p ch = some (overL p (wayOf p ch), 0) := by
  unfold m28_problem_Overloads
  rw [m47_eq hp ho hs hf, m48_eq hp ho hs hf]
  simp only [Option.bind_some, ne_eq, not_true_eq_false, decide_false, cond_false, jn_eq]
  have main : ∀ (t : List (XPlace × Int)) (s : List XPlace), s.length + t.length ≤ 48 → rng1 m28_problem_Overloads_B0 (fun v_1 => some (v_1, (0 : Int))) t s = some (s ++ t.map (·.1), 0) := by
    intro t
    induction t with
    | nil => intro s _; rw [rng1_nil]; simp
    | cons e t ih =>
      intro s h
      simp only [List.length_cons] at h
      rw [rng1_cons, m28_problem_Overloads_B0, ck_eq (by simp; omega), ih _ (by simp; omega)]; simp
  rw [main _ _ (by have := overW_len hs (wayOf p ch); simpa using this), overW_fst]; rfl
end Go.Fx
/- ReasonPart. -/
set_option linter.unusedSimpArgs false
set_option linter.unusedVariables false
set_option maxRecDepth 100000
namespace Go.Fx
open Go Go.RowKit
theorem part_met {p : XProblem} {r : XReason} (hp : smXProblem p) (hr : smXReason r) (hs : Small p) (h1 : okProb p = true) (h2 : okReason p r = true) {ch : List Int} (hf : Fit ch (cnV (partOf p r).variables)) :
    ∀ y ∈ overL (partOf p r) (wayOf (partOf p r) ch), y ∈ r.places := by
  have hq := part_ok hp hr hs h1 h2
  intro y hy
  unfold overL overR at hy
  obtain ⟨i, hi, hx⟩ := List.mem_flatMap.1 hy
  obtain ⟨k, hk, rfl⟩ := List.mem_map.1 hx
  obtain ⟨b1, b2⟩ := List.mem_filter.1 hk
  have b2 := of_decide_eq_true b2
  rw [List.mem_range] at hi b1
  rw [hq.capl] at hi
  have b1 : k < p.cells.length := b1
  rw [hq.cap _ (by simp only; omega) (by simp only; omega)] at b2
  by_cases hm : (⟨(i : Int), (k : Int)⟩ : XPlace) ∈ r.places
  · exact hm
  · rw [if_neg hm] at b2
    have := (dem_way (Prob.of hq.ok) hq.small hf ⟨(i : Int), (k : Int)⟩).2
    omega
theorem met_loop {r : XReason} (hr : r.places.length < 9223372036854775807) {l : List XPlace} {e i : Nat} {E : Int} {y : XPlace} (hi : i < l.length) (hy : l[i]? = some y) (hm : y ∈ r.places) (sf : Int → Option Bool) (hw : IntKind.i64.wrap ((i : Int) + 1) = (i : Int) + 1) :
    loop2 (m9_overflightlaw32_ReasonPart_B2 r (l, E) (i : Int) sf) (((r.places.length : Int) - 0).toNat + 1) false 0 = sf ((i : Int) + 1) := by
  refine (up_listB (B := m9_overflightlaw32_ReasonPart_B2 r (l, E) (i : Int) sf) (s := false) (fuel := ((r.places.length : Int) - 0).toNat + 1) (fun _ _ => True) (fun _ t met => bif (met || t.any fun x => decide (x = y)) then sf ((i : Int) + 1) else some false) r.places hr ?_ ?_ (by omega) trivial).trans ?_
  · intro sf' met _
    rw [m9_overflightlaw32_ReasonPart_B2, ltE, cond_false, hw]
    cases met <;> rfl
  · intro sf' j met x t a1 a2 a3 _ ih
    rw [m9_overflightlaw32_ReasonPart_B2]
    simp only [ltBd a1, inBd a1, inBd hi, ck_True, cond_true, Int.toNat_natCast, getD_of a2, getD_of hy, a3]
    cases met
    · rw [cond_false, ih _ trivial, List.any_cons, Bool.false_or]
    · rw [cond_true, ih _ trivial]; rfl
  · have : (r.places.any fun x => decide (x = y)) = true := List.any_eq_true.2 ⟨y, hm, by simp⟩
    rw [this]; rfl
theorem ReasonPart_law (p : XProblem) (r : XReason) (hp : smXProblem p) (hr : smXReason r) : m9_overflightlaw32_ReasonPart p r = some true := by
  obtain ⟨fu, hfu⟩ : ∃ n : Nat, n = 1000000 := ⟨_, rfl⟩
  unfold m9_overflightlaw32_ReasonPart
  rw [← hfu]
  obtain ⟨b, hb, hS⟩ := m18_eq hp
  obtain ⟨b2, hb2, hS2⟩ := m19_eq r
  rw [sane32, hb, hb2]
  simp only [Option.bind_some, Bool.not_true, cond_false, jn_eq]
  cases b
  · rfl
  cases b2
  · rfl
  have hs := hS rfl
  have hv := (hS2 rfl).1
  simp only [Bool.not_true, cond_false]
  rw [m17_eq hp hr hs hv, m20_eq hp hr hs hv, m23_eq hp hr]
  cases h1 : okProb p
  · rfl
  cases h2 : okReason p r
  · rfl
  have hq := part_ok hp hr hs h1 h2
  have hk := Prob.of hq.ok
  have hv6 := hq.small.vars
  have hlen : (partOf p r).variables.length = r.variables.length := by simp [partOf]
  simp only [cond_true, Option.bind_some, ne_eq, not_true_eq_false, decide_false, cond_false, m12_eq hq.sm, hq.ok]
  have c0 : decide (¬(((partOf p r).variables.length : Int) = (r.variables.length : Int))) = false := by simp [hlen]
  rw [c0, cond_false, ck_eq (by omega)]
  let P : List Int → Bool := fun c => r.places.any fun x => decide (capP p x < dem p (wayOf (partOf p r) c.reverse) x)
  -- one round
  have round : ∀ (c : List Int) (all : Bool) (sf : Bool → List Int → Option Bool), Fit c (cnV (partOf p r).variables).reverse →
      m9_overflightlaw32_ReasonPart_B0 r (provesB p r, 0) (partOf p r, 0) sf all c.reverse = match nr (cnV (partOf p r).variables).reverse c with | some d => sf (all && P c) d.reverse | none => some ((all && P c) == provesB p r) := by
    intro c all sf hc
    have hfc : Fit c.reverse (cnV (partOf p r).variables) := by have := fit_reverse hc; rwa [List.reverse_reverse] at this
    have hcl := (way_len hfc).2
    have hpo := part_over hp hr hs h1 h2 hfc
    have hmet := part_met hp hr hs h1 h2 hfc
    rw [m9_overflightlaw32_ReasonPart_B0, m28_eq hq.sm hq.ok hq.small hfc]
    simp only [Option.bind_some, ne_eq, not_true_eq_false, decide_false, cond_false, jn_eq]
    have hll : (overL (partOf p r) (wayOf (partOf p r) c.reverse)).length ≤ 48 := by
      rw [← overW_fst, List.length_map]; exact overW_len hq.small _
    have inner : ∀ all2 : Bool, loop1 (m9_overflightlaw32_ReasonPart_B1 r (provesB p r, 0) (partOf p r, 0) c.reverse sf (overL (partOf p r) (wayOf (partOf p r) c.reverse), 0) all2) (((overL (partOf p r) (wayOf (partOf p r) c.reverse)).length : Int) - 0).toNat.succ 0 =
        match nr (cnV (partOf p r).variables).reverse c with | some d => sf all2 d.reverse | none => some (all2 == provesB p r) := by
      intro all2
      refine (up_list0 (fuel := (((overL (partOf p r) (wayOf (partOf p r) c.reverse)).length : Int) - 0).toNat.succ) (fun _ => match nr (cnV (partOf p r).variables).reverse c with | some d => sf all2 d.reverse | none => some (all2 == provesB p r)) (overL (partOf p r) (wayOf (partOf p r) c.reverse)) (by omega) ?_ ?_ (by omega))
      · intro sf'
        rw [m9_overflightlaw32_ReasonPart_B1, ltE, cond_false]
        rw [m16_eq c.reverse hcl (by omega) (fun a ha => by
          obtain ⟨i, hi, e⟩ := List.getElem_of_mem ha
          obtain ⟨b, b1, b2, b3⟩ := fit_get hfc (List.getElem?_eq_getElem (show i < (partOf p r).variables.length by omega))
          rw [List.getElem?_eq_getElem hi, e] at b1; obtain rfl := Option.some.inj b1
          have := (hq.small.var _ (List.getElem_mem (show i < (partOf p r).variables.length by omega))).2.1
          omega)]
        unfold nextOf
        rw [List.reverse_reverse]
        have hnl : ∀ {ns c d : List Int}, nr ns c = some d → c.length = d.length := by
          intro ns
          induction ns with
          | nil => intro c d h; cases c <;> simp [nr] at h
          | cons n ns ih =>
            intro c d h
            cases c with
            | nil => simp [nr] at h
            | cons a c =>
              simp only [nr] at h
              split at h
              · obtain rfl := Option.some.inj h; rfl
              · cases hn : nr ns c with
                | none => rw [hn] at h; cases h
                | some t => rw [hn] at h; obtain rfl := Option.some.inj h; simp [ih hn]
        cases hn : nr (cnV (partOf p r).variables).reverse c with
        | none => simp only [Option.map_none, Option.bind_some]; rw [ck_eq (by simp [zs]), ck_eq (by simp [zs])]; rfl
        | some d =>
          have := hnl hn
          simp only [Option.map_some, Option.bind_some]; rw [ck_eq (by simp [this]), ck_eq (by simp [this])]; rfl
      · intro sf' i y t a1 a2 a3 ih
        rw [m9_overflightlaw32_ReasonPart_B1, ltBd a1, cond_true]
        rw [met_loop (e := 0) (sm_len hr.2) a1 a2 (hmet y (ge0 a2)) sf' a3]
        exact ih
    have hP : decide ((0 : Int) < ((overL (partOf p r) (wayOf (partOf p r) c.reverse)).length : Int)) = P c := by
      show _ = r.places.any fun x => decide (capP p x < dem p (wayOf (partOf p r) c.reverse) x)
      rw [← hpo]
      cases ho : overL (partOf p r) (wayOf (partOf p r) c.reverse) with
      | nil => simp
      | cons a t => simp
    cases all
    · exact inner false
    · rw [cond_true, hP, Bool.true_and]; exact inner (P c)
  have key : ∀ (L : List (List Int)) (c : List Int) (all : Bool) (fuel : Nat), Enum (nr (cnV (partOf p r).variables).reverse) (c :: L) → (∀ c' ∈ c :: L, Fit c' (cnV (partOf p r).variables).reverse) → L.length + 2 < fuel →
      loop2 (m9_overflightlaw32_ReasonPart_B0 r (provesB p r, 0) (partOf p r, 0)) fuel all c.reverse = some ((all && (c :: L).all P) == provesB p r) := by
    intro L
    induction L with
    | nil =>
      intro c all fuel he hc hfl
      obtain ⟨n, rfl⟩ : ∃ n, fuel = n + 1 := ⟨fuel - 1, by omega⟩
      rw [loop2_succ, round c all _ (hc c (List.mem_cons_self ..)), show nr (cnV (partOf p r).variables).reverse c = none from he]
      simp
    | cons d L ih =>
      intro c all fuel he hc hfl
      obtain ⟨n, rfl⟩ : ∃ n, fuel = n + 1 := ⟨fuel - 1, by omega⟩
      rw [loop2_succ, round c all _ (hc c (List.mem_cons_self ..)), show nr (cnV (partOf p r).variables).reverse c = some d from he.1]
      simp only
      rw [ih d _ n he.2 (fun c' h => hc c' (List.mem_cons_of_mem _ h)) (by simp at hfl; omega)]
      simp [Bool.and_assoc]
  have hn1 : ∀ n ∈ (cnV (partOf p r).variables).reverse, 1 ≤ n ∧ n ≤ 8 := by
    intro n hn
    rw [List.mem_reverse] at hn
    obtain ⟨v, hv, rfl⟩ := List.mem_map.1 hn
    have := hk.ch v hv; have := (hq.small.var v hv).2.1
    omega
  obtain ⟨en, t, ht⟩ := allR_enum (ns := (cnV (partOf p r).variables).reverse) fun n hn => (hn1 n hn).1
  have hlen2 := allR_len (ns := (cnV (partOf p r).variables).reverse) fun n hn => (hn1 n hn).2
  have hz : (List.replicate (partOf p r).variables.length (0 : Int)) = (((cnV (partOf p r).variables).reverse.map fun _ => (0 : Int)).reverse) := by
    rw [← List.map_reverse, List.reverse_reverse, cnV, List.map_map]
    exact (List.map_const' ..).symm
  rw [hz, key t _ true fu (by rw [← ht]; exact en) (fun c' h => mem_allR.1 (by rw [ht]; exact h)) (by
    rw [ht] at hlen2
    have h8 : 8 ^ ((cnV (partOf p r).variables).reverse).length ≤ 8 ^ 6 := Nat.pow_le_pow_right (by omega) (by simp [cnV]; omega)
    simp only [List.length_cons] at hlen2
    have : (8 : Nat) ^ 6 = 262144 := by decide
    omega), ← ht]
  have : (allR (cnV (partOf p r).variables).reverse).all P = provesB p r := by
    unfold provesB
    rw [pairs_part, ← all_ways]
    rfl
  rw [this]; simp
end Go.Fx
namespace Go.Proofs.Ytijekcoafilmeaa.lawReasonPart
open Go Go.Proofs Go.ChangeShapes Go.WideShapes Go.ChangeAt Go.RowKit Go.Fx
open Go.ChangeMaps (open_string shut_string)
set_option linter.unusedVariables false
set_option maxRecDepth 100000
theorem own : ownKnob Try.prog.godebug = none := by kernel_rfl
theorem laidOut : laidOutB Try.prog = true := by kernel_rfl
set_option maxRecDepth 100000 in
set_option maxHeartbeats 1000000 in
theorem lifted (os : Os) (started : os.Started) (H : Type) (enc : TypeId × Value → H) :
    ReturnsInHanded {} Try.checked os 9 .any (Rows.reasonPartSpec.pre6 enc Try.prog Try.f9 Rows.reasonPartRow.domain false) (Rows.reasonPartSpec.post enc Try.prog Try.f9 false true false false) := by
  refine returnsInHanded_of_change_sized (C := Try.checked) own started (by kernel_rfl) Try.func9
    (ChangeSpec.witness6 (enc := enc) (C := Try.checked) false ⟨#[], #[.agg #[(.slice none 0 0), (.slice none 0 0), (.slice none 0 0)], .agg #[(.slice none 0 0), (.slice none 0 0)]], []⟩ 8 (by kernel_rfl) (by kernel_rfl) (by kernel_rfl) (by kernel_rfl)) ?_
  intro W base args ds gs before hval0 hW hcnd hsz _
  have hval : ∀ (j : Nat) t v, Try.f9.params[j]? = some t → args[j]? = some v → Value.okWide Try.prog W .any base t v := hval0
  have hW' := hW
  obtain ⟨p, q, hA0, hV, rfl, hfz, hnd⟩ := hW
  have hA : DataW.TrodAll enc Try.prog W 0 (fun _ => true) true Try.f9.params.toList args.toList ds p := hA0
  rw [Try.params9] at hA hval
  obtain ⟨v0, vs0, d0, ds0, p0, q0, hargs, rfl, rfl, h0, r0⟩ := trodAll_cons hA
  obtain ⟨v1, vs1, d1, ds1, p1, q1, rfl, rfl, rfl, h1, r1⟩ := trodAll_cons r0
  obtain ⟨rfl, rfl, rfl⟩ := trodAll_nil r1
  obtain rfl : args = #[v0, v1] := by cases args; simp_all
  obtain ⟨rfl, rfl⟩ := trodVars_none hV
  have k0 := h0
  have lt0 : ∀ x ∈ p0, x.block < W.heap.size := by obtain ⟨m, hm⟩ := k0; exact DataW.trod_lt m _ _ _ hm
  obtain ⟨fu0, hf0⟩ := h0
  obtain ⟨p, rr0, sm0⟩ := rd26.2 _ _ _ hf0
  replace sm0 := sm0 (fun n hn => by have := List.all_eq_true.1 hsz n (DataW.weights_mem_each (j := 0) (t := 26) rfl rfl n hn); simpa using this)
  obtain ⟨⟨cs0⟩, rfl, _⟩ := okWide_struct Try.underlying26 (hval 0 26 v0 rfl rfl)
  replace rr0 : rXProblem.rd W [] cs0 p := rr0
  obtain ⟨_, _, rfl, ⟨a_p_cells, c_p_cells, rfl, f_p_cells⟩, ⟨_, _, rfl, ⟨a_p_capacity, c_p_capacity, rfl, f_p_capacity⟩, ⟨a_p_variables, c_p_variables, rfl, f_p_variables⟩⟩⟩ := rr0
  have k1 := h1
  have lt1 : ∀ x ∈ p1, x.block < W.heap.size := by obtain ⟨m, hm⟩ := k1; exact DataW.trod_lt m _ _ _ hm
  obtain ⟨fu1, hf1⟩ := h1
  obtain ⟨r_, rr1, sm1⟩ := rd34.2 _ _ _ hf1
  replace sm1 := sm1 (fun n hn => by have := List.all_eq_true.1 hsz n (DataW.weights_mem_each (j := 1) (t := 34) rfl rfl n hn); simpa using this)
  obtain ⟨⟨cs1⟩, rfl, _⟩ := okWide_struct Try.underlying34 (hval 1 34 v1 rfl rfl)
  replace rr1 : rXReason.rd W [] cs1 r_ := rr1
  obtain ⟨_, _, rfl, ⟨a_r__variables, c_r__variables, rfl, f_r__variables⟩, ⟨a_r__places, c_r__places, rfl, f_r__places⟩⟩ := rr1
  have hm : m9_overflightlaw32_ReasonPart p r_ = some true := ReasonPart_law _ _ sm0 sm1
  have hc := Fn.calls (c9_overflightlaw32_ReasonPart (p := p) (r_ := r_) (w := W) (O := []) (by simp) f_p_cells f_p_capacity f_p_variables f_r__variables f_r__places hm)
  clear hA0 hval0
  refine Calls.mono hc ?_
  rintro e W' ⟨v, rfl, bel, hv⟩
  replace bel := bel.below; obtain rfl : v = .bool true := hv
  exact ⟨_, rfl, _, _, _, [], _, [], hW', trodAll_mk1 (shut_bool Try.underlying4 _), (trodAll_cons_mk (Below.trod laidOut (by kernel_rfl) (of_decide_eq_true (by kernel_rfl)) k0 bel lt0) (trodAll_cons_mk (Below.trod laidOut (by kernel_rfl) (of_decide_eq_true (by kernel_rfl)) k1 bel lt1) trodAll_mk0)), rfl, bel.frame _, fun h => by cases h⟩
theorem over : Rows.reasonPartRow.holds Try.pinned (OpenSpec.ofChange Rows.reasonPartSpec) :=
  OpenClaim.holds_of_wide 9 Try.f9 rfl rfl rfl rfl rfl rfl rfl ⟨rfl, rfl, rfl, rfl, rfl⟩ rfl rfl rfl rfl rfl (by kernel_rfl) Try.func9 (by kernel_rfl)
    (of_decide_eq_true (by kernel_rfl)) (by unfold Func.isWrapper; first | (rw [if_pos (by decide +kernel)]; kernel_rfl) | (rw [if_neg (by decide +kernel)]; exact ⟨rfl, rfl⟩))
    (fun os started H enc _ => lifted os started H enc)
theorem proved : Rows.ReasonPartSaid := over
end Go.Proofs.Ytijekcoafilmeaa.lawReasonPart
