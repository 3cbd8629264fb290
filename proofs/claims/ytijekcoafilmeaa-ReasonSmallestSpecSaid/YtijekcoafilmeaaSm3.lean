/- Part 3 of the proof: smallest agrees with the reference. -/
import Derived.Test.YtijekcoafilmeaaSm2
set_option linter.unusedVariables false
set_option linter.unusedSimpArgs false
set_option maxRecDepth 100000
set_option maxHeartbeats 0
namespace Go.Fx
open Go Go.RowKit Go.Proofs
abbrev W0:List Nat:=[4,5,22,23,24,25,26,27,28,29,30]

abbrev W1:List Nat:=[15,56,57,58,59,60,61,62,63,64,65,66,67,68,69]

abbrev Uv:List Nat:=[13,15,49,50,51,52,53,54,55,56,57,58,59,60,61,62,63,64,65,66,67,68,69,70]

abbrev SP:List Nat:=[8,10,11,13,15,41,42,43,44,45,46,47,48,49,50,51,52,53,54,55,56,57,58,59,60,61,62,63,64,65,66,67,68,69,70,71,72,73,74,75]

abbrev QT:List Nat:=[7,8,10,11,13,15,34,35,36,37,38,39,40,41,42,43,44,45,46,47,48,49,50,51,52,53,54,55,56,57,58,59,60,61,62,63,64,65,66,67,68,69,70,71,72,73,74,75,76,77,78,79,80,81,82]

def EN (p:A9) (I:List (AK × Int)) (A:Int) (Q:Int) (J:Int) (M:Int→(List (A8 × Int))→Option DL) (N:Int→(List (A8 × Int))→Option DL) (F:Int) (G:List (A8 × Int)):Option DL:=
 bif (decide (F<(((p.variables.getD A.toNat default).leaves).length:Int))) then
  ck ((0:Int)≤F∧F<(((p.variables.getD A.toNat default).leaves).length:Int))<|
  N (IntKind.wrap .i64 (F+1)) (DJ G (⟨((p.variables.getD A.toNat default).leaves).getD F.toNat default,(B0 I ((((((p.variables.getD A.toNat default).choices).getD Q.toNat default).uses).getD J.toNat default).cell)).getD 0⟩:A8) ((((((p.variables.getD A.toNat default).choices).getD Q.toNat default).uses).getD J.toNat default).places))
 else
  M (IntKind.wrap .i64 (J+1)) G

def EO (p:A9) (J:List (AK × Int)) (F:Int) (N:List (List (A8 × Int))) (G:Int) (Q:(List (List (A8 × Int)))→Int→Option DL) (M:Int→(List (A8 × Int))→Option DL) (I:Int) (A:List (A8 × Int)):Option DL:=
 bif (decide (I<(((((p.variables.getD F.toNat default).choices).getD G.toNat default).uses).length:Int))) then
  ck ((0:Int)≤I∧I<(((((p.variables.getD F.toNat default).choices).getD G.toNat default).uses).length:Int))<|
  B8 (EN p J F G I M) (((((p.variables.getD F.toNat default).leaves).length:Int) - 0).toNat+1) 0 A
 else
  ck ((N.length+[A].length)*8≤140737488355328)<|
  Q (N++[A]) (IntKind.wrap .i64 (G+1))

def EP (p:A9) (G:List (AK × Int)) (A:Int) (J:List (List (List (A8 × Int)))) (M:Int→(List (List (List (A8 × Int))))→Option DL) (N:(List (List (A8 × Int)))→Int→Option DL) (I:List (List (A8 × Int))) (F:Int):Option DL:=
 bif (decide (F<(((p.variables.getD A.toNat default).choices).length:Int))) then
  ck ((0:Int)≤F∧F<(((p.variables.getD A.toNat default).choices).length:Int))<|
  B8 (EO p G A I F N) (((((((p.variables.getD A.toNat default).choices).getD F.toNat default).uses).length:Int) - 0).toNat+1) 0 ([]:List (A8 × Int))
 else
  ck ((J.length+[I].length)*24≤140737488355328)<|
  M (IntKind.wrap .i64 (A+1)) (J++[I])

def Eu (p:A9) (F:List (AK × Int)) (G:Int→(List (List (List (A8 × Int))))→Option DL) (A:Int) (I:List (List (List (A8 × Int)))):Option DL:=
 bif (decide (A<(p.variables.length:Int))) then
  ck ((0:Int)≤A∧A<(p.variables.length:Int))<|
  B8 (EP p F A I G) (((((p.variables.getD A.toNat default).choices).length:Int) - 0).toNat+1) ([]:List (List (A8 × Int))) 0
 else
  some (⟨p,I⟩:DL)

def EQ (p:A9) (G:Int→(List (AK × Int))→Option DL) (A:Int) (F:List (AK × Int)):Option DL:=
 bif (decide (A<(p.cells.length:Int))) then
  ck ((0:Int)≤A∧A<(p.cells.length:Int))<|
  G (IntKind.wrap .i64 (A+1)) (DJ F (p.cells.getD A.toNat default) A)
 else
  B8 (Eu p F) (((p.variables.length:Int) - 0).toNat+1) 0 ([]:List (List (List (A8 × Int))))

def FV (p:A9):Option DL:=
 B8 (EQ p) (((p.cells.length:Int) - 0).toNat+1) 0 ([]:List (AK × Int))

theorem Jk {w:World} {O:List Nat} {p:A9} {Aa:Option Addr} {Ca:Nat} {Ab:Option Addr} {Cb:Nat} {Ac:Option Addr} {Cc:Nat} (hO:∀k∈O,k<w.heap.size) (Fa:CA B2 w O Aa Ca p.cells) (Fb:CA (BE (AM .i64)) w O Ab Cb p.capacity) (Fc:CA AT w O Ac Cc p.variables) {x:DL} (G:FV p=some x):
 Ok Try.prog 42 [Value.agg (C0 p Aa Ca Ab Cb Ac Cc).toArray] w O (vA KH) x:=by
 unfold FV at G
 refine Bt (n:=84) (xs:=[.cell 2 80]) Try.func42 Av Try.ntmps42 Try.results42 Av ?_
 have hs:=St.start hO
 refine Ax<|Aw<|AA<|BV (cs:=(C0 p Aa Ca Ab Cb Ac Cc)) hs Av Av ?_
 intro b1 w2 _ p3 dS
 refine AA<|Bx Li dS ?_
 intro b6 w7 _ p8 c8
 clear dS
 refine Ay<|Ax<|Aw<|AA<|Bz 1 Bw c8 Av Av Av<|AA<|AP 0 Li Av Bw Av Av<|Bk<|UX (cs':=[Sl Aa p.cells Ca,Sl Ab p.capacity Cb,Sl Ac p.variables Cc,Value.slice none 0 0]) .z Bw c8 Av Av Av Av (BG Av) Av Av ?_
 intro gO eU cF
 clear c8
 refine Ay<|Ax<|Aw<|AA<|H6 cF ?_
 intro aA gP eV bJ
 clear cF
 have eW:Mo Jp (Hl .i64) (Obj.map #[] 0) ([]:List (AK × Int)):=Mo.nil_
 refine Bn (Value.map (some aA)) Av<|Ay<|Ax<|Ax<|Aw<|AA<|AP 0 Bw Av F1 Av Av<|AA<|AQ 2 F1 bJ Av Av Av<|AA<|Bd Try.underlying22 Av ?_
 have dT:=(p3.trans (p8.trans (eU.trans eV)))
 replace Fa:=Fa.step dT
 have fK:=Bb Fa
 refine Be (Iv 0) Av<|Ay<|AE<|Wr [] [(1,Pt b1 0),(2,Pt b6 0),(3,Value.map (some aA)),(20,Sl Aa p.cells Ca),(21,Iv (p.cells.length:Int)),(22,Iv 0)] fun fL=>Bh W0 (fun m fr w'=>∃(aB:Int) (I:List (AK × Int)) (X:Obj) (M:Bi),M=[(some aA,X),(some b6,Oc [Sl Aa p.cells Ca,Sl Ab p.capacity Cb,Sl Ac p.variables Cc,Value.slice none 0 0] 80),(some b1,Oc (C0 p Aa Ca Ab Cb Ac Cc) 26)]∧fr [] [(22,Iv aB)]∧bJ.S (ks M O) w'∧St ⟨w,[],[]⟩ O w' M∧BR .i64 aB∧Mo Jp (Hl .i64) X I∧B8 (EQ p) m aB I=some x) (((p.cells.length:Int) - 0).toNat+1) ⟨0,([]:List (AK × Int)),Obj.map #[] 0,_,Av,BB.of ⟨Av,trivial⟩,AB.refl _ _,bJ,EG,eW,G⟩ ?_ ?_
 rintro _ _ ⟨_,_,_,_,_,_,_,_,_,_,G⟩;exact D9 G
 rintro gQ gR dU fM gS ⟨aB,I,X,_,rfl,bK,aN,a5,Ra,aQ,G⟩
 obtain⟨fN,c9,G⟩:=DA G;unfold EQ at G
 rw [bK.eq];clear bK
 have bL:=aN
 refine Ax<|Aw<|AA<|Bu Av Av<|Ay<|Ax<|AF G Av (fun dV G=>?_) (fun dV G=>?_)
 refine AH<|Ax<|AE<|Ax<|Aw<|Be (Iv aB) Av ?_
 obtain⟨cG,G⟩:=AG G
 replace Fa:=Fa.step aN
 refine AA<|AC (q:=B2) F1 Eo Av Av Fa Av cG.1 cG.2 ?_
 intro gT dW
 refine AA<|BF Eo Av dW Av ?_
 intro fO eX
 obtain⟨_,_,rfl,rfl,⟨_,_,rfl,⟨rfl,Rb⟩,⟨rfl,Rc⟩⟩⟩:=eX
 refine AA<|Bx Eo a5 ?_
 intro gU gV _ eY cH
 clear a5
 refine Bn (Iv aB) Av<|Bk<|Cx .z Eo cH Av Av Av Av Av ?_
 intro gW eZ bM
 clear cH
 refine Ay ?_
 clear dW
 refine Aw<|Be (Value.map (some aA)) Av<|AA<|Bz 0 Eo bM Av Av Av<|Be (Iv aB) Av<|Bk<|Hh (q:=Jp) (m:=(Hl .i64)) (n:=gt p.cells aB) (v:=aB) (i:=1) Try.underlying113 QQ bM Av aQ Av Av Av Av (And.intro Rb Rc) Ra ?_
 intro e0 gX e1 bN e2
 clear bM
 refine Ay<|Aw<|AA<|Bm Av Av<|Be (Iv (wq (aB+1))) Av<|Ay ?_
 have dX:=bN.drop 0
 have e3:=(bN.dropS 0)
 clear bN
 have e4:=(eY.trans (eZ.trans (e1.trans e3)))
 replace bL:=bL.trans e4
 exact dU _ _ ⟨(wq (aB+1)),DJ I (gt p.cells aB) aB,e0,_,Av,BB.of ⟨Av,trivial⟩,bL,dX,(AZ .i64 _),e2,GD c9 G⟩
 refine Br<|Ax<|Ax<|Aw<|AA<|AP 2 Bw Av CI Av Av<|AA<|AQ 2 CI a5 Av Av Av<|AA<|Bd Try.underlying24 Av ?_
 have dY:=(dT.trans aN)
 replace Fc:=Fc.step dY
 have fP:=Bb Fc
 refine Be (Iv 0) Av<|Ay<|AE<|Wr [] [(2,Pt b6 0),(3,Value.map (some aA)),(32,Sl Ac p.variables Cc),(33,Iv (p.variables.length:Int)),(34,Iv 0)] fun bO=>?_
 have cI:=a5.ghost (Obj.cells #[] 114)
 refine Bh QT (fun m fr w'=>∃(A:Int) (Q:List (List (List (A8 × Int)))) (Ad:Option Addr) (Cd:Nat) (Y:Option Nat) (Z:Obj) (M:Bi),M=[(Y,Z),(some aA,X),(some b6,Oc [Sl Aa p.cells Ca,Sl Ab p.capacity Cb,Sl Ac p.variables Cc,Sl Ad Q Cd] 80),(some b1,Oc (C0 p Aa Ca Ab Cb Ac Cc) 26)]∧fr [] [(34,Iv A)]∧cI.S (ks M O) w'∧St ⟨w,[],[]⟩ O w' M∧BR .i64 A∧Gs (BE (JN AV (Hl .i64))) 114 w' (ks M O) Ad Cd Q Y Z∧B8 (Eu p I) m A Q=some x) (((p.variables.length:Int) - 0).toNat+1) ⟨0,([]:List (List (List (A8 × Int)))),none,0,none,Obj.cells #[] 114,_,Av,BB.of ⟨Av,trivial⟩,AB.refl _ _,cI,EG,Gs.nil_,G⟩ ?_ ?_
 rintro _ _ ⟨_,_,_,_,_,_,_,_,_,_,_,_,_,G⟩;exact D9 G
 rintro gY gZ dZ fQ g1 ⟨A,Q,Ad,Cd,Y,Z,_,rfl,bP,aI,a6,Rd,Fd,G⟩
 obtain⟨d0,dA,G⟩:=DA G;unfold Eu at G
 rw [bP.eq];clear bP
 have bQ:=aI
 refine Ax<|Aw<|AA<|Bu Av Av<|Ay<|Ax<|AF G Av (fun d1 G=>?_) (fun d1 G=>?_)
 refine AH<|Ax<|AE<|Ax<|Aw ?_
 obtain⟨cJ,G⟩:=AG G
 replace Fc:=Fc.step aI
 refine AA<|AC (q:=AT) CI Ex Av Av Fc Av cJ.1 cJ.2 ?_
 intro g2 d2
 refine AA<|BF Ex Av d2 Av ?_
 intro fR e5
 obtain⟨_,_,rfl,⟨rfl,Re⟩,⟨_,_,rfl,⟨rfl,Rf⟩,⟨_,_,rfl,⟨Ae,Ce,rfl,Fe⟩,⟨Af,Cf,rfl,Ff⟩⟩⟩⟩:=e5
 refine AA<|Bx Ex a6 ?_
 intro bH g3 _ e6 cK
 clear a6
 refine Bk<|Cx .z Ex cK Av Av Av Av Av ?_
 intro g4 e7 cL
 clear cK
 refine Ay<|Ax ?_
 clear d2
 refine Aw<|Bn (Value.slice none 0 0) Av<|Ay<|Ax<|Ax<|Aw<|AA<|AP 3 Ex Av G0 Av Av<|AA<|AQ 0 G0 cL Av Av Av<|AA<|Bd Try.underlying59 Av ?_
 have dB:=(e6.trans e7)
 replace Ff:=Ff.step dB
 have fS:=Bb Ff
 refine Be (Iv 0) Av<|Ay<|AE<|Ip QT [] (CK ⟨bO,[]⟩ [(2,Pt b6 0),(3,Value.map (some aA)),(32,Sl Ac p.variables Cc),(33,Iv (p.variables.length:Int)),(34,Iv 0)]) [(7,Pt bH 0),(8,Value.slice none 0 0),(34,Iv A),(39,Sl Af ((gt p.variables A).choices) Cf),(40,Iv (((gt p.variables A).choices).length:Int)),(41,Iv 0)] fun cM=>?_
 have bR:=cL.ghost (Obj.cells #[] 115)
 refine Bh SP (fun m fr w'=>∃(N:List (List (A8 × Int))) (F:Int) (Ag:Option Addr) (Cg:Nat) (aJ:Option Nat) (aK:Obj) (M:Bi),M=[(aJ,aK),(some bH,Oc [Iv ((gt p.variables A).flight),Iv ((gt p.variables A).node),Sl Ae ((gt p.variables A).leaves) Ce,Sl Af ((gt p.variables A).choices) Cf] 61),(Y,Z),(some aA,X),(some b6,Oc [Sl Aa p.cells Ca,Sl Ab p.capacity Cb,Sl Ac p.variables Cc,Sl Ad Q Cd] 80),(some b1,Oc (C0 p Aa Ca Ab Cb Ac Cc) 26)]∧fr [] [(8,Sl Ag N Cg),(41,Iv F)]∧bR.S (ks M O) w'∧St ⟨w,[],[]⟩ O w' M∧Gs (JN AV (Hl .i64)) 115 w' (ks M O) Ag Cg N aJ aK∧BR .i64 F∧B8 (EP p I A Q d0) m N F=some x) (((((gt p.variables A).choices).length:Int) - 0).toNat+1) ⟨([]:List (List (A8 × Int))),0,none,0,none,Obj.cells #[] 115,_,Av,BB.of ⟨Av,Av,trivial⟩,AB.refl _ _,bR,Gs.nil_,EG,G⟩ ?_ ?_
 rintro _ _ ⟨_,_,_,_,_,_,_,_,_,_,_,_,_,G⟩;exact D9 G
 rintro fT g5 d3 e8 fU ⟨N,F,Ag,Cg,aJ,aK,_,rfl,a7,aE,aL,Fg,Rg,G⟩
 obtain⟨d4,dC,G⟩:=DA G;unfold EP at G
 rw [a7.eq];clear a7
 have aR:=aE
 refine Ax<|Aw<|AA<|Bu Av Av<|Ay<|Ax<|AF G Av (fun dD G=>?_) (fun dD G=>?_)
 refine AH<|Ax<|AE<|Ax<|Aw ?_
 obtain⟨bS,G⟩:=AG G
 replace Ff:=Ff.step aE
 refine AA<|AC (q:=BL) G0 Gy Av Av Ff Av bS.1 bS.2 ?_
 intro fV cN
 refine AA<|BF Gy Av cN Av ?_
 intro e9 d5
 obtain⟨_,_,rfl,⟨rfl,Rh⟩,⟨_,_,rfl,⟨rfl,Ri⟩,⟨_,_,rfl,⟨rfl,Rj⟩,⟨Ah,Ch,rfl,Fh⟩⟩⟩⟩:=d5
 refine AA<|Bx Gy aL ?_
 intro cO fW _ cP bT
 clear aL
 refine Bk<|Cx .z Gy bT Av Av Av Av Av ?_
 intro fX cQ bU
 clear bT
 refine Ay<|Ax ?_
 clear cN
 refine Aw<|AA<|H6 bU ?_
 intro U fY cR aS
 clear bU
 have d6:Mo AV (Hl .i64) (Obj.map #[] 0) ([]:List (A8 × Int)):=Mo.nil_
 refine Bn (Value.map (some U)) Av<|Ay<|Ax<|Ax<|Aw<|AA<|AP 3 Gy Av HK Av Av<|AA<|AQ 1 HK aS Av Av Av<|AA<|Bd Try.underlying56 Av ?_
 have cS:=(cP.trans (cQ.trans cR))
 replace Fh:=Fh.step cS
 have fA:=Bb Fh
 refine Be (Iv 0) Av<|Ay<|AE<|Ip SP [] (CK (IT QT [] cM (CK ⟨bO,[]⟩ [(2,Pt b6 0),(3,Value.map (some aA)),(32,Sl Ac p.variables Cc),(33,Iv (p.variables.length:Int)),(34,Iv 0)])) [(7,Pt bH 0),(8,Value.slice none 0 0),(34,Iv A),(39,Sl Af ((gt p.variables A).choices) Cf),(40,Iv (((gt p.variables A).choices).length:Int)),(41,Iv 0)]) [(8,Sl Ag N Cg),(11,Value.map (some U)),(41,Iv F),(47,Sl Ah ((gt ((gt p.variables A).choices) F).uses) Ch),(48,Iv (((gt ((gt p.variables A).choices) F).uses).length:Int)),(49,Iv 0)] fun dE=>Bh Uv (fun m fr w'=>∃(J:Int) (W:List (A8 × Int)) (aF:Obj) (M:Bi),M=[(some U,aF),(some cO,Oc [Iv ((gt ((gt p.variables A).choices) F).delay),Iv ((gt ((gt p.variables A).choices) F).cost),Iv ((gt ((gt p.variables A).choices) F).changes),Sl Ah ((gt ((gt p.variables A).choices) F).uses) Ch] 58),(aJ,aK),(some bH,Oc [Iv ((gt p.variables A).flight),Iv ((gt p.variables A).node),Sl Ae ((gt p.variables A).leaves) Ce,Sl Af ((gt p.variables A).choices) Cf] 61),(Y,Z),(some aA,X),(some b6,Oc [Sl Aa p.cells Ca,Sl Ab p.capacity Cb,Sl Ac p.variables Cc,Sl Ad Q Cd] 80),(some b1,Oc (C0 p Aa Ca Ab Cb Ac Cc) 26)]∧fr [] [(49,Iv J)]∧aS.S (ks M O) w'∧St ⟨w,[],[]⟩ O w' M∧BR .i64 J∧Mo AV (Hl .i64) aF W∧B8 (EO p I A N F d4) m J W=some x) (((((gt ((gt p.variables A).choices) F).uses).length:Int) - 0).toNat+1) ⟨0,([]:List (A8 × Int)),Obj.map #[] 0,_,Av,BB.of ⟨Av,trivial⟩,AB.refl _ _,aS,EG,d6,G⟩ ?_ ?_
 rintro _ _ ⟨_,_,_,_,_,_,_,_,_,_,G⟩;exact D9 G
 rintro fZ f0 dF fB f1 ⟨J,W,aF,_,rfl,a8,aG,bV,Rk,a9,G⟩
 obtain⟨dG,cC,G⟩:=DA G;unfold EO at G
 rw [a8.eq];clear a8
 have aT:=aG
 refine Ax<|Aw<|AA<|Bu Av Av<|Ay<|Ax<|AF G Av (fun dH G=>?_) (fun dH G=>?_)
 refine AH<|Ax<|AE<|Ax<|Aw ?_
 obtain⟨bW,G⟩:=AG G
 replace Fh:=Fh.step aG
 refine AA<|AC (q:=FO) HK GU Av Av Fh Av bW.1 bW.2 ?_
 intro f2 cT
 refine AA<|BF GU Av cT Av ?_
 intro fC d7
 obtain⟨_,_,rfl,⟨_,_,rfl,rfl,⟨_,_,rfl,⟨rfl,Rl⟩,⟨rfl,Rm⟩⟩⟩,⟨rfl,Rn⟩⟩:=d7
 refine AA<|Bx GU bV ?_
 intro bA f3 _ cU dI
 refine Bk<|Cx .z GU dI Av Av Av Av Av ?_
 intro f4 cV aU
 refine Ay<|Ax ?_
 clear cT
 refine Aw<|AA<|AP 2 Ex Av Bp Av Av<|AA<|AQ 4 Bp aU Av Av Av<|AA<|Bd Try.underlying31 Av ?_
 have d8:=(dB.trans (aE.trans (cP.trans (cQ.trans (cR.trans (aG.trans (cU.trans cV)))))))
 replace Fe:=Fe.step d8
 have fD:=Bb Fe
 refine Be (Iv 0) Av<|Ay<|AE<|Ip Uv [] (CK (IT SP [] dE (CK (IT QT [] cM (CK ⟨bO,[]⟩ [(2,Pt b6 0),(3,Value.map (some aA)),(32,Sl Ac p.variables Cc),(33,Iv (p.variables.length:Int)),(34,Iv 0)])) [(7,Pt bH 0),(8,Value.slice none 0 0),(34,Iv A),(39,Sl Af ((gt p.variables A).choices) Cf),(40,Iv (((gt p.variables A).choices).length:Int)),(41,Iv 0)])) [(8,Sl Ag N Cg),(11,Value.map (some U)),(41,Iv F),(47,Sl Ah ((gt ((gt p.variables A).choices) F).uses) Ch),(48,Iv (((gt ((gt p.variables A).choices) F).uses).length:Int)),(49,Iv 0)]) [(13,Pt bA 0),(49,Iv J),(54,Sl Ae ((gt p.variables A).leaves) Ce),(55,Iv (((gt p.variables A).leaves).length:Int)),(56,Iv 0)] fun fE=>Bh W1 (fun m fr w'=>∃(aC:Int) (aM:List (A8 × Int)) (aH:Obj) (M:Bi),M=[(some bA,Oc [Bo (((gt ((gt ((gt p.variables A).choices) F).uses) J).cell).airport),Iv (((gt ((gt ((gt p.variables A).choices) F).uses) J).cell).index),Iv (((gt ((gt ((gt p.variables A).choices) F).uses) J).cell).minute),Iv ((gt ((gt ((gt p.variables A).choices) F).uses) J).places)] 76),(some U,aH),(some cO,Oc [Iv ((gt ((gt p.variables A).choices) F).delay),Iv ((gt ((gt p.variables A).choices) F).cost),Iv ((gt ((gt p.variables A).choices) F).changes),Sl Ah ((gt ((gt p.variables A).choices) F).uses) Ch] 58),(aJ,aK),(some bH,Oc [Iv ((gt p.variables A).flight),Iv ((gt p.variables A).node),Sl Ae ((gt p.variables A).leaves) Ce,Sl Af ((gt p.variables A).choices) Cf] 61),(Y,Z),(some aA,X),(some b6,Oc [Sl Aa p.cells Ca,Sl Ab p.capacity Cb,Sl Ac p.variables Cc,Sl Ad Q Cd] 80),(some b1,Oc (C0 p Aa Ca Ab Cb Ac Cc) 26)]∧fr [] [(56,Iv aC)]∧aU.S (ks M O) w'∧St ⟨w,[],[]⟩ O w' M∧BR .i64 aC∧Mo AV (Hl .i64) aH aM∧B8 (EN p I A F J dG) m aC aM=some x) (((((gt p.variables A).leaves).length:Int) - 0).toNat+1) ⟨0,W,aF,_,Av,BB.of ⟨Av,trivial⟩,AB.refl _ _,aU,EG,a9,G⟩ ?_ ?_
 rintro _ _ ⟨_,_,_,_,_,_,_,_,_,_,G⟩;exact D9 G
 rintro f5 f6 dJ fF f7 ⟨aC,aM,aH,_,rfl,bB,aO,aD,Ro,bC,G⟩
 obtain⟨fG,cD,G⟩:=DA G;unfold EN at G
 rw [bB.eq];clear bB
 have aV:=aO
 refine Ax<|Aw<|AA<|Bu Av Av<|Ay<|Ax<|AF G Av (fun dK G=>?_) (fun dK G=>?_)
 refine AH<|Ax<|AE<|Ax<|Aw ?_
 obtain⟨bX,G⟩:=AG G
 replace Fe:=Fe.step aO
 refine AA<|AC (q:=(AM .i64)) Bp BD Av Av Fe Av bX.1 bX.2 ?_
 intro f8 cW
 refine AA<|AX BD Av cW Av ?_
 intro f9 d9
 obtain⟨rfl,Rp⟩:=C3 d9
 refine Bn (Iv (gt ((gt p.variables A).leaves) aC)) Av<|Ay ?_
 clear cW
 refine B9 (g0:=[]) (m:=9) (fl:=[]) (Dc aD) Av (.inl Av) Av (by decide+kernel) ?_  -- 22
 refine Ba (Value.map (some U)) (fun _ _ _ hi ht=>AD (v:=Value.map (some U)) (ht 11 Av)<|Gz hi)<|Ba (Iv (gt ((gt p.variables A).leaves) aC)) (fun _ _ _ hi ht=>AD (v:=Iv (gt ((gt p.variables A).leaves) aC)) (ht 15 Av)<|Gz hi)<|Ba (Value.map (some aA)) (fun _ _ _ hi ht=>AD (v:=Value.map (some aA)) (ht 3 Av)<|Gz hi)<|Ba (Pt bA 0) (fun _ _ _ hi ht=>AP 0 GU Av Eo (ht 13 Av) Av<|Gz hi)<|Ba (Value.agg [Bo (((gt ((gt ((gt p.variables A).choices) F).uses) J).cell).airport),Iv (((gt ((gt ((gt p.variables A).choices) F).uses) J).cell).index),Iv (((gt ((gt ((gt p.variables A).choices) F).uses) J).cell).minute)].toArray) (fun _ _ _ hi ht=>GI (vs:=[Bo (((gt ((gt ((gt p.variables A).choices) F).uses) J).cell).airport),Iv (((gt ((gt ((gt p.variables A).choices) F).uses) J).cell).index),Iv (((gt ((gt ((gt p.variables A).choices) F).uses) J).cell).minute)]) (i:=0) Eo (AB.nx hi).1 (ht 63 Av) Av Av Av<|Gz hi)<|Ba (Iv ((B0 I ((gt ((gt ((gt p.variables A).choices) F).uses) J).cell)).getD 0)) (fun _ _ _ hi ht=>Hg (q:=Jp) (m:=(Hl .i64)) (n:=(gt ((gt ((gt p.variables A).choices) F).uses) J).cell) (z:=0) Try.underlying113 QQ Try.zeroValue3 ((AB.nx hi).1.get (i:=6) Av) aQ (And.intro Rl Rm) (ht 62 Av) (ht 64 Av)<|Gz hi)<|Do (Value.agg [Iv (gt ((gt p.variables A).leaves) aC),Iv ((B0 I ((gt ((gt ((gt p.variables A).choices) F).uses) J).cell)).getD 0)].toArray) (fun fH gA g g6 hi ht=>?_) ?_
 refine Az (Dv (vs:=[Iv (gt ((gt p.variables A).leaves) aC),Iv ((B0 I ((gt ((gt ((gt p.variables A).choices) F).uses) J).cell)).getD 0)]) (parts:=[(0,.tmp 61),(1,.tmp 65)]) BW Ve (by simp only [List.map,(show ev _ (.tmp 61)=_ from(ht 61 Av)),(show ev _ (.tmp 65)=_ from(ht 65 Av))];rfl) ?_)
 exact Gz hi
 refine Ba (Pt bA 3) (fun _ _ _ hi ht=>AP 3 GU Av BD (ht 13 Av) Av<|Gz hi)<|Ba (Iv ((gt ((gt ((gt p.variables A).choices) F).uses) J).places)) (fun _ _ _ hi ht=>AQ 0 BD (AB.nx hi).1 (ht 67 Av) Av Av<|Gz hi)<|BA fun gB gC dL dM=>?_
 obtain⟨-,cE,-⟩:=dL
 obtain⟨aW,eA⟩:=AB.nx dM
 rintro _ rfl _ rfl _ rfl _ rfl _ rfl _ rfl _ rfl _ rfl _ rfl
 have eB:=aD.to aW (cE.trans eA)
 clear aD
 refine Bk<|Hh (q:=AV) (m:=(Hl .i64)) (n:=(⟨gt ((gt p.variables A).leaves) aC,(B0 I ((gt ((gt ((gt p.variables A).choices) F).uses) J).cell)).getD 0⟩:A8)) (v:=(gt ((gt ((gt p.variables A).choices) F).uses) J).places) (i:=1) Try.underlying115 Is aW Av bC Av Av Av Av (And.intro Rp (aQ.ok EG)) Rn ?_
 intro eC gD eD dN eE
 clear aW
 refine Ay<|Aw<|AA<|Bm Av Av<|Be (Iv (wq (aC+1))) Av<|Ay ?_
 have eF:=(eB.trans eD)
 replace aV:=aV.trans eF
 exact dJ _ _ ⟨(wq (aC+1)),DJ aM (⟨gt ((gt p.variables A).leaves) aC,(B0 I ((gt ((gt ((gt p.variables A).choices) F).uses) J).cell)).getD 0⟩:A8) ((gt ((gt ((gt p.variables A).choices) F).uses) J).places),eC,_,Av,BB.of ⟨Av,trivial⟩,aV,dN,(AZ .i64 _),eE,GD cD G⟩
 refine Br<|Aw<|AA<|Bm Av Av<|Be (Iv (wq (J+1))) Av<|Ay ?_
 have dO:=aD.drop 0
 have eG:=(aD.dropS 0)
 clear aD
 have eH:=(cU.trans (cV.trans (aO.trans eG)))
 replace aT:=aT.trans eH
 exact dF _ _ ⟨(wq (J+1)),aM,aH,_,Av,BB.of ⟨Av,trivial⟩,aT,dO,(AZ .i64 _),bC,GD cC G⟩
 refine Br<|Aw<|Be (Sl Ag N Cg) Av<|Be (Value.map (some U)) Av ?_
 obtain⟨bY,eI,bD⟩:=St.publishM (i:=0) bV Av a9
 refine AA<|Bf (cs:=[Value.map (some U)]) (parts:=[(0,.tmp 72)]) Nf KW bY (by decide) Av ?_
 intro gE gF fI cX aX
 clear bY
 obtain⟨bZ,G⟩:=AG G
 replace bD:=bD.step cX
 have cY:=(cS.trans (aG.trans (eI.trans cX)))
 replace Fg:=Fg.step cY
 refine AA (DR (q:=JN AV (Hl .i64)) (i:=2) (xs:=N) (ys:=[W]) (news:=[Value.map (some U)]) Nf KW Av (by decide) aX Av Av Fg Av (Mm.owned' (len:=1) (aX.get (i:=0) Av) Av) (show Ej (JN AV (Hl .i64)) _ _ [Value.map (some U)] [W] from⟨_,_,Av,QH bD,Ej.nil⟩) bZ (by have:=bZ;simp only [maxLen,gt];omega) ?_)
 intro cZ c0 eJ eK gG eL aY b0
 clear aX
 have aZ:=aY.drop 0
 have c1:=(aY.dropS 0)
 clear aY
 refine Bn (Sl cZ (N++[W]) c0) Av<|Ay ?_
 clear bD
 refine Aw<|AA<|Bm Av Av<|Be (Iv (wq (F+1))) Av<|Ay ?_
 have dP:=aZ.drop 0
 have c2:=(aZ.dropS 0)
 clear aZ
 have eM:=(cY.trans (eL.trans (c1.trans c2)))
 replace aR:=aR.trans eM
 replace b0:=b0.step (c1.trans c2)
 exact d3 _ _ ⟨N++[W],(wq (F+1)),cZ,c0,eJ,eK,_,Av,BB.of ⟨Av,Av,trivial⟩,aR,dP,b0,(AZ .i64 _),GD dC G⟩
 refine Br<|Aw<|AA<|AP 3 Li Av OV Av Av<|AA<|AQ 4 OV aL Av Av Av<|Be (Sl Ag N Cg) Av ?_
 obtain⟨b2,eN,bE⟩:=Gs.publish (i:=0) aL Av Fg
 clear aL
 refine AA<|Bf (cs:=[Sl Ag N Cg]) (parts:=[(0,.tmp 78)]) OV Nf b2 (by decide) Av ?_
 intro gH gI fJ c3 a0
 clear b2
 obtain⟨b3,G⟩:=AG G
 replace bE:=bE.step c3
 have c4:=(dB.trans (aE.trans (eN.trans c3)))
 replace Fd:=Fd.step c4
 refine AA (DR (q:=BE (JN AV (Hl .i64))) (i:=2) (xs:=Q) (ys:=[N]) (news:=[Sl Ag N Cg]) OV Nf Av (by decide) a0 Av Av Fd Av (Mm.owned' (len:=1) (a0.get (i:=0) Av) Av) (show Ej (BE (JN AV (Hl .i64))) _ _ [Sl Ag N Cg] [N] from⟨_,_,Av,B5 bE,Ej.nil⟩) b3 (by have:=b3;simp only [maxLen,gt];omega) ?_)
 intro b4 b5 eO eP gJ eQ a1 b7
 clear a0
 have b8:=a1.drop 0
 have c5:=(a1.dropS 0)
 clear a1
 refine AA<|AP 3 Li Av OV Av Av<|Bk<|II (Sl b4 (Q++[N]) b5) (cs':=[Sl Aa p.cells Ca,Sl Ab p.capacity Cb,Sl Ac p.variables Cc,Sl b4 (Q++[N]) b5]) HG.p3 OV b8 Av Av Av (BG Av) Av Av ?_
 intro gK c6 a2
 clear b8
 refine Ay ?_
 clear bE
 refine Aw<|AA<|Bm Av Av<|Be (Iv (wq (A+1))) Av<|Ay ?_
 have dQ:=a2.drop 0
 have c7:=(a2.dropS 0)
 clear a2
 have eR:=(c4.trans (eQ.trans (c5.trans (c6.trans c7))))
 replace bQ:=bQ.trans eR
 replace b7:=b7.step (c5.trans (c6.trans c7))
 exact dZ _ _ ⟨(wq (A+1)),Q++[N],b4,b5,eO,eP,_,Av,BB.of ⟨Av,trivial⟩,bQ,dQ,(AZ .i64 _),b7,GD dA G⟩
 refine Br<|Ax ?_
 obtain⟨a3,bF⟩:=a6.sub (bs':=[(Y,Z),(some b6,Oc [Sl Aa p.cells Ca,Sl Ab p.capacity Cb,Sl Ac p.variables Cc,Sl Ad Q Cd] 80)]) (.cons_cons _ (.cons _ (.cons_cons _ (.cons _ List.Sublist.slnil))))
 clear a6
 refine Aw<|AA<|Bz 1 Li a3 Av Av Av<|Bk<|Cx HG.p1 Li a3 Av Av Av Av Av ?_
 intro gL bG b9
 clear a3
 refine Ay<|AY ?_
 have eS:=(bF.trans bG)
 replace Fd:=Fd.step eS
 obtain⟨a4,cA,cB⟩:=Gs.publish (i:=0) b9 Av Fd
 clear b9
 have hz:=Gp a4
 refine⟨_,En,[Value.agg [Sl Aa p.cells Ca,Sl Ab p.capacity Cb,Sl Ac p.variables Cc,Sl Ad Q Cd].toArray],⟨Lw (cs:=[Sl Aa p.cells Ca,Sl Ab p.capacity Cb,Sl Ac p.variables Cc,Sl Ad Q Cd]) (vs:=[Sl Aa p.cells Ca,Sl Ab p.capacity Cb,Sl Ac p.variables Cc,Sl Ad Q Cd]) Li (i:=0) a4 Av Av Av Av,trivial⟩,a4.ext,?_⟩
 replace cB:=cB.step hz
 replace Fb:=Fb.step (dY.trans (aI.trans (bF.trans (bG.trans (cA.trans hz)))))
 replace Fa:=Fa.step (aN.trans (aI.trans (bF.trans (bG.trans (cA.trans hz)))))
 have eT:=(aI.trans (bF.trans (bG.trans (cA.trans hz))))
 replace Fc:=Fc.step eT
 exact Vr.eq (a:=vA KH) (x:=(⟨p,Q⟩:DL)) (Jn (Cz (AU (Cz (AU (B5 Fa) (AU (B5 Fb) (B5 Fc)))) (B5 cB)))) (oi G)

def FL (s:List Int):Option (List Int):=
 ck ((([]:List Int).length+s.length)*8≤140737488355328)<|
 some (([]:List Int)++s)

theorem Jq {w:World} {O:List Nat} {s:List Int} {Aa:Option Addr} {Ca:Nat} (hO:∀k∈O,k<w.heap.size) (Fa:CA (AM .i64) w O Aa Ca s) {x:(List Int)} (F:FL s=some x):
 OI Try.prog 71 [Sl Aa s Ca] w O (AM .i64) 3 x:=by
 unfold FL at F
 refine Bt (n:=8) (xs:=[.tmp 2]) Try.func71 Av Try.ntmps71 Try.results71 Av ?_
 have hs:=St.start hO
 refine Ax<|Aw<|Bn (Value.slice none 0 0) Av<|Ay<|Ax<|Ax<|Aw<|Be (Sl Aa s Ca) Av<|AA<|Sn Try.underlying31 Av Av<|Ay ?_
 rcases Aa with _ |X
 have A:=(Fa.nil Av).1
 refine HY Av<|Ax ?_
 clear Fa
 refine Aw<|Bn (Value.slice none 0 0) Av<|Ay<|AY<|⟨_,En,[Value.slice none 0 0],⟨Av,trivial⟩,hs.ext,?_⟩
 exact OI.mkNil (by simp [ck,A] at F;first |exact F |(subst F;simp [A]) |simpa using F)
 refine HB Av<|AH<|Ax<|Aw<|AA<|Bf (cs:=[]) (parts:=[]) Bp BD hs (by decide) Av ?_
 intro Z w4 aB p5 J
 refine Be (Sl (some X) s Ca) Av ?_
 have f9:=Gs.of_cells (p:=(AM .i64)) (e:=3) (bl:=Z) (c:=0) (w:=w4) (O:=ks [(some Z,Oc [] 3)] O) (show Ej (AM .i64) _ _ [] [] from Ej.nil) Av (BG Av)
 obtain⟨G,F⟩:=AG F
 replace Fa:=Fa.step p5
 obtain⟨M,N,Q⟩:=Fa.src
 refine AA (DR (q:=(AM .i64)) (i:=0) (xs:=([]:List Int)) (ys:=s) (news:=M) Bp BD Av (by decide) J Av Av f9 Av Q N G (by have:=G;simp only [maxLen];omega) ?_)
 intro U W aE aF aG aH I Y
 clear J
 refine Bn (Sl U (([]:List Int)++s) W) Av<|Ay<|AY<|⟨_,En,[Sl U (([]:List Int)++s) W],⟨Av,trivial⟩,I.ext,?_⟩
 exact OI.mk (i:=0) I Av Y (oi F)
abbrev W2:List Nat:=[9,21,22,23,24,25,26,27,28,29,30,31,32,33,34,35,36,37,38,39,40,41,42,43,44,45,46]

def El (at_:Int) (G:Int) (I:Int) (J:(Int × Int) × (List Int)→Option (List (List Int) × (List Int))) (M:(List Int)→Option (List (List Int) × (List Int))) (A:List Int):Option (List (List Int) × (List Int)):=
 ck ((0:Int)≤at_∧at_<(A.length:Int))<|
 bif (decide ((A.getD at_.toNat default)≤(IntKind.wrap .i64 (I - (IntKind.wrap .i64 (G - at_)))))) then
  ck ((0:Int)≤at_∧at_<(A.length:Int))<|
  S7 (J (((IntKind.wrap .i64 (at_+1)),(IntKind.wrap .i64 ((A.getD at_.toNat default)+1))),A)) (fun(F:List Int)=>
   ck ((0:Int)≤at_∧at_<(F.length:Int))<|
   ck ((0:Int)≤at_∧at_<(F.length:Int))<|
   M (F.set at_.toNat (IntKind.wrap .i64 ((F.getD at_.toNat default)+1))))
 else
  some (([]:List (List Int)),A)

def CX (at_:Int) (from_:Int) (G:Int) (I:Nat) (A:List Int) (J:Int) (M:(Int × Int) × (List Int)→Option (List (List Int) × (List Int))):Option (List (List Int) × (List Int)):=
 bif (decide (at_=G)) then
  (FL A).bind fun F=>
  Xr F (
  some (([]:List (List Int)),A))
 else
  ck ((0:Int)≤at_∧at_<(A.length:Int))<|
  B1 (El at_ G J M) 1000000 (A.set at_.toNat from_)

theorem Kx {w1:World} {O1:List Nat} {l:Nat} {at_:Int} {from_:Int} {aD:Int} {F:Nat} {aE:List Int} {aJ:Int} {aK:(Int × Int) × (List Int)→Option (List (List Int) × (List Int))} {Y:Addr} {aL:Addr} {Z:Addr} {A:Nat} {G:Obj} {Ca:Nat} {aA:Addr} {aB:Addr} (dM:∀k∈O1,k<w1.heap.size) (Ra:BR .i64 at_) (Rb:BR .i64 from_) (Fa:Iy (AM .i64) w1 (A::O1) Y aD) (Fb:Iy (Ld (Value.func (.yield l) #[] #[]) Av) w1 (A::O1) aL ()) (hbl:A ∉ O1) (hob:w1.heap[A]?=some G) (Fc:Iy (Ld (Value.slice (some ⟨A,0,none⟩) F Ca) Av) w1 (A::O1) Z ()) (aN:Ar .i64 3 Ca A F G aE) (Fd:Iy (AM .i64) w1 (A::O1) aA aJ) (Fe:Iy (TT Try.prog (J4 (vC (BE (AM .i64)))) l (Ar .i64 3 Ca A F) A (MR (vI .i64) (vI .i64))) w1 (A::O1) aB aK) {J Jx:JP (List Int)} (hJ:Gw J) (hJx:Gw Jx) {L:List (List Int)} {mz:List Int} (W:CX at_ from_ aD F aE aJ aK=some (L,mz)) (hY:GW Try.prog (J4 (vC (BE (AM .i64)))) L l J Jx) (h0:J [] w1 O1 [A]):
 Fn Try.prog 70 [Iv at_,Iv from_,Value.pointer (some Y),Value.pointer (some aL),Value.pointer (some Z),Value.pointer (some aA),Value.pointer (some aB)] w1 fun u w2=>∃O2 o2 m2,A ∉ O2∧w2.heap[A]?=some o2∧Ar .i64 3 Ca A F o2 m2∧((u=.bool true∧m2=mz∧J L w2 O2 [A])∨(u=.bool false∧∃pre,Jx pre w2 O2 [A])):=by
 unfold CX at W
 obtain⟨x,W,hL⟩:∃x,_=some (x,mz)∧L=[]++x:=⟨L,W,Av⟩
 refine Bt (n:=47) (xs:=[.tmp 9]) Try.func70 Av Try.ntmps70 Try.results70 Av ?_
 have hs:=St.startW dM hbl hob
 have hI:=NW.startM h0 hbl
 replace Fa:Iy (AM .i64) w1 (ks [(some A,G)] O1) Y aD:=Fa
 replace Fb:Iy (Ld (Value.func (.yield l) #[] #[]) Av) w1 (ks [(some A,G)] O1) aL ():=Fb
 replace Fc:Iy (Ld (Value.slice (some ⟨A,0,none⟩) F Ca) Av) w1 (ks [(some A,G)] O1) Z ():=Fc
 replace Fd:Iy (AM .i64) w1 (ks [(some A,G)] O1) aA aJ:=Fd
 replace Fe:Iy (TT Try.prog (J4 (vC (BE (AM .i64)))) l (Ar .i64 3 Ca A F) A (MR (vI .i64) (vI .i64))) w1 (ks [(some A,G)] O1) aB aK:=Fe
 have fA:=aN.2 w1 (ks [(some A,G)] O1);have hlA:F=aE.length:=aN.1.symm
 refine Ax<|Aw<|Bn (Bo false) Av<|Ay<|Ax<|Ax<|Aw<|Be (Iv at_) Av<|AA<|AX BD Av Fa Av ?_
 intro v1 h2
 obtain⟨rfl,Rc⟩:=C3 h2
 refine AA<|GV Av Av<|Ay<|AF W Av (fun dO W=>?_) (fun dO W=>?_)
 refine Ax ?_
 clear Fa Fd Fe
 refine B9 (g0:=[]) (m:=3) (fl:=[]) (Dc hs) Av (.inl Av) Av (by decide+kernel) ?_  -- 2
 refine Do (Value.func (.yield l) #[] #[]) (fun fB w6 g I hi N=>?_) ?_
 obtain⟨-,M,-⟩:=I
 replace Fb:=Fb.step M
 refine Az<|AX P9 (N 3 Av) Fb Av ?_
 intro v8 h9
 obtain rfl:=Ic h9
 exact Gz hi
 refine Do (Value.slice (some ⟨A,0,none⟩) F Ca) (fun eB fD g I hi N=>?_) ?_
 obtain⟨-,M,-⟩:=I
 replace Fc:=Fc.step M
 refine Az<|AX Bp (N 4 Av) Fc Av ?_
 intro fE dP
 obtain rfl:=Ic dP
 exact Gz hi
 obtain⟨aF,cN,W⟩:=bd W
 refine Bc (VD _ _ (vC (BE (AM .i64))) aF) (VD.stab _ _) (fun eC fF g I hi N=>?_) ?_
 obtain⟨-,M,-⟩:=I
 replace fA:=fA.step M
 have a2:=(AB.nx hi).1
 refine Az<|SH (i:=0) Try.call71 hi a2 Av fA (fun h=>Jq (s:=aE) (O:=[]) (by simp) h cN) (Wd (IH (N 14 Av) hlA) Av) ?_
 rintro fG fH cO dQ;exact Bs.call hi cO (show Vr.vd (vC (BE (AM .i64))) _ _ _ _ from dQ)
 refine BA fun fI fJ cP cQ=>?_
 obtain⟨-,b3,-⟩:=cP
 obtain⟨aW,cR⟩:=AB.nx cQ
 rintro fK b4
 replace b4:Vr.vd (vC (BE (AM .i64))) _ _ _ _:=b4
 obtain⟨Aa,Cb,rfl,Ff⟩:=BH b4
 rintro _ rfl _ rfl
 have cS:=hs.to aW (b3.trans cR)
 replace Ff:=Ff.step cR
 obtain⟨bT,W,cT⟩:=S9 W
 rw [cT] at hL
 refine AA (RI (pre:=([]:List _)) (a:=aF) Av Av hY hJ hI aW ⟨bT,by rw [hL];simp⟩ (show(J4 (vC (BE (AM .i64)))) _ _ _ _ from⟨_,Av,Ke (B5 Ff)⟩) ?_ ?_)
 intro fL O41 cU dR cV
 clear aW
 have bU:L=(([]:List _)++[aF])++bT:=by rw [hL];simp
 refine Bn (Bo true) Av<|Ay<|AY ?_
 have bN:=cV.finM hJ cU
 obtain⟨cW,cX⟩:=Prod.mk.inj (oi W)
 rw [← cW,List.append_nil] at bU;rw [← bU] at bN
 have dS:=(cS.trans dR)
 replace fA:=fA.step dS
 exact⟨_,En,[Value.bool true],⟨Av,trivial⟩,_,_,_,bN.2.1,bN.2.2,Ar.of fA hlA.symm,.inl ⟨Av,cX,bN.1⟩⟩
 intro fM O51 cY dT cZ
 clear aW
 refine Bn (Bo false) Av<|Ay<|AY ?_
 have b5:=cZ.finM hJx cY
 have dU:=(cS.trans dT)
 replace fA:=fA.step dU
 exact⟨_,En,[Value.bool false],⟨Av,trivial⟩,_,_,_,b5.2.1,b5.2.2,Ar.of fA hlA.symm,.inr ⟨Av,_,b5.1⟩⟩
 refine AH<|Ax<|Ax ?_
 clear Fb
 refine Aw<|AA<|AX Bp Av Fc Av ?_
 intro fN dV
 obtain rfl:=Ic dV
 refine Be (Iv at_) Av<|Be (Iv from_) Av ?_
 obtain⟨bV,W⟩:=AG W
 refine AA<|B7 Bp BD (IH Av hlA) Av fA bV ?_
 rintro _ ⟨⟩ -
 refine Bk<|Hf (vs:=[Iv from_]) (i:=0) (m:=at_) BD Av hs Av Av Av Av fA bV (AW Rb) ?_
 intro fO dW dX bW bO
 replace bO:Gs _ _ _ _ _ _ (aE.set at_.toNat from_) _ _:=bO
 have c0:F=(aE.set at_.toNat from_).length:=by simp only [List.length_set];exact hlA
 refine Ay<|AE<|Wr [] [(0,Iv at_),(2,Value.pointer (some Y)),(4,Value.pointer (some Z)),(5,Value.pointer (some aA)),(6,Value.pointer (some aB))] fun eD=>Bh W2 (fun m fr w'=>∃(Q:List Int) (aG:Obj) (a3 X:List (List Int)) (a4:World) (a5 Oz72:List Nat) (bP:Bi),bP=[(some A,aG)]∧fr [] []∧bW.S (ks bP Oz72) w'∧St ⟨a4,a5,[]⟩ Oz72 w' bP∧Gs (AM .i64) 3 w' (ks bP Oz72) (some ⟨A,0,none⟩) Ca Q (some A) aG∧F=Q.length∧NW J X ⟨a4,a5,[]⟩ Oz72∧L=X++a3∧B1 (El at_ aD aJ aK) m Q=some (a3,mz)) 1000000 ⟨aE.set at_.toNat from_,dW,x,([]:List _),w1,[A],O1,_,Av,BB.of trivial,AB.refl _ _,bW,bO,c0,hI,hL,W⟩ ?_ ?_
 rintro _ _ ⟨_,_,_,_,_,_,_,_,_,_,_,_,_,_,_,_,W⟩;exact Dg W
 rintro fP fQ c1 eE fR ⟨Q,aG,a3,X,a4,a5,Oz72,_,rfl,a6,a7,a8,Fg,aC,bX,aO,W⟩
 obtain⟨eF,b6,W⟩:=Dh W;unfold El at W
 rw [a6.eq];clear a6
 have a9:=a7
 refine Ax<|Ax ?_
 clear bO
 refine B9 (g0:=[]) (m:=9) (fl:=[]) (Dc a8) Av (.inl Av) Av (by decide+kernel) ?_  -- 4
 have bQ:=(dX.trans a7)
 replace Fc:=Fc.step bQ
 refine Do (Value.slice (some ⟨A,0,none⟩) F Ca) (fun eG fS g I hi N=>?_) ?_
 obtain⟨-,M,-⟩:=I
 replace Fc:=Fc.step M
 refine Az<|AX Bp (N 4 Av) Fc Av ?_
 intro fT dY
 obtain rfl:=Ic dY
 exact Gz hi
 refine Ba (Iv at_) (fun _ _ _ hi N=>AD (v:=Iv at_) (N 0 Av)<|Gz hi) ?_
 obtain⟨bY,W⟩:=AG W
 refine Do (Value.pointer (some ⟨A,at_.toNat*1,none⟩)) (fun eH fU g I hi N=>?_) ?_
 obtain⟨-,M,-⟩:=I
 replace Fg:=Fg.step M
 refine Az<|B7 Bp BD (IH (N 21 Av) aC) (N 22 Av) Fg bY ?_
 rintro _ ⟨⟩ -
 exact Gz hi
 refine Bc (VD _ _ (vI .i64) (gt Q at_)) (VD.stab _ _) (fun dZ eI g I hi N=>?_) ?_
 obtain⟨-,M,-⟩:=I
 replace Fg:=Fg.step M
 have a2:=(AB.nx hi).1
 refine Az<|Gr (m:=at_) (i:=0) BD Av a2 Av (N 23 Av) Fg bY ?_
 intro eJ c2
 obtain⟨rfl,Rd⟩:=C3 c2
 exact Bs.same hi (show Vr.vd (vI .i64) _ _ _ _ from⟨Av,Rd⟩)
 replace Fd:=Fd.step bQ
 refine Bc (VD _ _ (vI .i64) aJ) (VD.stab _ _) (fun d0 eK g I hi N=>?_) ?_
 obtain⟨-,M,-⟩:=I
 replace Fd:=Fd.step M
 refine Az<|AX BD (N 5 Av) Fd Av ?_
 intro eL c3
 obtain⟨rfl,Re⟩:=C3 c3
 exact Bs.same hi (show Vr.vd (vI .i64) _ _ _ _ from⟨Av,Re⟩)
 replace Fa:=Fa.step bQ
 refine Bc (VD _ _ (vI .i64) aD) (VD.stab _ _) (fun d1 eM g I hi N=>?_) ?_
 obtain⟨-,M,-⟩:=I
 replace Fa:=Fa.step M
 refine Az<|AX BD (N 2 Av) Fa Av ?_
 intro eN c4
 obtain⟨rfl,Rf⟩:=C3 c4
 exact Bs.same hi (show Vr.vd (vI .i64) _ _ _ _ from⟨Av,Rf⟩)
 refine Ba (Iv at_) (fun _ _ _ hi N=>AD (v:=Iv at_) (N 0 Av)<|Gz hi)<|Do (Iv (wq (aD - at_))) (fun d2 eO g I hi N=>?_) ?_
 have c5:Vr.vd (vI .i64) _ _ _ _:=N 26 Av
 obtain⟨c6,Rg⟩:=c5
 exact Az<|FC c6 (N 27 Av)<|Gz hi
 refine Do (Iv (wq (aJ - (wq (aD - at_))))) (fun d3 eP g I hi N=>?_) ?_
 have c7:Vr.vd (vI .i64) _ _ _ _:=N 25 Av
 obtain⟨c8,Rh⟩:=c7
 exact Az<|FC c8 (N 28 Av)<|Gz hi
 refine BA fun eQ eR b7 b8=>?_
 obtain⟨-,bR,-⟩:=b7
 obtain⟨aH,c9⟩:=AB.nx b8
 rintro _ rfl _ rfl _ rfl eS bA
 replace bA:Vr.vd (vI .i64) _ _ _ _:=bA
 obtain⟨rfl,Ri⟩:=bA
 rintro eT bB
 replace bB:Vr.vd (vI .i64) _ _ _ _:=bB
 obtain⟨rfl,Rj⟩:=bB
 rintro eU bC
 replace bC:Vr.vd (vI .i64) _ _ _ _:=bC
 obtain⟨rfl,Rk⟩:=bC
 rintro _ rfl _ rfl _ rfl
 have aP:=a8.to aH (bR.trans c9)
 clear a8
 refine AA<|HZ Av Av<|Ay<|AF W Av (fun b9 W=>?_) (fun b9 W=>?_)
 refine AH<|Ax<|AE<|Ax<|B9 (g0:=[]) (m:=8) (fl:=[]) (Dc aH) Av (.inl Av) Av (by decide+kernel) ?_  -- 6
 replace Fe:=Fe.step (bQ.trans aP)
 refine Bc (VD _ _ (UZ Try.prog (J4 (vC (BE (AM .i64)))) l (Ar .i64 3 Ca A F) A (MR (vI .i64) (vI .i64))) aK) (VD.stab _ _) (fun d4 eV g I hi N=>?_) ?_
 obtain⟨-,M,-⟩:=I
 replace Fe:=Fe.step M
 refine Az<|AX QO (N 6 Av) Fe Av ?_
 intro eW bZ
 have F160:=SF bZ;clear bZ
 exact Bs.same hi (show Vr.vd (UZ Try.prog (J4 (vC (BE (AM .i64)))) l (Ar .i64 3 Ca A F) A (MR (vI .i64) (vI .i64))) _ _ _ _ from F160)
 refine Ba (Iv at_) (fun _ _ _ hi N=>AD (v:=Iv at_) (N 0 Av)<|Gz hi)<|Ba (Iv (wq (at_+1))) (fun _ _ _ hi N=>Bm (N 38 Av) Av<|Gz hi) ?_
 replace Fc:=Fc.step aP
 refine Do (Value.slice (some ⟨A,0,none⟩) F Ca) (fun d5 eX g I hi N=>?_) ?_
 obtain⟨-,M,-⟩:=I
 replace Fc:=Fc.step M
 refine Az<|AX Bp (N 4 Av) Fc Av ?_
 intro eY dA
 obtain rfl:=Ic dA
 exact Gz hi
 refine Ba (Iv at_) (fun _ _ _ hi N=>AD (v:=Iv at_) (N 0 Av)<|Gz hi) ?_
 obtain⟨bD,W⟩:=AG W
 replace Fg:=Fg.step aP
 refine Do (Value.pointer (some ⟨A,at_.toNat*1,none⟩)) (fun d6 eZ g I hi N=>?_) ?_
 obtain⟨-,M,-⟩:=I
 replace Fg:=Fg.step M
 refine Az<|B7 Bp BD (IH (N 40 Av) aC) (N 41 Av) Fg bD ?_
 rintro _ ⟨⟩ -
 exact Gz hi
 refine Bc (VD _ _ (vI .i64) (gt Q at_)) (VD.stab _ _) (fun d7 e0 g I hi N=>?_) ?_
 obtain⟨-,M,-⟩:=I
 replace Fg:=Fg.step M
 have a2:=(AB.nx hi).1
 refine Az<|Gr (m:=at_) (i:=0) BD Av a2 Av (N 42 Av) Fg bD ?_
 intro e1 dB
 obtain⟨rfl,Rl⟩:=C3 dB
 exact Bs.same hi (show Vr.vd (vI .i64) _ _ _ _ from⟨Av,Rl⟩)
 refine Do (Iv (wq ((gt Q at_)+1))) (fun d8 e2 g I hi N=>?_) ?_
 have dC:Vr.vd (vI .i64) _ _ _ _:=N 43 Av
 obtain⟨dD,Rm⟩:=dC
 exact Az<|Bm dD Av<|Gz hi
 refine BA fun b0 e3 cA cB=>?_
 obtain⟨-,bS,-⟩:=cA
 obtain⟨aM,b1⟩:=AB.nx cB
 rintro _ rfl e4 bE
 replace bE:Vr.vd (vI .i64) _ _ _ _:=bE
 obtain⟨rfl,Rn⟩:=bE
 rintro _ rfl _ rfl _ rfl _ rfl _ rfl dE bF
 replace bF:Vr.vd (UZ Try.prog (J4 (vC (BE (AM .i64)))) l (Ar .i64 3 Ca A F) A (MR (vI .i64) (vI .i64))) _ _ _ _:=bF
 have F209:=bF
 replace F209:Hm Try.prog (J4 (vC (BE (AM .i64)))) l (Ar .i64 3 Ca A F) A _ _ dE (MR (vI .i64) (vI .i64)) aK:=F209
 have bG:=aH.to aM (bS.trans b1)
 replace F209:=F209.step b1;clear aH
 obtain⟨A211,U,aT,cC,W,cD⟩:=RG W
 rw [cD] at aO
 replace Fg:=Fg.step bG
 refine AA (Mt (pre:=X) (Lx:=A211) (i:=0) (mp:=Q) (mz:=U) Av F209 Av NT (show MR (vI .i64) (vI .i64) ((wq (at_+1)),(wq ((gt Q at_)+1))) _ _ _ from⟨_,_,Av,⟨Av,(AZ .i64 _)⟩,⟨Av,(AZ .i64 _)⟩⟩) cC hY hJ hJx bX aM Av (Ar.of Fg aC.symm) ⟨aT,by rw [aO];simp⟩ ?_ ?_)
 intro aQ O216 aR aI aX cE bH
 replace aI:St ⟨aQ,List.filterMap Prod.fst [(some A,aR)],[]⟩ O216 aQ [(some A,aR)]:=aI
 replace aX:AB (ks [(some A,aG)] Oz72) b0 (ks [(some A,aR)] O216) aQ:=aX
 clear aM
 have aY:=bH.2 aQ (ks [(some A,aR)] O216);have aU:F=U.length:=bH.1.symm;clear bH
 have cF:L=(X++A211)++aT:=by rw [aO];simp
 refine AA<|Es Av<|Ay<|HB Av<|AH ?_
 clear F209
 refine Aw ?_
 have dF:=(bG.trans aX)
 replace Fc:=Fc.step dF
 refine AA<|AX Bp Av Fc Av ?_
 intro e5 dG
 obtain rfl:=Ic dG
 refine Be (Iv at_) Av ?_
 obtain⟨bI,W⟩:=AG W
 refine AA<|B7 Bp BD (IH Av aU) Av aY bI ?_
 rintro _ ⟨⟩ -
 refine AA<|Gr (m:=at_) (i:=0) BD Av aI Av Av aY bI ?_
 intro e6 dH
 obtain⟨rfl,Ro⟩:=C3 dH
 refine AA<|Bm Av Av ?_
 obtain⟨bJ,W⟩:=AG W
 refine AA<|B7 Bp BD (IH Av aU) Av aY bJ ?_
 rintro _ ⟨⟩ -
 refine Bk<|Hf (vs:=[Iv (wq ((gt U at_)+1))]) (i:=0) (m:=at_) BD Av aI Av Av Av Av aY bJ (AW (AZ .i64 _)) ?_
 intro e7 dI dJ cG bK
 replace bK:Gs _ _ _ _ _ _ (U.set at_.toNat (wq ((gt U at_)+1))) _ _:=bK
 clear aI
 have cH:F=(U.set at_.toNat (wq ((gt U at_)+1))).length:=by simp only [List.length_set];exact aU
 refine Ay ?_
 have dK:=(aP.trans (bG.trans (aX.trans dJ)))
 replace a9:=a9.trans dK
 exact c1 _ _ ⟨U.set at_.toNat (wq ((gt U at_)+1)),dI,aT,X++A211,aQ,List.filterMap Prod.fst [(some A,aR)],O216,_,Av,BB.of trivial,a9,cG,bK,cH,cE,cF,Ed b6 W⟩
 intro aZ O244 a0 cI _ aV b2 cJ bL
 replace aV:St ⟨aZ,List.filterMap Prod.fst [(some A,a0)],[]⟩ O244 aZ [(some A,a0)]:=aV
 replace b2:AB (ks [(some A,aG)] Oz72) b0 (ks [(some A,a0)] O244) aZ:=b2
 clear aM
 have dL:=bL.2 aZ (ks [(some A,a0)] O244);have cK:F=cI.length:=bL.1.symm;clear bL
 refine AA<|Es Av<|Ay<|HY Av<|Ax ?_
 clear Fa Fc Fd Fe F209
 refine Aw<|Bn (Bo false) Av<|Ay<|AY ?_
 have bM:=cJ.finM hJx aV
 exact⟨_,En,[Value.bool false],⟨Av,trivial⟩,_,_,_,bM.2.1,bM.2.2,Ar.of dL cK.symm,.inr ⟨Av,_,bM.1⟩⟩
 refine Br<|Ax ?_
 clear Fa Fc Fd Fe
 refine Aw<|Bn (Bo true) Av<|Ay<|AY ?_
 have a1:=bX.finM hJ aH
 obtain⟨cL,cM⟩:=Prod.mk.inj (oi W)
 rw [← cL,List.append_nil] at aO;rw [← aO] at a1
 replace Fg:=Fg.step aP
 exact⟨_,En,[Value.bool true],⟨Av,trivial⟩,_,_,_,a1.2.1,a1.2.2,Ar.of Fg aC.symm,.inl ⟨Av,cM,a1.1⟩⟩

def GF (A:Int) (G:Int):Option (List (List Int)):=
 ck ((0:Int)≤A∧A≤A∧(8:Int)*A≤281474976710656∧A≤281474976710656)<|
 S8 ((NB (fun I F=>CX F.1.1 F.1.2 A ((List.replicate A.toNat (0:Int)).length) F.2 G I) 1000000) ((0,0),List.replicate A.toNat (0:Int))) (fun(J:List Int)=>
  some ([]:List (List Int)))

theorem Lk {w:World} {O:List Nat} {A:Int} {U:Int} {F:Addr} {G:Addr} (hO:∀k∈O,k<w.heap.size) (Fa:Iy (AM .i64) w O F A) (Fb:Iy (AM .i64) w O G U) {L:List (List Int)} (hm:GF A U=some L):
 NR Try.prog w O 69 [Value.pointer (some F),Value.pointer (some G)] (J4 (vC (BE (AM .i64)))) L:=by
 unfold GF at hm
 obtain⟨x,hm,hL⟩:∃x,_=some x∧L=[]++x:=⟨L,hm,Av⟩
 intro w1 O1 a9 bS l J Jx hJ hJx hY h0
 refine Bt (n:=11) (xs:=[]) Try.func69 Av Try.ntmps69 Try.results69 Av ?_
 have hs:=St.start bS
 have hI:=NW.start h0
 refine Ax<|Aw<|AA<|BV (cs:=[Value.func (.yield l) #[] #[]]) hs Av Av ?_
 intro b1 w2 _ p3 bA
 refine Ay<|Ax<|Aw ?_
 have p8:=(a9.trans p3)
 replace Fa:=Fa.step p8
 refine AA<|AX BD Av Fa Av ?_
 intro v6 h7
 obtain⟨rfl,Ra⟩:=C3 h7
 obtain⟨bB,hm⟩:=AG hm
 refine AA<|Ht (q:=(AM .i64)) (v:=Iv 0) (x0:=(0:Int)) Bp BD bA Av Av bB Av (fun _ _=>(AW EG)) ?_
 intro I b8 bZ bC aL aW
 clear bA
 refine AA<|Bx Bp aL ?_
 intro N b9 _ aX aM
 clear aL
 refine Bk<|FJ (Sl (some ⟨I,0,none⟩) (List.replicate A.toNat (0:Int)) A.toNat) .z Bp aM Av Av Av Av ?_
 intro cA aY aN
 clear aM
 refine Ay<|Ax<|Aw<|AA<|Bx QO aN ?_
 intro M cB _ aZ aO
 clear aN
 refine Ay<|Ax<|Aw ?_
 obtain⟨aP,a0,aD⟩:=St.publishP (p:=Ld (Value.func (.yield l) #[] #[]) Av) (i:=3) (x:=()) aO Av Av
 clear aO
 obtain⟨aQ,aE,aF⟩:=St.publishP (p:=Ld (Sl (some ⟨I,0,none⟩) (List.replicate A.toNat (0:Int)) A.toNat) Av) (i:=1) (x:=()) aP Av Av
 clear aP
 refine AA<|GE (a':=[]) (c':=[Value.pointer (some F),Value.pointer (some (⟨b1,0,none⟩:Addr)),Value.pointer (some (⟨N,0,none⟩:Addr)),Value.pointer (some G),Pt M 0]) Av Av<|Bk<|Il (cs:=[Value.nilFunc]) (vs:=[Value.func (.func 70) #[] #[Value.pointer (some F),Value.pointer (some (⟨b1,0,none⟩:Addr)),Value.pointer (some (⟨N,0,none⟩:Addr)),Value.pointer (some G),Pt M 0]]) (cs':=[Value.func (.func 70) #[] #[Value.pointer (some F),Value.pointer (some (⟨b1,0,none⟩:Addr)),Value.pointer (some (⟨N,0,none⟩:Addr)),Value.pointer (some G),Pt M 0]]) (bs':=[(some M,Oc [Value.func (.func 70) #[] #[Value.pointer (some F),Value.pointer (some (⟨b1,0,none⟩:Addr)),Value.pointer (some (⟨N,0,none⟩:Addr)),Value.pointer (some G),Pt M 0]] 118),(some I,Obj.cells (List.replicate A.toNat (Iv 0)).toArray 3)]) (i:=0) QO aQ Av Av Av Av Av (BG Av) Av Av Av ?_
 intro a1 W aR
 clear aQ
 obtain⟨X,Y,a2⟩:=St.publishP (p:=Ld (Value.func (.func 70) #[] #[Value.pointer (some F),Value.pointer (some (⟨b1,0,none⟩:Addr)),Value.pointer (some (⟨N,0,none⟩:Addr)),Value.pointer (some G),Pt M 0]) Av) (i:=0) (x:=()) aR Av Av
 clear aR
 have F45:∀n,Hm Try.prog (J4 (vC (BE (AM .i64)))) l (Ar .i64 3 A.toNat I ((List.replicate A.toNat (0:Int)).length)) I a1 (ks [(some I,Obj.cells (List.replicate A.toNat (Iv 0)).toArray 3)] O1) (Value.func (.func 70) #[] #[Value.pointer (some F),Value.pointer (some (⟨b1,0,none⟩:Addr)),Value.pointer (some (⟨N,0,none⟩:Addr)),Value.pointer (some G),Pt M 0]) (MR (vI .i64) (vI .i64)) (NB (fun aS a3=>CX a3.1.1 a3.1.2 A ((List.replicate A.toNat (0:Int)).length) a3.2 U aS) n):=by
  refine Hm.fix (fun aS a4=>⟨⟨_,_,Av⟩,?_⟩)
  intro cC O48 cD b0 Q bD bE bF bG J56 Jx57 bH a5 cE cF L62 b2 bI a6 bJ bT
  obtain⟨cG,cH,rfl,bU,bV⟩:=bI
  obtain⟨rfl,Rb⟩:=bU
  obtain⟨rfl,Rc⟩:=bV
  replace aD:=aD.step (aE.trans (W.trans Y))
  replace aF:=aF.step (W.trans Y)
  replace Fa:=Fa.step (bC.trans (aX.trans (aY.trans (aZ.trans (a0.trans (aE.trans (W.trans Y)))))))
  replace Fb:=Fb.step (p8.trans (bC.trans (aX.trans (aY.trans (aZ.trans (a0.trans (aE.trans (W.trans Y))))))))
  exact⟨70,#[],#[Value.pointer (some F),Value.pointer (some (⟨b1,0,none⟩:Addr)),Value.pointer (some (⟨N,0,none⟩:Addr)),Value.pointer (some G),Pt M 0],Av,Try.call70,Kx bG Rb Rc (Fa.step Q) (aD.step Q) bD bE (aF.step Q) bF (Fb.step Q) ((a2.step Q).sbX (a4.step Q)) bH a5 a6 bJ bT⟩
 have bW:=a2.sbX (F45 1000000);clear F45
 refine Ay ?_
 clear Fa Fb aD aF a2
 refine Aw<|AA<|AX QO Av bW Av ?_
 intro cI bK
 have F77:=SF bK;clear bK
 obtain⟨A78,Z,aT,bL,hm,bM⟩:=RH hm
 rw [bM] at hL
 replace aW:=aW.step (aX.trans (aY.trans (aZ.trans (a0.trans (aE.trans (W.trans Y))))))
 refine AA (Mt (pre:=([]:List _)) (Lx:=A78) (i:=0) (mp:=List.replicate A.toNat (0:Int)) (mz:=Z) Av F77 Av NT (show MR (vI .i64) (vI .i64) (0,0) _ _ _ from⟨_,_,Av,⟨Av,EG⟩,⟨Av,EG⟩⟩) bL hY hJ hJx hI X Av (Ar.of aW rfl.symm) ⟨aT,by rw [hL];simp⟩ ?_ ?_)
 intro aG O83 aH aA bN bO a7
 replace aA:St ⟨aG,List.filterMap Prod.fst [(some I,aH)],[]⟩ O83 aG [(some I,aH)]:=aA
 replace bN:AB (ks [(some I,Obj.cells (List.replicate A.toNat (Iv 0)).toArray 3)] O1) a1 (ks [(some I,aH)] O83) aG:=bN
 clear X
 have cJ:=a7.2 aG (ks [(some I,aH)] O83);have b3:(List.replicate A.toNat (0:Int)).length=Z.length:=a7.1.symm;clear a7
 have aU:L=(([]:List _)++A78)++aT:=by rw [hL];simp
 refine Ay ?_
 have bP:=bO.fin hJ aA
 rw [← Option.some.inj hm,List.append_nil] at aU;rw [← aU] at bP
 exact⟨_,En,[],trivial,_,.inl bP⟩
 intro aI O95 aJ a8 _ aB bQ bR aC
 replace aB:St ⟨aI,List.filterMap Prod.fst [(some I,aJ)],[]⟩ O95 aI [(some I,aJ)]:=aB
 replace bQ:AB (ks [(some I,Obj.cells (List.replicate A.toNat (Iv 0)).toArray 3)] O1) a1 (ks [(some I,aJ)] O95) aI:=bQ
 clear X
 have b4:=aC.2 aI (ks [(some I,aJ)] O95);have bX:(List.replicate A.toNat (0:Int)).length=a8.length:=aC.1.symm;clear aC
 exact Ay<|⟨_,En,[],trivial,_,.inr ⟨_,bR.fin hJx aB⟩⟩

def Gj (n:Int) (k:Int):Option (List (List Int)):=
 (GF k n).bind fun A=>
 some A

theorem J9 {w:World} {O:List Nat} {n:Int} {k:Int} (hO:∀k∈O,k<w.heap.size) (Ra:BR .i64 n) (Rb:BR .i64 k) {x:(List (List Int))} (W:Gj n k=some x):
 Ok Try.prog 45 [Iv n,Iv k] w O (Xq Try.prog (J4 (vC (BE (AM .i64))))) x:=by
 unfold Gj at W
 refine Bt (n:=6) (xs:=[.tmp 4]) Try.func45 Av Try.ntmps45 Try.results45 Av ?_
 have hs:=St.start hO
 refine Ax<|Aw<|AA<|BV (cs:=[Iv n]) hs Av Av ?_
 intro I w2 _ p3 J
 refine AA<|BV (cs:=[Iv k]) J Av Av ?_
 intro M Z _ p8 N
 clear J
 refine Bn (Value.nilFunc) Av<|Ay<|Ax<|Aw ?_
 obtain⟨F,aA,G⟩:=St.publishP (p:=(AM .i64)) (i:=0) (x:=k) N Av (AW Rb)
 clear N
 obtain⟨A,X,Y⟩:=St.publishP (p:=(AM .i64)) (i:=0) (x:=n) F Av (AW Ra)
 clear F
 refine AA<|GE (a':=[]) (c':=[Value.pointer (some (⟨M,0,none⟩:Addr)),Value.pointer (some (⟨I,0,none⟩:Addr))]) Av Av ?_
 obtain⟨Q,U,W⟩:=bd W
 replace G:=G.step X
 have F18:VL Try.prog (J4 (vC (BE (AM .i64)))) Z (ks [] O) (Value.func (.func 69) #[] #[Value.pointer (some (⟨M,0,none⟩:Addr)),Value.pointer (some (⟨I,0,none⟩:Addr))]) Q:=⟨69,[Value.pointer (some (⟨M,0,none⟩:Addr)),Value.pointer (some (⟨I,0,none⟩:Addr))],Av,Try.call69,Lk A.ltw G Y U⟩
 refine Bn (Value.func (.func 69) #[] #[Value.pointer (some (⟨M,0,none⟩:Addr)),Value.pointer (some (⟨I,0,none⟩:Addr))]) Av<|Ay<|AY ?_
 have hz:=Gp A
 refine⟨_,En,[Value.func (.func 69) #[] #[Value.pointer (some (⟨M,0,none⟩:Addr)),Value.pointer (some (⟨I,0,none⟩:Addr))]],⟨Av,trivial⟩,A.ext,?_⟩
 replace F18:=F18.step hz
 exact Vr.eq (a:=Xq Try.prog (J4 (vC (BE (AM .i64))))) (x:=Q) F18 (oi W)

abbrev Uw:List Nat:=[10,11,35,36,37,38,39,40,41,42,43,44,45,46,47,48,49,50,51,52,53,54,55,56,57,58,59,60,61,62,63]

abbrev Ux:List Nat:=[13,14,70,71,72,73,74,75,76,77,78,79,80,81,82,83,84,85,86,87,88,89,90,91,92,93,94,95,96,97,98]

abbrev PA:List Nat:=[7,9,10,11,12,13,14,29,30,31,32,33,34,35,36,37,38,39,40,41,42,43,44,45,46,47,48,49,50,51,52,53,54,55,56,57,58,59,60,61,62,63,64,65,66,67,68,69,70,71,72,73,74,75,76,77,78,79,80,81,82,83,84,85,86,87,88,89,90,91,92,93,94,95,96,97,98,99,100,101]

def E8 {σ:Type} [DecidableEq σ] (J:Int) (I:Int→(List (A8 × Bool))→(List (A8 × Int))→σ→Option (Bool × (List (A8 × Bool)) × (List (A8 × Int)) × σ)) (A:Bool × (List (A8 × Bool)) × (List (A8 × Int)) × σ) (F:List (A8 × Bool)) (G:List (A8 × Int)):Option (Bool × (List (A8 × Bool)) × (List (A8 × Int)) × σ):=
 bif (!A.1) then
  some (false,F,G,A.2.2.2)
 else
  I (IntKind.wrap .i64 (J+1)) F G A.2.2.2

def DN {σ:Type} [DecidableEq σ] (t:DL) (G:(List (A8 × Bool))→(List (A8 × Int))→Option (Bool × (List (A8 × Bool)) × (List (A8 × Int)) × σ)) (A:A8 × Int) (I:List (A8 × Bool)) (F:List (A8 × Int)):Option (Bool × (List (A8 × Bool)) × (List (A8 × Int)) × σ):=
 ck ((0:Int)≤A.1.leaf∧A.1.leaf<(t.p.capacity.length:Int))<|
 ck ((0:Int)≤A.1.cell∧A.1.cell<((t.p.capacity.getD A.1.leaf.toNat default).length:Int))<|
 bif (decide (((B0 (DJ (DJ F A.1 ((B0 F A.1).getD 0)) A.1 (IntKind.wrap .i64 (((B0 F A.1).getD 0) - A.2))) A.1).getD 0)≤((t.p.capacity.getD A.1.leaf.toNat default).getD A.1.cell.toNat default))) then
  G (M7 I A.1) (DJ (DJ F A.1 ((B0 F A.1).getD 0)) A.1 (IntKind.wrap .i64 (((B0 F A.1).getD 0) - A.2)))
 else
  G I (DJ (DJ F A.1 ((B0 F A.1).getD 0)) A.1 (IntKind.wrap .i64 (((B0 F A.1).getD 0) - A.2)))

def E9 {σ:Type} [DecidableEq σ] (l:List Int) (t:DL) (fx:(List Int)→(List (A8 × Bool))→(List (A8 × Int))→σ→Option (Bool × (List (A8 × Bool)) × (List (A8 × Int)) × σ)) (J:Int) (M:σ) (F:Int→(List (A8 × Bool))→(List (A8 × Int))→σ→Option (Bool × (List (A8 × Bool)) × (List (A8 × Int)) × σ)) (G:List (A8 × Bool)) (I:List (A8 × Int)):Option (Bool × (List (A8 × Bool)) × (List (A8 × Int)) × σ):=
 ck ((0:Int)≤1∧(1:Int)≤(l.length:Int))<|
 (fx ((l.drop 1).take (l.length - 1)) G I M).bind fun A=>
 Jg (DN t) (E8 J F A) ((t.uses.getD (l.getD 0 default).toNat default).getD J.toNat default) A.2.1 A.2.2.1

def DO {σ:Type} [DecidableEq σ] (t:DL) (G:(List (A8 × Bool))→(List (A8 × Int))→Option (Bool × (List (A8 × Bool)) × (List (A8 × Int)) × σ)) (A:A8 × Int) (I:List (A8 × Bool)) (F:List (A8 × Int)):Option (Bool × (List (A8 × Bool)) × (List (A8 × Int)) × σ):=
 ck ((0:Int)≤A.1.leaf∧A.1.leaf<(t.p.capacity.length:Int))<|
 ck ((0:Int)≤A.1.cell∧A.1.cell<((t.p.capacity.getD A.1.leaf.toNat default).length:Int))<|
 bif (decide (((t.p.capacity.getD A.1.leaf.toNat default).getD A.1.cell.toNat default)<((B0 (DJ (DJ F A.1 ((B0 F A.1).getD 0)) A.1 (IntKind.wrap .i64 (((B0 F A.1).getD 0)+A.2))) A.1).getD 0))) then
  G (DJ I A.1 true) (DJ (DJ F A.1 ((B0 F A.1).getD 0)) A.1 (IntKind.wrap .i64 (((B0 F A.1).getD 0)+A.2)))
 else
  G I (DJ (DJ F A.1 ((B0 F A.1).getD 0)) A.1 (IntKind.wrap .i64 (((B0 F A.1).getD 0)+A.2)))

def Di {σ:Type} [DecidableEq σ] (l:List Int) (t:DL) (fx:(List Int)→(List (A8 × Bool))→(List (A8 × Int))→σ→Option (Bool × (List (A8 × Bool)) × (List (A8 × Int)) × σ)) (J:Int→(List (A8 × Bool))→(List (A8 × Int))→σ→Option (Bool × (List (A8 × Bool)) × (List (A8 × Int)) × σ)) (A:Int) (F:List (A8 × Bool)) (G:List (A8 × Int)) (I:σ):Option (Bool × (List (A8 × Bool)) × (List (A8 × Int)) × σ):=
 bif (decide (A<((t.uses.getD (l.getD 0 default).toNat default).length:Int))) then
  ck ((0:Int)≤A∧A<((t.uses.getD (l.getD 0 default).toNat default).length:Int))<|
  Jg (DO t) (E9 l t fx A I J) ((t.uses.getD (l.getD 0 default).toNat default).getD A.toNat default) F G
 else
  some (true,F,G,I)

def BO {σ:Type} [DecidableEq σ] (l:List Int) (D:List (A8 × Bool)→σ→Option (Bool × σ)) (bad:List (A8 × Bool)) (t:DL) (demand:List (A8 × Int)) (fx:(List Int)→(List (A8 × Bool))→(List (A8 × Int))→σ→Option (Bool × (List (A8 × Bool)) × (List (A8 × Int)) × σ)) (s0:σ):Option (Bool × (List (A8 × Bool)) × (List (A8 × Int)) × σ):=
 bif (decide ((l.length:Int)=0)) then
  (D bad s0).bind fun A=>
  some (A.1,bad,demand,A.2)
 else
  ck ((0:Int)≤0∧0<(l.length:Int))<|
  ck ((0:Int)≤(l.getD 0 default)∧(l.getD 0 default)<(t.uses.length:Int))<|
  Ks (Di l t fx) ((((t.uses.getD (l.getD 0 default).toNat default).length:Int) - 0).toNat+1) 0 bad demand s0

theorem IK {σ:Type} [DecidableEq σ] {w:World} {O:List Nat} {l:List Int} {D:List (A8 × Bool)→σ→Option (Bool × σ)} {bad:List (A8 × Bool)} {t:DL} {demand:List (A8 × Int)} {fx:(List Int)→(List (A8 × Bool))→(List (A8 × Int))→σ→Option (Bool × (List (A8 × Bool)) × (List (A8 × Int)) × σ)} {s0:σ} {Aa:Option Addr} {Ca:Nat} {Z W:Nat} {o1 o2:Obj} {L1:Bi} {S:Sx σ} {p_done:Addr} {p_bad:Addr} {p_t:Addr} {p_demand:Addr} {p_try:Addr} (iK:IA w O ((some Z,o1)::(some W,o2)::L1)) (Fa:CA (AM .i64) w (ks ((some Z,o1)::(some W,o2)::L1) O) Aa Ca l) (Fb:Iy (Xt Try.prog AV H5 S) w (ks ((some Z,o1)::(some W,o2)::L1) O) p_done D) (Fc:Iy (Ld (Value.map (some Z)) Av) w (ks ((some Z,o1)::(some W,o2)::L1) O) p_bad ()) (Fd:Iy KH w (ks ((some Z,o1)::(some W,o2)::L1) O) p_t t) (Fe:Iy (Ld (Value.map (some W)) Av) w (ks ((some Z,o1)::(some W,o2)::L1) O) p_demand ()) (Ff:Iy (Va Try.prog AV H5 AV (Hl .i64) S Z W (vC (BE (AM .i64)))) w (ks ((some Z,o1)::(some W,o2)::L1) O) p_try fx) (fC:Mo AV H5 o1 bad) (gH:Mo AV (Hl .i64) o2 demand) (fS:NC S w (ks ((some Z,o1)::(some W,o2)::L1) O) L1 s0) {x0:Bool} {y1:List (A8 × Bool)} {y2:List (A8 × Int)} {ys:σ} (Q:BO l D bad t demand fx s0=some (x0,y1,y2,ys)):
 Fn Try.prog 76 [Sl Aa l Ca,Value.pointer (some p_done),Value.pointer (some p_bad),Value.pointer (some p_t),Value.pointer (some p_demand),Value.pointer (some p_try)] w fun u w2=>∃fD fE L2,Jo w ((some Z,o1)::(some W,o2)::L1) w2 O ((some Z,fD)::(some W,fE)::L2)∧Mo AV H5 fD y1∧Mo AV (Hl .i64) fE y2∧NC S w2 (ks ((some Z,fD)::(some W,fE)::L2) O) L2 ys∧u=.bool x0:=by
 unfold BO at Q
 refine Bt (n:=102) (xs:=[.tmp 7]) Try.func76 Av Try.ntmps76 Try.results76 Av ?_
 obtain⟨x,hxm⟩:∃x,x=(x0,y1,y2,ys):=⟨_,Av⟩
 rw [← hxm] at Q
 have hs:St ⟨w,List.filterMap Prod.fst ((some Z,o1)::(some W,o2)::L1),[]⟩ O w ((some Z,o1)::(some W,o2)::L1):=iK
 have hO:=hs.lt0
 refine Ax<|Aw<|Bn (Bo false) Av<|Ay<|Ax<|Ax<|Aw<|Be (Sl Aa l Ca) Av<|AA<|Bd Try.underlying31 Av ?_
 have mY:=Bb Fa
 refine AA<|GV Av Av<|Ay<|AF Q Av (fun iN Q=>?_) (fun iN Q=>?_)
 refine Ax ?_
 clear Fa Fd Fe Ff
 refine Aw<|AA<|AX Wh Av Fb Av ?_
 intro v3 h4
 have F5:=Wf h4;clear h4
 refine AA<|AX Lj Av Fc Av ?_
 intro v6 h7
 obtain rfl:=Ic h7
 obtain⟨aP,iO,Q⟩:=bd Q
 refine AA<|SI (i:=0) (rr:=aP.1) (s':=aP.2) [(some Z,o1),(some W,o2)] L1 hs Av Av F5 Av fC fS iO ?_
 intro w9 L10 gI cW cX
 replace gI:AB _ _ (ks ((some Z,o1)::(some W,o2)::L10) O) w9:=gI
 replace cW:St ⟨w,List.filterMap Prod.fst ((some Z,o1)::(some W,o2)::L1),[]⟩ O w9 ((some Z,o1)::(some W,o2)::L10):=cW
 replace cX:NC S w9 (ks ((some Z,o1)::(some W,o2)::L10) O) L10 aP.2:=cX
 refine Bn (Bo aP.1) Av<|Ay<|AY ?_
 have eJ:=(oi Q).trans hxm;simp only [Prod.mk.injEq] at eJ;obtain⟨gJ,rfl,rfl,rfl⟩:=eJ
 exact⟨_,En,[Bo aP.1],⟨Av,trivial⟩,_,_,_,St.backB cW,fC,gH,cX,congrArg Value.bool gJ⟩
 refine AH<|Ax<|Ax ?_
 clear Fb
 refine B9 (g0:=[]) (m:=9) (fl:=[]) (Dc hs) Av (.inl Av) Av (by decide+kernel) ?_  -- 3
 refine Bc (VP _ _ (BE (BE (JN AV (Hl .i64)))) t.uses) (VP.stab _ _) (fun j2 m0 g I hi G=>?_) ?_
 obtain⟨-,aM,-⟩:=I
 replace Fd:=Fd.step aM
 refine Az<|C2 Li Av OV (by decide) (G 3 Av) Av ?_
 have iQ:=Fd.via.snd
 exact Bs.same hi ⟨_,Av,iQ⟩
 refine Bc (VD _ _ (vC (BE (BE (JN AV (Hl .i64))))) t.uses) (VD.stab _ _) (fun j3 m1 g I hi G=>?_) ?_
 obtain⟨m2,iR,iS⟩:=G 21 Av
 refine Az<|AX OV iR iS Av ?_
 intro m3 iT
 obtain⟨Ab,Cb,rfl,Fg⟩:=BH iT
 exact Bs.same hi (show Vr.vd (vC (BE (BE (JN AV (Hl .i64))))) _ _ _ _ from(Ke (B5 Fg)))
 refine Ba (Sl Aa l Ca) (fun _ _ _ hi G=>AD (v:=Sl Aa l Ca) (G 0 Av)<|Gz hi) ?_
 obtain⟨eK,Q⟩:=AG Q
 refine Bc (VP _ _ (AM .i64) (l.getD 0 default)) (VP.stab _ _) (fun j4 m4 g I hi G=>?_) ?_
 obtain⟨-,aM,-⟩:=I
 replace Fa:=Fa.step aM
 refine Az<|AC (q:=(AM .i64)) Bp BD (G 23 Av) Av Fa Av eK.1 eK.2 ?_
 intro m5 iU
 exact Bs.same hi ⟨_,Av,iU⟩
 refine Bc (VD _ _ (vI .i64) (l.getD 0 default)) (VD.stab _ _) (fun j5 m6 g I hi G=>?_) ?_
 obtain⟨m7,iV,iW⟩:=G 24 Av
 refine Az<|AX BD iV iW Av ?_
 intro m8 iX
 obtain⟨rfl,Ra⟩:=C3 iX
 exact Bs.same hi (show Vr.vd (vI .i64) _ _ _ _ from⟨Av,Ra⟩)
 obtain⟨eL,Q⟩:=AG Q
 refine Bc (VP _ _ (BE (JN AV (Hl .i64))) (gt t.uses (l.getD 0 default))) (VP.stab _ _) (fun j6 m9 g I hi G=>?_) ?_
 have iY:Vr.vd (vI .i64) _ _ _ _:=G 25 Av
 obtain⟨iZ,Rb⟩:=iY
 have i0:Vr.vd (vC (BE (BE (JN AV (Hl .i64))))) _ _ _ _:=G 22 Av
 obtain⟨Ac,Cc,i1,Fh⟩:=BH i0
 refine Az<|AC (q:=BE (JN AV (Hl .i64))) OV Nf i1 iZ Fh Av eL.1 eL.2 ?_
 intro nA i2
 exact Bs.same hi ⟨_,Av,i2⟩
 refine Bc (VD _ _ (vC (BE (JN AV (Hl .i64)))) (gt t.uses (l.getD 0 default))) (VD.stab _ _) (fun j7 nB g I hi G=>?_) ?_
 obtain⟨nC,i3,i4⟩:=G 26 Av
 refine Az<|AX Nf i3 i4 Av ?_
 intro nD i5
 obtain⟨Ad,Cd,rfl,Fi⟩:=BH i5
 exact Bs.same hi (show Vr.vd (vC (BE (JN AV (Hl .i64)))) _ _ _ _ from(Ke (B5 Fi)))
 refine Bc (VD _ _ (vI .i64) ((gt t.uses (l.getD 0 default)).length:Int)) (VD.stab _ _) (fun j8 nE g I hi G=>?_) ?_
 have i6:Vr.vd (vC (BE (JN AV (Hl .i64)))) _ _ _ _:=G 27 Av
 obtain⟨Ae,Ce,i7,Fj⟩:=BH i6
 exact Az<|Bd Try.underlying114 i7<|Bs.same hi (show Vr.vd (vI .i64) _ _ _ _ from⟨Av,Bb Fj⟩)
 refine Ba (Iv 0) (fun _ _ _ hi _=>AD (v:=Iv 0) Av<|Gz hi)<|BA fun nF nG gK gL=>?_
 obtain⟨-,fF,-⟩:=gK
 obtain⟨cY,cV⟩:=AB.nx gL
 rintro _ rfl nH fG
 replace fG:Vr.vd (vI .i64) _ _ _ _:=fG
 obtain⟨rfl,Rc⟩:=fG
 rintro nI fH
 replace fH:Vr.vd (vC (BE (JN AV (Hl .i64)))) _ _ _ _:=fH
 obtain⟨Af,Cf,rfl,Fk⟩:=BH fH
 rintro _ ⟨nJ,rfl,fI⟩ nK fJ
 replace fJ:Vr.vd (vI .i64) _ _ _ _:=fJ
 obtain⟨rfl,Rd⟩:=fJ
 rintro _ ⟨nL,rfl,cZ⟩ _ rfl j9 c0
 replace c0:Vr.vd (vC (BE (BE (JN AV (Hl .i64))))) _ _ _ _:=c0
 obtain⟨Ag,Cg,rfl,Fl⟩:=BH c0
 rintro _ ⟨kA,rfl,c1⟩
 have c2:=hs.to cY (fF.trans cV)
 replace Fk:=Fk.step cV;replace fI:=fI.step cV;replace cZ:=cZ.step cV;replace Fl:=Fl.step cV;replace c1:=c1.step cV
 refine Ay<|AE<|Wr [] [(0,Sl Aa l Ca),(2,Value.pointer (some p_bad)),(3,Value.pointer (some p_t)),(4,Value.pointer (some p_demand)),(5,Value.pointer (some p_try)),(27,Sl Af (gt t.uses (l.getD 0 default)) Cf),(28,Iv ((gt t.uses (l.getD 0 default)).length:Int)),(29,Iv 0)] fun bK=>?_
 replace fS:=fS.step c2
 refine Bh PA (fun m fr w'=>∃(aY:Int) (bL:List (A8 × Bool)) (bM:List (A8 × Int)) (cF:σ) (aZ:Obj) (a0:Obj) (Lt_g110:Bi) (aQ:Bi),aQ=((some Z,aZ)::(some W,a0)::Lt_g110)∧fr [] [(29,Iv aY)]∧cY.S (ks aQ O) w'∧St ⟨w,List.filterMap Prod.fst ((some Z,o1)::(some W,o2)::L1),[]⟩ O w' aQ∧BR .i64 aY∧Mo AV H5 aZ bL∧Mo AV (Hl .i64) a0 bM∧NC S w' (ks aQ O) Lt_g110 cF∧Ks (Di l t fx) m aY bL bM cF=some x) ((((gt t.uses (l.getD 0 default)).length:Int) - 0).toNat+1) ⟨0,bad,demand,s0,o1,o2,L1,_,Av,BB.of ⟨Av,trivial⟩,AB.refl _ _,cY,EG,fC,gH,fS,Q⟩ ?_ ?_
 rintro _ _ ⟨_,_,_,_,_,_,_,_,_,_,_,_,_,_,_,_,Q⟩;exact TB Q
 rintro kB kC fK i8 kD ⟨aY,bL,bM,cF,aZ,a0,Lt_g110,_,rfl,cG,a1,bZ,Re,cH,cI,aR,Q⟩
 obtain⟨c3,eF,Q⟩:=TC Q;unfold Di at Q
 rw [cG.eq];clear cG
 have b0:=a1
 refine Ax ?_
 clear fS fI cZ Fl c1
 refine Aw<|AA<|Bu Av Av<|Ay<|Ax<|AF Q Av (fun fL Q=>?_) (fun fL Q=>?_)
 refine AH<|Ax<|AE<|Ax<|Aw ?_
 obtain⟨c4,Q⟩:=AG Q
 replace Fk:=Fk.step a1
 refine AA<|AC (q:=JN AV (Hl .i64)) Nf KW Av Av Fk Av c4.1 c4.2 ?_
 intro kE eM
 refine AA<|AX KW Av eM Av ?_
 intro a5 eN
 have bS:=Px eN;clear eN
 refine Bn a5 Av<|Ay<|Ax<|Ax ?_
 clear eM
 refine Aw<|Be a5 Av<|AA<|KF (q:=AV) (m:=(Hl .i64)) Try.underlying115 bZ bS Av ?_
 intro U gM cJ kF c5 c6 eO fM
 clear bZ
 refine Ay<|AE<|Ip PA [] (CK ⟨bK,[]⟩ [(0,Sl Aa l Ca),(2,Value.pointer (some p_bad)),(3,Value.pointer (some p_t)),(4,Value.pointer (some p_demand)),(5,Value.pointer (some p_try)),(27,Sl Af (gt t.uses (l.getD 0 default)) Cf),(28,Iv ((gt t.uses (l.getD 0 default)).length:Int)),(29,Iv 0)]) [(9,a5),(29,Iv aY),(34,Pt U 0)] fun fN=>?_
 rw [← MY fM] at Q
 refine Bh Uw (fun m fr w'=>∃(a6:List (A8 × Bool)) (M:List (A8 × Int)) (N:Obj) (aF:List (A8 × Int)) (Y:Obj) (aC:Obj) (aQ:Bi),aQ=((some U,N)::(some Z,Y)::(some W,aC)::Lt_g110)∧fr [] []∧c6.S (ks aQ O) w'∧St ⟨w,List.filterMap Prod.fst ((some Z,o1)::(some W,o2)::L1),[]⟩ O w' aQ∧Lg AV (Hl .i64) w' (ks aQ O) a5 N none aF∧Mo AV H5 Y a6∧Mo AV (Hl .i64) aC M∧aF.length<m∧Jg (DO t) (E9 l t fx aY cF c3) aF a6 M=some x) (cJ.length+1) ⟨bL,bM,gM,cJ,aZ,a0,_,Av,BB.of trivial,AB.refl _ _,c6,eO.any,cH,cI,Nat.lt_succ_self _,Q⟩ ?_ ?_
 rintro _ _ ⟨_,_,_,_,_,_,_,_,_,_,_,_,_,_,hl,_⟩;exact absurd hl (Nat.not_lt_zero _)
 rintro gN kG c7 i9 kH ⟨a6,M,N,aF,Y,aC,_,rfl,cK,a2,a7,cL,bN,bO,fO,Q⟩
 rw [cK.eq];clear cK
 have aV:=a2
 refine Ax ?_
 clear eO
 refine Aw<|AA (L6 (q:=AV) (m:=(Hl .i64)) (i:=0) a7 Av cL Av ?_ ?_)
 intro b3;subst b3;replace Q:=QI Q;unfold E9 at Q
 refine AA<|Bg (v:=Bo false) Av Av<|Ay<|Ax<|HB Av<|Br<|Ax<|B9 (g0:=[]) (m:=3) (fl:=[]) (Dc a7) Av (.inl Av) Av (by decide+kernel) ?_  -- 12
 have c8:=(c2.trans (a1.trans (c5.trans a2)))
 replace Ff:=Ff.step c8
 refine Bc (VD _ _ (Vb Try.prog AV H5 AV (Hl .i64) S Z W (vC (BE (AM .i64)))) fx) (VD.stab _ _) (fun jA kJ g I hi G=>?_) ?_
 obtain⟨-,aM,-⟩:=I
 replace Ff:=Ff.step aM
 refine Az<|AX P9 (G 5 Av) Ff Av ?_
 intro kK eP
 have F169:=SJ eP;clear eP
 exact Bs.same hi (show Vr.vd (Vb Try.prog AV H5 AV (Hl .i64) S Z W (vC (BE (AM .i64)))) _ _ _ _ from F169)
 refine Ba (Sl Aa l Ca) (fun _ _ _ hi G=>AD (v:=Sl Aa l Ca) (G 0 Av)<|Gz hi) ?_
 obtain⟨jB,Q⟩:=AG Q
 replace Fa:=Fa.step c8
 refine Bc (VD _ _ (vC (BE (AM .i64))) ((l.drop 1).take (l.length - 1))) (VD.stab _ _) (fun jC kL g I hi G=>?_) ?_
 obtain⟨-,aM,-⟩:=I
 replace Fa:=Fa.step aM
 refine Az (MG (q:=(AM .i64)) (l:=1) (h:=l.length) (m:=Ca) Bp BD (G 65 Av) Fa Av (Sw Av (by omega)) Av Av (by decide) (by omega) (by omega) (by have h_:l.length≤Ca:=Fa.le;omega) (by have h_:l.length≤Ca:=Fa.le;omega) ?_)
 intro kM gO
 exact Bs.same hi (show Vr.vd (vC (BE (AM .i64))) _ _ _ _ from(Ke (B5 gO)))
 refine BA fun kN kO fP fQ=>?_
 obtain⟨-,eG,-⟩:=fP
 obtain⟨b4,c9⟩:=AB.nx fQ
 rintro kP dA
 replace dA:Vr.vd (vC (BE (AM .i64))) _ _ _ _:=dA
 obtain⟨Ah,Ch,rfl,Fm⟩:=BH dA
 rintro _ rfl gP dB
 replace dB:Vr.vd (Vb Try.prog AV H5 AV (Hl .i64) S Z W (vC (BE (AM .i64)))) _ _ _ _:=dB
 have F197:=dB
 replace F197:KM Try.prog AV H5 AV (Hl .i64) S Z W _ _ gP (vC (BE (AM .i64))) fx:=F197
 have eQ:=a7.to b4 (eG.trans c9)
 replace Fm:=Fm.step c9;replace F197:=F197.step c9;clear a7
 obtain⟨aA,fR,Q⟩:=bd Q
 have eR:=(c5.trans (a2.trans eQ))
 replace aR:=aR.step eR
 refine AA<|P6 (rr:=aA.1) (d1':=aA.2.1) (d2':=aA.2.2.1) (s':=aA.2.2.2) [(some U,N)] Lt_g110 b4 Av Av F197 bN bO aR (show Vr.vd (vC (BE (AM .i64))) _ _ _ _ from(Ke (B5 Fm))) fR ?_
 intro dC cM cN L203 cO b5 gQ gR aD
 replace cO:AB _ _ (ks ((some U,N)::(some Z,cM)::(some W,cN)::L203) O) dC:=cO
 replace b5:St ⟨w,List.filterMap Prod.fst ((some Z,o1)::(some W,o2)::L1),[]⟩ O dC ((some U,N)::(some Z,cM)::(some W,cN)::L203):=b5
 replace aD:NC S dC (ks ((some U,N)::(some Z,cM)::(some W,cN)::L203) O) L203 aA.2.2.2:=aD
 clear b4
 refine Bn (Bo aA.1) Av<|Ay<|Ax<|Ax ?_
 clear Fm F197
 refine Aw<|Be a5 Av ?_
 have eS:=(eR.trans cO)
 replace bS:=bS.step eS
 refine AA<|KF (q:=AV) (m:=(Hl .i64)) Try.underlying115 b5 bS Av ?_
 intro aJ gS cP kQ cQ dD eT fT
 refine Ay<|AE<|Ip PA [] (CK ⟨bK,[]⟩ [(0,Sl Aa l Ca),(2,Value.pointer (some p_bad)),(3,Value.pointer (some p_t)),(4,Value.pointer (some p_demand)),(5,Value.pointer (some p_try)),(27,Sl Af (gt t.uses (l.getD 0 default)) Cf),(28,Iv ((gt t.uses (l.getD 0 default)).length:Int)),(29,Iv 0)]) [(12,Bo aA.1),(29,Iv aY),(69,Pt aJ 0)] fun fU=>?_
 rw [← MY fT] at Q
 refine Bh Ux (fun m fr w'=>∃(aW:List (A8 × Bool)) (J:List (A8 × Int)) (bP:Obj) (aG:List (A8 × Int)) (X:Obj) (aB:Obj) (aQ:Bi),aQ=((some aJ,bP)::(some U,N)::(some Z,X)::(some W,aB)::L203)∧fr [] []∧dD.S (ks aQ O) w'∧St ⟨w,List.filterMap Prod.fst ((some Z,o1)::(some W,o2)::L1),[]⟩ O w' aQ∧Lg AV (Hl .i64) w' (ks aQ O) a5 bP none aG∧Mo AV H5 X aW∧Mo AV (Hl .i64) aB J∧aG.length<m∧Jg (DN t) (E8 aY c3 aA) aG aW J=some x) (cP.length+1) ⟨aA.2.1,aA.2.2.1,gS,cP,cM,cN,_,Av,BB.of trivial,AB.refl _ _,dD,eT.any,gQ,gR,Nat.lt_succ_self _,Q⟩ ?_ ?_
 rintro _ _ ⟨_,_,_,_,_,_,_,_,_,_,_,_,_,_,hl,_⟩;exact absurd hl (Nat.not_lt_zero _)
 rintro gT kR dE jD kS ⟨aW,J,bP,aG,X,aB,_,rfl,cR,aS,aE,cS,a3,a4,fV,Q⟩
 rw [cR.eq];clear cR
 have aX:=aS
 refine Ax ?_
 clear bS eT
 refine Aw<|AA (L6 (q:=AV) (m:=(Hl .i64)) (i:=0) aE Av cS Av ?_ ?_)
 intro b6;subst b6;replace Q:=QI Q;unfold E8 at Q
 refine AA<|Bg (v:=Bo false) Av Av<|Ay<|Ax<|HB Av<|Br<|Ax<|Aw<|Be (Bo aA.1) Av<|AA<|Es Av<|Ay<|AF Q Av (fun fW Q=>?_) (fun fW Q=>?_)
 refine Ax ?_
 clear Fa Fc Fd Fe Ff Fk
 refine Aw<|Bn (Bo false) Av<|Ay<|AY ?_
 have b7:=aE.drop 1
 have gU:=(aE.dropS 1)
 clear aE
 have fX:=b7.drop 0
 have gV:=(b7.dropS 0)
 clear b7
 have dF:=(oi Q).trans hxm;simp only [Prod.mk.injEq] at dF;obtain⟨fY,rfl,rfl,rfl⟩:=dF
 replace aD:=aD.step (cQ.trans (aS.trans (gU.trans gV)))
 exact⟨_,En,[Bo false],⟨Av,trivial⟩,_,_,_,St.backB fX,a3,a4,aD,congrArg Value.bool fY⟩
 refine AH<|Aw<|AA<|Bm Av Av<|Be (Iv (wq (aY+1))) Av<|Ay ?_
 have b8:=aE.drop 1
 have eU:=(aE.dropS 1)
 clear aE
 have fZ:=b8.drop 0
 have eV:=(b8.dropS 0)
 clear b8
 have gW:=(eS.trans (cQ.trans (aS.trans (eU.trans eV))))
 replace b0:=b0.trans gW
 replace aD:=aD.step (cQ.trans (aS.trans (eU.trans eV)))
 exact fK _ _ ⟨(wq (aY+1)),aW,J,aA.2.2.2,X,aB,L203,_,Av,BB.of ⟨Av,trivial⟩,b0,fZ,(AZ .i64 _),a3,a4,aD,jnE4 eF Q⟩
 intro A dG dH aT kT b6 dI b9 a8 f0 jE;subst b6
 have dJ:(dG++dH).length<gT:=by have:=fV;simp only [List.length_append,List.length_cons] at this ⊢;omega
 obtain⟨jF,cT,Q⟩:=QJ Q;unfold DN at Q
 clear aE
 obtain⟨a9,bA⟩:=f0
 refine AA<|Bg (v:=Bo true) Av Av<|Ay<|Ax<|HY Av<|AH<|AE<|Ax ?_
 clear cS
 refine Aw<|AA<|KG (q:=AV) (m:=(Hl .i64)) (i:=0) b9 Av a8 Av<|AA<|Bg (v:=Value.agg [Iv A.1.leaf,Iv A.1.cell].toArray) Av Av<|AA<|Bg (v:=Iv A.2) Av Av<|AA<|Bx BW b9 ?_
 intro aK kU _ bT dK
 clear b9
 refine Bk<|Cx .z BW dK Av Av Av Av Av ?_
 intro gX bU dL
 clear dK
 refine Bn (Iv A.2) Av<|Ay<|Ax ?_
 have eW:=(c8.trans (eQ.trans (cO.trans (cQ.trans (aS.trans (dI.trans (bT.trans bU)))))))
 replace Fe:=Fe.step eW
 refine B9 (T:=TM AV (Hl .i64) A.1 (DJ J A.1 ((B0 J A.1).getD 0)) ⟨w,List.filterMap Prod.fst ((some Z,o1)::(some W,o2)::L1),[]⟩ O ((some aK,Oc [Iv A.1.leaf,Iv A.1.cell] 45)::(some aJ,aT)::(some U,N)::(some Z,X)::(some W,aB)::L203) 4 W 5) (g0:=none) (m:=7) (fl:=[]) (SK dL) Av (.inl Av) Av (by decide+kernel) ?_  -- 16
 refine Do (Value.map (some W)) (fun _ kV g I hi G=>?_) ?_
 refine Az (AX KW (G 4 Av) (Fe.step I.2) Av ?_);intro v gY;obtain rfl:=Ic gY;exact GoesM.same hi Av
 refine Do (Value.agg [Iv A.1.leaf,Iv A.1.cell].toArray) (fun _ kW g I hi G=>?_) ?_
 rcases g with _ |g
 exact Az (GI (cs:=[Iv A.1.leaf,Iv A.1.cell]) (vs:=[Iv A.1.leaf,Iv A.1.cell]) (i:=0) BW (show St ⟨w,List.filterMap Prod.fst ((some Z,o1)::(some W,o2)::L1),[]⟩ O _ ((some aK,Oc [Iv A.1.leaf,Iv A.1.cell] 45)::(some aJ,aT)::(some U,N)::(some Z,X)::(some W,aB)::L203) from hi) (G 13 Av) Av Av Av (GoesM.same hi Av))
 exact Az (GI (cs:=[Iv A.1.leaf,Iv A.1.cell]) (vs:=[Iv A.1.leaf,Iv A.1.cell]) (i:=0) BW hi.1 (G 13 Av) Av Av Av (GoesM.same hi Av))
 refine Do (Iv ((B0 J A.1).getD 0)) (fun _ kX g I hi G=>?_) ?_
 rcases g with _ |g
 exact Az (Hg (q:=AV) (m:=(Hl .i64)) (n:=A.1) (z:=0) Try.underlying115 Is Try.zeroValue3 (St.get (i:=4) (show St ⟨w,List.filterMap Prod.fst ((some Z,o1)::(some W,o2)::L1),[]⟩ O _ ((some aK,Oc [Iv A.1.leaf,Iv A.1.cell] 45)::(some aJ,aT)::(some U,N)::(some Z,X)::(some W,aB)::L203) from hi) Av) a4 (And.intro a9 bA) (G 75 Av) (G 76 Av) (GoesM.same hi Av))
 exact Az (Hg (q:=AV) (m:=(Hl .i64)) (n:=A.1) (z:=0) Try.underlying115 Is Try.zeroValue3 (St.get (i:=4) hi.1 Av) hi.2.1 (And.intro a9 bA) (G 75 Av) (G 76 Av) (GoesM.same hi (congrArg (Hl .i64).enc (Nb _))))
 refine Do (Iv A.2) (fun _ _ _ _ hi G=>Az (AD (v:=Iv A.2) (G 14 Av) (GoesM.same hi Av)))<|Do (Iv (wq (((B0 J A.1).getD 0) - A.2))) (fun _ _ _ _ hi G=>Az (FC (G 77 Av) (G 78 Av) (GoesM.same hi Av)))<|ML (VE (Hl .i64) ((B0 J A.1).getD 0)) (VE.stab _) (fun _ kY g I hi hk G=>?_) ?_
 rcases g with _ |g
 refine Az (Mq (q:=AV) (m:=(Hl .i64)) (n:=A.1) (z:=0) (i:=4) Try.underlying115 Is Try.zeroValue3 EG (show St ⟨w,List.filterMap Prod.fst ((some Z,o1)::(some W,o2)::L1),[]⟩ O _ ((some aK,Oc [Iv A.1.leaf,Iv A.1.cell] 45)::(some aJ,aT)::(some U,N)::(some Z,X)::(some W,aB)::L203) from hi) Av a4 (G 75 Av) (G 76 Av) (And.intro a9 bA) ?_)
 intro o' s' w' p' hs' M' S';exact GoesM.made p' hs' M' S' ⟨_,Av,Av⟩
 exact absurd (List.mem_singleton.2 Av) hk
 refine Bc VQ VQ.stab (fun f1 gZ g I hi G=>?_) ?_
 obtain⟨p',rfl,hv'⟩:VE (Hl .i64) ((B0 J A.1).getD 0) (f1 80) gZ g:=G 80 Av
 exact Az (Bg hv' Av (GoesM.same hi ⟨_,Av,Av⟩))
 refine BA fun eX kZ dM f2=>?_
 rintro _ ⟨⟨eY,k0⟩,rfl,rfl⟩;rintro _ ⟨_,hq,rfl⟩;cases hq;rintro _ rfl;rintro _ rfl;rintro _ rfl;rintro _ rfl;rintro _ rfl
 obtain⟨bQ,g1,S287⟩:=f2
 replace bQ:St ⟨w,List.filterMap Prod.fst ((some Z,o1)::(some W,o2)::L1),[]⟩ O eX ((some aK,Oc [Iv A.1.leaf,Iv A.1.cell] 45)::(some aJ,aT)::(some U,N)::(some Z,X)::(some W,eY)::L203):=bQ
 have bG:AB (ks ((some aK,Oc [Iv A.1.leaf,Iv A.1.cell] 45)::(some aJ,aT)::(some U,N)::(some Z,X)::(some W,aB)::L203) O) gX (ks ((some aK,Oc [Iv A.1.leaf,Iv A.1.cell] 45)::(some aJ,aT)::(some U,N)::(some Z,X)::(some W,eY)::L203) O) eX:=dM.2;clear dM
 clear dL
 refine Bk<|KS (q:=AV) (m:=(Hl .i64)) (v:=(wq (((B0 J A.1).getD 0) - A.2))) (i:=4) (N8.inj Is) bQ Av g1 S287 Av Av Av Av (AZ .i64 _) ?_
 intro eZ k1 bH cA dN
 clear bQ
 refine Ay<|Ax<|B9 (g0:=[]) (m:=14) (fl:=[]) (Dc cA) Av (.inl Av) Av (by decide+kernel) ?_  -- 17
 replace Fe:=Fe.step (bG.trans bH)
 refine Do (Value.map (some W)) (fun jG k2 g I hi G=>?_) ?_
 obtain⟨-,aM,-⟩:=I
 replace Fe:=Fe.step aM
 refine Az<|AX KW (G 4 Av) Fe Av ?_
 intro k3 g2
 obtain rfl:=Ic g2
 exact Gz hi
 refine Ba (Value.agg [Iv A.1.leaf,Iv A.1.cell].toArray) (fun _ _ _ hi G=>Bz 0 BW (AB.nx hi).1 (G 13 Av) Av Av<|Gz hi)<|Ba (Iv ((B0 (DJ (DJ J A.1 ((B0 J A.1).getD 0)) A.1 (wq (((B0 J A.1).getD 0) - A.2))) A.1).getD 0)) (fun _ _ _ hi G=>Hg (q:=AV) (m:=(Hl .i64)) (n:=A.1) (z:=0) Try.underlying115 Is Try.zeroValue3 ((AB.nx hi).1.get (i:=4) Av) dN (And.intro a9 bA) (G 82 Av) (G 83 Av)<|Gz hi) ?_
 have e0:=(eW.trans (bG.trans bH))
 replace Fd:=Fd.step e0
 refine Bc (VP _ _ Gi t.p) (VP.stab _ _) (fun jH k4 g I hi G=>?_) ?_
 obtain⟨-,aM,-⟩:=I
 replace Fd:=Fd.step aM
 refine Az<|C2 Li Av Bw (by decide) (G 3 Av) Av ?_
 have g3:=Fd.via.fst
 exact Bs.same hi ⟨_,Av,g3⟩
 refine Bc (VP _ _ (BE (BE (AM .i64))) t.p.capacity) (VP.stab _ _) (fun jI k5 g I hi G=>?_) ?_
 obtain⟨k6,g4,g5⟩:=G 85 Av
 refine Az<|C2 Bw Av CB (by decide) g4 Av ?_
 have g6:=g5.via.snd.fst
 exact Bs.same hi ⟨_,Av,g6⟩
 refine Bc (VD _ _ (vC (BE (BE (AM .i64)))) t.p.capacity) (VD.stab _ _) (fun jJ k7 g I hi G=>?_) ?_
 obtain⟨k8,g7,g8⟩:=G 86 Av
 refine Az<|AX CB g7 g8 Av ?_
 intro k9 g9
 obtain⟨Ai,Ci,rfl,Fo⟩:=BH g9
 exact Bs.same hi (show Vr.vd (vC (BE (BE (AM .i64)))) _ _ _ _ from(Ke (B5 Fo)))
 refine Ba (Pt aK 0) (fun _ _ _ hi G=>AP 0 BW Av BD (G 13 Av) Av<|Gz hi)<|Ba (Iv A.1.leaf) (fun _ _ _ hi G=>AQ 0 BD (AB.nx hi).1 (G 88 Av) Av Av<|Gz hi) ?_
 obtain⟨dO,Q⟩:=AG Q
 refine Bc (VP _ _ (BE (AM .i64)) (gt t.p.capacity A.1.leaf)) (VP.stab _ _) (fun jK lA g I hi G=>?_) ?_
 have hA:Vr.vd (vC (BE (BE (AM .i64)))) _ _ _ _:=G 87 Av
 obtain⟨Aj,Cj,hB,Fp⟩:=BH hA
 refine Az<|AC (q:=BE (AM .i64)) CB Bp hB (G 89 Av) Fp Av dO.1 dO.2 ?_
 intro lB hC
 exact Bs.same hi ⟨_,Av,hC⟩
 refine Bc (VD _ _ (vC (BE (AM .i64))) (gt t.p.capacity A.1.leaf)) (VD.stab _ _) (fun jL lC g I hi G=>?_) ?_
 obtain⟨lD,hD,hE⟩:=G 90 Av
 refine Az<|AX Bp hD hE Av ?_
 intro lE hF
 obtain⟨Ak,Ck,rfl,Fq⟩:=BH hF
 exact Bs.same hi (show Vr.vd (vC (BE (AM .i64))) _ _ _ _ from(Ke (B5 Fq)))
 refine Ba (Pt aK 1) (fun _ _ _ hi G=>AP 1 BW Av BD (G 13 Av) Av<|Gz hi)<|Ba (Iv A.1.cell) (fun _ _ _ hi G=>AQ 0 BD (AB.nx hi).1 (G 92 Av) Av Av<|Gz hi) ?_
 obtain⟨dP,Q⟩:=AG Q
 refine Bc (VP _ _ (AM .i64) (gt (gt t.p.capacity A.1.leaf) A.1.cell)) (VP.stab _ _) (fun jM lF g I hi G=>?_) ?_
 have hG:Vr.vd (vC (BE (AM .i64))) _ _ _ _:=G 91 Av
 obtain⟨Al,Cl,hH,Fr⟩:=BH hG
 refine Az<|AC (q:=(AM .i64)) Bp BD hH (G 93 Av) Fr Av dP.1 dP.2 ?_
 intro lG hI
 exact Bs.same hi ⟨_,Av,hI⟩
 refine Bc (VD _ _ (vI .i64) (gt (gt t.p.capacity A.1.leaf) A.1.cell)) (VD.stab _ _) (fun jN lH g I hi G=>?_) ?_
 obtain⟨lI,hJ,hK⟩:=G 94 Av
 refine Az<|AX BD hJ hK Av ?_
 intro lJ hL
 obtain⟨rfl,Rf⟩:=C3 hL
 exact Bs.same hi (show Vr.vd (vI .i64) _ _ _ _ from⟨Av,Rf⟩)
 refine BA fun lK lL f3 f4=>?_
 obtain⟨-,eH,-⟩:=f3
 obtain⟨aN,bB⟩:=AB.nx f4
 rintro lM dQ
 replace dQ:Vr.vd (vI .i64) _ _ _ _:=dQ
 obtain⟨rfl,Rg⟩:=dQ
 rintro _ ⟨lN,rfl,dR⟩ _ rfl _ rfl lO dS
 replace dS:Vr.vd (vC (BE (AM .i64))) _ _ _ _:=dS
 obtain⟨Am,Cm,rfl,Fs⟩:=BH dS
 rintro _ ⟨lP,rfl,dT⟩ _ rfl _ rfl lQ dU
 replace dU:Vr.vd (vC (BE (BE (AM .i64)))) _ _ _ _:=dU
 obtain⟨An,Cn,rfl,Ft⟩:=BH dU
 rintro _ ⟨lR,rfl,dV⟩ _ ⟨lS,rfl,dW⟩ _ rfl _ rfl _ rfl
 have bV:=cA.to aN (eH.trans bB)
 replace dR:=dR.step bB;replace Fs:=Fs.step bB;replace dT:=dT.step bB;replace Ft:=Ft.step bB;replace dV:=dV.step bB;replace dW:=dW.step bB;clear cA
 refine AA<|HZ Av Av<|Ay<|AF Q Av (fun f5 Q=>?_) (fun f5 Q=>?_)
 clear dR Fs dT Ft dV dW
 refine Ip Ux [] (CK (IT PA [] fU (CK ⟨bK,[]⟩ [(0,Sl Aa l Ca),(2,Value.pointer (some p_bad)),(3,Value.pointer (some p_t)),(4,Value.pointer (some p_demand)),(5,Value.pointer (some p_try)),(27,Sl Af (gt t.uses (l.getD 0 default)) Cf),(28,Iv ((gt t.uses (l.getD 0 default)).length:Int)),(29,Iv 0)])) [(12,Bo aA.1),(29,Iv aY),(69,Pt aJ 0)]) [(13,Pt aK 0)] fun jO=>Aw ?_
 replace Fc:=Fc.step (e0.trans bV)
 refine AA<|AX Lj Av Fc Av ?_
 intro lT hM
 obtain rfl:=Ic hM
 refine AA<|Bz 0 BW aN Av Av Av<|Bk<|RN (q:=AV) (m:=H5) (n:=A.1) (v:=false) (i:=3) Try.underlying98 Is aN Av a3 Av Av (And.intro a9 bA) ?_
 intro hN lU e1 cB hP
 clear aN
 refine Ay ?_
 have f6:=cB.drop 0
 have e2:=(cB.dropS 0)
 clear cB
 replace aX:=aX.trans (dI.trans (bT.trans (bU.trans (bG.trans (bH.trans (bV.trans (e1.trans e2)))))))
 replace a8:=a8.step (bT.trans (bU.trans (bG.trans (bH.trans (bV.trans (e1.trans e2))))))
 exact dE _ _ ⟨M7 aW A.1,DJ (DJ J A.1 ((B0 J A.1).getD 0)) A.1 (wq (((B0 J A.1).getD 0) - A.2)),aT,dG++dH,hN,eZ,_,Av,BB.of trivial,aX,f6,a8.any,hP,dN,dJ,GD cT Q⟩
 refine AH ?_
 have f7:=aN.drop 0
 have e3:=(aN.dropS 0)
 clear aN
 replace aX:=aX.trans (dI.trans (bT.trans (bU.trans (bG.trans (bH.trans (bV.trans e3))))))
 replace a8:=a8.step (bT.trans (bU.trans (bG.trans (bH.trans (bV.trans e3)))))
 exact dE _ _ ⟨aW,DJ (DJ J A.1 ((B0 J A.1).getD 0)) A.1 (wq (((B0 J A.1).getD 0) - A.2)),aT,dG++dH,X,eZ,_,Av,BB.of trivial,aX,f7,a8.any,a3,dN,dJ,GD cT Q⟩
 intro F dX dY aU lV b3 dZ cC bC f8 jP;subst b3
 have d0:(dX++dY).length<gN:=by have:=fO;simp only [List.length_append,List.length_cons] at this ⊢;omega
 obtain⟨jQ,cU,Q⟩:=QJ Q;unfold DO at Q
 clear a7
 obtain⟨bD,bE⟩:=f8
 refine AA<|Bg (v:=Bo true) Av Av<|Ay<|Ax<|HY Av<|AH<|AE<|Ax ?_
 clear cL
 refine Aw<|AA<|KG (q:=AV) (m:=(Hl .i64)) (i:=0) cC Av bC Av<|AA<|Bg (v:=Value.agg [Iv F.1.leaf,Iv F.1.cell].toArray) Av Av<|AA<|Bg (v:=Iv F.2) Av Av<|AA<|Bx BW cC ?_
 intro aL lW _ bW d1
 clear cC
 refine Bk<|Cx .z BW d1 Av Av Av Av Av ?_
 intro hQ bX d2
 clear d1
 refine Bn (Iv F.2) Av<|Ay<|Ax ?_
 have e4:=(c2.trans (a1.trans (c5.trans (a2.trans (dZ.trans (bW.trans bX))))))
 replace Fe:=Fe.step e4
 refine B9 (T:=TM AV (Hl .i64) F.1 (DJ M F.1 ((B0 M F.1).getD 0)) ⟨w,List.filterMap Prod.fst ((some Z,o1)::(some W,o2)::L1),[]⟩ O ((some aL,Oc [Iv F.1.leaf,Iv F.1.cell] 45)::(some U,aU)::(some Z,Y)::(some W,aC)::Lt_g110) 3 W 5) (g0:=none) (m:=7) (fl:=[]) (SK d2) Av (.inl Av) Av (by decide+kernel) ?_  -- 9
 refine Do (Value.map (some W)) (fun _ lX g I hi G=>?_) ?_
 refine Az (AX KW (G 4 Av) (Fe.step I.2) Av ?_);intro v hR;obtain rfl:=Ic hR;exact GoesM.same hi Av
 refine Do (Value.agg [Iv F.1.leaf,Iv F.1.cell].toArray) (fun _ lY g I hi G=>?_) ?_
 rcases g with _ |g
 exact Az (GI (cs:=[Iv F.1.leaf,Iv F.1.cell]) (vs:=[Iv F.1.leaf,Iv F.1.cell]) (i:=0) BW (show St ⟨w,List.filterMap Prod.fst ((some Z,o1)::(some W,o2)::L1),[]⟩ O _ ((some aL,Oc [Iv F.1.leaf,Iv F.1.cell] 45)::(some U,aU)::(some Z,Y)::(some W,aC)::Lt_g110) from hi) (G 10 Av) Av Av Av (GoesM.same hi Av))
 exact Az (GI (cs:=[Iv F.1.leaf,Iv F.1.cell]) (vs:=[Iv F.1.leaf,Iv F.1.cell]) (i:=0) BW hi.1 (G 10 Av) Av Av Av (GoesM.same hi Av))
 refine Do (Iv ((B0 M F.1).getD 0)) (fun _ lZ g I hi G=>?_) ?_
 rcases g with _ |g
 exact Az (Hg (q:=AV) (m:=(Hl .i64)) (n:=F.1) (z:=0) Try.underlying115 Is Try.zeroValue3 (St.get (i:=3) (show St ⟨w,List.filterMap Prod.fst ((some Z,o1)::(some W,o2)::L1),[]⟩ O _ ((some aL,Oc [Iv F.1.leaf,Iv F.1.cell] 45)::(some U,aU)::(some Z,Y)::(some W,aC)::Lt_g110) from hi) Av) bO (And.intro bD bE) (G 40 Av) (G 41 Av) (GoesM.same hi Av))
 exact Az (Hg (q:=AV) (m:=(Hl .i64)) (n:=F.1) (z:=0) Try.underlying115 Is Try.zeroValue3 (St.get (i:=3) hi.1 Av) hi.2.1 (And.intro bD bE) (G 40 Av) (G 41 Av) (GoesM.same hi (congrArg (Hl .i64).enc (Nb _))))
 refine Do (Iv F.2) (fun _ _ _ _ hi G=>Az (AD (v:=Iv F.2) (G 11 Av) (GoesM.same hi Av)))<|Do (Iv (wq (((B0 M F.1).getD 0)+F.2))) (fun _ _ _ _ hi G=>Az (Bm (G 42 Av) (G 43 Av) (GoesM.same hi Av)))<|ML (VE (Hl .i64) ((B0 M F.1).getD 0)) (VE.stab _) (fun _ l1 g I hi hk G=>?_) ?_
 rcases g with _ |g
 refine Az (Mq (q:=AV) (m:=(Hl .i64)) (n:=F.1) (z:=0) (i:=3) Try.underlying115 Is Try.zeroValue3 EG (show St ⟨w,List.filterMap Prod.fst ((some Z,o1)::(some W,o2)::L1),[]⟩ O _ ((some aL,Oc [Iv F.1.leaf,Iv F.1.cell] 45)::(some U,aU)::(some Z,Y)::(some W,aC)::Lt_g110) from hi) Av bO (G 40 Av) (G 41 Av) (And.intro bD bE) ?_)
 intro o' s' w' p' hs' M' S';exact GoesM.made p' hs' M' S' ⟨_,Av,Av⟩
 exact absurd (List.mem_singleton.2 Av) hk
 refine Bc VQ VQ.stab (fun f9 hS g I hi G=>?_) ?_
 obtain⟨p',rfl,hv'⟩:VE (Hl .i64) ((B0 M F.1).getD 0) (f9 45) hS g:=G 45 Av
 exact Az (Bg hv' Av (GoesM.same hi ⟨_,Av,Av⟩))
 refine BA fun e5 l2 d3 gA=>?_
 rintro _ ⟨⟨e6,l3⟩,rfl,rfl⟩;rintro _ ⟨_,hq,rfl⟩;cases hq;rintro _ rfl;rintro _ rfl;rintro _ rfl;rintro _ rfl;rintro _ rfl
 obtain⟨bR,hT,S445⟩:=gA
 replace bR:St ⟨w,List.filterMap Prod.fst ((some Z,o1)::(some W,o2)::L1),[]⟩ O e5 ((some aL,Oc [Iv F.1.leaf,Iv F.1.cell] 45)::(some U,aU)::(some Z,Y)::(some W,e6)::Lt_g110):=bR
 have bI:AB (ks ((some aL,Oc [Iv F.1.leaf,Iv F.1.cell] 45)::(some U,aU)::(some Z,Y)::(some W,aC)::Lt_g110) O) hQ (ks ((some aL,Oc [Iv F.1.leaf,Iv F.1.cell] 45)::(some U,aU)::(some Z,Y)::(some W,e6)::Lt_g110) O) e5:=d3.2;clear d3
 clear d2
 refine Bk<|KS (q:=AV) (m:=(Hl .i64)) (v:=(wq (((B0 M F.1).getD 0)+F.2))) (i:=3) (N8.inj Is) bR Av hT S445 Av Av Av Av (AZ .i64 _) ?_
 intro e7 l4 bJ cD d4
 clear bR
 refine Ay<|Ax<|B9 (g0:=[]) (m:=14) (fl:=[]) (Dc cD) Av (.inl Av) Av (by decide+kernel) ?_  -- 10
 replace Fe:=Fe.step (bI.trans bJ)
 refine Do (Value.map (some W)) (fun jR l5 g I hi G=>?_) ?_
 obtain⟨-,aM,-⟩:=I
 replace Fe:=Fe.step aM
 refine Az<|AX KW (G 4 Av) Fe Av ?_
 intro l6 hU
 obtain rfl:=Ic hU
 exact Gz hi
 refine Ba (Value.agg [Iv F.1.leaf,Iv F.1.cell].toArray) (fun _ _ _ hi G=>Bz 0 BW (AB.nx hi).1 (G 10 Av) Av Av<|Gz hi)<|Ba (Iv ((B0 (DJ (DJ M F.1 ((B0 M F.1).getD 0)) F.1 (wq (((B0 M F.1).getD 0)+F.2))) F.1).getD 0)) (fun _ _ _ hi G=>Hg (q:=AV) (m:=(Hl .i64)) (n:=F.1) (z:=0) Try.underlying115 Is Try.zeroValue3 ((AB.nx hi).1.get (i:=3) Av) d4 (And.intro bD bE) (G 47 Av) (G 48 Av)<|Gz hi) ?_
 have e8:=(e4.trans (bI.trans bJ))
 replace Fd:=Fd.step e8
 refine Bc (VP _ _ Gi t.p) (VP.stab _ _) (fun jS l7 g I hi G=>?_) ?_
 obtain⟨-,aM,-⟩:=I
 replace Fd:=Fd.step aM
 refine Az<|C2 Li Av Bw (by decide) (G 3 Av) Av ?_
 have hV:=Fd.via.fst
 exact Bs.same hi ⟨_,Av,hV⟩
 refine Bc (VP _ _ (BE (BE (AM .i64))) t.p.capacity) (VP.stab _ _) (fun jT l8 g I hi G=>?_) ?_
 obtain⟨l9,hW,hX⟩:=G 50 Av
 refine Az<|C2 Bw Av CB (by decide) hW Av ?_
 have hY:=hX.via.snd.fst
 exact Bs.same hi ⟨_,Av,hY⟩
 refine Bc (VD _ _ (vC (BE (BE (AM .i64)))) t.p.capacity) (VD.stab _ _) (fun jU mA g I hi G=>?_) ?_
 obtain⟨mB,hZ,h0⟩:=G 51 Av
 refine Az<|AX CB hZ h0 Av ?_
 intro mC h1
 obtain⟨Ao,Co,rfl,Fu⟩:=BH h1
 exact Bs.same hi (show Vr.vd (vC (BE (BE (AM .i64)))) _ _ _ _ from(Ke (B5 Fu)))
 refine Ba (Pt aL 0) (fun _ _ _ hi G=>AP 0 BW Av BD (G 10 Av) Av<|Gz hi)<|Ba (Iv F.1.leaf) (fun _ _ _ hi G=>AQ 0 BD (AB.nx hi).1 (G 53 Av) Av Av<|Gz hi) ?_
 obtain⟨d5,Q⟩:=AG Q
 refine Bc (VP _ _ (BE (AM .i64)) (gt t.p.capacity F.1.leaf)) (VP.stab _ _) (fun jV mD g I hi G=>?_) ?_
 have h2:Vr.vd (vC (BE (BE (AM .i64)))) _ _ _ _:=G 52 Av
 obtain⟨Ap,Cp,h3,Fv⟩:=BH h2
 refine Az<|AC (q:=BE (AM .i64)) CB Bp h3 (G 54 Av) Fv Av d5.1 d5.2 ?_
 intro mE h5
 exact Bs.same hi ⟨_,Av,h5⟩
 refine Bc (VD _ _ (vC (BE (AM .i64))) (gt t.p.capacity F.1.leaf)) (VD.stab _ _) (fun jW mF g I hi G=>?_) ?_
 obtain⟨mG,h6,h8⟩:=G 55 Av
 refine Az<|AX Bp h6 h8 Av ?_
 intro mH h9
 obtain⟨Aq,Cq,rfl,Fw⟩:=BH h9
 exact Bs.same hi (show Vr.vd (vC (BE (AM .i64))) _ _ _ _ from(Ke (B5 Fw)))
 refine Ba (Pt aL 1) (fun _ _ _ hi G=>AP 1 BW Av BD (G 10 Av) Av<|Gz hi)<|Ba (Iv F.1.cell) (fun _ _ _ hi G=>AQ 0 BD (AB.nx hi).1 (G 57 Av) Av Av<|Gz hi) ?_
 obtain⟨d6,Q⟩:=AG Q
 refine Bc (VP _ _ (AM .i64) (gt (gt t.p.capacity F.1.leaf) F.1.cell)) (VP.stab _ _) (fun jX mI g I hi G=>?_) ?_
 have iA:Vr.vd (vC (BE (AM .i64))) _ _ _ _:=G 56 Av
 obtain⟨Ar,Cr,iB,Fx⟩:=BH iA
 refine Az<|AC (q:=(AM .i64)) Bp BD iB (G 58 Av) Fx Av d6.1 d6.2 ?_
 intro mJ iC
 exact Bs.same hi ⟨_,Av,iC⟩
 refine Bc (VD _ _ (vI .i64) (gt (gt t.p.capacity F.1.leaf) F.1.cell)) (VD.stab _ _) (fun jY mK g I hi G=>?_) ?_
 obtain⟨mL,iD,iE⟩:=G 59 Av
 refine Az<|AX BD iD iE Av ?_
 intro mM iF
 obtain⟨rfl,Rh⟩:=C3 iF
 exact Bs.same hi (show Vr.vd (vI .i64) _ _ _ _ from⟨Av,Rh⟩)
 refine BA fun mN mO gB gC=>?_
 obtain⟨-,eI,-⟩:=gB
 obtain⟨aO,bF⟩:=AB.nx gC
 rintro mP d7
 replace d7:Vr.vd (vI .i64) _ _ _ _:=d7
 obtain⟨rfl,Ri⟩:=d7
 rintro _ ⟨mQ,rfl,d8⟩ _ rfl _ rfl mR d9
 replace d9:Vr.vd (vC (BE (AM .i64))) _ _ _ _:=d9
 obtain⟨As,Cs,rfl,Fy⟩:=BH d9
 rintro _ ⟨mS,rfl,eA⟩ _ rfl _ rfl mT eB
 replace eB:Vr.vd (vC (BE (BE (AM .i64)))) _ _ _ _:=eB
 obtain⟨At,Ct,rfl,Fz⟩:=BH eB
 rintro _ ⟨mU,rfl,eC⟩ _ ⟨mV,rfl,eD⟩ _ rfl _ rfl _ rfl
 have bY:=cD.to aO (eI.trans bF)
 replace d8:=d8.step bF;replace Fy:=Fy.step bF;replace eA:=eA.step bF;replace Fz:=Fz.step bF;replace eC:=eC.step bF;replace eD:=eD.step bF;clear cD
 refine AA<|EY Av Av<|Ay<|AF Q Av (fun gD Q=>?_) (fun gD Q=>?_)
 clear d8 Fy eA Fz eC eD
 refine Ip Uw [] (CK (IT PA [] fN (CK ⟨bK,[]⟩ [(0,Sl Aa l Ca),(2,Value.pointer (some p_bad)),(3,Value.pointer (some p_t)),(4,Value.pointer (some p_demand)),(5,Value.pointer (some p_try)),(27,Sl Af (gt t.uses (l.getD 0 default)) Cf),(28,Iv ((gt t.uses (l.getD 0 default)).length:Int)),(29,Iv 0)])) [(9,a5),(29,Iv aY),(34,Pt U 0)]) [(10,Pt aL 0)] fun jZ=>Aw ?_
 have iG:=(e8.trans bY)
 replace Fc:=Fc.step iG
 refine AA<|AX Lj Av Fc Av ?_
 intro mW iH
 obtain rfl:=Ic iH
 refine AA<|Bz 0 BW aO Av Av Av<|Bk<|Hh (q:=AV) (m:=H5) (n:=F.1) (v:=true) (i:=2) Try.underlying98 Is aO Av bN Av Av Av Av (And.intro bD bE) trivial ?_
 intro iI mX e9 cE iJ
 clear aO
 refine Ay ?_
 have gE:=cE.drop 0
 have fA:=(cE.dropS 0)
 clear cE
 replace aV:=aV.trans (dZ.trans (bW.trans (bX.trans (bI.trans (bJ.trans (bY.trans (e9.trans fA)))))))
 replace bC:=bC.step (bW.trans (bX.trans (bI.trans (bJ.trans (bY.trans (e9.trans fA))))))
 exact c7 _ _ ⟨DJ a6 F.1 true,DJ (DJ M F.1 ((B0 M F.1).getD 0)) F.1 (wq (((B0 M F.1).getD 0)+F.2)),aU,dX++dY,iI,e7,_,Av,BB.of trivial,aV,gE,bC.any,iJ,d4,d0,GD cU Q⟩
 refine AH ?_
 have gF:=aO.drop 0
 have fB:=(aO.dropS 0)
 clear aO
 replace aV:=aV.trans (dZ.trans (bW.trans (bX.trans (bI.trans (bJ.trans (bY.trans fB))))))
 replace bC:=bC.step (bW.trans (bX.trans (bI.trans (bJ.trans (bY.trans fB)))))
 exact c7 _ _ ⟨a6,DJ (DJ M F.1 ((B0 M F.1).getD 0)) F.1 (wq (((B0 M F.1).getD 0)+F.2)),aU,dX++dY,Y,e7,_,Av,BB.of trivial,aV,gF,bC.any,bN,d4,d0,GD cU Q⟩
 refine Br<|Ax ?_
 clear Fa Fc Fd Fe Ff Fk
 refine Aw<|Bn (Bo true) Av<|Ay<|AY ?_
 have eE:=(oi Q).trans hxm;simp only [Prod.mk.injEq] at eE;obtain⟨gG,rfl,rfl,rfl⟩:=eE
 exact⟨_,En,[Bo true],⟨Av,trivial⟩,_,_,_,St.backB bZ,cH,cI,aR,congrArg Value.bool gG⟩

def Dx {σ:Type} [DecidableEq σ] (t:DL) (variables:List Int) (D:List (A8 × Bool)→σ→Option (Bool × σ)) (s0:σ):Option σ:=
 ((P4 (fun F G I J M=>BO G D I t J F M) 1000000) variables ([]:List (A8 × Bool)) ([]:List (A8 × Int)) s0).bind fun A=>
 some A.2.2.2

theorem Hy {σ:Type} [DecidableEq σ] {w:World} {O:List Nat} {t:DL} {variables:List Int} {D:List (A8 × Bool)→σ→Option (Bool × σ)} {s0:σ} {Aa:Option Addr} {Ca:Nat} {Ab:Option Addr} {Cb:Nat} {Ac:Option Addr} {Cc:Nat} {Ad:Option Addr} {Cd:Nat} {Ae:Option Addr} {Ce:Nat} {v_done:Value} {L1:Bi} {S:Sx σ} (bP:IA w O L1) (Fa:CA B2 w (ks L1 O) Aa Ca t.p.cells) (Fb:CA (BE (AM .i64)) w (ks L1 O) Ab Cb t.p.capacity) (Fc:CA AT w (ks L1 O) Ac Cc t.p.variables) (Fd:CA (BE (JN AV (Hl .i64))) w (ks L1 O) Ad Cd t.uses) (Fe:CA (AM .i64) w (ks L1 O) Ae Ce variables) (Ff:Jh Try.prog AV H5 S w (ks L1 O) v_done D) (fS:NC S w (ks L1 O) L1 s0) {x:σ} (hm:Dx t variables D s0=some x):
 Xs Try.prog 49 [Value.agg [Sl Aa t.p.cells Ca,Sl Ab t.p.capacity Cb,Sl Ac t.p.variables Cc,Sl Ad t.uses Cd].toArray,Sl Ae variables Ce,v_done] w O L1 vU () (fun w' L'=>NC S w' (ks L' O) L' x):=by
 unfold Dx at hm
 refine Bt (n:=15) (xs:=[]) Try.func49 Av Try.ntmps49 Try.results49 Av ?_
 have hs:St ⟨w,List.filterMap Prod.fst L1,[]⟩ O w L1:=bP
 have hO:=hs.lt0
 refine Ax<|Aw<|AA<|BV (cs:=[Sl Aa t.p.cells Ca,Sl Ab t.p.capacity Cb,Sl Ac t.p.variables Cc,Sl Ad t.uses Cd]) hs Av Av ?_
 intro b1 w2 _ p3 a5
 replace Ff:=Ff.step p3
 refine AA<|BV (cs:=[v_done]) a5 (show ev _ _=v_done from Av) Ff.cells ?_
 intro b6 w7 _ p8 a6
 clear a5
 refine Ay<|Ax<|Aw<|AA<|H6 a6 ?_
 intro I b5 a7 aG
 clear a6
 have bQ:Mo AV (Hl .i64) (Obj.map #[] 0) ([]:List (A8 × Int)):=Mo.nil_
 refine AA<|H6 aG ?_
 intro J b7 a8 aH
 clear aG
 have bR:Mo AV H5 (Obj.map #[] 0) ([]:List (A8 × Bool)):=Mo.nil_
 refine AA<|Bx KW aH ?_
 intro N b8 _ a9 aI
 clear aH
 refine AA<|Bx Lj aI ?_
 intro Q b9 _ bA aJ
 clear aI
 refine Bk<|FJ (Value.map (some I)) HG.p1 KW aJ Av Av Av Av ?_
 intro cA bB aK
 clear aJ
 refine Bk<|FJ (Value.map (some J)) .z Lj aK Av Av Av Av ?_
 intro cB bC aL
 clear aK
 refine Ay<|Ax<|Aw<|AA<|Bx P9 aL ?_
 intro M cC _ bD aM
 clear aL
 refine Ay<|Ax<|Aw ?_
 replace Ff:=Ff.step (p8.trans (a7.trans (a8.trans (a9.trans (bA.trans (bB.trans (bC.trans bD)))))))
 obtain⟨aN,bS,aB⟩:=St.publishP (p:=Xt Try.prog AV H5 S) (i:=5) (x:=D) aM Av (Wg Ff)
 clear aM
 obtain⟨aO,bE,aC⟩:=St.publishP (p:=Ld (Value.map (some J)) Av) (i:=1) (x:=()) aN Av Av
 clear aN
 have X:=(p3.trans (p8.trans (a7.trans (a8.trans (a9.trans (bA.trans (bB.trans (bC.trans (bD.trans (bS.trans bE))))))))))
 replace Fb:=Fb.step X;replace Fa:=Fa.step X;replace Fc:=Fc.step X;replace Fd:=Fd.step X
 obtain⟨aP,aY,aD⟩:=St.publishP (p:=KH) (i:=4) (x:=t) aO Av (Cz (AU (Cz (AU (B5 Fa) (AU (B5 Fb) (B5 Fc)))) (B5 Fd)))
 clear aO
 obtain⟨aQ,aE,aF⟩:=St.publishP (p:=Ld (Value.map (some I)) Av) (i:=1) (x:=()) aP Av Av
 clear aP
 refine AA<|GE (a':=[]) (c':=[Value.pointer (some (⟨b6,0,none⟩:Addr)),Value.pointer (some (⟨Q,0,none⟩:Addr)),Value.pointer (some (⟨b1,0,none⟩:Addr)),Value.pointer (some (⟨N,0,none⟩:Addr)),Pt M 0]) Av Av<|Bk<|Il (cs:=[Value.nilFunc]) (vs:=[Value.func (.func 76) #[] #[Value.pointer (some (⟨b6,0,none⟩:Addr)),Value.pointer (some (⟨Q,0,none⟩:Addr)),Value.pointer (some (⟨b1,0,none⟩:Addr)),Value.pointer (some (⟨N,0,none⟩:Addr)),Pt M 0]]) (cs':=[Value.func (.func 76) #[] #[Value.pointer (some (⟨b6,0,none⟩:Addr)),Value.pointer (some (⟨Q,0,none⟩:Addr)),Value.pointer (some (⟨b1,0,none⟩:Addr)),Value.pointer (some (⟨N,0,none⟩:Addr)),Pt M 0]]) (bs':=(some M,Oc [Value.func (.func 76) #[] #[Value.pointer (some (⟨b6,0,none⟩:Addr)),Value.pointer (some (⟨Q,0,none⟩:Addr)),Value.pointer (some (⟨b1,0,none⟩:Addr)),Value.pointer (some (⟨N,0,none⟩:Addr)),Pt M 0]] 117)::(some J,Obj.map #[] 0)::(some I,Obj.map #[] 0)::L1) (i:=0) P9 aQ Av Av Av Av Av (BG Av) Av Av Av ?_
 intro bT Y aR
 clear aQ
 obtain⟨aS,Z,aZ⟩:=St.publishP (p:=Ld (Value.func (.func 76) #[] #[Value.pointer (some (⟨b6,0,none⟩:Addr)),Value.pointer (some (⟨Q,0,none⟩:Addr)),Value.pointer (some (⟨b1,0,none⟩:Addr)),Value.pointer (some (⟨N,0,none⟩:Addr)),Pt M 0]) Av) (i:=0) (x:=()) aR Av Av
 clear aR
 have F68:∀n,KM Try.prog AV H5 AV (Hl .i64) S J I bT (ks ((some J,Obj.map #[] 0)::(some I,Obj.map #[] 0)::L1) O) (Value.func (.func 76) #[] #[Value.pointer (some (⟨b6,0,none⟩:Addr)),Value.pointer (some (⟨Q,0,none⟩:Addr)),Value.pointer (some (⟨b1,0,none⟩:Addr)),Value.pointer (some (⟨N,0,none⟩:Addr)),Pt M 0]) (vC (BE (AM .i64))) (P4 (fun aT bU bV bW bX=>BO bU D bV t bW aT bX) n):=by
  refine KM.fix (fun aT a0=>⟨⟨_,_,Av⟩,?_⟩)
  intro cD O70 cE cF L73 cG cH cI cJ cK cL cM cN cO W bF bG bH bI bJ a1
  obtain⟨Af,Cf,rfl,Fg⟩:=BH bJ
  replace aB:=aB.step (bE.trans (aY.trans (aE.trans (Y.trans Z))))
  have bY:=(aY.trans (aE.trans (Y.trans Z)))
  replace aC:=aC.step bY
  replace aD:=aD.step (aE.trans (Y.trans Z))
  replace aF:=aF.step (Y.trans Z)
  exact⟨76,#[],#[Value.pointer (some (⟨b6,0,none⟩:Addr)),Value.pointer (some (⟨Q,0,none⟩:Addr)),Value.pointer (some (⟨b1,0,none⟩:Addr)),Value.pointer (some (⟨N,0,none⟩:Addr)),Pt M 0],Av,Try.call76,IK bF Fg (aB.step W) (aC.step W) (aD.step W) (aF.step W) ((aZ.step W).sbS (a0.step W)) bG bH bI a1⟩
 have bZ:=aZ.sbS (F68 1000000);clear F68
 refine Ay ?_
 clear Fa Fb Fc Fd Ff aB aC aD aF aZ
 refine Aw<|AA<|AX P9 Av bZ Av ?_
 intro cP bK
 have F96:=SJ bK;clear bK
 refine Be (Sl Ae variables Ce) Av ?_
 obtain⟨A,bL,hm⟩:=bd hm
 have aU:=(X.trans (aY.trans (aE.trans (Y.trans Z))))
 replace fS:=fS.step aU;replace Fe:=Fe.step aU
 refine AA<|P6 (rr:=A.1) (d1':=A.2.1) (d2':=A.2.2.1) (s':=A.2.2.2) [] L1 aS Av Av F96 bR bQ fS (show Vr.vd (vC (BE (AM .i64))) _ _ _ _ from(Ke (B5 Fe))) bL ?_
 intro a2 a3 aA L101 aV F b3 b4 G
 replace aV:AB _ _ (ks ((some J,a3)::(some I,aA)::L101) O) a2:=aV
 replace F:St ⟨w,List.filterMap Prod.fst L1,[]⟩ O a2 ((some J,a3)::(some I,aA)::L101):=F
 replace G:NC S a2 (ks ((some J,a3)::(some I,aA)::L101) O) L101 A.2.2.2:=G
 clear aS
 refine Ay ?_
 have U:=F.drop 1
 have bM:=(F.dropS 1)
 clear F
 have a4:=U.drop 0
 have bN:=(U.dropS 0)
 clear U
 replace G:=G.step (bM.trans bN)
 exact⟨_,En,[],trivial,_,St.backB a4,(oi hm) ▸ G,Av⟩

def EA (bad:List (A8 × Bool)) (A:DM) (F:List (A8 × Bool)):Option (Bool × Bool × DM):=
 ck ((A.bad.length+[F].length)*8≤140737488355328)<|
 some (decide (0<(bad.length:Int)),decide (0<(bad.length:Int)),(⟨A.variables,A.bad++[F]⟩:DM))

def FQ (F:(List (A8 × Bool))→Option (Bool × Bool × DM)) (G:A8 × Bool) (A:List (A8 × Bool)):Option (Bool × Bool × DM):=
 F (DJ A G.1 true)

def BP (bad:List (A8 × Bool)) (F:Bool) (A:DM):Option (Bool × Bool × DM):=
 ck (bad.length<9223372036854775808)<|
 bif (decide (0<(bad.length:Int))) then
  Jf FQ (EA bad A) bad ([]:List (A8 × Bool))
 else
  some (decide (0<(bad.length:Int)),decide (0<(bad.length:Int)),A)

theorem IL {w:World} {O:List Nat} {bad:List (A8 × Bool)} {W:Bool} {G:DM} {bm_bad:Nat} {om_bad:Obj} {I:Nat} {J:Nat} {Aa:Option Addr} {Ca:Nat} {Ab:Option Addr} {Cb:Nat} {A:Option Nat} {F:Obj} (bO:IA w O [(some I,Oc [Bo W] 4),(some J,Oc [Sl Aa G.variables Ca,Sl Ab G.bad Cb] 86),(A,F),(some bm_bad,om_bad)]) (Fa:CA (AM .i64) w (ks [(some I,Oc [Bo W] 4),(some J,Oc [Sl Aa G.variables Ca,Sl Ab G.bad Cb] 86),(A,F),(some bm_bad,om_bad)] O) Aa Ca G.variables) (Fb:Gs (JN AV H5) 98 w (ks [(some I,Oc [Bo W] 4),(some J,Oc [Sl Aa G.variables Ca,Sl Ab G.bad Cb] 86),(A,F),(some bm_bad,om_bad)] O) Ab Cb G.bad A F) (hM_bad:Mo AV H5 om_bad bad) {x0:Bool} {y_fv0_:Bool} {y_fv1_:DM} (X:BP bad W G=some (x0,y_fv0_,y_fv1_)):
 Xs Try.prog 67 [Value.map (some bm_bad),Pt I 0,Pt J 0] w O [(some I,Oc [Bo W] 4),(some J,Oc [Sl Aa G.variables Ca,Sl Ab G.bad Cb] 86),(A,F),(some bm_bad,om_bad)] vB x0 (fun w' L'=>∃(Ac:Option Addr) (Cc:Nat) (Ad:Option Addr) (Cd:Nat) (N:Option Nat) (Q:Obj),L'=[(some I,Obj.cells [Bo y_fv0_].toArray 4),(some J,Obj.cells [Sl Ac y_fv1_.variables Cc,Sl Ad y_fv1_.bad Cd].toArray 86),(N,Q),(some bm_bad,om_bad)]∧CA (AM .i64) w' (ks L' O) Ac Cc y_fv1_.variables∧Gs (JN AV H5) 98 w' (ks L' O) Ad Cd y_fv1_.bad N Q):=by
 unfold BP at X
 refine Bt (n:=27) (xs:=[.tmp 4]) Try.func67 Av Try.ntmps67 Try.results67 Av ?_
 obtain⟨x,hxm⟩:∃x,x=(x0,y_fv0_,y_fv1_):=⟨_,Av⟩
 rw [← hxm] at X
 have hs:St ⟨w,List.filterMap Prod.fst [(some I,Oc [Bo W] 4),(some J,Oc [Sl Aa G.variables Ca,Sl Ab G.bad Cb] 86),(A,F),(some bm_bad,om_bad)],[]⟩ O w [(some I,Oc [Bo W] 4),(some J,Oc [Sl Aa G.variables Ca,Sl Ab G.bad Cb] 86),(A,F),(some bm_bad,om_bad)]:=bO
 have hO:=hs.lt0
 refine Ax<|Aw<|Bn (Bo false) Av<|Ay<|Ax<|Ax<|Aw<|Be (Value.map (some bm_bad)) Av<|AA<|TU (q:=AV) (m:=H5) (i:=3) Try.underlying98 hs Av hM_bad Av ?_
 obtain⟨cD,X⟩:=AG X
 refine AA<|EY Av Av<|Bk<|FJ (Bo (decide (0<(bad.length:Int)))) .z Ji hs Av Av Av Av ?_
 intro w2 p3 aC
 refine Ay<|Ax<|Aw<|AA<|AQ 0 Ji aC Av Av Av<|Ay<|AF X Av (fun bQ X=>?_) (fun bQ X=>?_)
 refine Ax<|Aw<|AA<|H6 aC ?_
 intro b6 w7 p8 a3
 clear aC
 have bR:Mo AV H5 (Obj.map #[] 0) ([]:List (A8 × Bool)):=Mo.nil_
 refine Bn (Value.map (some b6)) Av<|Ay<|Ax<|Ax<|Aw<|Be (Value.map (some bm_bad)) Av<|AA<|RL (q:=AV) (m:=H5) (i:=4) Try.underlying98 a3 Av hM_bad Av ?_
 intro a4 bS aD cF bT aR bU a5
 clear a3
 refine Ay<|AE<|Wr [] [(1,Pt I 0),(2,Pt J 0),(5,Value.map (some b6)),(13,Pt a4 0)] fun b8=>?_
 rw [← Lf a5] at X
 refine Bh [6,14,15,16,17,18,19] (fun m fr w'=>∃(M:List (A8 × Bool)) (Z:Obj) (U:List (A8 × Bool)) (Y:Obj) (aZ:Bi),aZ=[(some a4,Z),(some b6,Y),(some I,Oc [Bo (decide (0<(bad.length:Int)))] 4),(some J,Oc [Sl Aa G.variables Ca,Sl Ab G.bad Cb] 86),(A,F),(some bm_bad,om_bad)]∧fr [] []∧aR.S (ks aZ O) w'∧St ⟨w,List.filterMap Prod.fst [(some I,Oc [Bo W] 4),(some J,Oc [Sl Aa G.variables Ca,Sl Ab G.bad Cb] 86),(A,F),(some bm_bad,om_bad)],[]⟩ O w' aZ∧Qa AV H5 om_bad Z bm_bad none U∧Mo AV H5 Y M∧U.length<m∧Jf FQ (EA bad G) U M=some x) (aD.length+1) ⟨([]:List (A8 × Bool)),bS,aD,Obj.map #[] 0,_,Av,BB.of trivial,AB.refl _ _,aR,bU.any,bR,Nat.lt_succ_self _,X⟩ ?_ ?_
 rintro _ _ ⟨_,_,_,_,_,_,_,_,_,_,_,hl,_⟩;exact absurd hl (Nat.not_lt_zero _)
 rintro bV cG a6 b9 cH ⟨M,Z,U,Y,_,rfl,aE,aF,aA,a0,aG,a7,X⟩
 rw [aE.eq];clear aE
 have aH:=aF
 refine Ax<|Aw<|AA (SG (q:=AV) (m:=H5) (i:=0) (j:=5) aA Av Av a0 Av ?_ ?_)
 intro aI;subst aI;replace X:=OQ X;unfold EA at X
 refine AA<|Bg (v:=Bo false) Av Av<|Ay<|Ax<|HB Av<|Br ?_
 obtain⟨aJ,bW⟩:=aA.sub (bs':=[(some b6,Y),(some I,Oc [Bo (decide (0<(bad.length:Int)))] 4),(some J,Oc [Sl Aa G.variables Ca,Sl Ab G.bad Cb] 86),(A,F),(some bm_bad,om_bad)]) (.cons _ (.cons_cons _ (.cons_cons _ (.cons_cons _ (.cons_cons _ (.cons_cons _ List.Sublist.slnil))))))
 clear aA
 refine Aw<|AA<|AP 1 Kw Av Ma Av Av<|AA<|AQ 2 Ma aJ Av Av Av<|Be (Value.map (some b6)) Av ?_
 obtain⟨aS,bX,aQ⟩:=St.publishM (i:=0) aJ Av aG
 clear aJ
 refine AA<|Bf (cs:=[Value.map (some b6)]) (parts:=[(0,.tmp 22)]) Ma Lj aS (by decide) Av ?_
 intro cI cJ cA a8 aK
 clear aS
 obtain⟨aT,X⟩:=AG X
 replace aQ:=aQ.step a8
 have a9:=(p3.trans (p8.trans (bT.trans (aF.trans (bW.trans (bX.trans a8))))))
 replace Fb:=Fb.step a9
 refine AA (DR (q:=JN AV H5) (i:=3) (xs:=G.bad) (ys:=[M]) (news:=[Value.map (some b6)]) Ma Lj Av (by decide) aK Av Av Fb Av (Mm.owned' (len:=1) (aK.get (i:=0) Av) Av) (show Ej (JN AV H5) _ _ [Value.map (some b6)] [M] from⟨_,_,Av,QH aQ,Ej.nil⟩) aT (by have:=aT;simp only [maxLen];omega) ?_)
 intro bA bB cK cL cM bY aL a1
 clear aK
 have aU:=aL.drop 0
 have bC:=(aL.dropS 0)
 clear aL
 refine AA<|AP 1 Kw Av Ma Av Av<|Bk<|II (Sl bA (G.bad++[M]) bB) (cs':=[Sl Aa G.variables Ca,Sl bA (G.bad++[M]) bB]) HG.p1 Ma aU Av Av Av (BG Av) Av Av ?_
 intro cN bD aV
 clear aU
 refine Ay<|Ax ?_
 clear aQ
 refine Aw<|AA<|AQ 0 Ji aV Av Av Av<|Bn (Bo (decide (0<(bad.length:Int)))) Av<|Ay<|AY ?_
 have aW:=(oi X).trans hxm;simp only [Prod.mk.injEq] at aW;obtain⟨bE,rfl,rfl⟩:=aW
 replace a1:=a1.step (bC.trans bD)
 replace Fa:=Fa.step (a9.trans (bY.trans (bC.trans bD)))
 refine⟨_,En,[Bo (decide (0<(bad.length:Int)))],⟨Av,trivial⟩,_,St.backB aV,⟨_,_,_,_,_,_,Av,Fa,a1⟩,?_⟩
 exact Vr.eq (a:=vB) (x:=decide (0<(bad.length:Int))) Av bE
 intro aB bF bG bZ cO aI b0 aM bH bI cB;subst aI
 have bJ:(bF++bG).length<bV:=by have:=a7;simp only [List.length_append,List.length_cons] at this ⊢;omega
 obtain⟨cC,a2,X⟩:=OR X;unfold FQ at X
 clear aA
 obtain⟨bK,bL⟩:=bI
 refine AA<|Bg (v:=Bo true) Av Av<|Ay<|Ax<|HY Av<|AH<|AE<|Ax<|Aw<|AA<|RM (q:=AV) (m:=H5) (i:=0) (j:=5) aM Av Av bH Av<|AA<|Bg (v:=Value.agg [Iv aB.1.leaf,Iv aB.1.cell].toArray) Av Av<|AA<|Bx BW aM ?_
 intro cP cQ _ b1 aX
 clear aM
 refine Bk<|Cx .z BW aX Av Av Av Av Av ?_
 intro cR b2 aN
 clear aX
 refine Ay<|Aw<|Be (Value.map (some b6)) Av<|AA<|Bz 0 BW aN Av Av Av<|Bk<|Hh (q:=AV) (m:=H5) (n:=aB.1) (v:=true) (i:=2) Try.underlying98 Is aN Av aG Av Av Av Av (And.intro bK bL) trivial ?_
 intro b3 cS b4 aO b5
 clear aN
 refine Ay ?_
 have bM:=aO.drop 0
 have b7:=(aO.dropS 0)
 clear aO
 replace aH:=aH.trans (b0.trans (b1.trans (b2.trans (b4.trans b7))))
 exact a6 _ _ ⟨DJ M aB.1 true,bZ,bF++bG,b3,_,Av,BB.of trivial,aH,bM,bH.any,b5,bJ,Ed a2 X⟩
 refine AH<|Ax<|Aw<|AA<|AQ 0 Ji aC Av Av Av<|Bn (Bo (decide (0<(bad.length:Int)))) Av<|Ay<|AY ?_
 have aY:=(oi X).trans hxm;simp only [Prod.mk.injEq] at aY;obtain⟨bN,rfl,rfl⟩:=aY
 replace Fb:=Fb.step p3;replace Fa:=Fa.step p3
 refine⟨_,En,[Bo (decide (0<(bad.length:Int)))],⟨Av,trivial⟩,_,St.backB aC,⟨_,_,_,_,_,_,Av,Fa,Fb⟩,?_⟩
 exact Vr.eq (a:=vB) (x:=decide (0<(bad.length:Int))) Av bN
def S67 (U W:Nat):Sx (Bool × DM) where
 rd w O E s:=∃(A:Option Addr) (F:Nat) (I:Option Addr) (J:Nat) (G:Option Nat) (M:Obj),E=[(some U,Obj.cells [Bo s.1].toArray 4),(some W,Obj.cells [Sl A s.2.variables F,Sl I s.2.bad J].toArray 86),(G,M)]∧CA (AM .i64) w O A F s.2.variables∧Gs (JN AV H5) 98 w O I J s.2.bad G M
 step:=fun p h=>by
  obtain⟨A,F,I,J,G,M,hE,N,Q⟩:=h
  exact⟨A,F,I,J,G,M,hE,N.step p,Q.step p⟩
theorem d67 {w:World} {O:List Nat} {G I:Nat} :
 Jh Try.prog AV H5 (S67 G I) w O (Value.func (.func 67) #[] #[Pt G 0,Pt I 0]) (fun xs s=>BP xs s.1 s.2):=by
 refine⟨⟨_,_,Av⟩,?_⟩
 intro J O1 L1 b o xs s r s' p hL hb ho hM hS M
 obtain⟨Aa,Ca,Ab,Cb,A,F,rfl,Fa,Fb⟩:=hS
 have hL':=hL.join hb ho
 have hp:=fun L=>AB.join (O:=O1) L J o hb
 refine⟨67,#[],_,Av,Try.call67,(IL (x0:=r) (y_fv0_:=s'.1) (y_fv1_:=s'.2) hL' (Fa.step (hp _)) (Fb.step (hp _)) hM M).mono ?_⟩
 rintro u N ⟨L2,hB,⟨Aa,Ca,Ab,Cb,A,F,rfl,Fa,Fb⟩,hu⟩
 exact⟨_,hB.unjoin hL hb ho,⟨_,_,_,_,_,_,Av,Fa.step (AB.unjoin [(some G,Obj.cells [Bo s'.1].toArray 4),(some I,Obj.cells [Sl Aa s'.2.variables Ca,Sl Ab s'.2.bad Cb].toArray 86),(A,F)] _ o hb),Fb.step (AB.unjoin [(some G,Obj.cells [Bo s'.1].toArray 4),(some I,Obj.cells [Sl Aa s'.2.variables Ca,Sl Ab s'.2.bad Cb].toArray 86),(A,F)] _ o hb)⟩,hu⟩

def Ee (t:DL) (F:(List DM)→Option (List DM)) (G:(List Int)) (I:List DM):Option (List DM):=
 (Dx t G (fun xs s=>BP xs s.1 s.2) (true,(⟨G,([]:List (List (A8 × Bool)))⟩:DM))).bind fun A=>
 bif A.1 then
  ck ((I.length+[A.2].length)*48≤140737488355328)<|
  F (I++[A.2])
 else
  F I

def EC (t:DL) (k:Int):Option (List DM):=
 (Gj (t.p.variables.length:Int) k).bind fun A=>
 jn (fun(F:List DM)=>
  some F)
 (fun G=>
  LU (Ee t) G A ([]:List DM))

theorem Jr {w:World} {O:List Nat} {t:DL} {k:Int} {Aa:Option Addr} {Ca:Nat} {Ab:Option Addr} {Cb:Nat} {Ac:Option Addr} {Cc:Nat} {Ad:Option Addr} {Cd:Nat} (hO:∀k∈O,k<w.heap.size) (Fa:CA B2 w O Aa Ca t.p.cells) (Fb:CA (BE (AM .i64)) w O Ab Cb t.p.capacity) (Fc:CA AT w O Ac Cc t.p.variables) (Fd:CA (BE (JN AV (Hl .i64))) w O Ad Cd t.uses) (Ra:BR .i64 k) {x:(List DM)} (Z:EC t k=some x):
 OI Try.prog 43 [Value.agg [Sl Aa t.p.cells Ca,Sl Ab t.p.capacity Cb,Sl Ac t.p.variables Cc,Sl Ad t.uses Cd].toArray,Iv k] w O JS 86 x:=by
 unfold EC at Z
 refine Bt (n:=27) (xs:=[.cell 4 82]) Try.func43 Av Try.ntmps43 Try.results43 Av ?_
 have hs:=St.start hO
 refine Ax<|Aw<|AA<|BV (cs:=[Sl Aa t.p.cells Ca,Sl Ab t.p.capacity Cb,Sl Ac t.p.variables Cc,Sl Ad t.uses Cd]) hs Av Av ?_
 intro Y w2 _ p3 b5
 refine AA<|Bx OW b5 ?_
 intro X w7 _ p8 aZ
 clear b5
 refine Ay<|Ax<|Ax<|Aw<|AA<|AP 0 Li Av Bw Av Av<|AA<|AP 2 Bw Av CI Av Av<|AA<|AQ 1 CI aZ Av Av Av<|AA<|Bd Try.underlying24 Av ?_
 have b7:=(p3.trans p8)
 replace Fc:=Fc.step b7
 have b8:=Bb Fc
 refine Be (Iv k) Av ?_
 obtain⟨aP,b9,Z⟩:=bd Z
 refine AA<|Bj aZ Try.call45 (J9 (n:=(t.p.variables.length:Int)) (k:=k) aZ.ltw b8 Ra b9) Av ?_
 rintro cU cA cB cC cV
 clear aZ
 have F_y20:VL Try.prog (J4 (vC (BE (AM .i64)))) _ _ cU aP:=cV
 refine Ay<|AE ?_
 obtain⟨cD,cE,Z⟩:=Dp Z
 have a5:=cC.ghost (Obj.cells #[] 86)
 have aE:=F_y20;obtain⟨cZ,c0,bO,bP,aE⟩:=aE
 refine Ly (σ:=(List DM) × (Option Addr) × Nat × (Option Nat) × Obj) (ps:=[14]) a5 (rfl.trans bO) bP aE Av Ps NS (fun s=>match s with |(I,Ae,Ce,A,F)=>[(A,F),(some X,Oc [Sl Ae I Ce] 82),(some Y,Oc [Sl Aa t.p.cells Ca,Sl Ab t.p.capacity Cb,Sl Ac t.p.variables Cc,Sl Ad t.uses Cd] 80)]) (fun s w O=>match s with |(I,Ae,Ce,A,F)=>Gs JS 86 w O Ae Ce I A F) (fun s w O w' O' p h=>by obtain⟨I,Ae,Ce,A,F⟩:=s;have h:Gs JS 86 w O Ae Ce I A F:=h;have Fe:=h;exact Fe.step p) (fun s l=>match s with |(I,Ae,Ce,A,F)=>LU (Ee t) cD l I=some x) [] (fun _ _=>False) (([]:List DM),none,0,none,Obj.cells #[] 86) Av Gs.nil_ Z ?_ ?_ ?_
 rintro dB E33 ⟨I,Ae,Ce,A,F⟩ J a0 a1 cF cW c1 aN aQ Fe Z aR
 replace aN:St cW (E33++O) a1 [(A,F),(some X,Oc [Sl Ae I Ce] 82),(some Y,Oc [Sl Aa t.p.cells Ca,Sl Ab t.p.capacity Cb,Sl Ac t.p.variables Cc,Sl Ad t.uses Cd] 80)]:=aN
 have aA:AB (ks [(none,Obj.cells #[] 86),(some X,Oc [Value.slice none 0 0] 82),(some Y,Oc [Sl Aa t.p.cells Ca,Sl Ab t.p.capacity Cb,Sl Ac t.p.variables Cc,Sl Ad t.uses Cd] 80)] O) cA (ks [(A,F),(some X,Oc [Sl Ae I Ce] 82),(some Y,Oc [Sl Aa t.p.cells Ca,Sl Ab t.p.capacity Cb,Sl Ac t.p.variables Cc,Sl Ad t.uses Cd] 80)] (E33++O)) a1:=aQ;clear aQ
 replace Fe:Gs JS 86 a1 (ks [(A,F),(some X,Oc [Sl Ae I Ce] 82),(some Y,Oc [Sl Aa t.p.cells Ca,Sl Ab t.p.capacity Cb,Sl Ac t.p.variables Cc,Sl Ad t.uses Cd] 80)] (E33++O)) Ae Ce I A F:=Fe
 have cG:=UT (show LU _ _ (J::a0) I=some _ from Z);clear Z;obtain⟨c2,aS,Z⟩:=cG
 unfold Ee at Z
 replace aR:(J4 (vC (BE (AM .i64)))) J a1 (ks [(A,F),(some X,Oc [Sl Ae I Ce] 82),(some Y,Oc [Sl Aa t.p.cells Ca,Sl Ab t.p.capacity Cb,Sl Ac t.p.variables Cc,Sl Ad t.uses Cd] 80)] (E33++O)) cF:=aR
 obtain⟨dC,rfl,cX⟩:=aR
 obtain⟨Af,Cf,rfl,Ff⟩:=BH cX
 refine Aw<|Bn (Sl Af J Cf) Av<|Ay<|Exists.intro _<|And.intro aN ?_
 intro dD bQ RQ52 c3 a6 bR a7 c4
 clear aN
 refine AE<|Ax<|Aw<|Be (Sl Af J Cf) Av<|AA<|Dv (vs:=[Sl Af J Cf,Value.slice none 0 0]) (parts:=[(0,.tmp 15)]) Kw pl86 Av<|AA<|Bx Kw a6 ?_
 intro Q dE _ bS a8
 clear a6
 refine Bk<|Cx .z Kw a8 Av Av Av Av Av ?_
 intro dF bT a9
 clear a8
 refine Ay<|Ax<|Aw<|AA<|Bx Ji a9 ?_
 intro U dG _ bU bA
 clear a9
 refine Bk<|FJ (Bo true) .z Ji bA Av Av Av Av ?_
 intro aD bV bB
 clear bA
 refine Ay<|Ax<|Aw<|AA<|Bz 4 Li bB Av Av Av<|Be (Sl Af J Cf) Av<|AA<|GE (a':=[]) (c':=[Pt U 0,Pt Q 0]) Av Av ?_
 have bC:=bB.ghost (Obj.cells #[] 98)
 obtain⟨bD,bW⟩:St bQ (E33++O) aD [(some Q,Oc [Sl Af J Cf,Sl none ([]:List (List (A8 × Bool))) 0] 86),(none,Obj.cells #[] 98),(some U,Oc [Bo true] 4),(A,F),(some X,Oc [Sl Ae I Ce] 82),(some Y,Oc [Sl Aa t.p.cells Ca,Sl Ab t.p.capacity Cb,Sl Ac t.p.variables Cc,Sl Ad t.uses Cd] 80)]∧AB (ks [(none,Obj.cells #[] 98),(some U,Oc [Bo true] 4),(some Q,Oc [Sl Af J Cf,Sl none ([]:List (List (A8 × Bool))) 0] 86),(A,F),(some X,Oc [Sl Ae I Ce] 82),(some Y,Oc [Sl Aa t.p.cells Ca,Sl Ab t.p.capacity Cb,Sl Ac t.p.variables Cc,Sl Ad t.uses Cd] 80)] (E33++O)) aD (ks [(some Q,Oc [Sl Af J Cf,Sl none ([]:List (List (A8 × Bool))) 0] 86),(none,Obj.cells #[] 98),(some U,Oc [Bo true] 4),(A,F),(some X,Oc [Sl Ae I Ce] 82),(some Y,Oc [Sl Aa t.p.cells Ca,Sl Ab t.p.capacity Cb,Sl Ac t.p.variables Cc,Sl Ad t.uses Cd] 80)] (E33++O)) aD:=St.front bC (i:=2) Av
 clear bC
 obtain⟨aT,bX⟩:St bQ (E33++O) aD [(some U,Oc [Bo true] 4),(some Q,Oc [Sl Af J Cf,Sl none ([]:List (List (A8 × Bool))) 0] 86),(none,Obj.cells #[] 98),(A,F),(some X,Oc [Sl Ae I Ce] 82),(some Y,Oc [Sl Aa t.p.cells Ca,Sl Ab t.p.capacity Cb,Sl Ac t.p.variables Cc,Sl Ad t.uses Cd] 80)]∧AB (ks [(some Q,Oc [Sl Af J Cf,Sl none ([]:List (List (A8 × Bool))) 0] 86),(none,Obj.cells #[] 98),(some U,Oc [Bo true] 4),(A,F),(some X,Oc [Sl Ae I Ce] 82),(some Y,Oc [Sl Aa t.p.cells Ca,Sl Ab t.p.capacity Cb,Sl Ac t.p.variables Cc,Sl Ad t.uses Cd] 80)] (E33++O)) aD (ks [(some U,Oc [Bo true] 4),(some Q,Oc [Sl Af J Cf,Sl none ([]:List (List (A8 × Bool))) 0] 86),(none,Obj.cells #[] 98),(A,F),(some X,Oc [Sl Ae I Ce] 82),(some Y,Oc [Sl Aa t.p.cells Ca,Sl Ab t.p.capacity Cb,Sl Ac t.p.variables Cc,Sl Ad t.uses Cd] 80)] (E33++O)) aD:=St.front bD (i:=2) Av
 clear bD
 have bY:=(bR.trans (bS.trans (bT.trans (bU.trans (bV.trans (bW.trans bX))))))
 replace Ff:=Ff.step bY
 have bE:NC (S67 U Q) aD (ks [(some U,Oc [Bo true] 4),(some Q,Oc [Sl Af J Cf,Sl none ([]:List (List (A8 × Bool))) 0] 86),(none,Obj.cells #[] 98)] (ks [(A,F),(some X,Oc [Sl Ae I Ce] 82),(some Y,Oc [Sl Aa t.p.cells Ca,Sl Ab t.p.capacity Cb,Sl Ac t.p.variables Cc,Sl Ad t.uses Cd] 80)] (E33++O))) [(some U,Oc [Bo true] 4),(some Q,Oc [Sl Af J Cf,Sl none ([]:List (List (A8 × Bool))) 0] 86),(none,Obj.cells #[] 98)] (true,(⟨J,([]:List (List (A8 × Bool)))⟩:DM)):=by rw [← JQ];exact⟨Af,Cf,none,0,none,Obj.cells #[] 98,Av,Ff,Gs.nil_ (q:=JN AV H5)⟩
 obtain⟨G,cH,Z⟩:=bd Z
 have aB:ks [(some U,Oc [Bo true] 4),(some Q,Oc [Sl Af J Cf,Sl none ([]:List (List (A8 × Bool))) 0] 86),(none,Obj.cells #[] 98),(A,F),(some X,Oc [Sl Ae I Ce] 82),(some Y,Oc [Sl Aa t.p.cells Ca,Sl Ab t.p.capacity Cb,Sl Ac t.p.variables Cc,Sl Ad t.uses Cd] 80)] (E33++O)=ks [(some U,Oc [Bo true] 4),(some Q,Oc [Sl Af J Cf,Sl none ([]:List (List (A8 × Bool))) 0] 86),(none,Obj.cells #[] 98)] (ks [(A,F),(some X,Oc [Sl Ae I Ce] 82),(some Y,Oc [Sl Aa t.p.cells Ca,Sl Ab t.p.capacity Cb,Sl Ac t.p.variables Cc,Sl Ad t.uses Cd] 80)] (E33++O)):=JQ [(some U,Oc [Bo true] 4),(some Q,Oc [Sl Af J Cf,Sl none ([]:List (List (A8 × Bool))) 0] 86),(none,Obj.cells #[] 98)] [(A,F),(some X,Oc [Sl Ae I Ce] 82),(some Y,Oc [Sl Aa t.p.cells Ca,Sl Ab t.p.capacity Cb,Sl Ac t.p.variables Cc,Sl Ad t.uses Cd] 80)] (E33++O)
 have bZ:=(b7.trans (cB.trans (aA.trans (bR.trans (bS.trans (bT.trans (bU.trans (bV.trans (bW.trans bX)))))))))
 replace Fb:=Fb.step bZ;replace Fa:=Fa.step bZ
 replace Fc:=Fc.step (cB.trans (aA.trans (bR.trans (bS.trans (bT.trans (bU.trans (bV.trans (bW.trans bX))))))));replace Fd:=Fd.step bZ
 refine AA<|Pz (rest:=[(A,F),(some X,Oc [Sl Ae I Ce] 82),(some Y,Oc [Sl Aa t.p.cells Ca,Sl Ab t.p.capacity Cb,Sl Ac t.p.variables Cc,Sl Ad t.uses Cd] 80)]) Try.call49 [(some U,Oc [Bo true] 4),(some Q,Oc [Sl Af J Cf,Sl none ([]:List (List (A8 × Bool))) 0] 86),(none,Obj.cells #[] 98)] aT (Hy (S:=S67 U Q) (t:=t) (variables:=J) (D:=(fun xs s=>BP xs s.1 s.2)) (s0:=(true,(⟨J,([]:List (List (A8 × Bool)))⟩:DM))) (St.lendL (L:=[(some U,Oc [Bo true] 4),(some Q,Oc [Sl Af J Cf,Sl none ([]:List (List (A8 × Bool))) 0] 86),(none,Obj.cells #[] 98)]) (rest:=[(A,F),(some X,Oc [Sl Ae I Ce] 82),(some Y,Oc [Sl Aa t.p.cells Ca,Sl Ab t.p.capacity Cb,Sl Ac t.p.variables Cc,Sl Ad t.uses Cd] 80)]) aT) (aB ▸ Fa) (aB ▸ Fb) (aB ▸ Fc) (aB ▸ Fd) (aB ▸ Ff) d67 bE cH) Av ?_
 intro dH a2 L85 a3 W cI _;clear bE aB
 obtain⟨Ag,Cg,Ah,Ch,M,N,rfl,Fg,Fh⟩:=cI
 replace W:St bQ (E33++O) a2 [(some U,Oc [Bo G.1] 4),(some Q,Oc [Sl Ag G.2.variables Cg,Sl Ah G.2.bad Ch] 86),(M,N),(A,F),(some X,Oc [Sl Ae I Ce] 82),(some Y,Oc [Sl Aa t.p.cells Ca,Sl Ab t.p.capacity Cb,Sl Ac t.p.variables Cc,Sl Ad t.uses Cd] 80)]:=W
 replace a3:AB (ks [(some U,Oc [Bo true] 4),(some Q,Oc [Sl Af J Cf,Sl none ([]:List (List (A8 × Bool))) 0] 86),(none,Obj.cells #[] 98),(A,F),(some X,Oc [Sl Ae I Ce] 82),(some Y,Oc [Sl Aa t.p.cells Ca,Sl Ab t.p.capacity Cb,Sl Ac t.p.variables Cc,Sl Ad t.uses Cd] 80)] (E33++O)) aD (ks [(some U,Oc [Bo G.1] 4),(some Q,Oc [Sl Ag G.2.variables Cg,Sl Ah G.2.bad Ch] 86),(M,N),(A,F),(some X,Oc [Sl Ae I Ce] 82),(some Y,Oc [Sl Aa t.p.cells Ca,Sl Ab t.p.capacity Cb,Sl Ac t.p.variables Cc,Sl Ad t.uses Cd] 80)] (E33++O)) a2:=a3
 replace Fg:CA (AM .i64) a2 (ks [(some U,Oc [Bo G.1] 4),(some Q,Oc [Sl Ag G.2.variables Cg,Sl Ah G.2.bad Ch] 86),(M,N),(A,F),(some X,Oc [Sl Ae I Ce] 82),(some Y,Oc [Sl Aa t.p.cells Ca,Sl Ab t.p.capacity Cb,Sl Ac t.p.variables Cc,Sl Ad t.uses Cd] 80)] (E33++O)) Ag Cg G.2.variables:=(JQ [(some U,Oc [Bo G.1] 4),(some Q,Oc [Sl Ag G.2.variables Cg,Sl Ah G.2.bad Ch] 86),(M,N)] [(A,F),(some X,Oc [Sl Ae I Ce] 82),(some Y,Oc [Sl Aa t.p.cells Ca,Sl Ab t.p.capacity Cb,Sl Ac t.p.variables Cc,Sl Ad t.uses Cd] 80)] (E33++O)).symm ▸ Fg
 replace Fh:Gs (JN AV H5) 98 a2 (ks [(some U,Oc [Bo G.1] 4),(some Q,Oc [Sl Ag G.2.variables Cg,Sl Ah G.2.bad Ch] 86),(M,N),(A,F),(some X,Oc [Sl Ae I Ce] 82),(some Y,Oc [Sl Aa t.p.cells Ca,Sl Ab t.p.capacity Cb,Sl Ac t.p.variables Cc,Sl Ad t.uses Cd] 80)] (E33++O)) Ah Ch G.2.bad M N:=(JQ [(some U,Oc [Bo G.1] 4),(some Q,Oc [Sl Ag G.2.variables Cg,Sl Ah G.2.bad Ch] 86),(M,N)] [(A,F),(some X,Oc [Sl Ae I Ce] 82),(some Y,Oc [Sl Aa t.p.cells Ca,Sl Ab t.p.capacity Cb,Sl Ac t.p.variables Cc,Sl Ad t.uses Cd] 80)] (E33++O)).symm ▸ Fh
 clear aT
 refine Ay<|Ax<|Aw<|AA<|AQ 0 Ji W Av Av Av<|Ay<|AF Z Av (fun cJ Z=>?_) (fun cJ Z=>?_)
 refine Aw<|AA<|AQ 4 OW W Av Av Av<|AA<|Bz 1 Kw W Av Av Av ?_
 obtain⟨bF,cK,b0⟩:=Gs.publish (i:=2) W Av Fh
 clear W
 refine AA<|Bf (cs:=[Sl Ag G.2.variables Cg,Sl Ah G.2.bad Ch]) (parts:=[(0,.tmp 23)]) OW Kw bF (by decide) Av ?_
 intro dI dJ cY b2 aF
 clear bF
 obtain⟨aU,Z⟩:=AG Z
 replace b0:=b0.step b2
 have bG:=(bY.trans (a3.trans (cK.trans b2)))
 replace Fe:=Fe.step bG
 replace Fg:=Fg.step (cK.trans b2)
 refine AA (DR (q:=JS) (i:=3) (xs:=I) (ys:=[G.2]) (news:=[Sl Ag G.2.variables Cg,Sl Ah G.2.bad Ch]) OW Kw Av (by decide) aF Av Av Fe Av (Mm.owned' (len:=2) (aF.get (i:=0) Av) Av) (show Ej JS _ _ [Sl Ag G.2.variables Cg,Sl Ah G.2.bad Ch] [G.2] from⟨_,_,Av,Cz (AU (B5 Fg) (B5 b0)),Ej.nil⟩) aU (by have:=aU;simp only [maxLen];omega) ?_)
 intro bH bI cL cM c5 cN aG aV
 clear aF
 have aW:=aG.drop 0
 have bJ:=(aG.dropS 0)
 clear aG
 refine Bk<|FJ (Sl bH (I++[G.2]) bI) HG.p3 OW aW Av Av Av Av ?_
 intro c6 bK aH
 clear aW
 refine Ay ?_
 have aI:=aH.drop 1
 have bL:=(aH.dropS 1)
 clear aH
 have b3:=aI.drop 0
 have bM:=(aI.dropS 0)
 clear aI
 replace aA:=aA.trans (bG.trans (cN.trans (bJ.trans (bK.trans (bL.trans bM)))))
 replace aV:=aV.step (bJ.trans (bK.trans (bL.trans bM)))
 exact a7 (I++[G.2],bH,bI,cL,cM) _ _ b3 aA aV (Ed aS Z)
 refine AH ?_
 have aJ:=W.drop 2
 have cO:=(W.dropS 2)
 clear W
 have aK:=aJ.drop 1
 have cP:=(aJ.dropS 1)
 clear aJ
 have b4:=aK.drop 0
 have cQ:=(aK.dropS 0)
 clear aK
 have bN:=(bY.trans (a3.trans (cO.trans (cP.trans cQ))))
 replace aA:=aA.trans bN;replace Fe:=Fe.step bN
 exact a7 (I,Ae,Ce,A,F) _ _ b4 aA Fe (Ed aS Z)
 rintro D129 ⟨I,Ae,Ce,A,F⟩ aX aC aO Fe Z
 replace aC:St ⟨w,[],D129::[]⟩ (D129::O) aX [(A,F),(some X,Oc [Sl Ae I Ce] 82),(some Y,Oc [Sl Aa t.p.cells Ca,Sl Ab t.p.capacity Cb,Sl Ac t.p.variables Cc,Sl Ad t.uses Cd] 80)]:=aC
 replace aO:AB (ks [(none,Obj.cells #[] 86),(some X,Oc [Value.slice none 0 0] 82),(some Y,Oc [Sl Aa t.p.cells Ca,Sl Ab t.p.capacity Cb,Sl Ac t.p.variables Cc,Sl Ad t.uses Cd] 80)] O) cA (ks [(A,F),(some X,Oc [Sl Ae I Ce] 82),(some Y,Oc [Sl Aa t.p.cells Ca,Sl Ab t.p.capacity Cb,Sl Ac t.p.variables Cc,Sl Ad t.uses Cd] 80)] (D129::O)) aX:=aO
 replace Fe:Gs JS 86 aX (ks [(A,F),(some X,Oc [Sl Ae I Ce] 82),(some Y,Oc [Sl Aa t.p.cells Ca,Sl Ab t.p.capacity Cb,Sl Ac t.p.variables Cc,Sl Ad t.uses Cd] 80)] (D129::O)) Ae Ce I A F:=Fe
 replace Z:=US (show LU _ _ [] I=some _ from Z)
 replace Z:=Ed cE (show cD I=some _ from Z)
 clear a5
 refine Ax ?_
 obtain⟨aL,cR⟩:=aC.sub (bs':=[(A,F),(some X,Oc [Sl Ae I Ce] 82)]) (.cons_cons _ (.cons_cons _ (.cons _ List.Sublist.slnil)))
 clear Fa Fb Fc Fd F_y20
 clear aC
 refine Aw<|AA<|AQ 1 OW aL Av Av Av<|Bk<|FJ (Sl Ae I Ce) HG.p1 OW aL Av Av Av Av ?_
 intro c7 cS aY
 clear aL
 refine Ay<|AY ?_
 obtain⟨c8,a4,aM,cT⟩:=St.close aY
 clear aY
 refine⟨_,a4,[Sl Ae I Ce],⟨MN (cs:=[Sl Ae I Ce]) OW (i:=1) aM Av Av Av,trivial⟩,aM.ext,?_⟩
 replace Fe:=Fe.step (cR.trans (cS.trans cT))
 exact OI.mkS (i:=0) (fun k hk=>by simp [hk]) aM Av Fe (oi Z)
 intro _ _ _ _ h;simp at h
def DC (a:A8) (b:A8):Option Int:=
 (Db a.leaf b.leaf).bind fun A=>
 (Db a.cell b.cell).bind fun F=>
 (If [A,F]).bind fun G=>
 some G

theorem Ig {w:World} {O:List Nat} {a:A8} {b:A8} (hO:∀k∈O,k<w.heap.size) (Ra:BR .i64 a.leaf) (Rb:BR .i64 a.cell) (Rc:BR .i64 b.leaf) (Rd:BR .i64 b.cell) {x:Int} (N:DC a b=some x):
 Ok Try.prog 55 [Value.agg [Iv a.leaf,Iv a.cell].toArray,Value.agg [Iv b.leaf,Iv b.cell].toArray] w O (vI .i64) x:=by
 unfold DC at N
 refine Bt (n:=17) (xs:=[.tmp 4]) Try.func55 Av Try.ntmps55 Try.results55 Av ?_
 have hs:=St.start hO
 refine Ax<|Aw<|AA<|BV (cs:=[Iv a.leaf,Iv a.cell]) hs Av Av ?_
 intro b1 w2 _ p3 Z
 refine AA<|BV (cs:=[Iv b.leaf,Iv b.cell]) Z Av Av ?_
 intro b6 w7 _ p8 W
 clear Z
 refine Bn (Iv 0) Av<|Ay<|Ax<|B9 (g0:=[]) (m:=9) (fl:=[]) (Dc W) Av (.inl Av) Av (by decide+kernel) ?_  -- 1
 refine Ba (Pt b1 0) (fun _ _ _ hi G=>AP 0 BW Av BD (G 2 Av) Av<|Gz hi)<|Ba (Iv a.leaf) (fun _ _ _ hi G=>AQ 1 BD (AB.nx hi).1 (G 5 Av) Av Av<|Gz hi)<|Ba (Pt b6 0) (fun _ _ _ hi G=>AP 0 BW Av BD (G 3 Av) Av<|Gz hi)<|Ba (Iv b.leaf) (fun _ _ _ hi G=>AQ 0 BD (AB.nx hi).1 (G 7 Av) Av Av<|Gz hi) ?_
 obtain⟨A,aA,N⟩:=bd N
 refine Bc (VD _ _ (vI .i64) A) (VD.stab _ _) (fun aO aQ g aR hi G=>?_) ?_
 refine Az (FT Try.call39 (Ga (O:=ks (Em g++[(some b6,Oc [Iv b.leaf,Iv b.cell] 45),(some b1,Oc [Iv a.leaf,Iv a.cell] 45)]) O) (x_:=a.leaf) (y:=b.leaf) hi.ltw Ra Rc aA) (by simp only [List.map,Array.toList,(show ev _ (.tmp 6)=_ from(G 6 Av)),(show ev _ (.tmp 8)=_ from(G 8 Av))]<;> rfl) ?_)
 rintro aS aT ⟨aB,aJ⟩
 exact Bs.call hi aB aJ
 refine Ba (Pt b1 1) (fun _ _ _ hi G=>AP 1 BW Av BD (G 2 Av) Av<|Gz hi)<|Ba (Iv a.cell) (fun _ _ _ hi G=>AQ 1 BD (AB.nx hi).1 (G 10 Av) Av Av<|Gz hi)<|Ba (Pt b6 1) (fun _ _ _ hi G=>AP 1 BW Av BD (G 3 Av) Av<|Gz hi)<|Ba (Iv b.cell) (fun _ _ _ hi G=>AQ 0 BD (AB.nx hi).1 (G 12 Av) Av Av<|Gz hi)<|BA fun aU aV aC aD=>?_
 obtain⟨-,X,-⟩:=aC
 obtain⟨I,aK⟩:=AB.nx aD
 rintro _ rfl _ rfl _ rfl _ rfl aW Y
 replace Y:Vr.vd (vI .i64) _ _ _ _:=Y
 obtain⟨rfl,Re⟩:=Y
 rintro _ rfl _ rfl _ rfl _ rfl
 have aX:=W.to I (X.trans aK)
 clear W
 obtain⟨F,aE,N⟩:=bd N
 refine AA<|Bj I Try.call39 (Ga (x_:=a.cell) (y:=b.cell) I.ltw Rb Rd aE) Av ?_
 rintro aY aZ a0 Q aL
 clear I
 obtain⟨rfl,Rf⟩:=aL
 refine AA<|Bf (cs:=[Iv A,Iv F]) (parts:=[(0,.tmp 9),(1,.tmp 14)]) Bp BD Q (by decide) Av ?_
 intro a1 a2 aP a3 U
 clear Q
 obtain⟨J,a4,aM⟩:=St.publish (i:=0) (o:=0) (c:=2) (xs:=[A,F]) U Av (show Ej (AM .i64) _ _ [Iv A,Iv F] [A,F] from⟨_,_,Av,AW Re,⟨_,_,Av,AW Rf,Ej.nil⟩⟩) (BG Av) (BG Av) (BG Av)
 clear U
 obtain⟨M,aF,N⟩:=bd N
 refine AA<|Bj J Try.call64 (Ng (vals:=[A,F]) J.ltw aM aF) Av ?_
 rintro a5 a6 a7 aG aN
 clear J
 obtain⟨rfl,Rg⟩:=aN
 refine Bn (Iv M) Av<|Ay<|AY<|⟨_,En,[Iv M],⟨Av,trivial⟩,aG.ext,?_⟩
 exact Vr.eq (a:=(vI .i64)) (x:=M) ⟨Av,Rg⟩ (oi N)

abbrev W3:List Nat:=[2,7,27,28,29,30,31,32,33,34]

abbrev Uy:List Nat:=[5,6,12,13,14,15,16,17,18,19,20,21,22,23,24]

def ET (G:Int) (F:Int→(List (A8 × Bool))→Option (List A8)) (A:List (A8 × Bool)):Option (List A8):=
 F (IntKind.wrap .i64 (G+1)) A

def Gg (F:(List (A8 × Bool))→Option (List A8)) (G:A8 × Bool) (A:List (A8 × Bool)):Option (List A8):=
 F (DJ A G.1 true)

def EU (F:List A8):Option (List A8):=
 (L7 (fun G I=>DC G I) F).bind fun A=>
 ck (F.length<4611686018427387904)<|
 some A

def EV (F:(List A8)→Option (List A8)) (A:A8 × Bool) (G:List A8):Option (List A8):=
 ck ((G.length+[A.1].length)*16≤140737488355328)<|
 F (G++[A.1])

def Dz (x_:DM) (G:Int→(List (A8 × Bool))→Option (List A8)) (A:Int) (F:List (A8 × Bool)):Option (List A8):=
 bif (decide (A<(x_.bad.length:Int))) then
  ck ((0:Int)≤A∧A<(x_.bad.length:Int))<|
  Jf Gg (ET A G) (x_.bad.getD A.toNat default) F
 else
  Jf EV EU F ([]:List A8)

def ED (x_:DM):Option (List A8):=
 B8 (Dz x_) (((x_.bad.length:Int) - 0).toNat+1) 0 ([]:List (A8 × Bool))

theorem Js {w:World} {O:List Nat} {x_:DM} {Aa:Option Addr} {Ca:Nat} {Ab:Option Addr} {Cb:Nat} (hO:∀k∈O,k<w.heap.size) (Fa:CA (AM .i64) w O Aa Ca x_.variables) (Fb:CA (JN AV H5) w O Ab Cb x_.bad) {x:(List A8)} (F:ED x_=some x):
 OI Try.prog 44 [Value.agg [Sl Aa x_.variables Ca,Sl Ab x_.bad Cb].toArray] w O AO 45 x:=by
 unfold ED at F
 refine Bt (n:=38) (xs:=[.tmp 2]) Try.func44 Av Try.ntmps44 Try.results44 Av ?_
 have hs:=St.start hO
 refine Ax<|Aw<|AA<|BV (cs:=[Sl Aa x_.variables Ca,Sl Ab x_.bad Cb]) hs Av Av ?_
 intro b1 w2 _ p3 cM
 refine Bn (Value.slice none 0 0) Av<|Ay<|Ax<|Aw<|AA<|H6 cM ?_
 intro b6 w7 p8 b4
 clear cM
 have dP:Mo AV H5 (Obj.map #[] 0) ([]:List (A8 × Bool)):=Mo.nil_
 refine Bn (Value.map (some b6)) Av<|Ay<|Ax<|Ax<|Aw<|AA<|AP 1 Kw Av Ma Av Av<|AA<|AQ 1 Ma b4 Av Av Av<|AA<|Bd Try.underlying84 Av ?_
 have dQ:=(p3.trans p8)
 replace Fb:=Fb.step dQ
 have d9:=Bb Fb
 refine Be (Iv 0) Av<|Ay<|AE<|Wr [] [(2,Value.slice none 0 0),(3,Value.map (some b6)),(10,Sl Ab x_.bad Cb),(11,Iv (x_.bad.length:Int)),(12,Iv 0)] fun cN=>Bh Uy (fun m fr w'=>∃(aD:Int) (Y:List (A8 × Bool)) (U:Obj) (N:Bi),N=[(some b6,U),(some b1,Oc [Sl Aa x_.variables Ca,Sl Ab x_.bad Cb] 86)]∧fr [] [(12,Iv aD)]∧b4.S (ks N O) w'∧St ⟨w,[],[]⟩ O w' N∧BR .i64 aD∧Mo AV H5 U Y∧B8 (Dz x_) m aD Y=some x) (((x_.bad.length:Int) - 0).toNat+1) ⟨0,([]:List (A8 × Bool)),Obj.map #[] 0,_,Av,BB.of ⟨Av,trivial⟩,AB.refl _ _,b4,EG,dP,F⟩ ?_ ?_
 rintro _ _ ⟨_,_,_,_,_,_,_,_,_,_,F⟩;exact D9 F
 rintro e0 e1 cO eA e2 ⟨aD,Y,U,_,rfl,aR,aS,aN,Ra,aT,F⟩
 obtain⟨cP,b5,F⟩:=DA F;unfold Dz at F
 rw [aR.eq];clear aR
 have aU:=aS
 refine Ax<|Aw<|AA<|Bu Av Av<|Ay<|Ax<|AF F Av (fun cQ F=>?_) (fun cQ F=>?_)
 refine AH<|Ax<|AE<|Ax<|Aw ?_
 obtain⟨bN,F⟩:=AG F
 replace Fb:=Fb.step aS
 refine AA<|AC (q:=JN AV H5) Ma Lj Av Av Fb Av bN.1 bN.2 ?_
 intro e3 cR
 refine AA<|AX Lj Av cR Av ?_
 intro b7 cS
 have cT:=Px cS;clear cS
 refine Bn b7 Av<|Ay<|Ax ?_
 clear cR
 refine Aw<|Be b7 Av<|AA<|KF (q:=AV) (m:=H5) Try.underlying98 aN cT Av ?_
 intro cU dR aV e4 dS bO cV cW
 clear aN
 refine Ay<|AE<|Ip Uy [] (CK ⟨cN,[]⟩ [(2,Value.slice none 0 0),(3,Value.map (some b6)),(10,Sl Ab x_.bad Cb),(11,Iv (x_.bad.length:Int)),(12,Iv 0)]) [(12,Iv aD),(17,Pt cU 0)] fun eB=>?_
 rw [← Lf cW] at F
 refine Bh [6,18,19,20,21,22,23] (fun m fr w'=>∃(W:List (A8 × Bool)) (aF:Obj) (Q:List (A8 × Bool)) (Z:Obj) (N:Bi),N=[(some cU,aF),(some b6,Z),(some b1,Oc [Sl Aa x_.variables Ca,Sl Ab x_.bad Cb] 86)]∧fr [] []∧bO.S (ks N O) w'∧St ⟨w,[],[]⟩ O w' N∧Lg AV H5 w' (ks N O) b7 aF none Q∧Mo AV H5 Z W∧Q.length<m∧Jf Gg (ET aD cP) Q W=some x) (aV.length+1) ⟨Y,dR,aV,U,_,Av,BB.of trivial,AB.refl _ _,bO,cV.any,aT,Nat.lt_succ_self _,F⟩ ?_ ?_
 rintro _ _ ⟨_,_,_,_,_,_,_,_,_,_,_,hl,_⟩;exact absurd hl (Nat.not_lt_zero _)
 rintro dT e5 cX eC e6 ⟨W,aF,Q,Z,_,rfl,aW,aX,aE,aY,aZ,cY,F⟩
 rw [aW.eq];clear aW
 have a0:=aX
 refine Ax ?_
 clear cT cV
 refine Aw<|AA (L6 (q:=AV) (m:=H5) (i:=0) aE Av aY Av ?_ ?_)
 intro a1;subst a1;replace F:=OQ F;unfold ET at F
 refine AA<|Bg (v:=Bo false) Av Av<|Ay<|Ax<|HB Av<|Br<|Aw<|AA<|Bm Av Av<|Be (Iv (wq (aD+1))) Av<|Ay ?_
 have cZ:=aE.drop 0
 have dU:=(aE.dropS 0)
 clear aE
 have dV:=(dS.trans (aX.trans dU))
 replace aU:=aU.trans dV
 exact cO _ _ ⟨(wq (aD+1)),W,Z,_,Av,BB.of ⟨Av,trivial⟩,aU,cZ,(AZ .i64 _),aZ,GD b5 F⟩
 intro aO c0 c1 dW e7 a1 dX a2 bK c2 eD;subst a1
 have c3:(c0++c1).length<dT:=by have:=cY;simp only [List.length_append,List.length_cons] at this ⊢;omega
 obtain⟨eE,b8,F⟩:=OR F;unfold Gg at F
 clear aE
 obtain⟨c4,c5⟩:=c2
 refine AA<|Bg (v:=Bo true) Av Av<|Ay<|Ax<|HY Av<|AH<|AE<|Ax ?_
 clear aY
 refine Aw<|AA<|KG (q:=AV) (m:=H5) (i:=0) a2 Av bK Av<|AA<|Bg (v:=Value.agg [Iv aO.1.leaf,Iv aO.1.cell].toArray) Av Av<|AA<|Bx BW a2 ?_
 intro e8 e9 _ c6 bP
 clear a2
 refine Bk<|Cx .z BW bP Av Av Av Av Av ?_
 intro fA c7 a3
 clear bP
 refine Ay<|Aw<|Be (Value.map (some b6)) Av<|AA<|Bz 0 BW a3 Av Av Av<|Bk<|Hh (q:=AV) (m:=H5) (n:=aO.1) (v:=true) (i:=2) Try.underlying98 Is a3 Av aZ Av Av Av Av (And.intro c4 c5) trivial ?_
 intro dY fB c8 a4 dZ
 clear a3
 refine Ay ?_
 have c9:=a4.drop 0
 have dA:=(a4.dropS 0)
 clear a4
 replace a0:=a0.trans (dX.trans (c6.trans (c7.trans (c8.trans dA))))
 replace bK:=bK.step (c6.trans (c7.trans (c8.trans dA)))
 exact cX _ _ ⟨DJ W aO.1 true,dW,c0++c1,dY,_,Av,BB.of trivial,a0,c9,bK.any,dZ,c3,Ed b8 F⟩
 refine Br<|Ax<|Ax ?_
 obtain⟨bQ,fC⟩:=aN.sub (bs':=[(some b6,U)]) (.cons_cons _ (.cons _ List.Sublist.slnil))
 clear Fa Fb
 clear aN
 refine Aw<|Be (Value.map (some b6)) Av ?_
 obtain⟨bR,fD,dB⟩:=St.publishM (i:=0) bQ Av aT
 clear bQ
 refine AA<|KF (q:=AV) (m:=H5) Try.underlying98 bR dB Av ?_
 intro dC d0 a5 fE fF dD bS b9
 clear bR
 refine Ay<|AE<|Wr [] [(2,Value.slice none 0 0),(26,Pt dC 0)] fun d1=>?_
 have a6:=dD.ghost (Obj.cells #[] 45)
 rw [← Lf b9] at F
 refine Bh W3 (fun m fr w'=>∃(X:List A8) (Ac:Option Addr) (Cc:Nat) (G:Option Nat) (I:Obj) (aA:Obj) (J:List (A8 × Bool)) (N:Bi),N=[(G,I),(some dC,aA)]∧fr [] [(2,Sl Ac X Cc)]∧a6.S (ks N O) w'∧St ⟨w,[],[]⟩ O w' N∧Gs AO 45 w' (ks N O) Ac Cc X G I∧Lg AV H5 w' (ks N O) (Value.map (some b6)) aA none J∧J.length<m∧Jf EV EU J X=some x) (a5.length+1) ⟨([]:List A8),none,0,none,Obj.cells #[] 45,d0,a5,_,Av,BB.of ⟨Av,trivial⟩,AB.refl _ _,a6,Gs.nil_,bS.any,Nat.lt_succ_self _,F⟩ ?_ ?_
 rintro _ _ ⟨_,_,_,_,_,_,_,_,_,_,_,_,_,_,hl,_⟩;exact absurd hl (Nat.not_lt_zero _)
 rintro dE eF cA d2 bT ⟨X,Ac,Cc,G,I,aA,J,_,rfl,aP,bL,aB,Fc,aC,cB,F⟩
 rw [aP.eq];clear aP
 have aG:=bL
 refine Ax ?_
 clear dB bS
 refine Aw<|AA (L6 (q:=AV) (m:=H5) (i:=1) aB Av aC Av ?_ ?_)
 intro aH;subst aH;replace F:=OQ F;unfold EU at F
 refine AA<|Bg (v:=Bo false) Av Av<|Ay<|Ax<|HB Av<|Br<|Ax ?_
 obtain⟨a7,dF⟩:=aB.sub (bs':=[(G,I)]) (.cons_cons _ (.cons _ List.Sublist.slnil))
 clear aC
 clear aB
 refine Aw<|Be (Sl Ac X Cc) Av ?_
 have F135:EB Try.prog bT (ks [(G,I)] O) (Value.func (.func 55) #[] #[]) (vA AO) (vA AO) (vI .i64) (fun a8 a9=>DC a8 a9):=by
  intro eG O137 d3 cC eH eI a8 a9 eJ dG dH cD
  obtain⟨_,rfl,⟨_,_,rfl,⟨rfl,Rb⟩,⟨rfl,Rc⟩⟩⟩:=dG
  obtain⟨_,rfl,⟨_,_,rfl,⟨rfl,Rd⟩,⟨rfl,Re⟩⟩⟩:=dH
  exact⟨55,#[],#[],Av,Try.call55,Ig (a:=a8) (b:=a9) cC Rb Rc Rd Re cD⟩
 obtain⟨M,bA,F⟩:=bd F
 obtain⟨cE,F⟩:=AG F
 have F157:EB Try.prog bT (ks [(G,I)] O) (Value.func (.func 55) #[] #[]) (vA AO) (vA AO) (vI .i64) (fun bB bC=>DC bB bC):=by
  intro eK O159 d4 cF eL eM bB bC eN dI dJ cG
  obtain⟨_,rfl,⟨_,_,rfl,⟨rfl,Rf⟩,⟨rfl,Rg⟩⟩⟩:=dI
  obtain⟨_,rfl,⟨_,_,rfl,⟨rfl,Rh⟩,⟨rfl,Ri⟩⟩⟩:=dJ
  exact⟨55,#[],#[],Av,Try.call55,Ig (a:=bB) (b:=bC) cF Rf Rg Rh Ri cG⟩
 replace Fc:=Fc.step dF
 refine AA<|RP (q:=AO) (i:=0) (caps:=#[]) TV Av Try.call68 Av Try.isAgg45 Try.sizeOf45 Try.call55 a7 Av Fc F135 bA cE Av ?_
 intro eO eP bD eQ dK
 clear a7
 refine Ay<|Ax ?_
 clear F135 F157
 refine Aw<|AA<|AD (v:=Sl Ac M Cc) (IH Av (show X.length=M.length from by rw [RO bA]))<|Bn (Sl Ac M Cc) Av<|Ay<|AY<|⟨_,En,[Sl Ac M Cc],⟨Av,trivial⟩,bD.ext,?_⟩
 exact OI.mk (i:=0) bD Av dK (oi F)
 intro A bU bV dL eR aH dM aI aQ cH d5;subst aH
 have cI:(bU++bV).length<dE:=by have:=cB;simp only [List.length_append,List.length_cons] at this ⊢;omega
 obtain⟨d6,bM,F⟩:=OR F;unfold EV at F
 clear aB
 obtain⟨cJ,cK⟩:=cH
 refine AA<|Bg (v:=Bo true) Av Av<|Ay<|Ax<|HY Av<|AH<|AE<|Ax ?_
 clear aC
 refine Aw<|AA<|KG (q:=AV) (m:=H5) (i:=1) aI Av aQ Av<|AA<|Bg (v:=Value.agg [Iv A.1.leaf,Iv A.1.cell].toArray) Av Av<|AA<|Bx BW aI ?_
 intro eS eT _ bW bE
 clear aI
 refine Bk<|Cx .z BW bE Av Av Av Av Av ?_
 intro eU bX aJ
 clear bE
 refine Ay<|Aw<|Be (Sl Ac X Cc) Av<|AA<|Bz 0 BW aJ Av Av Av<|AA<|Bf (cs:=[Iv A.1.leaf,Iv A.1.cell]) (parts:=[(0,.tmp 32)]) Ep BW aJ (by decide) Av ?_
 intro eV eW d7 bY aK
 clear aJ
 obtain⟨bF,F⟩:=AG F
 have bZ:=(dM.trans (bW.trans (bX.trans bY)))
 replace Fc:=Fc.step bZ
 refine AA (DR (q:=AO) (i:=2) (xs:=X) (ys:=[A.1]) (news:=[Iv A.1.leaf,Iv A.1.cell]) Ep BW Av (by decide) aK Av Av Fc Av (Mm.owned' (len:=2) (aK.get (i:=0) Av) Av) (show Ej AO _ _ [Iv A.1.leaf,Iv A.1.cell] [A.1] from⟨_,_,Av,Cz (AU (AW cJ) (AW cK)),Ej.nil⟩) bF (by have:=bF;simp only [maxLen];omega) ?_)
 intro b0 b2 dN dO eX b3 aL bG
 clear aK
 have aM:=aL.drop 0
 have bH:=(aL.dropS 0)
 clear aL
 refine Bn (Sl b0 (X++[A.1]) b2) Av<|Ay ?_
 have cL:=aM.drop 0
 have bI:=(aM.dropS 0)
 clear aM
 replace aG:=aG.trans (bZ.trans (b3.trans (bH.trans bI)))
 replace aQ:=aQ.step (bW.trans (bX.trans (bY.trans (b3.trans (bH.trans bI)))))
 replace bG:=bG.step (bH.trans bI)
 exact cA _ _ ⟨X++[A.1],b0,b2,dN,dO,dL,bU++bV,_,Av,BB.of ⟨Av,trivial⟩,aG,cL,bG,aQ.any,cI,Ed bM F⟩
abbrev W4:List Nat:=[4,5,8,9,10,11,12,13,14,15,16,17,18]

def F3 (s:List A8) (f:A8→Option Bool) (F:Int→Option Int) (A:Int):Option Int:=
 bif (decide (A<(s.length:Int))) then
  ck ((0:Int)≤A∧A<(s.length:Int))<|
  (f (s.getD A.toNat default)).bind fun G=>
  bif G then
   some A
  else
   F (IntKind.wrap .i64 (A+1))
 else
  some (-1)

def HM (s:List A8) (f:A8→Option Bool):Option Int:=
 B1 (F3 s f) (((s.length:Int) - 0).toNat+1) 0

theorem Nh {w:World} {O:List Nat} {s:List A8} {f:A8→Option Bool} {Aa:Option Addr} {Ca:Nat} {v_f:Value} (hO:∀k∈O,k<w.heap.size) (Fa:CA AO w O Aa Ca s) (F_f:Gt Try.prog w O v_f (vA AO) vB f) {x:Int} (F:HM s f=some x):
 Ok Try.prog 77 [Sl Aa s Ca,v_f] w O (vI .i64) x:=by
 unfold HM at F
 refine Bt (n:=19) (xs:=[.tmp 4]) Try.func77 Av Try.ntmps77 Try.results77 Av ?_
 have hs:=St.start hO
 refine Ax<|Aw<|Bn (Iv 0) Av<|Ay<|Ax<|Ax<|Aw<|Be (Sl Aa s Ca) Av<|AA<|Bd Try.underlying32 Av ?_
 have aI:=Bb Fa
 refine Be (Iv 0) Av<|Ay<|AE<|Wr [] [(0,Sl Aa s Ca),(1,v_f),(7,Iv (s.length:Int)),(8,Iv 0)] fun aJ=>Bh W4 (fun m fr w'=>∃(A:Int) (W:Bi),W=[]∧fr [] [(8,Iv A)]∧hs.S (ks W O) w'∧St ⟨w,[],[]⟩ O w' W∧BR .i64 A∧B1 (F3 s f) m A=some x) (((s.length:Int) - 0).toNat+1) ⟨0,_,Av,BB.of ⟨Av,trivial⟩,AB.refl _ _,hs,EG,F⟩ ?_ ?_
 rintro _ _ ⟨_,_,_,_,_,_,_,F⟩;exact Dg F
 rintro m7 K6 aC aG w8 ⟨A,_,rfl,I,G,J,Ra,F⟩
 obtain⟨aK,Y,F⟩:=Dh F;unfold F3 at F
 rw [I.eq];clear I
 have M:=G
 refine Ax<|Aw<|AA<|Bu Av Av<|Ay<|Ax<|AF F Av (fun Z F=>?_) (fun Z F=>?_)
 refine AH<|Ax<|AE<|Ax<|Aw<|Be (Iv A) Av<|Bn (Iv A) Av<|Ay<|Ax<|Aw<|Be v_f Av<|Be (Sl Aa s Ca) Av<|Be (Iv A) Av ?_
 obtain⟨Q,F⟩:=AG F
 replace Fa:=Fa.step G
 refine AA<|AC (q:=AO) Ep BW Av Av Fa Av Q.1 Q.2 ?_
 intro aL X
 refine AA<|BF BW Av X Av ?_
 intro aH aD
 obtain⟨_,_,rfl,⟨rfl,Rb⟩,⟨rfl,Rc⟩⟩:=aD
 obtain⟨aM,aA,F⟩:=bd F
 replace F_f:=F_f.step G
 refine AA<|Io Av (F_f.call J.ltw (Jn (Cz (AU (AW Rb) (AW Rc)))) aA) Av ?_
 rintro aN aO ⟨N,aE⟩
 have U:=J.call N
 have aF:=J.stepE N
 clear N
 clear J
 obtain rfl:=aE
 refine Ay<|AF F Av (fun aB F=>?_) (fun aB F=>?_)
 refine Ax ?_
 clear Fa F_f X
 refine Aw<|Be (Iv A) Av<|Bn (Iv A) Av<|Ay<|AY<|⟨_,En,[Iv A],⟨Av,trivial⟩,U.ext,?_⟩
 exact Vr.eq (a:=(vI .i64)) (x:=A) ⟨Av,Ra⟩ (oi F)
 refine AH ?_
 clear X
 refine Aw<|AA<|Bm Av Av<|Be (Iv (wq (A+1))) Av<|Ay ?_
 replace M:=M.trans aF
 exact aC _ _ ⟨(wq (A+1)),_,Av,BB.of ⟨Av,trivial⟩,M,U,(AZ .i64 _),Ed Y F⟩
 refine Br<|Ax ?_
 clear Fa F_f
 refine Aw<|Bn (Iv (-1)) Av<|Ay<|AY<|⟨_,En,[Iv (-1)],⟨Av,trivial⟩,J.ext,?_⟩
 exact Vr.eq (a:=(vI .i64)) (x:=(-1)) ⟨Av,(show BR .i64 (-1) from by decide)⟩ (oi F)

def G7 (s:List A8) (f:A8→Option Bool):Option Bool:=
 (HM s f).bind fun A=>
 some (decide (0≤A))

theorem Ky {w:World} {O:List Nat} {s:List A8} {f:A8→Option Bool} {Aa:Option Addr} {Ca:Nat} {v_f:Value} (hO:∀k∈O,k<w.heap.size) (Fa:CA AO w O Aa Ca s) (F_f:Gt Try.prog w O v_f (vA AO) vB f) {x:Bool} (F:G7 s f=some x):
 Ok Try.prog 51 [Sl Aa s Ca,v_f] w O vB x:=by
 unfold G7 at F
 refine Bt (n:=9) (xs:=[.tmp 4]) Try.func51 Av Try.ntmps51 Try.results51 Av ?_
 have hs:=St.start hO
 refine Ax<|Aw<|Bn (Bo false) Av<|Ay<|Ax<|Aw<|Be (Sl Aa s Ca) Av<|Be v_f Av ?_
 obtain⟨A,G,F⟩:=bd F
 refine AA<|Bj hs Try.call77 (Nh (s:=s) (f:=f) hs.ltw Fa F_f G) Av ?_
 rintro M N Q I J
 obtain⟨rfl,Ra⟩:=J
 refine AA<|Hk Av Av<|Bn (Bo (decide (0≤A))) Av<|Ay<|AY<|⟨_,En,[Bo (decide (0≤A))],⟨Av,trivial⟩,I.ext,?_⟩
 exact Vr.eq (a:=vB) (x:=decide (0≤A)) Av (oi F)

def Ea (y:A8) (A:List (A8 × Bool)):Option Bool:=
 some ((B0 A y).getD false)

theorem Jt {w:World} {O:List Nat} {y:A8} {A:List (A8 × Bool)} {F:Addr} (hO:∀k∈O,k<w.heap.size) (Ra:BR .i64 y.leaf) (Rb:BR .i64 y.cell) (Fa:Iy (JN AV H5) w O F A) {x:Bool} (I:Ea y A=some x):
 Ok Try.prog 72 [Value.agg [Iv y.leaf,Iv y.cell].toArray,Value.pointer (some F)] w O vB x:=by
 unfold Ea at I
 refine Bt (n:=7) (xs:=[.tmp 3]) Try.func72 Av Try.ntmps72 Try.results72 Av ?_
 have hs:=St.start hO
 refine Ax<|Aw<|AA<|BV (cs:=[Iv y.leaf,Iv y.cell]) hs Av Av ?_
 intro Q U _ M G
 refine Bn (Bo false) Av<|Ay<|Ax<|Aw ?_
 replace Fa:=Fa.step M
 refine AA<|AX Lj Av Fa Av ?_
 intro W J
 have N:=Px J;clear J
 refine AA<|Bz 0 BW G Av Av Av<|AA<|MW (q:=AV) (m:=H5) (n:=y) (z:=false) Try.underlying98 Is Try.zeroValue4 N (And.intro Ra Rb) Av Av<|Bn (Bo ((B0 A y).getD false)) Av<|Ay<|AY<|⟨_,En,[Bo ((B0 A y).getD false)],⟨Av,trivial⟩,G.ext,?_⟩
 exact Vr.eq (a:=vB) (x:=(B0 A y).getD false) Av (oi I)

abbrev W5:List Nat:=[4,6,10,11,12,13,14,15,16,17,18]

def DS (x_:DM) (places:List A8) (G:Int→Option Bool) (A:Int):Option Bool:=
 bif (decide (A<(x_.bad.length:Int))) then
  ck ((0:Int)≤A∧A<(x_.bad.length:Int))<|
  (G7 places (fun I=>Ea I (x_.bad.getD A.toNat default))).bind fun F=>
  bif (!F) then
   some false
  else
   G (IntKind.wrap .i64 (A+1))
 else
  some true

def F4 (x_:DM) (places:List A8):Option Bool:=
 B1 (DS x_ places) (((x_.bad.length:Int) - 0).toNat+1) 0

theorem JU {w:World} {O:List Nat} {x_:DM} {places:List A8} {Aa:Option Addr} {Ca:Nat} {Ab:Option Addr} {Cb:Nat} {Ac:Option Addr} {Cc:Nat} (hO:∀k∈O,k<w.heap.size) (Fa:CA (AM .i64) w O Aa Ca x_.variables) (Fb:CA (JN AV H5) w O Ab Cb x_.bad) (Fc:CA AO w O Ac Cc places) {x:Bool} (A:F4 x_ places=some x):
 Ok Try.prog 46 [Value.agg [Sl Aa x_.variables Ca,Sl Ab x_.bad Cb].toArray,Sl Ac places Cc] w O vB x:=by
 unfold F4 at A
 refine Bt (n:=19) (xs:=[.tmp 4]) Try.func46 Av Try.ntmps46 Try.results46 Av ?_
 have hs:=St.start hO
 refine Ax<|Aw<|AA<|BV (cs:=[Sl Aa x_.variables Ca,Sl Ab x_.bad Cb]) hs Av Av ?_
 intro b1 w2 _ p3 aB
 refine Bn (Bo false) Av<|Ay<|Ax<|Ax<|Aw<|AA<|AP 1 Kw Av Ma Av Av<|AA<|AQ 0 Ma aB Av Av Av<|AA<|Bd Try.underlying84 Av ?_
 replace Fb:=Fb.step p3
 have a3:=Bb Fb
 refine Be (Iv 0) Av<|Ay<|AE<|Wr [] [(1,Sl Ac places Cc),(8,Sl Ab x_.bad Cb),(9,Iv (x_.bad.length:Int)),(10,Iv 0)] fun a4=>Bh W5 (fun m fr w'=>∃(F:Int) (aC:Bi),aC=[(some b1,Oc [Sl Aa x_.variables Ca,Sl Ab x_.bad Cb] 86)]∧fr [] [(10,Iv F)]∧aB.S (ks aC O) w'∧St ⟨w,[],[]⟩ O w' aC∧BR .i64 F∧B1 (DS x_ places) m F=some x) (((x_.bad.length:Int) - 0).toNat+1) ⟨0,_,Av,BB.of ⟨Av,trivial⟩,AB.refl _ _,aB,EG,A⟩ ?_ ?_
 rintro _ _ ⟨_,_,_,_,_,_,_,A⟩;exact Dg A
 rintro a5 a6 aI a2 a7 ⟨F,_,rfl,M,I,J,Ra,A⟩
 obtain⟨a8,aD,A⟩:=Dh A;unfold DS at A
 rw [M.eq];clear M
 have N:=I
 refine Ax<|Aw<|AA<|Bu Av Av<|Ay<|Ax<|AF A Av (fun aJ A=>?_) (fun aJ A=>?_)
 refine AH<|Ax<|AE<|Ax<|Aw ?_
 obtain⟨X,A⟩:=AG A
 replace Fb:=Fb.step I
 refine AA<|AC (q:=JN AV H5) Ma Lj Av Av Fb Av X.1 X.2 ?_
 intro a9 aK
 refine AA<|AX Lj Av aK Av ?_
 intro aE aL
 have G:=Px aL;clear aL
 refine AA<|Bx Lj J ?_
 intro W bA _ aF Y
 clear J
 replace G:=G.step aF
 refine Bk (Il (cs:=[Value.map none]) (vs:=[aE]) (cs':=[aE]) (bs':=[(some W,Oc [aE] 98),(some b1,Oc [Sl Aa x_.variables Ca,Sl Ab x_.bad Cb] 86)]) (i:=0) Lj Y Av Av Av (NA.cells1 G) Av (BG Av) (by simp only [List.all_cons,NA.one1 G]<;> rfl) Av Av ?_)
 intro aV aG Z
 clear Y
 refine Ay<|Ax ?_
 clear aK
 refine Aw<|Be (Sl Ac places Cc) Av ?_
 replace G:=G.step aG
 obtain⟨Q,aM,aH⟩:=St.publishP (p:=JN AV H5) (i:=0) (x:=gt x_.bad F) Z Av (QH G)
 clear Z
 refine AA<|GE (a':=[]) (c':=[Value.pointer (some (⟨W,0,none⟩:Addr))]) Av Av ?_
 have F38:Gt Try.prog aV (ks [(some b1,Oc [Sl Aa x_.variables Ca,Sl Ab x_.bad Cb] 86)] O) (Value.func (.func 72) #[] #[Value.pointer (some (⟨W,0,none⟩:Addr))]) (vA AO) vB (fun U=>Ea U (gt x_.bad F)):=by
  intro bB O40 aN aO bC U bD aW aP
  obtain⟨_,rfl,⟨_,_,rfl,⟨rfl,Rb⟩,⟨rfl,Rc⟩⟩⟩:=aW
  exact⟨72,#[],#[Value.pointer (some (⟨W,0,none⟩:Addr))],Av,Try.call72,Jt (y:=U) aO Rb Rc (aH.step aN) aP⟩
 obtain⟨aQ,aR,A⟩:=bd A
 have aX:=(p3.trans (I.trans (aF.trans (aG.trans aM))))
 replace Fc:=Fc.step aX
 refine AA<|Bj Q Try.call51 (Ky (s:=places) (f:=(fun U=>Ea U (gt x_.bad F))) Q.ltw Fc F38 aR) Av ?_
 rintro bE bF aY aA aZ
 clear Q
 obtain rfl:=aZ
 refine AA<|Es Av<|Ay<|AF A Av (fun aS A=>?_) (fun aS A=>?_)
 refine Ax ?_
 clear Fc G aH F38
 refine Aw<|Bn (Bo false) Av<|Ay<|AY<|⟨_,En,[Bo false],⟨Av,trivial⟩,aA.ext,?_⟩
 exact Vr.eq (a:=vB) (x:=false) Av (oi A)
 refine AH ?_
 clear G aH F38
 refine Aw<|AA<|Bm Av Av<|Be (Iv (wq (F+1))) Av<|Ay ?_
 have a0:=(aF.trans (aG.trans (aM.trans aY)))
 replace N:=N.trans a0
 exact aI _ _ ⟨(wq (F+1)),_,Av,BB.of ⟨Av,trivial⟩,N,aA,(AZ .i64 _),Ed aD A⟩
 refine Br<|Ax ?_
 obtain⟨aT,bG⟩:=J.sub (bs':=[]) (.cons _ List.Sublist.slnil)
 clear Fa Fb Fc
 clear J
 refine Aw<|Bn (Bo true) Av<|Ay<|AY<|⟨_,En,[Bo true],⟨Av,trivial⟩,aT.ext,?_⟩
 exact Vr.eq (a:=vB) (x:=true) Av (oi A)

abbrev W6:List Nat:=[10,11,46,47,48,49,50,51,52,53,54,55,78]

abbrev W7:List Nat:=[13,15,59,60,61,62,63,64,65,66,67,68,69,70]

abbrev Uz:List Nat:=[8,10,11,42,43,44,45,46,47,48,49,50,51,52,53,54,55,78]

abbrev SQ:List Nat:=[6,7,8,10,11,29,30,31,32,33,34,35,36,37,38,39,40,41,42,43,44,45,46,47,48,49,50,51,52,53,54,55,78]

def DV (I:(List DM)) (U:Int) (W:(List A8)→Int→Bool→(List Int)→(List A8)→Option (AS × Bool × Int)) (X:Int) (Y:Bool) (Z:List Int) (aA:List A8) (N:(List A8)→Int→Bool→(List Int)→(List A8)→Option (AS × Bool × Int)) (F:(List Int)) (Q:(List A8)→Int→(List A8)→Option (AS × Bool × Int)) (A:List A8) (G:Int) (J:List A8):Option (AS × Bool × Int):=
 bif (decide (G<(F.length:Int))) then
  ck ((0:Int)≤G∧G<(F.length:Int))<|
  ck ((0:Int)≤(F.getD G.toNat default)∧(F.getD G.toNat default)<(J.length:Int))<|
  ck ((A.length+[J.getD (F.getD G.toNat default).toNat default].length)*16≤140737488355328)<|
  Q (A++[J.getD (F.getD G.toNat default).toNat default]) (IntKind.wrap .i64 (G+1)) J
 else
  (F4 (I.getD U.toNat default) A).bind fun M=>
  bif M then
   W J 0 true ((I.getD U.toNat default).variables) A
  else
   N J X Y Z aA

def F6 (A:(List DM)) (W:Int) (I:(List A8)→Int→Bool→(List Int)→(List A8)→Option (AS × Bool × Int)) (G:(List A8)→Int→Bool→(List Int)→(List A8)→Option (AS × Bool × Int)) (F:(List Int)) (J:List A8) (M:Int) (N:Bool) (Q:List Int) (U:List A8):Option (AS × Bool × Int):=
 In (DV A W I M N Q U G F) (((F.length:Int) - 0).toNat+1) ([]:List A8) 0 J

def Ez (A:(List DM)) (X:Int) (U:Int→Int→Bool→(List Int)→(List A8)→Option (AS × Bool × Int)) (W:Int→Int→Bool→(List Int)→(List A8)→Option (AS × Bool × Int)) (G:Int) (Y:Int) (Z:Bool) (aA:List Int) (aB:List A8):Option (AS × Bool × Int):=
 bif (decide (G<(A.length:Int))) then
  ck ((0:Int)≤G∧G<(A.length:Int))<|
  (ED (A.getD G.toNat default)).bind fun F=>
  (Gj (F.length:Int) X).bind fun I=>
  jn (fun(aC:List A8) (J:Int) (M:Bool) (N:List Int) (Q:List A8)=>
   W (IntKind.wrap .i64 (G+1)) J M N Q)
  (fun aD=>
   jn (fun(aC:List A8) (J:Int) (M:Bool) (N:List Int) (Q:List A8)=>
    some ((⟨N,Q⟩:AS),M,J))
   (fun aE=>
    LV (F6 A G aE) aD I F Y Z aA aB))
 else
  U (IntKind.wrap .i64 (X+1)) Y Z aA aB

def E0 (A:(List DM)) (F:Int→Int→Bool→(List Int)→(List A8)→Option (AS × Bool × Int)) (G:Int) (I:Int) (J:Bool) (M:List Int) (N:List A8):Option (AS × Bool × Int):=
 I8 (Ez A G F) (((A.length:Int) - 0).toNat+1) 0 I J M N

def F7 (p:A9) (G:Int) (F:DL) (I:Int→Option (AS × Bool × Int)) (J:Int):Option (AS × Bool × Int):=
 bif (decide (J≤(p.variables.length:Int))) then
  (EC F J).bind fun A=>
  bif (decide ((A.length:Int)=0)) then
   I (IntKind.wrap .i64 (J+1))
  else
   I8 (E0 A) 1000000 1 G false ([]:List Int) ([]:List A8)
 else
  some ((⟨([]:List Int),([]:List A8)⟩:AS),false,0)

def Ec (p:A9):Option (AS × Bool × Int):=
 (FU p).bind fun A=>
 bif (decide (A≠0)) then
  jn (some ((⟨([]:List Int),([]:List A8)⟩:AS),false,A))
  (fun G=>
   G)
 else
  bif (decide (16<(p.variables.length:Int))) then
   some ((⟨([]:List Int),([]:List A8)⟩:AS),false,2)
  else
   (FV p).bind fun F=>
   B1 (F7 p A F) 1000000 1

theorem G3 {w:World} {O:List Nat} {p:A9} {Aa:Option Addr} {Ca:Nat} {Ab:Option Addr} {Cb:Nat} {Ac:Option Addr} {Cc:Nat} (hO:∀k∈O,k<w.heap.size) (Fa:CA B2 w O Aa Ca p.cells) (Fb:CA (BE (AM .i64)) w O Ab Cb p.capacity) (Fc:CA AT w O Ac Cc p.variables) {x:AS × Bool × Int} (Z:Ec p=some x):
 Ok Try.prog 13 [Value.agg (C0 p Aa Ca Ab Cb Ac Cc).toArray] w O (Sp (vA FP) vB (vI .i64)) x:=by
 unfold Ec at Z
 refine Bt (n:=80) (xs:=[.cell 2 34,.cell 3 4,.cell 4 29]) Try.func13 Av Try.ntmps13 Try.results13 Av ?_
 have hs:=St.start hO
 refine Ax<|Aw<|AA<|BV (cs:=(C0 p Aa Ca Ab Cb Ac Cc)) hs Av Av ?_
 intro b1 w2 _ p3 gY
 refine AA<|Bx Dq gY ?_
 intro b6 w7 _ p8 gZ
 clear gY
 refine AA<|Bx Ji gZ ?_
 intro aI kV _ h0 eU
 clear gZ
 refine AA<|Bx Ki eU ?_
 intro aJ kW _ h1 cH
 clear eU
 refine Ay<|Ax<|Ax<|Aw<|AA<|Bz 3 Bw cH Av Av Av ?_
 obtain⟨aB,g1,Z⟩:=bd Z
 have fP:=(p3.trans (p8.trans (h0.trans h1)))
 replace Fb:=Fb.step fP;replace Fa:=Fa.step fP;replace Fc:=Fc.step fP
 refine AA<|Bj cH Try.call12 (Jj (p:=p) cH.ltw Fa Fb Fc g1) Av ?_
 rintro kX kY h2 eV h3
 clear cH
 obtain⟨rfl,Ra⟩:=h3
 refine Bk<|FJ (Iv aB) .z Ki eV Av Av Av Av ?_
 intro kZ h4 aR
 clear eV
 refine Ay<|Ax<|Aw<|AA<|AQ 0 Ki aR Av Av Av<|AA<|FB Av Av<|Ay<|AF Z Av (fun g2 Z=>?_) (fun g2 Z=>?_)
 refine Wr [] [(2,Pt b6 0),(3,Pt aI 0),(4,Pt aJ 0)] fun i8=>?_
 obtain⟨h5,g3,Z⟩:=Dp Z
 refine D8 [20,21] (fun fr w'=>∃(aM:Bi),aM=[(some aJ,Oc [Iv aB] 29),(some aI,Oc [Bo false] 4),(some b6,Oc [Value.slice none 0 0,Value.slice none 0 0] 34),(some b1,Oc (C0 p Aa Ca Ab Cb Ac Cc) 26)]∧fr [] []∧aR.S (ks aM O) w'∧St ⟨w,[],[]⟩ O w' aM∧h5=some x) ?_ ?_
 rintro i9 k0 ⟨_,rfl,c5,h6,cI,Z⟩
 replace Z:=VU g3 Z
 rw [c5.eq];clear c5
 refine AY<|⟨_,En,[Value.agg [Value.slice none 0 0,Value.slice none 0 0].toArray,Bo false,Iv aB],⟨Lw (cs:=[Value.slice none 0 0,Value.slice none 0 0]) (vs:=[Value.slice none 0 0,Value.slice none 0 0]) Dq (i:=2) cI Av Av Av Av,MN (cs:=[Bo false]) Ji (i:=1) cI Av Av Av,MN (cs:=[Iv aB]) Ki (i:=0) cI Av Av Av,trivial⟩,cI.ext,?_⟩
 exact Vr.eq (a:=Sp (vA FP) vB (vI .i64)) (x:=((⟨([]:List Int),([]:List A8)⟩:AS),false,aB)) (Pp (Jn (Cz (AU (B5 CA.nil_) (B5 CA.nil_)))) Av ⟨Av,Ra⟩) (oi Z)
 intro k1 cJ
 have aQ:=aR.stepR
 refine RD (g0:=[]) (m:=2) (fl:=[]) (f:=1) (Dc aR) Av (.inl Av) Av (by decide+kernel) Av ?_  -- 3
 refine Ba (Value.agg [Value.slice none 0 0,Value.slice none 0 0].toArray) (fun _ _ _ hi ht=>Bz 2 Dq (AB.nx hi).1 (ht 2 Av) Av Av<|Gz hi)<|Ba (Iv aB) (fun _ _ _ hi ht=>AQ 0 Ki (AB.nx hi).1 (ht 4 Av) Av Av<|Gz hi)<|TA (fun h8 h9 c6 c7=>?_) (fun h8 h9 c6 c7=>?_)
 obtain⟨-,fQ,-⟩:=c6
 obtain⟨c8,iA⟩:=AB.nx c7
 rintro _ rfl _ rfl
 have iB:=aR.to c8 (fQ.trans iA)
 refine Bk<|Cx HG.p2 Dq c8 Av Av Av Av Av ?_
 intro k2 iC eW
 clear c8
 refine Bk<|FJ (Bo false) HG.p1 Ji eW Av Av Av Av ?_
 intro k3 iD eX
 clear eW
 refine Bk<|FJ (Iv aB) .z Ki eX Av Av Av Av ?_
 intro k4 iE g4
 clear eX
 refine Ay ?_
 replace aQ:=aQ.trans (iB.trans (iC.trans (iD.trans iE)))
 exact cJ _ _ ⟨_,Av,BB.of trivial,aQ,g4,Z⟩
 obtain⟨-,fR,-⟩:=c6
 obtain⟨bD,iF⟩:=AB.nx c7
 rintro _ rfl
 have fS:=aR.to bD (fR.trans iF)
 refine Po Av Av (by decide) Av (by decide) ?_ ?_
 refine KR<|Cx HG.p2 Dq bD Av Av Av Av Av ?_
 intro k5 g5 bU
 clear bD
 refine Po Av Av (by decide) Av (by decide) ?_ ?_
 refine KR<|FJ (Bo false) HG.p1 Ji bU Av Av Av Av ?_
 intro k6 iG c9
 clear bU
 refine RE Av (by decide) (.inr (by decide+kernel))<|Az<|AQ 0 Ki c9 Av Av Av<|Bk<|FJ (Iv aB) .z Ki c9 Av Av Av Av ?_
 intro k7 iH g6
 clear c9
 refine Ay ?_
 replace aQ:=aQ.trans (fS.trans (g5.trans (iG.trans iH)))
 exact cJ _ _ ⟨_,Av,BB.of trivial,aQ,g6,Z⟩
 refine Az<|AQ 0 Ki bU Av Av Av<|Bk<|FJ (Bo false) HG.p1 Ji bU Av Av Av Av ?_
 intro k8 iI eY
 clear bU
 refine Bk<|FJ (Iv aB) .z Ki eY Av Av Av Av ?_
 intro k9 iJ g7
 clear eY
 refine Ay ?_
 replace aQ:=aQ.trans (fS.trans (g5.trans (iI.trans iJ)))
 exact cJ _ _ ⟨_,Av,BB.of trivial,aQ,g7,Z⟩
 refine Az<|AQ 0 Ki bD Av Av Av<|Bk<|Cx HG.p2 Dq bD Av Av Av Av Av ?_
 intro lA iK eZ
 clear bD
 refine Bk<|FJ (Bo false) HG.p1 Ji eZ Av Av Av Av ?_
 intro lB iL e0
 clear eZ
 refine Bk<|FJ (Iv aB) .z Ki e0 Av Av Av Av ?_
 intro jA g8 fT
 clear e0
 refine Ay ?_
 replace aQ:=aQ.trans (fS.trans (iK.trans (iL.trans g8)))
 exact cJ _ _ ⟨_,Av,BB.of trivial,aQ,fT,Z⟩
 refine AH<|Ax<|Ax<|Aw<|AA<|AP 2 Bw Av CI Av Av<|AA<|AQ 3 CI aR Av Av Av<|AA<|Bd Try.underlying24 Av ?_
 have dA:=(h2.trans h4)
 replace Fc:=Fc.step dA
 have iM:=Bb Fc
 refine AA<|EY Av Av<|Ay<|AF Z Av (fun fU Z=>?_) (fun fU Z=>?_)
 refine Ax ?_
 obtain⟨b2,jB⟩:=aR.sub (bs':=[(some aJ,Oc [Iv aB] 29),(some aI,Oc [Bo false] 4),(some b6,Oc [Value.slice none 0 0,Value.slice none 0 0] 34)]) (.cons_cons _ (.cons_cons _ (.cons_cons _ (.cons _ List.Sublist.slnil))))
 clear Fa Fb Fc
 refine Aw<|AA<|Bz 2 Dq b2 Av Av Av<|Bk<|Cx HG.p2 Dq b2 Av Av Av Av Av ?_
 intro jC jD dB
 clear b2
 refine Bk<|FJ (Bo false) HG.p1 Ji dB Av Av Av Av ?_
 intro jE jF dC
 clear dB
 refine Bk<|FJ (Iv 2) .z Ki dC Av Av Av Av ?_
 intro jG jH bH
 clear dC
 refine Ay<|AY<|⟨_,En,[Value.agg [Value.slice none 0 0,Value.slice none 0 0].toArray,Bo false,Iv 2],⟨Lw (cs:=[Value.slice none 0 0,Value.slice none 0 0]) (vs:=[Value.slice none 0 0,Value.slice none 0 0]) Dq (i:=2) bH Av Av Av Av,MN (cs:=[Bo false]) Ji (i:=1) bH Av Av Av,MN (cs:=[Iv 2]) Ki (i:=0) bH Av Av Av,trivial⟩,bH.ext,?_⟩
 exact Vr.eq (a:=Sp (vA FP) vB (vI .i64)) (x:=((⟨([]:List Int),([]:List A8)⟩:AS),false,2)) (Pp (Jn (Cz (AU (B5 CA.nil_) (B5 CA.nil_)))) Av ⟨Av,(show BR .i64 2 from by decide)⟩) (oi Z)
 refine AH<|Ax<|Aw<|AA<|Bz 3 Bw aR Av Av Av ?_
 obtain⟨A,fV,Z⟩:=bd Z
 replace Fb:=Fb.step dA;replace Fa:=Fa.step dA
 refine AA<|Bj aR Try.call42 (Jk (p:=p) aR.ltw Fa Fb Fc fV) Av ?_
 rintro jI jJ g9 dD hA
 obtain⟨_,rfl,⟨_,_,rfl,⟨_,_,rfl,⟨Ad,Cd,rfl,Fd⟩,⟨_,_,rfl,⟨Ae,Ce,rfl,Fe⟩,⟨Af,Cf,rfl,Ff⟩⟩⟩,⟨Ag,Cg,rfl,Fg⟩⟩⟩:=hA
 refine AA<|Bx Li dD ?_
 intro aC jK _ e1 dE
 clear dD
 refine Bk<|Cx .z Li dE Av Av Av Av Av ?_
 intro jL e2 dF
 clear dE
 refine Ay<|Ax<|Ax<|Aw<|Bn (Iv 1) Av<|Ay<|AE<|Wr [] [(1,Pt b1 0),(2,Pt b6 0),(3,Pt aI 0),(4,Pt aJ 0),(5,Pt aC 0),(6,Iv 1)] fun dG=>Bh SQ (fun m fr w'=>∃(a0:Int) (Ds134:List Nat) (aM:Bi),aM=[(some aC,Oc [Sl Ad A.p.cells Cd,Sl Ae A.p.capacity Ce,Sl Af A.p.variables Cf,Sl Ag A.uses Cg] 80),(some aJ,Oc [Iv aB] 29),(some aI,Oc [Bo false] 4),(some b6,Oc [Value.slice none 0 0,Value.slice none 0 0] 34),(some b1,Oc (C0 p Aa Ca Ab Cb Ac Cc) 26)]∧fr (Ds134++[]) [(6,Iv a0)]∧dF.S (ks aM (Ds134++O)) w'∧St ⟨w,[],Ds134++[]⟩ (Ds134++O) w' aM∧BR .i64 a0∧B1 (F7 p aB A) m a0=some x) 1000000 ⟨1,[],_,Av,BB.of ⟨Av,trivial⟩,AB.refl _ _,dF,MC,Z⟩ ?_ ?_
 rintro _ _ ⟨_,_,_,_,_,_,_,_,Z⟩;exact Dg Z
 rintro jM jN fW iN jO ⟨a0,Ds134,_,rfl,cK,bI,aX,Rb,Z⟩
 obtain⟨iO,eK,Z⟩:=Dh Z;unfold F7 at Z
 rw [cK.eq];clear cK
 have b3:=bI
 refine Ax<|Ax<|Aw<|Be (Iv a0) Av<|AA<|AP 2 Bw Av CI Av Av<|AA<|AQ 4 CI aX Av Av Av<|AA<|Bd Try.underlying24 Av ?_
 have hB:=(g9.trans (e1.trans (e2.trans bI)))
 replace Fc:=Fc.step hB
 have iP:=Bb Fc
 refine AA<|HZ Av Av<|Ay<|AF Z Av (fun fX Z=>?_) (fun fX Z=>?_)
 refine AH<|Ax<|AE<|Ax<|Aw<|AA<|Bz 0 Li aX Av Av Av<|Be (Iv a0) Av ?_
 obtain⟨F,fY,Z⟩:=bd Z
 have cL:=(e1.trans (e2.trans bI))
 replace Fe:=Fe.step cL;replace Fd:=Fd.step cL;replace Ff:=Ff.step cL;replace Fg:=Fg.step cL
 refine AA<|FT Try.call43 (Jr (t:=A) (k:=a0) aX.ltw Fd Fe Ff Fg Rb fY) Av ?_
 rintro _ jP ⟨fZ,bE,aW,e3,aE,rfl,f0,aS⟩
 obtain⟨bJ,hC⟩:=aX.callG (o:=aE) fZ f0
 rw [← Jd (o:=aE)] at aS
 clear aX
 refine Bn (Sl bE F aW) Av<|Ay<|Ax<|Ax<|Aw<|Be (Sl bE F aW) Av<|AA<|Bd Try.underlying82 Av ?_
 have iQ:=Hs aS
 refine AA<|GV Av Av<|Ay<|AF Z Av (fun f1 Z=>?_) (fun f1 Z=>?_)
 refine Br ?_
 clear aS
 refine Aw<|Be (Iv a0) Av<|AA<|Bm Av Av<|Bn (Iv (wq (a0+1))) Av<|Ay ?_
 have f2:=bJ.drop 0
 have hD:=(bJ.dropS 0)
 clear bJ
 have hE:=(hC.trans hD)
 replace b3:=b3.trans hE
 exact fW _ _ ⟨(wq (a0+1)),Ds134,_,Av,BB.of ⟨Av,trivial⟩,b3,f2,(AZ .i64 _),Ed eK Z⟩
 refine AH<|Ax<|Aw<|Bn (Iv 1) Av<|Ay<|AE<|Ip SQ (Ds134++[]) (CK ⟨dG,[]⟩ [(1,Pt b1 0),(2,Pt b6 0),(3,Pt aI 0),(4,Pt aJ 0),(5,Pt aC 0),(6,Iv 1)]) [(6,Iv a0),(7,Sl bE F aW),(8,Iv 1)] fun f3=>?_
 have dH:=bJ.ghost (Obj.cells #[] 45)
 refine Bh Uz (fun m fr w'=>∃(a4:Int) (dI:Int) (eL:Bool) (dJ:List Int) (dK:List A8) (Ah:Option Addr) (Ch:Nat) (Ai:Option Addr) (Ci:Nat) (a6:Option Nat) (a7:Obj) (Ds175:List Nat) (aM:Bi),aM=[(a6,a7),(e3,aE),(some aC,Oc [Sl Ad A.p.cells Cd,Sl Ae A.p.capacity Ce,Sl Af A.p.variables Cf,Sl Ag A.uses Cg] 80),(some aJ,Oc [Iv dI] 29),(some aI,Oc [Bo eL] 4),(some b6,Oc [Sl Ah dJ Ch,Sl Ai dK Ci] 34),(some b1,Oc (C0 p Aa Ca Ab Cb Ac Cc) 26)]∧fr (Ds175++[]) [(8,Iv a4)]∧dH.S (ks aM (Ds175++O)) w'∧St ⟨w,[],Ds175++[]⟩ (Ds175++O) w' aM∧BR .i64 a4∧BR .i64 dI∧CA (AM .i64) w' (ks aM (Ds175++O)) Ah Ch dJ∧Gs AO 45 w' (ks aM (Ds175++O)) Ai Ci dK a6 a7∧I8 (E0 F) m a4 dI eL dJ dK=some x) 1000000 ⟨1,aB,false,([]:List Int),([]:List A8),none,0,none,0,none,Obj.cells #[] 45,Ds134,_,Av,BB.of ⟨Av,trivial⟩,AB.refl _ _,dH,MC,Ra,CA.nil_,Gs.nil_,Z⟩ ?_ ?_
 rintro _ _ ⟨_,_,_,_,_,_,_,_,_,_,_,_,_,_,_,_,_,_,_,_,_,Z⟩;exact QF Z
 rintro jQ jR f4 iR jS ⟨a4,dI,eL,dJ,dK,Ah,Ch,Ai,Ci,a6,a7,Ds175,_,rfl,cM,cN,dL,Rc,Rd,Fh,Fi,Z⟩
 obtain⟨f5,eM,Z⟩:=QG Z;unfold E0 at Z
 rw [cM.eq];clear cM
 have b4:=cN
 refine Ax<|AE<|Ax<|Aw<|Be (Sl bE F aW) Av<|AA<|Bd Try.underlying82 Av ?_
 replace aS:=aS.step cN
 have iS:=Hs aS
 refine Be (Iv 0) Av<|Ay<|AE<|Ip Uz (Ds175++[]) (CK (IT SQ (Ds134++[]) f3 (CK ⟨dG,[]⟩ [(1,Pt b1 0),(2,Pt b6 0),(3,Pt aI 0),(4,Pt aJ 0),(5,Pt aC 0),(6,Iv 1)])) [(6,Iv a0),(7,Sl bE F aW),(8,Iv 1)]) [(8,Iv a4),(44,Sl bE F aW),(45,Iv (F.length:Int)),(46,Iv 0)] fun iT=>Bh W6 (fun m fr w'=>∃(W:Int) (bK:Int) (bV:Bool) (bL:List Int) (bM:List A8) (Aj:Option Addr) (Cj:Nat) (Ak:Option Addr) (Ck:Nat) (aO:Option Nat) (aP:Obj) (Ds196:List Nat) (aM:Bi),aM=[(aO,aP),(e3,aE),(some aC,Oc [Sl Ad A.p.cells Cd,Sl Ae A.p.capacity Ce,Sl Af A.p.variables Cf,Sl Ag A.uses Cg] 80),(some aJ,Oc [Iv bK] 29),(some aI,Oc [Bo bV] 4),(some b6,Oc [Sl Aj bL Cj,Sl Ak bM Ck] 34),(some b1,Oc (C0 p Aa Ca Ab Cb Ac Cc) 26)]∧fr (Ds196++[]) [(46,Iv W)]∧dL.S (ks aM (Ds196++O)) w'∧St ⟨w,[],Ds196++[]⟩ (Ds196++O) w' aM∧BR .i64 W∧BR .i64 bK∧CA (AM .i64) w' (ks aM (Ds196++O)) Aj Cj bL∧Gs AO 45 w' (ks aM (Ds196++O)) Ak Ck bM aO aP∧I8 (Ez F a4 f5) m W bK bV bL bM=some x) (((F.length:Int) - 0).toNat+1) ⟨0,dI,eL,dJ,dK,Ah,Ch,Ai,Ci,a6,a7,Ds175,_,Av,BB.of ⟨Av,trivial⟩,AB.refl _ _,dL,EG,Rd,Fh,Fi,Z⟩ ?_ ?_
 rintro _ _ ⟨_,_,_,_,_,_,_,_,_,_,_,_,_,_,_,_,_,_,_,_,_,Z⟩;exact QF Z
 rintro jT jU f6 iU jV ⟨W,bK,bV,bL,bM,Aj,Cj,Ak,Ck,aO,aP,Ds196,_,rfl,cO,bN,bO,Re,Rf,Fj,Fk,Z⟩
 obtain⟨iV,eN,Z⟩:=QG Z;unfold Ez at Z
 rw [cO.eq];clear cO
 have b5:=bN
 refine Ax ?_
 clear Fh Fi
 refine Aw<|AA<|Bu Av Av<|Ay<|Ax<|AF Z Av (fun f7 Z=>?_) (fun f7 Z=>?_)
 refine AH<|Ax<|AE<|Ax<|Aw ?_
 obtain⟨dM,Z⟩:=AG Z
 replace aS:=aS.step bN
 refine AA<|B7 OW Kw Av Av aS dM ?_
 rintro aF rfl rfl
 refine AA<|KB (i:=1) Kw Av bO Av Av aS dM ?_
 intro iW hF
 obtain⟨_,_,rfl,⟨Al,Cl,rfl,Fl⟩,⟨Am,Cm,rfl,Fm⟩⟩:=hF
 refine AA<|Bx Kw bO ?_
 intro aG jW _ hG dN
 clear bO
 refine Bk<|Cx .z Kw dN Av Av Av Av Av ?_
 intro jX hH bP
 clear dN
 refine Ay<|Ax<|Aw<|AA<|Bz 0 Kw bP Av Av Av ?_
 obtain⟨aN,f8,Z⟩:=bd Z
 have dO:=(hG.trans hH)
 replace Fm:=Fm.step dO;replace Fl:=Fl.step dO
 refine AA<|FT Try.call44 (Js (x_:=gt F W) bP.ltw Fl Fm f8) Av ?_
 rintro _ jY ⟨f9,bW,bX,cP,bF,rfl,gA,a1⟩
 obtain⟨dP,e4⟩:=bP.callG (o:=bF) f9 gA
 rw [← Jd (o:=bF)] at a1
 clear bP
 refine AA<|Bx Ep dP ?_
 intro aH jZ _ dQ dR
 clear dP
 refine Bk<|FJ (Sl bW aN bX) .z Ep dR Av Av Av Av ?_
 intro j0 dS b7
 clear dR
 refine Ay<|Ax<|Aw<|AA<|AQ 0 Ep b7 Av Av Av<|AA<|Bd Try.underlying32 Av ?_
 replace a1:=a1.step (dQ.trans dS)
 have gB:=Hs a1
 refine Be (Iv a4) Av ?_
 obtain⟨dT,gC,Z⟩:=bd Z
 refine AA<|Bj b7 Try.call45 (J9 (n:=(aN.length:Int)) (k:=a4) b7.ltw gB Rc gC) Av ?_
 rintro dU dV dW dX hI
 have F_y253:VL Try.prog (J4 (vC (BE (AM .i64)))) _ _ dU dT:=hI
 refine Ay<|AE ?_
 obtain⟨e5,gD,Z⟩:=Dp Z
 obtain⟨cQ,gE,Z⟩:=Dp Z
 obtain⟨gF,cR⟩:=dX.front (i:=9) Av
 clear dX
 obtain⟨dY,cS⟩:=gF.front (i:=9) Av
 obtain⟨gG,cT⟩:=dY.front (i:=9) Av
 clear dY
 obtain⟨gH,cU⟩:=gG.front (i:=9) Av
 obtain⟨dZ,cV⟩:=gH.front (i:=9) Av
 obtain⟨gI,cW⟩:=dZ.front (i:=9) Av
 clear dZ
 obtain⟨d0,cX⟩:=gI.front (i:=8) Av
 obtain⟨d1,cY⟩:=d0.front (i:=8) Av
 clear d0
 obtain⟨d2,cZ⟩:=d1.front (i:=8) Av
 clear d1
 obtain⟨b8,c0⟩:=d2.front (i:=9) Av
 clear d2
 replace F_y253:=F_y253.step (cR.trans (cS.trans (cT.trans (cU.trans (cV.trans (cW.trans (cX.trans (cY.trans (cZ.trans c0)))))))))
 have bQ:=F_y253;obtain⟨iX,iY,eO,eP,bQ⟩:=bQ
 replace a1:=a1.step (dW.trans (cR.trans (cS.trans (cT.trans (cU.trans (cV.trans (cW.trans (cX.trans (cY.trans (cZ.trans c0))))))))))
 have d3:=(dO.trans (e4.trans (dQ.trans (dS.trans (dW.trans (cR.trans (cS.trans (cT.trans (cU.trans (cV.trans (cW.trans (cX.trans (cY.trans (cZ.trans c0))))))))))))))
 replace Fk:=Fk.step d3;replace Fj:=Fj.step d3
 refine Ly (σ:=(List A8) × Int × Bool × (List Int) × (List A8) × (Option Addr) × Nat × (Option Nat) × Obj × (Option Addr) × Nat × (Option Addr) × Nat × (Option Nat) × Obj) (ps:=[56]) b8 (rfl.trans eO) eP bQ Av Ps NS (fun s=>match s with |(Y,U,X,N,Q,An,Cn,J,M,Ao,Co,Ap,Cp,G,I)=>[(G,I),(some aH,Oc [Sl An Y Cn] 32),(J,M),(some aG,Oc [Sl Al ((gt F W).variables) Cl,Sl Am ((gt F W).bad) Cm] 86),(some aF,aE),(some aC,Oc [Sl Ad A.p.cells Cd,Sl Ae A.p.capacity Ce,Sl Af A.p.variables Cf,Sl Ag A.uses Cg] 80),(some aJ,Oc [Iv U] 29),(some aI,Oc [Bo X] 4),(some b6,Oc [Sl Ao N Co,Sl Ap Q Cp] 34),(some b1,Oc (C0 p Aa Ca Ab Cb Ac Cc) 26)]) (fun s w O=>match s with |(Y,U,X,N,Q,An,Cn,J,M,Ao,Co,Ap,Cp,G,I)=>Gs AO 45 w O An Cn Y J M∧BR .i64 U∧CA (AM .i64) w O Ao Co N∧Gs AO 45 w O Ap Cp Q G I) (fun s w O w' O' p h=>by obtain⟨Y,U,X,N,Q,An,Cn,J,M,Ao,Co,Ap,Cp,G,I⟩:=s;have h:Gs AO 45 w O An Cn Y J M∧BR .i64 U∧CA (AM .i64) w O Ao Co N∧Gs AO 45 w O Ap Cp Q G I:=h;obtain⟨Fn,Rg,Fo,Fp⟩:=h;exact⟨Fn.step p,Rg,Fo.step p,Fp.step p⟩) (fun s l=>match s with |(Y,U,X,N,Q,An,Cn,J,M,Ao,Co,Ap,Cp,G,I)=>LV (F6 F W cQ) e5 l Y U X N Q=some x) [none] (fun e s=>match e,s with |none,(Y,U,X,N,Q,An,Cn,J,M,Ao,Co,Ap,Cp,G,I)=>cQ Y U X N Q=some x |_,_=>False) (aN,bK,bV,bL,bM,bW,bX,cP,bF,Aj,Cj,Ak,Ck,aO,aP) Av ⟨a1,Rf,Fj,Fk⟩ Z ?_ ?_ ?_
 rintro j1 E291 ⟨Y,U,X,N,Q,An,Cn,J,M,Ao,Co,Ap,Cp,G,I⟩ aD d4 bG gJ hJ iZ bR c1 ⟨Fn,Rg,Fo,Fp⟩ Z b9
 replace bR:St hJ (E291++(Ds196++O)) bG [(G,I),(some aH,Oc [Sl An Y Cn] 32),(J,M),(some aG,Oc [Sl Al ((gt F W).variables) Cl,Sl Am ((gt F W).bad) Cm] 86),(some aF,aE),(some aC,Oc [Sl Ad A.p.cells Cd,Sl Ae A.p.capacity Ce,Sl Af A.p.variables Cf,Sl Ag A.uses Cg] 80),(some aJ,Oc [Iv U] 29),(some aI,Oc [Bo X] 4),(some b6,Oc [Sl Ao N Co,Sl Ap Q Cp] 34),(some b1,Oc (C0 p Aa Ca Ab Cb Ac Cc) 26)]:=bR
 have aY:AB (ks [(aO,aP),(some aH,Oc [Sl bW aN bX] 32),(cP,bF),(some aG,Oc [Sl Al ((gt F W).variables) Cl,Sl Am ((gt F W).bad) Cm] 86),(some aF,aE),(some aC,Oc [Sl Ad A.p.cells Cd,Sl Ae A.p.capacity Ce,Sl Af A.p.variables Cf,Sl Ag A.uses Cg] 80),(some aJ,Oc [Iv bK] 29),(some aI,Oc [Bo bV] 4),(some b6,Oc [Sl Aj bL Cj,Sl Ak bM Ck] 34),(some b1,Oc (C0 p Aa Ca Ab Cb Ac Cc) 26)] (Ds196++O)) dV (ks [(G,I),(some aH,Oc [Sl An Y Cn] 32),(J,M),(some aG,Oc [Sl Al ((gt F W).variables) Cl,Sl Am ((gt F W).bad) Cm] 86),(some aF,aE),(some aC,Oc [Sl Ad A.p.cells Cd,Sl Ae A.p.capacity Ce,Sl Af A.p.variables Cf,Sl Ag A.uses Cg] 80),(some aJ,Oc [Iv U] 29),(some aI,Oc [Bo X] 4),(some b6,Oc [Sl Ao N Co,Sl Ap Q Cp] 34),(some b1,Oc (C0 p Aa Ca Ab Cb Ac Cc) 26)] (E291++(Ds196++O))) bG:=c1;clear c1
 replace Fn:Gs AO 45 bG (ks [(G,I),(some aH,Oc [Sl An Y Cn] 32),(J,M),(some aG,Oc [Sl Al ((gt F W).variables) Cl,Sl Am ((gt F W).bad) Cm] 86),(some aF,aE),(some aC,Oc [Sl Ad A.p.cells Cd,Sl Ae A.p.capacity Ce,Sl Af A.p.variables Cf,Sl Ag A.uses Cg] 80),(some aJ,Oc [Iv U] 29),(some aI,Oc [Bo X] 4),(some b6,Oc [Sl Ao N Co,Sl Ap Q Cp] 34),(some b1,Oc (C0 p Aa Ca Ab Cb Ac Cc) 26)] (E291++(Ds196++O))) An Cn Y J M:=Fn
 replace Rg:BR .i64 U:=Rg
 replace Fo:CA (AM .i64) bG (ks [(G,I),(some aH,Oc [Sl An Y Cn] 32),(J,M),(some aG,Oc [Sl Al ((gt F W).variables) Cl,Sl Am ((gt F W).bad) Cm] 86),(some aF,aE),(some aC,Oc [Sl Ad A.p.cells Cd,Sl Ae A.p.capacity Ce,Sl Af A.p.variables Cf,Sl Ag A.uses Cg] 80),(some aJ,Oc [Iv U] 29),(some aI,Oc [Bo X] 4),(some b6,Oc [Sl Ao N Co,Sl Ap Q Cp] 34),(some b1,Oc (C0 p Aa Ca Ab Cb Ac Cc) 26)] (E291++(Ds196++O))) Ao Co N:=Fo
 replace Fp:Gs AO 45 bG (ks [(G,I),(some aH,Oc [Sl An Y Cn] 32),(J,M),(some aG,Oc [Sl Al ((gt F W).variables) Cl,Sl Am ((gt F W).bad) Cm] 86),(some aF,aE),(some aC,Oc [Sl Ad A.p.cells Cd,Sl Ae A.p.capacity Ce,Sl Af A.p.variables Cf,Sl Ag A.uses Cg] 80),(some aJ,Oc [Iv U] 29),(some aI,Oc [Bo X] 4),(some b6,Oc [Sl Ao N Co,Sl Ap Q Cp] 34),(some b1,Oc (C0 p Aa Ca Ab Cb Ac Cc) 26)] (E291++(Ds196++O))) Ap Cp Q G I:=Fp
 have gK:=UV (show LV _ _ (aD::d4) Y U X N Q=some _ from Z);clear Z;obtain⟨gL,eQ,Z⟩:=gK
 unfold F6 at Z
 replace b9:(J4 (vC (BE (AM .i64)))) aD bG (ks [(G,I),(some aH,Oc [Sl An Y Cn] 32),(J,M),(some aG,Oc [Sl Al ((gt F W).variables) Cl,Sl Am ((gt F W).bad) Cm] 86),(some aF,aE),(some aC,Oc [Sl Ad A.p.cells Cd,Sl Ae A.p.capacity Ce,Sl Af A.p.variables Cf,Sl Ag A.uses Cg] 80),(some aJ,Oc [Iv U] 29),(some aI,Oc [Bo X] 4),(some b6,Oc [Sl Ao N Co,Sl Ap Q Cp] 34),(some b1,Oc (C0 p Aa Ca Ab Cb Ac Cc) 26)] (E291++(Ds196++O))) gJ:=b9
 obtain⟨j2,rfl,hK⟩:=b9
 obtain⟨Aq,Cq,rfl,Fq⟩:=BH hK
 refine Aw<|Bn (Sl Aq aD Cq) Av<|Ay<|Exists.intro _<|And.intro bR ?_
 intro j3 hL RQ310 i0 gM bY gN gO
 clear bR
 refine AE<|Ax ?_
 clear Fj Fk a1
 refine Wr [] [(1,Pt b1 0),(2,Pt b6 0),(3,Pt aI 0),(4,Pt aJ 0),(5,Pt aC 0),(6,Iv a0),(7,Sl (some ⟨aF,0,none⟩) F aW),(8,Iv a4),(10,Pt aG 0),(11,Pt aH 0),(12,Sl Aq aD Cq),(44,Sl (some ⟨aF,0,none⟩) F aW),(45,Iv (F.length:Int)),(46,Iv W),(55,dU)] fun i1=>Aw<|Bn (Value.slice none 0 0) Av<|Ay<|Ax<|Ax<|Aw<|Be (Sl Aq aD Cq) Av<|AA<|Bd Try.underlying31 Av ?_
 replace Fq:=Fq.step bY
 have i2:=Bb Fq
 refine Be (Iv 0) Av<|Ay<|AE<|Wr [] [(1,Pt b1 0),(2,Pt b6 0),(3,Pt aI 0),(4,Pt aJ 0),(5,Pt aC 0),(6,Iv a0),(7,Sl (some ⟨aF,0,none⟩) F aW),(8,Iv a4),(10,Pt aG 0),(11,Pt aH 0),(13,Value.slice none 0 0),(44,Sl (some ⟨aF,0,none⟩) F aW),(45,Iv (F.length:Int)),(46,Iv W),(55,dU),(57,Sl Aq aD Cq),(58,Iv (aD.length:Int)),(59,Iv 0)] fun i3=>?_
 have d5:=gM.ghost (Obj.cells #[] 45)
 replace Fn:=Fn.step bY
 refine Bh W7 (fun m fr w'=>∃(aA:List A8) (aK:Int) (aL:List A8) (Ar:Option Addr) (Cr:Nat) (a8:Option Nat) (a9:Obj) (As:Option Addr) (Cs:Nat) (a2:Option Nat) (aU:Obj) (aM:Bi),aM=[(a8,a9),(G,I),(some aH,Oc [Sl As aL Cs] 32),(a2,aU),(some aG,Oc [Sl Al ((gt F W).variables) Cl,Sl Am ((gt F W).bad) Cm] 86),(some aF,aE),(some aC,Oc [Sl Ad A.p.cells Cd,Sl Ae A.p.capacity Ce,Sl Af A.p.variables Cf,Sl Ag A.uses Cg] 80),(some aJ,Oc [Iv U] 29),(some aI,Oc [Bo X] 4),(some b6,Oc [Sl Ao N Co,Sl Ap Q Cp] 34),(some b1,Oc (C0 p Aa Ca Ab Cb Ac Cc) 26)]∧fr [] [(13,Sl Ar aA Cr),(59,Iv aK)]∧d5.S (ks aM (E291++(Ds196++O))) w'∧St hL (E291++(Ds196++O)) w' aM∧Gs AO 45 w' (ks aM (E291++(Ds196++O))) Ar Cr aA a8 a9∧BR .i64 aK∧Gs AO 45 w' (ks aM (E291++(Ds196++O))) As Cs aL a2 aU∧In (DV F W cQ U X N Q gL aD) m aA aK aL=some x) (((aD.length:Int) - 0).toNat+1) ⟨([]:List A8),0,Y,none,0,none,Obj.cells #[] 45,An,Cn,J,M,_,Av,BB.of ⟨Av,Av,trivial⟩,AB.refl _ _,d5,Gs.nil_,EG,Fn,Z⟩ ?_ ?_
 rintro _ _ ⟨_,_,_,_,_,_,_,_,_,_,_,_,_,_,_,_,_,_,_,Z⟩;exact QC Z
 rintro j4 j5 gP i4 j6 ⟨aA,aK,aL,Ar,Cr,a8,a9,As,Cs,a2,aU,_,rfl,c2,a3,aT,Fr,Rh,Fs,Z⟩
 obtain⟨i5,eR,Z⟩:=QE Z;unfold DV at Z
 rw [c2.eq];clear c2
 have cA:=a3
 refine Ax ?_
 clear Fn
 refine Aw<|AA<|Bu Av Av<|Ay<|Ax<|AF Z Av (fun gQ Z=>?_) (fun gQ Z=>?_)
 refine AH<|Ax<|AE<|Ax<|Aw ?_
 obtain⟨d6,Z⟩:=AG Z
 replace Fq:=Fq.step a3
 refine AA<|AC (q:=(AM .i64)) Bp BD Av Av Fq Av d6.1 d6.2 ?_
 intro j7 e6
 refine AA<|AX BD Av e6 Av ?_
 intro j8 hM
 obtain⟨rfl,Ri⟩:=C3 hM
 refine Bn (Iv (gt aD aK)) Av<|Ay ?_
 clear e6
 refine Aw<|Be (Sl Ar aA Cr) Av<|AA<|AQ 2 Ep aT Av Av Av<|Be (Iv (gt aD aK)) Av ?_
 obtain⟨d7,Z⟩:=AG Z
 refine AA<|B7 Ep BW Av Av Fs d7 ?_
 rintro e7 rfl rfl
 refine AA<|KB (i:=3) BW Av aT Av Av Fs d7 ?_
 intro i6 hN
 obtain⟨_,_,rfl,⟨rfl,Rj⟩,⟨rfl,Rk⟩⟩:=hN
 refine AA<|Bf (cs:=[Iv ((gt aL (gt aD aK)).leaf),Iv ((gt aL (gt aD aK)).cell)]) (parts:=[(0,.tmp 67)]) Ep BW aT (by decide) Av ?_
 intro j9 kA i7 e8 cB
 clear aT
 obtain⟨d8,Z⟩:=AG Z
 replace Fr:=Fr.step e8
 refine AA (DR (q:=AO) (i:=1) (xs:=aA) (ys:=[gt aL (gt aD aK)]) (news:=[Iv ((gt aL (gt aD aK)).leaf),Iv ((gt aL (gt aD aK)).cell)]) Ep BW Av (by decide) cB Av Av Fr Av (Mm.owned' (len:=2) (cB.get (i:=0) Av) Av) (show Ej AO _ _ [Iv ((gt aL (gt aD aK)).leaf),Iv ((gt aL (gt aD aK)).cell)] [gt aL (gt aD aK)] from⟨_,_,Av,Cz (AU (AW Rj) (AW Rk)),Ej.nil⟩) d8 (by have:=d8;simp only [maxLen,gt];omega) ?_)
 intro e9 fA hP hQ kB hR cC d9
 clear cB
 have gR:=cC.drop 0
 have fB:=(cC.dropS 0)
 clear cC
 refine Bn (Sl e9 (aA++[gt aL (gt aD aK)]) fA) Av<|Ay<|Aw<|AA<|Bm Av Av<|Be (Iv (wq (aK+1))) Av<|Ay ?_
 have fC:=(e8.trans (hR.trans fB))
 replace cA:=cA.trans fC;replace d9:=d9.step fB;replace Fs:=Fs.step fC
 exact gP _ _ ⟨aA++[gt aL (gt aD aK)],(wq (aK+1)),aL,e9,fA,hP,hQ,some ⟨e7,0,none⟩,Cs,some e7,aU,_,Av,BB.of ⟨Av,Av,trivial⟩,cA,gR,d9,(AZ .i64 _),Fs,VV eR Z⟩
 refine Br<|Ax ?_
 clear Fq
 refine Aw<|AA<|Bz 4 Kw aT Av Av Av<|Be (Sl Ar aA Cr) Av ?_
 obtain⟨gS,fD,hS⟩:=Gs.publish (i:=0) aT Av Fr
 obtain⟨hZ,gT,Z⟩:=bd Z
 have fE:=(e4.trans (dQ.trans (dS.trans (dW.trans (cR.trans (cS.trans (cT.trans (cU.trans (cV.trans (cW.trans (cX.trans (cY.trans (cZ.trans (c0.trans (aY.trans (bY.trans a3))))))))))))))))
 replace Fm:=Fm.step fE;replace Fl:=Fl.step fE
 refine AA<|Bj aT Try.call46 (JU (x_:=gt F W) (places:=aA) gS.ltw (Fl.step fD) (Fm.step fD) hS gT) Av ?_
 rintro kC kD c3 a5 hT
 clear aT
 obtain rfl:=hT
 refine Ay<|AF Z Av (fun gU Z=>?_) (fun gU Z=>?_)
 refine Ax ?_
 clear aS F_y253
 refine Aw<|AA<|AP 0 Kw Av Bp Av Av<|AA<|AQ 4 Bp a5 Av Av Av<|Be (Sl Ar aA Cr) Av<|AA<|Dv (vs:=[Sl Al ((gt F W).variables) Cl,Sl Ar aA Cr]) (parts:=[(0,.tmp 75),(1,.tmp 76)]) Dq NE Av<|Bk<|Cx HG.p9 Dq a5 Av Av Av Av Av ?_
 intro kE fF eA
 clear a5
 refine Bk<|FJ (Bo true) HG.p8 Ji eA Av Av Av Av ?_
 intro kF fG eB
 clear eA
 refine Bk<|FJ (Iv 0) HG.p7 Ki eB Av Av Av Av ?_
 intro kG fH cD
 clear eB
 refine Ay<|AY ?_
 have gV:=cD.drop 1
 have fI:=(cD.dropS 1)
 clear cD
 have hU:=(bY.trans (a3.trans (c3.trans (fF.trans (fG.trans (fH.trans fI))))))
 replace aY:=aY.trans hU
 have eC:=(c3.trans (fF.trans (fG.trans (fH.trans fI))))
 replace Fr:=Fr.step eC;replace Fs:=Fs.step eC;replace Fl:=Fl.step eC
 exact gO none (aL,0,true,(gt F W).variables,aA,As,Cs,a2,aU,Al,Cl,Ar,Cr,a8,a9) _ _ (by simp) gV aY ⟨Fs,EG,Fl,Fr⟩ Z
 refine AH ?_
 have gW:=a5.drop 0
 have fJ:=(a5.dropS 0)
 clear a5
 have eD:=(bY.trans (a3.trans (c3.trans fJ)))
 replace aY:=aY.trans eD;replace Fp:=Fp.step eD
 have hV:=(c3.trans fJ)
 replace Fs:=Fs.step hV;replace Fo:=Fo.step eD
 exact gN (aL,U,X,N,Q,As,Cs,a2,aU,Ao,Co,Ap,Cp,G,I) _ _ gW aY ⟨Fs,Rg,Fo,Fp⟩ (Sv eQ Z)
 rintro D395 ⟨Y,U,X,N,Q,An,Cn,J,M,Ao,Co,Ap,Cp,G,I⟩ bZ bA bS ⟨Fn,Rg,Fo,Fp⟩ Z
 replace bA:St ⟨w,[],D395::(Ds196++[])⟩ (D395::(Ds196++O)) bZ [(G,I),(some aH,Oc [Sl An Y Cn] 32),(J,M),(some aG,Oc [Sl Al ((gt F W).variables) Cl,Sl Am ((gt F W).bad) Cm] 86),(some aF,aE),(some aC,Oc [Sl Ad A.p.cells Cd,Sl Ae A.p.capacity Ce,Sl Af A.p.variables Cf,Sl Ag A.uses Cg] 80),(some aJ,Oc [Iv U] 29),(some aI,Oc [Bo X] 4),(some b6,Oc [Sl Ao N Co,Sl Ap Q Cp] 34),(some b1,Oc (C0 p Aa Ca Ab Cb Ac Cc) 26)]:=bA
 replace bS:AB (ks [(aO,aP),(some aH,Oc [Sl bW aN bX] 32),(cP,bF),(some aG,Oc [Sl Al ((gt F W).variables) Cl,Sl Am ((gt F W).bad) Cm] 86),(some aF,aE),(some aC,Oc [Sl Ad A.p.cells Cd,Sl Ae A.p.capacity Ce,Sl Af A.p.variables Cf,Sl Ag A.uses Cg] 80),(some aJ,Oc [Iv bK] 29),(some aI,Oc [Bo bV] 4),(some b6,Oc [Sl Aj bL Cj,Sl Ak bM Ck] 34),(some b1,Oc (C0 p Aa Ca Ab Cb Ac Cc) 26)] (Ds196++O)) dV (ks [(G,I),(some aH,Oc [Sl An Y Cn] 32),(J,M),(some aG,Oc [Sl Al ((gt F W).variables) Cl,Sl Am ((gt F W).bad) Cm] 86),(some aF,aE),(some aC,Oc [Sl Ad A.p.cells Cd,Sl Ae A.p.capacity Ce,Sl Af A.p.variables Cf,Sl Ag A.uses Cg] 80),(some aJ,Oc [Iv U] 29),(some aI,Oc [Bo X] 4),(some b6,Oc [Sl Ao N Co,Sl Ap Q Cp] 34),(some b1,Oc (C0 p Aa Ca Ab Cb Ac Cc) 26)] (D395::(Ds196++O))) bZ:=bS
 replace Fn:Gs AO 45 bZ (ks [(G,I),(some aH,Oc [Sl An Y Cn] 32),(J,M),(some aG,Oc [Sl Al ((gt F W).variables) Cl,Sl Am ((gt F W).bad) Cm] 86),(some aF,aE),(some aC,Oc [Sl Ad A.p.cells Cd,Sl Ae A.p.capacity Ce,Sl Af A.p.variables Cf,Sl Ag A.uses Cg] 80),(some aJ,Oc [Iv U] 29),(some aI,Oc [Bo X] 4),(some b6,Oc [Sl Ao N Co,Sl Ap Q Cp] 34),(some b1,Oc (C0 p Aa Ca Ab Cb Ac Cc) 26)] (D395::(Ds196++O))) An Cn Y J M:=Fn
 replace Rg:BR .i64 U:=Rg
 replace Fo:CA (AM .i64) bZ (ks [(G,I),(some aH,Oc [Sl An Y Cn] 32),(J,M),(some aG,Oc [Sl Al ((gt F W).variables) Cl,Sl Am ((gt F W).bad) Cm] 86),(some aF,aE),(some aC,Oc [Sl Ad A.p.cells Cd,Sl Ae A.p.capacity Ce,Sl Af A.p.variables Cf,Sl Ag A.uses Cg] 80),(some aJ,Oc [Iv U] 29),(some aI,Oc [Bo X] 4),(some b6,Oc [Sl Ao N Co,Sl Ap Q Cp] 34),(some b1,Oc (C0 p Aa Ca Ab Cb Ac Cc) 26)] (D395::(Ds196++O))) Ao Co N:=Fo
 replace Fp:Gs AO 45 bZ (ks [(G,I),(some aH,Oc [Sl An Y Cn] 32),(J,M),(some aG,Oc [Sl Al ((gt F W).variables) Cl,Sl Am ((gt F W).bad) Cm] 86),(some aF,aE),(some aC,Oc [Sl Ad A.p.cells Cd,Sl Ae A.p.capacity Ce,Sl Af A.p.variables Cf,Sl Ag A.uses Cg] 80),(some aJ,Oc [Iv U] 29),(some aI,Oc [Bo X] 4),(some b6,Oc [Sl Ao N Co,Sl Ap Q Cp] 34),(some b1,Oc (C0 p Aa Ca Ab Cb Ac Cc) 26)] (D395::(Ds196++O))) Ap Cp Q G I:=Fp
 replace Z:=UU (show LV _ _ [] Y U X N Q=some _ from Z)
 replace Z:=Sv gD (show e5 Y U X N Q=some _ from Z)
 clear b8
 clear Fj Fk a1 F_y253
 refine Aw<|AA<|Bm Av Av<|Be (Iv (wq (W+1))) Av<|Ay ?_
 have cE:=bA.drop 3
 have fK:=(bA.dropS 3)
 clear bA
 have cF:=cE.drop 2
 have fL:=(cE.dropS 2)
 clear cE
 have gX:=cF.drop 1
 have fM:=(cF.dropS 1)
 clear cF
 have hW:=(d3.trans (bS.trans (fK.trans (fL.trans fM))))
 replace b5:=b5.trans hW
 have fN:=(fK.trans (fL.trans fM))
 replace Fp:=Fp.step fN;replace Fo:=Fo.step fN
 exact f6 _ _ ⟨(wq (W+1)),U,X,N,Q,Ao,Co,Ap,Cp,G,I,D395::Ds196,_,Av,BB.of ⟨Av,trivial⟩,b5,gX,(AZ .i64 _),Rg,Fo,Fp,Sv eN Z⟩
 rintro kH D408 ⟨Y,U,X,N,Q,An,Cn,J,M,Ao,Co,Ap,Cp,G,I⟩ b0 eE bT c4 ⟨Fn,Rg,Fo,Fp⟩ Z
 simp only [List.mem_cons,List.not_mem_nil,or_false] at eE
 subst eE
 replace bT:St ⟨w,[],D408::(Ds196++[])⟩ (D408::(Ds196++O)) b0 [(G,I),(some aH,Oc [Sl An Y Cn] 32),(J,M),(some aG,Oc [Sl Al ((gt F W).variables) Cl,Sl Am ((gt F W).bad) Cm] 86),(some aF,aE),(some aC,Oc [Sl Ad A.p.cells Cd,Sl Ae A.p.capacity Ce,Sl Af A.p.variables Cf,Sl Ag A.uses Cg] 80),(some aJ,Oc [Iv U] 29),(some aI,Oc [Bo X] 4),(some b6,Oc [Sl Ao N Co,Sl Ap Q Cp] 34),(some b1,Oc (C0 p Aa Ca Ab Cb Ac Cc) 26)]:=bT
 replace c4:AB (ks [(aO,aP),(some aH,Oc [Sl bW aN bX] 32),(cP,bF),(some aG,Oc [Sl Al ((gt F W).variables) Cl,Sl Am ((gt F W).bad) Cm] 86),(some aF,aE),(some aC,Oc [Sl Ad A.p.cells Cd,Sl Ae A.p.capacity Ce,Sl Af A.p.variables Cf,Sl Ag A.uses Cg] 80),(some aJ,Oc [Iv bK] 29),(some aI,Oc [Bo bV] 4),(some b6,Oc [Sl Aj bL Cj,Sl Ak bM Ck] 34),(some b1,Oc (C0 p Aa Ca Ab Cb Ac Cc) 26)] (Ds196++O)) dV (ks [(G,I),(some aH,Oc [Sl An Y Cn] 32),(J,M),(some aG,Oc [Sl Al ((gt F W).variables) Cl,Sl Am ((gt F W).bad) Cm] 86),(some aF,aE),(some aC,Oc [Sl Ad A.p.cells Cd,Sl Ae A.p.capacity Ce,Sl Af A.p.variables Cf,Sl Ag A.uses Cg] 80),(some aJ,Oc [Iv U] 29),(some aI,Oc [Bo X] 4),(some b6,Oc [Sl Ao N Co,Sl Ap Q Cp] 34),(some b1,Oc (C0 p Aa Ca Ab Cb Ac Cc) 26)] (D408::(Ds196++O))) b0:=c4
 replace Fn:Gs AO 45 b0 (ks [(G,I),(some aH,Oc [Sl An Y Cn] 32),(J,M),(some aG,Oc [Sl Al ((gt F W).variables) Cl,Sl Am ((gt F W).bad) Cm] 86),(some aF,aE),(some aC,Oc [Sl Ad A.p.cells Cd,Sl Ae A.p.capacity Ce,Sl Af A.p.variables Cf,Sl Ag A.uses Cg] 80),(some aJ,Oc [Iv U] 29),(some aI,Oc [Bo X] 4),(some b6,Oc [Sl Ao N Co,Sl Ap Q Cp] 34),(some b1,Oc (C0 p Aa Ca Ab Cb Ac Cc) 26)] (D408::(Ds196++O))) An Cn Y J M:=Fn
 replace Rg:BR .i64 U:=Rg
 replace Fo:CA (AM .i64) b0 (ks [(G,I),(some aH,Oc [Sl An Y Cn] 32),(J,M),(some aG,Oc [Sl Al ((gt F W).variables) Cl,Sl Am ((gt F W).bad) Cm] 86),(some aF,aE),(some aC,Oc [Sl Ad A.p.cells Cd,Sl Ae A.p.capacity Ce,Sl Af A.p.variables Cf,Sl Ag A.uses Cg] 80),(some aJ,Oc [Iv U] 29),(some aI,Oc [Bo X] 4),(some b6,Oc [Sl Ao N Co,Sl Ap Q Cp] 34),(some b1,Oc (C0 p Aa Ca Ab Cb Ac Cc) 26)] (D408::(Ds196++O))) Ao Co N:=Fo
 replace Fp:Gs AO 45 b0 (ks [(G,I),(some aH,Oc [Sl An Y Cn] 32),(J,M),(some aG,Oc [Sl Al ((gt F W).variables) Cl,Sl Am ((gt F W).bad) Cm] 86),(some aF,aE),(some aC,Oc [Sl Ad A.p.cells Cd,Sl Ae A.p.capacity Ce,Sl Af A.p.variables Cf,Sl Ag A.uses Cg] 80),(some aJ,Oc [Iv U] 29),(some aI,Oc [Bo X] 4),(some b6,Oc [Sl Ao N Co,Sl Ap Q Cp] 34),(some b1,Oc (C0 p Aa Ca Ab Cb Ac Cc) 26)] (D408::(Ds196++O))) Ap Cp Q G I:=Fp
 replace Z:=Sv gE (show cQ Y U X N Q=some _ from Z)
 clear b8
 obtain⟨kJ,eS,eF,fO⟩:=St.close bT
 clear bT
 replace Fp:=Fp.step fO
 obtain⟨bB,hX,eG⟩:=Gs.publish (i:=0) eF Av Fp
 clear eF
 have hz:=(Gp bB).trans (AB.sub (O':=O) (fun k hk=>by simp [hk]))
 refine⟨_,eS,[Value.agg [Sl Ao N Co,Sl Ap Q Cp].toArray,Bo X,Iv U],⟨Lw (cs:=[Sl Ao N Co,Sl Ap Q Cp]) (vs:=[Sl Ao N Co,Sl Ap Q Cp]) Dq (i:=7) bB Av Av Av Av,MN (cs:=[Bo X]) Ji (i:=6) bB Av Av Av,MN (cs:=[Iv U]) Ki (i:=5) bB Av Av Av,trivial⟩,bB.ext,?_⟩
 replace eG:=eG.step hz
 have hY:=(fO.trans (hX.trans hz))
 replace Fo:=Fo.step hY
 exact Vr.eq (a:=Sp (vA FP) vB (vI .i64)) (x:=((⟨N,Q⟩:AS),X,U)) (Pp (Jn (Cz (AU (B5 Fo) (B5 eG)))) Av ⟨Av,Rg⟩) (oi Z)
 refine Br<|Aw<|Be (Iv a4) Av<|AA<|Bm Av Av<|Bn (Iv (wq (a4+1))) Av<|Ay ?_
 replace b4:=b4.trans bN
 exact f4 _ _ ⟨(wq (a4+1)),bK,bV,bL,bM,Aj,Cj,Ak,Ck,aO,aP,Ds196,_,Av,BB.of ⟨Av,trivial⟩,b4,bO,(AZ .i64 _),Rf,Fj,Fk,Sv eM Z⟩
 refine Br<|Ax ?_
 obtain⟨cG,kK⟩:=aX.sub (bs':=[(some aJ,Oc [Iv aB] 29),(some aI,Oc [Bo false] 4),(some b6,Oc [Value.slice none 0 0,Value.slice none 0 0] 34)]) (.cons _ (.cons_cons _ (.cons_cons _ (.cons_cons _ (.cons _ List.Sublist.slnil)))))
 clear Fa Fb Fc Fd Fe Ff Fg
 clear aX
 refine Aw<|AA<|Bz 2 Dq cG Av Av Av<|Bk<|Cx HG.p2 Dq cG Av Av Av Av Av ?_
 intro kL kM eH
 clear cG
 refine Bk<|FJ (Bo false) HG.p1 Ji eH Av Av Av Av ?_
 intro kN kO eI
 clear eH
 refine Bk<|FJ (Iv 0) .z Ki eI Av Av Av Av ?_
 intro kP kQ eJ
 clear eI
 refine Ay<|AY ?_
 obtain⟨kR,eT,bC,kS⟩:=St.close eJ
 clear eJ
 have hz:=(Gp bC).trans (AB.sub (O':=O) (fun k hk=>by simp [hk]))
 refine⟨_,eT,[Value.agg [Value.slice none 0 0,Value.slice none 0 0].toArray,Bo false,Iv 0],⟨Lw (cs:=[Value.slice none 0 0,Value.slice none 0 0]) (vs:=[Value.slice none 0 0,Value.slice none 0 0]) Dq (i:=2) bC Av Av Av Av,MN (cs:=[Bo false]) Ji (i:=1) bC Av Av Av,MN (cs:=[Iv 0]) Ki (i:=0) bC Av Av Av,trivial⟩,bC.ext,?_⟩
 exact Vr.eq (a:=Sp (vA FP) vB (vI .i64)) (x:=((⟨([]:List Int),([]:List A8)⟩:AS),false,0)) (Pp (Jn (Cz (AU (B5 CA.nil_) (B5 CA.nil_)))) Av ⟨Av,EG⟩) (oi Z)

abbrev W8:List Nat:=[54,55,56,57,58,59,60,61,62,63,64,65,66,67,68,69,70,71,72,73,74,75,76,77,78,79,80,81,82,83,84,85,86,87,88,89,90,91,92]

abbrev U0:List Nat:=[4,7,8,49,50,51,52,53,54,55,56,57,58,59,60,61,62,63,64,65,66,67,68,69,70,71,72,73,74,75,76,77,78,79,80,81,82,83,84,85,86,87,88,89,90,91,92,93]

abbrev W9:List Nat:=[22,23,24,25,26,27,28,29,30,31,32,33,34,35,36,37,38,39,40,41,42,43,44]

abbrev U1:List Nat:=[4,5,6,17,18,19,20,21,22,23,24,25,26,27,28,29,30,31,32,33,34,35,36,37,38,39,40,41,42,43,44,45]

def Hp (p:A9) (r_:AS) (I:Int→Option Int) (A:Int):Option Int:=
 bif (decide (A<(r_.places.length:Int))) then
  ck ((0:Int)≤A∧A<(r_.places.length:Int))<|
  jn (fun(J:Bool)=>
   bif J then
    some 320
   else
    I (IntKind.wrap .i64 (A+1)))
  (fun F=>
   bif (decide (((r_.places.getD A.toNat default).leaf)<0)) then
    F true
   else
    bif (decide ((p.capacity.length:Int)≤((r_.places.getD A.toNat default).leaf))) then
     F true
    else
     bif (decide (((r_.places.getD A.toNat default).cell)<0)) then
      F true
     else
      bif (decide ((p.cells.length:Int)≤((r_.places.getD A.toNat default).cell))) then
       F true
      else
       bif (decide (0<A)) then
        ck ((0:Int)≤(IntKind.wrap .i64 (A - 1))∧(IntKind.wrap .i64 (A - 1))<(r_.places.length:Int))<|
        (DC (r_.places.getD (IntKind.wrap .i64 (A - 1)).toNat default) (r_.places.getD A.toNat default)).bind fun G=>
        F (decide (0≤G))
       else
        F false)
 else
  some 0

def Hq (p:A9) (r_:AS) (G:Int→Option Int) (A:Int):Option Int:=
 bif (decide (A<(r_.variables.length:Int))) then
  ck ((0:Int)≤A∧A<(r_.variables.length:Int))<|
  jn (fun(I:Bool)=>
   bif I then
    some 320
   else
    G (IntKind.wrap .i64 (A+1)))
  (fun F=>
   bif (decide ((r_.variables.getD A.toNat default)<0)) then
    F true
   else
    bif (decide ((p.variables.length:Int)≤(r_.variables.getD A.toNat default))) then
     F true
    else
     bif (decide (0<A)) then
      ck ((0:Int)≤(IntKind.wrap .i64 (A - 1))∧(IntKind.wrap .i64 (A - 1))<(r_.variables.length:Int))<|
      F (decide ((r_.variables.getD A.toNat default)≤(r_.variables.getD (IntKind.wrap .i64 (A - 1)).toNat default)))
     else
      F false)
 else
  B1 (Hp p r_) (((r_.places.length:Int) - 0).toNat+1) 0

def G8 (p:A9) (r_:AS):Option Int:=
 (FU p).bind fun A=>
 bif (decide (A≠0)) then
  some A
 else
  B1 (Hq p r_) (((r_.variables.length:Int) - 0).toNat+1) 0

theorem Ih {w:World} {O:List Nat} {p:A9} {r_:AS} {Aa:Option Addr} {Ca:Nat} {Ab:Option Addr} {Cb:Nat} {Ac:Option Addr} {Cc:Nat} {Ad:Option Addr} {Cd:Nat} {Ae:Option Addr} {Ce:Nat} (hO:∀k∈O,k<w.heap.size) (Fa:CA B2 w O Aa Ca p.cells) (Fb:CA (BE (AM .i64)) w O Ab Cb p.capacity) (Fc:CA AT w O Ac Cc p.variables) (Fd:CA (AM .i64) w O Ad Cd r_.variables) (Fe:CA AO w O Ae Ce r_.places) {x:Int} (F:G8 p r_=some x):
 Ok Try.prog 23 [Value.agg (C0 p Aa Ca Ab Cb Ac Cc).toArray,Value.agg [Sl Ad r_.variables Cd,Sl Ae r_.places Ce].toArray] w O (vI .i64) x:=by
 unfold G8 at F
 refine Bt (n:=94) (xs:=[.tmp 4]) Try.func23 Av Try.ntmps23 Try.results23 Av ?_
 have hs:=St.start hO
 refine Ax<|Aw<|AA<|BV (cs:=(C0 p Aa Ca Ab Cb Ac Cc)) hs Av Av ?_
 intro b1 w2 _ p3 b7
 refine AA<|BV (cs:=[Sl Ad r_.variables Cd,Sl Ae r_.places Ce]) b7 Av Av ?_
 intro b6 w7 _ p8 a1
 clear b7
 refine Bn (Iv 0) Av<|Ay<|Ax<|Ax<|Aw<|AA<|Bz 1 Bw a1 Av Av Av ?_
 obtain⟨M,b8,F⟩:=bd F
 have a2:=(p3.trans p8)
 replace Fb:=Fb.step a2;replace Fa:=Fa.step a2;replace Fc:=Fc.step a2
 refine AA<|Bj a1 Try.call12 (Jj (p:=p) a1.ltw Fa Fb Fc b8) Av ?_
 rintro eP eQ b9 aB dD
 clear a1
 obtain⟨rfl,Ra⟩:=dD
 refine Bn (Iv M) Av<|Ay<|Ax<|Aw<|Be (Iv M) Av<|AA<|FB Av Av<|Ay<|AF F Av (fun cA F=>?_) (fun cA F=>?_)
 refine Ax ?_
 obtain⟨cB,eR⟩:=aB.sub (bs':=[]) (.cons _ (.cons _ List.Sublist.slnil))
 clear Fa Fb Fc Fd Fe
 clear aB
 refine Aw<|Be (Iv M) Av<|Bn (Iv M) Av<|Ay<|AY<|⟨_,En,[Iv M],⟨Av,trivial⟩,cB.ext,?_⟩
 exact Vr.eq (a:=(vI .i64)) (x:=M) ⟨Av,Ra⟩ (oi F)
 refine AH<|Ax<|Ax<|Aw<|AA<|AP 0 Dq Av Bp Av Av<|AA<|AQ 0 Bp aB Av Av Av<|AA<|Bd Try.underlying31 Av ?_
 have cC:=(a2.trans b9)
 replace Fd:=Fd.step cC
 have dQ:=Bb Fd
 refine Be (Iv 0) Av<|Ay<|AE<|Wr [] [(2,Pt b1 0),(3,Pt b6 0),(15,Sl Ad r_.variables Cd),(16,Iv (r_.variables.length:Int)),(17,Iv 0)] fun cD=>Bh U1 (fun m fr w'=>∃(J:Int) (Q:Bi),Q=[(some b6,Oc [Sl Ad r_.variables Cd,Sl Ae r_.places Ce] 34),(some b1,Oc (C0 p Aa Ca Ab Cb Ac Cc) 26)]∧fr [] [(17,Iv J)]∧aB.S (ks Q O) w'∧St ⟨w,[],[]⟩ O w' Q∧BR .i64 J∧B1 (Hq p r_) m J=some x) (((r_.variables.length:Int) - 0).toNat+1) ⟨0,_,Av,BB.of ⟨Av,trivial⟩,AB.refl _ _,aB,EG,F⟩ ?_ ?_
 rintro _ _ ⟨_,_,_,_,_,_,_,F⟩;exact Dg F
 rintro eS eT cE dR eU ⟨J,_,rfl,aM,Y,N,Rb,F⟩
 obtain⟨dS,bJ,F⟩:=Dh F;unfold Hq at F
 rw [aM.eq];clear aM
 have aN:=Y
 refine Ax<|Aw<|AA<|Bu Av Av<|Ay<|Ax<|AF F Av (fun cF F=>?_) (fun cF F=>?_)
 refine AH<|Ax<|AE<|Ax<|Aw<|Be (Iv J) Av ?_
 obtain⟨bC,F⟩:=AG F
 replace Fd:=Fd.step Y
 refine AA<|AC (q:=(AM .i64)) Bp BD Av Av Fd Av bC.1 bC.2 ?_
 intro eV a3
 refine AA<|AX BD Av a3 Av ?_
 intro eW dE
 obtain⟨rfl,Rc⟩:=C3 dE
 refine Bn (Iv J) Av<|Bn (Iv (gt r_.variables J)) Av<|Ay<|Ip U1 [] (CK ⟨cD,[]⟩ [(2,Pt b1 0),(3,Pt b6 0),(15,Sl Ad r_.variables Cd),(16,Iv (r_.variables.length:Int)),(17,Iv 0)]) [(5,Iv J),(6,Iv (gt r_.variables J)),(17,Iv J)] fun dT=>?_
 obtain⟨dF,cG,F⟩:=Dp F
 refine D8 W9 (fun fr w'=>∃(bK:Bool) (Q:Bi),Q=[(some b6,Oc [Sl Ad r_.variables Cd,Sl Ae r_.places Ce] 34),(some b1,Oc (C0 p Aa Ca Ab Cb Ac Cc) 26)]∧fr [] [(44,Bo bK)]∧N.S (ks Q O) w'∧St ⟨w,[],[]⟩ O w' Q∧dF bK=some x) ?_ ?_
 rintro dU eX ⟨bK,_,rfl,aO,bL,bD,F⟩
 replace F:=Ed cG F
 rw [aO.eq];clear aO
 refine AF F Av (fun cH F=>?_) (fun cH F=>?_)
 refine Ax ?_
 clear a3
 refine Aw<|Bn (Iv 320) Av<|Ay<|AY<|⟨_,En,[Iv 320],⟨Av,trivial⟩,bD.ext,?_⟩
 exact Vr.eq (a:=(vI .i64)) (x:=320) ⟨Av,(show BR .i64 320 from by decide)⟩ (oi F)
 refine AH ?_
 clear a3
 refine Aw<|AA<|Bm Av Av<|Be (Iv (wq (J+1))) Av<|Ay ?_
 replace aN:=aN.trans bL
 exact cE _ _ ⟨(wq (J+1)),_,Av,BB.of ⟨Av,trivial⟩,aN,bD,(AZ .i64 _),Ed bJ F⟩
 intro eY aH
 have aI:=N.stepR
 clear a3
 refine Aw<|Be (Iv (gt r_.variables J)) Av<|AA<|Bu Av Av<|Be (Bo (decide ((gt r_.variables J)<0))) Av<|B4 F (fun cI F=>?_) (fun cI F=>?_)
 iterate 5 refine AI Av (AJ Av Av) Av ?_
 refine FR (Bo true) Av Av<|Be (Bo true) Av ?_
 iterate 12 refine AI Av (AJ Av Av) Av ?_
 exact FR (Bo true) Av Av<|Ay<|aH _ _ ⟨true,_,Av,BB.of ⟨Av,trivial⟩,aI,N,F⟩
 refine BN Av Av<|AD (v:=Iv (gt r_.variables J)) Av<|BN Av Av<|AP 2 Bw Av CI Av Av<|BN Av Av<|AQ 1 CI N Av Av Av<|BN Av Av<|Bd Try.underlying24 Av ?_
 have dG:=(b9.trans Y)
 replace Fc:=Fc.step dG
 have dV:=Bb Fc
 refine BN Av Av<|Hk Av Av<|FF (Bo (decide ((p.variables.length:Int)≤(gt r_.variables J)))) Av Av<|Be (Bo (decide ((p.variables.length:Int)≤(gt r_.variables J)))) Av<|B4 F (fun cJ F=>?_) (fun cJ F=>?_)
 iterate 12 refine AI Av (AJ Av Av) Av ?_
 exact FR (Bo true) Av Av<|Ay<|aH _ _ ⟨true,_,Av,BB.of ⟨Av,trivial⟩,aI,N,F⟩
 refine BN Av Av<|AD (v:=Iv J) Av<|BN Av Av<|EY Av Av<|BN Av Av<|AD (v:=Bo (decide (0<J))) Av<|B4 F (fun cK F=>?_) (fun cK F=>?_)
 refine BN Av Av<|AD (v:=Iv (gt r_.variables J)) Av<|BN Av Av<|AP 0 Dq Av Bp Av Av<|BN Av Av<|AQ 0 Bp N Av Av Av<|BN Av Av<|AD (v:=Iv J) Av<|BN Av Av<|FC Av Av ?_
 obtain⟨bE,F⟩:=AG F
 refine BN Av Av<|AC (q:=(AM .i64)) Bp BD Av Av Fd Av bE.1 bE.2 ?_
 intro eZ dH
 refine BN Av Av<|AX BD Av dH Av ?_
 intro e0 dI
 obtain⟨rfl,Rd⟩:=C3 dI
 exact BN Av Av<|HZ Av Av<|BN Av Av<|C6 (v:=Bo (decide ((gt r_.variables J)≤(gt r_.variables (wq (J - 1)))))) Av Av<|FF (Bo (decide ((gt r_.variables J)≤(gt r_.variables (wq (J - 1)))))) Av Av<|Ay<|aH _ _ ⟨decide ((gt r_.variables J)≤(gt r_.variables (wq (J - 1)))),_,Av,BB.of ⟨Av,trivial⟩,aI,N,F⟩
 iterate 8 refine AI Av (AJ Av Av) Av ?_
 exact BN Av Av<|Ek (v:=Bo false) Av Av<|FF (Bo false) Av Av<|Ay<|aH _ _ ⟨false,_,Av,BB.of ⟨Av,trivial⟩,aI,N,F⟩
 refine Br<|Ax<|Ax<|Aw<|AA<|AP 1 Dq Av Ep Av Av<|AA<|AQ 0 Ep N Av Av Av<|AA<|Bd Try.underlying32 Av ?_
 replace Fe:=Fe.step (cC.trans Y)
 have dW:=Bb Fe
 refine Be (Iv 0) Av<|Ay<|AE<|Wr [] [(2,Pt b1 0),(3,Pt b6 0),(47,Sl Ae r_.places Ce),(48,Iv (r_.places.length:Int)),(49,Iv 0)] fun cL=>Bh U0 (fun m fr w'=>∃(G:Int) (Q:Bi),Q=[(some b6,Oc [Sl Ad r_.variables Cd,Sl Ae r_.places Ce] 34),(some b1,Oc (C0 p Aa Ca Ab Cb Ac Cc) 26)]∧fr [] [(49,Iv G)]∧N.S (ks Q O) w'∧St ⟨w,[],[]⟩ O w' Q∧BR .i64 G∧B1 (Hp p r_) m G=some x) (((r_.places.length:Int) - 0).toNat+1) ⟨0,_,Av,BB.of ⟨Av,trivial⟩,AB.refl _ _,N,EG,F⟩ ?_ ?_
 rintro _ _ ⟨_,_,_,_,_,_,_,F⟩;exact Dg F
 rintro e1 e2 cM dX e3 ⟨G,_,rfl,aP,aQ,aJ,Re,F⟩
 obtain⟨dY,bM,F⟩:=Dh F;unfold Hp at F
 rw [aP.eq];clear aP
 have aR:=aQ
 refine Ax<|Aw<|AA<|Bu Av Av<|Ay<|Ax<|AF F Av (fun cN F=>?_) (fun cN F=>?_)
 refine AH<|Ax<|AE<|Ax<|Aw<|Be (Iv G) Av ?_
 obtain⟨bF,F⟩:=AG F
 replace Fe:=Fe.step aQ
 refine AA<|AC (q:=AO) Ep BW Av Av Fe Av bF.1 bF.2 ?_
 intro e4 a4
 refine AA<|BF BW Av a4 Av ?_
 intro dZ dJ
 obtain⟨_,_,rfl,⟨rfl,Rf⟩,⟨rfl,Rg⟩⟩:=dJ
 refine AA<|Bx BW aJ ?_
 intro aL e5 _ cO bG
 clear aJ
 refine Bn (Iv G) Av<|Bk<|Cx .z BW bG Av Av Av Av Av ?_
 intro e6 cP U
 clear bG
 refine Ay<|Ip U0 [] (CK ⟨cL,[]⟩ [(2,Pt b1 0),(3,Pt b6 0),(47,Sl Ae r_.places Ce),(48,Iv (r_.places.length:Int)),(49,Iv 0)]) [(7,Iv G),(8,Pt aL 0),(49,Iv G)] fun d0=>?_
 obtain⟨dK,cQ,F⟩:=Dp F
 refine D8 W8 (fun fr w'=>∃(bN:Bool) (Q:Bi),Q=[(some aL,Oc [Iv ((gt r_.places G).leaf),Iv ((gt r_.places G).cell)] 45),(some b6,Oc [Sl Ad r_.variables Cd,Sl Ae r_.places Ce] 34),(some b1,Oc (C0 p Aa Ca Ab Cb Ac Cc) 26)]∧fr [] [(92,Bo bN)]∧U.S (ks Q O) w'∧St ⟨w,[],[]⟩ O w' Q∧dK bN=some x) ?_ ?_
 rintro dL d1 ⟨bN,_,rfl,aK,a5,Z,F⟩
 replace F:=Ed cQ F
 rw [aK.eq];clear aK
 refine AF F Av (fun bO F=>?_) (fun bO F=>?_)
 refine Ax ?_
 clear a4
 refine Aw<|Bn (Iv 320) Av<|Ay<|AY<|⟨_,En,[Iv 320],⟨Av,trivial⟩,Z.ext,?_⟩
 exact Vr.eq (a:=(vI .i64)) (x:=320) ⟨Av,(show BR .i64 320 from by decide)⟩ (oi F)
 refine AH ?_
 clear a4
 refine Aw<|AA<|Bm Av Av<|Be (Iv (wq (G+1))) Av<|Ay ?_
 have bP:=Z.drop 0
 have cR:=(Z.dropS 0)
 clear Z
 have cS:=(cO.trans (cP.trans (a5.trans cR)))
 replace aR:=aR.trans cS
 exact cM _ _ ⟨(wq (G+1)),_,Av,BB.of ⟨Av,trivial⟩,aR,bP,(AZ .i64 _),Ed bM F⟩
 intro e7 X
 have I:=U.stepR
 clear a4
 refine B9 (g0:=[]) (m:=35) (fl:=[]) (Dc U) Av (.inl Av) Av (by decide+kernel) ?_  -- 13
 refine Ba (Pt aL 0) (fun _ _ _ hi A=>AP 0 BW Av BD (A 8 Av) Av<|Gz hi)<|Ba (Iv ((gt r_.places G).leaf)) (fun _ _ _ hi A=>AQ 0 BD (AB.nx hi).1 (A 54 Av) Av Av<|Gz hi)<|Ba (Bo (decide (((gt r_.places G).leaf)<0))) (fun _ _ _ hi A=>Bu (A 55 Av) Av<|Gz hi)<|Gf (decide (((gt r_.places G).leaf)<0)) (fun _ _ _ _ hi A=>Az<|AD (v:=Bo (decide (((gt r_.places G).leaf)<0))) (A 56 Av)<|Gz hi) (fun aC=>?_) (fun aC=>?_)
 replace F:=GA F aC
 iterate 6 refine E7 Av Av (fun _ _ _ h=>h) Av ?_
 refine Ba (Bo true) (fun _ _ _ hi A=>C6 (v:=Bo true) (A 57 Av) Av<|Gz hi)<|Ba (Bo true) (fun _ _ _ hi A=>AD (v:=Bo true) (A 64 Av)<|Gz hi) ?_
 iterate 3 refine E7 Av Av (fun _ _ _ h=>h) Av ?_
 refine Ba (Bo true) (fun _ _ _ hi A=>C6 (v:=Bo true) (A 65 Av) Av<|Gz hi)<|Ba (Bo true) (fun _ _ _ hi A=>AD (v:=Bo true) (A 69 Av)<|Gz hi) ?_
 iterate 6 refine E7 Av Av (fun _ _ _ h=>h) Av ?_
 refine Ba (Bo true) (fun _ _ _ hi A=>C6 (v:=Bo true) (A 70 Av) Av<|Gz hi)<|Ba (Bo true) (fun _ _ _ hi A=>AD (v:=Bo true) (A 77 Av)<|Gz hi) ?_
 iterate 10 refine E7 Av Av (fun _ _ _ h=>h) Av ?_
 refine BA fun d2 d3 bQ bR=>?_
 obtain⟨-,a6,-⟩:=bQ
 obtain⟨aS,cT⟩:=AB.nx bR
 rintro _ rfl _ rfl _ rfl _ rfl _ rfl _ rfl _ rfl _ rfl _ rfl _ rfl _ rfl _ rfl _ rfl _ rfl _ rfl _ rfl _ rfl _ rfl _ rfl _ rfl _ rfl _ rfl _ rfl _ rfl _ rfl _ rfl _ rfl _ rfl _ rfl _ rfl _ rfl _ rfl _ rfl _ rfl _ rfl
 have cU:=U.to aS (a6.trans cT)
 iterate 3 refine AI Av (AJ Av Av) Av ?_
 refine FR (Bo true) Av Av<|Ay ?_
 replace I:=I.trans cU
 exact X _ _ ⟨true,_,Av,BB.of ⟨Av,trivial⟩,I,aS,F⟩
 replace F:=GB F aC
 refine CV (Pt aL 0) Av Av (fun _ _ _ h=>h) (fun _ _ _ hi A=>AP 0 BW Av BD (A 8 Av) Av<|Gz hi)<|CV (Iv ((gt r_.places G).leaf)) Av Av (fun _ _ _ h=>h) (fun _ _ _ hi A=>AQ 0 BD (AB.nx hi).1 (A 58 Av) Av Av<|Gz hi)<|CV (Pt b1 1) Av Av (fun _ _ _ h=>h) (fun _ _ _ hi A=>AP 1 Bw Av CB (A 2 Av) Av<|Gz hi)<|CV (Sl Ab p.capacity Cb) Av Av (fun _ _ _ h=>h) (fun _ _ _ hi A=>AQ 2 CB (AB.nx hi).1 (A 60 Av) Av Av<|Gz hi)<|CV (Iv (p.capacity.length:Int)) Av Av (fun _ _ _ h=>h) (fun _ _ _ hi A=>Bd Try.underlying23 (A 61 Av)<|Gz hi)<|CV (Bo (decide ((p.capacity.length:Int)≤((gt r_.places G).leaf)))) Av Av (fun _ _ _ h=>h) (fun _ _ _ hi A=>Hk (A 59 Av) (A 62 Av)<|Gz hi)<|Ba (Bo (decide ((p.capacity.length:Int)≤((gt r_.places G).leaf)))) (fun _ _ _ hi A=>Ek (v:=Bo (decide ((p.capacity.length:Int)≤((gt r_.places G).leaf)))) (A 57 Av) (A 63 Av)<|Gz hi)<|Gf (decide ((p.capacity.length:Int)≤((gt r_.places G).leaf))) (fun _ _ _ _ hi A=>Az<|AD (v:=Bo (decide ((p.capacity.length:Int)≤((gt r_.places G).leaf)))) (A 64 Av)<|Gz hi) (fun aD=>?_) (fun aD=>?_)
 replace F:=GA F aD
 iterate 3 refine E7 Av Av (fun _ _ _ h=>h) Av ?_
 refine Ba (Bo true) (fun _ _ _ hi A=>C6 (v:=Bo true) (A 65 Av) Av<|Gz hi)<|Ba (Bo true) (fun _ _ _ hi A=>AD (v:=Bo true) (A 69 Av)<|Gz hi) ?_
 iterate 6 refine E7 Av Av (fun _ _ _ h=>h) Av ?_
 refine Ba (Bo true) (fun _ _ _ hi A=>C6 (v:=Bo true) (A 70 Av) Av<|Gz hi)<|Ba (Bo true) (fun _ _ _ hi A=>AD (v:=Bo true) (A 77 Av)<|Gz hi) ?_
 iterate 10 refine E7 Av Av (fun _ _ _ h=>h) Av ?_
 refine BA fun d4 d5 bS bT=>?_
 obtain⟨-,a7,-⟩:=bS
 obtain⟨aT,cV⟩:=AB.nx bT
 rintro _ rfl _ rfl _ rfl _ rfl _ rfl _ rfl _ rfl _ rfl _ rfl _ rfl _ rfl _ rfl _ rfl _ rfl _ rfl _ rfl _ rfl _ rfl _ rfl _ rfl _ rfl _ rfl _ rfl _ rfl _ rfl _ rfl _ rfl _ rfl _ rfl _ rfl _ rfl _ rfl _ rfl _ rfl _ rfl
 have cW:=U.to aT (a7.trans cV)
 iterate 3 refine AI Av (AJ Av Av) Av ?_
 refine FR (Bo true) Av Av<|Ay ?_
 replace I:=I.trans cW
 exact X _ _ ⟨true,_,Av,BB.of ⟨Av,trivial⟩,I,aT,F⟩
 replace F:=GB F aD
 refine CV (Pt aL 1) Av Av (fun _ _ _ h=>h) (fun _ _ _ hi A=>AP 1 BW Av BD (A 8 Av) Av<|Gz hi)<|CV (Iv ((gt r_.places G).cell)) Av Av (fun _ _ _ h=>h) (fun _ _ _ hi A=>AQ 0 BD (AB.nx hi).1 (A 66 Av) Av Av<|Gz hi)<|CV (Bo (decide (((gt r_.places G).cell)<0))) Av Av (fun _ _ _ h=>h) (fun _ _ _ hi A=>Bu (A 67 Av) Av<|Gz hi)<|Ba (Bo (decide (((gt r_.places G).cell)<0))) (fun _ _ _ hi A=>Ek (v:=Bo (decide (((gt r_.places G).cell)<0))) (A 65 Av) (A 68 Av)<|Gz hi)<|Gf (decide (((gt r_.places G).cell)<0)) (fun _ _ _ _ hi A=>Az<|AD (v:=Bo (decide (((gt r_.places G).cell)<0))) (A 69 Av)<|Gz hi) (fun aE=>?_) (fun aE=>?_)
 replace F:=GA F aE
 iterate 6 refine E7 Av Av (fun _ _ _ h=>h) Av ?_
 refine Ba (Bo true) (fun _ _ _ hi A=>C6 (v:=Bo true) (A 70 Av) Av<|Gz hi)<|Ba (Bo true) (fun _ _ _ hi A=>AD (v:=Bo true) (A 77 Av)<|Gz hi) ?_
 iterate 10 refine E7 Av Av (fun _ _ _ h=>h) Av ?_
 refine BA fun d6 d7 bU bV=>?_
 obtain⟨-,a8,-⟩:=bU
 obtain⟨aU,cX⟩:=AB.nx bV
 rintro _ rfl _ rfl _ rfl _ rfl _ rfl _ rfl _ rfl _ rfl _ rfl _ rfl _ rfl _ rfl _ rfl _ rfl _ rfl _ rfl _ rfl _ rfl _ rfl _ rfl _ rfl _ rfl _ rfl _ rfl _ rfl _ rfl _ rfl _ rfl _ rfl _ rfl _ rfl _ rfl _ rfl _ rfl _ rfl
 have cY:=U.to aU (a8.trans cX)
 iterate 3 refine AI Av (AJ Av Av) Av ?_
 refine FR (Bo true) Av Av<|Ay ?_
 replace I:=I.trans cY
 exact X _ _ ⟨true,_,Av,BB.of ⟨Av,trivial⟩,I,aU,F⟩
 replace F:=GB F aE
 refine CV (Pt aL 1) Av Av (fun _ _ _ h=>h) (fun _ _ _ hi A=>AP 1 BW Av BD (A 8 Av) Av<|Gz hi)<|CV (Iv ((gt r_.places G).cell)) Av Av (fun _ _ _ h=>h) (fun _ _ _ hi A=>AQ 0 BD (AB.nx hi).1 (A 71 Av) Av Av<|Gz hi)<|CV (Pt b1 0) Av Av (fun _ _ _ h=>h) (fun _ _ _ hi A=>AP 0 Bw Av F1 (A 2 Av) Av<|Gz hi)<|CV (Sl Aa p.cells Ca) Av Av (fun _ _ _ h=>h) (fun _ _ _ hi A=>AQ 2 F1 (AB.nx hi).1 (A 73 Av) Av Av<|Gz hi)<|CV (Iv (p.cells.length:Int)) Av Av (fun _ _ _ h=>h) (fun _ _ _ hi A=>Bd Try.underlying22 (A 74 Av)<|Gz hi)<|CV (Bo (decide ((p.cells.length:Int)≤((gt r_.places G).cell)))) Av Av (fun _ _ _ h=>h) (fun _ _ _ hi A=>Hk (A 72 Av) (A 75 Av)<|Gz hi)<|Ba (Bo (decide ((p.cells.length:Int)≤((gt r_.places G).cell)))) (fun _ _ _ hi A=>Ek (v:=Bo (decide ((p.cells.length:Int)≤((gt r_.places G).cell)))) (A 70 Av) (A 76 Av)<|Gz hi)<|Gf (decide ((p.cells.length:Int)≤((gt r_.places G).cell))) (fun _ _ _ _ hi A=>Az<|AD (v:=Bo (decide ((p.cells.length:Int)≤((gt r_.places G).cell)))) (A 77 Av)<|Gz hi) (fun aF=>?_) (fun aF=>?_)
 replace F:=GA F aF
 iterate 10 refine E7 Av Av (fun _ _ _ h=>h) Av ?_
 refine BA fun d8 d9 bW bX=>?_
 obtain⟨-,a9,-⟩:=bW
 obtain⟨aV,cZ⟩:=AB.nx bX
 rintro _ rfl _ rfl _ rfl _ rfl _ rfl _ rfl _ rfl _ rfl _ rfl _ rfl _ rfl _ rfl _ rfl _ rfl _ rfl _ rfl _ rfl _ rfl _ rfl _ rfl _ rfl _ rfl _ rfl _ rfl _ rfl _ rfl _ rfl _ rfl _ rfl _ rfl _ rfl _ rfl _ rfl _ rfl _ rfl
 have c0:=U.to aV (a9.trans cZ)
 iterate 3 refine AI Av (AJ Av Av) Av ?_
 refine FR (Bo true) Av Av<|Ay ?_
 replace I:=I.trans c0
 exact X _ _ ⟨true,_,Av,BB.of ⟨Av,trivial⟩,I,aV,F⟩
 replace F:=GB F aF
 refine CV (Iv G) Av Av (fun _ _ _ h=>h) (fun _ _ _ hi A=>AD (v:=Iv G) (A 7 Av)<|Gz hi)<|CV (Bo (decide (0<G))) Av Av (fun _ _ _ h=>h) (fun _ _ _ hi A=>EY (A 79 Av) Av<|Gz hi)<|Gf (decide (0<G)) (fun _ _ _ _ hi A=>BI Av (A 78 Av)<|AD (v:=Bo (decide (0<G))) (A 80 Av)<|Gz hi) (fun aG=>?_) (fun aG=>?_)
 replace F:=GA F aG
 refine CV (Pt b6 1) Av Av (fun _ _ _ h=>h) (fun _ _ _ hi A=>AP 1 Dq Av Ep (A 3 Av) Av<|Gz hi)<|CV (Sl Ae r_.places Ce) Av Av (fun _ _ _ h=>h) (fun _ _ _ hi A=>AQ 1 Ep (AB.nx hi).1 (A 82 Av) Av Av<|Gz hi)<|CV (Iv G) Av Av (fun _ _ _ h=>h) (fun _ _ _ hi A=>AD (v:=Iv G) (A 7 Av)<|Gz hi)<|CV (Iv (wq (G - 1))) Av Av (fun _ _ _ h=>h) (fun _ _ _ hi A=>FC (A 84 Av) Av<|Gz hi) ?_
 obtain⟨aW,F⟩:=AG F
 have c1:=(cO.trans cP)
 replace Fe:=Fe.step c1
 refine Bc (VP _ _ AO (gt r_.places (wq (G - 1)))) (VP.stab _ _) (fun dM eA g c2 hi A=>?_) ?_
 obtain⟨-,dN,-⟩:=c2
 replace Fe:=Fe.step dN
 refine BI Av (A 81 Av)<|AC (q:=AO) Ep BW (A 83 Av) (A 85 Av) Fe Av aW.1 aW.2 ?_
 intro eB c3
 exact Bs.same hi ⟨_,Av,c3⟩
 refine Bc (VD _ _ (vA AO) (gt r_.places (wq (G - 1)))) (VD.stab _ _) (fun dO eC g c2 hi A=>?_) ?_
 obtain⟨eD,c4,c5⟩:=A 86 Av
 refine BI Av (A 81 Av)<|BF BW c4 c5 Av ?_
 intro dP c6
 obtain⟨_,_,rfl,⟨rfl,Rh⟩,⟨rfl,Ri⟩⟩:=c6
 exact Bs.same hi (show Vr.vd (vA AO) _ _ _ _ from(Jn (Cz (AU (AW Rh) (AW Ri)))))
 refine CV (Value.agg [Iv ((gt r_.places G).leaf),Iv ((gt r_.places G).cell)].toArray) Av Av (fun _ _ _ h=>h) (fun _ _ _ hi A=>Bz 0 BW (AB.nx hi).1 (A 8 Av) Av Av<|Gz hi)<|BA fun eE eF bY bZ=>?_
 obtain⟨-,bA,-⟩:=bY
 obtain⟨aA,bH⟩:=AB.nx bZ
 rintro _ rfl eG aX
 replace aX:Vr.vd (vA AO) _ _ _ _:=aX
 obtain⟨_,rfl,⟨_,_,rfl,⟨rfl,Rj⟩,⟨rfl,Rk⟩⟩⟩:=aX
 rintro _ ⟨eH,rfl,bI⟩ _ rfl _ rfl _ rfl _ rfl _ rfl _ rfl _ rfl _ rfl _ rfl _ rfl _ rfl _ rfl _ rfl _ rfl _ rfl _ rfl _ rfl _ rfl _ rfl _ rfl _ rfl _ rfl _ rfl _ rfl _ rfl _ rfl _ rfl _ rfl _ rfl _ rfl _ rfl _ rfl
 have c7:=U.to aA (bA.trans bH)
 replace bI:=bI.step bH
 obtain⟨W,b0,F⟩:=bd F
 refine BN Av Av<|Bj aA Try.call55 (Ig (a:=gt r_.places (wq (G - 1))) (b:=gt r_.places G) aA.ltw Rj Rk Rf Rg b0) Av ?_
 rintro eI eJ c8 b2 c9
 clear aA
 obtain⟨rfl,Rl⟩:=c9
 refine BN Av Av<|Hk Av Av<|BN Av Av<|C6 (v:=Bo (decide (0≤W))) Av Av<|FF (Bo (decide (0≤W))) Av Av<|Ay ?_
 have dA:=(c7.trans c8)
 replace I:=I.trans dA
 exact X _ _ ⟨decide (0≤W),_,Av,BB.of ⟨Av,trivial⟩,I,b2,F⟩
 replace F:=GB F aG
 iterate 7 refine E7 Av Av (fun _ _ _ h=>h) Av ?_
 refine BA fun eK eL b3 b4=>?_
 obtain⟨-,bB,-⟩:=b3
 obtain⟨aY,dB⟩:=AB.nx b4
 rintro _ rfl _ rfl _ rfl _ rfl _ rfl _ rfl _ rfl _ rfl _ rfl _ rfl _ rfl _ rfl _ rfl _ rfl _ rfl _ rfl _ rfl _ rfl _ rfl _ rfl _ rfl _ rfl _ rfl _ rfl _ rfl _ rfl _ rfl _ rfl _ rfl _ rfl _ rfl _ rfl _ rfl _ rfl _ rfl
 have dC:=U.to aY (bB.trans dB)
 refine AI Av (AJ Av Av) Av<|AI Av (AJ Av Av) Av<|BN Av Av<|Ek (v:=Bo false) Av Av<|FF (Bo false) Av Av<|Ay ?_
 replace I:=I.trans dC
 exact X _ _ ⟨false,_,Av,BB.of ⟨Av,trivial⟩,I,aY,F⟩
 refine Br<|Ax ?_
 obtain⟨b5,eM⟩:=aJ.sub (bs':=[]) (.cons _ (.cons _ List.Sublist.slnil))
 clear Fa Fb Fc Fd Fe
 clear aJ
 refine Aw<|Bn (Iv 0) Av<|Ay<|AY<|⟨_,En,[Iv 0],⟨Av,trivial⟩,b5.ext,?_⟩
 exact Vr.eq (a:=(vI .i64)) (x:=0) ⟨Av,EG⟩ (oi F)

def FG (x_:A8) (A:List (A8 × Bool)):Option Bool:=
 some ((B0 A x_).getD false)

theorem Kj {w:World} {O:List Nat} {x_:A8} {A:List (A8 × Bool)} {F:Addr} (hO:∀k∈O,k<w.heap.size) (Ra:BR .i64 x_.leaf) (Rb:BR .i64 x_.cell) (Fa:Iy (JN AV H5) w O F A) {x:Bool} (I:FG x_ A=some x):
 Ok Try.prog 52 [Value.agg [Iv x_.leaf,Iv x_.cell].toArray,Value.pointer (some F)] w O vB x:=by
 unfold FG at I
 refine Bt (n:=7) (xs:=[.tmp 3]) Try.func52 Av Try.ntmps52 Try.results52 Av ?_
 have hs:=St.start hO
 refine Ax<|Aw<|AA<|BV (cs:=[Iv x_.leaf,Iv x_.cell]) hs Av Av ?_
 intro Q U _ M G
 refine Bn (Bo false) Av<|Ay<|Ax<|Aw ?_
 replace Fa:=Fa.step M
 refine AA<|AX Lj Av Fa Av ?_
 intro W J
 have N:=Px J;clear J
 refine AA<|Bz 0 BW G Av Av Av<|AA<|MW (q:=AV) (m:=H5) (n:=x_) (z:=false) Try.underlying98 Is Try.zeroValue4 N (And.intro Ra Rb) Av Av<|Bn (Bo ((B0 A x_).getD false)) Av<|Ay<|AY<|⟨_,En,[Bo ((B0 A x_).getD false)],⟨Av,trivial⟩,G.ext,?_⟩
 exact Vr.eq (a:=vB) (x:=(B0 A x_).getD false) Av (oi I)

def Gd (bad:List (A8 × Bool)) (F:AS) (I:Bool):Option (Bool × Bool):=
 (G7 F.places (fun G=>FG G bad)).bind fun A=>
 some (A,A)

theorem KN {w:World} {O:List Nat} {bad:List (A8 × Bool)} {J:AS} {G:Bool} {v_bad:Value} {I:Addr} {A:Nat} (aF:IA w O [(some A,Oc [Bo G] 4)]) (M_bad:NA AV H5 w (ks [(some A,Oc [Bo G] 4)] O) v_bad bad) (Fa:Iy FP w (ks [(some A,Oc [Bo G] 4)] O) I J) {x0:Bool} {y_fv1_:Bool} (X:Gd bad J G=some (x0,y_fv1_)):
 Xs Try.prog 50 [v_bad,Value.pointer (some I),Pt A 0] w O [(some A,Oc [Bo G] 4)] vB x0 (fun w' L'=>L'=[(some A,Obj.cells [Bo y_fv1_].toArray 4)]):=by
 unfold Gd at X
 refine Bt (n:=10) (xs:=[.tmp 4]) Try.func50 Av Try.ntmps50 Try.results50 Av ?_
 obtain⟨x,hxm⟩:∃x,x=(x0,y_fv1_):=⟨_,Av⟩
 rw [← hxm] at X
 have hs:St ⟨w,List.filterMap Prod.fst [(some A,Oc [Bo G] 4)],[]⟩ O w [(some A,Oc [Bo G] 4)]:=aF
 have hO:=hs.lt0
 refine Ax<|Aw<|AA<|BV (cs:=[v_bad]) hs (show ev _ _=v_bad from Av) (NA.cells1 M_bad) ?_
 intro b1 w2 _ p3 Y
 refine Bn (Bo false) Av<|Ay<|Ax<|Aw<|AA<|C2 Dq Av Ep (by decide) Av Av ?_
 replace Fa:=Fa.step p3
 have f6:=Fa.via.snd
 refine AA<|AX Ep Av f6 Av ?_
 intro v7 h8
 obtain⟨Aa,Ca,rfl,Fb⟩:=BH h8
 replace M_bad:=M_bad.step p3
 obtain⟨M,aH,Z⟩:=St.publishP (p:=JN AV H5) (i:=0) (x:=bad) Y Av (QH M_bad)
 clear Y
 refine AA<|GE (a':=[]) (c':=[Value.pointer (some (⟨b1,0,none⟩:Addr))]) Av Av ?_
 have F14:Gt Try.prog w2 (ks [(some A,Oc [Bo G] 4)] O) (Value.func (.func 52) #[] #[Value.pointer (some (⟨b1,0,none⟩:Addr))]) (vA AO) vB (fun N=>FG N bad):=by
  intro aO O16 aA aB aP N aQ aI aC
  obtain⟨_,rfl,⟨_,_,rfl,⟨rfl,Ra⟩,⟨rfl,Rb⟩⟩⟩:=aI
  exact⟨52,#[],#[Value.pointer (some (⟨b1,0,none⟩:Addr))],Av,Try.call52,Kj (x_:=N) aB Ra Rb (Z.step aA) aC⟩
 obtain⟨F,aD,X⟩:=bd X
 replace Fb:=Fb.step aH
 refine AA<|Bj M Try.call51 (Ky (s:=J.places) (f:=(fun N=>FG N bad)) M.ltw Fb F14 aD) Av ?_
 rintro aR aS aT Q aJ
 clear M
 obtain rfl:=aJ
 refine Bk<|FJ (Bo F) .z Ji Q Av Av Av Av ?_
 intro aU aV U
 clear Q
 refine Ay<|Ax ?_
 clear M_bad Fa f6 Fb Z F14
 refine Aw<|AA<|AQ 0 Ji U Av Av Av<|Bn (Bo F) Av<|Ay<|AY ?_
 have W:=(oi X).trans hxm;simp only [Prod.mk.injEq] at W;obtain⟨aE,rfl⟩:=W
 refine⟨_,En,[Bo F],⟨Av,trivial⟩,_,St.backB U,Av,?_⟩
 exact Vr.eq (a:=vB) (x:=F) Av aE
def S50 (A:Nat):Sx Bool where
 rd w O E s:=E=[(some A,Obj.cells [Bo s].toArray 4)]
 step:=fun p h=>by
  have hE:=h
  exact hE
theorem d50 {w:World} {O:List Nat} {A:Nat} {G:AS} {F:Addr} (Fa:Iy FP w O F G):
 Jh Try.prog AV H5 (S50 A) w O (Value.func (.func 50) #[] #[Value.pointer (some F),Pt A 0]) (fun xs s=>Gd xs G s):=by
 refine⟨⟨_,_,Av⟩,?_⟩
 intro I O1 L1 b o xs s r s' p hL hb ho hM hS J
 obtain rfl:=hS
 have hL':=hL.less (b:=b)
 have hp:=fun L=>IA.stepless (b:=b) L O1 I
 refine⟨50,#[],_,Av,Try.call50,(KN (x0:=r) (y_fv1_:=s') hL' (hL.readM hb ho hM) ((Fa.step p).step (hp _)) J).mono ?_⟩
 rintro u M ⟨L2,hB,rfl,hu⟩
 exact⟨_,hB.more hL hb,Av,hu⟩

def Gu (p:A9) (r_:AS):Option (Bool × Int):=
 (G8 p r_).bind fun A=>
 bif (decide (A≠0)) then
  some (false,A)
 else
  (FV p).bind fun F=>
  (Dx F r_.variables (fun xs s=>Gd xs r_ s) true).bind fun G=>
  some (G,0)

theorem HN {w:World} {O:List Nat} {p:A9} {r_:AS} {Aa:Option Addr} {Ca:Nat} {Ab:Option Addr} {Cb:Nat} {Ac:Option Addr} {Cc:Nat} {Ad:Option Addr} {Cd:Nat} {Ae:Option Addr} {Ce:Nat} (hO:∀k∈O,k<w.heap.size) (Fa:CA B2 w O Aa Ca p.cells) (Fb:CA (BE (AM .i64)) w O Ab Cb p.capacity) (Fc:CA AT w O Ac Cc p.variables) (Fd:CA (AM .i64) w O Ad Cd r_.variables) (Fe:CA AO w O Ae Ce r_.places) {x:Bool × Int} (U:Gu p r_=some x):
 Ok Try.prog 17 [Value.agg (C0 p Aa Ca Ab Cb Ac Cc).toArray,Value.agg [Sl Ad r_.variables Cd,Sl Ae r_.places Ce].toArray] w O (Kr vB (vI .i64)) x:=by
 unfold Gu at U
 refine Bt (n:=19) (xs:=[.cell 4 4,.tmp 5]) Try.func17 Av Try.ntmps17 Try.results17 Av ?_
 have hs:=St.start hO
 refine Ax<|Aw<|AA<|BV (cs:=(C0 p Aa Ca Ab Cb Ac Cc)) hs Av Av ?_
 intro b1 w2 _ p3 aN
 refine AA<|BV (cs:=[Sl Ad r_.variables Cd,Sl Ae r_.places Ce]) aN Av Av ?_
 intro b6 w7 _ p8 aO
 clear aN
 refine AA<|Bx Ji aO ?_
 intro G bE _ a4 M
 clear aO
 refine Bn (Iv 0) Av<|Ay<|Ax<|Ax<|Aw<|AA<|Bz 2 Bw M Av Av Av<|AA<|Bz 1 Dq M Av Av Av ?_
 obtain⟨A,aP,U⟩:=bd U
 have W:=(p3.trans (p8.trans a4))
 replace Fb:=Fb.step W;replace Fa:=Fa.step W;replace Fc:=Fc.step W;replace Fe:=Fe.step W;replace Fd:=Fd.step W
 refine AA<|Bj M Try.call23 (Ih (p:=p) (r_:=r_) M.ltw Fa Fb Fc Fd Fe aP) Av ?_
 rintro bF bG a5 N a6
 clear M
 obtain⟨rfl,Ra⟩:=a6
 refine Bn (Iv A) Av<|Ay<|Ax<|Aw<|Be (Iv A) Av<|AA<|FB Av Av<|Ay<|AF U Av (fun aQ U=>?_) (fun aQ U=>?_)
 refine Ax ?_
 obtain⟨aG,bH⟩:=N.sub (bs':=[(some G,Oc [Bo false] 4)]) (.cons_cons _ (.cons _ (.cons _ List.Sublist.slnil)))
 clear Fa Fb Fc Fd Fe
 clear N
 refine Aw<|Be (Iv A) Av<|Bk<|FJ (Bo false) .z Ji aG Av Av Av Av ?_
 intro bI bJ aH
 clear aG
 refine Bn (Iv A) Av<|Ay<|AY<|⟨_,En,[Bo false,Iv A],⟨MN (cs:=[Bo false]) Ji (i:=0) aH Av Av Av,Av,trivial⟩,aH.ext,?_⟩
 exact Vr.eq (a:=Kr vB (vI .i64)) (x:=(false,A)) (Kh Av ⟨Av,Ra⟩) (oi U)
 refine AH<|Ax<|Aw<|Bk<|FJ (Bo true) .z Ji N Av Av Av Av ?_
 intro bK a7 X
 clear N
 refine Ay<|Ax<|B9 (g0:=[]) (m:=5) (fl:=[]) (Dc X) Av (.inl Av) Av (by decide+kernel) ?_  -- 5
 refine Ba (Value.agg (C0 p Aa Ca Ab Cb Ac Cc).toArray) (fun _ _ _ hi ht=>Bz 2 Bw (AB.nx hi).1 (ht 2 Av) Av Av<|Gz hi) ?_
 obtain⟨J,aR,U⟩:=bd U
 have aF:=(a5.trans a7)
 replace Fb:=Fb.step aF;replace Fa:=Fa.step aF;replace Fc:=Fc.step aF
 refine Bc (VD _ _ (vA KH) J) (VD.stab _ _) (fun bA bL g aS hi ht=>?_) ?_
 obtain⟨-,aK,-⟩:=aS
 replace Fa:=Fa.step aK;replace Fb:=Fb.step aK;replace Fc:=Fc.step aK
 refine Az (FT Try.call42 (Jk (O:=ks (Em g++[(some G,Oc [Bo true] 4),(some b6,Oc [Sl Ad r_.variables Cd,Sl Ae r_.places Ce] 34),(some b1,Oc (C0 p Aa Ca Ab Cb Ac Cc) 26)]) O) (p:=p) hi.ltw Fa Fb Fc aR) (by simp only [List.map,Array.toList,(show ev _ (.tmp 12)=_ from(ht 12 Av))]<;> rfl) ?_)
 rintro bM bN ⟨aT,a8⟩
 exact Bs.call hi aT a8
 refine Ba (Pt b6 0) (fun _ _ _ hi ht=>AP 0 Dq Av Bp (ht 3 Av) Av<|Gz hi)<|Ba (Sl Ad r_.variables Cd) (fun _ _ _ hi ht=>AQ 1 Bp (AB.nx hi).1 (ht 14 Av) Av Av<|Gz hi)<|Do (Value.func (.func 50) #[] #[Pt b6 0,Pt G 0]) (fun bB bO g aS hi ht=>?_) ?_
 refine Az (GE (a':=[]) (c':=[Pt b6 0,Pt G 0]) Av (by simp only [List.map,Array.toList,(show ev _ (.tmp 3)=_ from(ht 3 Av)),(show ev _ (.tmp 4)=_ from(ht 4 Av))]<;> rfl) ?_)
 exact Gz hi
 refine BA fun aU bP aV aW=>?_
 obtain⟨-,aL,-⟩:=aV
 obtain⟨Y,Z⟩:=AB.nx aW
 rintro _ rfl _ rfl _ rfl bQ aM
 replace aM:Vr.vd (vA KH) _ _ _ _:=aM
 obtain⟨_,rfl,⟨_,_,rfl,⟨_,_,rfl,⟨Af,Cf,rfl,Ff⟩,⟨_,_,rfl,⟨Ag,Cg,rfl,Fg⟩,⟨Ah,Ch,rfl,Fh⟩⟩⟩,⟨Ai,Ci,rfl,Fi⟩⟩⟩:=aM
 rintro _ rfl
 have a9:=X.to Y (aL.trans Z)
 replace Ff:=Ff.step Z;replace Fg:=Fg.step Z;replace Fh:=Fh.step Z;replace Fi:=Fi.step Z;clear X
 have aX:=(aF.trans a9)
 replace Fe:=Fe.step aX;replace Fd:=Fd.step aX
 obtain⟨aA,aB,aY⟩:=St.publishP (p:=FP) (i:=1) (x:=r_) Y Av (Cz (AU (B5 Fd) (B5 Fe)))
 clear Y
 have aI:NC (S50 G) aU (ks [(some G,Oc [Bo true] 4)] (ks [(some b1,Oc (C0 p Aa Ca Ab Cb Ac Cc) 26)] O)) [(some G,Oc [Bo true] 4)] true:=by rw [← JQ];exact rfl
 obtain⟨F,aZ,U⟩:=bd U
 have I:ks [(some G,Oc [Bo true] 4),(some b1,Oc (C0 p Aa Ca Ab Cb Ac Cc) 26)] O=ks [(some G,Oc [Bo true] 4)] (ks [(some b1,Oc (C0 p Aa Ca Ab Cb Ac Cc) 26)] O):=JQ [(some G,Oc [Bo true] 4)] [(some b1,Oc (C0 p Aa Ca Ab Cb Ac Cc) 26)] O
 replace Fd:=Fd.step aB;replace Fg:=Fg.step aB;replace Ff:=Ff.step aB;replace Fh:=Fh.step aB;replace Fi:=Fi.step aB
 refine AA<|Pz (rest:=[(some b1,Oc (C0 p Aa Ca Ab Cb Ac Cc) 26)]) Try.call49 [(some G,Oc [Bo true] 4)] aA (Hy (S:=S50 G) (t:=J) (variables:=r_.variables) (D:=(fun xs s=>Gd xs r_ s)) (s0:=true) (St.lendL (L:=[(some G,Oc [Bo true] 4)]) (rest:=[(some b1,Oc (C0 p Aa Ca Ab Cb Ac Cc) 26)]) aA) (I ▸ Ff) (I ▸ Fg) (I ▸ Fh) (I ▸ Fi) (I ▸ Fd) (d50 (I ▸ aY)) aI aZ) Av ?_
 intro bR a0 L79 a1 Q a2 _;clear aI I
 obtain rfl:=a2
 replace Q:St ⟨w,[],[]⟩ O a0 [(some G,Oc [Bo F] 4),(some b1,Oc (C0 p Aa Ca Ab Cb Ac Cc) 26)]:=Q
 replace a1:AB (ks [(some G,Oc [Bo true] 4),(some b1,Oc (C0 p Aa Ca Ab Cb Ac Cc) 26)] O) aU (ks [(some G,Oc [Bo F] 4),(some b1,Oc (C0 p Aa Ca Ab Cb Ac Cc) 26)] O) a0:=a1
 clear aA
 refine Ay<|Ax ?_
 obtain⟨aC,bS⟩:=Q.sub (bs':=[(some G,Oc [Bo F] 4)]) (.cons_cons _ (.cons _ List.Sublist.slnil))
 clear Fa Fb Fc Fd Fe Ff Fg Fh Fi aY
 clear Q
 refine Aw<|AA<|AQ 0 Ji aC Av Av Av<|Bk<|FJ (Bo F) .z Ji aC Av Av Av Av ?_
 intro bT bU aJ
 clear aC
 refine Bn (Iv 0) Av<|Ay<|AY<|⟨_,En,[Bo F,Iv 0],⟨MN (cs:=[Bo F]) Ji (i:=0) aJ Av Av Av,Av,trivial⟩,aJ.ext,?_⟩
 exact Vr.eq (a:=Kr vB (vI .i64)) (x:=(F,0)) (Kh Av ⟨Av,EG⟩) (oi U)

def IM (x_:Int) (y:Int):Option (Int × Int):=
 some ((IntKind.wrap .u64 ((IntKind.wrap .u64 ((IntKind.wrap .u64 ((x_ / 2 ^ min 32 (IntKind.bits .u64))*(y / 2 ^ min 32 (IntKind.bits .u64))))+((IntKind.wrap .u64 ((IntKind.wrap .u64 ((x_ / 2 ^ min 32 (IntKind.bits .u64))*(Go.bits .and .u64 y 4294967295)))+((IntKind.wrap .u64 ((Go.bits .and .u64 x_ 4294967295)*(Go.bits .and .u64 y 4294967295))) / 2 ^ min 32 (IntKind.bits .u64)))) / 2 ^ min 32 (IntKind.bits .u64))))+((IntKind.wrap .u64 ((Go.bits .and .u64 (IntKind.wrap .u64 ((IntKind.wrap .u64 ((x_ / 2 ^ min 32 (IntKind.bits .u64))*(Go.bits .and .u64 y 4294967295)))+((IntKind.wrap .u64 ((Go.bits .and .u64 x_ 4294967295)*(Go.bits .and .u64 y 4294967295))) / 2 ^ min 32 (IntKind.bits .u64)))) 4294967295)+(IntKind.wrap .u64 ((Go.bits .and .u64 x_ 4294967295)*(y / 2 ^ min 32 (IntKind.bits .u64)))))) / 2 ^ min 32 (IntKind.bits .u64)))),(IntKind.wrap .u64 (x_*y)))

theorem Ni {w:World} {O:List Nat} {x_:Int} {y:Int} (hO:∀k∈O,k<w.heap.size) (Ra:BR .u64 x_) (Rb:BR .u64 y) {x:Int × Int} (A:IM x_ y=some x):
 Ok Try.prog 86 [(Value.int .u64 x_),(Value.int .u64 y)] w O (Kr (vI .u64) (vI .u64)) x:=by
 unfold IM at A
 refine Bt (n:=51) (xs:=[.tmp 4,.tmp 5]) Try.func86 Av Try.ntmps86 Try.results86 Av ?_
 have hs:=St.start hO
 refine Ax<|Aw<|Bn (Value.int .u64 0) Av<|Bn (Value.int .u64 0) Av<|Ay<|Ax<|Aw<|Be (Value.int .u64 x_) Av<|AA<|Qk Av Av<|Bn (Value.int .u64 (Go.bits .and .u64 x_ 4294967295)) Av<|Ay<|Ax<|Aw<|Be (Value.int .u64 x_) Av<|AA<|MO Av Av (by decide)<|Bn (Value.int .u64 (x_ / 2 ^ min 32 (IntKind.bits .u64))) Av<|Ay<|Ax<|Aw<|Be (Value.int .u64 y) Av<|AA<|Qk Av Av<|Bn (Value.int .u64 (Go.bits .and .u64 y 4294967295)) Av<|Ay<|Ax<|Aw<|Be (Value.int .u64 y) Av<|AA<|MO Av Av (by decide)<|Bn (Value.int .u64 (y / 2 ^ min 32 (IntKind.bits .u64))) Av<|Ay<|Ax<|Aw<|Be (Value.int .u64 (Go.bits .and .u64 x_ 4294967295)) Av<|Be (Value.int .u64 (Go.bits .and .u64 y 4294967295)) Av<|AA<|Jb Av Av<|Bn (Value.int .u64 (IntKind.wrap .u64 ((Go.bits .and .u64 x_ 4294967295)*(Go.bits .and .u64 y 4294967295)))) Av<|Ay<|Ax<|Aw<|Be (Value.int .u64 (x_ / 2 ^ min 32 (IntKind.bits .u64))) Av<|Be (Value.int .u64 (Go.bits .and .u64 y 4294967295)) Av<|AA<|Jb Av Av<|Be (Value.int .u64 (IntKind.wrap .u64 ((Go.bits .and .u64 x_ 4294967295)*(Go.bits .and .u64 y 4294967295)))) Av<|AA<|MO Av Av (by decide)<|AA<|Bm Av Av<|Bn (Value.int .u64 (IntKind.wrap .u64 ((IntKind.wrap .u64 ((x_ / 2 ^ min 32 (IntKind.bits .u64))*(Go.bits .and .u64 y 4294967295)))+((IntKind.wrap .u64 ((Go.bits .and .u64 x_ 4294967295)*(Go.bits .and .u64 y 4294967295))) / 2 ^ min 32 (IntKind.bits .u64))))) Av<|Ay<|Ax<|Wr [] [(0,(Value.int .u64 x_)),(1,(Value.int .u64 y)),(6,(Value.int .u64 (Go.bits .and .u64 x_ 4294967295))),(7,(Value.int .u64 (x_ / 2 ^ min 32 (IntKind.bits .u64)))),(9,(Value.int .u64 (y / 2 ^ min 32 (IntKind.bits .u64)))),(11,(Value.int .u64 (IntKind.wrap .u64 ((IntKind.wrap .u64 ((x_ / 2 ^ min 32 (IntKind.bits .u64))*(Go.bits .and .u64 y 4294967295)))+((IntKind.wrap .u64 ((Go.bits .and .u64 x_ 4294967295)*(Go.bits .and .u64 y 4294967295))) / 2 ^ min 32 (IntKind.bits .u64))))))] fun F=>Aw<|Be (Value.int .u64 (IntKind.wrap .u64 ((IntKind.wrap .u64 ((x_ / 2 ^ min 32 (IntKind.bits .u64))*(Go.bits .and .u64 y 4294967295)))+((IntKind.wrap .u64 ((Go.bits .and .u64 x_ 4294967295)*(Go.bits .and .u64 y 4294967295))) / 2 ^ min 32 (IntKind.bits .u64))))) Av<|AA<|Qk Av Av<|Bn (Value.int .u64 (Go.bits .and .u64 (IntKind.wrap .u64 ((IntKind.wrap .u64 ((x_ / 2 ^ min 32 (IntKind.bits .u64))*(Go.bits .and .u64 y 4294967295)))+((IntKind.wrap .u64 ((Go.bits .and .u64 x_ 4294967295)*(Go.bits .and .u64 y 4294967295))) / 2 ^ min 32 (IntKind.bits .u64)))) 4294967295)) Av<|Ay<|Ax<|Aw<|Be (Value.int .u64 (IntKind.wrap .u64 ((IntKind.wrap .u64 ((x_ / 2 ^ min 32 (IntKind.bits .u64))*(Go.bits .and .u64 y 4294967295)))+((IntKind.wrap .u64 ((Go.bits .and .u64 x_ 4294967295)*(Go.bits .and .u64 y 4294967295))) / 2 ^ min 32 (IntKind.bits .u64))))) Av<|AA<|MO Av Av (by decide)<|Bn (Value.int .u64 ((IntKind.wrap .u64 ((IntKind.wrap .u64 ((x_ / 2 ^ min 32 (IntKind.bits .u64))*(Go.bits .and .u64 y 4294967295)))+((IntKind.wrap .u64 ((Go.bits .and .u64 x_ 4294967295)*(Go.bits .and .u64 y 4294967295))) / 2 ^ min 32 (IntKind.bits .u64)))) / 2 ^ min 32 (IntKind.bits .u64))) Av<|Ay<|Ax<|Aw<|Be (Value.int .u64 (Go.bits .and .u64 (IntKind.wrap .u64 ((IntKind.wrap .u64 ((x_ / 2 ^ min 32 (IntKind.bits .u64))*(Go.bits .and .u64 y 4294967295)))+((IntKind.wrap .u64 ((Go.bits .and .u64 x_ 4294967295)*(Go.bits .and .u64 y 4294967295))) / 2 ^ min 32 (IntKind.bits .u64)))) 4294967295)) Av<|Be (Value.int .u64 (Go.bits .and .u64 x_ 4294967295)) Av<|Be (Value.int .u64 (y / 2 ^ min 32 (IntKind.bits .u64))) Av<|AA<|Jb Av Av<|AA<|Bm Av Av<|Bn (Value.int .u64 (IntKind.wrap .u64 ((Go.bits .and .u64 (IntKind.wrap .u64 ((IntKind.wrap .u64 ((x_ / 2 ^ min 32 (IntKind.bits .u64))*(Go.bits .and .u64 y 4294967295)))+((IntKind.wrap .u64 ((Go.bits .and .u64 x_ 4294967295)*(Go.bits .and .u64 y 4294967295))) / 2 ^ min 32 (IntKind.bits .u64)))) 4294967295)+(IntKind.wrap .u64 ((Go.bits .and .u64 x_ 4294967295)*(y / 2 ^ min 32 (IntKind.bits .u64))))))) Av<|Ay<|Ax<|Aw<|Be (Value.int .u64 (x_ / 2 ^ min 32 (IntKind.bits .u64))) Av<|Be (Value.int .u64 (y / 2 ^ min 32 (IntKind.bits .u64))) Av<|AA<|Jb Av Av<|Be (Value.int .u64 ((IntKind.wrap .u64 ((IntKind.wrap .u64 ((x_ / 2 ^ min 32 (IntKind.bits .u64))*(Go.bits .and .u64 y 4294967295)))+((IntKind.wrap .u64 ((Go.bits .and .u64 x_ 4294967295)*(Go.bits .and .u64 y 4294967295))) / 2 ^ min 32 (IntKind.bits .u64)))) / 2 ^ min 32 (IntKind.bits .u64))) Av<|AA<|Bm Av Av<|Be (Value.int .u64 (IntKind.wrap .u64 ((Go.bits .and .u64 (IntKind.wrap .u64 ((IntKind.wrap .u64 ((x_ / 2 ^ min 32 (IntKind.bits .u64))*(Go.bits .and .u64 y 4294967295)))+((IntKind.wrap .u64 ((Go.bits .and .u64 x_ 4294967295)*(Go.bits .and .u64 y 4294967295))) / 2 ^ min 32 (IntKind.bits .u64)))) 4294967295)+(IntKind.wrap .u64 ((Go.bits .and .u64 x_ 4294967295)*(y / 2 ^ min 32 (IntKind.bits .u64))))))) Av<|AA<|MO Av Av (by decide)<|AA<|Bm Av Av<|Bn (Value.int .u64 (IntKind.wrap .u64 ((IntKind.wrap .u64 ((IntKind.wrap .u64 ((x_ / 2 ^ min 32 (IntKind.bits .u64))*(y / 2 ^ min 32 (IntKind.bits .u64))))+((IntKind.wrap .u64 ((IntKind.wrap .u64 ((x_ / 2 ^ min 32 (IntKind.bits .u64))*(Go.bits .and .u64 y 4294967295)))+((IntKind.wrap .u64 ((Go.bits .and .u64 x_ 4294967295)*(Go.bits .and .u64 y 4294967295))) / 2 ^ min 32 (IntKind.bits .u64)))) / 2 ^ min 32 (IntKind.bits .u64))))+((IntKind.wrap .u64 ((Go.bits .and .u64 (IntKind.wrap .u64 ((IntKind.wrap .u64 ((x_ / 2 ^ min 32 (IntKind.bits .u64))*(Go.bits .and .u64 y 4294967295)))+((IntKind.wrap .u64 ((Go.bits .and .u64 x_ 4294967295)*(Go.bits .and .u64 y 4294967295))) / 2 ^ min 32 (IntKind.bits .u64)))) 4294967295)+(IntKind.wrap .u64 ((Go.bits .and .u64 x_ 4294967295)*(y / 2 ^ min 32 (IntKind.bits .u64)))))) / 2 ^ min 32 (IntKind.bits .u64))))) Av<|Ay<|Ax<|Aw<|Be (Value.int .u64 x_) Av<|Be (Value.int .u64 y) Av<|AA<|Jb Av Av<|Bn (Value.int .u64 (IntKind.wrap .u64 (x_*y))) Av<|Ay<|AY<|⟨_,En,[(Value.int .u64 (IntKind.wrap .u64 ((IntKind.wrap .u64 ((IntKind.wrap .u64 ((x_ / 2 ^ min 32 (IntKind.bits .u64))*(y / 2 ^ min 32 (IntKind.bits .u64))))+((IntKind.wrap .u64 ((IntKind.wrap .u64 ((x_ / 2 ^ min 32 (IntKind.bits .u64))*(Go.bits .and .u64 y 4294967295)))+((IntKind.wrap .u64 ((Go.bits .and .u64 x_ 4294967295)*(Go.bits .and .u64 y 4294967295))) / 2 ^ min 32 (IntKind.bits .u64)))) / 2 ^ min 32 (IntKind.bits .u64))))+((IntKind.wrap .u64 ((Go.bits .and .u64 (IntKind.wrap .u64 ((IntKind.wrap .u64 ((x_ / 2 ^ min 32 (IntKind.bits .u64))*(Go.bits .and .u64 y 4294967295)))+((IntKind.wrap .u64 ((Go.bits .and .u64 x_ 4294967295)*(Go.bits .and .u64 y 4294967295))) / 2 ^ min 32 (IntKind.bits .u64)))) 4294967295)+(IntKind.wrap .u64 ((Go.bits .and .u64 x_ 4294967295)*(y / 2 ^ min 32 (IntKind.bits .u64)))))) / 2 ^ min 32 (IntKind.bits .u64))))),(Value.int .u64 (IntKind.wrap .u64 (x_*y)))],⟨Av,Av,trivial⟩,hs.ext,?_⟩
 exact Vr.eq (a:=Kr (vI .u64) (vI .u64)) (x:=((IntKind.wrap .u64 ((IntKind.wrap .u64 ((IntKind.wrap .u64 ((x_ / 2 ^ min 32 (IntKind.bits .u64))*(y / 2 ^ min 32 (IntKind.bits .u64))))+((IntKind.wrap .u64 ((IntKind.wrap .u64 ((x_ / 2 ^ min 32 (IntKind.bits .u64))*(Go.bits .and .u64 y 4294967295)))+((IntKind.wrap .u64 ((Go.bits .and .u64 x_ 4294967295)*(Go.bits .and .u64 y 4294967295))) / 2 ^ min 32 (IntKind.bits .u64)))) / 2 ^ min 32 (IntKind.bits .u64))))+((IntKind.wrap .u64 ((Go.bits .and .u64 (IntKind.wrap .u64 ((IntKind.wrap .u64 ((x_ / 2 ^ min 32 (IntKind.bits .u64))*(Go.bits .and .u64 y 4294967295)))+((IntKind.wrap .u64 ((Go.bits .and .u64 x_ 4294967295)*(Go.bits .and .u64 y 4294967295))) / 2 ^ min 32 (IntKind.bits .u64)))) 4294967295)+(IntKind.wrap .u64 ((Go.bits .and .u64 x_ 4294967295)*(y / 2 ^ min 32 (IntKind.bits .u64)))))) / 2 ^ min 32 (IntKind.bits .u64)))),(IntKind.wrap .u64 (x_*y)))) (Kh ⟨Av,(AZ .u64 _)⟩ ⟨Av,(AZ .u64 _)⟩) (oi A)

def JV (x_:Int) (y:Int):Option (Int × Int):=
 (IM x_ y).bind fun A=>
 some (A.1,A.2)

theorem OY {w:World} {O:List Nat} {x_:Int} {y:Int} (hO:∀k∈O,k<w.heap.size) (Ra:BR .u64 x_) (Rb:BR .u64 y) {x:Int × Int} (F:JV x_ y=some x):
 Ok Try.prog 78 [(Value.int .u64 x_),(Value.int .u64 y)] w O (Kr (vI .u64) (vI .u64)) x:=by
 unfold JV at F
 refine Bt (n:=30) (xs:=[.tmp 4,.tmp 5]) Try.func78 Av Try.ntmps78 Try.results78 Av ?_
 have hs:=St.start hO
 refine Ax<|Aw<|Bn (Value.int .u64 0) Av<|Bn (Value.int .u64 0) Av<|Ay<|Ax<|HB Av<|AH<|Ax<|Aw<|Be (Value.int .u64 x_) Av<|Be (Value.int .u64 y) Av ?_
 obtain⟨A,G,F⟩:=bd F
 refine AA<|Bj hs Try.call86 (Ni (x_:=x_) (y:=y) hs.ltw Ra Rb G) Av ?_
 rintro Q U W I N
 obtain⟨X,Y,rfl,J,M⟩:=N
 obtain⟨rfl,Rc⟩:=J
 obtain⟨rfl,Rd⟩:=M
 refine Be (Value.tuple [(Value.int .u64 A.1),(Value.int .u64 A.2)].toArray) Av<|AA<|Bg (v:=(Value.int .u64 A.1)) Av Av<|AA<|Bg (v:=(Value.int .u64 A.2)) Av Av<|Bn (Value.int .u64 A.1) Av<|Bn (Value.int .u64 A.2) Av<|Ay<|Ax<|Aw<|Be (Value.int .u64 A.1) Av<|Be (Value.int .u64 A.2) Av<|Bn (Value.int .u64 A.1) Av<|Bn (Value.int .u64 A.2) Av<|Ay<|AY<|⟨_,En,[(Value.int .u64 A.1),(Value.int .u64 A.2)],⟨Av,Av,trivial⟩,I.ext,?_⟩
 exact Vr.eq (a:=Kr (vI .u64) (vI .u64)) (x:=(A.1,A.2)) (Kh ⟨Av,Rc⟩ ⟨Av,Rd⟩) (oi F)

abbrev WA:List Nat:=[7,8,34,35,36,37,38,39,40,41,42,43,44,45,46]

def Gb (G:(List Int)→Int→Option (List Int)) (A:List Int) (F:Int):Option (List Int):=
 bif (decide (F<(A.length:Int))) then
  ck ((0:Int)≤F∧F<(A.length:Int)∧(A.length:Int)≤(A.length:Int))<|
  ck ((0:Int)≤(0:Int)∧(0:Int)<F∧F≤(A.length:Int))<|
  ck (F.toNat<A.length)<|
  G (A.take F.toNat++(((A.drop 0).take (F.toNat - 0)).take (A.length - F.toNat)++(A.drop F.toNat).drop (min ((A.drop 0).take (F.toNat - 0)).length (A.length - F.toNat)))) (IntKind.wrap .i64 (F+((min ((A.drop 0).take (F.toNat - 0)).length (A.length - F.toNat):Nat):Int)))
 else
  some A

def Gl (x_:List Int) (count:Int):Option (List Int):=
 bif (decide (count<0)) then
  none
 else
  (JV (IntKind.wrap .u64 (x_.length:Int)) (IntKind.wrap .u64 count)).bind fun A=>
  jn (fun(G:Bool)=>
   bif G then
    none
   else
    ck ((0:Int)≤(IntKind.wrap .i64 A.2)∧(IntKind.wrap .i64 A.2)≤(IntKind.wrap .i64 A.2)∧(8:Int)*(IntKind.wrap .i64 A.2)≤281474976710656∧(IntKind.wrap .i64 A.2)≤281474976710656)<|
    B8 Gb 1000000 (x_.take (List.replicate (IntKind.wrap .i64 A.2).toNat (0:Int)).length++(List.replicate (IntKind.wrap .i64 A.2).toNat (0:Int)).drop x_.length) ((min x_.length (List.replicate (IntKind.wrap .i64 A.2).toNat (0:Int)).length:Nat):Int))
  (fun F=>
   bif (decide (0<A.1)) then
    F true
   else
    F (decide (9223372036854775807<A.2)))

theorem IU {w:World} {O:List Nat} {x_:List Int} {count:Int} {Aa:Option Addr} {Ca:Nat} (hO:∀k∈O,k<w.heap.size) (Fa:CA (AM .i64) w O Aa Ca x_) (Ra:BR .i64 count) {x:(List Int)} (I:Gl x_ count=some x):
 OI Try.prog 53 [Sl Aa x_ Ca,Iv count] w O (AM .i64) 3 x:=by
 unfold Gl at I
 refine Bt (n:=48) (xs:=[.tmp 4]) Try.func53 Av Try.ntmps53 Try.results53 Av ?_
 have hs:=St.start hO
 refine Ax<|Aw<|Bn (Value.slice none 0 0) Av<|Ay<|Ax<|Ax<|Aw<|Be (Iv count) Av<|AA<|Bu Av Av<|Ay<|AF I Av (fun a4 I=>?_) (fun a4 I=>?_)
 refine Aw ?_
 cases I
 refine AH<|Ax<|Aw<|Be (Sl Aa x_ Ca) Av<|AA<|Bd Try.underlying31 Av ?_
 have bR:=Bb Fa
 refine AA<|OC Try.underlying3 Try.underlying123 Av<|Be (Iv count) Av<|AA<|OC Try.underlying3 Try.underlying123 Av ?_
 obtain⟨F,a5,I⟩:=bd I
 refine AA<|Bj hs Try.call78 (OY (x_:=(IntKind.wrap .u64 (x_.length:Int))) (y:=(IntKind.wrap .u64 count)) hs.ltw (AZ .u64 _) (AZ .u64 _) a5) Av ?_
 rintro v4 w5 p9 aC h7
 obtain⟨bU,bV,rfl,a6,a7⟩:=h7
 obtain⟨rfl,Rb⟩:=a6
 obtain⟨rfl,Rc⟩:=a7
 refine Be (Value.tuple [(Value.int .u64 F.1),(Value.int .u64 F.2)].toArray) Av<|AA<|Bg (v:=(Value.int .u64 F.1)) Av Av<|AA<|Bg (v:=(Value.int .u64 F.2)) Av Av<|Bn (Value.int .u64 F.1) Av<|Bn (Value.int .u64 F.2) Av<|Ay<|Ax<|Wr [] [(0,Sl Aa x_ Ca),(5,(Value.int .u64 F.1)),(6,(Value.int .u64 F.2))] fun bG=>?_
 obtain⟨a8,aQ,I⟩:=Dp I
 refine D8 [21,22,23,24,25,26] (fun fr w'=>∃(aI:Bool) (J:Bi),J=[]∧fr [] [(26,Bo aI)]∧aC.S (ks J O) w'∧St ⟨w,[],[]⟩ O w' J∧a8 aI=some x) ?_ ?_
 rintro bH bW ⟨aI,_,rfl,Y,aJ,aE,I⟩
 replace I:=Ed aQ I
 rw [Y.eq];clear Y
 refine AF I Av (fun aR I=>?_) (fun aR I=>?_)
 refine Aw ?_
 cases I
 refine AH<|Ax<|Aw<|Be (Value.int .u64 F.2) Av<|AA<|OC Try.underlying123 Try.underlying3 Av ?_
 obtain⟨aS,I⟩:=AG I
 refine AA<|Ht (q:=(AM .i64)) (v:=Iv 0) (x0:=(0:Int)) Bp BD aE Av Av aS Av (fun _ _=>(AW EG)) ?_
 intro aD bX bI a9 aF bA
 clear aE
 refine Bn (Sl (some ⟨aD,0,none⟩) (List.replicate (wq F.2).toNat (0:Int)) ((wq F.2).toNat)) Av<|Ay<|Ax<|Aw<|Be (Sl (some ⟨aD,0,none⟩) (List.replicate (wq F.2).toNat (0:Int)) ((wq F.2).toNat)) Av<|Be (Sl Aa x_ Ca) Av ?_
 replace Fa:=Fa.step (p9.trans (aJ.trans a9))
 refine AA<|Sy (p:=(AM .i64)) (i:=0) Bp BD Av aF Av Av bA Av Fa (.inr (by simp)) ?_
 intro bB bY bC aG aT
 clear aF
 refine Bn (Iv ((min x_.length (List.replicate (wq F.2).toNat (0:Int)).length:Nat):Int)) Av<|Ay<|Ax<|AE ?_
 replace Fa:=Fa.step bC
 refine Bh WA (fun m fr w'=>∃(A:List Int) (G:Int) (Ab:Option Addr) (Cb:Nat) (N:Option Nat) (Q:Obj) (J:Bi),J=[(N,Q)]∧fr [] [(7,Sl Ab A Cb),(8,Iv G)]∧aG.S (ks J O) w'∧St ⟨w,[],[]⟩ O w' J∧Gs (AM .i64) 3 w' (ks J O) Ab Cb A N Q∧BR .i64 G∧B8 Gb m A G=some x) 1000000 ⟨x_.take (List.replicate (wq F.2).toNat (0:Int)).length++(List.replicate (wq F.2).toNat (0:Int)).drop x_.length,((min x_.length (List.replicate (wq F.2).toNat (0:Int)).length:Nat):Int),some ⟨aD,0,none⟩,(wq F.2).toNat,some aD,bB,_,Av,BB.of ⟨MP (show(List.replicate (wq F.2).toNat (0:Int)).length=(x_.take (List.replicate (wq F.2).toNat (0:Int)).length++(List.replicate (wq F.2).toNat (0:Int)).drop x_.length).length from by first |(simp;done) |(simp;omega)),Av,trivial⟩,AB.refl _ _,aG,aT,Qj Fa,I⟩ ?_ ?_
 rintro _ _ ⟨_,_,_,_,_,_,_,_,_,_,_,_,_,I⟩;exact D9 I
 rintro bZ b0 aU bJ b1 ⟨A,G,Ab,Cb,N,Q,_,rfl,Z,aK,M,Fb,Rd,I⟩
 obtain⟨bK,aL,I⟩:=DA I;unfold Gb at I
 rw [Z.eq];clear Z
 have aA:=aK
 refine Ax<|Ax ?_
 clear Fa aT
 refine Aw<|Be (Iv G) Av<|Be (Sl Ab A Cb) Av<|AA<|Bd Try.underlying31 Av ?_
 have bL:=Hs Fb
 refine AA<|Bu Av Av<|Ay<|AF I Av (fun aV I=>?_) (fun aV I=>?_)
 refine AH<|AE<|B9 (g0:=[]) (m:=7) (fl:=[0]) (Dc M) Av (.inl Av) Av (by decide+kernel) ?_  -- 9
 refine Ba (Iv G) (fun _ _ _ hi U=>AD (v:=Iv G) (U 8 Av)<|Gz hi)<|Ba (Sl Ab A Cb) (fun _ _ _ hi U=>AD (v:=Sl Ab A Cb) (U 7 Av)<|Gz hi)<|Ba (Iv G) (fun _ _ _ hi U=>AD (v:=Iv G) (U 8 Av)<|Gz hi) ?_
 obtain⟨bM,I⟩:=AG I
 obtain⟨X,rfl,rfl⟩:=Fb.at_ (by omega)
 refine Do (Value.slice (some ⟨X,if Cb=G.toNat then 0 else 0+G.toNat*1,none⟩) (A.length - G.toNat) (Cb - G.toNat)) (fun bN b2 g aM hi U=>?_) ?_
 obtain⟨-,aN,-⟩:=aM
 replace Fb:=Fb.step aN
 refine Az (NL (l:=G.toNat) (h:=A.length) (m:=Cb) Bp BD (U 39 Av) (Sw (U 40 Av) (by omega)) Av Av (by decide) (by omega) (by have:=Fb.le;omega) (Nat.le_refl _) ?_)
 exact Gz hi
 refine Ba (Sl (some ⟨X,0,none⟩) A Cb) (fun _ _ _ hi U=>AD (v:=Sl (some ⟨X,0,none⟩) A Cb) (U 7 Av)<|Gz hi)<|Ba (Iv G) (fun _ _ _ hi U=>AD (v:=Iv G) (U 8 Av)<|Gz hi) ?_
 obtain⟨bO,I⟩:=AG I
 refine Do (Value.slice (some ⟨X,if Cb=0 then 0 else 0+0*1,none⟩) (G.toNat - 0) (Cb - 0)) (fun bP b3 g aM hi U=>?_) ?_
 obtain⟨-,aN,-⟩:=aM
 replace Fb:=Fb.step aN
 refine Az (NL (l:=0) (h:=G.toNat) (m:=Cb) Bp BD (U 42 Av) Av (Sw (U 43 Av) (by omega)) Av (by decide) (by omega) (by have:=Fb.le;omega) (Nat.le_refl _) ?_)
 exact Gz hi
 refine BA fun b4 b5 aW aX=>?_
 obtain⟨-,aO,-⟩:=aW
 obtain⟨W,bD⟩:=AB.nx aX
 rintro _ rfl _ rfl _ rfl _ rfl _ rfl _ rfl _ rfl
 have aY:=M.to W (aO.trans bD)
 clear M
 obtain⟨aZ,I⟩:=AG I
 replace Fb:=Fb.step aY
 obtain⟨bQ,a0,a1⟩:=Gs.win (i:=0) (l:=0) (h:=G.toNat) Av W Av Fb (by omega) (by omega)
 refine AA (Sz (p:=(AM .i64)) (xs:=A) (i:=0) (l:=G.toNat) (h:=A.length) Bp BD Av W Av Av Fb (IH Av (show G.toNat - 0=((A.drop 0).take (G.toNat - 0)).length from by simp;omega)) a0 a1 aZ (by omega) ?_)
 intro bE b6 bF a2 a3
 clear W
 have b7:BR .i64 ((min ((A.drop 0).take (G.toNat - 0)).length (A.length - G.toNat):Nat):Int):=OH (by have:=a3.le;have I:maxLen=9223372036854775807:=rfl;simp at this ⊢;omega)
 refine AA<|Bm Av Av<|Bn (Iv (wq (G+((min ((A.drop 0).take (G.toNat - 0)).length (A.length - G.toNat):Nat):Int)))) Av<|Ay ?_
 replace aA:=aA.trans (aY.trans bF)
 exact aU _ _ ⟨A.take G.toNat++(((A.drop 0).take (G.toNat - 0)).take (A.length - G.toNat)++(A.drop G.toNat).drop (min ((A.drop 0).take (G.toNat - 0)).length (A.length - G.toNat))),(wq (G+((min ((A.drop 0).take (G.toNat - 0)).length (A.length - G.toNat):Nat):Int))),some ⟨X,0,none⟩,Cb,some X,bE,_,Av,BB.of ⟨MP (show A.length=(A.take G.toNat++(((A.drop 0).take (G.toNat - 0)).take (A.length - G.toNat)++(A.drop G.toNat).drop (min ((A.drop 0).take (G.toNat - 0)).length (A.length - G.toNat)))).length from by first |(simp;done) |(simp;omega)),Av,trivial⟩,aA,a2,a3,(AZ .i64 _),GD aL I⟩
 refine Br<|Ax<|Aw<|Be (Sl Ab A Cb) Av<|Bn (Sl Ab A Cb) Av<|Ay<|AY<|⟨_,En,[Sl Ab A Cb],⟨Av,trivial⟩,M.ext,?_⟩
 exact OI.mk (i:=0) M Av Fb (oi I)
 intro b8 aH
 have aB:=aC.stepR
 refine Aw<|Be (Value.int .u64 F.1) Av<|AA<|EY Av Av<|Be (Bo (decide (0<F.1))) Av<|B4 I (fun aP I=>?_) (fun aP I=>?_)
 exact AI Av (AJ Av Av) Av<|AI Av (AJ Av Av) Av<|FR (Bo true) Av Av<|Ay<|aH _ _ ⟨true,_,Av,BB.of ⟨Av,trivial⟩,aB,aC,I⟩
 exact BN Av Av<|AD (v:=(Value.int .u64 F.2)) Av<|BN Av Av<|EY Av Av<|FF (Bo (decide (9223372036854775807<F.2))) Av Av<|Ay<|aH _ _ ⟨decide (9223372036854775807<F.2),_,Av,BB.of ⟨Av,trivial⟩,aB,aC,I⟩
abbrev WB:List Nat:=[23,24,25,26,27,28,29,30,31,32,33,34,35]

abbrev WC:List Nat:=[7,39,40,41,42,43,44,45,46,47,48,49,50,51,52,53,54,55,56,57,58,59,60,61,62]

abbrev WD:List Nat:=[9,66,67,68,69,70,71,72,73,74,75,76,77,78,79,80]

def H7 (p:A9) (r_:AS) (F:List (List Int)) (G:Int→(List AL)→Option (A9 × Int)) (A:Int) (I:List AL):Option (A9 × Int):=
 bif (decide (A<(r_.variables.length:Int))) then
  ck ((0:Int)≤A∧A<(r_.variables.length:Int))<|
  ck ((0:Int)≤(r_.variables.getD A.toNat default)∧(r_.variables.getD A.toNat default)<(p.variables.length:Int))<|
  ck ((I.length+[p.variables.getD (r_.variables.getD A.toNat default).toNat default].length)*64≤140737488355328)<|
  G (IntKind.wrap .i64 (A+1)) (I++[p.variables.getD (r_.variables.getD A.toNat default).toNat default])
 else
  some ((⟨p.cells,F,I⟩:A9),0)

def H8 (p:A9) (r_:AS) (G:Int→(List (List Int))→Option (A9 × Int)) (A:Int) (F:List (List Int)):Option (A9 × Int):=
 bif (decide (A<(r_.places.length:Int))) then
  ck ((0:Int)≤A∧A<(r_.places.length:Int))<|
  ck ((0:Int)≤((r_.places.getD A.toNat default).leaf)∧((r_.places.getD A.toNat default).leaf)<(F.length:Int))<|
  ck ((0:Int)≤((r_.places.getD A.toNat default).leaf)∧((r_.places.getD A.toNat default).leaf)<(p.capacity.length:Int))<|
  ck ((0:Int)≤((r_.places.getD A.toNat default).cell)∧((r_.places.getD A.toNat default).cell)<((p.capacity.getD ((r_.places.getD A.toNat default).leaf).toNat default).length:Int))<|
  ck ((0:Int)≤((r_.places.getD A.toNat default).cell)∧((r_.places.getD A.toNat default).cell)<((F.getD ((r_.places.getD A.toNat default).leaf).toNat default).length:Int))<|
  G (IntKind.wrap .i64 (A+1)) (F.set ((r_.places.getD A.toNat default).leaf).toNat ((F.getD ((r_.places.getD A.toNat default).leaf).toNat default).set ((r_.places.getD A.toNat default).cell).toNat ((p.capacity.getD ((r_.places.getD A.toNat default).leaf).toNat default).getD ((r_.places.getD A.toNat default).cell).toNat default)))
 else
  B8 (H7 p r_ F) (((r_.variables.length:Int) - 0).toNat+1) 0 ([]:List AL)

def H9 (p:A9) (r_:AS) (G:Int→(List (List Int))→Option (A9 × Int)) (I:Int) (A:List (List Int)):Option (A9 × Int):=
 bif (decide (I<(p.capacity.length:Int))) then
  (Gl [4096] (p.cells.length:Int)).bind fun F=>
  ck ((A.length+1)*24≤140737488355328)<|
  G (IntKind.wrap .i64 (I+1)) (A++[F])
 else
  B8 (H8 p r_) (((r_.places.length:Int) - 0).toNat+1) 0 A

def I2 (p:A9) (r_:AS):Option (A9 × Int):=
 (G8 p r_).bind fun A=>
 bif (decide (A≠0)) then
  some ((⟨([]:List AK),([]:List (List Int)),([]:List AL)⟩:A9),A)
 else
  B8 (H9 p r_) (((p.capacity.length:Int) - 0).toNat+1) 0 ([]:List (List Int))

theorem M9 {w:World} {O:List Nat} {p:A9} {r_:AS} {Aa:Option Addr} {Ca:Nat} {Ab:Option Addr} {Cb:Nat} {Ac:Option Addr} {Cc:Nat} {Ad:Option Addr} {Cd:Nat} {Ae:Option Addr} {Ce:Nat} (hO:∀k∈O,k<w.heap.size) (Fa:CA B2 w O Aa Ca p.cells) (Fb:CA (BE (AM .i64)) w O Ab Cb p.capacity) (Fc:CA AT w O Ac Cc p.variables) (Fd:CA (AM .i64) w O Ad Cd r_.variables) (Fe:CA AO w O Ae Ce r_.places) {x:A9 × Int} (Q:I2 p r_=some x):
 Ok Try.prog 20 [Value.agg (C0 p Aa Ca Ab Cb Ac Cc).toArray,Value.agg [Sl Ad r_.variables Cd,Sl Ae r_.places Ce].toArray] w O (Kr (vA Gi) (vI .i64)) x:=by
 unfold I2 at Q
 refine Bt (n:=82) (xs:=[.cell 4 26,.tmp 5]) Try.func20 Av Try.ntmps20 Try.results20 Av ?_
 have hs:=St.start hO
 refine Ax<|Aw<|AA<|BV (cs:=(C0 p Aa Ca Ab Cb Ac Cc)) hs Av Av ?_
 intro b1 w2 _ p3 eO
 refine AA<|BV (cs:=[Sl Ad r_.variables Cd,Sl Ae r_.places Ce]) eO Av Av ?_
 intro b6 w7 _ p8 eP
 clear eO
 refine AA<|Bx Bw eP ?_
 intro X iV _ f4 a7
 clear eP
 refine Bn (Iv 0) Av<|Ay<|Ax<|Ax<|Aw<|AA<|Bz 2 Bw a7 Av Av Av<|AA<|Bz 1 Dq a7 Av Av Av ?_
 obtain⟨aB,eQ,Q⟩:=bd Q
 have bU:=(p3.trans (p8.trans f4))
 replace Fb:=Fb.step bU;replace Fa:=Fa.step bU;replace Fc:=Fc.step bU;replace Fe:=Fe.step bU;replace Fd:=Fd.step bU
 refine AA<|Bj a7 Try.call23 (Ih (p:=p) (r_:=r_) a7.ltw Fa Fb Fc Fd Fe eQ) Av ?_
 rintro iW iX f5 a8 f6
 clear a7
 obtain⟨rfl,Ra⟩:=f6
 refine Bn (Iv aB) Av<|Ay<|Ax<|Aw<|Be (Iv aB) Av<|AA<|FB Av Av<|Ay<|AF Q Av (fun eR Q=>?_) (fun eR Q=>?_)
 refine Ax ?_
 obtain⟨bV,iY⟩:=a8.sub (bs':=(some X,Oc [Value.slice none 0 0,Value.slice none 0 0,Value.slice none 0 0] 26)::([]:Bi)) (.cons_cons _ (.cons _ (.cons _ (List.Sublist.refl _))))
 clear Fa Fb Fc Fd Fe
 clear a8
 refine Aw<|AA<|Bz 0 Bw bV Av Av Av<|Be (Iv aB) Av<|Bk<|Cx .z Bw bV Av Av Av Av Av ?_
 intro iZ i0 c9
 clear bV
 refine Bn (Iv aB) Av<|Ay<|AY<|⟨_,En,[Value.agg [Value.slice none 0 0,Value.slice none 0 0,Value.slice none 0 0].toArray,Iv aB],⟨Lw (cs:=[Value.slice none 0 0,Value.slice none 0 0,Value.slice none 0 0]) (vs:=[Value.slice none 0 0,Value.slice none 0 0,Value.slice none 0 0]) Bw (i:=0) c9 Av Av Av Av,Av,trivial⟩,c9.ext,?_⟩
 exact Vr.eq (a:=Kr (vA Gi) (vI .i64)) (x:=((⟨([]:List AK),([]:List (List Int)),([]:List AL)⟩:A9),aB)) (Kh (Jn (Cz (AU (B5 CA.nil_) (AU (B5 CA.nil_) (B5 CA.nil_))))) ⟨Av,Ra⟩) (oi Q)
 refine AH<|Ax<|Aw<|AA<|AP 0 Bw Av F1 Av Av<|AA<|AQ 2 F1 a8 Av Av Av<|AA<|AP 0 Bw Av F1 Av Av<|Bk<|II (Sl Aa p.cells Ca) (cs':=[Sl Aa p.cells Ca,Value.slice none 0 0,Value.slice none 0 0]) .z F1 a8 Av Av Av (BG Av) Av Av ?_
 intro i1 f7 dA
 clear a8
 refine Ay<|Ax<|Ax<|Aw<|AA<|AP 1 Bw Av CB Av Av<|AA<|AQ 2 CB dA Av Av Av<|AA<|Bd Try.underlying23 Av ?_
 have dS:=(f5.trans f7)
 replace Fb:=Fb.step dS
 have g1:=Bb Fb
 refine Be (Iv 0) Av<|Ay<|AE<|Wr [] [(2,Pt b1 0),(3,Pt b6 0),(4,Pt X 0),(22,Iv (p.capacity.length:Int)),(23,Iv 0)] fun g2=>?_
 have dB:=dA.ghost (Obj.cells #[] 31)
 refine Bh WB (fun m fr w'=>∃(bT:Int) (Y:List (List Int)) (Af:Option Addr) (Cf:Nat) (aK:Option Nat) (aL:Obj) (F:List Hd) (U:Bi) (aH:Bi),aH=((aK,aL)::(some X,Oc [Sl Aa p.cells Ca,Value.slice Af F.length Cf,Value.slice none 0 0] 26)::(some b6,Oc [Sl Ad r_.variables Cd,Sl Ae r_.places Ce] 34)::(some b1,Oc (C0 p Aa Ca Ab Cb Ac Cc) 26)::U)∧fr [] [(23,Iv bT)]∧dB.S (ks aH O) w'∧St ⟨w,[],[]⟩ O w' aH∧BR .i64 bT∧Gs RK 31 w' (ks aH O) Af Cf F aK aL∧Rows (AM .i64) 3 w' (ks aH O) F U Y∧F.length=Y.length∧B8 (H9 p r_) m bT Y=some x) (((p.capacity.length:Int) - 0).toNat+1) ⟨0,([]:List (List Int)),none,0,none,Obj.cells #[] 31,([]:List Hd),([]:Bi),_,Av,BB.of ⟨Av,trivial⟩,AB.refl _ _,dB,EG,Gs.nil_,Rows.nil_,Av,Q⟩ ?_ ?_
 rintro _ _ ⟨_,_,_,_,_,_,_,_,_,_,_,_,_,_,_,_,_,Q⟩;exact D9 Q
 rintro i2 i3 eS g3 i4 ⟨bT,Y,Af,Cf,aK,aL,F,U,_,rfl,bW,a1,aY,Rb,Ff,aM,bN,Q⟩
 obtain⟨g4,dT,Q⟩:=DA Q;unfold H9 at Q
 rw [bW.eq];clear bW
 have bX:=a1
 refine Ax<|Aw<|AA<|Bu Av Av<|Ay<|Ax<|AF Q Av (fun eT Q=>?_) (fun eT Q=>?_)
 refine AH<|Ax<|AE<|B9 (g0:=[]) (m:=8) (fl:=[]) (Dc aY) Av (.inl Av) Av (by decide+kernel) ?_  -- 7
 refine Ba (Pt X 1) (fun _ _ _ hi M=>AP 1 Bw Av CB (M 4 Av) Av<|Gz hi)<|Ba (Value.slice Af F.length Cf) (fun _ _ _ hi M=>AQ 1 CB (AB.nx hi).1 (M 25 Av) Av Av<|Gz hi)<|Bc (VD _ _ (vC (BE (AM .i64))) [4096]) (VD.stab _ _) (fun g5 i5 g aI hi M=>?_) ?_
 refine Az (Bf (cs:=[Iv 4096]) (parts:=[(0,.const (.int .i64 4096))]) Bp BD hi (by decide) (by simp only [List.map,(show ev _ (.const (.int .i64 4096))=.int .i64 4096 from Av)];rfl) ?_)
 intro i6 i7 eU f8 eV
 obtain⟨eW,f9,gA⟩:=St.publish (q:=(AM .i64)) (i:=0) (o:=0) (c:=1) (xs:=[4096]) eV Av (show Ej (AM .i64) _ _ [Iv 4096] [4096] from⟨_,_,Av,AW (show BR .i64 4096 from by decide),Ej.nil⟩) (BG Av) (BG Av) (BG Av)
 exact Bs.pub hi eW (AB.trans f8 f9) eU (show Vr.vd (vC (BE (AM .i64))) _ _ _ _ from Ke (B5 gA))
 refine Ba (Pt b1 0) (fun _ _ _ hi M=>AP 0 Bw Av F1 (M 2 Av) Av<|Gz hi)<|Ba (Sl Aa p.cells Ca) (fun _ _ _ hi M=>AQ 3 F1 (AB.nx hi).1 (M 28 Av) Av Av<|Gz hi)<|Ba (Iv (p.cells.length:Int)) (fun _ _ _ hi M=>Bd Try.underlying22 (M 29 Av)<|Gz hi) ?_
 obtain⟨I,eX,Q⟩:=bd Q
 have gB:=(dS.trans a1)
 replace Fa:=Fa.step gB
 refine Bc (VO O ((aK,aL)::(some X,Oc [Sl Aa p.cells Ca,Value.slice Af F.length Cf,Value.slice none 0 0] 26)::(some b6,Oc [Sl Ad r_.variables Cd,Sl Ae r_.places Ce] 34)::(some b1,Oc (C0 p Aa Ca Ab Cb Ac Cc) 26)::U) 6 (AM .i64) 3 I) VO.stab (fun g6 i8 g aI hi M=>?_) ?_
 obtain⟨-,a2,-⟩:=aI
 replace Fa:=Fa.step a2
 have gC:Vr.vd (vC (BE (AM .i64))) _ _ _ _:=M 27 Av
 obtain⟨Ag,Cg,gD,Fg⟩:=BH gC
 refine Az (FT Try.call53 (IU (O:=ks (Em g++((aK,aL)::(some X,Oc [Sl Aa p.cells Ca,Value.slice Af F.length Cf,Value.slice none 0 0] 26)::(some b6,Oc [Sl Ad r_.variables Cd,Sl Ae r_.places Ce] 34)::(some b1,Oc (C0 p Aa Ca Ab Cb Ac Cc) 26)::U)) O) (x_:=[4096]) (count:=(p.cells.length:Int)) hi.ltw Fg (Bb Fa) eX) (by simp only [List.map,Array.toList,(show ev _ (.tmp 27)=_ from gD),(show ev _ (.tmp 30)=_ from(M 30 Av))]<;> rfl) ?_)
 rintro _ i9 ⟨eY,jA,jB,jC,jD,rfl,eZ,gE⟩;exact GoesG.call hi eY eZ gE
 refine Bc (We O ((aK,aL)::(some X,Oc [Sl Aa p.cells Ca,Value.slice Af F.length Cf,Value.slice none 0 0] 26)::(some b6,Oc [Sl Ad r_.variables Cd,Sl Ae r_.places Ce] 34)::(some b1,Oc (C0 p Aa Ca Ab Cb Ac Cc) 26)::U) 6 7 (AM .i64) 3 31 I) We.stab (fun g7 g8 g aI hi M=>?_) ?_
 obtain⟨e0,e1,g9,hA,e2,dU,e3⟩:=M 31 Av
 refine Az (Bf (cs:=[Sl e0 I e1]) (parts:=[(0,.tmp 31)]) CB Bp hi (by decide) (by simp only [List.map,(show ev _ (.tmp 31)=_ from e2)];rfl) ?_)
 intro hB hC dV e4 dW
 exact GoesG.hd dV e4 dW dU e3
 refine BA fun hD hE dX dY=>?_
 obtain⟨-,c4,-⟩:=dX
 rintro _ ⟨hF,aN,aO,aZ,a0,rfl,dZ,d0,a9⟩ _ - _ rfl _ rfl _ rfl hG bY
 replace bY:Vr.vd (vC (BE (AM .i64))) _ _ _ _:=bY
 obtain⟨Ah,Ch,rfl,Fh⟩:=BH bY
 rintro _ rfl _ rfl
 obtain⟨a3,bZ⟩:=AB.nxK2 dY dZ d0 (by decide)
 have dC:=aY.to a3 (c4.trans bZ)
 replace a9:=a9.step bZ;replace Fh:=Fh.step bZ;clear aY
 obtain⟨d1,Q⟩:=AG Q
 have b0:(F.length+1)*24≤140737488355328:=by have h1:=d1;have h2:F.length=Y.length:=bN;omega
 replace Ff:=Ff.step dC
 refine AA (DR (q:=RK) (i:=2) (xs:=F) (ys:=[((aN,I.length,aO):Hd)]) (news:=[Sl aN I aO]) CB Bp Av (by decide) a3 Av Av Ff Av (Mm.owned' (len:=1) (a3.get (i:=0) Av) Av) (show Ej RK _ _ [Sl aN I aO] [((aN,I.length,aO):Hd)] from⟨_,_,Av,Av,Ej.nil⟩) b0 (show F.length+1≤maxLen from by have:=b0;simp only [maxLen];omega) ?_)
 intro b2 b3 bA bB bO dD bE b4
 clear a3
 have b5:=bE.drop 0
 have b7:=(bE.dropS 0)
 clear bE
 have e6:=(dD.trans b7)
 replace a9:=a9.step e6
 have dE:=(dC.trans (dD.trans b7))
 replace aM:=aM.step dE
 have aR:Rows (AM .i64) 3 bO (ks ((aZ,a0)::(bA,bB)::(some X,Oc [Sl Aa p.cells Ca,Value.slice Af F.length Cf,Value.slice none 0 0] 26)::(some b6,Oc [Sl Ad r_.variables Cd,Sl Ae r_.places Ce] 34)::(some b1,Oc (C0 p Aa Ca Ab Cb Ac Cc) 26)::U) O) (F++[((aN,I.length,aO):Hd)]) (U++[(aZ,a0)]) (Y++[I]):=Rows.append aM a9 Av
 obtain⟨b8,b9⟩:St ⟨w,[],[]⟩ O bO ((bA,bB)::(some X,Oc [Sl Aa p.cells Ca,Value.slice Af F.length Cf,Value.slice none 0 0] 26)::(some b6,Oc [Sl Ad r_.variables Cd,Sl Ae r_.places Ce] 34)::(some b1,Oc (C0 p Aa Ca Ab Cb Ac Cc) 26)::(U++[(aZ,a0)]))∧AB (ks ((aZ,a0)::(bA,bB)::(some X,Oc [Sl Aa p.cells Ca,Value.slice Af F.length Cf,Value.slice none 0 0] 26)::(some b6,Oc [Sl Ad r_.variables Cd,Sl Ae r_.places Ce] 34)::(some b1,Oc (C0 p Aa Ca Ab Cb Ac Cc) 26)::U) O) bO (ks ((bA,bB)::(some X,Oc [Sl Aa p.cells Ca,Value.slice Af F.length Cf,Value.slice none 0 0] 26)::(some b6,Oc [Sl Ad r_.variables Cd,Sl Ae r_.places Ce] 34)::(some b1,Oc (C0 p Aa Ca Ab Cb Ac Cc) 26)::(U++[(aZ,a0)])) O) bO:=St.toback (i:=0) b5 Av
 clear b5
 replace aR:=aR.step b9
 have d2:(F++[((aN,I.length,aO):Hd)]).length=(Y++[I]).length:=(Rows.lens aR).1
 refine AA<|AP 1 Bw Av CB Av Av<|Bk<|II (Value.slice b2 (F++[((aN,I.length,aO):Hd)]).length b3) (cs':=[Sl Aa p.cells Ca,Value.slice b2 (F++[((aN,I.length,aO):Hd)]).length b3,Value.slice none 0 0]) HG.p1 CB b8 Av Av Av (BG Av) Av Av ?_
 intro hI cA d3
 clear b8
 refine Ay ?_
 clear Fh
 refine Aw<|AA<|Bm Av Av<|Be (Iv (wq (bT+1))) Av<|Ay ?_
 have e7:=(dE.trans (b9.trans cA))
 replace bX:=bX.trans e7
 replace b4:=b4.step (b7.trans (b9.trans cA));replace aR:=aR.step cA
 exact eS _ _ ⟨(wq (bT+1)),Y++[I],b2,b3,bA,bB,F++[((aN,I.length,aO):Hd)],U++[(aZ,a0)],_,Av,BB.of ⟨Av,trivial⟩,bX,d3,(AZ .i64 _),b4,aR,d2,GD dT Q⟩
 refine Br<|Ax<|Ax<|Aw<|AA<|AP 1 Dq Av Ep Av Av<|AA<|AQ 2 Ep aY Av Av Av<|AA<|Bd Try.underlying32 Av ?_
 have dF:=(dS.trans a1)
 replace Fe:=Fe.step dF
 have gF:=Bb Fe
 refine Be (Iv 0) Av<|Ay<|AE<|Wr [] [(2,Pt b1 0),(3,Pt b6 0),(4,Pt X 0),(37,Sl Ae r_.places Ce),(38,Iv (r_.places.length:Int)),(39,Iv 0)] fun gG=>Bh WC (fun m fr w'=>∃(G:Int) (J:List (List Int)) (Ai:Option Addr) (Ci:Nat) (aE:Option Nat) (N:Obj) (A:List Hd) (aA:Bi) (aH:Bi),aH=((aE,N)::(some X,Oc [Sl Aa p.cells Ca,Value.slice Ai A.length Ci,Value.slice none 0 0] 26)::(some b6,Oc [Sl Ad r_.variables Cd,Sl Ae r_.places Ce] 34)::(some b1,Oc (C0 p Aa Ca Ab Cb Ac Cc) 26)::aA)∧fr [] [(39,Iv G)]∧aY.S (ks aH O) w'∧St ⟨w,[],[]⟩ O w' aH∧BR .i64 G∧Gs RK 31 w' (ks aH O) Ai Ci A aE N∧Rows (AM .i64) 3 w' (ks aH O) A aA J∧A.length=J.length∧B8 (H8 p r_) m G J=some x) (((r_.places.length:Int) - 0).toNat+1) ⟨0,Y,Af,Cf,aK,aL,F,U,_,Av,BB.of ⟨Av,trivial⟩,AB.refl _ _,aY,EG,Ff,aM,bN,Q⟩ ?_ ?_
 rintro _ _ ⟨_,_,_,_,_,_,_,_,_,_,_,_,_,_,_,_,_,Q⟩;exact D9 Q
 rintro hJ hK d4 gH hL ⟨G,J,Ai,Ci,aE,N,A,aA,_,rfl,bP,aU,a4,Rc,Fi,Z,aD,Q⟩
 obtain⟨gI,c5,Q⟩:=DA Q;unfold H8 at Q
 rw [bP.eq];clear bP
 have bF:=aU
 refine Ax ?_
 clear Ff aM
 refine Aw<|AA<|Bu Av Av<|Ay<|Ax<|AF Q Av (fun d5 Q=>?_) (fun d5 Q=>?_)
 refine AH<|Ax<|AE<|Ax<|Aw ?_
 obtain⟨cB,Q⟩:=AG Q
 replace Fe:=Fe.step aU
 refine AA<|AC (q:=AO) Ep BW Av Av Fe Av cB.1 cB.2 ?_
 intro hM dG
 refine AA<|BF BW Av dG Av ?_
 intro gJ e8
 obtain⟨_,_,rfl,⟨rfl,Rd⟩,⟨rfl,Re⟩⟩:=e8
 refine AA<|Bx BW a4 ?_
 intro aP hN _ dH cC
 clear a4
 refine Bk<|Cx .z BW cC Av Av Av Av Av ?_
 intro hP dI bG
 clear cC
 refine Ay ?_
 clear dG
 refine B9 (g0:=[]) (m:=18) (fl:=[]) (Dc bG) Av (.inl Av) Av (by decide+kernel) ?_  -- 12
 refine Ba (Pt X 1) (fun _ _ _ hi M=>AP 1 Bw Av CB (M 4 Av) Av<|Gz hi)<|Ba (Value.slice Ai A.length Ci) (fun _ _ _ hi M=>AQ 2 CB (AB.nx hi).1 (M 43 Av) Av Av<|Gz hi)<|Ba (Pt aP 0) (fun _ _ _ hi M=>AP 0 BW Av BD (M 7 Av) Av<|Gz hi)<|Ba (Iv ((r_.places.getD G.toNat default).leaf)) (fun _ _ _ hi M=>AQ 0 BD (AB.nx hi).1 (M 45 Av) Av Av<|Gz hi) ?_
 obtain⟨aS,Q⟩:=AG Q
 have dJ:=(dH.trans dI)
 replace Fi:=Fi.step dJ
 obtain⟨aC,rfl,rfl⟩:=Fi.at_ (by have h1:A.length=J.length:=aD;omega)
 refine Do (Value.pointer (some ⟨aC,((r_.places.getD G.toNat default).leaf).toNat*1,none⟩)) (fun gK hQ g aI hi M=>?_) ?_
 obtain⟨-,a2,-⟩:=aI
 replace Fi:=Fi.step a2
 refine Az (B7 CB Bp (M 44 Av) (M 46 Av) Fi ⟨aS.1,by have h1:A.length=J.length:=aD;have h2:=aS.2;omega⟩ ?_)
 rintro _ ⟨⟩ -
 exact Gz hi
 refine Do (Value.slice (A.getD ((r_.places.getD G.toNat default).leaf).toNat default).1 (A.getD ((r_.places.getD G.toNat default).leaf).toNat default).2.1 (A.getD ((r_.places.getD G.toNat default).leaf).toNat default).2.2) (fun gL hR g aI hi M=>?_) ?_
 obtain⟨-,a2,-⟩:=aI
 replace Fi:=Fi.step a2
 have gM:=(AB.nx hi).1
 refine Az (Gr (p:=RK) (m:=(r_.places.getD G.toNat default).leaf) (i:=1) Bp Av gM Av (M 47 Av) Fi ⟨aS.1,by have h1:A.length=J.length:=aD;have h2:=aS.2;omega⟩ ?_)
 intro hS e9;obtain rfl:=Up e9
 exact Gz hi
 refine Ba (Pt aP 1) (fun _ _ _ hi M=>AP 1 BW Av BD (M 7 Av) Av<|Gz hi)<|Ba (Iv ((r_.places.getD G.toNat default).cell)) (fun _ _ _ hi M=>AQ 0 BD (AB.nx hi).1 (M 49 Av) Av Av<|Gz hi)<|Ba (Pt b1 1) (fun _ _ _ hi M=>AP 1 Bw Av CB (M 2 Av) Av<|Gz hi)<|Ba (Sl Ab p.capacity Cb) (fun _ _ _ hi M=>AQ 4 CB (AB.nx hi).1 (M 51 Av) Av Av<|Gz hi)<|Ba (Pt aP 0) (fun _ _ _ hi M=>AP 0 BW Av BD (M 7 Av) Av<|Gz hi)<|Ba (Iv ((r_.places.getD G.toNat default).leaf)) (fun _ _ _ hi M=>AQ 0 BD (AB.nx hi).1 (M 53 Av) Av Av<|Gz hi) ?_
 obtain⟨cD,Q⟩:=AG Q
 replace Fb:=Fb.step (a1.trans (aU.trans (dH.trans dI)))
 refine Bc (VP _ _ (BE (AM .i64)) (p.capacity.getD ((r_.places.getD G.toNat default).leaf).toNat default)) (VP.stab _ _) (fun gN hT g aI hi M=>?_) ?_
 obtain⟨-,a2,-⟩:=aI
 replace Fb:=Fb.step a2
 refine Az<|AC (q:=BE (AM .i64)) CB Bp (M 52 Av) (M 54 Av) Fb Av cD.1 cD.2 ?_
 intro hU fA
 exact Bs.same hi ⟨_,Av,fA⟩
 refine Bc (VD _ _ (vC (BE (AM .i64))) (p.capacity.getD ((r_.places.getD G.toNat default).leaf).toNat default)) (VD.stab _ _) (fun gO hV g aI hi M=>?_) ?_
 obtain⟨hW,fB,fC⟩:=M 55 Av
 refine Az<|AX Bp fB fC Av ?_
 intro hX fD
 obtain⟨Aj,Cj,rfl,Fj⟩:=BH fD
 exact Bs.same hi (show Vr.vd (vC (BE (AM .i64))) _ _ _ _ from(Ke (B5 Fj)))
 refine Ba (Pt aP 1) (fun _ _ _ hi M=>AP 1 BW Av BD (M 7 Av) Av<|Gz hi)<|Ba (Iv ((r_.places.getD G.toNat default).cell)) (fun _ _ _ hi M=>AQ 0 BD (AB.nx hi).1 (M 57 Av) Av Av<|Gz hi) ?_
 obtain⟨cE,Q⟩:=AG Q
 refine Bc (VP _ _ (AM .i64) ((p.capacity.getD ((r_.places.getD G.toNat default).leaf).toNat default).getD ((r_.places.getD G.toNat default).cell).toNat default)) (VP.stab _ _) (fun gP hY g aI hi M=>?_) ?_
 have fE:Vr.vd (vC (BE (AM .i64))) _ _ _ _:=M 56 Av
 obtain⟨Ak,Ck,fF,Fk⟩:=BH fE
 refine Az<|AC (q:=(AM .i64)) Bp BD fF (M 58 Av) Fk Av cE.1 cE.2 ?_
 intro hZ fG
 exact Bs.same hi ⟨_,Av,fG⟩
 refine Bc (VD _ _ (vI .i64) ((p.capacity.getD ((r_.places.getD G.toNat default).leaf).toNat default).getD ((r_.places.getD G.toNat default).cell).toNat default)) (VD.stab _ _) (fun gQ h0 g aI hi M=>?_) ?_
 obtain⟨h3,fH,fI⟩:=M 59 Av
 refine Az<|AX BD fH fI Av ?_
 intro h4 fJ
 obtain⟨rfl,Rf⟩:=C3 fJ
 exact Bs.same hi (show Vr.vd (vI .i64) _ _ _ _ from⟨Av,Rf⟩)
 refine BA fun fK h5 d6 d7=>?_
 obtain⟨-,c6,-⟩:=d6
 obtain⟨bH,bQ⟩:=AB.nx d7
 rintro h6 cF
 replace cF:Vr.vd (vI .i64) _ _ _ _:=cF
 obtain⟨rfl,Rg⟩:=cF
 rintro _ ⟨h7,rfl,cG⟩ _ rfl _ rfl h8 cH
 replace cH:Vr.vd (vC (BE (AM .i64))) _ _ _ _:=cH
 obtain⟨Al,Cl,rfl,Fl⟩:=BH cH
 rintro _ ⟨h9,rfl,cI⟩ _ rfl _ rfl _ rfl _ rfl _ rfl _ rfl _ rfl _ rfl _ rfl _ rfl _ rfl _ rfl
 have dK:=bG.to bH (c6.trans bQ)
 replace cG:=cG.step bQ;replace Fl:=Fl.step bQ;replace cI:=cI.step bQ;clear bG
 have dL:=(dJ.trans dK)
 replace Z:=Z.step dL
 obtain⟨d8,d9,eA⟩:=Z.at_ (i:=((r_.places.getD G.toNat default).leaf).toNat) (by have:=aS;omega)
 obtain⟨bI,Q⟩:=AG Q
 obtain⟨fL,cJ⟩:=eA (by have:=bI;omega)
 refine AA<|Ms (H:=A.getD ((r_.places.getD G.toNat default).leaf).toNat default) (row:=J.getD ((r_.places.getD G.toNat default).leaf).toNat default) (bl:=fL) Bp BD Av Av cJ d9 bI ?_
 refine Bk (Mr (bs:=[(some aP,Oc [Iv ((r_.places.getD G.toNat default).leaf),Iv ((r_.places.getD G.toNat default).cell)] 45),(some aC,N),(some X,Oc [Sl Aa p.cells Ca,Value.slice (some ⟨aC,0,none⟩) A.length Ci,Value.slice none 0 0] 26),(some b6,Oc [Sl Ad r_.variables Cd,Sl Ae r_.places Ce] 34),(some b1,Oc (C0 p Aa Ca Ab Cb Ac Cc) 26)]) (R:=aA) (vs:=[Iv ((p.capacity.getD ((r_.places.getD G.toNat default).leaf).toNat default).getD ((r_.places.getD G.toNat default).cell).toNat default)]) (m:=(r_.places.getD G.toNat default).cell) (i:=((r_.places.getD G.toNat default).leaf).toNat) (hd:=A.getD ((r_.places.getD G.toNat default).leaf).toNat default) BD Av bH Z (by have:=aS;omega) d8 cJ Av Av Av bI (AW Rg) ?_)
 intro cK bC bR aV aT
 replace aV:St ⟨w,[],[]⟩ O cK ((some aP,Oc [Iv ((r_.places.getD G.toNat default).leaf),Iv ((r_.places.getD G.toNat default).cell)] 45)::(some aC,N)::(some X,Oc [Sl Aa p.cells Ca,Value.slice (some ⟨aC,0,none⟩) A.length Ci,Value.slice none 0 0] 26)::(some b6,Oc [Sl Ad r_.variables Cd,Sl Ae r_.places Ce] 34)::(some b1,Oc (C0 p Aa Ca Ab Cb Ac Cc) 26)::bC):=aV
 replace bR:AB (ks ((some aP,Oc [Iv ((r_.places.getD G.toNat default).leaf),Iv ((r_.places.getD G.toNat default).cell)] 45)::(some aC,N)::(some X,Oc [Sl Aa p.cells Ca,Value.slice (some ⟨aC,0,none⟩) A.length Ci,Value.slice none 0 0] 26)::(some b6,Oc [Sl Ad r_.variables Cd,Sl Ae r_.places Ce] 34)::(some b1,Oc (C0 p Aa Ca Ab Cb Ac Cc) 26)::aA) O) fK (ks ((some aP,Oc [Iv ((r_.places.getD G.toNat default).leaf),Iv ((r_.places.getD G.toNat default).cell)] 45)::(some aC,N)::(some X,Oc [Sl Aa p.cells Ca,Value.slice (some ⟨aC,0,none⟩) A.length Ci,Value.slice none 0 0] 26)::(some b6,Oc [Sl Ad r_.variables Cd,Sl Ae r_.places Ce] 34)::(some b1,Oc (C0 p Aa Ca Ab Cb Ac Cc) 26)::bC) O) cK:=bR
 replace aT:Rows (AM .i64) 3 cK (ks ((some aP,Oc [Iv ((r_.places.getD G.toNat default).leaf),Iv ((r_.places.getD G.toNat default).cell)] 45)::(some aC,N)::(some X,Oc [Sl Aa p.cells Ca,Value.slice (some ⟨aC,0,none⟩) A.length Ci,Value.slice none 0 0] 26)::(some b6,Oc [Sl Ad r_.variables Cd,Sl Ae r_.places Ce] 34)::(some b1,Oc (C0 p Aa Ca Ab Cb Ac Cc) 26)::bC) O) A bC (J.set ((r_.places.getD G.toNat default).leaf).toNat ((J.getD ((r_.places.getD G.toNat default).leaf).toNat default).set ((r_.places.getD G.toNat default).cell).toNat ((p.capacity.getD ((r_.places.getD G.toNat default).leaf).toNat default).getD ((r_.places.getD G.toNat default).cell).toNat default))):=aT
 clear bH
 have eB:A.length=(J.set ((r_.places.getD G.toNat default).leaf).toNat ((J.getD ((r_.places.getD G.toNat default).leaf).toNat default).set ((r_.places.getD G.toNat default).cell).toNat ((p.capacity.getD ((r_.places.getD G.toNat default).leaf).toNat default).getD ((r_.places.getD G.toNat default).cell).toNat default))).length:=(Rows.lens aT).1
 have gR:A.length=(J.set ((r_.places.getD G.toNat default).leaf).toNat ((J.getD ((r_.places.getD G.toNat default).leaf).toNat default).set ((r_.places.getD G.toNat default).cell).toNat ((p.capacity.getD ((r_.places.getD G.toNat default).leaf).toNat default).getD ((r_.places.getD G.toNat default).cell).toNat default))).length:=by have h1:A.length=J.length:=aD;rw [List.length_set];exact h1
 refine Ay ?_
 clear cG Fl cI
 refine Aw<|AA<|Bm Av Av<|Be (Iv (wq (G+1))) Av<|Ay ?_
 have eC:=aV.drop 0
 have cL:=(aV.dropS 0)
 clear aV
 have fM:=(dL.trans (bR.trans cL))
 replace bF:=bF.trans fM;replace aT:=aT.step cL
 have fN:=(dK.trans (bR.trans cL))
 replace Fi:=Fi.step fN
 exact d4 _ _ ⟨(wq (G+1)),J.set ((r_.places.getD G.toNat default).leaf).toNat ((J.getD ((r_.places.getD G.toNat default).leaf).toNat default).set ((r_.places.getD G.toNat default).cell).toNat ((p.capacity.getD ((r_.places.getD G.toNat default).leaf).toNat default).getD ((r_.places.getD G.toNat default).cell).toNat default)),some ⟨aC,0,none⟩,Ci,some aC,N,A,bC,_,Av,BB.of ⟨Av,trivial⟩,bF,eC,(AZ .i64 _),Fi,aT,eB,GD c5 Q⟩
 refine Br<|Ax<|Ax<|Aw<|AA<|AP 0 Dq Av Bp Av Av<|AA<|AQ 2 Bp a4 Av Av Av<|AA<|Bd Try.underlying31 Av ?_
 have cM:=(dF.trans aU)
 replace Fd:=Fd.step cM
 have gS:=Bb Fd
 refine Be (Iv 0) Av<|Ay<|AE<|Wr [] [(2,Pt b1 0),(4,Pt X 0),(64,Sl Ad r_.variables Cd),(65,Iv (r_.variables.length:Int)),(66,Iv 0)] fun gT=>?_
 have cN:=a4.ghost (Obj.cells #[] 61)
 refine Bh WD (fun m fr w'=>∃(W:Int) (aJ:List AL) (Am:Option Addr) (Cm:Nat) (aF:Option Nat) (aG:Obj) (aH:Bi),aH=((aF,aG)::(aE,N)::(some X,Oc [Sl Aa p.cells Ca,Value.slice Ai A.length Ci,Sl Am aJ Cm] 26)::(some b6,Oc [Sl Ad r_.variables Cd,Sl Ae r_.places Ce] 34)::(some b1,Oc (C0 p Aa Ca Ab Cb Ac Cc) 26)::aA)∧fr [] [(66,Iv W)]∧cN.S (ks aH O) w'∧St ⟨w,[],[]⟩ O w' aH∧BR .i64 W∧Gs AT 61 w' (ks aH O) Am Cm aJ aF aG∧B8 (H7 p r_ J) m W aJ=some x) (((r_.variables.length:Int) - 0).toNat+1) ⟨0,([]:List AL),none,0,none,Obj.cells #[] 61,_,Av,BB.of ⟨Av,trivial⟩,AB.refl _ _,cN,EG,Gs.nil_,Q⟩ ?_ ?_
 rintro _ _ ⟨_,_,_,_,_,_,_,_,_,_,_,_,_,Q⟩;exact D9 Q
 rintro iA iB eD gU iC ⟨W,aJ,Am,Cm,aF,aG,_,rfl,bS,aQ,aW,Rh,Fm,Q⟩
 obtain⟨gV,c7,Q⟩:=DA Q;unfold H7 at Q
 rw [bS.eq];clear bS
 have bJ:=aQ
 refine Ax<|Aw<|AA<|Bu Av Av<|Ay<|Ax<|AF Q Av (fun eE Q=>?_) (fun eE Q=>?_)
 refine AH<|Ax<|AE<|Ax<|Aw ?_
 obtain⟨cO,Q⟩:=AG Q
 replace Fd:=Fd.step aQ
 refine AA<|AC (q:=(AM .i64)) Bp BD Av Av Fd Av cO.1 cO.2 ?_
 intro iD dM
 refine AA<|AX BD Av dM Av ?_
 intro iE fO
 obtain⟨rfl,Ri⟩:=C3 fO
 refine Bn (Iv (r_.variables.getD W.toNat default)) Av<|Ay ?_
 clear dM
 refine B9 (g0:=[]) (m:=8) (fl:=[]) (Dc aW) Av (.inl Av) Av (by decide+kernel) ?_  -- 17
 refine Ba (Pt X 2) (fun _ _ _ hi M=>AP 2 Bw Av CI (M 4 Av) Av<|Gz hi)<|Ba (Sl Am aJ Cm) (fun _ _ _ hi M=>AQ 2 CI (AB.nx hi).1 (M 70 Av) Av Av<|Gz hi)<|Ba (Pt b1 2) (fun _ _ _ hi M=>AP 2 Bw Av CI (M 2 Av) Av<|Gz hi)<|Ba (Sl Ac p.variables Cc) (fun _ _ _ hi M=>AQ 4 CI (AB.nx hi).1 (M 72 Av) Av Av<|Gz hi)<|Ba (Iv (r_.variables.getD W.toNat default)) (fun _ _ _ hi M=>AD (v:=Iv (r_.variables.getD W.toNat default)) (M 9 Av)<|Gz hi) ?_
 obtain⟨cP,Q⟩:=AG Q
 have fP:=(cM.trans aQ)
 replace Fc:=Fc.step fP
 refine Bc (VP _ _ AT (p.variables.getD (r_.variables.getD W.toNat default).toNat default)) (VP.stab _ _) (fun gW iF g aI hi M=>?_) ?_
 obtain⟨-,a2,-⟩:=aI
 replace Fc:=Fc.step a2
 refine Az<|AC (q:=AT) CI Ex (M 73 Av) (M 74 Av) Fc Av cP.1 cP.2 ?_
 intro iG fQ
 exact Bs.same hi ⟨_,Av,fQ⟩
 refine Bc (VD _ _ (vA AT) (p.variables.getD (r_.variables.getD W.toNat default).toNat default)) (VD.stab _ _) (fun gX iH g aI hi M=>?_) ?_
 obtain⟨iI,fR,fS⟩:=M 75 Av
 refine Az<|BF Ex fR fS Av ?_
 intro gY fT
 obtain⟨_,_,rfl,⟨rfl,Rj⟩,⟨_,_,rfl,⟨rfl,Rk⟩,⟨_,_,rfl,⟨An,Cn,rfl,Fn⟩,⟨Ao,Co,rfl,Fo⟩⟩⟩⟩:=fT
 exact Bs.same hi (show Vr.vd (vA AT) _ _ _ _ from(Jn (Cz (AU (AW Rj) (AU (AW Rk) (AU (B5 Fn) (B5 Fo)))))))
 refine Bc (VD _ _ (vC (BE AT)) [p.variables.getD (r_.variables.getD W.toNat default).toNat default]) (VD.stab _ _) (fun gZ iJ g aI hi M=>?_) ?_
 have fU:Vr.vd (vA AT) _ _ _ _:=M 76 Av
 obtain⟨_,fV,⟨_,_,rfl,⟨rfl,Rl⟩,⟨_,_,rfl,⟨rfl,Rm⟩,⟨_,_,rfl,⟨Ap,Cp,rfl,Fp⟩,⟨Aq,Cq,rfl,Fq⟩⟩⟩⟩⟩:=fU
 refine Az (Bf (cs:=[Iv ((p.variables.getD (r_.variables.getD W.toNat default).toNat default).flight),Iv ((p.variables.getD (r_.variables.getD W.toNat default).toNat default).node),Sl Ap ((p.variables.getD (r_.variables.getD W.toNat default).toNat default).leaves) Cp,Sl Aq ((p.variables.getD (r_.variables.getD W.toNat default).toNat default).choices) Cq]) (parts:=[(0,.tmp 76)]) CI Ex hi (by decide) (by simp only [List.map,(show ev _ (.tmp 76)=_ from fV)];rfl) ?_)
 intro iK iL eF cQ eG
 replace Fq:=Fq.step cQ;replace Fp:=Fp.step cQ
 obtain⟨eH,fW,fX⟩:=St.publish (q:=AT) (i:=0) (o:=0) (c:=1) (xs:=[p.variables.getD (r_.variables.getD W.toNat default).toNat default]) eG Av (show Ej AT _ _ [Iv ((p.variables.getD (r_.variables.getD W.toNat default).toNat default).flight),Iv ((p.variables.getD (r_.variables.getD W.toNat default).toNat default).node),Sl Ap ((p.variables.getD (r_.variables.getD W.toNat default).toNat default).leaves) Cp,Sl Aq ((p.variables.getD (r_.variables.getD W.toNat default).toNat default).choices) Cq] [p.variables.getD (r_.variables.getD W.toNat default).toNat default] from⟨_,_,Av,Cz (AU (AW Rl) (AU (AW Rm) (AU (B5 Fp) (B5 Fq)))),Ej.nil⟩) (BG Av) (BG Av) (BG Av)
 exact Bs.pub hi eH (AB.trans cQ fW) eF (show Vr.vd (vC (BE AT)) _ _ _ _ from Ke (B5 fX))
 refine BA fun iM iN eI eJ=>?_
 obtain⟨-,c8,-⟩:=eI
 obtain⟨bK,bD⟩:=AB.nx eJ
 rintro iO cR
 replace cR:Vr.vd (vC (BE AT)) _ _ _ _:=cR
 obtain⟨Ar,Cr,rfl,Fr⟩:=BH cR
 rintro iP cS
 replace cS:Vr.vd (vA AT) _ _ _ _:=cS
 obtain⟨_,rfl,⟨_,_,rfl,⟨rfl,Rn⟩,⟨_,_,rfl,⟨rfl,Ro⟩,⟨_,_,rfl,⟨As,Cs,rfl,Fs⟩,⟨At,Ct,rfl,Ft⟩⟩⟩⟩⟩:=cS
 rintro _ ⟨iQ,rfl,cT⟩ _ rfl _ rfl _ rfl _ rfl _ rfl
 have dN:=aW.to bK (c8.trans bD)
 replace Fr:=Fr.step bD;replace Fs:=Fs.step bD;replace Ft:=Ft.step bD;replace cT:=cT.step bD;clear aW
 obtain⟨cU,Q⟩:=AG Q
 obtain⟨eK,eL,eM⟩:=Fr.src
 replace Fm:=Fm.step dN
 refine AA (DR (q:=AT) (i:=0) (xs:=aJ) (ys:=[p.variables.getD (r_.variables.getD W.toNat default).toNat default]) (news:=eK) CI Ex Av (by decide) bK Av Av Fm Av eM eL cU (by have:=cU;simp only [maxLen];omega) ?_)
 intro cV cW fY fZ iR f0 cX cY
 clear bK
 refine AA<|AP 2 Bw Av CI Av Av<|Bk<|II (Sl cV (aJ++[p.variables.getD (r_.variables.getD W.toNat default).toNat default]) cW) (cs':=[Sl Aa p.cells Ca,Value.slice Ai A.length Ci,Sl cV (aJ++[p.variables.getD (r_.variables.getD W.toNat default).toNat default]) cW]) HG.p2 CI cX Av Av Av (BG Av) Av Av ?_
 intro iS dO eN
 clear cX
 refine Ay ?_
 clear Fr Fs Ft cT
 refine Aw<|AA<|Bm Av Av<|Be (Iv (wq (W+1))) Av<|Ay ?_
 have f1:=(dN.trans (f0.trans dO))
 replace bJ:=bJ.trans f1;replace cY:=cY.step dO
 exact eD _ _ ⟨(wq (W+1)),aJ++[p.variables.getD (r_.variables.getD W.toNat default).toNat default],cV,cW,fY,fZ,_,Av,BB.of ⟨Av,trivial⟩,bJ,eN,(AZ .i64 _),cY,GD c7 Q⟩
 refine Br<|Ax ?_
 obtain⟨bL,cZ⟩:=aW.sub (bs':=(aF,aG)::(aE,N)::(some X,Oc [Sl Aa p.cells Ca,Value.slice Ai A.length Ci,Sl Am aJ Cm] 26)::aA) (.cons_cons _ (.cons_cons _ (.cons_cons _ (.cons _ (.cons _ (List.Sublist.refl _))))))
 clear Fb Fc Fd Fe
 clear aW
 refine Aw<|AA<|Bz 2 Bw bL Av Av Av<|Bk<|Cx HG.p2 Bw bL Av Av Av Av Av ?_
 intro f2 c0 c1
 clear bL
 refine Bn (Iv 0) Av<|Ay<|AY ?_
 have dP:=(aQ.trans (cZ.trans c0))
 replace Z:=Z.step dP;replace Fi:=Fi.step dP
 obtain⟨a5,dQ,c2⟩:=Rows.publish (bs:=[(aF,aG),(aE,N),(some X,Oc [Sl Aa p.cells Ca,Value.slice Ai A.length Ci,Sl Am aJ Cm] 26)]) (R:=aA) (j:=1) c1 Z Av Fi
 replace a5:St _ O f2 [(aF,aG),(some X,Oc [Sl Aa p.cells Ca,Value.slice Ai A.length Ci,Sl Am aJ Cm] 26)]:=a5
 clear c1
 have f3:=(cZ.trans (c0.trans dQ))
 replace Fm:=Fm.step f3
 obtain⟨bM,dR,c3⟩:=Gs.publish (i:=0) a5 Av Fm
 clear a5
 have hz:=Gp bM
 refine⟨_,En,[Value.agg [Sl Aa p.cells Ca,Value.slice Ai A.length Ci,Sl Am aJ Cm].toArray,Iv 0],⟨Lw (cs:=[Sl Aa p.cells Ca,Value.slice Ai A.length Ci,Sl Am aJ Cm]) (vs:=[Sl Aa p.cells Ca,Value.slice Ai A.length Ci,Sl Am aJ Cm]) Bw (i:=0) bM Av Av Av Av,Av,trivial⟩,bM.ext,?_⟩
 replace c2:=c2.step (dR.trans hz);replace c3:=c3.step hz
 replace Fa:=Fa.step (cM.trans (aQ.trans (cZ.trans (c0.trans (dQ.trans (dR.trans hz))))))
 exact Vr.eq (a:=Kr (vA Gi) (vI .i64)) (x:=((⟨p.cells,J,aJ⟩:A9),0)) (Kh (Jn (Cz (AU (B5 Fa) (AU (S0 aD c2) (B5 c3))))) ⟨Av,EG⟩) (oi Q)

abbrev WE:List Nat:=[4,5,23,24,25,26,27,28,29,30,31,32,33,34,35,36,37,38,39,40]

abbrev WF:List Nat:=[4,6,41,42,43,44,45,46,47,48,49,50,51,52,53,54,55,56,57,58]

abbrev WG:List Nat:=[7,8,9,10,11,12,13,14,15,16,17,18,19,20,21,22]

def D0 (a:AS) (b:AS) (F:Int→Option Bool) (A:Int):Option Bool:=
 bif (decide (A<(a.places.length:Int))) then
  ck ((0:Int)≤A∧A<(a.places.length:Int))<|
  ck ((0:Int)≤A∧A<(b.places.length:Int))<|
  bif (!(decide ((a.places.getD A.toNat default)=(b.places.getD A.toNat default)))) then
   some false
  else
   F (IntKind.wrap .i64 (A+1))
 else
  some true

def D1 (a:AS) (b:AS) (F:Int→Option Bool) (A:Int):Option Bool:=
 bif (decide (A<(a.variables.length:Int))) then
  ck ((0:Int)≤A∧A<(a.variables.length:Int))<|
  ck ((0:Int)≤A∧A<(b.variables.length:Int))<|
  bif (decide ((a.variables.getD A.toNat default)≠(b.variables.getD A.toNat default))) then
   some false
  else
   F (IntKind.wrap .i64 (A+1))
 else
  B1 (D0 a b) (((a.places.length:Int) - 0).toNat+1) 0

def Dy (a:AS) (b:AS):Option Bool:=
 jn (fun(F:Bool)=>
  bif F then
   some false
  else
   B1 (D1 a b) (((a.variables.length:Int) - 0).toNat+1) 0)
 (fun A=>
  bif (decide ((a.variables.length:Int)≠(b.variables.length:Int))) then
   A true
  else
   A (decide ((a.places.length:Int)≠(b.places.length:Int))))

theorem Hz {w:World} {O:List Nat} {a:AS} {b:AS} {Aa:Option Addr} {Ca:Nat} {Ab:Option Addr} {Cb:Nat} {Ac:Option Addr} {Cc:Nat} {Ad:Option Addr} {Cd:Nat} (hO:∀k∈O,k<w.heap.size) (Fa:CA (AM .i64) w O Aa Ca a.variables) (Fb:CA AO w O Ab Cb a.places) (Fc:CA (AM .i64) w O Ac Cc b.variables) (Fd:CA AO w O Ad Cd b.places) {x:Bool} (A:Dy a b=some x):
 Ok Try.prog 27 [Value.agg [Sl Aa a.variables Ca,Sl Ab a.places Cb].toArray,Value.agg [Sl Ac b.variables Cc,Sl Ad b.places Cd].toArray] w O vB x:=by
 unfold Dy at A
 refine Bt (n:=59) (xs:=[.tmp 4]) Try.func27 Av Try.ntmps27 Try.results27 Av ?_
 have hs:=St.start hO
 refine Ax<|Aw<|AA<|BV (cs:=[Sl Aa a.variables Ca,Sl Ab a.places Cb]) hs Av Av ?_
 intro b1 w2 _ p3 bG
 refine AA<|BV (cs:=[Sl Ac b.variables Cc,Sl Ad b.places Cd]) bG Av Av ?_
 intro b6 w7 _ p8 U
 clear bG
 refine Bn (Bo false) Av<|Ay<|Ax<|Wr [] [(2,Pt b1 0),(3,Pt b6 0)] fun cP=>?_
 obtain⟨bY,bH,A⟩:=Dp A
 refine D8 WG (fun fr w'=>∃(a1:Bool) (M:Bi),M=[(some b6,Oc [Sl Ac b.variables Cc,Sl Ad b.places Cd] 34),(some b1,Oc [Sl Aa a.variables Ca,Sl Ab a.places Cb] 34)]∧fr [] [(22,Bo a1)]∧U.S (ks M O) w'∧St ⟨w,[],[]⟩ O w' M∧bY a1=some x) ?_ ?_
 rintro cQ dK ⟨a1,_,rfl,aH,a2,Z,A⟩
 replace A:=Ed bH A
 rw [aH.eq];clear aH
 refine AF A Av (fun bI A=>?_) (fun bI A=>?_)
 refine Ax ?_
 obtain⟨bJ,dL⟩:=Z.sub (bs':=[]) (.cons _ (.cons _ List.Sublist.slnil))
 clear Fa Fb Fc Fd
 clear Z
 refine Aw<|Bn (Bo false) Av<|Ay<|AY<|⟨_,En,[Bo false],⟨Av,trivial⟩,bJ.ext,?_⟩
 exact Vr.eq (a:=vB) (x:=false) Av (oi A)
 refine AH<|Ax<|Ax<|Aw<|Bn (Iv 0) Av<|Ay<|AE<|Wr [] [(2,Pt b1 0),(3,Pt b6 0),(5,Iv 0)] fun cR=>Bh WE (fun m fr w'=>∃(I:Int) (M:Bi),M=[(some b6,Oc [Sl Ac b.variables Cc,Sl Ad b.places Cd] 34),(some b1,Oc [Sl Aa a.variables Ca,Sl Ab a.places Cb] 34)]∧fr [] [(5,Iv I)]∧Z.S (ks M O) w'∧St ⟨w,[],[]⟩ O w' M∧BR .i64 I∧B1 (D1 a b) m I=some x) (((a.variables.length:Int) - 0).toNat+1) ⟨0,_,Av,BB.of ⟨Av,trivial⟩,AB.refl _ _,Z,EG,A⟩ ?_ ?_
 rintro _ _ ⟨_,_,_,_,_,_,_,A⟩;exact Dg A
 rintro dM dN bK cS dO ⟨I,_,rfl,aI,aJ,Q,Ra,A⟩
 obtain⟨cT,a3,A⟩:=Dh A;unfold D1 at A
 rw [aI.eq];clear aI
 have aK:=aJ
 refine Ax<|Ax<|Aw<|Be (Iv I) Av<|AA<|AP 0 Dq Av Bp Av Av<|AA<|AQ 1 Bp Q Av Av Av<|AA<|Bd Try.underlying31 Av ?_
 have a4:=(p3.trans (p8.trans (a2.trans aJ)))
 replace Fa:=Fa.step a4
 have cU:=Bb Fa
 refine AA<|Bu Av Av<|Ay<|AF A Av (fun bL A=>?_) (fun bL A=>?_)
 refine AH<|Ax<|AE<|Ax<|B9 (g0:=[]) (m:=10) (fl:=[]) (Dc Q) Av (.inl Av) Av (by decide+kernel) ?_  -- 6
 refine Ba (Pt b1 0) (fun _ _ _ hi F=>AP 0 Dq Av Bp (F 2 Av) Av<|Gz hi)<|Ba (Sl Aa a.variables Ca) (fun _ _ _ hi F=>AQ 1 Bp (AB.nx hi).1 (F 30 Av) Av Av<|Gz hi)<|Ba (Iv I) (fun _ _ _ hi F=>AD (v:=Iv I) (F 5 Av)<|Gz hi) ?_
 obtain⟨aX,A⟩:=AG A
 refine Bc (VP _ _ (AM .i64) (gt a.variables I)) (VP.stab _ _) (fun cV dP g N hi F=>?_) ?_
 obtain⟨-,W,-⟩:=N
 replace Fa:=Fa.step W
 refine Az<|AC (q:=(AM .i64)) Bp BD (F 31 Av) (F 32 Av) Fa Av aX.1 aX.2 ?_
 intro dQ bZ
 exact Bs.same hi ⟨_,Av,bZ⟩
 refine Bc (VD _ _ (vI .i64) (gt a.variables I)) (VD.stab _ _) (fun cW dR g N hi F=>?_) ?_
 obtain⟨dS,b0,b2⟩:=F 33 Av
 refine Az<|AX BD b0 b2 Av ?_
 intro dT b3
 obtain⟨rfl,Rb⟩:=C3 b3
 exact Bs.same hi (show Vr.vd (vI .i64) _ _ _ _ from⟨Av,Rb⟩)
 refine Ba (Pt b6 0) (fun _ _ _ hi F=>AP 0 Dq Av Bp (F 3 Av) Av<|Gz hi)<|Ba (Sl Ac b.variables Cc) (fun _ _ _ hi F=>AQ 0 Bp (AB.nx hi).1 (F 35 Av) Av Av<|Gz hi)<|Ba (Iv I) (fun _ _ _ hi F=>AD (v:=Iv I) (F 5 Av)<|Gz hi) ?_
 obtain⟨aY,A⟩:=AG A
 replace Fc:=Fc.step a4
 refine Bc (VP _ _ (AM .i64) (gt b.variables I)) (VP.stab _ _) (fun cX dU g N hi F=>?_) ?_
 obtain⟨-,W,-⟩:=N
 replace Fc:=Fc.step W
 refine Az<|AC (q:=(AM .i64)) Bp BD (F 36 Av) (F 37 Av) Fc Av aY.1 aY.2 ?_
 intro dV b4
 exact Bs.same hi ⟨_,Av,b4⟩
 refine Bc (VD _ _ (vI .i64) (gt b.variables I)) (VD.stab _ _) (fun cY dW g N hi F=>?_) ?_
 obtain⟨dX,b5,b7⟩:=F 38 Av
 refine Az<|AX BD b5 b7 Av ?_
 intro dY b8
 obtain⟨rfl,Rc⟩:=C3 b8
 exact Bs.same hi (show Vr.vd (vI .i64) _ _ _ _ from⟨Av,Rc⟩)
 refine BA fun dZ d0 bM bN=>?_
 obtain⟨-,a5,-⟩:=bM
 obtain⟨aL,a6⟩:=AB.nx bN
 rintro d1 a7
 replace a7:Vr.vd (vI .i64) _ _ _ _:=a7
 obtain⟨rfl,Rd⟩:=a7
 rintro _ ⟨cZ,rfl,aA⟩ _ rfl _ rfl _ rfl c0 aM
 replace aM:Vr.vd (vI .i64) _ _ _ _:=aM
 obtain⟨rfl,Re⟩:=aM
 rintro _ ⟨c1,rfl,aB⟩ _ rfl _ rfl _ rfl
 have bO:=Q.to aL (a5.trans a6)
 replace aA:=aA.step a6;replace aB:=aB.step a6;clear Q
 refine AA<|FB Av Av<|Ay<|AF A Av (fun a8 A=>?_) (fun a8 A=>?_)
 refine Ax ?_
 clear aA aB
 refine Aw<|Bn (Bo false) Av<|Ay<|AY<|⟨_,En,[Bo false],⟨Av,trivial⟩,aL.ext,?_⟩
 exact Vr.eq (a:=vB) (x:=false) Av (oi A)
 refine AH ?_
 clear aA aB
 refine Aw<|Be (Iv I) Av<|AA<|Bm Av Av<|Bn (Iv (wq (I+1))) Av<|Ay ?_
 replace aK:=aK.trans bO
 exact bK _ _ ⟨(wq (I+1)),_,Av,BB.of ⟨Av,trivial⟩,aK,aL,(AZ .i64 _),Ed a3 A⟩
 refine Br<|Ax<|Ax<|Aw<|Bn (Iv 0) Av<|Ay<|AE<|Wr [] [(2,Pt b1 0),(3,Pt b6 0),(6,Iv 0)] fun b9=>Bh WF (fun m fr w'=>∃(G:Int) (M:Bi),M=[(some b6,Oc [Sl Ac b.variables Cc,Sl Ad b.places Cd] 34),(some b1,Oc [Sl Aa a.variables Ca,Sl Ab a.places Cb] 34)]∧fr [] [(6,Iv G)]∧Q.S (ks M O) w'∧St ⟨w,[],[]⟩ O w' M∧BR .i64 G∧B1 (D0 a b) m G=some x) (((a.places.length:Int) - 0).toNat+1) ⟨0,_,Av,BB.of ⟨Av,trivial⟩,AB.refl _ _,Q,EG,A⟩ ?_ ?_
 rintro _ _ ⟨_,_,_,_,_,_,_,A⟩;exact Dg A
 rintro c2 c3 a9 cA c4 ⟨G,_,rfl,aC,aD,J,Rf,A⟩
 obtain⟨cB,aT,A⟩:=Dh A;unfold D0 at A
 rw [aC.eq];clear aC
 have X:=aD
 refine Ax<|Ax<|Aw<|Be (Iv G) Av<|AA<|AP 1 Dq Av Ep Av Av<|AA<|AQ 1 Ep J Av Av Av<|AA<|Bd Try.underlying32 Av ?_
 have aZ:=(a4.trans aD)
 replace Fb:=Fb.step aZ
 have cC:=Bb Fb
 refine AA<|Bu Av Av<|Ay<|AF A Av (fun bA A=>?_) (fun bA A=>?_)
 refine AH<|Ax<|AE<|Ax<|B9 (g0:=[]) (m:=10) (fl:=[]) (Dc J) Av (.inl Av) Av (by decide+kernel) ?_  -- 11
 refine Ba (Pt b1 1) (fun _ _ _ hi F=>AP 1 Dq Av Ep (F 2 Av) Av<|Gz hi)<|Ba (Sl Ab a.places Cb) (fun _ _ _ hi F=>AQ 1 Ep (AB.nx hi).1 (F 48 Av) Av Av<|Gz hi)<|Ba (Iv G) (fun _ _ _ hi F=>AD (v:=Iv G) (F 6 Av)<|Gz hi) ?_
 obtain⟨aN,A⟩:=AG A
 refine Bc (VP _ _ AO (gt a.places G)) (VP.stab _ _) (fun cD c5 g N hi F=>?_) ?_
 obtain⟨-,W,-⟩:=N
 replace Fb:=Fb.step W
 refine Az<|AC (q:=AO) Ep BW (F 49 Av) (F 50 Av) Fb Av aN.1 aN.2 ?_
 intro c6 bP
 exact Bs.same hi ⟨_,Av,bP⟩
 refine Bc (VD _ _ (vA AO) (gt a.places G)) (VD.stab _ _) (fun cE c7 g N hi F=>?_) ?_
 obtain⟨c8,bQ,bR⟩:=F 51 Av
 refine Az<|BF BW bQ bR Av ?_
 intro cF bS
 obtain⟨_,_,rfl,⟨rfl,Rg⟩,⟨rfl,Rh⟩⟩:=bS
 exact Bs.same hi (show Vr.vd (vA AO) _ _ _ _ from(Jn (Cz (AU (AW Rg) (AW Rh)))))
 refine Ba (Pt b6 1) (fun _ _ _ hi F=>AP 1 Dq Av Ep (F 3 Av) Av<|Gz hi)<|Ba (Sl Ad b.places Cd) (fun _ _ _ hi F=>AQ 0 Ep (AB.nx hi).1 (F 53 Av) Av Av<|Gz hi)<|Ba (Iv G) (fun _ _ _ hi F=>AD (v:=Iv G) (F 6 Av)<|Gz hi) ?_
 obtain⟨aO,A⟩:=AG A
 replace Fd:=Fd.step aZ
 refine Bc (VP _ _ AO (gt b.places G)) (VP.stab _ _) (fun cG c9 g N hi F=>?_) ?_
 obtain⟨-,W,-⟩:=N
 replace Fd:=Fd.step W
 refine Az<|AC (q:=AO) Ep BW (F 54 Av) (F 55 Av) Fd Av aO.1 aO.2 ?_
 intro dA bT
 exact Bs.same hi ⟨_,Av,bT⟩
 refine Bc (VD _ _ (vA AO) (gt b.places G)) (VD.stab _ _) (fun cH dB g N hi F=>?_) ?_
 obtain⟨dC,bU,bV⟩:=F 56 Av
 refine Az<|BF BW bU bV Av ?_
 intro cI bW
 obtain⟨_,_,rfl,⟨rfl,Ri⟩,⟨rfl,Rj⟩⟩:=bW
 exact Bs.same hi (show Vr.vd (vA AO) _ _ _ _ from(Jn (Cz (AU (AW Ri) (AW Rj)))))
 refine BA fun dD dE bB bC=>?_
 obtain⟨-,aU,-⟩:=bB
 obtain⟨Y,aP⟩:=AB.nx bC
 rintro dF aQ
 replace aQ:Vr.vd (vA AO) _ _ _ _:=aQ
 obtain⟨_,rfl,⟨_,_,rfl,⟨rfl,Rk⟩,⟨rfl,Rl⟩⟩⟩:=aQ
 rintro _ ⟨dG,rfl,aE⟩ _ rfl _ rfl _ rfl dH aR
 replace aR:Vr.vd (vA AO) _ _ _ _:=aR
 obtain⟨_,rfl,⟨_,_,rfl,⟨rfl,Rm⟩,⟨rfl,Rn⟩⟩⟩:=aR
 rintro _ ⟨dI,rfl,aF⟩ _ rfl _ rfl _ rfl
 have bX:=J.to Y (aU.trans aP)
 replace aE:=aE.step aP;replace aF:=aF.step aP;clear J
 refine AA<|QK (c:=decide ((gt a.places G)=(gt b.places G))) Av Av Ur (SN 9998 (gt a.places G) (gt b.places G) _)<|Ay<|AF A Av (fun bD A=>?_) (fun bD A=>?_)
 refine Ax ?_
 clear aE aF
 refine Aw<|Bn (Bo false) Av<|Ay<|AY<|⟨_,En,[Bo false],⟨Av,trivial⟩,Y.ext,?_⟩
 exact Vr.eq (a:=vB) (x:=false) Av (oi A)
 refine AH ?_
 clear aE aF
 refine Aw<|Be (Iv G) Av<|AA<|Bm Av Av<|Bn (Iv (wq (G+1))) Av<|Ay ?_
 replace X:=X.trans bX
 exact a9 _ _ ⟨(wq (G+1)),_,Av,BB.of ⟨Av,trivial⟩,X,Y,(AZ .i64 _),Ed aT A⟩
 refine Br<|Ax ?_
 obtain⟨bE,dJ⟩:=J.sub (bs':=[]) (.cons _ (.cons _ List.Sublist.slnil))
 clear Fa Fb Fc Fd
 clear J
 refine Aw<|Bn (Bo true) Av<|Ay<|AY<|⟨_,En,[Bo true],⟨Av,trivial⟩,bE.ext,?_⟩
 exact Vr.eq (a:=vB) (x:=true) Av (oi A)
 intro d2 a0
 have aS:=U.stepR
 refine Aw<|AA<|AP 0 Dq Av Bp Av Av<|AA<|AQ 1 Bp U Av Av Av<|AA<|Bd Try.underlying31 Av ?_
 have aG:=(p3.trans p8)
 replace Fa:=Fa.step aG
 have cJ:=Bb Fa
 refine AA<|AP 0 Dq Av Bp Av Av<|AA<|AQ 0 Bp U Av Av Av<|AA<|Bd Try.underlying31 Av ?_
 replace Fc:=Fc.step aG
 have cK:=Bb Fc
 refine AA<|FB Av Av<|Be (Bo (decide ((a.variables.length:Int)≠(b.variables.length:Int)))) Av<|B4 A (fun bF A=>?_) (fun bF A=>?_)
 iterate 7 refine AI Av (AJ Av Av) Av ?_
 exact FR (Bo true) Av Av<|Ay<|a0 _ _ ⟨true,_,Av,BB.of ⟨Av,trivial⟩,aS,U,A⟩
 refine BN Av Av<|AP 1 Dq Av Ep Av Av<|BN Av Av<|AQ 1 Ep U Av Av Av<|BN Av Av<|Bd Try.underlying32 Av ?_
 replace Fb:=Fb.step aG
 have cL:=Bb Fb
 refine BN Av Av<|AP 1 Dq Av Ep Av Av<|BN Av Av<|AQ 0 Ep U Av Av Av<|BN Av Av<|Bd Try.underlying32 Av ?_
 replace Fd:=Fd.step aG
 have cM:=Bb Fd
 exact BN Av Av<|FB Av Av<|FF (Bo (decide ((a.places.length:Int)≠(b.places.length:Int)))) Av Av<|Ay<|a0 _ _ ⟨decide ((a.places.length:Int)≠(b.places.length:Int)),_,Av,BB.of ⟨Av,trivial⟩,aS,U,A⟩

abbrev U2:List Nat:=[5,6,18,19,20,21,22,23,24,25,26,27,28,29,30,31,32,33,34,35,36,37,38,39,40,41,42,43,44,45]

def Gk (I:Int→(List AL)→Option A9) (A:Int) (G:List AL):Option A9:=
 bif (decide (A<3)) then
  jn (fun(J:List AR)=>
   ck ((G.length+[(⟨A,0,[0],J⟩:AL)].length)*64≤140737488355328)<|
   I (IntKind.wrap .i64 (A+1)) (G++[(⟨A,0,[0],J⟩:AL)]))
  (fun F=>
   bif (decide (A=0)) then
    ck ((0:Int)≤1∧1<([(⟨0,0,0,[(⟨(⟨false,0,61⟩:AK),1⟩:Bv)]⟩:AR),(⟨10,0,0,[(⟨(⟨false,0,60⟩:AK),1⟩:Bv),(⟨(⟨false,0,61⟩:AK),1⟩:Bv)]⟩:AR)].length:Int))<|
    F ([(⟨0,0,0,[(⟨(⟨false,0,61⟩:AK),1⟩:Bv)]⟩:AR),(⟨10,0,0,[(⟨(⟨false,0,60⟩:AK),1⟩:Bv),(⟨(⟨false,0,61⟩:AK),1⟩:Bv)]⟩:AR)].set 1 (⟨([(⟨0,0,0,[(⟨(⟨false,0,61⟩:AK),1⟩:Bv)]⟩:AR),(⟨10,0,0,[(⟨(⟨false,0,60⟩:AK),1⟩:Bv),(⟨(⟨false,0,61⟩:AK),1⟩:Bv)]⟩:AR)].getD 1 default).delay,([(⟨0,0,0,[(⟨(⟨false,0,61⟩:AK),1⟩:Bv)]⟩:AR),(⟨10,0,0,[(⟨(⟨false,0,60⟩:AK),1⟩:Bv),(⟨(⟨false,0,61⟩:AK),1⟩:Bv)]⟩:AR)].getD 1 default).cost,([(⟨0,0,0,[(⟨(⟨false,0,61⟩:AK),1⟩:Bv)]⟩:AR),(⟨10,0,0,[(⟨(⟨false,0,60⟩:AK),1⟩:Bv),(⟨(⟨false,0,61⟩:AK),1⟩:Bv)]⟩:AR)].getD 1 default).changes,([]:List Bv)⟩:AR))
   else
    F [(⟨0,0,0,[(⟨(⟨false,0,61⟩:AK),1⟩:Bv)]⟩:AR),(⟨10,0,0,[(⟨(⟨false,0,60⟩:AK),1⟩:Bv),(⟨(⟨false,0,61⟩:AK),1⟩:Bv)]⟩:AR)])
 else
  some (⟨[(⟨false,0,60⟩:AK),(⟨false,0,61⟩:AK)],[[1,1]],G⟩:A9)

def G9:Option A9:=
 B8 Gk (((3:Int) - 0).toNat+1) 0 ([]:List AL)

theorem JA {w:World} {O:List Nat} (hO:∀k∈O,k<w.heap.size) {x:A9} (W:G9=some x):
 Ok Try.prog 29 [] w O (vA Gi) x:=by
 unfold G9 at W
 refine Bt (n:=47) (xs:=[.cell 0 26]) Try.func29 Av Try.ntmps29 Try.results29 Av ?_
 have hs:=St.start hO
 refine Ax<|Aw<|AA<|Bx Bw hs ?_
 intro b1 w2 _ p3 cT
 refine Ay<|Ax<|Aw<|AA<|Dv (vs:=[Bo false,Iv 0,Iv 60]) (parts:=[(2,.const (.int .i64 60))]) Eo Wi Av<|AA<|Dv (vs:=[Bo false,Iv 0,Iv 61]) (parts:=[(2,.const (.int .i64 61))]) Eo Wi Av<|AA<|Bx Eo cT ?_
 intro b6 w7 _ p8 cU
 clear cT
 refine AA<|Bx Eo cU ?_
 intro Z d7 _ d8 bT
 clear cU
 refine Bk<|Cx HG.p1 Eo bT Av Av Av Av Av ?_
 intro d9 eA bU
 clear bT
 refine Bk<|Cx .z Eo bU Av Av Av Av Av ?_
 intro eB eC aZ
 clear bU
 refine Ay<|Ax<|Aw<|AA<|Bz 0 Eo aZ Av Av Av<|AA<|Dv (vs:=[Bo false,Iv 0,Iv 61,Iv 1]) (parts:=[(0,.tmp 9),(1,.const (.int .i64 1))]) GU Vc Av<|AA<|Bf (cs:=[Bo false,Iv 0,Iv 61,Iv 1]) (parts:=[(0,.tmp 10)]) HK GU aZ (by decide) Av ?_
 intro Q eD dQ eE aQ
 clear aZ
 refine Bn (Value.slice (some ⟨Q,0,none⟩) 1 1) Av<|Ay<|Ax<|Aw<|AA<|Bz 2 Eo aQ Av Av Av<|AA<|Bz 1 Eo aQ Av Av Av<|AA<|Bf (cs:=[Bo false,Iv 0,Iv 60,Bo false,Iv 0,Iv 61]) (parts:=[(0,.tmp 12),(1,.tmp 13)]) F1 Eo aQ (by decide) Av ?_
 intro A eF dR eG bV
 clear aQ
 refine AA<|Bf (cs:=[Iv 1,Iv 1]) (parts:=[(0,.const (.int .i64 1)),(1,.const (.int .i64 1))]) Bp BD bV (by decide) Av ?_
 intro X eH dS eI bW
 clear bV
 obtain⟨bX,eJ,bR⟩:=St.publish (i:=0) (o:=0) (c:=2) (xs:=[1,1]) bW Av (show Ej (AM .i64) _ _ [Iv 1,Iv 1] [1,1] from⟨_,_,Av,AW MC,⟨_,_,Av,AW MC,Ej.nil⟩⟩) (BG Av) (BG Av) (BG Av)
 clear bW
 refine AA<|Bf (cs:=[Sl (some ⟨X,0,none⟩) [1,1] 2]) (parts:=[(0,.tmp 15)]) CB Bp bX (by decide) Av ?_
 intro F cV dT dG bY
 clear bX
 have cM:=Gs.of_cells (p:=B2) (e:=67) (bl:=A) (c:=2) (w:=cV) (O:=ks [(some F,Oc [Sl (some ⟨X,0,none⟩) [1,1] 2] 31),(some A,Oc [Bo false,Iv 0,Iv 60,Bo false,Iv 0,Iv 61] 67),(some Q,Oc [Bo false,Iv 0,Iv 61,Iv 1] 76),(some Z,Oc [Bo false,Iv 0,Iv 61] 67),(some b6,Oc [Bo false,Iv 0,Iv 60] 67),(some b1,Oc [Value.slice none 0 0,Value.slice none 0 0,Value.slice none 0 0] 26)] O) (show Ej B2 _ _ [Bo false,Iv 0,Iv 60,Bo false,Iv 0,Iv 61] [(⟨false,0,60⟩:AK),(⟨false,0,61⟩:AK)] from⟨_,_,Av,Cz (AU GQ (AU (AW EG) (AW (show BR .i64 60 from by decide)))),⟨_,_,Av,Cz (AU GQ (AU (AW EG) (AW (show BR .i64 61 from by decide)))),Ej.nil⟩⟩) Av (BG Av)
 replace bR:=bR.step dG
 have cN:=Gs.of_cells (p:=BE (AM .i64)) (e:=31) (bl:=F) (c:=1) (w:=cV) (O:=ks [(some F,Oc [Sl (some ⟨X,0,none⟩) [1,1] 2] 31),(some A,Obj.cells [Bo false,Iv 0,Iv 60,Bo false,Iv 0,Iv 61].toArray 67),(some Q,Oc [Bo false,Iv 0,Iv 61,Iv 1] 76),(some Z,Oc [Bo false,Iv 0,Iv 61] 67),(some b6,Oc [Bo false,Iv 0,Iv 60] 67),(some b1,Oc [Value.slice none 0 0,Value.slice none 0 0,Value.slice none 0 0] 26)] O) (show Ej (BE (AM .i64)) _ _ [Sl (some ⟨X,0,none⟩) [1,1] 2] [[1,1]] from⟨_,_,Av,B5 bR,Ej.nil⟩) Av (BG Av)
 refine AA<|Dv (vs:=[Sl (some ⟨A,0,none⟩) [(⟨false,0,60⟩:AK),(⟨false,0,61⟩:AK)] 2,Sl (some ⟨F,0,none⟩) [[1,1]] 1,Value.slice none 0 0]) (parts:=[(0,.tmp 14),(1,.tmp 16)]) Bw SM Av<|AA<|Bx Bw bY ?_
 intro aB eK _ dH bZ
 clear bY
 refine Bk<|Cx .z Bw bZ Av Av Av Av Av ?_
 intro eL dI b0
 clear bZ
 refine Ay<|Ax<|Ax ?_
 clear bR
 refine Aw<|Be (Iv 0) Av<|Ay<|AE ?_
 obtain⟨cW,dJ,bS⟩:=St.publish (i:=3) (o:=0) (c:=1) (xs:=[(⟨(⟨false,0,61⟩:AK),1⟩:Bv)]) b0 Av (show Ej FO _ _ [Bo false,Iv 0,Iv 61,Iv 1] [(⟨(⟨false,0,61⟩:AK),1⟩:Bv)] from⟨_,_,Av,Cz (AU (Cz (AU GQ (AU (AW EG) (AW (show BR .i64 61 from by decide))))) (AW MC)),Ej.nil⟩) (BG Av) (BG Av) (BG Av)
 clear b0
 refine Wr [] [(0,Pt b1 0),(1,Pt b6 0),(2,Pt Z 0),(3,Sl (some ⟨Q,0,none⟩) [(⟨(⟨false,0,61⟩:AK),1⟩:Bv)] 1),(4,Pt aB 0),(18,Iv 0)] fun cX=>?_
 have b2:=cW.ghost (Obj.cells #[] 61)
 refine Bh U2 (fun m fr w'=>∃(G:Int) (M:List AL) (Aa:Option Addr) (Ca:Nat) (I:Option Nat) (J:Obj) (aE:Bi),aE=[(I,J),(some aB,Oc [Sl (some ⟨A,0,none⟩) [(⟨false,0,60⟩:AK),(⟨false,0,61⟩:AK)] 2,Sl (some ⟨F,0,none⟩) [[1,1]] 1,Sl Aa M Ca] 26),(some F,Obj.cells [Sl (some ⟨X,0,none⟩) [1,1] 2].toArray 31),(some A,Obj.cells [Bo false,Iv 0,Iv 60,Bo false,Iv 0,Iv 61].toArray 67),(some Z,Oc [Bo false,Iv 0,Iv 61] 67),(some b6,Oc [Bo false,Iv 0,Iv 60] 67),(some b1,Oc [Value.slice none 0 0,Value.slice none 0 0,Value.slice none 0 0] 26)]∧fr [] [(18,Iv G)]∧b2.S (ks aE O) w'∧St ⟨w,[],[]⟩ O w' aE∧BR .i64 G∧Gs AT 61 w' (ks aE O) Aa Ca M I J∧B8 Gk m G M=some x) (((3:Int) - 0).toNat+1) ⟨0,([]:List AL),none,0,none,Obj.cells #[] 61,_,Av,BB.of ⟨Av,trivial⟩,AB.refl _ _,b2,EG,Gs.nil_,W⟩ ?_ ?_
 rintro _ _ ⟨_,_,_,_,_,_,_,_,_,_,_,_,_,W⟩;exact D9 W
 rintro eM eN cY dU eO ⟨G,M,Aa,Ca,I,J,_,rfl,a0,aK,aR,Ra,Fa,W⟩
 obtain⟨dV,cO,W⟩:=DA W;unfold Gk at W
 rw [a0.eq];clear a0
 have a1:=aK
 refine Ax<|Aw<|AA<|Bu Av Av<|Ay<|Ax<|AF W Av (fun cZ W=>?_) (fun cZ W=>?_)
 refine AH<|Ax<|AE<|Ax<|Aw<|Be (Iv G) Av<|Bn (Iv G) Av<|Ay<|Ax<|Aw<|Be (Iv G) Av<|AA<|Bf (cs:=[Iv 0]) (parts:=[(0,.const (.int .i64 0))]) Bp BD aR (by decide) Av ?_
 intro N eP dW c0 aS
 clear aR
 refine Be (Sl (some ⟨Q,0,none⟩) [(⟨(⟨false,0,61⟩:AK),1⟩:Bv)] 1) Av<|AA<|Dv (vs:=[Iv 0,Iv 0,Iv 0,Sl (some ⟨Q,0,none⟩) [(⟨(⟨false,0,61⟩:AK),1⟩:Bv)] 1]) (parts:=[(3,.tmp 23)]) Gy Vd Av<|AA<|Bz 6 Eo aS Av Av Av<|AA<|Dv (vs:=[Bo false,Iv 0,Iv 60,Iv 1]) (parts:=[(0,.tmp 25),(1,.const (.int .i64 1))]) GU Vc Av<|AA<|Bz 5 Eo aS Av Av Av<|AA<|Dv (vs:=[Bo false,Iv 0,Iv 61,Iv 1]) (parts:=[(0,.tmp 27),(1,.const (.int .i64 1))]) GU Vc Av<|AA<|Bf (cs:=[Bo false,Iv 0,Iv 60,Iv 1,Bo false,Iv 0,Iv 61,Iv 1]) (parts:=[(0,.tmp 26),(1,.tmp 28)]) HK GU aS (by decide) Av ?_
 intro aD dK dX c1 b3
 clear aS
 have dL:=Gs.of_cells (p:=FO) (e:=76) (bl:=aD) (c:=2) (w:=dK) (O:=ks [(some aD,Oc [Bo false,Iv 0,Iv 60,Iv 1,Bo false,Iv 0,Iv 61,Iv 1] 76),(some N,Oc [Iv 0] 3),(I,J),(some aB,Oc [Sl (some ⟨A,0,none⟩) [(⟨false,0,60⟩:AK),(⟨false,0,61⟩:AK)] 2,Sl (some ⟨F,0,none⟩) [[1,1]] 1,Sl Aa M Ca] 26),(some F,Obj.cells [Sl (some ⟨X,0,none⟩) [1,1] 2].toArray 31),(some A,Obj.cells [Bo false,Iv 0,Iv 60,Bo false,Iv 0,Iv 61].toArray 67),(some Z,Oc [Bo false,Iv 0,Iv 61] 67),(some b6,Oc [Bo false,Iv 0,Iv 60] 67),(some b1,Oc [Value.slice none 0 0,Value.slice none 0 0,Value.slice none 0 0] 26)] O) (show Ej FO _ _ [Bo false,Iv 0,Iv 60,Iv 1,Bo false,Iv 0,Iv 61,Iv 1] [(⟨(⟨false,0,60⟩:AK),1⟩:Bv),(⟨(⟨false,0,61⟩:AK),1⟩:Bv)] from⟨_,_,Av,Cz (AU (Cz (AU GQ (AU (AW EG) (AW (show BR .i64 60 from by decide))))) (AW MC)),⟨_,_,Av,Cz (AU (Cz (AU GQ (AU (AW EG) (AW (show BR .i64 61 from by decide))))) (AW MC)),Ej.nil⟩⟩) Av (BG Av)
 refine AA<|Dv (vs:=[Iv 10,Iv 0,Iv 0,Sl (some ⟨aD,0,none⟩) [(⟨(⟨false,0,60⟩:AK),1⟩:Bv),(⟨(⟨false,0,61⟩:AK),1⟩:Bv)] 2]) (parts:=[(0,.const (.int .i64 10)),(3,.tmp 29)]) Gy Vd Av ?_
 obtain⟨b4,c2,a2⟩:=Gs.publish (i:=0) b3 Av dL
 clear b3
 refine AA<|Bf (cs:=[Iv 0,Iv 0,Iv 0,Sl (some ⟨Q,0,none⟩) [(⟨(⟨false,0,61⟩:AK),1⟩:Bv)] 1,Iv 10,Iv 0,Iv 0,Sl (some ⟨aD,0,none⟩) [(⟨(⟨false,0,60⟩:AK),1⟩:Bv),(⟨(⟨false,0,61⟩:AK),1⟩:Bv)] 2]) (parts:=[(0,.tmp 24),(1,.tmp 30)]) G0 Gy b4 (by decide) Av ?_
 intro U c3 dY cP b5
 clear b4
 have a3:=Gs.of_cells (p:=(AM .i64)) (e:=3) (bl:=N) (c:=1) (w:=c3) (O:=ks [(some U,Oc [Iv 0,Iv 0,Iv 0,Sl (some ⟨Q,0,none⟩) [(⟨(⟨false,0,61⟩:AK),1⟩:Bv)] 1,Iv 10,Iv 0,Iv 0,Sl (some ⟨aD,0,none⟩) [(⟨(⟨false,0,60⟩:AK),1⟩:Bv),(⟨(⟨false,0,61⟩:AK),1⟩:Bv)] 2] 58),(some N,Oc [Iv 0] 3),(I,J),(some aB,Oc [Sl (some ⟨A,0,none⟩) [(⟨false,0,60⟩:AK),(⟨false,0,61⟩:AK)] 2,Sl (some ⟨F,0,none⟩) [[1,1]] 1,Sl Aa M Ca] 26),(some F,Obj.cells [Sl (some ⟨X,0,none⟩) [1,1] 2].toArray 31),(some A,Obj.cells [Bo false,Iv 0,Iv 60,Bo false,Iv 0,Iv 61].toArray 67),(some Z,Oc [Bo false,Iv 0,Iv 61] 67),(some b6,Oc [Bo false,Iv 0,Iv 60] 67),(some b1,Oc [Value.slice none 0 0,Value.slice none 0 0,Value.slice none 0 0] 26)] O) (show Ej (AM .i64) _ _ [Iv 0] [0] from⟨_,_,Av,AW EG,Ej.nil⟩) Av (BG Av)
 replace bS:=bS.step (aK.trans (c0.trans (c1.trans (c2.trans cP))));replace a2:=a2.step cP
 have Y:=Gs.of_cells (p:=BL) (e:=58) (bl:=U) (c:=2) (w:=c3) (O:=ks [(some U,Oc [Iv 0,Iv 0,Iv 0,Sl (some ⟨Q,0,none⟩) [(⟨(⟨false,0,61⟩:AK),1⟩:Bv)] 1,Iv 10,Iv 0,Iv 0,Sl (some ⟨aD,0,none⟩) [(⟨(⟨false,0,60⟩:AK),1⟩:Bv),(⟨(⟨false,0,61⟩:AK),1⟩:Bv)] 2] 58),(some N,Obj.cells [Iv 0].toArray 3),(I,J),(some aB,Oc [Sl (some ⟨A,0,none⟩) [(⟨false,0,60⟩:AK),(⟨false,0,61⟩:AK)] 2,Sl (some ⟨F,0,none⟩) [[1,1]] 1,Sl Aa M Ca] 26),(some F,Obj.cells [Sl (some ⟨X,0,none⟩) [1,1] 2].toArray 31),(some A,Obj.cells [Bo false,Iv 0,Iv 60,Bo false,Iv 0,Iv 61].toArray 67),(some Z,Oc [Bo false,Iv 0,Iv 61] 67),(some b6,Oc [Bo false,Iv 0,Iv 60] 67),(some b1,Oc [Value.slice none 0 0,Value.slice none 0 0,Value.slice none 0 0] 26)] O) (show Ej BL _ _ [Iv 0,Iv 0,Iv 0,Sl (some ⟨Q,0,none⟩) [(⟨(⟨false,0,61⟩:AK),1⟩:Bv)] 1,Iv 10,Iv 0,Iv 0,Sl (some ⟨aD,0,none⟩) [(⟨(⟨false,0,60⟩:AK),1⟩:Bv),(⟨(⟨false,0,61⟩:AK),1⟩:Bv)] 2] [(⟨0,0,0,[(⟨(⟨false,0,61⟩:AK),1⟩:Bv)]⟩:AR),(⟨10,0,0,[(⟨(⟨false,0,60⟩:AK),1⟩:Bv),(⟨(⟨false,0,61⟩:AK),1⟩:Bv)]⟩:AR)] from⟨_,_,Av,Cz (AU (AW EG) (AU (AW EG) (AU (AW EG) (B5 bS)))),⟨_,_,Av,Cz (AU (AW (show BR .i64 10 from by decide)) (AU (AW EG) (AU (AW EG) (B5 a2)))),Ej.nil⟩⟩) Av (BG Av)
 refine AA<|Dv (vs:=[Iv G,Iv 0,Sl (some ⟨N,0,none⟩) [0] 1,Sl (some ⟨U,0,none⟩) [(⟨0,0,0,[(⟨(⟨false,0,61⟩:AK),1⟩:Bv)]⟩:AR),(⟨10,0,0,[(⟨(⟨false,0,60⟩:AK),1⟩:Bv),(⟨(⟨false,0,61⟩:AK),1⟩:Bv)]⟩:AR)] 2]) (parts:=[(0,.tmp 21),(2,.tmp 22),(3,.tmp 31)]) Ex Wj Av<|AA<|Bx Ex b5 ?_
 intro aJ dZ _ aT a4
 clear b5
 refine Bk<|Cx .z Ex a4 Av Av Av Av Av ?_
 intro b7 aU aC
 clear a4
 refine Ay<|Ip U2 [] (CK ⟨cX,[]⟩ [(0,Pt b1 0),(1,Pt b6 0),(2,Pt Z 0),(3,Sl (some ⟨Q,0,none⟩) [(⟨(⟨false,0,61⟩:AK),1⟩:Bv)] 1),(4,Pt aB 0),(18,Iv 0)]) [(5,Iv G),(6,Pt aJ 0),(18,Iv G)] fun dM=>?_
 obtain⟨c4,cQ,W⟩:=Dp W
 refine D8 [33,34,35,36,37,38] (fun fr w'=>∃(aA:List AR) (Ab:Option Addr) (Cb:Nat) (aF:Option Nat) (aG:Obj) (aE:Bi),aE=[(some aJ,Oc [Iv G,Iv 0,Sl (some ⟨N,0,none⟩) [0] 1,Sl Ab aA Cb] 61),(aF,aG),(some N,Obj.cells [Iv 0].toArray 3),(I,J),(some aB,Oc [Sl (some ⟨A,0,none⟩) [(⟨false,0,60⟩:AK),(⟨false,0,61⟩:AK)] 2,Sl (some ⟨F,0,none⟩) [[1,1]] 1,Sl Aa M Ca] 26),(some F,Obj.cells [Sl (some ⟨X,0,none⟩) [1,1] 2].toArray 31),(some A,Obj.cells [Bo false,Iv 0,Iv 60,Bo false,Iv 0,Iv 61].toArray 67),(some Z,Oc [Bo false,Iv 0,Iv 61] 67),(some b6,Oc [Bo false,Iv 0,Iv 60] 67),(some b1,Oc [Value.slice none 0 0,Value.slice none 0 0,Value.slice none 0 0] 26)]∧fr [] []∧aC.S (ks aE O) w'∧St ⟨w,[],[]⟩ O w' aE∧Gs BL 58 w' (ks aE O) Ab Cb aA aF aG∧c4 aA=some x) ?_ ?_
 rintro dN d0 ⟨aA,Ab,Cb,aF,aG,_,rfl,aV,aW,aH,Fb,W⟩
 replace W:=Ed cQ W
 rw [aV.eq];clear aV
 clear a2 Y
 refine Aw<|AA<|AP 2 Bw Av CI Av Av<|AA<|AQ 4 CI aH Av Av Av<|AA<|Bz 0 Ex aH Av Av Av ?_
 have c5:=(aT.trans (aU.trans aW))
 replace a3:=a3.step c5
 obtain⟨a5,b8,a6⟩:=Gs.publish (i:=2) aH Av a3
 clear aH
 replace Fb:=Fb.step b8
 obtain⟨a7,b9,a8⟩:=Gs.publish (i:=1) a5 Av Fb
 clear a5
 refine AA<|Bf (cs:=[Iv G,Iv 0,Sl (some ⟨N,0,none⟩) [0] 1,Sl Ab aA Cb]) (parts:=[(0,.tmp 41)]) CI Ex a7 (by decide) Av ?_
 intro d1 d2 dO a9 aL
 clear a7
 obtain⟨bA,W⟩:=AG W
 replace a6:=a6.step (b9.trans a9);replace a8:=a8.step a9
 have cA:=(c0.trans (c1.trans (c2.trans (cP.trans (aT.trans (aU.trans (aW.trans (b8.trans (b9.trans a9)))))))))
 replace Fa:=Fa.step cA
 refine AA (DR (q:=AT) (i:=2) (xs:=M) (ys:=[(⟨G,0,[0],aA⟩:AL)]) (news:=[Iv G,Iv 0,Sl (some ⟨N,0,none⟩) [0] 1,Sl Ab aA Cb]) CI Ex Av (by decide) aL Av Av Fa Av (Mm.owned' (len:=4) (aL.get (i:=0) Av) Av) (show Ej AT _ _ [Iv G,Iv 0,Sl (some ⟨N,0,none⟩) [0] 1,Sl Ab aA Cb] [(⟨G,0,[0],aA⟩:AL)] from⟨_,_,Av,Cz (AU (AW Ra) (AU (AW EG) (AU (B5 a6) (B5 a8)))),Ej.nil⟩) bA (by have:=bA;simp only [maxLen];omega) ?_)
 intro bB bC c6 c7 d3 c8 aM bD
 clear aL
 have bE:=aM.drop 0
 have cB:=(aM.dropS 0)
 clear aM
 refine AA<|AP 2 Bw Av CI Av Av<|Bk<|II (Sl bB (M++[(⟨G,0,[0],aA⟩:AL)]) bC) (cs':=[Sl (some ⟨A,0,none⟩) [(⟨false,0,60⟩:AK),(⟨false,0,61⟩:AK)] 2,Sl (some ⟨F,0,none⟩) [[1,1]] 1,Sl bB (M++[(⟨G,0,[0],aA⟩:AL)]) bC]) HG.p2 CI bE Av Av Av (BG Av) Av Av ?_
 intro d4 cC aN
 clear bE
 refine Ay<|Aw<|AA<|Bm Av Av<|Be (Iv (wq (G+1))) Av<|Ay ?_
 have cR:=aN.drop 0
 have cD:=(aN.dropS 0)
 clear aN
 replace a1:=a1.trans (cA.trans (c8.trans (cB.trans (cC.trans cD))))
 replace bD:=bD.step (cB.trans (cC.trans cD))
 exact cY _ _ ⟨(wq (G+1)),M++[(⟨G,0,[0],aA⟩:AL)],bB,bC,c6,c7,_,Av,BB.of ⟨Av,trivial⟩,a1,cR,(AZ .i64 _),bD,GD cO W⟩
 intro d5 bF
 have aI:=aC.stepR
 refine Ax ?_
 clear a2
 refine Aw<|Be (Iv G) Av<|AA<|GV Av Av<|Ay<|AF W Av (fun cS W=>?_) (fun cS W=>?_)
 refine Aw<|AA<|AP 3 Ex Av G0 Av Av<|AA<|AQ 0 G0 aC Av Av Av ?_
 obtain⟨bG,W⟩:=AG W
 have c9:=(aT.trans aU)
 replace Y:=Y.step c9
 refine AA<|B7 G0 Gy Av Av Y bG ?_
 rintro _ ⟨⟩ -
 refine AA<|C2 Gy Av HK (by decide) Av (rfl:_=(⟨_,1*4+3,none⟩:Addr)) ?_
 have bH:∀vs,Rp.rd BL b7 (ks [(some aJ,Oc [Iv G,Iv 0,Sl (some ⟨N,0,none⟩) [0] 1,Sl (some ⟨U,0,none⟩) [(⟨0,0,0,[(⟨(⟨false,0,61⟩:AK),1⟩:Bv)]⟩:AR),(⟨10,0,0,[(⟨(⟨false,0,60⟩:AK),1⟩:Bv),(⟨(⟨false,0,61⟩:AK),1⟩:Bv)]⟩:AR)] 2] 61),(some U,Obj.cells [Iv 0,Iv 0,Iv 0,Sl (some ⟨Q,0,none⟩) [(⟨(⟨false,0,61⟩:AK),1⟩:Bv)] 1,Iv 10,Iv 0,Iv 0,Sl (some ⟨aD,0,none⟩) [(⟨(⟨false,0,60⟩:AK),1⟩:Bv),(⟨(⟨false,0,61⟩:AK),1⟩:Bv)] 2].toArray 58),(some N,Obj.cells [Iv 0].toArray 3),(I,J),(some aB,Oc [Sl (some ⟨A,0,none⟩) [(⟨false,0,60⟩:AK),(⟨false,0,61⟩:AK)] 2,Sl (some ⟨F,0,none⟩) [[1,1]] 1,Sl Aa M Ca] 26),(some F,Obj.cells [Sl (some ⟨X,0,none⟩) [1,1] 2].toArray 31),(some A,Obj.cells [Bo false,Iv 0,Iv 60,Bo false,Iv 0,Iv 61].toArray 67),(some Z,Oc [Bo false,Iv 0,Iv 61] 67),(some b6,Oc [Bo false,Iv 0,Iv 60] 67),(some b1,Oc [Value.slice none 0 0,Value.slice none 0 0,Value.slice none 0 0] 26)] O) vs ([(⟨0,0,0,[(⟨(⟨false,0,61⟩:AK),1⟩:Bv)]⟩:AR),(⟨10,0,0,[(⟨(⟨false,0,60⟩:AK),1⟩:Bv),(⟨(⟨false,0,61⟩:AK),1⟩:Bv)]⟩:AR)].getD 1 default)→Rp.rd BL b7 (ks [(some aJ,Oc [Iv G,Iv 0,Sl (some ⟨N,0,none⟩) [0] 1,Sl (some ⟨U,0,none⟩) [(⟨0,0,0,[(⟨(⟨false,0,61⟩:AK),1⟩:Bv)]⟩:AR),(⟨10,0,0,[(⟨(⟨false,0,60⟩:AK),1⟩:Bv),(⟨(⟨false,0,61⟩:AK),1⟩:Bv)]⟩:AR)] 2] 61),(some U,Obj.cells [Iv 0,Iv 0,Iv 0,Sl (some ⟨Q,0,none⟩) [(⟨(⟨false,0,61⟩:AK),1⟩:Bv)] 1,Iv 10,Iv 0,Iv 0,Sl (some ⟨aD,0,none⟩) [(⟨(⟨false,0,60⟩:AK),1⟩:Bv),(⟨(⟨false,0,61⟩:AK),1⟩:Bv)] 2].toArray 58),(some N,Obj.cells [Iv 0].toArray 3),(I,J),(some aB,Oc [Sl (some ⟨A,0,none⟩) [(⟨false,0,60⟩:AK),(⟨false,0,61⟩:AK)] 2,Sl (some ⟨F,0,none⟩) [[1,1]] 1,Sl Aa M Ca] 26),(some F,Obj.cells [Sl (some ⟨X,0,none⟩) [1,1] 2].toArray 31),(some A,Obj.cells [Bo false,Iv 0,Iv 60,Bo false,Iv 0,Iv 61].toArray 67),(some Z,Oc [Bo false,Iv 0,Iv 61] 67),(some b6,Oc [Bo false,Iv 0,Iv 60] 67),(some b1,Oc [Value.slice none 0 0,Value.slice none 0 0,Value.slice none 0 0] 26)] O) (vs.set 3 (Value.slice none 0 0)) (⟨([(⟨0,0,0,[(⟨(⟨false,0,61⟩:AK),1⟩:Bv)]⟩:AR),(⟨10,0,0,[(⟨(⟨false,0,60⟩:AK),1⟩:Bv),(⟨(⟨false,0,61⟩:AK),1⟩:Bv)]⟩:AR)].getD 1 default).delay,([(⟨0,0,0,[(⟨(⟨false,0,61⟩:AK),1⟩:Bv)]⟩:AR),(⟨10,0,0,[(⟨(⟨false,0,60⟩:AK),1⟩:Bv),(⟨(⟨false,0,61⟩:AK),1⟩:Bv)]⟩:AR)].getD 1 default).cost,([(⟨0,0,0,[(⟨(⟨false,0,61⟩:AK),1⟩:Bv)]⟩:AR),(⟨10,0,0,[(⟨(⟨false,0,60⟩:AK),1⟩:Bv),(⟨(⟨false,0,61⟩:AK),1⟩:Bv)]⟩:AR)].getD 1 default).changes,([]:List Bv)⟩:AR):=by
  intro dP dA
  obtain⟨_,_,rfl,⟨rfl,Rb⟩,⟨_,_,rfl,⟨rfl,Rc⟩,⟨_,_,rfl,⟨rfl,Rd⟩,⟨Ac,Cc,rfl,Fc⟩⟩⟩⟩:=dA
  exact(Cz (AU (AW Rb) (AU (AW Rc) (AU (AW Rd) (B5 CA.nil_)))))
 refine Bk<|Qp (m:=1) (nn:=4) (off:=3) (i:=1) HK Av aC Av Av Av Av Av Y bG (by decide) bH ?_
 intro dB cE dC bI bJ;clear bH
 refine Ay ?_
 have dD: [(⟨0,0,0,[(⟨(⟨false,0,61⟩:AK),1⟩:Bv)]⟩:AR),(⟨10,0,0,[(⟨(⟨false,0,60⟩:AK),1⟩:Bv),(⟨(⟨false,0,61⟩:AK),1⟩:Bv)]⟩:AR)].length=([(⟨0,0,0,[(⟨(⟨false,0,61⟩:AK),1⟩:Bv)]⟩:AR),(⟨10,0,0,[(⟨(⟨false,0,60⟩:AK),1⟩:Bv),(⟨(⟨false,0,61⟩:AK),1⟩:Bv)]⟩:AR)].set 1 (⟨([(⟨0,0,0,[(⟨(⟨false,0,61⟩:AK),1⟩:Bv)]⟩:AR),(⟨10,0,0,[(⟨(⟨false,0,60⟩:AK),1⟩:Bv),(⟨(⟨false,0,61⟩:AK),1⟩:Bv)]⟩:AR)].getD 1 default).delay,([(⟨0,0,0,[(⟨(⟨false,0,61⟩:AK),1⟩:Bv)]⟩:AR),(⟨10,0,0,[(⟨(⟨false,0,60⟩:AK),1⟩:Bv),(⟨(⟨false,0,61⟩:AK),1⟩:Bv)]⟩:AR)].getD 1 default).cost,([(⟨0,0,0,[(⟨(⟨false,0,61⟩:AK),1⟩:Bv)]⟩:AR),(⟨10,0,0,[(⟨(⟨false,0,60⟩:AK),1⟩:Bv),(⟨(⟨false,0,61⟩:AK),1⟩:Bv)]⟩:AR)].getD 1 default).changes,([]:List Bv)⟩:AR)).length:=(show [(⟨0,0,0,[(⟨(⟨false,0,61⟩:AK),1⟩:Bv)]⟩:AR),(⟨10,0,0,[(⟨(⟨false,0,60⟩:AK),1⟩:Bv),(⟨(⟨false,0,61⟩:AK),1⟩:Bv)]⟩:AR)].length=([(⟨0,0,0,[(⟨(⟨false,0,61⟩:AK),1⟩:Bv)]⟩:AR),(⟨10,0,0,[(⟨(⟨false,0,60⟩:AK),1⟩:Bv),(⟨(⟨false,0,61⟩:AK),1⟩:Bv)]⟩:AR)].set 1 (⟨([(⟨0,0,0,[(⟨(⟨false,0,61⟩:AK),1⟩:Bv)]⟩:AR),(⟨10,0,0,[(⟨(⟨false,0,60⟩:AK),1⟩:Bv),(⟨(⟨false,0,61⟩:AK),1⟩:Bv)]⟩:AR)].getD 1 default).delay,([(⟨0,0,0,[(⟨(⟨false,0,61⟩:AK),1⟩:Bv)]⟩:AR),(⟨10,0,0,[(⟨(⟨false,0,60⟩:AK),1⟩:Bv),(⟨(⟨false,0,61⟩:AK),1⟩:Bv)]⟩:AR)].getD 1 default).cost,([(⟨0,0,0,[(⟨(⟨false,0,61⟩:AK),1⟩:Bv)]⟩:AR),(⟨10,0,0,[(⟨(⟨false,0,60⟩:AK),1⟩:Bv),(⟨(⟨false,0,61⟩:AK),1⟩:Bv)]⟩:AR)].getD 1 default).changes,([]:List Bv)⟩:AR)).length from by first |(simp;done) |(simp;omega))
 have bK:St ⟨w,[],[]⟩ O dB [(some aJ,Oc [Iv G,Iv 0,Sl (some ⟨N,0,none⟩) [0] 1,Sl (some ⟨U,0,none⟩) ([(⟨0,0,0,[(⟨(⟨false,0,61⟩:AK),1⟩:Bv)]⟩:AR),(⟨10,0,0,[(⟨(⟨false,0,60⟩:AK),1⟩:Bv),(⟨(⟨false,0,61⟩:AK),1⟩:Bv)]⟩:AR)].set 1 (⟨([(⟨0,0,0,[(⟨(⟨false,0,61⟩:AK),1⟩:Bv)]⟩:AR),(⟨10,0,0,[(⟨(⟨false,0,60⟩:AK),1⟩:Bv),(⟨(⟨false,0,61⟩:AK),1⟩:Bv)]⟩:AR)].getD 1 default).delay,([(⟨0,0,0,[(⟨(⟨false,0,61⟩:AK),1⟩:Bv)]⟩:AR),(⟨10,0,0,[(⟨(⟨false,0,60⟩:AK),1⟩:Bv),(⟨(⟨false,0,61⟩:AK),1⟩:Bv)]⟩:AR)].getD 1 default).cost,([(⟨0,0,0,[(⟨(⟨false,0,61⟩:AK),1⟩:Bv)]⟩:AR),(⟨10,0,0,[(⟨(⟨false,0,60⟩:AK),1⟩:Bv),(⟨(⟨false,0,61⟩:AK),1⟩:Bv)]⟩:AR)].getD 1 default).changes,([]:List Bv)⟩:AR)) 2] 61),(some U,cE),(some N,Obj.cells [Iv 0].toArray 3),(I,J),(some aB,Oc [Sl (some ⟨A,0,none⟩) [(⟨false,0,60⟩:AK),(⟨false,0,61⟩:AK)] 2,Sl (some ⟨F,0,none⟩) [[1,1]] 1,Sl Aa M Ca] 26),(some F,Obj.cells [Sl (some ⟨X,0,none⟩) [1,1] 2].toArray 31),(some A,Obj.cells [Bo false,Iv 0,Iv 60,Bo false,Iv 0,Iv 61].toArray 67),(some Z,Oc [Bo false,Iv 0,Iv 61] 67),(some b6,Oc [Bo false,Iv 0,Iv 60] 67),(some b1,Oc [Value.slice none 0 0,Value.slice none 0 0,Value.slice none 0 0] 26)]:=by unfold Sl;rw [← dD];exact bI
 have cF:=St.stepR bK
 clear bI
 replace aI:=aI.trans (dC.trans cF);replace bJ:=bJ.step cF
 exact bF _ _ ⟨[(⟨0,0,0,[(⟨(⟨false,0,61⟩:AK),1⟩:Bv)]⟩:AR),(⟨10,0,0,[(⟨(⟨false,0,60⟩:AK),1⟩:Bv),(⟨(⟨false,0,61⟩:AK),1⟩:Bv)]⟩:AR)].set 1 (⟨([(⟨0,0,0,[(⟨(⟨false,0,61⟩:AK),1⟩:Bv)]⟩:AR),(⟨10,0,0,[(⟨(⟨false,0,60⟩:AK),1⟩:Bv),(⟨(⟨false,0,61⟩:AK),1⟩:Bv)]⟩:AR)].getD 1 default).delay,([(⟨0,0,0,[(⟨(⟨false,0,61⟩:AK),1⟩:Bv)]⟩:AR),(⟨10,0,0,[(⟨(⟨false,0,60⟩:AK),1⟩:Bv),(⟨(⟨false,0,61⟩:AK),1⟩:Bv)]⟩:AR)].getD 1 default).cost,([(⟨0,0,0,[(⟨(⟨false,0,61⟩:AK),1⟩:Bv)]⟩:AR),(⟨10,0,0,[(⟨(⟨false,0,60⟩:AK),1⟩:Bv),(⟨(⟨false,0,61⟩:AK),1⟩:Bv)]⟩:AR)].getD 1 default).changes,([]:List Bv)⟩:AR),some ⟨U,0,none⟩,2,some U,cE,_,Av,BB.of trivial,aI,bK,bJ,W⟩
 refine AH ?_
 have dE:=(aT.trans aU)
 replace Y:=Y.step dE
 exact bF _ _ ⟨[(⟨0,0,0,[(⟨(⟨false,0,61⟩:AK),1⟩:Bv)]⟩:AR),(⟨10,0,0,[(⟨(⟨false,0,60⟩:AK),1⟩:Bv),(⟨(⟨false,0,61⟩:AK),1⟩:Bv)]⟩:AR)],some ⟨U,0,none⟩,2,some U,Obj.cells [Iv 0,Iv 0,Iv 0,Sl (some ⟨Q,0,none⟩) [(⟨(⟨false,0,61⟩:AK),1⟩:Bv)] 1,Iv 10,Iv 0,Iv 0,Sl (some ⟨aD,0,none⟩) [(⟨(⟨false,0,60⟩:AK),1⟩:Bv),(⟨(⟨false,0,61⟩:AK),1⟩:Bv)] 2].toArray 58,_,Av,BB.of trivial,aI,aC,Y,W⟩
 refine Br<|Ax ?_
 obtain⟨aO,cG⟩:=aR.sub (bs':=[(I,J),(some aB,Oc [Sl (some ⟨A,0,none⟩) [(⟨false,0,60⟩:AK),(⟨false,0,61⟩:AK)] 2,Sl (some ⟨F,0,none⟩) [[1,1]] 1,Sl Aa M Ca] 26),(some F,Obj.cells [Sl (some ⟨X,0,none⟩) [1,1] 2].toArray 31),(some A,Obj.cells [Bo false,Iv 0,Iv 60,Bo false,Iv 0,Iv 61].toArray 67),(some b1,Oc [Value.slice none 0 0,Value.slice none 0 0,Value.slice none 0 0] 26)]) (.cons_cons _ (.cons_cons _ (.cons_cons _ (.cons_cons _ (.cons _ (.cons _ (.cons_cons _ List.Sublist.slnil)))))))
 clear bS
 clear aR
 refine Aw<|AA<|Bz 1 Bw aO Av Av Av<|Bk<|Cx HG.p4 Bw aO Av Av Av Av Av ?_
 intro d6 cH bL
 clear aO
 refine Ay<|AY ?_
 have cI:=(dH.trans (dI.trans (dJ.trans (aK.trans (cG.trans cH)))))
 replace cM:=cM.step cI
 obtain⟨bM,cJ,bN⟩:=Gs.publish (i:=3) bL Av cM
 clear bL
 replace cN:=cN.step (cI.trans cJ)
 obtain⟨bO,cK,bP⟩:=Gs.publish (i:=2) bM Av cN
 clear bM
 have dF:=(cG.trans (cH.trans (cJ.trans cK)))
 replace Fa:=Fa.step dF
 obtain⟨aP,cL,bQ⟩:=Gs.publish (i:=0) bO Av Fa
 clear bO
 have hz:=Gp aP
 refine⟨_,En,[Value.agg [Sl (some ⟨A,0,none⟩) [(⟨false,0,60⟩:AK),(⟨false,0,61⟩:AK)] 2,Sl (some ⟨F,0,none⟩) [[1,1]] 1,Sl Aa M Ca].toArray],⟨Lw (cs:=[Sl (some ⟨A,0,none⟩) [(⟨false,0,60⟩:AK),(⟨false,0,61⟩:AK)] 2,Sl (some ⟨F,0,none⟩) [[1,1]] 1,Sl Aa M Ca]) (vs:=[Sl (some ⟨A,0,none⟩) [(⟨false,0,60⟩:AK),(⟨false,0,61⟩:AK)] 2,Sl (some ⟨F,0,none⟩) [[1,1]] 1,Sl Aa M Ca]) Bw (i:=1) aP Av Av Av Av,trivial⟩,aP.ext,?_⟩
 replace bN:=bN.step (cK.trans (cL.trans hz))
 replace bP:=bP.step (cL.trans hz);replace bQ:=bQ.step hz
 exact Vr.eq (a:=vA Gi) (x:=(⟨[(⟨false,0,60⟩:AK),(⟨false,0,61⟩:AK)],[[1,1]],M⟩:A9)) (Jn (Cz (AU (B5 bN) (AU (B5 bP) (B5 bQ))))) (oi W)

end Go.Fx
