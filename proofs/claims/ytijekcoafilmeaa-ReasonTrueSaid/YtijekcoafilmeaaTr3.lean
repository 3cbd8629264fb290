/- Part 3 of the proof: for every problem there is a smallest reason exactly if every solution has an overload. -/
import Derived.Test.YtijekcoafilmeaaTr2
set_option linter.unusedVariables false
set_option linter.unusedSimpArgs false
set_option maxRecDepth 100000
set_option maxHeartbeats 0
namespace Go.Fx
open Go Go.RowKit Go.Proofs
abbrev Xq:List Nat:=[159,160,161,162,163,164,165,166,167,168,169]

abbrev Vq:List Nat:=[2,14,155,156,157,158,159,160,161,162,163,164,165,166,167,168,169,170]

abbrev Xr:List Nat:=[127,128,129,130,131,132,133,134,135,136,137,138,139,140,141,142,143,144,145,146,147,148,149,150,151]

abbrev Ss:List Nat:=[2,11,12,14,123,124,125,126,127,128,129,130,131,132,133,134,135,136,137,138,139,140,141,142,143,144,145,146,147,148,149,150,151,152,153,154,155,156,157,158,159,160,161,162,163,164,165,166,167,168,169,170,171]

abbrev Xs:List Nat:=[82,83,84,85,86,87,88,89,90,91,92,93,94,95,96,97,98,99,100,101,102,103,104,105,106,107,108,109,110,111,112,113,114,115,116,117,118,119]

abbrev MF:List Nat:=[2,9,11,12,14,78,79,80,81,82,83,84,85,86,87,88,89,90,91,92,93,94,95,96,97,98,99,100,101,102,103,104,105,106,107,108,109,110,111,112,113,114,115,116,117,118,119,120,121,122,123,124,125,126,127,128,129,130,131,132,133,134,135,136,137,138,139,140,141,142,143,144,145,146,147,148,149,150,151,152,153,154,155,156,157,158,159,160,161,162,163,164,165,166,167,168,169,170,171,172]

abbrev Xt:List Nat:=[64,65,66,67,68,69,70,71,72,73]

abbrev Vt:List Nat:=[2,7,60,61,62,63,64,65,66,67,68,69,70,71,72,73,74]

abbrev Xu:List Nat:=[46,47,48,49,50,51,52,53]

abbrev Vu:List Nat:=[2,5,42,43,44,45,46,47,48,49,50,51,52,53,54,55,56]

abbrev Xv:List Nat:=[15,16,17,18,19,20,21,22,23,24,25,26,27,28,29,30,31,32,33,34,35,36,37]

def EI (p:A8) (M:List (AK × Bool)) (I:Int) (G:Int) (N:Int→Option Int) (U:Int→Option Int) (A:Int):Option Int:=
 bif (decide (A<(((((p.variables.getD I.toNat default).choices).getD G.toNat default).uses).length:Int))) then
  ck ((0:Int)≤A∧A<(((((p.variables.getD I.toNat default).choices).getD G.toNat default).uses).length:Int))<|
  jn (fun(W:Bool)=>
   bif W then
    some 270
   else
    U (IntKind.wrap .i64 (A+1)))
  (fun J=>
   bif (!((Bu M ((((((p.variables.getD I.toNat default).choices).getD G.toNat default).uses).getD A.toNat default).cell)).getD false)) then
    J true
   else
    (CB ((((((p.variables.getD I.toNat default).choices).getD G.toNat default).uses).getD A.toNat default).places) 1 8).bind fun F=>
    J (!F))
 else
  N (IntKind.wrap .i64 (G+1))

def EJ (p:A8) (N:List (AK × Bool)) (A:Int) (U:Int→Option Int) (W:Int→Option Int) (F:Int):Option Int:=
 bif (decide (F<(((p.variables.getD A.toNat default).choices).length:Int))) then
  ck ((0:Int)≤F∧F<(((p.variables.getD A.toNat default).choices).length:Int))<|
  jn (fun(aA:Bool)=>
   bif aA then
    some 270
   else
    B0 (EI p N A F W) (((((((p.variables.getD A.toNat default).choices).getD F.toNat default).uses).length:Int) - 0).toNat+1) 0)
  (fun G=>
   (CB ((((p.variables.getD A.toNat default).choices).getD F.toNat default).delay) 0 1048576).bind fun I=>
   bif (!I) then
    G true
   else
    (CB ((((p.variables.getD A.toNat default).choices).getD F.toNat default).cost) 0 1048576).bind fun J=>
    bif (!J) then
     G true
    else
     (CB ((((p.variables.getD A.toNat default).choices).getD F.toNat default).changes) 0 1048576).bind fun M=>
     bif (!M) then
      G true
     else
      (HQ ((((p.variables.getD A.toNat default).choices).getD F.toNat default).uses) (fun Y Z=>Dr Y Z)).bind fun X=>
      G (!X))
 else
  U (IntKind.wrap .i64 (A+1))

def EK (p:A8) (J:List (AK × Bool)) (M:Int→Option Int) (A:Int):Option Int:=
 bif (decide (A<(p.variables.length:Int))) then
  ck ((0:Int)≤A∧A<(p.variables.length:Int))<|
  jn (fun(W:Bool)=>
   bif W then
    some 270
   else
    B0 (EJ p J A M) (((((p.variables.getD A.toNat default).choices).length:Int) - 0).toNat+1) 0)
  (fun G=>
   bif (decide ((((p.variables.getD A.toNat default).leaves).length:Int)=0)) then
    G true
   else
    (CB (((p.variables.getD A.toNat default).choices).length:Int) 1 96).bind fun I=>
    bif (!I) then
     G true
    else
     (F2 ((p.variables.getD A.toNat default).leaves) (fun N U=>CS N U)).bind fun F=>
     bif (!F) then
      G true
     else
      ck ((0:Int)≤0∧0<(((p.variables.getD A.toNat default).leaves).length:Int))<|
      bif (decide ((((p.variables.getD A.toNat default).leaves).getD 0 default)<0)) then
       G true
      else
       ck ((0:Int)≤(IntKind.wrap .i64 ((((p.variables.getD A.toNat default).leaves).length:Int) - 1))∧(IntKind.wrap .i64 ((((p.variables.getD A.toNat default).leaves).length:Int) - 1))<(((p.variables.getD A.toNat default).leaves).length:Int))<|
       G (decide ((p.capacity.length:Int)≤(((p.variables.getD A.toNat default).leaves).getD (IntKind.wrap .i64 ((((p.variables.getD A.toNat default).leaves).length:Int) - 1)).toNat default))))
 else
  some 0

def EL (p:A8) (G:List (AK × Bool)) (I:Int→Option Int) (F:Int):Option Int:=
 bif (decide (F<(p.capacity.length:Int))) then
  ck ((0:Int)≤F∧F<(p.capacity.length:Int))<|
  jn (fun(N:Bool)=>
   bif N then
    some 270
   else
    I (IntKind.wrap .i64 (F+1)))
  (fun J=>
   bif (decide (((p.capacity.getD F.toNat default).length:Int)≠(p.cells.length:Int))) then
    J true
   else
    (Dn (p.capacity.getD F.toNat default) (fun M=>CI M)).bind fun A=>
    J A)
 else
  B0 (EK p G) (((p.variables.length:Int) - 0).toNat+1) 0

def EM (p:A8) (G:Int→(List (AK × Bool))→Option Int) (A:Int) (F:List (AK × Bool)):Option Int:=
 bif (decide (A<(p.cells.length:Int))) then
  ck ((0:Int)≤A∧A<(p.cells.length:Int))<|
  jn (fun(J:Bool)=>
   bif J then
    some 270
   else
    G (IntKind.wrap .i64 (A+1)) (Dp F (p.cells.getD A.toNat default) true))
  (fun I=>
   bif (decide (((p.cells.getD A.toNat default).index)<0)) then
    I true
   else
    I (decide (((p.cells.getD A.toNat default).minute)<0)))
 else
  B0 (EL p F) (((p.capacity.length:Int) - 0).toNat+1) 0

def E4 (p:A8):Option Int:=
 jn (fun(M:Bool)=>
  bif M then
   some 270
  else
   BC (EM p) (((p.cells.length:Int) - 0).toNat+1) 0 ([]:List (AK × Bool)))
 (fun J=>
  bif (decide (4096<(p.cells.length:Int))) then
   J true
  else
   (CB (p.capacity.length:Int) 1 32).bind fun A=>
   bif (!A) then
    J true
   else
    bif (decide (64<(p.variables.length:Int))) then
     J true
    else
     (H5 p.cells (fun G I=>CH G I)).bind fun F=>
     J (!F))

theorem Hi {w:World} {O:List Nat} {p:A8} {Aa:Option Addr} {Ca:Nat} {Ab:Option Addr} {Cb:Nat} {Ac:Option Addr} {Cc:Nat} (hO:∀k∈O,k<w.heap.size) (Fa:CA Bx w O Aa Ca p.cells) (Fb:CA (BG (AL .i64)) w O Ab Cb p.capacity) (Fc:CA AS w O Ac Cc p.variables) {x:Int} (F:E4 p=some x):
 Ok Try.prog 12 [Value.agg (BS p Aa Ca Ab Cb Ac Cc).toArray] w O (vI .i64) x:=by
 unfold E4 at F
 refine Br (n:=173) (xs:=[.tmp 2]) Try.func12 Au Try.ntmps12 Try.results12 Au ?_
 have hs:=St.start hO
 refine Aw<|Av<|A9<|BT (cs:=(BS p Aa Ca Ab Cb Ac Cc)) hs Au Au ?_
 intro b1 w2 _ p3 bK
 refine Bn (Iv 0) Au<|Ax<|Aw<|Wr [] [(1,Pt b1 0)] fun p5=>?_
 obtain⟨k8,jT,F⟩:=Cy F
 refine CE Xv (fun fr w'=>∃(eR:Bool) (M:Be),M=[(some b1,Oc (BS p Aa Ca Ab Cb Ac Cc) 26)]∧fr [] [(37,Bo eR)]∧bK.S (ks M O) w'∧St ⟨w,[],[]⟩ O w' M∧k8 eR=some x) ?_ ?_
 rintro mA p7 ⟨eR,_,rfl,cC,eS,bV,F⟩
 replace F:=Dc jT F
 rw [cC.eq];clear cC
 refine AF F Au (fun hB F=>?_) (fun hB F=>?_)
 refine Aw ?_
 obtain⟨hC,p8⟩:=bV.sub (bs':=[]) (.cons _ List.Sublist.slnil)
 clear Fa Fb Fc
 clear bV
 refine Av<|Bn (Iv 270) Au<|Ax<|AV<|⟨_,DX,[Iv 270],⟨Au,trivial⟩,hC.ext,?_⟩
 exact Vr.eq (a:=(vI .i64)) (x:=270) ⟨Au,(show Cx .i64 270 from by decide)⟩ (oi F)
 refine AG<|Aw<|Av<|A9<|Hn bV ?_
 intro U p9 jU cD
 clear bV
 have jV:Mo HP HA (Obj.map #[] 0) ([]:List (AK × Bool)):=Mo.nil_
 refine Bn (Value.map (some U)) Au<|Ax<|Aw<|Aw<|Av<|A9<|AQ 0 B4 Au EX Au Au<|A9<|AP 1 EX cD Au Au Au<|A9<|AZ Try.underlying22 Au ?_
 have hD:=(p3.trans (eS.trans jU))
 replace Fa:=Fa.step hD
 have mB:=AX Fa
 refine Bb (Iv 0) Au<|Ax<|AC<|Wr [] [(1,Pt b1 0),(3,Value.map (some U)),(40,Sl Aa p.cells Ca),(41,Iv (p.cells.length:Int)),(42,Iv 0)] fun hE=>Bf Vu (fun m fr w'=>∃(aH:Int) (aC:List (AK × Bool)) (J:Obj) (M:Be),M=[(some U,J),(some b1,Oc (BS p Aa Ca Ab Cb Ac Cc) 26)]∧fr [] [(42,Iv aH)]∧cD.S (ks M O) w'∧St ⟨w,[],[]⟩ O w' M∧Cx .i64 aH∧Mo HP HA J aC∧BC (EM p) m aH aC=some x) (((p.cells.length:Int) - 0).toNat+1) ⟨0,([]:List (AK × Bool)),Obj.map #[] 0,_,Au,BB.of ⟨Au,trivial⟩,AA.refl _ _,cD,E1,jV,F⟩ ?_ ?_
 rintro _ _ ⟨_,_,_,_,_,_,_,_,_,_,F⟩;exact DI F
 rintro qA qB hF mC qC ⟨aH,aC,J,_,rfl,cE,aZ,bA,Ra,cF,F⟩
 obtain⟨mD,eT,F⟩:=DJ F;unfold EM at F
 rw [cE.eq];clear cE
 have cG:=aZ
 refine Aw<|Av<|A9<|By Au Au<|Ax<|Aw<|AF F Au (fun hG F=>?_) (fun hG F=>?_)
 refine AG<|Aw<|AC<|Aw<|Av ?_
 obtain⟨d9,F⟩:=AE F
 replace Fa:=Fa.step aZ
 refine A9<|AB (q:=Bx) EX Du Au Au Fa Au d9.1 d9.2 ?_
 intro qD dV
 refine A9<|BE Du Au dV Au ?_
 intro mE jW
 obtain⟨_,_,rfl,rfl,⟨_,_,rfl,⟨rfl,Rb⟩,⟨rfl,Rc⟩⟩⟩:=jW
 refine A9<|Bv Du bA ?_
 intro hH qE _ jX eA
 clear bA
 refine Bh<|C6 .z Du eA Au Au Au Au Au ?_
 intro qF jY aU
 clear eA
 refine Ax<|Aw<|Ic Vu [] (CO ⟨hE,[]⟩ [(1,Pt b1 0),(3,Value.map (some U)),(40,Sl Aa p.cells Ca),(41,Iv (p.cells.length:Int)),(42,Iv 0)]) [(5,Pt hH 0),(42,Iv aH)] fun mF=>?_
 obtain⟨jZ,hI,F⟩:=Cy F
 refine CE Xu (fun fr w'=>∃(eU:Bool) (M:Be),M=[(some hH,Oc [Bo ((gt p.cells aH).airport),Iv ((gt p.cells aH).index),Iv ((gt p.cells aH).minute)] 67),(some U,J),(some b1,Oc (BS p Aa Ca Ab Cb Ac Cc) 26)]∧fr [] [(53,Bo eU)]∧aU.S (ks M O) w'∧St ⟨w,[],[]⟩ O w' M∧jZ eU=some x) ?_ ?_
 rintro mG qG ⟨eU,_,rfl,cH,eV,bW,F⟩
 replace F:=Dc hI F
 rw [cH.eq];clear cH
 refine AF F Au (fun hJ F=>?_) (fun hJ F=>?_)
 refine Aw ?_
 clear dV
 refine Av<|Bn (Iv 270) Au<|Ax<|AV<|⟨_,DX,[Iv 270],⟨Au,trivial⟩,bW.ext,?_⟩
 exact Vr.eq (a:=(vI .i64)) (x:=270) ⟨Au,(show Cx .i64 270 from by decide)⟩ (oi F)
 refine AG ?_
 clear dV
 refine Av<|Bb (Value.map (some U)) Au<|A9<|B1 0 Du bW Au Au Au<|Bh<|GP (q:=HP) (m:=HA) (n:=gt p.cells aH) (v:=true) (i:=1) Try.underlying69 OV bW Au cF Au Au Au Au (And.intro Rb Rc) trivial ?_
 intro j0 qH j1 cI j2
 clear bW
 refine Ax<|Av<|A9<|Bg Au Au<|Bb (Iv (wq (aH+1))) Au<|Ax ?_
 have hK:=cI.drop 0
 have j3:=(cI.dropS 0)
 clear cI
 have j4:=(jX.trans (jY.trans (eV.trans (j1.trans j3))))
 replace cG:=cG.trans j4
 exact hF _ _ ⟨(wq (aH+1)),Dp aC (gt p.cells aH) true,j0,_,Au,BB.of ⟨Au,trivial⟩,cG,hK,(AT .i64 _),j2,GV eT F⟩
 intro qI eB
 have eC:=aU.stepR
 clear dV
 refine Av<|A9<|AQ 1 Du Au B6 Au Au<|A9<|AP 0 B6 aU Au Au Au<|A9<|By Au Au<|Bb (Bo (decide (((gt p.cells aH).index)<0))) Au<|Bz F (fun hL F=>?_) (fun hL F=>?_)
 iterate 3 refine AI Au (AJ Au Au) Au ?_
 exact FM (Bo true) Au Au<|Ax<|eB _ _ ⟨true,_,Au,BB.of ⟨Au,trivial⟩,eC,aU,F⟩
 exact BO Au Au<|AQ 2 Du Au B6 Au Au<|BO Au Au<|AP 0 B6 aU Au Au Au<|BO Au Au<|By Au Au<|F8 (Bo (decide (((gt p.cells aH).minute)<0))) Au Au<|Ax<|eB _ _ ⟨decide (((gt p.cells aH).minute)<0),_,Au,BB.of ⟨Au,trivial⟩,eC,aU,F⟩
 refine Bq<|Aw<|Aw<|Av<|A9<|AQ 1 B4 Au Db Au Au<|A9<|AP 1 Db bA Au Au Au<|A9<|AZ Try.underlying23 Au ?_
 have hM:=(hD.trans aZ)
 replace Fb:=Fb.step hM
 have mH:=AX Fb
 refine Bb (Iv 0) Au<|Ax<|AC<|Wr [] [(1,Pt b1 0),(3,Value.map (some U)),(58,Sl Ab p.capacity Cb),(59,Iv (p.capacity.length:Int)),(60,Iv 0)] fun hN=>Bf Vt (fun m fr w'=>∃(aK:Int) (M:Be),M=[(some U,J),(some b1,Oc (BS p Aa Ca Ab Cb Ac Cc) 26)]∧fr [] [(60,Iv aK)]∧bA.S (ks M O) w'∧St ⟨w,[],[]⟩ O w' M∧Cx .i64 aK∧B0 (EL p aC) m aK=some x) (((p.capacity.length:Int) - 0).toNat+1) ⟨0,_,Au,BB.of ⟨Au,trivial⟩,AA.refl _ _,bA,E1,F⟩ ?_ ?_
 rintro _ _ ⟨_,_,_,_,_,_,_,F⟩;exact CF F
 rintro qJ qK hP mI eW ⟨aK,_,rfl,cJ,a0,aJ,Rd,F⟩
 obtain⟨mJ,eX,F⟩:=CG F;unfold EL at F
 rw [cJ.eq];clear cJ
 have cK:=a0
 refine Aw<|Av<|A9<|By Au Au<|Ax<|Aw<|AF F Au (fun hQ F=>?_) (fun hQ F=>?_)
 refine AG<|Aw<|AC<|Aw<|Av ?_
 obtain⟨eD,F⟩:=AE F
 replace Fb:=Fb.step a0
 refine A9<|AB (q:=BG (AL .i64)) Db Bl Au Au Fb Au eD.1 eD.2 ?_
 intro qL dW
 refine A9<|AR Bl Au dW Au ?_
 intro qM j5
 obtain⟨Ad,Cd,rfl,Fd⟩:=B9 j5
 refine Bn (Sl Ad (gt p.capacity aK) Cd) Au<|Ax<|Ic Vt [] (CO ⟨hN,[]⟩ [(1,Pt b1 0),(3,Value.map (some U)),(58,Sl Ab p.capacity Cb),(59,Iv (p.capacity.length:Int)),(60,Iv 0)]) [(7,Sl Ad (gt p.capacity aK) Cd),(60,Iv aK)] fun mK=>?_
 obtain⟨j6,eY,F⟩:=Cy F
 refine CE Xt (fun fr w'=>∃(eZ:Bool) (M:Be),M=[(some U,J),(some b1,Oc (BS p Aa Ca Ab Cb Ac Cc) 26)]∧fr [] [(73,Bo eZ)]∧aJ.S (ks M O) w'∧St ⟨w,[],[]⟩ O w' M∧j6 eZ=some x) ?_ ?_
 rintro j7 mL ⟨eZ,_,rfl,bX,dX,cL,F⟩
 replace F:=Dc eY F
 rw [bX.eq];clear bX
 refine AF F Au (fun e0 F=>?_) (fun e0 F=>?_)
 refine Aw ?_
 clear dW Fd
 refine Av<|Bn (Iv 270) Au<|Ax<|AV<|⟨_,DX,[Iv 270],⟨Au,trivial⟩,cL.ext,?_⟩
 exact Vr.eq (a:=(vI .i64)) (x:=270) ⟨Au,(show Cx .i64 270 from by decide)⟩ (oi F)
 refine AG ?_
 clear dW Fd
 refine Av<|A9<|Bg Au Au<|Bb (Iv (wq (aK+1))) Au<|Ax ?_
 replace cK:=cK.trans dX
 exact hP _ _ ⟨(wq (aK+1)),_,Au,BB.of ⟨Au,trivial⟩,cK,cL,(AT .i64 _),Dc eX F⟩
 intro mM cM
 have a1:=aJ.stepR
 clear dW
 refine Av<|Bb (Sl Ad (gt p.capacity aK) Cd) Au<|A9<|AZ Try.underlying31 Au ?_
 have j8:=AX Fd
 refine A9<|AQ 0 B4 Au EX Au Au<|A9<|AP 1 EX aJ Au Au Au<|A9<|AZ Try.underlying22 Au ?_
 replace Fa:=Fa.step (aZ.trans a0)
 have j9:=AX Fa
 refine A9<|Eh Au Au<|Bb (Bo (decide (((gt p.capacity aK).length:Int)≠(p.cells.length:Int)))) Au<|Bz F (fun e1 F=>?_) (fun e1 F=>?_)
 exact AI Au (AJ Au Au) Au<|AI Au (AJ Au Au) Au<|FM (Bo true) Au Au<|Ax<|cM _ _ ⟨true,_,Au,BB.of ⟨Au,trivial⟩,a1,aJ,F⟩
 refine BO Au Au<|AD (v:=Sl Ad (gt p.capacity aK) Cd) Au ?_
 have F113:G6 Try.prog eW (ks [(some U,J),(some b1,Oc (BS p Aa Ca Ab Cb Ac Cc) 26)] O) (Value.func (.func 37) #[] #[]) (vI .i64) vB (fun cN=>CI cN):=by
  intro mN O115 kA e2 mO cN mP hR e3
  obtain⟨rfl,Re⟩:=hR
  exact⟨37,#[],#[],Au,Try.call37,H2 (n:=cN) e2 Re e3⟩
 have F124:G6 Try.prog eW (ks [(some U,J),(some b1,Oc (BS p Aa Ca Ab Cb Ac Cc) 26)] O) (Value.func (.func 37) #[] #[]) (vI .i64) vB (fun bB=>CI bB):=by
  intro mQ O126 kB e4 mR bB mS hS e5
  obtain⟨rfl,Rf⟩:=hS
  exact⟨37,#[],#[],Au,Try.call37,H2 (n:=bB) e4 Rf e5⟩
 obtain⟨aD,e6,F⟩:=bd F
 have F141:G6 Try.prog eW (ks [(some U,J),(some b1,Oc (BS p Aa Ca Ab Cb Ac Cc) 26)] O) (Value.func (.func 37) #[] #[]) (vI .i64) vB (fun cO=>CI cO):=by
  intro mT O143 kC e7 mU cO mV hT e8
  obtain⟨rfl,Rg⟩:=hT
  exact⟨37,#[],#[],Au,Try.call37,H2 (n:=cO) e7 Rg e8⟩
 refine BO Au Au<|Bi aJ Try.call36 (HZ (s:=gt p.capacity aK) (f:=(fun bB=>CI bB)) aJ.ltw Fd F124 e6) Au ?_
 rintro mW mX hU e9 hV
 obtain rfl:=hV
 refine F8 (Bo aD) Au Au<|Ax ?_
 replace a1:=a1.trans hU
 exact cM _ _ ⟨aD,_,Au,BB.of ⟨Au,trivial⟩,a1,e9,F⟩
 refine Bq<|Aw<|Aw<|Av<|A9<|AQ 2 B4 Au Cz Au Au<|A9<|AP 1 Cz aJ Au Au Au<|A9<|AZ Try.underlying24 Au ?_
 replace Fc:=Fc.step (hM.trans a0)
 have kD:=AX Fc
 refine Bb (Iv 0) Au<|Ax<|AC<|Wr [] [(1,Pt b1 0),(3,Value.map (some U)),(76,Sl Ac p.variables Cc),(77,Iv (p.variables.length:Int)),(78,Iv 0)] fun aM=>Bf MF (fun m fr w'=>∃(A:Int) (M:Be),M=[(some U,J),(some b1,Oc (BS p Aa Ca Ab Cb Ac Cc) 26)]∧fr [] [(78,Iv A)]∧aJ.S (ks M O) w'∧St ⟨w,[],[]⟩ O w' M∧Cx .i64 A∧B0 (EK p aC) m A=some x) (((p.variables.length:Int) - 0).toNat+1) ⟨0,_,Au,BB.of ⟨Au,trivial⟩,AA.refl _ _,aJ,E1,F⟩ ?_ ?_
 rintro _ _ ⟨_,_,_,_,_,_,_,F⟩;exact CF F
 rintro mY mZ fA kE m0 ⟨A,_,rfl,bY,bZ,a2,Rh,F⟩
 obtain⟨fB,dY,F⟩:=CG F;unfold EK at F
 rw [bY.eq];clear bY
 have bL:=bZ
 refine Aw<|Av<|A9<|By Au Au<|Ax<|Aw<|AF F Au (fun fC F=>?_) (fun fC F=>?_)
 refine AG<|Aw<|AC<|Aw<|Av ?_
 obtain⟨cP,F⟩:=AE F
 replace Fc:=Fc.step bZ
 refine A9<|AB (q:=AS) Cz Dq Au Au Fc Au cP.1 cP.2 ?_
 intro m1 b0
 refine A9<|BE Dq Au b0 Au ?_
 intro kF hW
 obtain⟨_,_,rfl,⟨rfl,Ri⟩,⟨_,_,rfl,⟨rfl,Rj⟩,⟨_,_,rfl,⟨Ae,Ce,rfl,Fe⟩,⟨Af,Cf,rfl,Ff⟩⟩⟩⟩:=hW
 refine A9<|Bv Dq a2 ?_
 intro X m2 _ eE cQ
 clear a2
 refine Bh<|C6 .z Dq cQ Au Au Au Au Au ?_
 intro m3 eF aF
 clear cQ
 refine Ax<|Aw<|Ic MF [] (CO ⟨aM,[]⟩ [(1,Pt b1 0),(3,Value.map (some U)),(76,Sl Ac p.variables Cc),(77,Iv (p.variables.length:Int)),(78,Iv 0)]) [(9,Pt X 0),(78,Iv A)] fun kG=>?_
 obtain⟨hX,fD,F⟩:=Cy F
 refine CE Xs (fun fr w'=>∃(fE:Bool) (M:Be),M=[(some X,Oc [Iv ((gt p.variables A).flight),Iv ((gt p.variables A).node),Sl Ae ((gt p.variables A).leaves) Ce,Sl Af ((gt p.variables A).choices) Cf] 61),(some U,J),(some b1,Oc (BS p Aa Ca Ab Cb Ac Cc) 26)]∧fr [] [(119,Bo fE)]∧aF.S (ks M O) w'∧St ⟨w,[],[]⟩ O w' M∧hX fE=some x) ?_ ?_
 rintro kH m4 ⟨fE,_,rfl,b2,dZ,a3,F⟩
 replace F:=Dc fD F
 rw [b2.eq];clear b2
 refine AF F Au (fun fF F=>?_) (fun fF F=>?_)
 refine Aw ?_
 clear b0
 refine Av<|Bn (Iv 270) Au<|Ax<|AV<|⟨_,DX,[Iv 270],⟨Au,trivial⟩,a3.ext,?_⟩
 exact Vr.eq (a:=(vI .i64)) (x:=270) ⟨Au,(show Cx .i64 270 from by decide)⟩ (oi F)
 refine AG<|Aw ?_
 clear b0
 refine Av<|A9<|AQ 3 Dq Au FJ Au Au<|A9<|AP 0 FJ a3 Au Au Au<|A9<|AZ Try.underlying59 Au ?_
 have eG:=(eE.trans (eF.trans dZ))
 replace Ff:=Ff.step eG
 have kJ:=AX Ff
 refine Bb (Iv 0) Au<|Ax<|AC<|Ic MF [] (CO ⟨aM,[]⟩ [(1,Pt b1 0),(3,Value.map (some U)),(76,Sl Ac p.variables Cc),(77,Iv (p.variables.length:Int)),(78,Iv 0)]) [(78,Iv A),(121,Sl Af ((gt p.variables A).choices) Cf),(122,Iv (((gt p.variables A).choices).length:Int)),(123,Iv 0)] fun bM=>Bf Ss (fun m fr w'=>∃(I:Int) (M:Be),M=[(some X,Oc [Iv ((gt p.variables A).flight),Iv ((gt p.variables A).node),Sl Ae ((gt p.variables A).leaves) Ce,Sl Af ((gt p.variables A).choices) Cf] 61),(some U,J),(some b1,Oc (BS p Aa Ca Ab Cb Ac Cc) 26)]∧fr [] [(123,Iv I)]∧a3.S (ks M O) w'∧St ⟨w,[],[]⟩ O w' M∧Cx .i64 I∧B0 (EJ p aC A fB) m I=some x) (((((gt p.variables A).choices).length:Int) - 0).toNat+1) ⟨0,_,Au,BB.of ⟨Au,trivial⟩,AA.refl _ _,a3,E1,F⟩ ?_ ?_
 rintro _ _ ⟨_,_,_,_,_,_,_,F⟩;exact CF F
 rintro m5 m6 fG kK m7 ⟨I,_,rfl,b3,a4,aN,Rk,F⟩
 obtain⟨fH,d0,F⟩:=CG F;unfold EJ at F
 rw [b3.eq];clear b3
 have bN:=a4
 refine Aw<|Av<|A9<|By Au Au<|Ax<|Aw<|AF F Au (fun fI F=>?_) (fun fI F=>?_)
 refine AG<|Aw<|AC<|Aw<|Av ?_
 obtain⟨cR,F⟩:=AE F
 replace Ff:=Ff.step a4
 refine A9<|AB (q:=Bt) FJ FT Au Au Ff Au cR.1 cR.2 ?_
 intro m8 eH
 refine A9<|BE FT Au eH Au ?_
 intro kL hY
 obtain⟨_,_,rfl,⟨rfl,Rl⟩,⟨_,_,rfl,⟨rfl,Rm⟩,⟨_,_,rfl,⟨rfl,Rn⟩,⟨Ag,Cg,rfl,Fg⟩⟩⟩⟩:=hY
 refine A9<|Bv FT aN ?_
 intro aO m9 _ eI fJ
 clear aN
 refine Bh<|C6 .z FT fJ Au Au Au Au Au ?_
 intro nA eJ aP
 refine Ax<|Aw ?_
 clear eH
 refine Av<|Bn (Iv 1048576) Au<|Ax<|Aw<|Ic Ss [] (CO (JE MF [] bM (CO ⟨aM,[]⟩ [(1,Pt b1 0),(3,Value.map (some U)),(76,Sl Ac p.variables Cc),(77,Iv (p.variables.length:Int)),(78,Iv 0)])) [(78,Iv A),(121,Sl Af ((gt p.variables A).choices) Cf),(122,Iv (((gt p.variables A).choices).length:Int)),(123,Iv 0)]) [(11,Pt aO 0),(12,Iv 1048576),(123,Iv I)] fun kM=>?_
 obtain⟨hZ,fK,F⟩:=Cy F
 refine CE Xr (fun fr w'=>∃(fL:Bool) (M:Be),M=[(some aO,Oc [Iv ((gt ((gt p.variables A).choices) I).delay),Iv ((gt ((gt p.variables A).choices) I).cost),Iv ((gt ((gt p.variables A).choices) I).changes),Sl Ag ((gt ((gt p.variables A).choices) I).uses) Cg] 58),(some X,Oc [Iv ((gt p.variables A).flight),Iv ((gt p.variables A).node),Sl Ae ((gt p.variables A).leaves) Ce,Sl Af ((gt p.variables A).choices) Cf] 61),(some U,J),(some b1,Oc (BS p Aa Ca Ab Cb Ac Cc) 26)]∧fr [] [(151,Bo fL)]∧aP.S (ks M O) w'∧St ⟨w,[],[]⟩ O w' M∧hZ fL=some x) ?_ ?_
 rintro kN nB ⟨fL,_,rfl,b4,d1,a5,F⟩
 replace F:=Dc fK F
 rw [b4.eq];clear b4
 refine AF F Au (fun fM F=>?_) (fun fM F=>?_)
 refine Aw<|Av<|Bn (Iv 270) Au<|Ax<|AV<|⟨_,DX,[Iv 270],⟨Au,trivial⟩,a5.ext,?_⟩
 exact Vr.eq (a:=(vI .i64)) (x:=270) ⟨Au,(show Cx .i64 270 from by decide)⟩ (oi F)
 refine AG<|Aw<|Av<|A9<|AQ 3 FT Au Ho Au Au<|A9<|AP 0 Ho a5 Au Au Au<|A9<|AZ Try.underlying56 Au ?_
 have eK:=(eI.trans (eJ.trans d1))
 replace Fg:=Fg.step eK
 have kO:=AX Fg
 refine Bb (Iv 0) Au<|Ax<|AC<|Ic Ss [] (CO (JE MF [] bM (CO ⟨aM,[]⟩ [(1,Pt b1 0),(3,Value.map (some U)),(76,Sl Ac p.variables Cc),(77,Iv (p.variables.length:Int)),(78,Iv 0)])) [(78,Iv A),(121,Sl Af ((gt p.variables A).choices) Cf),(122,Iv (((gt p.variables A).choices).length:Int)),(123,Iv 0)]) [(123,Iv I),(153,Sl Ag ((gt ((gt p.variables A).choices) I).uses) Cg),(154,Iv (((gt ((gt p.variables A).choices) I).uses).length:Int)),(155,Iv 0)] fun fN=>Bf Vq (fun m fr w'=>∃(Z:Int) (M:Be),M=[(some aO,Oc [Iv ((gt ((gt p.variables A).choices) I).delay),Iv ((gt ((gt p.variables A).choices) I).cost),Iv ((gt ((gt p.variables A).choices) I).changes),Sl Ag ((gt ((gt p.variables A).choices) I).uses) Cg] 58),(some X,Oc [Iv ((gt p.variables A).flight),Iv ((gt p.variables A).node),Sl Ae ((gt p.variables A).leaves) Ce,Sl Af ((gt p.variables A).choices) Cf] 61),(some U,J),(some b1,Oc (BS p Aa Ca Ab Cb Ac Cc) 26)]∧fr [] [(155,Iv Z)]∧a5.S (ks M O) w'∧St ⟨w,[],[]⟩ O w' M∧Cx .i64 Z∧B0 (EI p aC A I fH) m Z=some x) (((((gt ((gt p.variables A).choices) I).uses).length:Int) - 0).toNat+1) ⟨0,_,Au,BB.of ⟨Au,trivial⟩,AA.refl _ _,a5,E1,F⟩ ?_ ?_
 rintro _ _ ⟨_,_,_,_,_,_,_,F⟩;exact CF F
 rintro nC nD fO kP nE ⟨Z,_,rfl,b5,a6,bO,Ro,F⟩
 obtain⟨kQ,d2,F⟩:=CG F;unfold EI at F
 rw [b5.eq];clear b5
 have bP:=a6
 refine Aw<|Av<|A9<|By Au Au<|Ax<|Aw<|AF F Au (fun fP F=>?_) (fun fP F=>?_)
 refine AG<|Aw<|AC<|Aw<|Av ?_
 obtain⟨cS,F⟩:=AE F
 replace Fg:=Fg.step a6
 refine A9<|AB (q:=Ed) Ho Gc Au Au Fg Au cS.1 cS.2 ?_
 intro nF b6
 refine A9<|BE Gc Au b6 Au ?_
 intro kR h0
 obtain⟨_,_,rfl,⟨_,_,rfl,rfl,⟨_,_,rfl,⟨rfl,Rp⟩,⟨rfl,Rq⟩⟩⟩,⟨rfl,Rr⟩⟩:=h0
 refine A9<|Bv Gc bO ?_
 intro eL nG _ h1 cT
 refine Bh<|C6 .z Gc cT Au Au Au Au Au ?_
 intro nH h2 aG
 clear cT
 refine Ax<|Ic Vq [] (CO (JE Ss [] fN (CO (JE MF [] bM (CO ⟨aM,[]⟩ [(1,Pt b1 0),(3,Value.map (some U)),(76,Sl Ac p.variables Cc),(77,Iv (p.variables.length:Int)),(78,Iv 0)])) [(78,Iv A),(121,Sl Af ((gt p.variables A).choices) Cf),(122,Iv (((gt p.variables A).choices).length:Int)),(123,Iv 0)])) [(123,Iv I),(153,Sl Ag ((gt ((gt p.variables A).choices) I).uses) Cg),(154,Iv (((gt ((gt p.variables A).choices) I).uses).length:Int)),(155,Iv 0)]) [(14,Pt eL 0),(155,Iv Z)] fun kS=>?_
 obtain⟨h3,fQ,F⟩:=Cy F
 refine CE Xq (fun fr w'=>∃(cU:Bool) (M:Be),M=[(some eL,Oc [Bo (((gt ((gt ((gt p.variables A).choices) I).uses) Z).cell).airport),Iv (((gt ((gt ((gt p.variables A).choices) I).uses) Z).cell).index),Iv (((gt ((gt ((gt p.variables A).choices) I).uses) Z).cell).minute),Iv ((gt ((gt ((gt p.variables A).choices) I).uses) Z).places)] 76),(some aO,Oc [Iv ((gt ((gt p.variables A).choices) I).delay),Iv ((gt ((gt p.variables A).choices) I).cost),Iv ((gt ((gt p.variables A).choices) I).changes),Sl Ag ((gt ((gt p.variables A).choices) I).uses) Cg] 58),(some X,Oc [Iv ((gt p.variables A).flight),Iv ((gt p.variables A).node),Sl Ae ((gt p.variables A).leaves) Ce,Sl Af ((gt p.variables A).choices) Cf] 61),(some U,J),(some b1,Oc (BS p Aa Ca Ab Cb Ac Cc) 26)]∧fr [] [(169,Bo cU)]∧aG.S (ks M O) w'∧St ⟨w,[],[]⟩ O w' M∧h3 cU=some x) ?_ ?_
 rintro kT nI ⟨cU,_,rfl,b7,d3,a7,F⟩
 replace F:=Dc fQ F
 rw [b7.eq];clear b7
 refine AF F Au (fun fR F=>?_) (fun fR F=>?_)
 refine Aw ?_
 clear b6
 refine Av<|Bn (Iv 270) Au<|Ax<|AV<|⟨_,DX,[Iv 270],⟨Au,trivial⟩,a7.ext,?_⟩
 exact Vr.eq (a:=(vI .i64)) (x:=270) ⟨Au,(show Cx .i64 270 from by decide)⟩ (oi F)
 refine AG ?_
 clear b6
 refine Av<|A9<|Bg Au Au<|Bb (Iv (wq (Z+1))) Au<|Ax ?_
 have fS:=a7.drop 0
 have h4:=(a7.dropS 0)
 clear a7
 have h5:=(h1.trans (h2.trans (d3.trans h4)))
 replace bP:=bP.trans h5
 exact fO _ _ ⟨(wq (Z+1)),_,Au,BB.of ⟨Au,trivial⟩,bP,fS,(AT .i64 _),Dc d2 F⟩
 intro nJ cV
 have a8:=aG.stepR
 clear b6
 refine Av<|Bb (Value.map (some U)) Au<|A9<|AQ 0 Gc Au Du Au Au<|A9<|G4 (vs:=[Bo (((gt ((gt ((gt p.variables A).choices) I).uses) Z).cell).airport),Iv (((gt ((gt ((gt p.variables A).choices) I).uses) Z).cell).index),Iv (((gt ((gt ((gt p.variables A).choices) I).uses) Z).cell).minute)]) (i:=0) Du aG Au Au Au Au<|A9<|He (q:=HP) (m:=HA) (n:=(gt ((gt ((gt p.variables A).choices) I).uses) Z).cell) (z:=false) Try.underlying69 OV Try.zeroValue4 (aG.get (i:=3) Au) cF (And.intro Rp Rq) Au Au<|A9<|Do Au<|Bb (Bo (!((Bu aC ((gt ((gt ((gt p.variables A).choices) I).uses) Z).cell)).getD false))) Au<|Bz F (fun fT F=>?_) (fun fT F=>?_)
 iterate 4 refine AI Au (AJ Au Au) Au ?_
 exact FM (Bo true) Au Au<|Ax<|cV _ _ ⟨true,_,Au,BB.of ⟨Au,trivial⟩,a8,aG,F⟩
 refine BO Au Au<|AQ 3 Gc Au B6 Au Au<|BO Au Au<|AP 0 B6 aG Au Au Au ?_
 obtain⟨aV,fU,F⟩:=bd F
 refine BO Au Au<|Bi aG Try.call33 (Ej (n:=(gt ((gt ((gt p.variables A).choices) I).uses) Z).places) (lo:=1) (hi:=8) aG.ltw Rr Ol (show Cx .i64 8 from by decide) fU) Au ?_
 rintro nK nL h6 fV h7
 obtain rfl:=h7
 refine BO Au Au<|Do Au<|F8 (Bo (!aV)) Au Au<|Ax ?_
 replace a8:=a8.trans h6
 exact cV _ _ ⟨!aV,_,Au,BB.of ⟨Au,trivial⟩,a8,fV,F⟩
 refine Bq<|Av<|A9<|Bg Au Au<|Bb (Iv (wq (I+1))) Au<|Ax ?_
 have fW:=bO.drop 0
 have h8:=(bO.dropS 0)
 have h9:=(eK.trans (a6.trans h8))
 replace bN:=bN.trans h9
 exact fG _ _ ⟨(wq (I+1)),_,Au,BB.of ⟨Au,trivial⟩,bN,fW,(AT .i64 _),Dc d0 F⟩
 intro nM a9
 have aA:=aP.stepR
 refine Av<|A9<|AQ 0 FT Au B6 Au Au<|A9<|AP 0 B6 aP Au Au Au<|Bb (Iv 1048576) Au ?_
 obtain⟨cB,fX,F⟩:=bd F
 refine A9<|Bi aP Try.call33 (Ej (n:=(gt ((gt p.variables A).choices) I).delay) (lo:=0) (hi:=1048576) aP.ltw Rl E1 (show Cx .i64 1048576 from by decide) fX) Au ?_
 rintro nN nO bC aQ iA
 obtain rfl:=iA
 refine A9<|Do Au<|Bb (Bo (!cB)) Au<|Bz F (fun fY F=>?_) (fun fY F=>?_)
 iterate 5 refine AI Au (AJ Au Au) Au ?_
 refine FM (Bo true) Au Au<|Bb (Bo true) Au ?_
 iterate 5 refine AI Au (AJ Au Au) Au ?_
 refine FM (Bo true) Au Au<|Bb (Bo true) Au ?_
 iterate 4 refine AI Au (AJ Au Au) Au ?_
 refine FM (Bo true) Au Au<|Ax ?_
 replace aA:=aA.trans bC
 exact a9 _ _ ⟨true,_,Au,BB.of ⟨Au,trivial⟩,aA,aQ,F⟩
 refine BO Au Au<|AQ 1 FT Au B6 Au Au<|BO Au Au<|AP 0 B6 aQ Au Au Au<|BO Au Au<|AD (v:=Iv 1048576) Au ?_
 obtain⟨aW,fZ,F⟩:=bd F
 refine BO Au Au<|Bi aQ Try.call33 (Ej (n:=(gt ((gt p.variables A).choices) I).cost) (lo:=0) (hi:=1048576) aQ.ltw Rm E1 (show Cx .i64 1048576 from by decide) fZ) Au ?_
 rintro nP nQ b8 aR iB
 clear aQ
 obtain rfl:=iB
 refine BO Au Au<|Do Au<|F8 (Bo (!aW)) Au Au<|Bb (Bo (!aW)) Au<|Bz F (fun f0 F=>?_) (fun f0 F=>?_)
 iterate 5 refine AI Au (AJ Au Au) Au ?_
 refine FM (Bo true) Au Au<|Bb (Bo true) Au ?_
 iterate 4 refine AI Au (AJ Au Au) Au ?_
 refine FM (Bo true) Au Au<|Ax ?_
 replace aA:=aA.trans (bC.trans b8)
 exact a9 _ _ ⟨true,_,Au,BB.of ⟨Au,trivial⟩,aA,aR,F⟩
 refine BO Au Au<|AQ 2 FT Au B6 Au Au<|BO Au Au<|AP 0 B6 aR Au Au Au<|BO Au Au<|AD (v:=Iv 1048576) Au ?_
 obtain⟨aX,f1,F⟩:=bd F
 refine BO Au Au<|Bi aR Try.call33 (Ej (n:=(gt ((gt p.variables A).choices) I).changes) (lo:=0) (hi:=1048576) aR.ltw Rn E1 (show Cx .i64 1048576 from by decide) f1) Au ?_
 rintro nR cW cX aS iC
 clear aR
 obtain rfl:=iC
 refine BO Au Au<|Do Au<|F8 (Bo (!aX)) Au Au<|Bb (Bo (!aX)) Au<|Bz F (fun f2 F=>?_) (fun f2 F=>?_)
 iterate 4 refine AI Au (AJ Au Au) Au ?_
 refine FM (Bo true) Au Au<|Ax ?_
 replace aA:=aA.trans (bC.trans (b8.trans cX))
 exact a9 _ _ ⟨true,_,Au,BB.of ⟨Au,trivial⟩,aA,aS,F⟩
 refine BO Au Au<|AQ 3 FT Au Ho Au Au<|BO Au Au<|AP 0 Ho aS Au Au Au ?_
 have F318:EC Try.prog cW (ks [(some aO,Oc [Iv ((gt ((gt p.variables A).choices) I).delay),Iv ((gt ((gt p.variables A).choices) I).cost),Iv ((gt ((gt p.variables A).choices) I).changes),Sl Ag ((gt ((gt p.variables A).choices) I).uses) Cg] 58),(some X,Oc [Iv ((gt p.variables A).flight),Iv ((gt p.variables A).node),Sl Ae ((gt p.variables A).leaves) Ce,Sl Af ((gt p.variables A).choices) Cf] 61),(some U,J),(some b1,Oc (BS p Aa Ca Ab Cb Ac Cc) 26)] O) (Value.func (.func 41) #[] #[]) (vA Ed) (vA Ed) (vI .i64) (fun cY cZ=>Dr cY cZ):=by
  intro nS O320 kU f3 nT nU cY cZ nV iD iE f4
  obtain⟨_,rfl,⟨_,_,rfl,⟨_,_,rfl,rfl,⟨_,_,rfl,⟨rfl,Rs⟩,⟨rfl,Rt⟩⟩⟩,⟨rfl,Ru⟩⟩⟩:=iD
  obtain⟨_,rfl,⟨_,_,rfl,⟨_,_,rfl,rfl,⟨_,_,rfl,⟨rfl,Rv⟩,⟨rfl,Rw⟩⟩⟩,⟨rfl,Rx⟩⟩⟩:=iE
  exact⟨41,#[],#[],Au,Try.call41,H3 (a:=cY) (b:=cZ) f3 Rs Rt Ru Rv Rw Rx f4⟩
 have F333:EC Try.prog cW (ks [(some aO,Oc [Iv ((gt ((gt p.variables A).choices) I).delay),Iv ((gt ((gt p.variables A).choices) I).cost),Iv ((gt ((gt p.variables A).choices) I).changes),Sl Ag ((gt ((gt p.variables A).choices) I).uses) Cg] 58),(some X,Oc [Iv ((gt p.variables A).flight),Iv ((gt p.variables A).node),Sl Ae ((gt p.variables A).leaves) Ce,Sl Af ((gt p.variables A).choices) Cf] 61),(some U,J),(some b1,Oc (BS p Aa Ca Ab Cb Ac Cc) 26)] O) (Value.func (.func 41) #[] #[]) (vA Ed) (vA Ed) (vI .i64) (fun bD bE=>Dr bD bE):=by
  intro nW O335 kV f5 nX nY bD bE nZ iF iG f6
  obtain⟨_,rfl,⟨_,_,rfl,⟨_,_,rfl,rfl,⟨_,_,rfl,⟨rfl,Ry⟩,⟨rfl,Rz⟩⟩⟩,⟨rfl,kW⟩⟩⟩:=iF
  obtain⟨_,rfl,⟨_,_,rfl,⟨_,_,rfl,rfl,⟨_,_,rfl,⟨rfl,kX⟩,⟨rfl,kY⟩⟩⟩,⟨rfl,kZ⟩⟩⟩:=iG
  exact⟨41,#[],#[],Au,Try.call41,H3 (a:=bD) (b:=bE) f5 Ry Rz kW kX kY kZ f6⟩
 obtain⟨c0,f7,F⟩:=bd F
 have F354:EC Try.prog cW (ks [(some aO,Oc [Iv ((gt ((gt p.variables A).choices) I).delay),Iv ((gt ((gt p.variables A).choices) I).cost),Iv ((gt ((gt p.variables A).choices) I).changes),Sl Ag ((gt ((gt p.variables A).choices) I).uses) Cg] 58),(some X,Oc [Iv ((gt p.variables A).flight),Iv ((gt p.variables A).node),Sl Ae ((gt p.variables A).leaves) Ce,Sl Af ((gt p.variables A).choices) Cf] 61),(some U,J),(some b1,Oc (BS p Aa Ca Ab Cb Ac Cc) 26)] O) (Value.func (.func 41) #[] #[]) (vA Ed) (vA Ed) (vI .i64) (fun c1 c2=>Dr c1 c2):=by
  intro n0 O356 k0 f8 n1 n2 c1 c2 n3 iH iI f9
  obtain⟨_,rfl,⟨_,_,rfl,⟨_,_,rfl,rfl,⟨_,_,rfl,⟨rfl,k1⟩,⟨rfl,k2⟩⟩⟩,⟨rfl,k3⟩⟩⟩:=iH
  obtain⟨_,rfl,⟨_,_,rfl,⟨_,_,rfl,rfl,⟨_,_,rfl,⟨rfl,k4⟩,⟨rfl,k5⟩⟩⟩,⟨rfl,k6⟩⟩⟩:=iI
  exact⟨41,#[],#[],Au,Try.call41,H3 (a:=c1) (b:=c2) f8 k1 k2 k3 k4 k5 k6 f9⟩
 have iJ:=(eI.trans (eJ.trans (bC.trans (b8.trans cX))))
 replace Fg:=Fg.step iJ
 refine BO Au Au<|Bi aS Try.call40 (PE (l:=(gt ((gt p.variables A).choices) I).uses) (less:=(fun bD bE=>Dr bD bE)) aS.ltw Fg F333 f7) Au ?_
 rintro n4 n5 iK gA iL
 clear aS
 obtain rfl:=iL
 refine BO Au Au<|Do Au<|F8 (Bo (!c0)) Au Au<|Ax ?_
 replace aA:=aA.trans (bC.trans (b8.trans (cX.trans iK)))
 exact a9 _ _ ⟨!c0,_,Au,BB.of ⟨Au,trivial⟩,aA,gA,F⟩
 refine Bq<|Av<|A9<|Bg Au Au<|Bb (Iv (wq (A+1))) Au<|Ax ?_
 have gB:=aN.drop 0
 have iM:=(aN.dropS 0)
 clear aN
 have iN:=(eG.trans (a4.trans iM))
 replace bL:=bL.trans iN
 exact fA _ _ ⟨(wq (A+1)),_,Au,BB.of ⟨Au,trivial⟩,bL,gB,(AT .i64 _),Dc dY F⟩
 intro n6 aT
 have W:=aF.stepR
 clear b0
 refine B7 (g0:=[]) (m:=36) (fl:=[]) (CQ aF) Au (.inl Au) Au (by decide+kernel) ?_  -- 20
 refine Bc (Pt X 2) (fun _ _ _ hi G=>AQ 2 Dq Au Bl (G 9 Au) Au<|Gz hi)<|Bc (Sl Ae ((gt p.variables A).leaves) Ce) (fun _ _ _ hi G=>AP 0 Bl (AA.nx hi).1 (G 82 Au) Au Au<|Gz hi)<|Bc (Iv (((gt p.variables A).leaves).length:Int)) (fun _ _ _ hi G=>AZ Try.underlying31 (G 83 Au)<|Gz hi)<|Bc (Bo (decide ((((gt p.variables A).leaves).length:Int)=0))) (fun _ _ _ hi G=>HI (G 84 Au) Au<|Gz hi)<|GI (decide ((((gt p.variables A).leaves).length:Int)=0)) (fun _ _ _ _ hi G=>Ay<|AD (v:=Bo (decide ((((gt p.variables A).leaves).length:Int)=0))) (G 85 Au)<|Gz hi) (fun bQ=>?_) (fun bQ=>?_)
 replace F:=Hy F bQ
 iterate 5 refine FX Au Au (fun _ _ _ h=>h) Au ?_
 refine Bc (Bo true) (fun _ _ _ hi G=>DR (v:=Bo true) (G 86 Au) Au<|Gz hi)<|Bc (Bo true) (fun _ _ _ hi G=>AD (v:=Bo true) (G 92 Au)<|Gz hi) ?_
 iterate 4 refine FX Au Au (fun _ _ _ h=>h) Au ?_
 refine Bc (Bo true) (fun _ _ _ hi G=>DR (v:=Bo true) (G 93 Au) Au<|Gz hi)<|Bc (Bo true) (fun _ _ _ hi G=>AD (v:=Bo true) (G 98 Au)<|Gz hi) ?_
 iterate 5 refine FX Au Au (fun _ _ _ h=>h) Au ?_
 refine Bc (Bo true) (fun _ _ _ hi G=>DR (v:=Bo true) (G 99 Au) Au<|Gz hi)<|Bc (Bo true) (fun _ _ _ hi G=>AD (v:=Bo true) (G 105 Au)<|Gz hi) ?_
 iterate 11 refine FX Au Au (fun _ _ _ h=>h) Au ?_
 refine BD fun n7 n8 gC gD=>?_
 obtain⟨-,d4,-⟩:=gC
 obtain⟨c3,iO⟩:=AA.nx gD
 rintro _ rfl _ rfl _ rfl _ rfl _ rfl _ rfl _ rfl _ rfl _ rfl _ rfl _ rfl _ rfl _ rfl _ rfl _ rfl _ rfl _ rfl _ rfl _ rfl _ rfl _ rfl _ rfl _ rfl _ rfl _ rfl _ rfl _ rfl _ rfl _ rfl _ rfl _ rfl _ rfl _ rfl _ rfl _ rfl _ rfl
 have iP:=aF.to c3 (d4.trans iO)
 refine AI Au (AJ Au Au) Au<|FM (Bo true) Au Au<|Ax ?_
 replace W:=W.trans iP
 exact aT _ _ ⟨true,_,Au,BB.of ⟨Au,trivial⟩,W,c3,F⟩
 replace F:=Hz F bQ
 refine Dt (Pt X 3) Au Au (fun _ _ _ h=>h) (fun _ _ _ hi G=>AQ 3 Dq Au FJ (G 9 Au) Au<|Gz hi)<|Dt (Sl Af ((gt p.variables A).choices) Cf) Au Au (fun _ _ _ h=>h) (fun _ _ _ hi G=>AP 0 FJ (AA.nx hi).1 (G 87 Au) Au Au<|Gz hi)<|Dt (Iv (((gt p.variables A).choices).length:Int)) Au Au (fun _ _ _ h=>h) (fun _ _ _ hi G=>AZ Try.underlying59 (G 88 Au)<|Gz hi) ?_
 obtain⟨Y,gE,F⟩:=bd F
 have eM:=(eE.trans eF)
 replace Ff:=Ff.step eM
 refine Bd (VD _ _ vB Y) (VD.stab _ _) (fun k7 n9 g aL hi G=>?_) ?_
 obtain⟨-,bR,-⟩:=aL
 replace Ff:=Ff.step bR
 refine BL Au (G 86 Au) (Gi Try.call33 (Ej (O:=ks (DS g++[(some X,Oc [Iv ((gt p.variables A).flight),Iv ((gt p.variables A).node),Sl Ae ((gt p.variables A).leaves) Ce,Sl Af ((gt p.variables A).choices) Cf] 61),(some U,J),(some b1,Oc (BS p Aa Ca Ab Cb Ac Cc) 26)]) O) (n:=(((gt p.variables A).choices).length:Int)) (lo:=1) (hi:=96) hi.ltw (AX Ff) Ol (show Cx .i64 96 from by decide) gE) (by simp only [List.map,Array.toList,(show ev _ (.tmp 89)=_ from(G 89 Au)),(show ev _ (.const (.int .i64 1))=.int .i64 1 from Au),(show ev _ (.const (.int .i64 96))=.int .i64 96 from Au)]<;> rfl) ?_)
 rintro oA oB ⟨gF,iQ⟩
 exact Bs.call hi gF iQ
 refine BN (Bo (!Y)) (fun k9 oC g aL hi G=>?_) ?_
 have iR:Vr.vd vB _ _ _ _:=G 90 Au
 have iS:_=(Bo Y):=iR
 exact BL Au (G 86 Au)<|Do iS<|Gz hi
 refine Bc (Bo (!Y)) (fun _ _ _ hi G=>FE (v:=Bo (!Y)) (G 86 Au) (G 91 Au)<|Gz hi)<|GI (!Y) (fun _ _ _ _ hi G=>Ay<|AD (v:=Bo (!Y)) (G 92 Au)<|Gz hi) (fun bS=>?_) (fun bS=>?_)
 replace F:=Hy F bS
 iterate 4 refine FX Au Au (fun _ _ _ h=>h) Au ?_
 refine Bc (Bo true) (fun _ _ _ hi G=>DR (v:=Bo true) (G 93 Au) Au<|Gz hi)<|Bc (Bo true) (fun _ _ _ hi G=>AD (v:=Bo true) (G 98 Au)<|Gz hi) ?_
 iterate 5 refine FX Au Au (fun _ _ _ h=>h) Au ?_
 refine Bc (Bo true) (fun _ _ _ hi G=>DR (v:=Bo true) (G 99 Au) Au<|Gz hi)<|Bc (Bo true) (fun _ _ _ hi G=>AD (v:=Bo true) (G 105 Au)<|Gz hi) ?_
 iterate 11 refine FX Au Au (fun _ _ _ h=>h) Au ?_
 refine BD fun oD oE gG gH=>?_
 obtain⟨-,d5,-⟩:=gG
 obtain⟨c4,iT⟩:=AA.nx gH
 rintro _ rfl _ rfl _ rfl _ rfl _ rfl _ rfl _ rfl _ rfl _ rfl _ rfl _ rfl _ rfl _ rfl _ rfl _ rfl _ rfl _ rfl _ rfl _ rfl _ rfl _ rfl _ rfl _ rfl _ rfl _ rfl _ rfl _ rfl oF c5
 replace c5:Vr.vd vB _ _ _ _:=c5
 obtain rfl:=c5
 rintro _ rfl _ rfl _ rfl _ rfl _ rfl _ rfl _ rfl _ rfl
 have iU:=aF.to c4 (d5.trans iT)
 refine AI Au (AJ Au Au) Au<|FM (Bo true) Au Au<|Ax ?_
 replace W:=W.trans iU
 exact aT _ _ ⟨true,_,Au,BB.of ⟨Au,trivial⟩,W,c4,F⟩
 replace F:=Hz F bS
 refine Dt (Pt X 2) Au Au (fun _ _ _ h=>h) (fun _ _ _ hi G=>AQ 2 Dq Au Bl (G 9 Au) Au<|Gz hi)<|Dt (Sl Ae ((gt p.variables A).leaves) Ce) Au Au (fun _ _ _ h=>h) (fun _ _ _ hi G=>AP 0 Bl (AA.nx hi).1 (G 94 Au) Au Au<|Gz hi) ?_
 obtain⟨N,gI,F⟩:=bd F
 replace Fe:=Fe.step eM
 refine Bd (VD _ _ vB N) (VD.stab _ _) (fun lA c6 g aL hi G=>?_) ?_
 obtain⟨-,bR,-⟩:=aL
 replace Fe:=Fe.step bR
 have F490:EC Try.prog c6 (ks (DS g++[(some X,Oc [Iv ((gt p.variables A).flight),Iv ((gt p.variables A).node),Sl Ae ((gt p.variables A).leaves) Ce,Sl Af ((gt p.variables A).choices) Cf] 61),(some U,J),(some b1,Oc (BS p Aa Ca Ab Cb Ac Cc) 26)]) O) (Value.func (.func 39) #[] #[]) (vI .i64) (vI .i64) (vI .i64) (fun c7 c8=>CS c7 c8):=by
  intro oG O492 lB gJ oH oI c7 c8 oJ iV iW gK
  obtain⟨rfl,lC⟩:=iV
  obtain⟨rfl,lD⟩:=iW
  exact⟨39,#[],#[],Au,Try.call39,Gd (x_:=c7) (y:=c8) gJ lC lD gK⟩
 have F505:EC Try.prog c6 (ks (DS g++[(some X,Oc [Iv ((gt p.variables A).flight),Iv ((gt p.variables A).node),Sl Ae ((gt p.variables A).leaves) Ce,Sl Af ((gt p.variables A).choices) Cf] 61),(some U,J),(some b1,Oc (BS p Aa Ca Ab Cb Ac Cc) 26)]) O) (Value.func (.func 39) #[] #[]) (vI .i64) (vI .i64) (vI .i64) (fun c9 dA=>CS c9 dA):=by
  intro oK O507 lE gL oL oM c9 dA oN iX iY gM
  obtain⟨rfl,lF⟩:=iX
  obtain⟨rfl,lG⟩:=iY
  exact⟨39,#[],#[],Au,Try.call39,Gd (x_:=c9) (y:=dA) gL lF lG gM⟩
 have F520:EC Try.prog c6 (ks (DS g++[(some X,Oc [Iv ((gt p.variables A).flight),Iv ((gt p.variables A).node),Sl Ae ((gt p.variables A).leaves) Ce,Sl Af ((gt p.variables A).choices) Cf] 61),(some U,J),(some b1,Oc (BS p Aa Ca Ab Cb Ac Cc) 26)]) O) (Value.func (.func 39) #[] #[]) (vI .i64) (vI .i64) (vI .i64) (fun bF bG=>CS bF bG):=by
  intro oO O522 lH gN oP oQ bF bG oR iZ i0 gO
  obtain⟨rfl,lI⟩:=iZ
  obtain⟨rfl,lJ⟩:=i0
  exact⟨39,#[],#[],Au,Try.call39,Gd (x_:=bF) (y:=bG) gN lI lJ gO⟩
 refine BL Au (G 93 Au) (Gi Try.call38 (Kh (O:=ks (DS g++[(some X,Oc [Iv ((gt p.variables A).flight),Iv ((gt p.variables A).node),Sl Ae ((gt p.variables A).leaves) Ce,Sl Af ((gt p.variables A).choices) Cf] 61),(some U,J),(some b1,Oc (BS p Aa Ca Ab Cb Ac Cc) 26)]) O) (l:=(gt p.variables A).leaves) (less:=(fun bF bG=>CS bF bG)) hi.ltw Fe F520 gI) (by simp only [List.map,Array.toList,(show ev _ (.tmp 95)=_ from(G 95 Au)),(show ev _ (.func 39)=_ from Au)]<;> rfl) ?_)
 rintro oS oT ⟨gP,i1⟩
 exact Bs.call hi gP i1
 refine BN (Bo (!N)) (fun lK oU g aL hi G=>?_) ?_
 have i2:Vr.vd vB _ _ _ _:=G 96 Au
 have i3:_=(Bo N):=i2
 exact BL Au (G 93 Au)<|Do i3<|Gz hi
 refine Bc (Bo (!N)) (fun _ _ _ hi G=>FE (v:=Bo (!N)) (G 93 Au) (G 97 Au)<|Gz hi)<|GI (!N) (fun _ _ _ _ hi G=>Ay<|AD (v:=Bo (!N)) (G 98 Au)<|Gz hi) (fun bT=>?_) (fun bT=>?_)
 replace F:=Hy F bT
 iterate 5 refine FX Au Au (fun _ _ _ h=>h) Au ?_
 refine Bc (Bo true) (fun _ _ _ hi G=>DR (v:=Bo true) (G 99 Au) Au<|Gz hi)<|Bc (Bo true) (fun _ _ _ hi G=>AD (v:=Bo true) (G 105 Au)<|Gz hi) ?_
 iterate 11 refine FX Au Au (fun _ _ _ h=>h) Au ?_
 refine BD fun oV oW gQ gR=>?_
 obtain⟨-,d6,-⟩:=gQ
 obtain⟨dB,i4⟩:=AA.nx gR
 rintro _ rfl _ rfl _ rfl _ rfl _ rfl _ rfl _ rfl _ rfl _ rfl _ rfl _ rfl _ rfl _ rfl _ rfl _ rfl _ rfl _ rfl _ rfl _ rfl _ rfl _ rfl oX dC
 replace dC:Vr.vd vB _ _ _ _:=dC
 obtain rfl:=dC
 rintro _ rfl _ rfl _ rfl _ rfl _ rfl oY dD
 replace dD:Vr.vd vB _ _ _ _:=dD
 obtain rfl:=dD
 rintro _ rfl _ rfl _ rfl _ rfl _ rfl _ rfl _ rfl _ rfl
 have i5:=aF.to dB (d6.trans i4)
 refine AI Au (AJ Au Au) Au<|FM (Bo true) Au Au<|Ax ?_
 replace W:=W.trans i5
 exact aT _ _ ⟨true,_,Au,BB.of ⟨Au,trivial⟩,W,dB,F⟩
 replace F:=Hz F bT
 refine Dt (Pt X 2) Au Au (fun _ _ _ h=>h) (fun _ _ _ hi G=>AQ 2 Dq Au Bl (G 9 Au) Au<|Gz hi)<|Dt (Sl Ae ((gt p.variables A).leaves) Ce) Au Au (fun _ _ _ h=>h) (fun _ _ _ hi G=>AP 0 Bl (AA.nx hi).1 (G 100 Au) Au Au<|Gz hi) ?_
 obtain⟨dE,F⟩:=AE F
 refine Bd (VP _ _ (AL .i64) (((gt p.variables A).leaves).getD 0 default)) (VP.stab _ _) (fun lL oZ g aL hi G=>?_) ?_
 obtain⟨-,bR,-⟩:=aL
 replace Fe:=Fe.step bR
 refine BL Au (G 99 Au)<|AB (q:=(AL .i64)) Bl B6 (G 101 Au) Au Fe Au dE.1 dE.2 ?_
 intro o0 i6
 exact Bs.same hi ⟨_,Au,i6⟩
 refine Bd (VD _ _ (vI .i64) (((gt p.variables A).leaves).getD 0 default)) (VD.stab _ _) (fun lM o1 g aL hi G=>?_) ?_
 obtain⟨o2,i7,i8⟩:=G 102 Au
 refine BL Au (G 99 Au)<|AR B6 i7 i8 Au ?_
 intro o3 i9
 obtain⟨rfl,lN⟩:=BK i9
 exact Bs.same hi (show Vr.vd (vI .i64) _ _ _ _ from⟨Au,lN⟩)
 refine BN (Bo (decide ((((gt p.variables A).leaves).getD 0 default)<0))) (fun lO o4 g aL hi G=>?_) ?_
 have jA:Vr.vd (vI .i64) _ _ _ _:=G 103 Au
 obtain⟨jB,qN⟩:=jA
 exact BL Au (G 99 Au)<|By jB Au<|Gz hi
 refine Bc (Bo (decide ((((gt p.variables A).leaves).getD 0 default)<0))) (fun _ _ _ hi G=>FE (v:=Bo (decide ((((gt p.variables A).leaves).getD 0 default)<0))) (G 99 Au) (G 104 Au)<|Gz hi)<|GI (decide ((((gt p.variables A).leaves).getD 0 default)<0)) (fun _ _ _ _ hi G=>Ay<|AD (v:=Bo (decide ((((gt p.variables A).leaves).getD 0 default)<0))) (G 105 Au)<|Gz hi) (fun bU=>?_) (fun bU=>?_)
 replace F:=Hy F bU
 iterate 11 refine FX Au Au (fun _ _ _ h=>h) Au ?_
 refine BD fun o5 o6 gS gT=>?_
 obtain⟨-,d7,-⟩:=gS
 obtain⟨dF,eN⟩:=AA.nx gT
 rintro _ rfl _ rfl _ rfl _ rfl _ rfl _ rfl _ rfl _ rfl _ rfl _ rfl _ rfl _ rfl _ rfl _ rfl o7 dG
 replace dG:Vr.vd (vI .i64) _ _ _ _:=dG
 obtain⟨rfl,qO⟩:=dG
 rintro _ ⟨o8,rfl,eO⟩ _ rfl _ rfl _ rfl _ rfl _ rfl o9 dH
 replace dH:Vr.vd vB _ _ _ _:=dH
 obtain rfl:=dH
 rintro _ rfl _ rfl _ rfl _ rfl _ rfl pA dI
 replace dI:Vr.vd vB _ _ _ _:=dI
 obtain rfl:=dI
 rintro _ rfl _ rfl _ rfl _ rfl _ rfl _ rfl _ rfl _ rfl
 have jC:=aF.to dF (d7.trans eN)
 replace eO:=eO.step eN
 refine AI Au (AJ Au Au) Au<|FM (Bo true) Au Au<|Ax ?_
 replace W:=W.trans jC
 exact aT _ _ ⟨true,_,Au,BB.of ⟨Au,trivial⟩,W,dF,F⟩
 replace F:=Hz F bU
 refine Dt (Pt X 2) Au Au (fun _ _ _ h=>h) (fun _ _ _ hi G=>AQ 2 Dq Au Bl (G 9 Au) Au<|Gz hi)<|Dt (Sl Ae ((gt p.variables A).leaves) Ce) Au Au (fun _ _ _ h=>h) (fun _ _ _ hi G=>AP 0 Bl (AA.nx hi).1 (G 107 Au) Au Au<|Gz hi)<|Dt (Pt X 2) Au Au (fun _ _ _ h=>h) (fun _ _ _ hi G=>AQ 2 Dq Au Bl (G 9 Au) Au<|Gz hi)<|Dt (Sl Ae ((gt p.variables A).leaves) Ce) Au Au (fun _ _ _ h=>h) (fun _ _ _ hi G=>AP 0 Bl (AA.nx hi).1 (G 109 Au) Au Au<|Gz hi)<|Dt (Iv (((gt p.variables A).leaves).length:Int)) Au Au (fun _ _ _ h=>h) (fun _ _ _ hi G=>AZ Try.underlying31 (G 110 Au)<|Gz hi)<|Dt (Iv (wq ((((gt p.variables A).leaves).length:Int) - 1))) Au Au (fun _ _ _ h=>h) (fun _ _ _ hi G=>FN (G 111 Au) Au<|Gz hi) ?_
 obtain⟨dJ,F⟩:=AE F
 refine Bd (VP _ _ (AL .i64) (gt ((gt p.variables A).leaves) (wq ((((gt p.variables A).leaves).length:Int) - 1)))) (VP.stab _ _) (fun lP pB g aL hi G=>?_) ?_
 obtain⟨-,bR,-⟩:=aL
 replace Fe:=Fe.step bR
 refine BL Au (G 106 Au)<|AB (q:=(AL .i64)) Bl B6 (G 108 Au) (G 112 Au) Fe Au dJ.1 dJ.2 ?_
 intro pC jD
 exact Bs.same hi ⟨_,Au,jD⟩
 refine Bd (VD _ _ (vI .i64) (gt ((gt p.variables A).leaves) (wq ((((gt p.variables A).leaves).length:Int) - 1)))) (VD.stab _ _) (fun lQ pD g aL hi G=>?_) ?_
 obtain⟨pE,jE,jF⟩:=G 113 Au
 refine BL Au (G 106 Au)<|AR B6 jE jF Au ?_
 intro pF jG
 obtain⟨rfl,lR⟩:=BK jG
 exact Bs.same hi (show Vr.vd (vI .i64) _ _ _ _ from⟨Au,lR⟩)
 refine Dt (Pt b1 1) Au Au (fun _ _ _ h=>h) (fun _ _ _ hi G=>AQ 1 B4 Au Db (G 1 Au) Au<|Gz hi)<|Dt (Sl Ab p.capacity Cb) Au Au (fun _ _ _ h=>h) (fun _ _ _ hi G=>AP 2 Db (AA.nx hi).1 (G 115 Au) Au Au<|Gz hi)<|Dt (Iv (p.capacity.length:Int)) Au Au (fun _ _ _ h=>h) (fun _ _ _ hi G=>AZ Try.underlying23 (G 116 Au)<|Gz hi)<|BD fun pG pH gU gV=>?_
 obtain⟨-,d8,-⟩:=gU
 obtain⟨dK,dL⟩:=AA.nx gV
 rintro _ rfl _ rfl _ rfl pI dM
 replace dM:Vr.vd (vI .i64) _ _ _ _:=dM
 obtain⟨rfl,qP⟩:=dM
 rintro _ ⟨pJ,rfl,eP⟩ _ rfl _ rfl _ rfl _ rfl _ rfl _ rfl _ rfl _ rfl _ rfl pK dN
 replace dN:Vr.vd (vI .i64) _ _ _ _:=dN
 obtain⟨rfl,qQ⟩:=dN
 rintro _ ⟨pL,rfl,eQ⟩ _ rfl _ rfl _ rfl _ rfl _ rfl pM dO
 replace dO:Vr.vd vB _ _ _ _:=dO
 obtain rfl:=dO
 rintro _ rfl _ rfl _ rfl _ rfl _ rfl pN dP
 replace dP:Vr.vd vB _ _ _ _:=dP
 obtain rfl:=dP
 rintro _ rfl _ rfl _ rfl _ rfl _ rfl _ rfl _ rfl _ rfl
 have jH:=aF.to dK (d8.trans dL)
 replace eP:=eP.step dL;replace eQ:=eQ.step dL
 refine BO Au Au<|HH Au Au<|F8 (Bo (decide ((p.capacity.length:Int)≤(gt ((gt p.variables A).leaves) (wq ((((gt p.variables A).leaves).length:Int) - 1)))))) Au Au<|Ax ?_
 replace W:=W.trans jH
 exact aT _ _ ⟨decide ((p.capacity.length:Int)≤(gt ((gt p.variables A).leaves) (wq ((((gt p.variables A).leaves).length:Int) - 1)))),_,Au,BB.of ⟨Au,trivial⟩,W,dK,F⟩
 refine Bq<|Aw ?_
 obtain⟨gW,pO⟩:=a2.sub (bs':=[]) (.cons _ (.cons _ List.Sublist.slnil))
 clear Fa Fb Fc
 clear a2
 refine Av<|Bn (Iv 0) Au<|Ax<|AV<|⟨_,DX,[Iv 0],⟨Au,trivial⟩,gW.ext,?_⟩
 exact Vr.eq (a:=(vI .i64)) (x:=0) ⟨Au,E1⟩ (oi F)
 intro qR b9
 have aB:=bK.stepR
 refine Av<|A9<|AQ 0 B4 Au EX Au Au<|A9<|AP 0 EX bK Au Au Au<|A9<|AZ Try.underlying22 Au ?_
 replace Fa:=Fa.step p3
 have lS:=AX Fa
 refine A9<|EB Au Au<|Bb (Bo (decide (4096<(p.cells.length:Int)))) Au<|Bz F (fun gX F=>?_) (fun gX F=>?_)
 iterate 5 refine AI Au (AJ Au Au) Au ?_
 refine FM (Bo true) Au Au<|Bb (Bo true) Au ?_
 iterate 4 refine AI Au (AJ Au Au) Au ?_
 refine FM (Bo true) Au Au<|Bb (Bo true) Au ?_
 iterate 4 refine AI Au (AJ Au Au) Au ?_
 exact FM (Bo true) Au Au<|Ax<|b9 _ _ ⟨true,_,Au,BB.of ⟨Au,trivial⟩,aB,bK,F⟩
 refine BO Au Au<|AQ 1 B4 Au Db Au Au<|BO Au Au<|AP 0 Db bK Au Au Au<|BO Au Au<|AZ Try.underlying23 Au ?_
 replace Fb:=Fb.step p3
 have gY:=AX Fb
 obtain⟨aY,gZ,F⟩:=bd F
 refine BO Au Au<|Bi bK Try.call33 (Ej (n:=(p.capacity.length:Int)) (lo:=1) (hi:=32) bK.ltw gY Ol (show Cx .i64 32 from by decide) gZ) Au ?_
 rintro pP dQ bH aI jI
 obtain rfl:=jI
 refine BO Au Au<|Do Au<|F8 (Bo (!aY)) Au Au<|Bb (Bo (!aY)) Au<|Bz F (fun g1 F=>?_) (fun g1 F=>?_)
 iterate 4 refine AI Au (AJ Au Au) Au ?_
 refine FM (Bo true) Au Au<|Bb (Bo true) Au ?_
 iterate 4 refine AI Au (AJ Au Au) Au ?_
 refine FM (Bo true) Au Au<|Ax ?_
 replace aB:=aB.trans bH
 exact b9 _ _ ⟨true,_,Au,BB.of ⟨Au,trivial⟩,aB,aI,F⟩
 refine BO Au Au<|AQ 2 B4 Au Cz Au Au<|BO Au Au<|AP 0 Cz aI Au Au Au<|BO Au Au<|AZ Try.underlying24 Au ?_
 replace Fc:=Fc.step (p3.trans bH)
 have lT:=AX Fc
 refine BO Au Au<|EB Au Au<|F8 (Bo (decide (64<(p.variables.length:Int)))) Au Au<|Bb (Bo (decide (64<(p.variables.length:Int)))) Au<|Bz F (fun g2 F=>?_) (fun g2 F=>?_)
 iterate 4 refine AI Au (AJ Au Au) Au ?_
 refine FM (Bo true) Au Au<|Ax ?_
 replace aB:=aB.trans bH
 exact b9 _ _ ⟨true,_,Au,BB.of ⟨Au,trivial⟩,aB,aI,F⟩
 refine BO Au Au<|AQ 0 B4 Au EX Au Au<|BO Au Au<|AP 0 EX aI Au Au Au ?_
 have F722:EC Try.prog dQ (ks [(some b1,Oc (BS p Aa Ca Ab Cb Ac Cc) 26)] O) (Value.func (.func 35) #[] #[]) (vA Bx) (vA Bx) (vI .i64) (fun dR dS=>CH dR dS):=by
  intro pQ O724 lU g3 pR pS dR dS pT jJ jK g4
  obtain⟨_,rfl,⟨_,_,rfl,rfl,⟨_,_,rfl,⟨rfl,lV⟩,⟨rfl,lW⟩⟩⟩⟩:=jJ
  obtain⟨_,rfl,⟨_,_,rfl,rfl,⟨_,_,rfl,⟨rfl,lX⟩,⟨rfl,lY⟩⟩⟩⟩:=jK
  exact⟨35,#[],#[],Au,Try.call35,GE (a:=dR) (b:=dS) g3 lV lW lX lY g4⟩
 have F737:EC Try.prog dQ (ks [(some b1,Oc (BS p Aa Ca Ab Cb Ac Cc) 26)] O) (Value.func (.func 35) #[] #[]) (vA Bx) (vA Bx) (vI .i64) (fun bI bJ=>CH bI bJ):=by
  intro pU O739 lZ g5 pV pW bI bJ pX jL jM g6
  obtain⟨_,rfl,⟨_,_,rfl,rfl,⟨_,_,rfl,⟨rfl,l1⟩,⟨rfl,l2⟩⟩⟩⟩:=jL
  obtain⟨_,rfl,⟨_,_,rfl,rfl,⟨_,_,rfl,⟨rfl,l3⟩,⟨rfl,l4⟩⟩⟩⟩:=jM
  exact⟨35,#[],#[],Au,Try.call35,GE (a:=bI) (b:=bJ) g5 l1 l2 l3 l4 g6⟩
 obtain⟨cA,g7,F⟩:=bd F
 have F758:EC Try.prog dQ (ks [(some b1,Oc (BS p Aa Ca Ab Cb Ac Cc) 26)] O) (Value.func (.func 35) #[] #[]) (vA Bx) (vA Bx) (vI .i64) (fun dT dU=>CH dT dU):=by
  intro pY O760 l5 g8 pZ p0 dT dU p1 jN jO g9
  obtain⟨_,rfl,⟨_,_,rfl,rfl,⟨_,_,rfl,⟨rfl,l6⟩,⟨rfl,l7⟩⟩⟩⟩:=jN
  obtain⟨_,rfl,⟨_,_,rfl,rfl,⟨_,_,rfl,⟨rfl,l8⟩,⟨rfl,l9⟩⟩⟩⟩:=jO
  exact⟨35,#[],#[],Au,Try.call35,GE (a:=dT) (b:=dU) g8 l6 l7 l8 l9 g9⟩
 replace Fa:=Fa.step bH
 refine BO Au Au<|Bi aI Try.call34 (O3 (l:=p.cells) (less:=(fun bI bJ=>CH bI bJ)) aI.ltw Fa F737 g7) Au ?_
 rintro p2 p4 jP hA jQ
 clear aI
 obtain rfl:=jQ
 refine BO Au Au<|Do Au<|F8 (Bo (!cA)) Au Au<|Ax ?_
 have jR:=(bH.trans jP)
 replace aB:=aB.trans jR
 exact b9 _ _ ⟨!cA,_,Au,BB.of ⟨Au,trivial⟩,aB,hA,F⟩

abbrev Xw:List Nat:=[4,5,22,23,24,25,26,27,28,29,30]

abbrev Xx:List Nat:=[15,56,57,58,59,60,61,62,63,64,65,66,67,68,69]

abbrev Vw:List Nat:=[13,15,49,50,51,52,53,54,55,56,57,58,59,60,61,62,63,64,65,66,67,68,69,70]

abbrev TK:List Nat:=[8,10,11,13,15,41,42,43,44,45,46,47,48,49,50,51,52,53,54,55,56,57,58,59,60,61,62,63,64,65,66,67,68,69,70,71,72,73,74,75]

abbrev Su:List Nat:=[7,8,10,11,13,15,34,35,36,37,38,39,40,41,42,43,44,45,46,47,48,49,50,51,52,53,54,55,56,57,58,59,60,61,62,63,64,65,66,67,68,69,70,71,72,73,74,75,76,77,78,79,80,81,82]

def EN (p:A8) (I:List (AK × Int)) (A:Int) (U:Int) (J:Int) (M:Int→(List (Az × Int))→Option D7) (N:Int→(List (Az × Int))→Option D7) (F:Int) (G:List (Az × Int)):Option D7:=
 bif (decide (F<(((p.variables.getD A.toNat default).leaves).length:Int))) then
  ck ((0:Int)≤F∧F<(((p.variables.getD A.toNat default).leaves).length:Int))<|
  N (IntKind.wrap .i64 (F+1)) (Dp G (⟨((p.variables.getD A.toNat default).leaves).getD F.toNat default,(Bu I ((((((p.variables.getD A.toNat default).choices).getD U.toNat default).uses).getD J.toNat default).cell)).getD 0⟩:Az) ((((((p.variables.getD A.toNat default).choices).getD U.toNat default).uses).getD J.toNat default).places))
 else
  M (IntKind.wrap .i64 (J+1)) G

def EO (p:A8) (J:List (AK × Int)) (F:Int) (N:List (List (Az × Int))) (G:Int) (U:(List (List (Az × Int)))→Int→Option D7) (M:Int→(List (Az × Int))→Option D7) (I:Int) (A:List (Az × Int)):Option D7:=
 bif (decide (I<(((((p.variables.getD F.toNat default).choices).getD G.toNat default).uses).length:Int))) then
  ck ((0:Int)≤I∧I<(((((p.variables.getD F.toNat default).choices).getD G.toNat default).uses).length:Int))<|
  BC (EN p J F G I M) (((((p.variables.getD F.toNat default).leaves).length:Int) - 0).toNat+1) 0 A
 else
  ck ((N.length+[A].length)*8≤140737488355328)<|
  U (N++[A]) (IntKind.wrap .i64 (G+1))

def EP (p:A8) (G:List (AK × Int)) (A:Int) (J:List (List (List (Az × Int)))) (M:Int→(List (List (List (Az × Int))))→Option D7) (N:(List (List (Az × Int)))→Int→Option D7) (I:List (List (Az × Int))) (F:Int):Option D7:=
 bif (decide (F<(((p.variables.getD A.toNat default).choices).length:Int))) then
  ck ((0:Int)≤F∧F<(((p.variables.getD A.toNat default).choices).length:Int))<|
  BC (EO p G A I F N) (((((((p.variables.getD A.toNat default).choices).getD F.toNat default).uses).length:Int) - 0).toNat+1) 0 ([]:List (Az × Int))
 else
  ck ((J.length+[I].length)*24≤140737488355328)<|
  M (IntKind.wrap .i64 (A+1)) (J++[I])

def Ek (p:A8) (F:List (AK × Int)) (G:Int→(List (List (List (Az × Int))))→Option D7) (A:Int) (I:List (List (List (Az × Int)))):Option D7:=
 bif (decide (A<(p.variables.length:Int))) then
  ck ((0:Int)≤A∧A<(p.variables.length:Int))<|
  BC (EP p F A I G) (((((p.variables.getD A.toNat default).choices).length:Int) - 0).toNat+1) ([]:List (List (Az × Int))) 0
 else
  some (⟨p,I⟩:D7)

def EQ (p:A8) (G:Int→(List (AK × Int))→Option D7) (A:Int) (F:List (AK × Int)):Option D7:=
 bif (decide (A<(p.cells.length:Int))) then
  ck ((0:Int)≤A∧A<(p.cells.length:Int))<|
  G (IntKind.wrap .i64 (A+1)) (Dp F (p.cells.getD A.toNat default) A)
 else
  BC (Ek p F) (((p.variables.length:Int) - 0).toNat+1) 0 ([]:List (List (List (Az × Int))))

def FZ (p:A8):Option D7:=
 BC (EQ p) (((p.cells.length:Int) - 0).toNat+1) 0 ([]:List (AK × Int))

theorem Ju {w:World} {O:List Nat} {p:A8} {Aa:Option Addr} {Ca:Nat} {Ab:Option Addr} {Cb:Nat} {Ac:Option Addr} {Cc:Nat} (hO:∀k∈O,k<w.heap.size) (Fa:CA Bx w O Aa Ca p.cells) (Fb:CA (BG (AL .i64)) w O Ab Cb p.capacity) (Fc:CA AS w O Ac Cc p.variables) {x:D7} (G:FZ p=some x):
 Ok Try.prog 42 [Value.agg (BS p Aa Ca Ab Cb Ac Cc).toArray] w O (vA La) x:=by
 unfold FZ at G
 refine Br (n:=84) (xs:=[.cell 2 80]) Try.func42 Au Try.ntmps42 Try.results42 Au ?_
 have hs:=St.start hO
 refine Aw<|Av<|A9<|BT (cs:=(BS p Aa Ca Ab Cb Ac Cc)) hs Au Au ?_
 intro b1 w2 _ p3 dT
 refine A9<|Bv LA dT ?_
 intro b6 w7 _ p8 c9
 clear dT
 refine Ax<|Aw<|Av<|A9<|B1 1 B4 c9 Au Au Au<|A9<|AQ 0 LA Au B4 Au Au<|Bh<|VZ (cs':=[Sl Aa p.cells Ca,Sl Ab p.capacity Cb,Sl Ac p.variables Cc,Value.slice none 0 0]) .z B4 c9 Au Au Au Au (BQ Au) Au Au ?_
 intro gP eV cG
 clear c9
 refine Ax<|Aw<|Av<|A9<|Hn cG ?_
 intro aB gQ eW bK
 clear cG
 have eX:Mo HP (Hm .i64) (Obj.map #[] 0) ([]:List (AK × Int)):=Mo.nil_
 refine Bn (Value.map (some aB)) Au<|Ax<|Aw<|Aw<|Av<|A9<|AQ 0 B4 Au EX Au Au<|A9<|AP 2 EX bK Au Au Au<|A9<|AZ Try.underlying22 Au ?_
 have dU:=(p3.trans (p8.trans (eV.trans eW)))
 replace Fa:=Fa.step dU
 have fL:=AX Fa
 refine Bb (Iv 0) Au<|Ax<|AC<|Wr [] [(1,Pt b1 0),(2,Pt b6 0),(3,Value.map (some aB)),(20,Sl Aa p.cells Ca),(21,Iv (p.cells.length:Int)),(22,Iv 0)] fun fM=>Bf Xw (fun m fr w'=>∃(aC:Int) (I:List (AK × Int)) (Y:Obj) (M:Be),M=[(some aB,Y),(some b6,Oc [Sl Aa p.cells Ca,Sl Ab p.capacity Cb,Sl Ac p.variables Cc,Value.slice none 0 0] 80),(some b1,Oc (BS p Aa Ca Ab Cb Ac Cc) 26)]∧fr [] [(22,Iv aC)]∧bK.S (ks M O) w'∧St ⟨w,[],[]⟩ O w' M∧Cx .i64 aC∧Mo HP (Hm .i64) Y I∧BC (EQ p) m aC I=some x) (((p.cells.length:Int) - 0).toNat+1) ⟨0,([]:List (AK × Int)),Obj.map #[] 0,_,Au,BB.of ⟨Au,trivial⟩,AA.refl _ _,bK,E1,eX,G⟩ ?_ ?_
 rintro _ _ ⟨_,_,_,_,_,_,_,_,_,_,G⟩;exact DI G
 rintro gR gS dV fN gT ⟨aC,I,Y,_,rfl,bL,aO,a6,Ra,aR,G⟩
 obtain⟨fO,dA,G⟩:=DJ G;unfold EQ at G
 rw [bL.eq];clear bL
 have bM:=aO
 refine Aw<|Av<|A9<|By Au Au<|Ax<|Aw<|AF G Au (fun dW G=>?_) (fun dW G=>?_)
 refine AG<|Aw<|AC<|Aw<|Av<|Bb (Iv aC) Au ?_
 obtain⟨cH,G⟩:=AE G
 replace Fa:=Fa.step aO
 refine A9<|AB (q:=Bx) EX Du Au Au Fa Au cH.1 cH.2 ?_
 intro gU dX
 refine A9<|BE Du Au dX Au ?_
 intro fP eY
 obtain⟨_,_,rfl,rfl,⟨_,_,rfl,⟨rfl,Rb⟩,⟨rfl,Rc⟩⟩⟩:=eY
 refine A9<|Bv Du a6 ?_
 intro gV gW _ eZ cI
 clear a6
 refine Bn (Iv aC) Au<|Bh<|C6 .z Du cI Au Au Au Au Au ?_
 intro gX e0 bN
 clear cI
 refine Ax ?_
 clear dX
 refine Av<|Bb (Value.map (some aB)) Au<|A9<|B1 0 Du bN Au Au Au<|Bb (Iv aC) Au<|Bh<|GP (q:=HP) (m:=(Hm .i64)) (n:=gt p.cells aC) (v:=aC) (i:=1) Try.underlying113 OV bN Au aR Au Au Au Au (And.intro Rb Rc) Ra ?_
 intro e1 gY e2 bO e3
 clear bN
 refine Ax<|Av<|A9<|Bg Au Au<|Bb (Iv (wq (aC+1))) Au<|Ax ?_
 have dY:=bO.drop 0
 have e4:=(bO.dropS 0)
 clear bO
 have e5:=(eZ.trans (e0.trans (e2.trans e4)))
 replace bM:=bM.trans e5
 exact dV _ _ ⟨(wq (aC+1)),Dp I (gt p.cells aC) aC,e1,_,Au,BB.of ⟨Au,trivial⟩,bM,dY,(AT .i64 _),e3,GV dA G⟩
 refine Bq<|Aw<|Aw<|Av<|A9<|AQ 2 B4 Au Cz Au Au<|A9<|AP 2 Cz a6 Au Au Au<|A9<|AZ Try.underlying24 Au ?_
 have dZ:=(dU.trans aO)
 replace Fc:=Fc.step dZ
 have fQ:=AX Fc
 refine Bb (Iv 0) Au<|Ax<|AC<|Wr [] [(2,Pt b6 0),(3,Value.map (some aB)),(32,Sl Ac p.variables Cc),(33,Iv (p.variables.length:Int)),(34,Iv 0)] fun bP=>?_
 have cJ:=a6.ghost (Obj.cells #[] 114)
 refine Bf Su (fun m fr w'=>∃(A:Int) (U:List (List (List (Az × Int)))) (Ad:Option Addr) (Cd:Nat) (Z:Option Nat) (aA:Obj) (M:Be),M=[(Z,aA),(some aB,Y),(some b6,Oc [Sl Aa p.cells Ca,Sl Ab p.capacity Cb,Sl Ac p.variables Cc,Sl Ad U Cd] 80),(some b1,Oc (BS p Aa Ca Ab Cb Ac Cc) 26)]∧fr [] [(34,Iv A)]∧cJ.S (ks M O) w'∧St ⟨w,[],[]⟩ O w' M∧Cx .i64 A∧Gs (BG (Kc AY (Hm .i64))) 114 w' (ks M O) Ad Cd U Z aA∧BC (Ek p I) m A U=some x) (((p.variables.length:Int) - 0).toNat+1) ⟨0,([]:List (List (List (Az × Int)))),none,0,none,Obj.cells #[] 114,_,Au,BB.of ⟨Au,trivial⟩,AA.refl _ _,cJ,E1,Gs.nil_,G⟩ ?_ ?_
 rintro _ _ ⟨_,_,_,_,_,_,_,_,_,_,_,_,_,G⟩;exact DI G
 rintro gZ g1 d0 fR g2 ⟨A,U,Ad,Cd,Z,aA,_,rfl,bQ,aJ,a7,Rd,Fd,G⟩
 obtain⟨d1,dB,G⟩:=DJ G;unfold Ek at G
 rw [bQ.eq];clear bQ
 have bR:=aJ
 refine Aw<|Av<|A9<|By Au Au<|Ax<|Aw<|AF G Au (fun d2 G=>?_) (fun d2 G=>?_)
 refine AG<|Aw<|AC<|Aw<|Av ?_
 obtain⟨cK,G⟩:=AE G
 replace Fc:=Fc.step aJ
 refine A9<|AB (q:=AS) Cz Dq Au Au Fc Au cK.1 cK.2 ?_
 intro g3 d3
 refine A9<|BE Dq Au d3 Au ?_
 intro fS e6
 obtain⟨_,_,rfl,⟨rfl,Re⟩,⟨_,_,rfl,⟨rfl,Rf⟩,⟨_,_,rfl,⟨Ae,Ce,rfl,Fe⟩,⟨Af,Cf,rfl,Ff⟩⟩⟩⟩:=e6
 refine A9<|Bv Dq a7 ?_
 intro bI g4 _ e7 cL
 clear a7
 refine Bh<|C6 .z Dq cL Au Au Au Au Au ?_
 intro g5 e8 cM
 clear cL
 refine Ax<|Aw ?_
 clear d3
 refine Av<|Bn (Value.slice none 0 0) Au<|Ax<|Aw<|Aw<|Av<|A9<|AQ 3 Dq Au FJ Au Au<|A9<|AP 0 FJ cM Au Au Au<|A9<|AZ Try.underlying59 Au ?_
 have dC:=(e7.trans e8)
 replace Ff:=Ff.step dC
 have fT:=AX Ff
 refine Bb (Iv 0) Au<|Ax<|AC<|Ic Su [] (CO ⟨bP,[]⟩ [(2,Pt b6 0),(3,Value.map (some aB)),(32,Sl Ac p.variables Cc),(33,Iv (p.variables.length:Int)),(34,Iv 0)]) [(7,Pt bI 0),(8,Value.slice none 0 0),(34,Iv A),(39,Sl Af ((gt p.variables A).choices) Cf),(40,Iv (((gt p.variables A).choices).length:Int)),(41,Iv 0)] fun cN=>?_
 have bS:=cM.ghost (Obj.cells #[] 115)
 refine Bf TK (fun m fr w'=>∃(N:List (List (Az × Int))) (F:Int) (Ag:Option Addr) (Cg:Nat) (aK:Option Nat) (aL:Obj) (M:Be),M=[(aK,aL),(some bI,Oc [Iv ((gt p.variables A).flight),Iv ((gt p.variables A).node),Sl Ae ((gt p.variables A).leaves) Ce,Sl Af ((gt p.variables A).choices) Cf] 61),(Z,aA),(some aB,Y),(some b6,Oc [Sl Aa p.cells Ca,Sl Ab p.capacity Cb,Sl Ac p.variables Cc,Sl Ad U Cd] 80),(some b1,Oc (BS p Aa Ca Ab Cb Ac Cc) 26)]∧fr [] [(8,Sl Ag N Cg),(41,Iv F)]∧bS.S (ks M O) w'∧St ⟨w,[],[]⟩ O w' M∧Gs (Kc AY (Hm .i64)) 115 w' (ks M O) Ag Cg N aK aL∧Cx .i64 F∧BC (EP p I A U d1) m N F=some x) (((((gt p.variables A).choices).length:Int) - 0).toNat+1) ⟨([]:List (List (Az × Int))),0,none,0,none,Obj.cells #[] 115,_,Au,BB.of ⟨Au,Au,trivial⟩,AA.refl _ _,bS,Gs.nil_,E1,G⟩ ?_ ?_
 rintro _ _ ⟨_,_,_,_,_,_,_,_,_,_,_,_,_,G⟩;exact DI G
 rintro fU g6 d4 e9 fV ⟨N,F,Ag,Cg,aK,aL,_,rfl,a8,aF,aM,Fg,Rg,G⟩
 obtain⟨d5,dD,G⟩:=DJ G;unfold EP at G
 rw [a8.eq];clear a8
 have aS:=aF
 refine Aw<|Av<|A9<|By Au Au<|Ax<|Aw<|AF G Au (fun dE G=>?_) (fun dE G=>?_)
 refine AG<|Aw<|AC<|Aw<|Av ?_
 obtain⟨bT,G⟩:=AE G
 replace Ff:=Ff.step aF
 refine A9<|AB (q:=Bt) FJ FT Au Au Ff Au bT.1 bT.2 ?_
 intro fW cO
 refine A9<|BE FT Au cO Au ?_
 intro fA d6
 obtain⟨_,_,rfl,⟨rfl,Rh⟩,⟨_,_,rfl,⟨rfl,Ri⟩,⟨_,_,rfl,⟨rfl,Rj⟩,⟨Ah,Ch,rfl,Fh⟩⟩⟩⟩:=d6
 refine A9<|Bv FT aM ?_
 intro cP fX _ cQ bU
 clear aM
 refine Bh<|C6 .z FT bU Au Au Au Au Au ?_
 intro fY cR bV
 clear bU
 refine Ax<|Aw ?_
 clear cO
 refine Av<|A9<|Hn bV ?_
 intro W fZ cS aT
 clear bV
 have d7:Mo AY (Hm .i64) (Obj.map #[] 0) ([]:List (Az × Int)):=Mo.nil_
 refine Bn (Value.map (some W)) Au<|Ax<|Aw<|Aw<|Av<|A9<|AQ 3 FT Au Ho Au Au<|A9<|AP 1 Ho aT Au Au Au<|A9<|AZ Try.underlying56 Au ?_
 have cT:=(cQ.trans (cR.trans cS))
 replace Fh:=Fh.step cT
 have fB:=AX Fh
 refine Bb (Iv 0) Au<|Ax<|AC<|Ic TK [] (CO (JE Su [] cN (CO ⟨bP,[]⟩ [(2,Pt b6 0),(3,Value.map (some aB)),(32,Sl Ac p.variables Cc),(33,Iv (p.variables.length:Int)),(34,Iv 0)])) [(7,Pt bI 0),(8,Value.slice none 0 0),(34,Iv A),(39,Sl Af ((gt p.variables A).choices) Cf),(40,Iv (((gt p.variables A).choices).length:Int)),(41,Iv 0)]) [(8,Sl Ag N Cg),(11,Value.map (some W)),(41,Iv F),(47,Sl Ah ((gt ((gt p.variables A).choices) F).uses) Ch),(48,Iv (((gt ((gt p.variables A).choices) F).uses).length:Int)),(49,Iv 0)] fun dF=>Bf Vw (fun m fr w'=>∃(J:Int) (X:List (Az × Int)) (aG:Obj) (M:Be),M=[(some W,aG),(some cP,Oc [Iv ((gt ((gt p.variables A).choices) F).delay),Iv ((gt ((gt p.variables A).choices) F).cost),Iv ((gt ((gt p.variables A).choices) F).changes),Sl Ah ((gt ((gt p.variables A).choices) F).uses) Ch] 58),(aK,aL),(some bI,Oc [Iv ((gt p.variables A).flight),Iv ((gt p.variables A).node),Sl Ae ((gt p.variables A).leaves) Ce,Sl Af ((gt p.variables A).choices) Cf] 61),(Z,aA),(some aB,Y),(some b6,Oc [Sl Aa p.cells Ca,Sl Ab p.capacity Cb,Sl Ac p.variables Cc,Sl Ad U Cd] 80),(some b1,Oc (BS p Aa Ca Ab Cb Ac Cc) 26)]∧fr [] [(49,Iv J)]∧aT.S (ks M O) w'∧St ⟨w,[],[]⟩ O w' M∧Cx .i64 J∧Mo AY (Hm .i64) aG X∧BC (EO p I A N F d5) m J X=some x) (((((gt ((gt p.variables A).choices) F).uses).length:Int) - 0).toNat+1) ⟨0,([]:List (Az × Int)),Obj.map #[] 0,_,Au,BB.of ⟨Au,trivial⟩,AA.refl _ _,aT,E1,d7,G⟩ ?_ ?_
 rintro _ _ ⟨_,_,_,_,_,_,_,_,_,_,G⟩;exact DI G
 rintro f0 f1 dG fC f2 ⟨J,X,aG,_,rfl,a9,aH,bW,Rk,bA,G⟩
 obtain⟨dH,cD,G⟩:=DJ G;unfold EO at G
 rw [a9.eq];clear a9
 have aU:=aH
 refine Aw<|Av<|A9<|By Au Au<|Ax<|Aw<|AF G Au (fun dI G=>?_) (fun dI G=>?_)
 refine AG<|Aw<|AC<|Aw<|Av ?_
 obtain⟨bX,G⟩:=AE G
 replace Fh:=Fh.step aH
 refine A9<|AB (q:=Ed) Ho Gc Au Au Fh Au bX.1 bX.2 ?_
 intro f3 cU
 refine A9<|BE Gc Au cU Au ?_
 intro fD d8
 obtain⟨_,_,rfl,⟨_,_,rfl,rfl,⟨_,_,rfl,⟨rfl,Rl⟩,⟨rfl,Rm⟩⟩⟩,⟨rfl,Rn⟩⟩:=d8
 refine A9<|Bv Gc bW ?_
 intro bB f4 _ cV dJ
 refine Bh<|C6 .z Gc dJ Au Au Au Au Au ?_
 intro f5 cW aV
 refine Ax<|Aw ?_
 clear cU
 refine Av<|A9<|AQ 2 Dq Au Bl Au Au<|A9<|AP 4 Bl aV Au Au Au<|A9<|AZ Try.underlying31 Au ?_
 have d9:=(dC.trans (aF.trans (cQ.trans (cR.trans (cS.trans (aH.trans (cV.trans cW)))))))
 replace Fe:=Fe.step d9
 have fE:=AX Fe
 refine Bb (Iv 0) Au<|Ax<|AC<|Ic Vw [] (CO (JE TK [] dF (CO (JE Su [] cN (CO ⟨bP,[]⟩ [(2,Pt b6 0),(3,Value.map (some aB)),(32,Sl Ac p.variables Cc),(33,Iv (p.variables.length:Int)),(34,Iv 0)])) [(7,Pt bI 0),(8,Value.slice none 0 0),(34,Iv A),(39,Sl Af ((gt p.variables A).choices) Cf),(40,Iv (((gt p.variables A).choices).length:Int)),(41,Iv 0)])) [(8,Sl Ag N Cg),(11,Value.map (some W)),(41,Iv F),(47,Sl Ah ((gt ((gt p.variables A).choices) F).uses) Ch),(48,Iv (((gt ((gt p.variables A).choices) F).uses).length:Int)),(49,Iv 0)]) [(13,Pt bB 0),(49,Iv J),(54,Sl Ae ((gt p.variables A).leaves) Ce),(55,Iv (((gt p.variables A).leaves).length:Int)),(56,Iv 0)] fun fF=>Bf Xx (fun m fr w'=>∃(aD:Int) (aN:List (Az × Int)) (aI:Obj) (M:Be),M=[(some bB,Oc [Bo (((gt ((gt ((gt p.variables A).choices) F).uses) J).cell).airport),Iv (((gt ((gt ((gt p.variables A).choices) F).uses) J).cell).index),Iv (((gt ((gt ((gt p.variables A).choices) F).uses) J).cell).minute),Iv ((gt ((gt ((gt p.variables A).choices) F).uses) J).places)] 76),(some W,aI),(some cP,Oc [Iv ((gt ((gt p.variables A).choices) F).delay),Iv ((gt ((gt p.variables A).choices) F).cost),Iv ((gt ((gt p.variables A).choices) F).changes),Sl Ah ((gt ((gt p.variables A).choices) F).uses) Ch] 58),(aK,aL),(some bI,Oc [Iv ((gt p.variables A).flight),Iv ((gt p.variables A).node),Sl Ae ((gt p.variables A).leaves) Ce,Sl Af ((gt p.variables A).choices) Cf] 61),(Z,aA),(some aB,Y),(some b6,Oc [Sl Aa p.cells Ca,Sl Ab p.capacity Cb,Sl Ac p.variables Cc,Sl Ad U Cd] 80),(some b1,Oc (BS p Aa Ca Ab Cb Ac Cc) 26)]∧fr [] [(56,Iv aD)]∧aV.S (ks M O) w'∧St ⟨w,[],[]⟩ O w' M∧Cx .i64 aD∧Mo AY (Hm .i64) aI aN∧BC (EN p I A F J dH) m aD aN=some x) (((((gt p.variables A).leaves).length:Int) - 0).toNat+1) ⟨0,X,aG,_,Au,BB.of ⟨Au,trivial⟩,AA.refl _ _,aV,E1,bA,G⟩ ?_ ?_
 rintro _ _ ⟨_,_,_,_,_,_,_,_,_,_,G⟩;exact DI G
 rintro f6 f7 dK fG f8 ⟨aD,aN,aI,_,rfl,bC,aP,aE,Ro,bD,G⟩
 obtain⟨fH,cE,G⟩:=DJ G;unfold EN at G
 rw [bC.eq];clear bC
 have aW:=aP
 refine Aw<|Av<|A9<|By Au Au<|Ax<|Aw<|AF G Au (fun dL G=>?_) (fun dL G=>?_)
 refine AG<|Aw<|AC<|Aw<|Av ?_
 obtain⟨bY,G⟩:=AE G
 replace Fe:=Fe.step aP
 refine A9<|AB (q:=(AL .i64)) Bl B6 Au Au Fe Au bY.1 bY.2 ?_
 intro f9 cX
 refine A9<|AR B6 Au cX Au ?_
 intro gA eA
 obtain⟨rfl,Rp⟩:=BK eA
 refine Bn (Iv (gt ((gt p.variables A).leaves) aD)) Au<|Ax ?_
 clear cX
 refine B7 (g0:=[]) (m:=9) (fl:=[]) (CQ aE) Au (.inl Au) Au (by decide+kernel) ?_  -- 22
 refine Bc (Value.map (some W)) (fun _ _ _ hi ht=>AD (v:=Value.map (some W)) (ht 11 Au)<|Gz hi)<|Bc (Iv (gt ((gt p.variables A).leaves) aD)) (fun _ _ _ hi ht=>AD (v:=Iv (gt ((gt p.variables A).leaves) aD)) (ht 15 Au)<|Gz hi)<|Bc (Value.map (some aB)) (fun _ _ _ hi ht=>AD (v:=Value.map (some aB)) (ht 3 Au)<|Gz hi)<|Bc (Pt bB 0) (fun _ _ _ hi ht=>AQ 0 Gc Au Du (ht 13 Au) Au<|Gz hi)<|Bc (Value.agg [Bo (((gt ((gt ((gt p.variables A).choices) F).uses) J).cell).airport),Iv (((gt ((gt ((gt p.variables A).choices) F).uses) J).cell).index),Iv (((gt ((gt ((gt p.variables A).choices) F).uses) J).cell).minute)].toArray) (fun _ _ _ hi ht=>G4 (vs:=[Bo (((gt ((gt ((gt p.variables A).choices) F).uses) J).cell).airport),Iv (((gt ((gt ((gt p.variables A).choices) F).uses) J).cell).index),Iv (((gt ((gt ((gt p.variables A).choices) F).uses) J).cell).minute)]) (i:=0) Du (AA.nx hi).1 (ht 63 Au) Au Au Au<|Gz hi)<|Bc (Iv ((Bu I ((gt ((gt ((gt p.variables A).choices) F).uses) J).cell)).getD 0)) (fun _ _ _ hi ht=>He (q:=HP) (m:=(Hm .i64)) (n:=(gt ((gt ((gt p.variables A).choices) F).uses) J).cell) (z:=0) Try.underlying113 OV Try.zeroValue3 ((AA.nx hi).1.get (i:=6) Au) aR (And.intro Rl Rm) (ht 62 Au) (ht 64 Au)<|Gz hi)<|BN (Value.agg [Iv (gt ((gt p.variables A).leaves) aD),Iv ((Bu I ((gt ((gt ((gt p.variables A).choices) F).uses) J).cell)).getD 0)].toArray) (fun fI gB g g7 hi ht=>?_) ?_
 refine Ay (DM (vs:=[Iv (gt ((gt p.variables A).leaves) aD),Iv ((Bu I ((gt ((gt ((gt p.variables A).choices) F).uses) J).cell)).getD 0)]) (parts:=[(0,.tmp 61),(1,.tmp 65)]) C5 US (by simp only [List.map,(show ev _ (.tmp 61)=_ from(ht 61 Au)),(show ev _ (.tmp 65)=_ from(ht 65 Au))];rfl) ?_)
 exact Gz hi
 refine Bc (Pt bB 3) (fun _ _ _ hi ht=>AQ 3 Gc Au B6 (ht 13 Au) Au<|Gz hi)<|Bc (Iv ((gt ((gt ((gt p.variables A).choices) F).uses) J).places)) (fun _ _ _ hi ht=>AP 0 B6 (AA.nx hi).1 (ht 67 Au) Au Au<|Gz hi)<|BD fun gC gD dM dN=>?_
 obtain⟨-,cF,-⟩:=dM
 obtain⟨aX,eB⟩:=AA.nx dN
 rintro _ rfl _ rfl _ rfl _ rfl _ rfl _ rfl _ rfl _ rfl _ rfl
 have eC:=aE.to aX (cF.trans eB)
 clear aE
 refine Bh<|GP (q:=AY) (m:=(Hm .i64)) (n:=(⟨gt ((gt p.variables A).leaves) aD,(Bu I ((gt ((gt ((gt p.variables A).choices) F).uses) J).cell)).getD 0⟩:Az)) (v:=(gt ((gt ((gt p.variables A).choices) F).uses) J).places) (i:=1) Try.underlying115 Iy aX Au bD Au Au Au Au (And.intro Rp (aR.ok E1)) Rn ?_
 intro eD gE eE dO eF
 clear aX
 refine Ax<|Av<|A9<|Bg Au Au<|Bb (Iv (wq (aD+1))) Au<|Ax ?_
 have eG:=(eC.trans eE)
 replace aW:=aW.trans eG
 exact dK _ _ ⟨(wq (aD+1)),Dp aN (⟨gt ((gt p.variables A).leaves) aD,(Bu I ((gt ((gt ((gt p.variables A).choices) F).uses) J).cell)).getD 0⟩:Az) ((gt ((gt ((gt p.variables A).choices) F).uses) J).places),eD,_,Au,BB.of ⟨Au,trivial⟩,aW,dO,(AT .i64 _),eF,GV cE G⟩
 refine Bq<|Av<|A9<|Bg Au Au<|Bb (Iv (wq (J+1))) Au<|Ax ?_
 have dP:=aE.drop 0
 have eH:=(aE.dropS 0)
 clear aE
 have eI:=(cV.trans (cW.trans (aP.trans eH)))
 replace aU:=aU.trans eI
 exact dG _ _ ⟨(wq (J+1)),aN,aI,_,Au,BB.of ⟨Au,trivial⟩,aU,dP,(AT .i64 _),bD,GV cD G⟩
 refine Bq<|Av<|Bb (Sl Ag N Cg) Au<|Bb (Value.map (some W)) Au ?_
 obtain⟨bZ,eJ,bE⟩:=St.publishM (i:=0) bW Au bA
 refine A9<|Bm (cs:=[Value.map (some W)]) (parts:=[(0,.tmp 72)]) NM Lp bZ (by decide) Au ?_
 intro gF gG fJ cY aY
 clear bZ
 obtain⟨b0,G⟩:=AE G
 replace bE:=bE.step cY
 have cZ:=(cT.trans (aH.trans (eJ.trans cY)))
 replace Fg:=Fg.step cZ
 refine A9 (FF (q:=Kc AY (Hm .i64)) (i:=2) (xs:=N) (ys:=[X]) (news:=[Value.map (some W)]) NM Lp Au (by decide) aY Au Au Fg Au (Oj.owned' (len:=1) (aY.get (i:=0) Au) Au) (show E0 (Kc AY (Hm .i64)) _ _ [Value.map (some W)] [X] from⟨_,_,Au,Sf bE,E0.nil⟩) b0 (by have:=b0;simp only [maxLen,gt];omega) ?_)
 intro c0 c1 eK eL gH eM aZ b2
 clear aY
 have a0:=aZ.drop 0
 have c2:=(aZ.dropS 0)
 clear aZ
 refine Bn (Sl c0 (N++[X]) c1) Au<|Ax ?_
 clear bE
 refine Av<|A9<|Bg Au Au<|Bb (Iv (wq (F+1))) Au<|Ax ?_
 have dQ:=a0.drop 0
 have c3:=(a0.dropS 0)
 clear a0
 have eN:=(cZ.trans (eM.trans (c2.trans c3)))
 replace aS:=aS.trans eN
 replace b2:=b2.step (c2.trans c3)
 exact d4 _ _ ⟨N++[X],(wq (F+1)),c0,c1,eK,eL,_,Au,BB.of ⟨Au,Au,trivial⟩,aS,dQ,b2,(AT .i64 _),GV dD G⟩
 refine Bq<|Av<|A9<|AQ 3 LA Au PC Au Au<|A9<|AP 4 PC aM Au Au Au<|Bb (Sl Ag N Cg) Au ?_
 obtain⟨b3,eO,bF⟩:=Gs.publish (i:=0) aM Au Fg
 clear aM
 refine A9<|Bm (cs:=[Sl Ag N Cg]) (parts:=[(0,.tmp 78)]) PC NM b3 (by decide) Au ?_
 intro gI gJ fK c4 a1
 clear b3
 obtain⟨b4,G⟩:=AE G
 replace bF:=bF.step c4
 have c5:=(dC.trans (aF.trans (eO.trans c4)))
 replace Fd:=Fd.step c5
 refine A9 (FF (q:=BG (Kc AY (Hm .i64))) (i:=2) (xs:=U) (ys:=[N]) (news:=[Sl Ag N Cg]) PC NM Au (by decide) a1 Au Au Fd Au (Oj.owned' (len:=1) (a1.get (i:=0) Au) Au) (show E0 (BG (Kc AY (Hm .i64))) _ _ [Sl Ag N Cg] [N] from⟨_,_,Au,B8 bF,E0.nil⟩) b4 (by have:=b4;simp only [maxLen,gt];omega) ?_)
 intro b5 b7 eP eQ gK eR a2 b8
 clear a1
 have b9:=a2.drop 0
 have c6:=(a2.dropS 0)
 clear a2
 refine A9<|AQ 3 LA Au PC Au Au<|Bh<|KC (Sl b5 (U++[N]) b7) (cs':=[Sl Aa p.cells Ca,Sl Ab p.capacity Cb,Sl Ac p.variables Cc,Sl b5 (U++[N]) b7]) Ip.p3 PC b9 Au Au Au (BQ Au) Au Au ?_
 intro gL c7 a3
 clear b9
 refine Ax ?_
 clear bF
 refine Av<|A9<|Bg Au Au<|Bb (Iv (wq (A+1))) Au<|Ax ?_
 have dR:=a3.drop 0
 have c8:=(a3.dropS 0)
 clear a3
 have eS:=(c5.trans (eR.trans (c6.trans (c7.trans c8))))
 replace bR:=bR.trans eS
 replace b8:=b8.step (c6.trans (c7.trans c8))
 exact d0 _ _ ⟨(wq (A+1)),U++[N],b5,b7,eP,eQ,_,Au,BB.of ⟨Au,trivial⟩,bR,dR,(AT .i64 _),b8,GV dB G⟩
 refine Bq<|Aw ?_
 obtain⟨a4,bG⟩:=a7.sub (bs':=[(Z,aA),(some b6,Oc [Sl Aa p.cells Ca,Sl Ab p.capacity Cb,Sl Ac p.variables Cc,Sl Ad U Cd] 80)]) (.cons_cons _ (.cons _ (.cons_cons _ (.cons _ List.Sublist.slnil))))
 clear a7
 refine Av<|A9<|B1 1 LA a4 Au Au Au<|Bh<|C6 Ip.p1 LA a4 Au Au Au Au Au ?_
 intro gM bH cA
 clear a4
 refine Ax<|AV ?_
 have eT:=(bG.trans bH)
 replace Fd:=Fd.step eT
 obtain⟨a5,cB,cC⟩:=Gs.publish (i:=0) cA Au Fd
 clear cA
 have hz:=G5 a5
 refine⟨_,DX,[Value.agg [Sl Aa p.cells Ca,Sl Ab p.capacity Cb,Sl Ac p.variables Cc,Sl Ad U Cd].toArray],⟨Qc (cs:=[Sl Aa p.cells Ca,Sl Ab p.capacity Cb,Sl Ac p.variables Cc,Sl Ad U Cd]) (vs:=[Sl Aa p.cells Ca,Sl Ab p.capacity Cb,Sl Ac p.variables Cc,Sl Ad U Cd]) LA (i:=0) a5 Au Au Au Au,trivial⟩,a5.ext,?_⟩
 replace cC:=cC.step hz
 replace Fb:=Fb.step (dZ.trans (aJ.trans (bG.trans (bH.trans (cB.trans hz)))))
 replace Fa:=Fa.step (aO.trans (aJ.trans (bG.trans (bH.trans (cB.trans hz)))))
 have eU:=(aJ.trans (bG.trans (bH.trans (cB.trans hz))))
 replace Fc:=Fc.step eU
 exact Vr.eq (a:=vA La) (x:=(⟨p,U⟩:D7)) (JX (C2 (AW (C2 (AW (B8 Fa) (AW (B8 Fb) (B8 Fc)))) (B8 cC)))) (oi G)

def FO (s:List Int):Option (List Int):=
 ck ((([]:List Int).length+s.length)*8≤140737488355328)<|
 some (([]:List Int)++s)

theorem J2 {w:World} {O:List Nat} {s:List Int} {Aa:Option Addr} {Ca:Nat} (hO:∀k∈O,k<w.heap.size) (Fa:CA (AL .i64) w O Aa Ca s) {x:(List Int)} (F:FO s=some x):
 Px Try.prog 71 [Sl Aa s Ca] w O (AL .i64) 3 x:=by
 unfold FO at F
 refine Br (n:=8) (xs:=[.tmp 2]) Try.func71 Au Try.ntmps71 Try.results71 Au ?_
 have hs:=St.start hO
 refine Aw<|Av<|Bn (Value.slice none 0 0) Au<|Ax<|Aw<|Aw<|Av<|Bb (Sl Aa s Ca) Au<|A9<|Tm Try.underlying31 Au Au<|Ax ?_
 rcases Aa with _ |Y
 have A:=(Fa.nil Au).1
 refine Hu Au<|Aw ?_
 clear Fa
 refine Av<|Bn (Value.slice none 0 0) Au<|Ax<|AV<|⟨_,DX,[Value.slice none 0 0],⟨Au,trivial⟩,hs.ext,?_⟩
 exact Px.mkNil (by simp [ck,A] at F;first |exact F |(subst F;simp [A]) |simpa using F)
 refine GG Au<|AG<|Aw<|Av<|A9<|Bm (cs:=[]) (parts:=[]) Bl B6 hs (by decide) Au ?_
 intro b3 w4 aC p5 J
 refine Bb (Sl (some Y) s Ca) Au ?_
 have f9:=Gs.of_cells (p:=(AL .i64)) (e:=3) (bl:=b3) (c:=0) (w:=w4) (O:=ks [(some b3,Oc [] 3)] O) (show E0 (AL .i64) _ _ [] [] from E0.nil) Au (BQ Au)
 obtain⟨G,F⟩:=AE F
 replace Fa:=Fa.step p5
 obtain⟨M,N,U⟩:=Fa.src
 refine A9 (FF (q:=(AL .i64)) (i:=0) (xs:=([]:List Int)) (ys:=s) (news:=M) Bl B6 Au (by decide) J Au Au f9 Au U N G (by have:=G;simp only [maxLen];omega) ?_)
 intro W X aF aG aH aI I Z
 clear J
 refine Bn (Sl W (([]:List Int)++s) X) Au<|Ax<|AV<|⟨_,DX,[Sl W (([]:List Int)++s) X],⟨Au,trivial⟩,I.ext,?_⟩
 exact Px.mk (i:=0) I Au Z (oi F)
abbrev Xy:List Nat:=[9,21,22,23,24,25,26,27,28,29,30,31,32,33,34,35,36,37,38,39,40,41,42,43,44,45,46]

def Eg (at_:Int) (G:Int) (I:Int) (J:(Int × Int) × (List Int)→Option (List (List Int) × (List Int))) (M:(List Int)→Option (List (List Int) × (List Int))) (A:List Int):Option (List (List Int) × (List Int)):=
 ck ((0:Int)≤at_∧at_<(A.length:Int))<|
 bif (decide ((A.getD at_.toNat default)≤(IntKind.wrap .i64 (I - (IntKind.wrap .i64 (G - at_)))))) then
  ck ((0:Int)≤at_∧at_<(A.length:Int))<|
  T1 (J (((IntKind.wrap .i64 (at_+1)),(IntKind.wrap .i64 ((A.getD at_.toNat default)+1))),A)) (fun(F:List Int)=>
   ck ((0:Int)≤at_∧at_<(F.length:Int))<|
   ck ((0:Int)≤at_∧at_<(F.length:Int))<|
   M (F.set at_.toNat (IntKind.wrap .i64 ((F.getD at_.toNat default)+1))))
 else
  some (([]:List (List Int)),A)

def CP (at_:Int) (from_:Int) (G:Int) (I:Nat) (A:List Int) (J:Int) (M:(Int × Int) × (List Int)→Option (List (List Int) × (List Int))):Option (List (List Int) × (List Int)):=
 bif (decide (at_=G)) then
  (FO A).bind fun F=>
  Yr F (
  some (([]:List (List Int)),A))
 else
  ck ((0:Int)≤at_∧at_<(A.length:Int))<|
  B0 (Eg at_ G J M) 1000000 (A.set at_.toNat from_)

theorem KH {w1:World} {O1:List Nat} {l:Nat} {at_:Int} {from_:Int} {aE:Int} {F:Nat} {aF:List Int} {aK:Int} {aL:(Int × Int) × (List Int)→Option (List (List Int) × (List Int))} {Z:Addr} {aM:Addr} {aA:Addr} {A:Nat} {G:Obj} {Ca:Nat} {aB:Addr} {aC:Addr} (dN:∀k∈O1,k<w1.heap.size) (Ra:Cx .i64 at_) (Rb:Cx .i64 from_) (Fa:Ia (AL .i64) w1 (A::O1) Z aE) (Fb:Ia (L5 (Value.func (.yield l) #[] #[]) Au) w1 (A::O1) aM ()) (hbl:A ∉ O1) (hob:w1.heap[A]?=some G) (Fc:Ia (L5 (Value.slice (some ⟨A,0,none⟩) F Ca) Au) w1 (A::O1) aA ()) (aO:Ar .i64 3 Ca A F G aF) (Fd:Ia (AL .i64) w1 (A::O1) aB aK) (Fe:Ia (UN Try.prog (JF (vC (BG (AL .i64)))) l (Ar .i64 3 Ca A F) A (Iu (vI .i64) (vI .i64))) w1 (A::O1) aC aL) {J Jx:JP (List Int)} (hJ:G1 J) (hJx:G1 Jx) {L:List (List Int)} {mz:List Int} (X:CP at_ from_ aE F aF aK aL=some (L,mz)) (hY:GW Try.prog (JF (vC (BG (AL .i64)))) L l J Jx) (h0:J [] w1 O1 [A]):
 Fn Try.prog 70 [Iv at_,Iv from_,Value.pointer (some Z),Value.pointer (some aM),Value.pointer (some aA),Value.pointer (some aB),Value.pointer (some aC)] w1 fun u w2=>∃O2 o2 m2,A ∉ O2∧w2.heap[A]?=some o2∧Ar .i64 3 Ca A F o2 m2∧((u=.bool true∧m2=mz∧J L w2 O2 [A])∨(u=.bool false∧∃pre,Jx pre w2 O2 [A])):=by
 unfold CP at X
 obtain⟨x,X,hL⟩:∃x,_=some (x,mz)∧L=[]++x:=⟨L,X,Au⟩
 refine Br (n:=47) (xs:=[.tmp 9]) Try.func70 Au Try.ntmps70 Try.results70 Au ?_
 have hs:=St.startW dN hbl hob
 have hI:=LM.startM h0 hbl
 replace Fa:Ia (AL .i64) w1 (ks [(some A,G)] O1) Z aE:=Fa
 replace Fb:Ia (L5 (Value.func (.yield l) #[] #[]) Au) w1 (ks [(some A,G)] O1) aM ():=Fb
 replace Fc:Ia (L5 (Value.slice (some ⟨A,0,none⟩) F Ca) Au) w1 (ks [(some A,G)] O1) aA ():=Fc
 replace Fd:Ia (AL .i64) w1 (ks [(some A,G)] O1) aB aK:=Fd
 replace Fe:Ia (UN Try.prog (JF (vC (BG (AL .i64)))) l (Ar .i64 3 Ca A F) A (Iu (vI .i64) (vI .i64))) w1 (ks [(some A,G)] O1) aC aL:=Fe
 have fA:=aO.2 w1 (ks [(some A,G)] O1);have hlA:F=aF.length:=aO.1.symm
 refine Aw<|Av<|Bn (Bo false) Au<|Ax<|Aw<|Aw<|Av<|Bb (Iv at_) Au<|A9<|AR B6 Au Fa Au ?_
 intro v1 h2
 obtain⟨rfl,Rc⟩:=BK h2
 refine A9<|HI Au Au<|Ax<|AF X Au (fun dP X=>?_) (fun dP X=>?_)
 refine Aw ?_
 clear Fa Fd Fe
 refine B7 (g0:=[]) (m:=3) (fl:=[]) (CQ hs) Au (.inl Au) Au (by decide+kernel) ?_  -- 2
 refine BN (Value.func (.yield l) #[] #[]) (fun fC w6 g I hi N=>?_) ?_
 obtain⟨-,M,-⟩:=I
 replace Fb:=Fb.step M
 refine Ay<|AR Qv (N 3 Au) Fb Au ?_
 intro v8 h9
 obtain rfl:=If h9
 exact Gz hi
 refine BN (Value.slice (some ⟨A,0,none⟩) F Ca) (fun eC fE g I hi N=>?_) ?_
 obtain⟨-,M,-⟩:=I
 replace Fc:=Fc.step M
 refine Ay<|AR Bl (N 4 Au) Fc Au ?_
 intro fF dQ
 obtain rfl:=If dQ
 exact Gz hi
 obtain⟨aG,cO,X⟩:=bd X
 refine Bd (VD _ _ (vC (BG (AL .i64))) aG) (VD.stab _ _) (fun eD fG g I hi N=>?_) ?_
 obtain⟨-,M,-⟩:=I
 replace fA:=fA.step M
 have a3:=(AA.nx hi).1
 refine Ay<|TC (i:=0) Try.call71 hi a3 Au fA (fun h=>J2 (s:=aF) (O:=[]) (by simp) h cO) (WY (Ib (N 14 Au) hlA) Au) ?_
 rintro fH fI cP dR;exact Bs.call hi cP (show Vr.vd (vC (BG (AL .i64))) _ _ _ _ from dR)
 refine BD fun fJ fK cQ cR=>?_
 obtain⟨-,b4,-⟩:=cQ
 obtain⟨aX,cS⟩:=AA.nx cR
 rintro fL b5
 replace b5:Vr.vd (vC (BG (AL .i64))) _ _ _ _:=b5
 obtain⟨Aa,Cb,rfl,Ff⟩:=B9 b5
 rintro _ rfl _ rfl
 have cT:=hs.to aX (b4.trans cS)
 replace Ff:=Ff.step cS
 obtain⟨bU,X,cU⟩:=T3 X
 rw [cU] at hL
 refine A9 (SK (pre:=([]:List _)) (a:=aG) Au Au hY hJ hI aX ⟨bU,by rw [hL];simp⟩ (show(JF (vC (BG (AL .i64)))) _ _ _ _ from⟨_,Au,Jy (B8 Ff)⟩) ?_ ?_)
 intro fM O41 cV dS cW
 clear aX
 have bV:L=(([]:List _)++[aG])++bU:=by rw [hL];simp
 refine Bn (Bo true) Au<|Ax<|AV ?_
 have bO:=cW.finM hJ cV
 obtain⟨cX,cY⟩:=Prod.mk.inj (oi X)
 rw [← cX,List.append_nil] at bV;rw [← bV] at bO
 have dT:=(cT.trans dS)
 replace fA:=fA.step dT
 exact⟨_,DX,[Value.bool true],⟨Au,trivial⟩,_,_,_,bO.2.1,bO.2.2,Ar.of fA hlA.symm,.inl ⟨Au,cY,bO.1⟩⟩
 intro fN O51 cZ dU c0
 clear aX
 refine Bn (Bo false) Au<|Ax<|AV ?_
 have b6:=c0.finM hJx cZ
 have dV:=(cT.trans dU)
 replace fA:=fA.step dV
 exact⟨_,DX,[Value.bool false],⟨Au,trivial⟩,_,_,_,b6.2.1,b6.2.2,Ar.of fA hlA.symm,.inr ⟨Au,_,b6.1⟩⟩
 refine AG<|Aw<|Aw ?_
 clear Fb
 refine Av<|A9<|AR Bl Au Fc Au ?_
 intro fO dW
 obtain rfl:=If dW
 refine Bb (Iv at_) Au<|Bb (Iv from_) Au ?_
 obtain⟨bW,X⟩:=AE X
 refine A9<|BA Bl B6 (Ib Au hlA) Au fA bW ?_
 rintro _ ⟨⟩ -
 refine Bh<|FH (vs:=[Iv from_]) (i:=0) (m:=at_) B6 Au hs Au Au Au Au fA bW (AU Rb) ?_
 intro fP dX dY bX bP
 replace bP:Gs _ _ _ _ _ _ (aF.set at_.toNat from_) _ _:=bP
 have c1:F=(aF.set at_.toNat from_).length:=by simp only [List.length_set];exact hlA
 refine Ax<|AC<|Wr [] [(0,Iv at_),(2,Value.pointer (some Z)),(4,Value.pointer (some aA)),(5,Value.pointer (some aB)),(6,Value.pointer (some aC))] fun eE=>Bf Xy (fun m fr w'=>∃(U:List Int) (aH:Obj) (a4 Y:List (List Int)) (a5:World) (a6 Oz72:List Nat) (bQ:Be),bQ=[(some A,aH)]∧fr [] []∧bX.S (ks bQ Oz72) w'∧St ⟨a5,a6,[]⟩ Oz72 w' bQ∧Gs (AL .i64) 3 w' (ks bQ Oz72) (some ⟨A,0,none⟩) Ca U (some A) aH∧F=U.length∧LM J Y ⟨a5,a6,[]⟩ Oz72∧L=Y++a4∧B0 (Eg at_ aE aK aL) m U=some (a4,mz)) 1000000 ⟨aF.set at_.toNat from_,dX,x,([]:List _),w1,[A],O1,_,Au,BB.of trivial,AA.refl _ _,bX,bP,c1,hI,hL,X⟩ ?_ ?_
 rintro _ _ ⟨_,_,_,_,_,_,_,_,_,_,_,_,_,_,_,_,X⟩;exact CF X
 rintro fQ fR c2 eF fS ⟨U,aH,a4,Y,a5,a6,Oz72,_,rfl,a7,a8,a9,Fg,aD,bY,aP,X⟩
 obtain⟨eG,b7,X⟩:=CG X;unfold Eg at X
 rw [a7.eq];clear a7
 have bA:=a8
 refine Aw<|Aw ?_
 clear bP
 refine B7 (g0:=[]) (m:=9) (fl:=[]) (CQ a9) Au (.inl Au) Au (by decide+kernel) ?_  -- 4
 have bR:=(dY.trans a8)
 replace Fc:=Fc.step bR
 refine BN (Value.slice (some ⟨A,0,none⟩) F Ca) (fun eH fT g I hi N=>?_) ?_
 obtain⟨-,M,-⟩:=I
 replace Fc:=Fc.step M
 refine Ay<|AR Bl (N 4 Au) Fc Au ?_
 intro fU dZ
 obtain rfl:=If dZ
 exact Gz hi
 refine Bc (Iv at_) (fun _ _ _ hi N=>AD (v:=Iv at_) (N 0 Au)<|Gz hi) ?_
 obtain⟨bZ,X⟩:=AE X
 refine BN (Value.pointer (some ⟨A,at_.toNat*1,none⟩)) (fun eI fV g I hi N=>?_) ?_
 obtain⟨-,M,-⟩:=I
 replace Fg:=Fg.step M
 refine Ay<|BA Bl B6 (Ib (N 21 Au) aD) (N 22 Au) Fg bZ ?_
 rintro _ ⟨⟩ -
 exact Gz hi
 refine Bd (VD _ _ (vI .i64) (gt U at_)) (VD.stab _ _) (fun d0 eJ g I hi N=>?_) ?_
 obtain⟨-,M,-⟩:=I
 replace Fg:=Fg.step M
 have a3:=(AA.nx hi).1
 refine Ay<|F0 (m:=at_) (i:=0) B6 Au a3 Au (N 23 Au) Fg bZ ?_
 intro eK c3
 obtain⟨rfl,Rd⟩:=BK c3
 exact Bs.same hi (show Vr.vd (vI .i64) _ _ _ _ from⟨Au,Rd⟩)
 replace Fd:=Fd.step bR
 refine Bd (VD _ _ (vI .i64) aK) (VD.stab _ _) (fun d1 eL g I hi N=>?_) ?_
 obtain⟨-,M,-⟩:=I
 replace Fd:=Fd.step M
 refine Ay<|AR B6 (N 5 Au) Fd Au ?_
 intro eM c4
 obtain⟨rfl,Re⟩:=BK c4
 exact Bs.same hi (show Vr.vd (vI .i64) _ _ _ _ from⟨Au,Re⟩)
 replace Fa:=Fa.step bR
 refine Bd (VD _ _ (vI .i64) aE) (VD.stab _ _) (fun d2 eN g I hi N=>?_) ?_
 obtain⟨-,M,-⟩:=I
 replace Fa:=Fa.step M
 refine Ay<|AR B6 (N 2 Au) Fa Au ?_
 intro eO c5
 obtain⟨rfl,Rf⟩:=BK c5
 exact Bs.same hi (show Vr.vd (vI .i64) _ _ _ _ from⟨Au,Rf⟩)
 refine Bc (Iv at_) (fun _ _ _ hi N=>AD (v:=Iv at_) (N 0 Au)<|Gz hi)<|BN (Iv (wq (aE - at_))) (fun d3 eP g I hi N=>?_) ?_
 have c6:Vr.vd (vI .i64) _ _ _ _:=N 26 Au
 obtain⟨c7,Rg⟩:=c6
 exact Ay<|FN c7 (N 27 Au)<|Gz hi
 refine BN (Iv (wq (aK - (wq (aE - at_))))) (fun d4 eQ g I hi N=>?_) ?_
 have c8:Vr.vd (vI .i64) _ _ _ _:=N 25 Au
 obtain⟨c9,Rh⟩:=c8
 exact Ay<|FN c9 (N 28 Au)<|Gz hi
 refine BD fun eR eS b8 b9=>?_
 obtain⟨-,bS,-⟩:=b8
 obtain⟨aI,dA⟩:=AA.nx b9
 rintro _ rfl _ rfl _ rfl eT bB
 replace bB:Vr.vd (vI .i64) _ _ _ _:=bB
 obtain⟨rfl,Ri⟩:=bB
 rintro eU bC
 replace bC:Vr.vd (vI .i64) _ _ _ _:=bC
 obtain⟨rfl,Rj⟩:=bC
 rintro eV bD
 replace bD:Vr.vd (vI .i64) _ _ _ _:=bD
 obtain⟨rfl,Rk⟩:=bD
 rintro _ rfl _ rfl _ rfl
 have aQ:=a9.to aI (bS.trans dA)
 clear a9
 refine A9<|JS Au Au<|Ax<|AF X Au (fun cA X=>?_) (fun cA X=>?_)
 refine AG<|Aw<|AC<|Aw<|B7 (g0:=[]) (m:=8) (fl:=[]) (CQ aI) Au (.inl Au) Au (by decide+kernel) ?_  -- 6
 replace Fe:=Fe.step (bR.trans aQ)
 refine Bd (VD _ _ (Wb Try.prog (JF (vC (BG (AL .i64)))) l (Ar .i64 3 Ca A F) A (Iu (vI .i64) (vI .i64))) aL) (VD.stab _ _) (fun d5 eW g I hi N=>?_) ?_
 obtain⟨-,M,-⟩:=I
 replace Fe:=Fe.step M
 refine Ay<|AR Sq (N 6 Au) Fe Au ?_
 intro eX b0
 have F160:=TA b0;clear b0
 exact Bs.same hi (show Vr.vd (Wb Try.prog (JF (vC (BG (AL .i64)))) l (Ar .i64 3 Ca A F) A (Iu (vI .i64) (vI .i64))) _ _ _ _ from F160)
 refine Bc (Iv at_) (fun _ _ _ hi N=>AD (v:=Iv at_) (N 0 Au)<|Gz hi)<|Bc (Iv (wq (at_+1))) (fun _ _ _ hi N=>Bg (N 38 Au) Au<|Gz hi) ?_
 replace Fc:=Fc.step aQ
 refine BN (Value.slice (some ⟨A,0,none⟩) F Ca) (fun d6 eY g I hi N=>?_) ?_
 obtain⟨-,M,-⟩:=I
 replace Fc:=Fc.step M
 refine Ay<|AR Bl (N 4 Au) Fc Au ?_
 intro eZ dB
 obtain rfl:=If dB
 exact Gz hi
 refine Bc (Iv at_) (fun _ _ _ hi N=>AD (v:=Iv at_) (N 0 Au)<|Gz hi) ?_
 obtain⟨bE,X⟩:=AE X
 replace Fg:=Fg.step aQ
 refine BN (Value.pointer (some ⟨A,at_.toNat*1,none⟩)) (fun d7 e0 g I hi N=>?_) ?_
 obtain⟨-,M,-⟩:=I
 replace Fg:=Fg.step M
 refine Ay<|BA Bl B6 (Ib (N 40 Au) aD) (N 41 Au) Fg bE ?_
 rintro _ ⟨⟩ -
 exact Gz hi
 refine Bd (VD _ _ (vI .i64) (gt U at_)) (VD.stab _ _) (fun d8 e1 g I hi N=>?_) ?_
 obtain⟨-,M,-⟩:=I
 replace Fg:=Fg.step M
 have a3:=(AA.nx hi).1
 refine Ay<|F0 (m:=at_) (i:=0) B6 Au a3 Au (N 42 Au) Fg bE ?_
 intro e2 dC
 obtain⟨rfl,Rl⟩:=BK dC
 exact Bs.same hi (show Vr.vd (vI .i64) _ _ _ _ from⟨Au,Rl⟩)
 refine BN (Iv (wq ((gt U at_)+1))) (fun d9 e3 g I hi N=>?_) ?_
 have dD:Vr.vd (vI .i64) _ _ _ _:=N 43 Au
 obtain⟨dE,Rm⟩:=dD
 exact Ay<|Bg dE Au<|Gz hi
 refine BD fun b1 e4 cB cC=>?_
 obtain⟨-,bT,-⟩:=cB
 obtain⟨aN,b2⟩:=AA.nx cC
 rintro _ rfl e5 bF
 replace bF:Vr.vd (vI .i64) _ _ _ _:=bF
 obtain⟨rfl,Rn⟩:=bF
 rintro _ rfl _ rfl _ rfl _ rfl _ rfl dF bG
 replace bG:Vr.vd (Wb Try.prog (JF (vC (BG (AL .i64)))) l (Ar .i64 3 Ca A F) A (Iu (vI .i64) (vI .i64))) _ _ _ _:=bG
 have F209:=bG
 replace F209:H1 Try.prog (JF (vC (BG (AL .i64)))) l (Ar .i64 3 Ca A F) A _ _ dF (Iu (vI .i64) (vI .i64)) aL:=F209
 have bH:=aI.to aN (bT.trans b2)
 replace F209:=F209.step b2;clear aI
 obtain⟨A211,W,aU,cD,X,cE⟩:=SI X
 rw [cE] at aP
 replace Fg:=Fg.step bH
 refine A9 (Nc (pre:=Y) (Lx:=A211) (i:=0) (mp:=U) (mz:=W) Au F209 Au KT (show Iu (vI .i64) (vI .i64) ((wq (at_+1)),(wq ((gt U at_)+1))) _ _ _ from⟨_,_,Au,⟨Au,(AT .i64 _)⟩,⟨Au,(AT .i64 _)⟩⟩) cD hY hJ hJx bY aN Au (Ar.of Fg aD.symm) ⟨aU,by rw [aP];simp⟩ ?_ ?_)
 intro aR O216 aS aJ aY cF bI
 replace aJ:St ⟨aR,List.filterMap Prod.fst [(some A,aS)],[]⟩ O216 aR [(some A,aS)]:=aJ
 replace aY:AA (ks [(some A,aH)] Oz72) b1 (ks [(some A,aS)] O216) aR:=aY
 clear aN
 have aZ:=bI.2 aR (ks [(some A,aS)] O216);have aV:F=W.length:=bI.1.symm;clear bI
 have cG:L=(Y++A211)++aU:=by rw [aP];simp
 refine A9<|Do Au<|Ax<|GG Au<|AG ?_
 clear F209
 refine Av ?_
 have dG:=(bH.trans aY)
 replace Fc:=Fc.step dG
 refine A9<|AR Bl Au Fc Au ?_
 intro e6 dH
 obtain rfl:=If dH
 refine Bb (Iv at_) Au ?_
 obtain⟨bJ,X⟩:=AE X
 refine A9<|BA Bl B6 (Ib Au aV) Au aZ bJ ?_
 rintro _ ⟨⟩ -
 refine A9<|F0 (m:=at_) (i:=0) B6 Au aJ Au Au aZ bJ ?_
 intro e7 dI
 obtain⟨rfl,Ro⟩:=BK dI
 refine A9<|Bg Au Au ?_
 obtain⟨bK,X⟩:=AE X
 refine A9<|BA Bl B6 (Ib Au aV) Au aZ bK ?_
 rintro _ ⟨⟩ -
 refine Bh<|FH (vs:=[Iv (wq ((gt W at_)+1))]) (i:=0) (m:=at_) B6 Au aJ Au Au Au Au aZ bK (AU (AT .i64 _)) ?_
 intro e8 dJ dK cH bL
 replace bL:Gs _ _ _ _ _ _ (W.set at_.toNat (wq ((gt W at_)+1))) _ _:=bL
 clear aJ
 have cI:F=(W.set at_.toNat (wq ((gt W at_)+1))).length:=by simp only [List.length_set];exact aV
 refine Ax ?_
 have dL:=(aQ.trans (bH.trans (aY.trans dK)))
 replace bA:=bA.trans dL
 exact c2 _ _ ⟨W.set at_.toNat (wq ((gt W at_)+1)),dJ,aU,Y++A211,aR,List.filterMap Prod.fst [(some A,aS)],O216,_,Au,BB.of trivial,bA,cH,bL,cI,cF,cG,Dc b7 X⟩
 intro a0 O244 a1 cJ _ aW b3 cK bM
 replace aW:St ⟨a0,List.filterMap Prod.fst [(some A,a1)],[]⟩ O244 a0 [(some A,a1)]:=aW
 replace b3:AA (ks [(some A,aH)] Oz72) b1 (ks [(some A,a1)] O244) a0:=b3
 clear aN
 have dM:=bM.2 a0 (ks [(some A,a1)] O244);have cL:F=cJ.length:=bM.1.symm;clear bM
 refine A9<|Do Au<|Ax<|Hu Au<|Aw ?_
 clear Fa Fc Fd Fe F209
 refine Av<|Bn (Bo false) Au<|Ax<|AV ?_
 have bN:=cK.finM hJx aW
 exact⟨_,DX,[Value.bool false],⟨Au,trivial⟩,_,_,_,bN.2.1,bN.2.2,Ar.of dM cL.symm,.inr ⟨Au,_,bN.1⟩⟩
 refine Bq<|Aw ?_
 clear Fa Fc Fd Fe
 refine Av<|Bn (Bo true) Au<|Ax<|AV ?_
 have a2:=bY.finM hJ aI
 obtain⟨cM,cN⟩:=Prod.mk.inj (oi X)
 rw [← cM,List.append_nil] at aP;rw [← aP] at a2
 replace Fg:=Fg.step aQ
 exact⟨_,DX,[Value.bool true],⟨Au,trivial⟩,_,_,_,a2.2.1,a2.2.2,Ar.of Fg aD.symm,.inl ⟨Au,cN,a2.1⟩⟩

def GQ (A:Int) (G:Int):Option (List (List Int)):=
 ck ((0:Int)≤A∧A≤A∧(8:Int)*A≤281474976710656∧A≤281474976710656)<|
 T2 ((Ow (fun I F=>CP F.1.1 F.1.2 A ((List.replicate A.toNat (0:Int)).length) F.2 G I) 1000000) ((0,0),List.replicate A.toNat (0:Int))) (fun(J:List Int)=>
  some ([]:List (List Int)))

theorem LC {w:World} {O:List Nat} {A:Int} {W:Int} {F:Addr} {G:Addr} (hO:∀k∈O,k<w.heap.size) (Fa:Ia (AL .i64) w O F A) (Fb:Ia (AL .i64) w O G W) {L:List (List Int)} (hm:GQ A W=some L):
 MX Try.prog w O 69 [Value.pointer (some F),Value.pointer (some G)] (JF (vC (BG (AL .i64)))) L:=by
 unfold GQ at hm
 obtain⟨x,hm,hL⟩:∃x,_=some x∧L=[]++x:=⟨L,hm,Au⟩
 intro w1 O1 bA bT l J Jx hJ hJx hY h0
 refine Br (n:=11) (xs:=[]) Try.func69 Au Try.ntmps69 Try.results69 Au ?_
 have hs:=St.start bT
 have hI:=LM.start h0
 refine Aw<|Av<|A9<|BT (cs:=[Value.func (.yield l) #[] #[]]) hs Au Au ?_
 intro b1 w2 _ p3 bB
 refine Ax<|Aw<|Av ?_
 have p8:=(bA.trans p3)
 replace Fa:=Fa.step p8
 refine A9<|AR B6 Au Fa Au ?_
 intro v6 h7
 obtain⟨rfl,Ra⟩:=BK h7
 obtain⟨bC,hm⟩:=AE hm
 refine A9<|GC (q:=(AL .i64)) (v:=Iv 0) (x0:=(0:Int)) Bl B6 bB Au Au bC Au (fun _ _=>(AU E1)) ?_
 intro I b9 b0 bD aM aX
 clear bB
 refine A9<|Bv Bl aM ?_
 intro N cA _ aY aN
 clear aM
 refine Bh<|F1 (Sl (some ⟨I,0,none⟩) (List.replicate A.toNat (0:Int)) A.toNat) .z Bl aN Au Au Au Au ?_
 intro cB aZ aO
 clear aN
 refine Ax<|Aw<|Av<|A9<|Bv Sq aO ?_
 intro M cC _ a0 aP
 clear aO
 refine Ax<|Aw<|Av ?_
 obtain⟨aQ,a1,aE⟩:=St.publishP (p:=L5 (Value.func (.yield l) #[] #[]) Au) (i:=3) (x:=()) aP Au Au
 clear aP
 obtain⟨aR,aF,aG⟩:=St.publishP (p:=L5 (Sl (some ⟨I,0,none⟩) (List.replicate A.toNat (0:Int)) A.toNat) Au) (i:=1) (x:=()) aQ Au Au
 clear aQ
 refine A9<|Gl (a':=[]) (c':=[Value.pointer (some F),Value.pointer (some (⟨b1,0,none⟩:Addr)),Value.pointer (some (⟨N,0,none⟩:Addr)),Value.pointer (some G),Pt M 0]) Au Au<|Bh<|HJ (cs:=[Value.nilFunc]) (vs:=[Value.func (.func 70) #[] #[Value.pointer (some F),Value.pointer (some (⟨b1,0,none⟩:Addr)),Value.pointer (some (⟨N,0,none⟩:Addr)),Value.pointer (some G),Pt M 0]]) (cs':=[Value.func (.func 70) #[] #[Value.pointer (some F),Value.pointer (some (⟨b1,0,none⟩:Addr)),Value.pointer (some (⟨N,0,none⟩:Addr)),Value.pointer (some G),Pt M 0]]) (bs':=[(some M,Oc [Value.func (.func 70) #[] #[Value.pointer (some F),Value.pointer (some (⟨b1,0,none⟩:Addr)),Value.pointer (some (⟨N,0,none⟩:Addr)),Value.pointer (some G),Pt M 0]] 118),(some I,Obj.cells (List.replicate A.toNat (Iv 0)).toArray 3)]) (i:=0) Sq aR Au Au Au Au Au (BQ Au) Au Au Au ?_
 intro a2 X aS
 clear aR
 obtain⟨Y,Z,a3⟩:=St.publishP (p:=L5 (Value.func (.func 70) #[] #[Value.pointer (some F),Value.pointer (some (⟨b1,0,none⟩:Addr)),Value.pointer (some (⟨N,0,none⟩:Addr)),Value.pointer (some G),Pt M 0]) Au) (i:=0) (x:=()) aS Au Au
 clear aS
 have F45:∀n,H1 Try.prog (JF (vC (BG (AL .i64)))) l (Ar .i64 3 A.toNat I ((List.replicate A.toNat (0:Int)).length)) I a2 (ks [(some I,Obj.cells (List.replicate A.toNat (Iv 0)).toArray 3)] O1) (Value.func (.func 70) #[] #[Value.pointer (some F),Value.pointer (some (⟨b1,0,none⟩:Addr)),Value.pointer (some (⟨N,0,none⟩:Addr)),Value.pointer (some G),Pt M 0]) (Iu (vI .i64) (vI .i64)) (Ow (fun aT a4=>CP a4.1.1 a4.1.2 A ((List.replicate A.toNat (0:Int)).length) a4.2 W aT) n):=by
  refine H1.fix (fun aT a5=>⟨⟨_,_,Au⟩,?_⟩)
  intro cD O48 cE b2 U bE bF bG bH J56 Jx57 bI a6 cF cG L62 b3 bJ a7 bK bU
  obtain⟨cH,cI,rfl,bV,bW⟩:=bJ
  obtain⟨rfl,Rb⟩:=bV
  obtain⟨rfl,Rc⟩:=bW
  replace aE:=aE.step (aF.trans (X.trans Z))
  replace aG:=aG.step (X.trans Z)
  replace Fa:=Fa.step (bD.trans (aY.trans (aZ.trans (a0.trans (a1.trans (aF.trans (X.trans Z)))))))
  replace Fb:=Fb.step (p8.trans (bD.trans (aY.trans (aZ.trans (a0.trans (a1.trans (aF.trans (X.trans Z))))))))
  exact⟨70,#[],#[Value.pointer (some F),Value.pointer (some (⟨b1,0,none⟩:Addr)),Value.pointer (some (⟨N,0,none⟩:Addr)),Value.pointer (some G),Pt M 0],Au,Try.call70,KH bH Rb Rc (Fa.step U) (aE.step U) bE bF (aG.step U) bG (Fb.step U) ((a3.step U).sbX (a5.step U)) bI a6 a7 bK bU⟩
 have bX:=a3.sbX (F45 1000000);clear F45
 refine Ax ?_
 clear Fa Fb aE aG a3
 refine Av<|A9<|AR Sq Au bX Au ?_
 intro cJ bL
 have F77:=TA bL;clear bL
 obtain⟨A78,aA,aU,bM,hm,bN⟩:=SJ hm
 rw [bN] at hL
 replace aX:=aX.step (aY.trans (aZ.trans (a0.trans (a1.trans (aF.trans (X.trans Z))))))
 refine A9 (Nc (pre:=([]:List _)) (Lx:=A78) (i:=0) (mp:=List.replicate A.toNat (0:Int)) (mz:=aA) Au F77 Au KT (show Iu (vI .i64) (vI .i64) (0,0) _ _ _ from⟨_,_,Au,⟨Au,E1⟩,⟨Au,E1⟩⟩) bM hY hJ hJx hI Y Au (Ar.of aX rfl.symm) ⟨aU,by rw [hL];simp⟩ ?_ ?_)
 intro aH O83 aI aB bO bP a8
 replace aB:St ⟨aH,List.filterMap Prod.fst [(some I,aI)],[]⟩ O83 aH [(some I,aI)]:=aB
 replace bO:AA (ks [(some I,Obj.cells (List.replicate A.toNat (Iv 0)).toArray 3)] O1) a2 (ks [(some I,aI)] O83) aH:=bO
 clear Y
 have cK:=a8.2 aH (ks [(some I,aI)] O83);have b4:(List.replicate A.toNat (0:Int)).length=aA.length:=a8.1.symm;clear a8
 have aV:L=(([]:List _)++A78)++aU:=by rw [hL];simp
 refine Ax ?_
 have bQ:=bP.fin hJ aB
 rw [← Option.some.inj hm,List.append_nil] at aV;rw [← aV] at bQ
 exact⟨_,DX,[],trivial,_,.inl bQ⟩
 intro aJ O95 aK a9 _ aC bR bS aD
 replace aC:St ⟨aJ,List.filterMap Prod.fst [(some I,aK)],[]⟩ O95 aJ [(some I,aK)]:=aC
 replace bR:AA (ks [(some I,Obj.cells (List.replicate A.toNat (Iv 0)).toArray 3)] O1) a2 (ks [(some I,aK)] O95) aJ:=bR
 clear Y
 have b5:=aD.2 aJ (ks [(some I,aK)] O95);have bY:(List.replicate A.toNat (0:Int)).length=a9.length:=aD.1.symm;clear aD
 exact Ax<|⟨_,DX,[],trivial,_,.inr ⟨_,bS.fin hJx aC⟩⟩

def Gv (n:Int) (k:Int):Option (List (List Int)):=
 (GQ k n).bind fun A=>
 some A

theorem JK {w:World} {O:List Nat} {n:Int} {k:Int} (hO:∀k∈O,k<w.heap.size) (Ra:Cx .i64 n) (Rb:Cx .i64 k) {x:(List (List Int))} (X:Gv n k=some x):
 Ok Try.prog 45 [Iv n,Iv k] w O (Vj Try.prog (JF (vC (BG (AL .i64))))) x:=by
 unfold Gv at X
 refine Br (n:=6) (xs:=[.tmp 4]) Try.func45 Au Try.ntmps45 Try.results45 Au ?_
 have hs:=St.start hO
 refine Aw<|Av<|A9<|BT (cs:=[Iv n]) hs Au Au ?_
 intro I w2 _ p3 J
 refine A9<|BT (cs:=[Iv k]) J Au Au ?_
 intro M w7 _ p8 N
 clear J
 refine Bn (Value.nilFunc) Au<|Ax<|Aw<|Av ?_
 obtain⟨F,aB,G⟩:=St.publishP (p:=(AL .i64)) (i:=0) (x:=k) N Au (AU Rb)
 clear N
 obtain⟨A,Y,Z⟩:=St.publishP (p:=(AL .i64)) (i:=0) (x:=n) F Au (AU Ra)
 clear F
 refine A9<|Gl (a':=[]) (c':=[Value.pointer (some (⟨M,0,none⟩:Addr)),Value.pointer (some (⟨I,0,none⟩:Addr))]) Au Au ?_
 obtain⟨U,W,X⟩:=bd X
 replace G:=G.step Y
 have F18:U0 Try.prog (JF (vC (BG (AL .i64)))) w7 (ks [] O) (Value.func (.func 69) #[] #[Value.pointer (some (⟨M,0,none⟩:Addr)),Value.pointer (some (⟨I,0,none⟩:Addr))]) U:=⟨69,[Value.pointer (some (⟨M,0,none⟩:Addr)),Value.pointer (some (⟨I,0,none⟩:Addr))],Au,Try.call69,LC A.ltw G Z W⟩
 refine Bn (Value.func (.func 69) #[] #[Value.pointer (some (⟨M,0,none⟩:Addr)),Value.pointer (some (⟨I,0,none⟩:Addr))]) Au<|Ax<|AV ?_
 have hz:=G5 A
 refine⟨_,DX,[Value.func (.func 69) #[] #[Value.pointer (some (⟨M,0,none⟩:Addr)),Value.pointer (some (⟨I,0,none⟩:Addr))]],⟨Au,trivial⟩,A.ext,?_⟩
 replace F18:=F18.step hz
 exact Vr.eq (a:=Vj Try.prog (JF (vC (BG (AL .i64))))) (x:=U) F18 (oi X)

abbrev Vx:List Nat:=[10,11,35,36,37,38,39,40,41,42,43,44,45,46,47,48,49,50,51,52,53,54,55,56,57,58,59,60,61,62,63]

abbrev Vy:List Nat:=[13,14,70,71,72,73,74,75,76,77,78,79,80,81,82,83,84,85,86,87,88,89,90,91,92,93,94,95,96,97,98]

abbrev Qw:List Nat:=[7,9,10,11,12,13,14,29,30,31,32,33,34,35,36,37,38,39,40,41,42,43,44,45,46,47,48,49,50,51,52,53,54,55,56,57,58,59,60,61,62,63,64,65,66,67,68,69,70,71,72,73,74,75,76,77,78,79,80,81,82,83,84,85,86,87,88,89,90,91,92,93,94,95,96,97,98,99,100,101]

def E5 {σ:Type} [DecidableEq σ] (J:Int) (I:Int→(List (Az × Bool))→(List (Az × Int))→σ→Option (Bool × (List (Az × Bool)) × (List (Az × Int)) × σ)) (A:Bool × (List (Az × Bool)) × (List (Az × Int)) × σ) (F:List (Az × Bool)) (G:List (Az × Int)):Option (Bool × (List (Az × Bool)) × (List (Az × Int)) × σ):=
 bif (!A.1) then
  some (false,F,G,A.2.2.2)
 else
  I (IntKind.wrap .i64 (J+1)) F G A.2.2.2

def D9 {σ:Type} [DecidableEq σ] (t:D7) (G:(List (Az × Bool))→(List (Az × Int))→Option (Bool × (List (Az × Bool)) × (List (Az × Int)) × σ)) (A:Az × Int) (I:List (Az × Bool)) (F:List (Az × Int)):Option (Bool × (List (Az × Bool)) × (List (Az × Int)) × σ):=
 ck ((0:Int)≤A.1.leaf∧A.1.leaf<(t.p.capacity.length:Int))<|
 ck ((0:Int)≤A.1.cell∧A.1.cell<((t.p.capacity.getD A.1.leaf.toNat default).length:Int))<|
 bif (decide (((Bu (Dp (Dp F A.1 ((Bu F A.1).getD 0)) A.1 (IntKind.wrap .i64 (((Bu F A.1).getD 0) - A.2))) A.1).getD 0)≤((t.p.capacity.getD A.1.leaf.toNat default).getD A.1.cell.toNat default))) then
  G (Nt I A.1) (Dp (Dp F A.1 ((Bu F A.1).getD 0)) A.1 (IntKind.wrap .i64 (((Bu F A.1).getD 0) - A.2)))
 else
  G I (Dp (Dp F A.1 ((Bu F A.1).getD 0)) A.1 (IntKind.wrap .i64 (((Bu F A.1).getD 0) - A.2)))

def E6 {σ:Type} [DecidableEq σ] (l:List Int) (t:D7) (fx:(List Int)→(List (Az × Bool))→(List (Az × Int))→σ→Option (Bool × (List (Az × Bool)) × (List (Az × Int)) × σ)) (J:Int) (M:σ) (F:Int→(List (Az × Bool))→(List (Az × Int))→σ→Option (Bool × (List (Az × Bool)) × (List (Az × Int)) × σ)) (G:List (Az × Bool)) (I:List (Az × Int)):Option (Bool × (List (Az × Bool)) × (List (Az × Int)) × σ):=
 ck ((0:Int)≤1∧(1:Int)≤(l.length:Int))<|
 (fx ((l.drop 1).take (l.length - 1)) G I M).bind fun A=>
 Jq (D9 t) (E5 J F A) ((t.uses.getD (l.getD 0 default).toNat default).getD J.toNat default) A.2.1 A.2.2.1

def DA {σ:Type} [DecidableEq σ] (t:D7) (G:(List (Az × Bool))→(List (Az × Int))→Option (Bool × (List (Az × Bool)) × (List (Az × Int)) × σ)) (A:Az × Int) (I:List (Az × Bool)) (F:List (Az × Int)):Option (Bool × (List (Az × Bool)) × (List (Az × Int)) × σ):=
 ck ((0:Int)≤A.1.leaf∧A.1.leaf<(t.p.capacity.length:Int))<|
 ck ((0:Int)≤A.1.cell∧A.1.cell<((t.p.capacity.getD A.1.leaf.toNat default).length:Int))<|
 bif (decide (((t.p.capacity.getD A.1.leaf.toNat default).getD A.1.cell.toNat default)<((Bu (Dp (Dp F A.1 ((Bu F A.1).getD 0)) A.1 (IntKind.wrap .i64 (((Bu F A.1).getD 0)+A.2))) A.1).getD 0))) then
  G (Dp I A.1 true) (Dp (Dp F A.1 ((Bu F A.1).getD 0)) A.1 (IntKind.wrap .i64 (((Bu F A.1).getD 0)+A.2)))
 else
  G I (Dp (Dp F A.1 ((Bu F A.1).getD 0)) A.1 (IntKind.wrap .i64 (((Bu F A.1).getD 0)+A.2)))

def CX {σ:Type} [DecidableEq σ] (l:List Int) (t:D7) (fx:(List Int)→(List (Az × Bool))→(List (Az × Int))→σ→Option (Bool × (List (Az × Bool)) × (List (Az × Int)) × σ)) (J:Int→(List (Az × Bool))→(List (Az × Int))→σ→Option (Bool × (List (Az × Bool)) × (List (Az × Int)) × σ)) (A:Int) (F:List (Az × Bool)) (G:List (Az × Int)) (I:σ):Option (Bool × (List (Az × Bool)) × (List (Az × Int)) × σ):=
 bif (decide (A<((t.uses.getD (l.getD 0 default).toNat default).length:Int))) then
  ck ((0:Int)≤A∧A<((t.uses.getD (l.getD 0 default).toNat default).length:Int))<|
  Jq (DA t) (E6 l t fx A I J) ((t.uses.getD (l.getD 0 default).toNat default).getD A.toNat default) F G
 else
  some (true,F,G,I)

def BU {σ:Type} [DecidableEq σ] (l:List Int) (D:List (Az × Bool)→σ→Option (Bool × σ)) (bad:List (Az × Bool)) (t:D7) (demand:List (Az × Int)) (fx:(List Int)→(List (Az × Bool))→(List (Az × Int))→σ→Option (Bool × (List (Az × Bool)) × (List (Az × Int)) × σ)) (s0:σ):Option (Bool × (List (Az × Bool)) × (List (Az × Int)) × σ):=
 bif (decide ((l.length:Int)=0)) then
  (D bad s0).bind fun A=>
  some (A.1,bad,demand,A.2)
 else
  ck ((0:Int)≤0∧0<(l.length:Int))<|
  ck ((0:Int)≤(l.getD 0 default)∧(l.getD 0 default)<(t.uses.length:Int))<|
  KA (CX l t fx) ((((t.uses.getD (l.getD 0 default).toNat default).length:Int) - 0).toNat+1) 0 bad demand s0

theorem IX {σ:Type} [DecidableEq σ] {w:World} {O:List Nat} {l:List Int} {D:List (Az × Bool)→σ→Option (Bool × σ)} {bad:List (Az × Bool)} {t:D7} {demand:List (Az × Int)} {fx:(List Int)→(List (Az × Bool))→(List (Az × Int))→σ→Option (Bool × (List (Az × Bool)) × (List (Az × Int)) × σ)} {s0:σ} {Aa:Option Addr} {Ca:Nat} {b1 X:Nat} {o1 o2:Obj} {L1:Be} {S:Sx σ} {p_done:Addr} {p_bad:Addr} {p_t:Addr} {p_demand:Addr} {p_try:Addr} (iL:I8 w O ((some b1,o1)::(some X,o2)::L1)) (Fa:CA (AL .i64) w (ks ((some b1,o1)::(some X,o2)::L1) O) Aa Ca l) (Fb:Ia (Ys Try.prog AY HA S) w (ks ((some b1,o1)::(some X,o2)::L1) O) p_done D) (Fc:Ia (L5 (Value.map (some b1)) Au) w (ks ((some b1,o1)::(some X,o2)::L1) O) p_bad ()) (Fd:Ia La w (ks ((some b1,o1)::(some X,o2)::L1) O) p_t t) (Fe:Ia (L5 (Value.map (some X)) Au) w (ks ((some b1,o1)::(some X,o2)::L1) O) p_demand ()) (Ff:Ia (Wc Try.prog AY HA AY (Hm .i64) S b1 X (vC (BG (AL .i64)))) w (ks ((some b1,o1)::(some X,o2)::L1) O) p_try fx) (fD:Mo AY HA o1 bad) (gI:Mo AY (Hm .i64) o2 demand) (fS:Ox S w (ks ((some b1,o1)::(some X,o2)::L1) O) L1 s0) {x0:Bool} {y1:List (Az × Bool)} {y2:List (Az × Int)} {ys:σ} (U:BU l D bad t demand fx s0=some (x0,y1,y2,ys)):
 Fn Try.prog 76 [Sl Aa l Ca,Value.pointer (some p_done),Value.pointer (some p_bad),Value.pointer (some p_t),Value.pointer (some p_demand),Value.pointer (some p_try)] w fun u w2=>∃fE fF L2,Jz w ((some b1,o1)::(some X,o2)::L1) w2 O ((some b1,fE)::(some X,fF)::L2)∧Mo AY HA fE y1∧Mo AY (Hm .i64) fF y2∧Ox S w2 (ks ((some b1,fE)::(some X,fF)::L2) O) L2 ys∧u=.bool x0:=by
 unfold BU at U
 refine Br (n:=102) (xs:=[.tmp 7]) Try.func76 Au Try.ntmps76 Try.results76 Au ?_
 obtain⟨x,hxm⟩:∃x,x=(x0,y1,y2,ys):=⟨_,Au⟩
 rw [← hxm] at U
 have hs:St ⟨w,List.filterMap Prod.fst ((some b1,o1)::(some X,o2)::L1),[]⟩ O w ((some b1,o1)::(some X,o2)::L1):=iL
 have hO:=hs.lt0
 refine Aw<|Av<|Bn (Bo false) Au<|Ax<|Aw<|Aw<|Av<|Bb (Sl Aa l Ca) Au<|A9<|AZ Try.underlying31 Au ?_
 have mZ:=AX Fa
 refine A9<|HI Au Au<|Ax<|AF U Au (fun iO U=>?_) (fun iO U=>?_)
 refine Aw ?_
 clear Fa Fd Fe Ff
 refine Av<|A9<|AR Xg Au Fb Au ?_
 intro v3 h4
 have F5:=Xb h4;clear h4
 refine A9<|AR LB Au Fc Au ?_
 intro v6 h7
 obtain rfl:=If h7
 obtain⟨aQ,iP,U⟩:=bd U
 refine A9<|TD (i:=0) (rr:=aQ.1) (s':=aQ.2) [(some b1,o1),(some X,o2)] L1 hs Au Au F5 Au fD fS iP ?_
 intro w9 L10 gJ cX cY
 replace gJ:AA _ _ (ks ((some b1,o1)::(some X,o2)::L10) O) w9:=gJ
 replace cX:St ⟨w,List.filterMap Prod.fst ((some b1,o1)::(some X,o2)::L1),[]⟩ O w9 ((some b1,o1)::(some X,o2)::L10):=cX
 replace cY:Ox S w9 (ks ((some b1,o1)::(some X,o2)::L10) O) L10 aQ.2:=cY
 refine Bn (Bo aQ.1) Au<|Ax<|AV ?_
 have eK:=(oi U).trans hxm;simp only [Prod.mk.injEq] at eK;obtain⟨gK,rfl,rfl,rfl⟩:=eK
 exact⟨_,DX,[Bo aQ.1],⟨Au,trivial⟩,_,_,_,St.backB cX,fD,gI,cY,congrArg Value.bool gK⟩
 refine AG<|Aw<|Aw ?_
 clear Fb
 refine B7 (g0:=[]) (m:=9) (fl:=[]) (CQ hs) Au (.inl Au) Au (by decide+kernel) ?_  -- 3
 refine Bd (VP _ _ (BG (BG (Kc AY (Hm .i64)))) t.uses) (VP.stab _ _) (fun j3 m1 g I hi G=>?_) ?_
 obtain⟨-,aN,-⟩:=I
 replace Fd:=Fd.step aN
 refine Ay<|B5 LA Au PC (by decide) (G 3 Au) Au ?_
 have iR:=Fd.via.snd
 exact Bs.same hi ⟨_,Au,iR⟩
 refine Bd (VD _ _ (vC (BG (BG (Kc AY (Hm .i64))))) t.uses) (VD.stab _ _) (fun j4 m2 g I hi G=>?_) ?_
 obtain⟨m3,iS,iT⟩:=G 21 Au
 refine Ay<|AR PC iS iT Au ?_
 intro m4 iU
 obtain⟨Ab,Cb,rfl,Fg⟩:=B9 iU
 exact Bs.same hi (show Vr.vd (vC (BG (BG (Kc AY (Hm .i64))))) _ _ _ _ from(Jy (B8 Fg)))
 refine Bc (Sl Aa l Ca) (fun _ _ _ hi G=>AD (v:=Sl Aa l Ca) (G 0 Au)<|Gz hi) ?_
 obtain⟨eL,U⟩:=AE U
 refine Bd (VP _ _ (AL .i64) (l.getD 0 default)) (VP.stab _ _) (fun j5 m5 g I hi G=>?_) ?_
 obtain⟨-,aN,-⟩:=I
 replace Fa:=Fa.step aN
 refine Ay<|AB (q:=(AL .i64)) Bl B6 (G 23 Au) Au Fa Au eL.1 eL.2 ?_
 intro m6 iV
 exact Bs.same hi ⟨_,Au,iV⟩
 refine Bd (VD _ _ (vI .i64) (l.getD 0 default)) (VD.stab _ _) (fun j6 m7 g I hi G=>?_) ?_
 obtain⟨m8,iW,iX⟩:=G 24 Au
 refine Ay<|AR B6 iW iX Au ?_
 intro m9 iY
 obtain⟨rfl,Ra⟩:=BK iY
 exact Bs.same hi (show Vr.vd (vI .i64) _ _ _ _ from⟨Au,Ra⟩)
 obtain⟨eM,U⟩:=AE U
 refine Bd (VP _ _ (BG (Kc AY (Hm .i64))) (gt t.uses (l.getD 0 default))) (VP.stab _ _) (fun j7 nA g I hi G=>?_) ?_
 have iZ:Vr.vd (vI .i64) _ _ _ _:=G 25 Au
 obtain⟨i0,Rb⟩:=iZ
 have i1:Vr.vd (vC (BG (BG (Kc AY (Hm .i64))))) _ _ _ _:=G 22 Au
 obtain⟨Ac,Cc,i2,Fh⟩:=B9 i1
 refine Ay<|AB (q:=BG (Kc AY (Hm .i64))) PC NM i2 i0 Fh Au eM.1 eM.2 ?_
 intro nB i3
 exact Bs.same hi ⟨_,Au,i3⟩
 refine Bd (VD _ _ (vC (BG (Kc AY (Hm .i64)))) (gt t.uses (l.getD 0 default))) (VD.stab _ _) (fun j8 nC g I hi G=>?_) ?_
 obtain⟨nD,i4,i5⟩:=G 26 Au
 refine Ay<|AR NM i4 i5 Au ?_
 intro nE i6
 obtain⟨Ad,Cd,rfl,Fi⟩:=B9 i6
 exact Bs.same hi (show Vr.vd (vC (BG (Kc AY (Hm .i64)))) _ _ _ _ from(Jy (B8 Fi)))
 refine Bd (VD _ _ (vI .i64) ((gt t.uses (l.getD 0 default)).length:Int)) (VD.stab _ _) (fun j9 nF g I hi G=>?_) ?_
 have i7:Vr.vd (vC (BG (Kc AY (Hm .i64)))) _ _ _ _:=G 27 Au
 obtain⟨Ae,Ce,i8,Fj⟩:=B9 i7
 exact Ay<|AZ Try.underlying114 i8<|Bs.same hi (show Vr.vd (vI .i64) _ _ _ _ from⟨Au,AX Fj⟩)
 refine Bc (Iv 0) (fun _ _ _ hi _=>AD (v:=Iv 0) Au<|Gz hi)<|BD fun nG nH gL gM=>?_
 obtain⟨-,fG,-⟩:=gL
 obtain⟨cZ,cW⟩:=AA.nx gM
 rintro _ rfl nI fH
 replace fH:Vr.vd (vI .i64) _ _ _ _:=fH
 obtain⟨rfl,Rc⟩:=fH
 rintro nJ fI
 replace fI:Vr.vd (vC (BG (Kc AY (Hm .i64)))) _ _ _ _:=fI
 obtain⟨Af,Cf,rfl,Fk⟩:=B9 fI
 rintro _ ⟨nK,rfl,fJ⟩ nL fK
 replace fK:Vr.vd (vI .i64) _ _ _ _:=fK
 obtain⟨rfl,Rd⟩:=fK
 rintro _ ⟨nM,rfl,c0⟩ _ rfl kA c1
 replace c1:Vr.vd (vC (BG (BG (Kc AY (Hm .i64))))) _ _ _ _:=c1
 obtain⟨Ag,Cg,rfl,Fl⟩:=B9 c1
 rintro _ ⟨kB,rfl,c2⟩
 have c3:=hs.to cZ (fG.trans cW)
 replace Fk:=Fk.step cW;replace fJ:=fJ.step cW;replace c0:=c0.step cW;replace Fl:=Fl.step cW;replace c2:=c2.step cW
 refine Ax<|AC<|Wr [] [(0,Sl Aa l Ca),(2,Value.pointer (some p_bad)),(3,Value.pointer (some p_t)),(4,Value.pointer (some p_demand)),(5,Value.pointer (some p_try)),(27,Sl Af (gt t.uses (l.getD 0 default)) Cf),(28,Iv ((gt t.uses (l.getD 0 default)).length:Int)),(29,Iv 0)] fun bL=>?_
 replace fS:=fS.step c3
 refine Bf Qw (fun m fr w'=>∃(aZ:Int) (bM:List (Az × Bool)) (bN:List (Az × Int)) (cG:σ) (a0:Obj) (a1:Obj) (Lt_g110:Be) (aR:Be),aR=((some b1,a0)::(some X,a1)::Lt_g110)∧fr [] [(29,Iv aZ)]∧cZ.S (ks aR O) w'∧St ⟨w,List.filterMap Prod.fst ((some b1,o1)::(some X,o2)::L1),[]⟩ O w' aR∧Cx .i64 aZ∧Mo AY HA a0 bM∧Mo AY (Hm .i64) a1 bN∧Ox S w' (ks aR O) Lt_g110 cG∧KA (CX l t fx) m aZ bM bN cG=some x) ((((gt t.uses (l.getD 0 default)).length:Int) - 0).toNat+1) ⟨0,bad,demand,s0,o1,o2,L1,_,Au,BB.of ⟨Au,trivial⟩,AA.refl _ _,cZ,E1,fD,gI,fS,U⟩ ?_ ?_
 rintro _ _ ⟨_,_,_,_,_,_,_,_,_,_,_,_,_,_,_,_,U⟩;exact UB U
 rintro kC kD fL i9 kE ⟨aZ,bM,bN,cG,a0,a1,Lt_g110,_,rfl,cH,a2,b0,Re,cI,cJ,aS,U⟩
 obtain⟨c4,eG,U⟩:=UC U;unfold CX at U
 rw [cH.eq];clear cH
 have b3:=a2
 refine Aw ?_
 clear fS fJ c0 Fl c2
 refine Av<|A9<|By Au Au<|Ax<|Aw<|AF U Au (fun fM U=>?_) (fun fM U=>?_)
 refine AG<|Aw<|AC<|Aw<|Av ?_
 obtain⟨c5,U⟩:=AE U
 replace Fk:=Fk.step a2
 refine A9<|AB (q:=Kc AY (Hm .i64)) NM Lp Au Au Fk Au c5.1 c5.2 ?_
 intro kF eN
 refine A9<|AR Lp Au eN Au ?_
 intro a6 eO
 have bT:=Qk eO;clear eO
 refine Bn a6 Au<|Ax<|Aw<|Aw ?_
 clear eN
 refine Av<|Bb a6 Au<|A9<|KY (q:=AY) (m:=(Hm .i64)) Try.underlying115 b0 bT Au ?_
 intro W gN cK kG c6 c7 eP fN
 clear b0
 refine Ax<|AC<|Ic Qw [] (CO ⟨bL,[]⟩ [(0,Sl Aa l Ca),(2,Value.pointer (some p_bad)),(3,Value.pointer (some p_t)),(4,Value.pointer (some p_demand)),(5,Value.pointer (some p_try)),(27,Sl Af (gt t.uses (l.getD 0 default)) Cf),(28,Iv ((gt t.uses (l.getD 0 default)).length:Int)),(29,Iv 0)]) [(9,a6),(29,Iv aZ),(34,Pt W 0)] fun fO=>?_
 rw [← NG fN] at U
 refine Bf Vx (fun m fr w'=>∃(a7:List (Az × Bool)) (M:List (Az × Int)) (N:Obj) (aG:List (Az × Int)) (Z:Obj) (aD:Obj) (aR:Be),aR=((some W,N)::(some b1,Z)::(some X,aD)::Lt_g110)∧fr [] []∧c7.S (ks aR O) w'∧St ⟨w,List.filterMap Prod.fst ((some b1,o1)::(some X,o2)::L1),[]⟩ O w' aR∧L8 AY (Hm .i64) w' (ks aR O) a6 N none aG∧Mo AY HA Z a7∧Mo AY (Hm .i64) aD M∧aG.length<m∧Jq (DA t) (E6 l t fx aZ cG c4) aG a7 M=some x) (cK.length+1) ⟨bM,bN,gN,cK,a0,a1,_,Au,BB.of trivial,AA.refl _ _,c7,eP.any,cI,cJ,Nat.lt_succ_self _,U⟩ ?_ ?_
 rintro _ _ ⟨_,_,_,_,_,_,_,_,_,_,_,_,_,_,hl,_⟩;exact absurd hl (Nat.not_lt_zero _)
 rintro gO kH c8 jA kJ ⟨a7,M,N,aG,Z,aD,_,rfl,cL,a3,a8,cM,bO,bP,fP,U⟩
 rw [cL.eq];clear cL
 have aW:=a3
 refine Aw ?_
 clear eP
 refine Av<|A9 (LW (q:=AY) (m:=(Hm .i64)) (i:=0) a8 Au cM Au ?_ ?_)
 intro b4;subst b4;replace U:=Sg U;unfold E6 at U
 refine A9<|Bk (v:=Bo false) Au Au<|Ax<|Aw<|GG Au<|Bq<|Aw<|B7 (g0:=[]) (m:=3) (fl:=[]) (CQ a8) Au (.inl Au) Au (by decide+kernel) ?_  -- 12
 have c9:=(c3.trans (a2.trans (c6.trans a3)))
 replace Ff:=Ff.step c9
 refine Bd (VD _ _ (Wd Try.prog AY HA AY (Hm .i64) S b1 X (vC (BG (AL .i64)))) fx) (VD.stab _ _) (fun jB kK g I hi G=>?_) ?_
 obtain⟨-,aN,-⟩:=I
 replace Ff:=Ff.step aN
 refine Ay<|AR Qv (G 5 Au) Ff Au ?_
 intro kL eQ
 have F169:=TE eQ;clear eQ
 exact Bs.same hi (show Vr.vd (Wd Try.prog AY HA AY (Hm .i64) S b1 X (vC (BG (AL .i64)))) _ _ _ _ from F169)
 refine Bc (Sl Aa l Ca) (fun _ _ _ hi G=>AD (v:=Sl Aa l Ca) (G 0 Au)<|Gz hi) ?_
 obtain⟨jC,U⟩:=AE U
 replace Fa:=Fa.step c9
 refine Bd (VD _ _ (vC (BG (AL .i64))) ((l.drop 1).take (l.length - 1))) (VD.stab _ _) (fun jD kM g I hi G=>?_) ?_
 obtain⟨-,aN,-⟩:=I
 replace Fa:=Fa.step aN
 refine Ay (IT (q:=(AL .i64)) (l:=1) (h:=l.length) (m:=Ca) Bl B6 (G 65 Au) Fa Au (Pw Au (by omega)) Au Au (by decide) (by omega) (by omega) (by have h_:l.length≤Ca:=Fa.le;omega) (by have h_:l.length≤Ca:=Fa.le;omega) ?_)
 intro kN gP
 exact Bs.same hi (show Vr.vd (vC (BG (AL .i64))) _ _ _ _ from(Jy (B8 gP)))
 refine BD fun kO kP fQ fR=>?_
 obtain⟨-,eH,-⟩:=fQ
 obtain⟨b5,dA⟩:=AA.nx fR
 rintro kQ dB
 replace dB:Vr.vd (vC (BG (AL .i64))) _ _ _ _:=dB
 obtain⟨Ah,Ch,rfl,Fm⟩:=B9 dB
 rintro _ rfl gQ dC
 replace dC:Vr.vd (Wd Try.prog AY HA AY (Hm .i64) S b1 X (vC (BG (AL .i64)))) _ _ _ _:=dC
 have F197:=dC
 replace F197:Le Try.prog AY HA AY (Hm .i64) S b1 X _ _ gQ (vC (BG (AL .i64))) fx:=F197
 have eR:=a8.to b5 (eH.trans dA)
 replace Fm:=Fm.step dA;replace F197:=F197.step dA;clear a8
 obtain⟨aB,fT,U⟩:=bd U
 have eS:=(c6.trans (a3.trans eR))
 replace aS:=aS.step eS
 refine A9<|Qs (rr:=aB.1) (d1':=aB.2.1) (d2':=aB.2.2.1) (s':=aB.2.2.2) [(some W,N)] Lt_g110 b5 Au Au F197 bO bP aS (show Vr.vd (vC (BG (AL .i64))) _ _ _ _ from(Jy (B8 Fm))) fT ?_
 intro dD cN cO L203 cP b6 gR gS aE
 replace cP:AA _ _ (ks ((some W,N)::(some b1,cN)::(some X,cO)::L203) O) dD:=cP
 replace b6:St ⟨w,List.filterMap Prod.fst ((some b1,o1)::(some X,o2)::L1),[]⟩ O dD ((some W,N)::(some b1,cN)::(some X,cO)::L203):=b6
 replace aE:Ox S dD (ks ((some W,N)::(some b1,cN)::(some X,cO)::L203) O) L203 aB.2.2.2:=aE
 clear b5
 refine Bn (Bo aB.1) Au<|Ax<|Aw<|Aw ?_
 clear Fm F197
 refine Av<|Bb a6 Au ?_
 have eT:=(eS.trans cP)
 replace bT:=bT.step eT
 refine A9<|KY (q:=AY) (m:=(Hm .i64)) Try.underlying115 b6 bT Au ?_
 intro aK gT cQ kR cR dE eU fU
 refine Ax<|AC<|Ic Qw [] (CO ⟨bL,[]⟩ [(0,Sl Aa l Ca),(2,Value.pointer (some p_bad)),(3,Value.pointer (some p_t)),(4,Value.pointer (some p_demand)),(5,Value.pointer (some p_try)),(27,Sl Af (gt t.uses (l.getD 0 default)) Cf),(28,Iv ((gt t.uses (l.getD 0 default)).length:Int)),(29,Iv 0)]) [(12,Bo aB.1),(29,Iv aZ),(69,Pt aK 0)] fun fV=>?_
 rw [← NG fU] at U
 refine Bf Vy (fun m fr w'=>∃(aX:List (Az × Bool)) (J:List (Az × Int)) (bQ:Obj) (aH:List (Az × Int)) (Y:Obj) (aC:Obj) (aR:Be),aR=((some aK,bQ)::(some W,N)::(some b1,Y)::(some X,aC)::L203)∧fr [] []∧dE.S (ks aR O) w'∧St ⟨w,List.filterMap Prod.fst ((some b1,o1)::(some X,o2)::L1),[]⟩ O w' aR∧L8 AY (Hm .i64) w' (ks aR O) a6 bQ none aH∧Mo AY HA Y aX∧Mo AY (Hm .i64) aC J∧aH.length<m∧Jq (D9 t) (E5 aZ c4 aB) aH aX J=some x) (cQ.length+1) ⟨aB.2.1,aB.2.2.1,gT,cQ,cN,cO,_,Au,BB.of trivial,AA.refl _ _,dE,eU.any,gR,gS,Nat.lt_succ_self _,U⟩ ?_ ?_
 rintro _ _ ⟨_,_,_,_,_,_,_,_,_,_,_,_,_,_,hl,_⟩;exact absurd hl (Nat.not_lt_zero _)
 rintro gU kS dF jE kT ⟨aX,J,bQ,aH,Y,aC,_,rfl,cS,aT,aF,cT,a4,a5,fW,U⟩
 rw [cS.eq];clear cS
 have aY:=aT
 refine Aw ?_
 clear bT eU
 refine Av<|A9 (LW (q:=AY) (m:=(Hm .i64)) (i:=0) aF Au cT Au ?_ ?_)
 intro b7;subst b7;replace U:=Sg U;unfold E5 at U
 refine A9<|Bk (v:=Bo false) Au Au<|Ax<|Aw<|GG Au<|Bq<|Aw<|Av<|Bb (Bo aB.1) Au<|A9<|Do Au<|Ax<|AF U Au (fun fX U=>?_) (fun fX U=>?_)
 refine Aw ?_
 clear Fa Fc Fd Fe Ff Fk
 refine Av<|Bn (Bo false) Au<|Ax<|AV ?_
 have b8:=aF.drop 1
 have gV:=(aF.dropS 1)
 clear aF
 have fY:=b8.drop 0
 have gW:=(b8.dropS 0)
 clear b8
 have dG:=(oi U).trans hxm;simp only [Prod.mk.injEq] at dG;obtain⟨fZ,rfl,rfl,rfl⟩:=dG
 replace aE:=aE.step (cR.trans (aT.trans (gV.trans gW)))
 exact⟨_,DX,[Bo false],⟨Au,trivial⟩,_,_,_,St.backB fY,a4,a5,aE,congrArg Value.bool fZ⟩
 refine AG<|Av<|A9<|Bg Au Au<|Bb (Iv (wq (aZ+1))) Au<|Ax ?_
 have b9:=aF.drop 1
 have eV:=(aF.dropS 1)
 clear aF
 have f0:=b9.drop 0
 have eW:=(b9.dropS 0)
 clear b9
 have gX:=(eT.trans (cR.trans (aT.trans (eV.trans eW))))
 replace b3:=b3.trans gX
 replace aE:=aE.step (cR.trans (aT.trans (eV.trans eW)))
 exact fL _ _ ⟨(wq (aZ+1)),aX,J,aB.2.2.2,Y,aC,L203,_,Au,BB.of ⟨Au,trivial⟩,b3,f0,(AT .i64 _),a4,a5,aE,jnE4 eG U⟩
 intro A dH dI aU kU b7 dJ cA a9 f1 jF;subst b7
 have dK:(dH++dI).length<gU:=by have:=fW;simp only [List.length_append,List.length_cons] at this ⊢;omega
 obtain⟨jG,cU,U⟩:=Si U;unfold D9 at U
 clear aF
 obtain⟨bA,bB⟩:=f1
 refine A9<|Bk (v:=Bo true) Au Au<|Ax<|Aw<|Hu Au<|AG<|AC<|Aw ?_
 clear cT
 refine Av<|A9<|KZ (q:=AY) (m:=(Hm .i64)) (i:=0) cA Au a9 Au<|A9<|Bk (v:=Value.agg [Iv A.1.leaf,Iv A.1.cell].toArray) Au Au<|A9<|Bk (v:=Iv A.2) Au Au<|A9<|Bv C5 cA ?_
 intro aL kV _ bU dL
 clear cA
 refine Bh<|C6 .z C5 dL Au Au Au Au Au ?_
 intro gY bV dM
 clear dL
 refine Bn (Iv A.2) Au<|Ax<|Aw ?_
 have eX:=(c9.trans (eR.trans (cP.trans (cR.trans (aT.trans (dJ.trans (bU.trans bV)))))))
 replace Fe:=Fe.step eX
 refine B7 (T:=TM AY (Hm .i64) A.1 (Dp J A.1 ((Bu J A.1).getD 0)) ⟨w,List.filterMap Prod.fst ((some b1,o1)::(some X,o2)::L1),[]⟩ O ((some aL,Oc [Iv A.1.leaf,Iv A.1.cell] 45)::(some aK,aU)::(some W,N)::(some b1,Y)::(some X,aC)::L203) 4 X 5) (g0:=none) (m:=7) (fl:=[]) (TF dM) Au (.inl Au) Au (by decide+kernel) ?_  -- 16
 refine BN (Value.map (some X)) (fun _ kW g I hi G=>?_) ?_
 refine Ay (AR Lp (G 4 Au) (Fe.step I.2) Au ?_);intro v gZ;obtain rfl:=If gZ;exact GoesM.same hi Au
 refine BN (Value.agg [Iv A.1.leaf,Iv A.1.cell].toArray) (fun _ kX g I hi G=>?_) ?_
 rcases g with _ |g
 exact Ay (G4 (cs:=[Iv A.1.leaf,Iv A.1.cell]) (vs:=[Iv A.1.leaf,Iv A.1.cell]) (i:=0) C5 (show St ⟨w,List.filterMap Prod.fst ((some b1,o1)::(some X,o2)::L1),[]⟩ O _ ((some aL,Oc [Iv A.1.leaf,Iv A.1.cell] 45)::(some aK,aU)::(some W,N)::(some b1,Y)::(some X,aC)::L203) from hi) (G 13 Au) Au Au Au (GoesM.same hi Au))
 exact Ay (G4 (cs:=[Iv A.1.leaf,Iv A.1.cell]) (vs:=[Iv A.1.leaf,Iv A.1.cell]) (i:=0) C5 hi.1 (G 13 Au) Au Au Au (GoesM.same hi Au))
 refine BN (Iv ((Bu J A.1).getD 0)) (fun _ kY g I hi G=>?_) ?_
 rcases g with _ |g
 exact Ay (He (q:=AY) (m:=(Hm .i64)) (n:=A.1) (z:=0) Try.underlying115 Iy Try.zeroValue3 (St.get (i:=4) (show St ⟨w,List.filterMap Prod.fst ((some b1,o1)::(some X,o2)::L1),[]⟩ O _ ((some aL,Oc [Iv A.1.leaf,Iv A.1.cell] 45)::(some aK,aU)::(some W,N)::(some b1,Y)::(some X,aC)::L203) from hi) Au) a5 (And.intro bA bB) (G 75 Au) (G 76 Au) (GoesM.same hi Au))
 exact Ay (He (q:=AY) (m:=(Hm .i64)) (n:=A.1) (z:=0) Try.underlying115 Iy Try.zeroValue3 (St.get (i:=4) hi.1 Au) hi.2.1 (And.intro bA bB) (G 75 Au) (G 76 Au) (GoesM.same hi (congrArg (Hm .i64).enc (NJ _))))
 refine BN (Iv A.2) (fun _ _ _ _ hi G=>Ay (AD (v:=Iv A.2) (G 14 Au) (GoesM.same hi Au)))<|BN (Iv (wq (((Bu J A.1).getD 0) - A.2))) (fun _ _ _ _ hi G=>Ay (FN (G 77 Au) (G 78 Au) (GoesM.same hi Au)))<|Gk (VE (Hm .i64) ((Bu J A.1).getD 0)) (VE.stab _) (fun _ kZ g I hi hk G=>?_) ?_
 rcases g with _ |g
 refine Ay (Na (q:=AY) (m:=(Hm .i64)) (n:=A.1) (z:=0) (i:=4) Try.underlying115 Iy Try.zeroValue3 E1 (show St ⟨w,List.filterMap Prod.fst ((some b1,o1)::(some X,o2)::L1),[]⟩ O _ ((some aL,Oc [Iv A.1.leaf,Iv A.1.cell] 45)::(some aK,aU)::(some W,N)::(some b1,Y)::(some X,aC)::L203) from hi) Au a5 (G 75 Au) (G 76 Au) (And.intro bA bB) ?_)
 intro o' s' w' p' hs' M' S';exact GoesM.made p' hs' M' S' ⟨_,Au,Au⟩
 exact absurd (List.mem_singleton.2 Au) hk
 refine Bd WO WO.stab (fun f2 g1 g I hi G=>?_) ?_
 obtain⟨p',rfl,hv'⟩:VE (Hm .i64) ((Bu J A.1).getD 0) (f2 80) g1 g:=G 80 Au
 exact Ay (Bk hv' Au (GoesM.same hi ⟨_,Au,Au⟩))
 refine BD fun eY k0 dN f3=>?_
 rintro _ ⟨⟨eZ,k1⟩,rfl,rfl⟩;rintro _ ⟨_,hq,rfl⟩;cases hq;rintro _ rfl;rintro _ rfl;rintro _ rfl;rintro _ rfl;rintro _ rfl
 obtain⟨bR,g2,S287⟩:=f3
 replace bR:St ⟨w,List.filterMap Prod.fst ((some b1,o1)::(some X,o2)::L1),[]⟩ O eY ((some aL,Oc [Iv A.1.leaf,Iv A.1.cell] 45)::(some aK,aU)::(some W,N)::(some b1,Y)::(some X,eZ)::L203):=bR
 have bH:AA (ks ((some aL,Oc [Iv A.1.leaf,Iv A.1.cell] 45)::(some aK,aU)::(some W,N)::(some b1,Y)::(some X,aC)::L203) O) gY (ks ((some aL,Oc [Iv A.1.leaf,Iv A.1.cell] 45)::(some aK,aU)::(some W,N)::(some b1,Y)::(some X,eZ)::L203) O) eY:=dN.2;clear dN
 clear dM
 refine Bh<|Lk (q:=AY) (m:=(Hm .i64)) (v:=(wq (((Bu J A.1).getD 0) - A.2))) (i:=4) (Ot.inj Iy) bR Au g2 S287 Au Au Au Au (AT .i64 _) ?_
 intro e0 k2 bI cB dO
 clear bR
 refine Ax<|Aw<|B7 (g0:=[]) (m:=14) (fl:=[]) (CQ cB) Au (.inl Au) Au (by decide+kernel) ?_  -- 17
 replace Fe:=Fe.step (bH.trans bI)
 refine BN (Value.map (some X)) (fun jH k3 g I hi G=>?_) ?_
 obtain⟨-,aN,-⟩:=I
 replace Fe:=Fe.step aN
 refine Ay<|AR Lp (G 4 Au) Fe Au ?_
 intro k4 g3
 obtain rfl:=If g3
 exact Gz hi
 refine Bc (Value.agg [Iv A.1.leaf,Iv A.1.cell].toArray) (fun _ _ _ hi G=>B1 0 C5 (AA.nx hi).1 (G 13 Au) Au Au<|Gz hi)<|Bc (Iv ((Bu (Dp (Dp J A.1 ((Bu J A.1).getD 0)) A.1 (wq (((Bu J A.1).getD 0) - A.2))) A.1).getD 0)) (fun _ _ _ hi G=>He (q:=AY) (m:=(Hm .i64)) (n:=A.1) (z:=0) Try.underlying115 Iy Try.zeroValue3 ((AA.nx hi).1.get (i:=4) Au) dO (And.intro bA bB) (G 82 Au) (G 83 Au)<|Gz hi) ?_
 have e1:=(eX.trans (bH.trans bI))
 replace Fd:=Fd.step e1
 refine Bd (VP _ _ FY t.p) (VP.stab _ _) (fun jI k5 g I hi G=>?_) ?_
 obtain⟨-,aN,-⟩:=I
 replace Fd:=Fd.step aN
 refine Ay<|B5 LA Au B4 (by decide) (G 3 Au) Au ?_
 have g4:=Fd.via.fst
 exact Bs.same hi ⟨_,Au,g4⟩
 refine Bd (VP _ _ (BG (BG (AL .i64))) t.p.capacity) (VP.stab _ _) (fun jJ k6 g I hi G=>?_) ?_
 obtain⟨k7,g5,g6⟩:=G 85 Au
 refine Ay<|B5 B4 Au Db (by decide) g5 Au ?_
 have g7:=g6.via.snd.fst
 exact Bs.same hi ⟨_,Au,g7⟩
 refine Bd (VD _ _ (vC (BG (BG (AL .i64)))) t.p.capacity) (VD.stab _ _) (fun jK k8 g I hi G=>?_) ?_
 obtain⟨k9,g8,g9⟩:=G 86 Au
 refine Ay<|AR Db g8 g9 Au ?_
 intro lA hA
 obtain⟨Ai,Ci,rfl,Fo⟩:=B9 hA
 exact Bs.same hi (show Vr.vd (vC (BG (BG (AL .i64)))) _ _ _ _ from(Jy (B8 Fo)))
 refine Bc (Pt aL 0) (fun _ _ _ hi G=>AQ 0 C5 Au B6 (G 13 Au) Au<|Gz hi)<|Bc (Iv A.1.leaf) (fun _ _ _ hi G=>AP 0 B6 (AA.nx hi).1 (G 88 Au) Au Au<|Gz hi) ?_
 obtain⟨dP,U⟩:=AE U
 refine Bd (VP _ _ (BG (AL .i64)) (gt t.p.capacity A.1.leaf)) (VP.stab _ _) (fun jL lB g I hi G=>?_) ?_
 have hB:Vr.vd (vC (BG (BG (AL .i64)))) _ _ _ _:=G 87 Au
 obtain⟨Aj,Cj,hC,Fp⟩:=B9 hB
 refine Ay<|AB (q:=BG (AL .i64)) Db Bl hC (G 89 Au) Fp Au dP.1 dP.2 ?_
 intro lC hD
 exact Bs.same hi ⟨_,Au,hD⟩
 refine Bd (VD _ _ (vC (BG (AL .i64))) (gt t.p.capacity A.1.leaf)) (VD.stab _ _) (fun jM lD g I hi G=>?_) ?_
 obtain⟨lE,hE,hF⟩:=G 90 Au
 refine Ay<|AR Bl hE hF Au ?_
 intro lF hG
 obtain⟨Ak,Ck,rfl,Fq⟩:=B9 hG
 exact Bs.same hi (show Vr.vd (vC (BG (AL .i64))) _ _ _ _ from(Jy (B8 Fq)))
 refine Bc (Pt aL 1) (fun _ _ _ hi G=>AQ 1 C5 Au B6 (G 13 Au) Au<|Gz hi)<|Bc (Iv A.1.cell) (fun _ _ _ hi G=>AP 0 B6 (AA.nx hi).1 (G 92 Au) Au Au<|Gz hi) ?_
 obtain⟨dQ,U⟩:=AE U
 refine Bd (VP _ _ (AL .i64) (gt (gt t.p.capacity A.1.leaf) A.1.cell)) (VP.stab _ _) (fun jN lG g I hi G=>?_) ?_
 have hH:Vr.vd (vC (BG (AL .i64))) _ _ _ _:=G 91 Au
 obtain⟨Al,Cl,hI,Fr⟩:=B9 hH
 refine Ay<|AB (q:=(AL .i64)) Bl B6 hI (G 93 Au) Fr Au dQ.1 dQ.2 ?_
 intro lH hJ
 exact Bs.same hi ⟨_,Au,hJ⟩
 refine Bd (VD _ _ (vI .i64) (gt (gt t.p.capacity A.1.leaf) A.1.cell)) (VD.stab _ _) (fun jO lI g I hi G=>?_) ?_
 obtain⟨lJ,hK,hL⟩:=G 94 Au
 refine Ay<|AR B6 hK hL Au ?_
 intro lK hM
 obtain⟨rfl,Rf⟩:=BK hM
 exact Bs.same hi (show Vr.vd (vI .i64) _ _ _ _ from⟨Au,Rf⟩)
 refine BD fun lL lM f4 f5=>?_
 obtain⟨-,eI,-⟩:=f4
 obtain⟨aO,bC⟩:=AA.nx f5
 rintro lN dR
 replace dR:Vr.vd (vI .i64) _ _ _ _:=dR
 obtain⟨rfl,Rg⟩:=dR
 rintro _ ⟨lO,rfl,dS⟩ _ rfl _ rfl lP dT
 replace dT:Vr.vd (vC (BG (AL .i64))) _ _ _ _:=dT
 obtain⟨Am,Cm,rfl,Fs⟩:=B9 dT
 rintro _ ⟨lQ,rfl,dU⟩ _ rfl _ rfl lR dV
 replace dV:Vr.vd (vC (BG (BG (AL .i64)))) _ _ _ _:=dV
 obtain⟨An,Cn,rfl,Ft⟩:=B9 dV
 rintro _ ⟨lS,rfl,dW⟩ _ ⟨lT,rfl,dX⟩ _ rfl _ rfl _ rfl
 have bW:=cB.to aO (eI.trans bC)
 replace dS:=dS.step bC;replace Fs:=Fs.step bC;replace dU:=dU.step bC;replace Ft:=Ft.step bC;replace dW:=dW.step bC;replace dX:=dX.step bC;clear cB
 refine A9<|JS Au Au<|Ax<|AF U Au (fun f6 U=>?_) (fun f6 U=>?_)
 clear dS Fs dU Ft dW dX
 refine Ic Vy [] (CO (JE Qw [] fV (CO ⟨bL,[]⟩ [(0,Sl Aa l Ca),(2,Value.pointer (some p_bad)),(3,Value.pointer (some p_t)),(4,Value.pointer (some p_demand)),(5,Value.pointer (some p_try)),(27,Sl Af (gt t.uses (l.getD 0 default)) Cf),(28,Iv ((gt t.uses (l.getD 0 default)).length:Int)),(29,Iv 0)])) [(12,Bo aB.1),(29,Iv aZ),(69,Pt aK 0)]) [(13,Pt aL 0)] fun jP=>Av ?_
 replace Fc:=Fc.step (e1.trans bW)
 refine A9<|AR LB Au Fc Au ?_
 intro lU hN
 obtain rfl:=If hN
 refine A9<|B1 0 C5 aO Au Au Au<|Bh<|SS (q:=AY) (m:=HA) (n:=A.1) (v:=false) (i:=3) Try.underlying98 Iy aO Au a4 Au Au (And.intro bA bB) ?_
 intro hP lV e2 cC hQ
 clear aO
 refine Ax ?_
 have f7:=cC.drop 0
 have e3:=(cC.dropS 0)
 clear cC
 replace aY:=aY.trans (dJ.trans (bU.trans (bV.trans (bH.trans (bI.trans (bW.trans (e2.trans e3)))))))
 replace a9:=a9.step (bU.trans (bV.trans (bH.trans (bI.trans (bW.trans (e2.trans e3))))))
 exact dF _ _ ⟨Nt aX A.1,Dp (Dp J A.1 ((Bu J A.1).getD 0)) A.1 (wq (((Bu J A.1).getD 0) - A.2)),aU,dH++dI,hP,e0,_,Au,BB.of trivial,aY,f7,a9.any,hQ,dO,dK,GV cU U⟩
 refine AG ?_
 have f8:=aO.drop 0
 have e4:=(aO.dropS 0)
 clear aO
 replace aY:=aY.trans (dJ.trans (bU.trans (bV.trans (bH.trans (bI.trans (bW.trans e4))))))
 replace a9:=a9.step (bU.trans (bV.trans (bH.trans (bI.trans (bW.trans e4)))))
 exact dF _ _ ⟨aX,Dp (Dp J A.1 ((Bu J A.1).getD 0)) A.1 (wq (((Bu J A.1).getD 0) - A.2)),aU,dH++dI,Y,e0,_,Au,BB.of trivial,aY,f8,a9.any,a4,dO,dK,GV cU U⟩
 intro F dY dZ aV lW b4 d0 cD bD f9 jQ;subst b4
 have d1:(dY++dZ).length<gO:=by have:=fP;simp only [List.length_append,List.length_cons] at this ⊢;omega
 obtain⟨jR,cV,U⟩:=Si U;unfold DA at U
 clear a8
 obtain⟨bE,bF⟩:=f9
 refine A9<|Bk (v:=Bo true) Au Au<|Ax<|Aw<|Hu Au<|AG<|AC<|Aw ?_
 clear cM
 refine Av<|A9<|KZ (q:=AY) (m:=(Hm .i64)) (i:=0) cD Au bD Au<|A9<|Bk (v:=Value.agg [Iv F.1.leaf,Iv F.1.cell].toArray) Au Au<|A9<|Bk (v:=Iv F.2) Au Au<|A9<|Bv C5 cD ?_
 intro aM lX _ bX d2
 clear cD
 refine Bh<|C6 .z C5 d2 Au Au Au Au Au ?_
 intro hR bY d3
 clear d2
 refine Bn (Iv F.2) Au<|Ax<|Aw ?_
 have e5:=(c3.trans (a2.trans (c6.trans (a3.trans (d0.trans (bX.trans bY))))))
 replace Fe:=Fe.step e5
 refine B7 (T:=TM AY (Hm .i64) F.1 (Dp M F.1 ((Bu M F.1).getD 0)) ⟨w,List.filterMap Prod.fst ((some b1,o1)::(some X,o2)::L1),[]⟩ O ((some aM,Oc [Iv F.1.leaf,Iv F.1.cell] 45)::(some W,aV)::(some b1,Z)::(some X,aD)::Lt_g110) 3 X 5) (g0:=none) (m:=7) (fl:=[]) (TF d3) Au (.inl Au) Au (by decide+kernel) ?_  -- 9
 refine BN (Value.map (some X)) (fun _ lY g I hi G=>?_) ?_
 refine Ay (AR Lp (G 4 Au) (Fe.step I.2) Au ?_);intro v hS;obtain rfl:=If hS;exact GoesM.same hi Au
 refine BN (Value.agg [Iv F.1.leaf,Iv F.1.cell].toArray) (fun _ lZ g I hi G=>?_) ?_
 rcases g with _ |g
 exact Ay (G4 (cs:=[Iv F.1.leaf,Iv F.1.cell]) (vs:=[Iv F.1.leaf,Iv F.1.cell]) (i:=0) C5 (show St ⟨w,List.filterMap Prod.fst ((some b1,o1)::(some X,o2)::L1),[]⟩ O _ ((some aM,Oc [Iv F.1.leaf,Iv F.1.cell] 45)::(some W,aV)::(some b1,Z)::(some X,aD)::Lt_g110) from hi) (G 10 Au) Au Au Au (GoesM.same hi Au))
 exact Ay (G4 (cs:=[Iv F.1.leaf,Iv F.1.cell]) (vs:=[Iv F.1.leaf,Iv F.1.cell]) (i:=0) C5 hi.1 (G 10 Au) Au Au Au (GoesM.same hi Au))
 refine BN (Iv ((Bu M F.1).getD 0)) (fun _ l1 g I hi G=>?_) ?_
 rcases g with _ |g
 exact Ay (He (q:=AY) (m:=(Hm .i64)) (n:=F.1) (z:=0) Try.underlying115 Iy Try.zeroValue3 (St.get (i:=3) (show St ⟨w,List.filterMap Prod.fst ((some b1,o1)::(some X,o2)::L1),[]⟩ O _ ((some aM,Oc [Iv F.1.leaf,Iv F.1.cell] 45)::(some W,aV)::(some b1,Z)::(some X,aD)::Lt_g110) from hi) Au) bP (And.intro bE bF) (G 40 Au) (G 41 Au) (GoesM.same hi Au))
 exact Ay (He (q:=AY) (m:=(Hm .i64)) (n:=F.1) (z:=0) Try.underlying115 Iy Try.zeroValue3 (St.get (i:=3) hi.1 Au) hi.2.1 (And.intro bE bF) (G 40 Au) (G 41 Au) (GoesM.same hi (congrArg (Hm .i64).enc (NJ _))))
 refine BN (Iv F.2) (fun _ _ _ _ hi G=>Ay (AD (v:=Iv F.2) (G 11 Au) (GoesM.same hi Au)))<|BN (Iv (wq (((Bu M F.1).getD 0)+F.2))) (fun _ _ _ _ hi G=>Ay (Bg (G 42 Au) (G 43 Au) (GoesM.same hi Au)))<|Gk (VE (Hm .i64) ((Bu M F.1).getD 0)) (VE.stab _) (fun _ l2 g I hi hk G=>?_) ?_
 rcases g with _ |g
 refine Ay (Na (q:=AY) (m:=(Hm .i64)) (n:=F.1) (z:=0) (i:=3) Try.underlying115 Iy Try.zeroValue3 E1 (show St ⟨w,List.filterMap Prod.fst ((some b1,o1)::(some X,o2)::L1),[]⟩ O _ ((some aM,Oc [Iv F.1.leaf,Iv F.1.cell] 45)::(some W,aV)::(some b1,Z)::(some X,aD)::Lt_g110) from hi) Au bP (G 40 Au) (G 41 Au) (And.intro bE bF) ?_)
 intro o' s' w' p' hs' M' S';exact GoesM.made p' hs' M' S' ⟨_,Au,Au⟩
 exact absurd (List.mem_singleton.2 Au) hk
 refine Bd WO WO.stab (fun gA hT g I hi G=>?_) ?_
 obtain⟨p',rfl,hv'⟩:VE (Hm .i64) ((Bu M F.1).getD 0) (gA 45) hT g:=G 45 Au
 exact Ay (Bk hv' Au (GoesM.same hi ⟨_,Au,Au⟩))
 refine BD fun e6 l3 d4 gB=>?_
 rintro _ ⟨⟨e7,l4⟩,rfl,rfl⟩;rintro _ ⟨_,hq,rfl⟩;cases hq;rintro _ rfl;rintro _ rfl;rintro _ rfl;rintro _ rfl;rintro _ rfl
 obtain⟨bS,hU,S445⟩:=gB
 replace bS:St ⟨w,List.filterMap Prod.fst ((some b1,o1)::(some X,o2)::L1),[]⟩ O e6 ((some aM,Oc [Iv F.1.leaf,Iv F.1.cell] 45)::(some W,aV)::(some b1,Z)::(some X,e7)::Lt_g110):=bS
 have bJ:AA (ks ((some aM,Oc [Iv F.1.leaf,Iv F.1.cell] 45)::(some W,aV)::(some b1,Z)::(some X,aD)::Lt_g110) O) hR (ks ((some aM,Oc [Iv F.1.leaf,Iv F.1.cell] 45)::(some W,aV)::(some b1,Z)::(some X,e7)::Lt_g110) O) e6:=d4.2;clear d4
 clear d3
 refine Bh<|Lk (q:=AY) (m:=(Hm .i64)) (v:=(wq (((Bu M F.1).getD 0)+F.2))) (i:=3) (Ot.inj Iy) bS Au hU S445 Au Au Au Au (AT .i64 _) ?_
 intro e8 l5 bK cE d5
 clear bS
 refine Ax<|Aw<|B7 (g0:=[]) (m:=14) (fl:=[]) (CQ cE) Au (.inl Au) Au (by decide+kernel) ?_  -- 10
 replace Fe:=Fe.step (bJ.trans bK)
 refine BN (Value.map (some X)) (fun jS l6 g I hi G=>?_) ?_
 obtain⟨-,aN,-⟩:=I
 replace Fe:=Fe.step aN
 refine Ay<|AR Lp (G 4 Au) Fe Au ?_
 intro l7 hV
 obtain rfl:=If hV
 exact Gz hi
 refine Bc (Value.agg [Iv F.1.leaf,Iv F.1.cell].toArray) (fun _ _ _ hi G=>B1 0 C5 (AA.nx hi).1 (G 10 Au) Au Au<|Gz hi)<|Bc (Iv ((Bu (Dp (Dp M F.1 ((Bu M F.1).getD 0)) F.1 (wq (((Bu M F.1).getD 0)+F.2))) F.1).getD 0)) (fun _ _ _ hi G=>He (q:=AY) (m:=(Hm .i64)) (n:=F.1) (z:=0) Try.underlying115 Iy Try.zeroValue3 ((AA.nx hi).1.get (i:=3) Au) d5 (And.intro bE bF) (G 47 Au) (G 48 Au)<|Gz hi) ?_
 have e9:=(e5.trans (bJ.trans bK))
 replace Fd:=Fd.step e9
 refine Bd (VP _ _ FY t.p) (VP.stab _ _) (fun jT l8 g I hi G=>?_) ?_
 obtain⟨-,aN,-⟩:=I
 replace Fd:=Fd.step aN
 refine Ay<|B5 LA Au B4 (by decide) (G 3 Au) Au ?_
 have hW:=Fd.via.fst
 exact Bs.same hi ⟨_,Au,hW⟩
 refine Bd (VP _ _ (BG (BG (AL .i64))) t.p.capacity) (VP.stab _ _) (fun jU l9 g I hi G=>?_) ?_
 obtain⟨mA,hX,hY⟩:=G 50 Au
 refine Ay<|B5 B4 Au Db (by decide) hX Au ?_
 have hZ:=hY.via.snd.fst
 exact Bs.same hi ⟨_,Au,hZ⟩
 refine Bd (VD _ _ (vC (BG (BG (AL .i64)))) t.p.capacity) (VD.stab _ _) (fun jV mB g I hi G=>?_) ?_
 obtain⟨mC,h0,h1⟩:=G 51 Au
 refine Ay<|AR Db h0 h1 Au ?_
 intro mD h2
 obtain⟨Ao,Co,rfl,Fu⟩:=B9 h2
 exact Bs.same hi (show Vr.vd (vC (BG (BG (AL .i64)))) _ _ _ _ from(Jy (B8 Fu)))
 refine Bc (Pt aM 0) (fun _ _ _ hi G=>AQ 0 C5 Au B6 (G 10 Au) Au<|Gz hi)<|Bc (Iv F.1.leaf) (fun _ _ _ hi G=>AP 0 B6 (AA.nx hi).1 (G 53 Au) Au Au<|Gz hi) ?_
 obtain⟨d6,U⟩:=AE U
 refine Bd (VP _ _ (BG (AL .i64)) (gt t.p.capacity F.1.leaf)) (VP.stab _ _) (fun jW mE g I hi G=>?_) ?_
 have h3:Vr.vd (vC (BG (BG (AL .i64)))) _ _ _ _:=G 52 Au
 obtain⟨Ap,Cp,h5,Fv⟩:=B9 h3
 refine Ay<|AB (q:=BG (AL .i64)) Db Bl h5 (G 54 Au) Fv Au d6.1 d6.2 ?_
 intro mF h6
 exact Bs.same hi ⟨_,Au,h6⟩
 refine Bd (VD _ _ (vC (BG (AL .i64))) (gt t.p.capacity F.1.leaf)) (VD.stab _ _) (fun jX mG g I hi G=>?_) ?_
 obtain⟨mH,h8,h9⟩:=G 55 Au
 refine Ay<|AR Bl h8 h9 Au ?_
 intro mI iA
 obtain⟨Aq,Cq,rfl,Fw⟩:=B9 iA
 exact Bs.same hi (show Vr.vd (vC (BG (AL .i64))) _ _ _ _ from(Jy (B8 Fw)))
 refine Bc (Pt aM 1) (fun _ _ _ hi G=>AQ 1 C5 Au B6 (G 10 Au) Au<|Gz hi)<|Bc (Iv F.1.cell) (fun _ _ _ hi G=>AP 0 B6 (AA.nx hi).1 (G 57 Au) Au Au<|Gz hi) ?_
 obtain⟨d7,U⟩:=AE U
 refine Bd (VP _ _ (AL .i64) (gt (gt t.p.capacity F.1.leaf) F.1.cell)) (VP.stab _ _) (fun jY mJ g I hi G=>?_) ?_
 have iB:Vr.vd (vC (BG (AL .i64))) _ _ _ _:=G 56 Au
 obtain⟨Ar,Cr,iC,Fx⟩:=B9 iB
 refine Ay<|AB (q:=(AL .i64)) Bl B6 iC (G 58 Au) Fx Au d7.1 d7.2 ?_
 intro mK iD
 exact Bs.same hi ⟨_,Au,iD⟩
 refine Bd (VD _ _ (vI .i64) (gt (gt t.p.capacity F.1.leaf) F.1.cell)) (VD.stab _ _) (fun jZ mL g I hi G=>?_) ?_
 obtain⟨mM,iE,iF⟩:=G 59 Au
 refine Ay<|AR B6 iE iF Au ?_
 intro mN iG
 obtain⟨rfl,Rh⟩:=BK iG
 exact Bs.same hi (show Vr.vd (vI .i64) _ _ _ _ from⟨Au,Rh⟩)
 refine BD fun mO mP gC gD=>?_
 obtain⟨-,eJ,-⟩:=gC
 obtain⟨aP,bG⟩:=AA.nx gD
 rintro mQ d8
 replace d8:Vr.vd (vI .i64) _ _ _ _:=d8
 obtain⟨rfl,Ri⟩:=d8
 rintro _ ⟨mR,rfl,d9⟩ _ rfl _ rfl mS eA
 replace eA:Vr.vd (vC (BG (AL .i64))) _ _ _ _:=eA
 obtain⟨As,Cs,rfl,Fy⟩:=B9 eA
 rintro _ ⟨mT,rfl,eB⟩ _ rfl _ rfl mU eC
 replace eC:Vr.vd (vC (BG (BG (AL .i64)))) _ _ _ _:=eC
 obtain⟨At,Ct,rfl,Fz⟩:=B9 eC
 rintro _ ⟨mV,rfl,eD⟩ _ ⟨mW,rfl,eE⟩ _ rfl _ rfl _ rfl
 have bZ:=cE.to aP (eJ.trans bG)
 replace d9:=d9.step bG;replace Fy:=Fy.step bG;replace eB:=eB.step bG;replace Fz:=Fz.step bG;replace eD:=eD.step bG;replace eE:=eE.step bG;clear cE
 refine A9<|EB Au Au<|Ax<|AF U Au (fun gE U=>?_) (fun gE U=>?_)
 clear d9 Fy eB Fz eD eE
 refine Ic Vx [] (CO (JE Qw [] fO (CO ⟨bL,[]⟩ [(0,Sl Aa l Ca),(2,Value.pointer (some p_bad)),(3,Value.pointer (some p_t)),(4,Value.pointer (some p_demand)),(5,Value.pointer (some p_try)),(27,Sl Af (gt t.uses (l.getD 0 default)) Cf),(28,Iv ((gt t.uses (l.getD 0 default)).length:Int)),(29,Iv 0)])) [(9,a6),(29,Iv aZ),(34,Pt W 0)]) [(10,Pt aM 0)] fun j0=>Av ?_
 have iH:=(e9.trans bZ)
 replace Fc:=Fc.step iH
 refine A9<|AR LB Au Fc Au ?_
 intro mX iI
 obtain rfl:=If iI
 refine A9<|B1 0 C5 aP Au Au Au<|Bh<|GP (q:=AY) (m:=HA) (n:=F.1) (v:=true) (i:=2) Try.underlying98 Iy aP Au bO Au Au Au Au (And.intro bE bF) trivial ?_
 intro iJ mY fA cF iK
 clear aP
 refine Ax ?_
 have gF:=cF.drop 0
 have fB:=(cF.dropS 0)
 clear cF
 replace aW:=aW.trans (d0.trans (bX.trans (bY.trans (bJ.trans (bK.trans (bZ.trans (fA.trans fB)))))))
 replace bD:=bD.step (bX.trans (bY.trans (bJ.trans (bK.trans (bZ.trans (fA.trans fB))))))
 exact c8 _ _ ⟨Dp a7 F.1 true,Dp (Dp M F.1 ((Bu M F.1).getD 0)) F.1 (wq (((Bu M F.1).getD 0)+F.2)),aV,dY++dZ,iJ,e8,_,Au,BB.of trivial,aW,gF,bD.any,iK,d5,d1,GV cV U⟩
 refine AG ?_
 have gG:=aP.drop 0
 have fC:=(aP.dropS 0)
 clear aP
 replace aW:=aW.trans (d0.trans (bX.trans (bY.trans (bJ.trans (bK.trans (bZ.trans fC))))))
 replace bD:=bD.step (bX.trans (bY.trans (bJ.trans (bK.trans (bZ.trans fC)))))
 exact c8 _ _ ⟨a7,Dp (Dp M F.1 ((Bu M F.1).getD 0)) F.1 (wq (((Bu M F.1).getD 0)+F.2)),aV,dY++dZ,Z,e8,_,Au,BB.of trivial,aW,gG,bD.any,bO,d5,d1,GV cV U⟩
 refine Bq<|Aw ?_
 clear Fa Fc Fd Fe Ff Fk
 refine Av<|Bn (Bo true) Au<|Ax<|AV ?_
 have eF:=(oi U).trans hxm;simp only [Prod.mk.injEq] at eF;obtain⟨gH,rfl,rfl,rfl⟩:=eF
 exact⟨_,DX,[Bo true],⟨Au,trivial⟩,_,_,_,St.backB b0,cI,cJ,aS,congrArg Value.bool gH⟩

def Dh {σ:Type} [DecidableEq σ] (t:D7) (variables:List Int) (D:List (Az × Bool)→σ→Option (Bool × σ)) (s0:σ):Option σ:=
 ((Qr (fun F G I J M=>BU G D I t J F M) 1000000) variables ([]:List (Az × Bool)) ([]:List (Az × Int)) s0).bind fun A=>
 some A.2.2.2

theorem H7 {σ:Type} [DecidableEq σ] {w:World} {O:List Nat} {t:D7} {variables:List Int} {D:List (Az × Bool)→σ→Option (Bool × σ)} {s0:σ} {Aa:Option Addr} {Ca:Nat} {Ab:Option Addr} {Cb:Nat} {Ac:Option Addr} {Cc:Nat} {Ad:Option Addr} {Cd:Nat} {Ae:Option Addr} {Ce:Nat} {v_done:Value} {L1:Be} {S:Sx σ} (bQ:I8 w O L1) (Fa:CA Bx w (ks L1 O) Aa Ca t.p.cells) (Fb:CA (BG (AL .i64)) w (ks L1 O) Ab Cb t.p.capacity) (Fc:CA AS w (ks L1 O) Ac Cc t.p.variables) (Fd:CA (BG (Kc AY (Hm .i64))) w (ks L1 O) Ad Cd t.uses) (Fe:CA (AL .i64) w (ks L1 O) Ae Ce variables) (Ff:Js Try.prog AY HA S w (ks L1 O) v_done D) (fS:Ox S w (ks L1 O) L1 s0) {x:σ} (hm:Dh t variables D s0=some x):
 WZ Try.prog 49 [Value.agg [Sl Aa t.p.cells Ca,Sl Ab t.p.capacity Cb,Sl Ac t.p.variables Cc,Sl Ad t.uses Cd].toArray,Sl Ae variables Ce,v_done] w O L1 vU () (fun w' L'=>Ox S w' (ks L' O) L' x):=by
 unfold Dh at hm
 refine Br (n:=15) (xs:=[]) Try.func49 Au Try.ntmps49 Try.results49 Au ?_
 have hs:St ⟨w,List.filterMap Prod.fst L1,[]⟩ O w L1:=bQ
 have hO:=hs.lt0
 refine Aw<|Av<|A9<|BT (cs:=[Sl Aa t.p.cells Ca,Sl Ab t.p.capacity Cb,Sl Ac t.p.variables Cc,Sl Ad t.uses Cd]) hs Au Au ?_
 intro b1 w2 _ p3 a6
 replace Ff:=Ff.step p3
 refine A9<|BT (cs:=[v_done]) a6 (show ev _ _=v_done from Au) Ff.cells ?_
 intro b6 w7 _ p8 a7
 clear a6
 refine Ax<|Aw<|Av<|A9<|Hn a7 ?_
 intro I b7 a8 aH
 clear a7
 have bR:Mo AY (Hm .i64) (Obj.map #[] 0) ([]:List (Az × Int)):=Mo.nil_
 refine A9<|Hn aH ?_
 intro J b8 a9 aI
 clear aH
 have bS:Mo AY HA (Obj.map #[] 0) ([]:List (Az × Bool)):=Mo.nil_
 refine A9<|Bv Lp aI ?_
 intro N b9 _ bA aJ
 clear aI
 refine A9<|Bv LB aJ ?_
 intro U cA _ bB aK
 clear aJ
 refine Bh<|F1 (Value.map (some I)) Ip.p1 Lp aK Au Au Au Au ?_
 intro cB bC aL
 clear aK
 refine Bh<|F1 (Value.map (some J)) .z LB aL Au Au Au Au ?_
 intro cC bD aM
 clear aL
 refine Ax<|Aw<|Av<|A9<|Bv Qv aM ?_
 intro M cD _ bE aN
 clear aM
 refine Ax<|Aw<|Av ?_
 replace Ff:=Ff.step (p8.trans (a8.trans (a9.trans (bA.trans (bB.trans (bC.trans (bD.trans bE)))))))
 obtain⟨aO,bT,aC⟩:=St.publishP (p:=Ys Try.prog AY HA S) (i:=5) (x:=D) aN Au (Xc Ff)
 clear aN
 obtain⟨aP,bF,aD⟩:=St.publishP (p:=L5 (Value.map (some J)) Au) (i:=1) (x:=()) aO Au Au
 clear aO
 have Y:=(p3.trans (p8.trans (a8.trans (a9.trans (bA.trans (bB.trans (bC.trans (bD.trans (bE.trans (bT.trans bF))))))))))
 replace Fb:=Fb.step Y;replace Fa:=Fa.step Y;replace Fc:=Fc.step Y;replace Fd:=Fd.step Y
 obtain⟨aQ,aZ,aE⟩:=St.publishP (p:=La) (i:=4) (x:=t) aP Au (C2 (AW (C2 (AW (B8 Fa) (AW (B8 Fb) (B8 Fc)))) (B8 Fd)))
 clear aP
 obtain⟨aR,aF,aG⟩:=St.publishP (p:=L5 (Value.map (some I)) Au) (i:=1) (x:=()) aQ Au Au
 clear aQ
 refine A9<|Gl (a':=[]) (c':=[Value.pointer (some (⟨b6,0,none⟩:Addr)),Value.pointer (some (⟨U,0,none⟩:Addr)),Value.pointer (some (⟨b1,0,none⟩:Addr)),Value.pointer (some (⟨N,0,none⟩:Addr)),Pt M 0]) Au Au<|Bh<|HJ (cs:=[Value.nilFunc]) (vs:=[Value.func (.func 76) #[] #[Value.pointer (some (⟨b6,0,none⟩:Addr)),Value.pointer (some (⟨U,0,none⟩:Addr)),Value.pointer (some (⟨b1,0,none⟩:Addr)),Value.pointer (some (⟨N,0,none⟩:Addr)),Pt M 0]]) (cs':=[Value.func (.func 76) #[] #[Value.pointer (some (⟨b6,0,none⟩:Addr)),Value.pointer (some (⟨U,0,none⟩:Addr)),Value.pointer (some (⟨b1,0,none⟩:Addr)),Value.pointer (some (⟨N,0,none⟩:Addr)),Pt M 0]]) (bs':=(some M,Oc [Value.func (.func 76) #[] #[Value.pointer (some (⟨b6,0,none⟩:Addr)),Value.pointer (some (⟨U,0,none⟩:Addr)),Value.pointer (some (⟨b1,0,none⟩:Addr)),Value.pointer (some (⟨N,0,none⟩:Addr)),Pt M 0]] 117)::(some J,Obj.map #[] 0)::(some I,Obj.map #[] 0)::L1) (i:=0) Qv aR Au Au Au Au Au (BQ Au) Au Au Au ?_
 intro bU Z aS
 clear aR
 obtain⟨aT,aA,a0⟩:=St.publishP (p:=L5 (Value.func (.func 76) #[] #[Value.pointer (some (⟨b6,0,none⟩:Addr)),Value.pointer (some (⟨U,0,none⟩:Addr)),Value.pointer (some (⟨b1,0,none⟩:Addr)),Value.pointer (some (⟨N,0,none⟩:Addr)),Pt M 0]) Au) (i:=0) (x:=()) aS Au Au
 clear aS
 have F68:∀n,Le Try.prog AY HA AY (Hm .i64) S J I bU (ks ((some J,Obj.map #[] 0)::(some I,Obj.map #[] 0)::L1) O) (Value.func (.func 76) #[] #[Value.pointer (some (⟨b6,0,none⟩:Addr)),Value.pointer (some (⟨U,0,none⟩:Addr)),Value.pointer (some (⟨b1,0,none⟩:Addr)),Value.pointer (some (⟨N,0,none⟩:Addr)),Pt M 0]) (vC (BG (AL .i64))) (Qr (fun aU bV bW bX bY=>BU bV D bW t bX aU bY) n):=by
  refine Le.fix (fun aU a1=>⟨⟨_,_,Au⟩,?_⟩)
  intro cE O70 cF cG L73 cH cI cJ cK cL cM cN cO cP X bG bH bI bJ bK a2
  obtain⟨Af,Cf,rfl,Fg⟩:=B9 bK
  replace aC:=aC.step (bF.trans (aZ.trans (aF.trans (Z.trans aA))))
  have bZ:=(aZ.trans (aF.trans (Z.trans aA)))
  replace aD:=aD.step bZ
  replace aE:=aE.step (aF.trans (Z.trans aA))
  replace aG:=aG.step (Z.trans aA)
  exact⟨76,#[],#[Value.pointer (some (⟨b6,0,none⟩:Addr)),Value.pointer (some (⟨U,0,none⟩:Addr)),Value.pointer (some (⟨b1,0,none⟩:Addr)),Value.pointer (some (⟨N,0,none⟩:Addr)),Pt M 0],Au,Try.call76,IX bG Fg (aC.step X) (aD.step X) (aE.step X) (aG.step X) ((a0.step X).sbS (a1.step X)) bH bI bJ a2⟩
 have b0:=a0.sbS (F68 1000000);clear F68
 refine Ax ?_
 clear Fa Fb Fc Fd Ff aC aD aE aG a0
 refine Av<|A9<|AR Qv Au b0 Au ?_
 intro cQ bL
 have F96:=TE bL;clear bL
 refine Bb (Sl Ae variables Ce) Au ?_
 obtain⟨A,bM,hm⟩:=bd hm
 have aV:=(Y.trans (aZ.trans (aF.trans (Z.trans aA))))
 replace fS:=fS.step aV;replace Fe:=Fe.step aV
 refine A9<|Qs (rr:=A.1) (d1':=A.2.1) (d2':=A.2.2.1) (s':=A.2.2.2) [] L1 aT Au Au F96 bS bR fS (show Vr.vd (vC (BG (AL .i64))) _ _ _ _ from(Jy (B8 Fe))) bM ?_
 intro a3 a4 aB L101 aW F b4 b5 G
 replace aW:AA _ _ (ks ((some J,a4)::(some I,aB)::L101) O) a3:=aW
 replace F:St ⟨w,List.filterMap Prod.fst L1,[]⟩ O a3 ((some J,a4)::(some I,aB)::L101):=F
 replace G:Ox S a3 (ks ((some J,a4)::(some I,aB)::L101) O) L101 A.2.2.2:=G
 clear aT
 refine Ax ?_
 have W:=F.drop 1
 have bN:=(F.dropS 1)
 clear F
 have a5:=W.drop 0
 have bO:=(W.dropS 0)
 clear W
 replace G:=G.step (bN.trans bO)
 exact⟨_,DX,[],trivial,_,St.backB a5,(oi hm) ▸ G,Au⟩

def E7 (bad:List (Az × Bool)) (A:D8) (F:List (Az × Bool)):Option (Bool × Bool × D8):=
 ck ((A.bad.length+[F].length)*8≤140737488355328)<|
 some (decide (0<(bad.length:Int)),decide (0<(bad.length:Int)),(⟨A.variables,A.bad++[F]⟩:D8))

def FU (F:(List (Az × Bool))→Option (Bool × Bool × D8)) (G:Az × Bool) (A:List (Az × Bool)):Option (Bool × Bool × D8):=
 F (Dp A G.1 true)

def BV (bad:List (Az × Bool)) (F:Bool) (A:D8):Option (Bool × Bool × D8):=
 ck (bad.length<9223372036854775808)<|
 bif (decide (0<(bad.length:Int))) then
  Jp FU (E7 bad A) bad ([]:List (Az × Bool))
 else
  some (decide (0<(bad.length:Int)),decide (0<(bad.length:Int)),A)

theorem IY {w:World} {O:List Nat} {bad:List (Az × Bool)} {X:Bool} {G:D8} {bm_bad:Nat} {om_bad:Obj} {I:Nat} {J:Nat} {Aa:Option Addr} {Ca:Nat} {Ab:Option Addr} {Cb:Nat} {A:Option Nat} {F:Obj} (bP:I8 w O [(some I,Oc [Bo X] 4),(some J,Oc [Sl Aa G.variables Ca,Sl Ab G.bad Cb] 86),(A,F),(some bm_bad,om_bad)]) (Fa:CA (AL .i64) w (ks [(some I,Oc [Bo X] 4),(some J,Oc [Sl Aa G.variables Ca,Sl Ab G.bad Cb] 86),(A,F),(some bm_bad,om_bad)] O) Aa Ca G.variables) (Fb:Gs (Kc AY HA) 98 w (ks [(some I,Oc [Bo X] 4),(some J,Oc [Sl Aa G.variables Ca,Sl Ab G.bad Cb] 86),(A,F),(some bm_bad,om_bad)] O) Ab Cb G.bad A F) (hM_bad:Mo AY HA om_bad bad) {x0:Bool} {y_fv0_:Bool} {y_fv1_:D8} (Y:BV bad X G=some (x0,y_fv0_,y_fv1_)):
 WZ Try.prog 67 [Value.map (some bm_bad),Pt I 0,Pt J 0] w O [(some I,Oc [Bo X] 4),(some J,Oc [Sl Aa G.variables Ca,Sl Ab G.bad Cb] 86),(A,F),(some bm_bad,om_bad)] vB x0 (fun w' L'=>∃(Ac:Option Addr) (Cc:Nat) (Ad:Option Addr) (Cd:Nat) (N:Option Nat) (U:Obj),L'=[(some I,Obj.cells [Bo y_fv0_].toArray 4),(some J,Obj.cells [Sl Ac y_fv1_.variables Cc,Sl Ad y_fv1_.bad Cd].toArray 86),(N,U),(some bm_bad,om_bad)]∧CA (AL .i64) w' (ks L' O) Ac Cc y_fv1_.variables∧Gs (Kc AY HA) 98 w' (ks L' O) Ad Cd y_fv1_.bad N U):=by
 unfold BV at Y
 refine Br (n:=27) (xs:=[.tmp 4]) Try.func67 Au Try.ntmps67 Try.results67 Au ?_
 obtain⟨x,hxm⟩:∃x,x=(x0,y_fv0_,y_fv1_):=⟨_,Au⟩
 rw [← hxm] at Y
 have hs:St ⟨w,List.filterMap Prod.fst [(some I,Oc [Bo X] 4),(some J,Oc [Sl Aa G.variables Ca,Sl Ab G.bad Cb] 86),(A,F),(some bm_bad,om_bad)],[]⟩ O w [(some I,Oc [Bo X] 4),(some J,Oc [Sl Aa G.variables Ca,Sl Ab G.bad Cb] 86),(A,F),(some bm_bad,om_bad)]:=bP
 have hO:=hs.lt0
 refine Aw<|Av<|Bn (Bo false) Au<|Ax<|Aw<|Aw<|Av<|Bb (Value.map (some bm_bad)) Au<|A9<|UO (q:=AY) (m:=HA) (i:=3) Try.underlying98 hs Au hM_bad Au ?_
 obtain⟨cE,Y⟩:=AE Y
 refine A9<|EB Au Au<|Bh<|F1 (Bo (decide (0<(bad.length:Int)))) .z Jt hs Au Au Au Au ?_
 intro w2 p3 aD
 refine Ax<|Aw<|Av<|A9<|AP 0 Jt aD Au Au Au<|Ax<|AF Y Au (fun bR Y=>?_) (fun bR Y=>?_)
 refine Aw<|Av<|A9<|Hn aD ?_
 intro b6 w7 p8 a4
 clear aD
 have bS:Mo AY HA (Obj.map #[] 0) ([]:List (Az × Bool)):=Mo.nil_
 refine Bn (Value.map (some b6)) Au<|Ax<|Aw<|Aw<|Av<|Bb (Value.map (some bm_bad)) Au<|A9<|SQ (q:=AY) (m:=HA) (i:=4) Try.underlying98 a4 Au hM_bad Au ?_
 intro a5 bT aE cG bU aS bV a6
 clear a4
 refine Ax<|AC<|Wr [] [(1,Pt I 0),(2,Pt J 0),(5,Value.map (some b6)),(13,Pt a5 0)] fun b9=>?_
 rw [← L7 a6] at Y
 refine Bf [6,14,15,16,17,18,19] (fun m fr w'=>∃(M:List (Az × Bool)) (aA:Obj) (W:List (Az × Bool)) (Z:Obj) (a0:Be),a0=[(some a5,aA),(some b6,Z),(some I,Oc [Bo (decide (0<(bad.length:Int)))] 4),(some J,Oc [Sl Aa G.variables Ca,Sl Ab G.bad Cb] 86),(A,F),(some bm_bad,om_bad)]∧fr [] []∧aS.S (ks a0 O) w'∧St ⟨w,List.filterMap Prod.fst [(some I,Oc [Bo X] 4),(some J,Oc [Sl Aa G.variables Ca,Sl Ab G.bad Cb] 86),(A,F),(some bm_bad,om_bad)],[]⟩ O w' a0∧QQ AY HA om_bad aA bm_bad none W∧Mo AY HA Z M∧W.length<m∧Jp FU (E7 bad G) W M=some x) (aE.length+1) ⟨([]:List (Az × Bool)),bT,aE,Obj.map #[] 0,_,Au,BB.of trivial,AA.refl _ _,aS,bV.any,bS,Nat.lt_succ_self _,Y⟩ ?_ ?_
 rintro _ _ ⟨_,_,_,_,_,_,_,_,_,_,_,hl,_⟩;exact absurd hl (Nat.not_lt_zero _)
 rintro bW cH a7 cA cI ⟨M,aA,W,Z,_,rfl,aF,aG,aB,a1,aH,a8,Y⟩
 rw [aF.eq];clear aF
 have aI:=aG
 refine Aw<|Av<|A9 (TB (q:=AY) (m:=HA) (i:=0) (j:=5) aB Au Au a1 Au ?_ ?_)
 intro aJ;subst aJ;replace Y:=P3 Y;unfold E7 at Y
 refine A9<|Bk (v:=Bo false) Au Au<|Ax<|Aw<|GG Au<|Bq ?_
 obtain⟨aK,bX⟩:=aB.sub (bs':=[(some b6,Z),(some I,Oc [Bo (decide (0<(bad.length:Int)))] 4),(some J,Oc [Sl Aa G.variables Ca,Sl Ab G.bad Cb] 86),(A,F),(some bm_bad,om_bad)]) (.cons _ (.cons_cons _ (.cons_cons _ (.cons_cons _ (.cons_cons _ (.cons_cons _ List.Sublist.slnil))))))
 clear aB
 refine Av<|A9<|AQ 1 KG Au MC Au Au<|A9<|AP 2 MC aK Au Au Au<|Bb (Value.map (some b6)) Au ?_
 obtain⟨aT,bY,aR⟩:=St.publishM (i:=0) aK Au aH
 clear aK
 refine A9<|Bm (cs:=[Value.map (some b6)]) (parts:=[(0,.tmp 22)]) MC LB aT (by decide) Au ?_
 intro cJ cK cB a9 aL
 clear aT
 obtain⟨aU,Y⟩:=AE Y
 replace aR:=aR.step a9
 have bA:=(p3.trans (p8.trans (bU.trans (aG.trans (bX.trans (bY.trans a9))))))
 replace Fb:=Fb.step bA
 refine A9 (FF (q:=Kc AY HA) (i:=3) (xs:=G.bad) (ys:=[M]) (news:=[Value.map (some b6)]) MC LB Au (by decide) aL Au Au Fb Au (Oj.owned' (len:=1) (aL.get (i:=0) Au) Au) (show E0 (Kc AY HA) _ _ [Value.map (some b6)] [M] from⟨_,_,Au,Sf aR,E0.nil⟩) aU (by have:=aU;simp only [maxLen];omega) ?_)
 intro bB bC cL cM cN bZ aM a2
 clear aL
 have aV:=aM.drop 0
 have bD:=(aM.dropS 0)
 clear aM
 refine A9<|AQ 1 KG Au MC Au Au<|Bh<|KC (Sl bB (G.bad++[M]) bC) (cs':=[Sl Aa G.variables Ca,Sl bB (G.bad++[M]) bC]) Ip.p1 MC aV Au Au Au (BQ Au) Au Au ?_
 intro cO bE aW
 clear aV
 refine Ax<|Aw ?_
 clear aR
 refine Av<|A9<|AP 0 Jt aW Au Au Au<|Bn (Bo (decide (0<(bad.length:Int)))) Au<|Ax<|AV ?_
 have aX:=(oi Y).trans hxm;simp only [Prod.mk.injEq] at aX;obtain⟨bF,rfl,rfl⟩:=aX
 replace a2:=a2.step (bD.trans bE)
 replace Fa:=Fa.step (bA.trans (bZ.trans (bD.trans bE)))
 refine⟨_,DX,[Bo (decide (0<(bad.length:Int)))],⟨Au,trivial⟩,_,St.backB aW,⟨_,_,_,_,_,_,Au,Fa,a2⟩,?_⟩
 exact Vr.eq (a:=vB) (x:=decide (0<(bad.length:Int))) Au bF
 intro aC bG bH b0 cP aJ b1 aN bI bJ cC;subst aJ
 have bK:(bG++bH).length<bW:=by have:=a8;simp only [List.length_append,List.length_cons] at this ⊢;omega
 obtain⟨cD,a3,Y⟩:=P4 Y;unfold FU at Y
 clear aB
 obtain⟨bL,bM⟩:=bJ
 refine A9<|Bk (v:=Bo true) Au Au<|Ax<|Aw<|Hu Au<|AG<|AC<|Aw<|Av<|A9<|SR (q:=AY) (m:=HA) (i:=0) (j:=5) aN Au Au bI Au<|A9<|Bk (v:=Value.agg [Iv aC.1.leaf,Iv aC.1.cell].toArray) Au Au<|A9<|Bv C5 aN ?_
 intro cQ cR _ b2 aY
 clear aN
 refine Bh<|C6 .z C5 aY Au Au Au Au Au ?_
 intro cS b3 aO
 clear aY
 refine Ax<|Av<|Bb (Value.map (some b6)) Au<|A9<|B1 0 C5 aO Au Au Au<|Bh<|GP (q:=AY) (m:=HA) (n:=aC.1) (v:=true) (i:=2) Try.underlying98 Iy aO Au aH Au Au Au Au (And.intro bL bM) trivial ?_
 intro b4 cT b5 aP b7
 clear aO
 refine Ax ?_
 have bN:=aP.drop 0
 have b8:=(aP.dropS 0)
 clear aP
 replace aI:=aI.trans (b1.trans (b2.trans (b3.trans (b5.trans b8))))
 exact a7 _ _ ⟨Dp M aC.1 true,b0,bG++bH,b4,_,Au,BB.of trivial,aI,bN,bI.any,b7,bK,Dc a3 Y⟩
 refine AG<|Aw<|Av<|A9<|AP 0 Jt aD Au Au Au<|Bn (Bo (decide (0<(bad.length:Int)))) Au<|Ax<|AV ?_
 have aZ:=(oi Y).trans hxm;simp only [Prod.mk.injEq] at aZ;obtain⟨bO,rfl,rfl⟩:=aZ
 replace Fb:=Fb.step p3;replace Fa:=Fa.step p3
 refine⟨_,DX,[Bo (decide (0<(bad.length:Int)))],⟨Au,trivial⟩,_,St.backB aD,⟨_,_,_,_,_,_,Au,Fa,Fb⟩,?_⟩
 exact Vr.eq (a:=vB) (x:=decide (0<(bad.length:Int))) Au bO
def S67 (W X:Nat):Sx (Bool × D8) where
 rd w O E s:=∃(A:Option Addr) (F:Nat) (I:Option Addr) (J:Nat) (G:Option Nat) (M:Obj),E=[(some W,Obj.cells [Bo s.1].toArray 4),(some X,Obj.cells [Sl A s.2.variables F,Sl I s.2.bad J].toArray 86),(G,M)]∧CA (AL .i64) w O A F s.2.variables∧Gs (Kc AY HA) 98 w O I J s.2.bad G M
 step:=fun p h=>by
  obtain⟨A,F,I,J,G,M,hE,N,U⟩:=h
  exact⟨A,F,I,J,G,M,hE,N.step p,U.step p⟩
theorem d67 {w:World} {O:List Nat} {G I:Nat} :
 Js Try.prog AY HA (S67 G I) w O (Value.func (.func 67) #[] #[Pt G 0,Pt I 0]) (fun xs s=>BV xs s.1 s.2):=by
 refine⟨⟨_,_,Au⟩,?_⟩
 intro J O1 L1 b o xs s r s' p hL hb ho hM hS M
 obtain⟨Aa,Ca,Ab,Cb,A,F,rfl,Fa,Fb⟩:=hS
 have hL':=hL.join hb ho
 have hp:=fun L=>AA.join (O:=O1) L J o hb
 refine⟨67,#[],_,Au,Try.call67,(IY (x0:=r) (y_fv0_:=s'.1) (y_fv1_:=s'.2) hL' (Fa.step (hp _)) (Fb.step (hp _)) hM M).mono ?_⟩
 rintro u N ⟨L2,hB,⟨Aa,Ca,Ab,Cb,A,F,rfl,Fa,Fb⟩,hu⟩
 exact⟨_,hB.unjoin hL hb ho,⟨_,_,_,_,_,_,Au,Fa.step (AA.unjoin [(some G,Obj.cells [Bo s'.1].toArray 4),(some I,Obj.cells [Sl Aa s'.2.variables Ca,Sl Ab s'.2.bad Cb].toArray 86),(A,F)] _ o hb),Fb.step (AA.unjoin [(some G,Obj.cells [Bo s'.1].toArray 4),(some I,Obj.cells [Sl Aa s'.2.variables Ca,Sl Ab s'.2.bad Cb].toArray 86),(A,F)] _ o hb)⟩,hu⟩

def Ee (t:D7) (F:(List D8)→Option (List D8)) (G:(List Int)) (I:List D8):Option (List D8):=
 (Dh t G (fun xs s=>BV xs s.1 s.2) (true,(⟨G,([]:List (List (Az × Bool)))⟩:D8))).bind fun A=>
 bif A.1 then
  ck ((I.length+[A.2].length)*48≤140737488355328)<|
  F (I++[A.2])
 else
  F I

def ED (t:D7) (k:Int):Option (List D8):=
 (Gv (t.p.variables.length:Int) k).bind fun A=>
 jn (fun(F:List D8)=>
  some F)
 (fun G=>
  IU (Ee t) G A ([]:List D8))

theorem J3 {w:World} {O:List Nat} {t:D7} {k:Int} {Aa:Option Addr} {Ca:Nat} {Ab:Option Addr} {Cb:Nat} {Ac:Option Addr} {Cc:Nat} {Ad:Option Addr} {Cd:Nat} (hO:∀k∈O,k<w.heap.size) (Fa:CA Bx w O Aa Ca t.p.cells) (Fb:CA (BG (AL .i64)) w O Ab Cb t.p.capacity) (Fc:CA AS w O Ac Cc t.p.variables) (Fd:CA (BG (Kc AY (Hm .i64))) w O Ad Cd t.uses) (Ra:Cx .i64 k) {x:(List D8)} (hm:ED t k=some x):
 Px Try.prog 43 [Value.agg [Sl Aa t.p.cells Ca,Sl Ab t.p.capacity Cb,Sl Ac t.p.variables Cc,Sl Ad t.uses Cd].toArray,Iv k] w O Kg 86 x:=by
 unfold ED at hm
 refine Br (n:=27) (xs:=[.cell 4 82]) Try.func43 Au Try.ntmps43 Try.results43 Au ?_
 have hs:=St.start hO
 refine Aw<|Av<|A9<|BT (cs:=[Sl Aa t.p.cells Ca,Sl Ab t.p.capacity Cb,Sl Ac t.p.variables Cc,Sl Ad t.uses Cd]) hs Au Au ?_
 intro Z w2 _ p3 b7
 refine A9<|Bv PD b7 ?_
 intro Y w7 _ p8 a0
 clear b7
 refine Ax<|Aw<|Aw<|Av<|A9<|AQ 0 LA Au B4 Au Au<|A9<|AQ 2 B4 Au Cz Au Au<|A9<|AP 1 Cz a0 Au Au Au<|A9<|AZ Try.underlying24 Au ?_
 have b8:=(p3.trans p8)
 replace Fc:=Fc.step b8
 have b9:=AX Fc
 refine Bb (Iv k) Au ?_
 obtain⟨aQ,cA,hm⟩:=bd hm
 refine A9<|Bi a0 Try.call45 (JK (n:=(t.p.variables.length:Int)) (k:=k) a0.ltw b9 Ra cA) Au ?_
 rintro cV cB cC cD cW
 clear a0
 have F_y20:U0 Try.prog (JF (vC (BG (AL .i64)))) _ _ cV aQ:=cW
 refine Ax<|AC ?_
 obtain⟨cE,cF,hm⟩:=Cy hm
 have a6:=cD.ghost (Obj.cells #[] 86)
 have aF:=F_y20;obtain⟨c0,c1,bP,bQ,aF⟩:=aF
 refine IK (σ:=(List D8) × (Option Addr) × Nat × (Option Nat) × Obj) (ps:=[14]) a6 (rfl.trans bP) bQ aF Au Qf OF (fun s=>match s with |(I,Ae,Ce,A,F)=>[(A,F),(some Y,Oc [Sl Ae I Ce] 82),(some Z,Oc [Sl Aa t.p.cells Ca,Sl Ab t.p.capacity Cb,Sl Ac t.p.variables Cc,Sl Ad t.uses Cd] 80)]) (fun s w O=>match s with |(I,Ae,Ce,A,F)=>Gs Kg 86 w O Ae Ce I A F) (fun s w O w' O' p h=>by obtain⟨I,Ae,Ce,A,F⟩:=s;have h:Gs Kg 86 w O Ae Ce I A F:=h;have Fe:=h;exact Fe.step p) (fun s l=>match s with |(I,Ae,Ce,A,F)=>IU (Ee t) cE l I=some x) [] (fun _ _=>False) (([]:List D8),none,0,none,Obj.cells #[] 86) Au Gs.nil_ hm ?_ ?_ ?_
 rintro dC E33 ⟨I,Ae,Ce,A,F⟩ J a1 a2 cG cX c2 aO aR Fe hm aS
 replace aO:St cX (E33++O) a2 [(A,F),(some Y,Oc [Sl Ae I Ce] 82),(some Z,Oc [Sl Aa t.p.cells Ca,Sl Ab t.p.capacity Cb,Sl Ac t.p.variables Cc,Sl Ad t.uses Cd] 80)]:=aO
 have aB:AA (ks [(none,Obj.cells #[] 86),(some Y,Oc [Value.slice none 0 0] 82),(some Z,Oc [Sl Aa t.p.cells Ca,Sl Ab t.p.capacity Cb,Sl Ac t.p.variables Cc,Sl Ad t.uses Cd] 80)] O) cB (ks [(A,F),(some Y,Oc [Sl Ae I Ce] 82),(some Z,Oc [Sl Aa t.p.cells Ca,Sl Ab t.p.capacity Cb,Sl Ac t.p.variables Cc,Sl Ad t.uses Cd] 80)] (E33++O)) a2:=aR;clear aR
 replace Fe:Gs Kg 86 a2 (ks [(A,F),(some Y,Oc [Sl Ae I Ce] 82),(some Z,Oc [Sl Aa t.p.cells Ca,Sl Ab t.p.capacity Cb,Sl Ac t.p.variables Cc,Sl Ad t.uses Cd] 80)] (E33++O)) Ae Ce I A F:=Fe
 have cH:=R4 (show IU _ _ (J::a1) I=some _ from hm);clear hm;obtain⟨c3,aT,hm⟩:=cH
 unfold Ee at hm
 replace aS:(JF (vC (BG (AL .i64)))) J a2 (ks [(A,F),(some Y,Oc [Sl Ae I Ce] 82),(some Z,Oc [Sl Aa t.p.cells Ca,Sl Ab t.p.capacity Cb,Sl Ac t.p.variables Cc,Sl Ad t.uses Cd] 80)] (E33++O)) cG:=aS
 obtain⟨dD,rfl,cY⟩:=aS
 obtain⟨Af,Cf,rfl,Ff⟩:=B9 cY
 refine Av<|Bn (Sl Af J Cf) Au<|Ax<|Exists.intro _<|And.intro aO ?_
 intro dE bR RQ52 c4 a7 bS a8 c5
 clear aO
 refine AC<|Aw<|Av<|Bb (Sl Af J Cf) Au<|A9<|DM (vs:=[Sl Af J Cf,Value.slice none 0 0]) (parts:=[(0,.tmp 15)]) KG pl86 Au<|A9<|Bv KG a7 ?_
 intro U dF _ bT a9
 clear a7
 refine Bh<|C6 .z KG a9 Au Au Au Au Au ?_
 intro dG bU bA
 clear a9
 refine Ax<|Aw<|Av<|A9<|Bv Jt bA ?_
 intro W dH _ bV bB
 clear bA
 refine Bh<|F1 (Bo true) .z Jt bB Au Au Au Au ?_
 intro aE bW bC
 clear bB
 refine Ax<|Aw<|Av<|A9<|B1 4 LA bC Au Au Au<|Bb (Sl Af J Cf) Au<|A9<|Gl (a':=[]) (c':=[Pt W 0,Pt U 0]) Au Au ?_
 have bD:=bC.ghost (Obj.cells #[] 98)
 obtain⟨bE,bX⟩:St bR (E33++O) aE [(some U,Oc [Sl Af J Cf,Sl none ([]:List (List (Az × Bool))) 0] 86),(none,Obj.cells #[] 98),(some W,Oc [Bo true] 4),(A,F),(some Y,Oc [Sl Ae I Ce] 82),(some Z,Oc [Sl Aa t.p.cells Ca,Sl Ab t.p.capacity Cb,Sl Ac t.p.variables Cc,Sl Ad t.uses Cd] 80)]∧AA (ks [(none,Obj.cells #[] 98),(some W,Oc [Bo true] 4),(some U,Oc [Sl Af J Cf,Sl none ([]:List (List (Az × Bool))) 0] 86),(A,F),(some Y,Oc [Sl Ae I Ce] 82),(some Z,Oc [Sl Aa t.p.cells Ca,Sl Ab t.p.capacity Cb,Sl Ac t.p.variables Cc,Sl Ad t.uses Cd] 80)] (E33++O)) aE (ks [(some U,Oc [Sl Af J Cf,Sl none ([]:List (List (Az × Bool))) 0] 86),(none,Obj.cells #[] 98),(some W,Oc [Bo true] 4),(A,F),(some Y,Oc [Sl Ae I Ce] 82),(some Z,Oc [Sl Aa t.p.cells Ca,Sl Ab t.p.capacity Cb,Sl Ac t.p.variables Cc,Sl Ad t.uses Cd] 80)] (E33++O)) aE:=St.front bD (i:=2) Au
 clear bD
 obtain⟨aU,bY⟩:St bR (E33++O) aE [(some W,Oc [Bo true] 4),(some U,Oc [Sl Af J Cf,Sl none ([]:List (List (Az × Bool))) 0] 86),(none,Obj.cells #[] 98),(A,F),(some Y,Oc [Sl Ae I Ce] 82),(some Z,Oc [Sl Aa t.p.cells Ca,Sl Ab t.p.capacity Cb,Sl Ac t.p.variables Cc,Sl Ad t.uses Cd] 80)]∧AA (ks [(some U,Oc [Sl Af J Cf,Sl none ([]:List (List (Az × Bool))) 0] 86),(none,Obj.cells #[] 98),(some W,Oc [Bo true] 4),(A,F),(some Y,Oc [Sl Ae I Ce] 82),(some Z,Oc [Sl Aa t.p.cells Ca,Sl Ab t.p.capacity Cb,Sl Ac t.p.variables Cc,Sl Ad t.uses Cd] 80)] (E33++O)) aE (ks [(some W,Oc [Bo true] 4),(some U,Oc [Sl Af J Cf,Sl none ([]:List (List (Az × Bool))) 0] 86),(none,Obj.cells #[] 98),(A,F),(some Y,Oc [Sl Ae I Ce] 82),(some Z,Oc [Sl Aa t.p.cells Ca,Sl Ab t.p.capacity Cb,Sl Ac t.p.variables Cc,Sl Ad t.uses Cd] 80)] (E33++O)) aE:=St.front bE (i:=2) Au
 clear bE
 have bZ:=(bS.trans (bT.trans (bU.trans (bV.trans (bW.trans (bX.trans bY))))))
 replace Ff:=Ff.step bZ
 have bF:Ox (S67 W U) aE (ks [(some W,Oc [Bo true] 4),(some U,Oc [Sl Af J Cf,Sl none ([]:List (List (Az × Bool))) 0] 86),(none,Obj.cells #[] 98)] (ks [(A,F),(some Y,Oc [Sl Ae I Ce] 82),(some Z,Oc [Sl Aa t.p.cells Ca,Sl Ab t.p.capacity Cb,Sl Ac t.p.variables Cc,Sl Ad t.uses Cd] 80)] (E33++O))) [(some W,Oc [Bo true] 4),(some U,Oc [Sl Af J Cf,Sl none ([]:List (List (Az × Bool))) 0] 86),(none,Obj.cells #[] 98)] (true,(⟨J,([]:List (List (Az × Bool)))⟩:D8)):=by rw [← IW];exact⟨Af,Cf,none,0,none,Obj.cells #[] 98,Au,Ff,Gs.nil_ (q:=Kc AY HA)⟩
 obtain⟨G,cI,hm⟩:=bd hm
 have aC:ks [(some W,Oc [Bo true] 4),(some U,Oc [Sl Af J Cf,Sl none ([]:List (List (Az × Bool))) 0] 86),(none,Obj.cells #[] 98),(A,F),(some Y,Oc [Sl Ae I Ce] 82),(some Z,Oc [Sl Aa t.p.cells Ca,Sl Ab t.p.capacity Cb,Sl Ac t.p.variables Cc,Sl Ad t.uses Cd] 80)] (E33++O)=ks [(some W,Oc [Bo true] 4),(some U,Oc [Sl Af J Cf,Sl none ([]:List (List (Az × Bool))) 0] 86),(none,Obj.cells #[] 98)] (ks [(A,F),(some Y,Oc [Sl Ae I Ce] 82),(some Z,Oc [Sl Aa t.p.cells Ca,Sl Ab t.p.capacity Cb,Sl Ac t.p.variables Cc,Sl Ad t.uses Cd] 80)] (E33++O)):=IW [(some W,Oc [Bo true] 4),(some U,Oc [Sl Af J Cf,Sl none ([]:List (List (Az × Bool))) 0] 86),(none,Obj.cells #[] 98)] [(A,F),(some Y,Oc [Sl Ae I Ce] 82),(some Z,Oc [Sl Aa t.p.cells Ca,Sl Ab t.p.capacity Cb,Sl Ac t.p.variables Cc,Sl Ad t.uses Cd] 80)] (E33++O)
 have b0:=(b8.trans (cC.trans (aB.trans (bS.trans (bT.trans (bU.trans (bV.trans (bW.trans (bX.trans bY)))))))))
 replace Fb:=Fb.step b0;replace Fa:=Fa.step b0
 replace Fc:=Fc.step (cC.trans (aB.trans (bS.trans (bT.trans (bU.trans (bV.trans (bW.trans (bX.trans bY))))))));replace Fd:=Fd.step b0
 refine A9<|NI (rest:=[(A,F),(some Y,Oc [Sl Ae I Ce] 82),(some Z,Oc [Sl Aa t.p.cells Ca,Sl Ab t.p.capacity Cb,Sl Ac t.p.variables Cc,Sl Ad t.uses Cd] 80)]) Try.call49 [(some W,Oc [Bo true] 4),(some U,Oc [Sl Af J Cf,Sl none ([]:List (List (Az × Bool))) 0] 86),(none,Obj.cells #[] 98)] aU (H7 (S:=S67 W U) (t:=t) (variables:=J) (D:=(fun xs s=>BV xs s.1 s.2)) (s0:=(true,(⟨J,([]:List (List (Az × Bool)))⟩:D8))) (St.lendL (L:=[(some W,Oc [Bo true] 4),(some U,Oc [Sl Af J Cf,Sl none ([]:List (List (Az × Bool))) 0] 86),(none,Obj.cells #[] 98)]) (rest:=[(A,F),(some Y,Oc [Sl Ae I Ce] 82),(some Z,Oc [Sl Aa t.p.cells Ca,Sl Ab t.p.capacity Cb,Sl Ac t.p.variables Cc,Sl Ad t.uses Cd] 80)]) aU) (aC ▸ Fa) (aC ▸ Fb) (aC ▸ Fc) (aC ▸ Fd) (aC ▸ Ff) d67 bF cI) Au ?_
 intro dI a3 L85 a4 X cJ _;clear bF aC
 obtain⟨Ag,Cg,Ah,Ch,M,N,rfl,Fg,Fh⟩:=cJ
 replace X:St bR (E33++O) a3 [(some W,Oc [Bo G.1] 4),(some U,Oc [Sl Ag G.2.variables Cg,Sl Ah G.2.bad Ch] 86),(M,N),(A,F),(some Y,Oc [Sl Ae I Ce] 82),(some Z,Oc [Sl Aa t.p.cells Ca,Sl Ab t.p.capacity Cb,Sl Ac t.p.variables Cc,Sl Ad t.uses Cd] 80)]:=X
 replace a4:AA (ks [(some W,Oc [Bo true] 4),(some U,Oc [Sl Af J Cf,Sl none ([]:List (List (Az × Bool))) 0] 86),(none,Obj.cells #[] 98),(A,F),(some Y,Oc [Sl Ae I Ce] 82),(some Z,Oc [Sl Aa t.p.cells Ca,Sl Ab t.p.capacity Cb,Sl Ac t.p.variables Cc,Sl Ad t.uses Cd] 80)] (E33++O)) aE (ks [(some W,Oc [Bo G.1] 4),(some U,Oc [Sl Ag G.2.variables Cg,Sl Ah G.2.bad Ch] 86),(M,N),(A,F),(some Y,Oc [Sl Ae I Ce] 82),(some Z,Oc [Sl Aa t.p.cells Ca,Sl Ab t.p.capacity Cb,Sl Ac t.p.variables Cc,Sl Ad t.uses Cd] 80)] (E33++O)) a3:=a4
 replace Fg:CA (AL .i64) a3 (ks [(some W,Oc [Bo G.1] 4),(some U,Oc [Sl Ag G.2.variables Cg,Sl Ah G.2.bad Ch] 86),(M,N),(A,F),(some Y,Oc [Sl Ae I Ce] 82),(some Z,Oc [Sl Aa t.p.cells Ca,Sl Ab t.p.capacity Cb,Sl Ac t.p.variables Cc,Sl Ad t.uses Cd] 80)] (E33++O)) Ag Cg G.2.variables:=(IW [(some W,Oc [Bo G.1] 4),(some U,Oc [Sl Ag G.2.variables Cg,Sl Ah G.2.bad Ch] 86),(M,N)] [(A,F),(some Y,Oc [Sl Ae I Ce] 82),(some Z,Oc [Sl Aa t.p.cells Ca,Sl Ab t.p.capacity Cb,Sl Ac t.p.variables Cc,Sl Ad t.uses Cd] 80)] (E33++O)).symm ▸ Fg
 replace Fh:Gs (Kc AY HA) 98 a3 (ks [(some W,Oc [Bo G.1] 4),(some U,Oc [Sl Ag G.2.variables Cg,Sl Ah G.2.bad Ch] 86),(M,N),(A,F),(some Y,Oc [Sl Ae I Ce] 82),(some Z,Oc [Sl Aa t.p.cells Ca,Sl Ab t.p.capacity Cb,Sl Ac t.p.variables Cc,Sl Ad t.uses Cd] 80)] (E33++O)) Ah Ch G.2.bad M N:=(IW [(some W,Oc [Bo G.1] 4),(some U,Oc [Sl Ag G.2.variables Cg,Sl Ah G.2.bad Ch] 86),(M,N)] [(A,F),(some Y,Oc [Sl Ae I Ce] 82),(some Z,Oc [Sl Aa t.p.cells Ca,Sl Ab t.p.capacity Cb,Sl Ac t.p.variables Cc,Sl Ad t.uses Cd] 80)] (E33++O)).symm ▸ Fh
 clear aU
 refine Ax<|Aw<|Av<|A9<|AP 0 Jt X Au Au Au<|Ax<|AF hm Au (fun cK hm=>?_) (fun cK hm=>?_)
 refine Av<|A9<|AP 4 PD X Au Au Au<|A9<|B1 1 KG X Au Au Au ?_
 obtain⟨bG,cL,b2⟩:=Gs.publish (i:=2) X Au Fh
 clear X
 refine A9<|Bm (cs:=[Sl Ag G.2.variables Cg,Sl Ah G.2.bad Ch]) (parts:=[(0,.tmp 23)]) PD KG bG (by decide) Au ?_
 intro dJ dK cZ b3 aG
 clear bG
 obtain⟨aV,hm⟩:=AE hm
 replace b2:=b2.step b3
 have bH:=(bZ.trans (a4.trans (cL.trans b3)))
 replace Fe:=Fe.step bH
 replace Fg:=Fg.step (cL.trans b3)
 refine A9 (FF (q:=Kg) (i:=3) (xs:=I) (ys:=[G.2]) (news:=[Sl Ag G.2.variables Cg,Sl Ah G.2.bad Ch]) PD KG Au (by decide) aG Au Au Fe Au (Oj.owned' (len:=2) (aG.get (i:=0) Au) Au) (show E0 Kg _ _ [Sl Ag G.2.variables Cg,Sl Ah G.2.bad Ch] [G.2] from⟨_,_,Au,C2 (AW (B8 Fg) (B8 b2)),E0.nil⟩) aV (by have:=aV;simp only [maxLen];omega) ?_)
 intro bI bJ cM cN c6 cO aH aW
 clear aG
 have aX:=aH.drop 0
 have bK:=(aH.dropS 0)
 clear aH
 refine Bh<|F1 (Sl bI (I++[G.2]) bJ) Ip.p3 PD aX Au Au Au Au ?_
 intro c7 bL aI
 clear aX
 refine Ax ?_
 have aJ:=aI.drop 1
 have bM:=(aI.dropS 1)
 clear aI
 have b4:=aJ.drop 0
 have bN:=(aJ.dropS 0)
 clear aJ
 replace aB:=aB.trans (bH.trans (cO.trans (bK.trans (bL.trans (bM.trans bN)))))
 replace aW:=aW.step (bK.trans (bL.trans (bM.trans bN)))
 exact a8 (I++[G.2],bI,bJ,cM,cN) _ _ b4 aB aW (Dc aT hm)
 refine AG ?_
 have aK:=X.drop 2
 have cP:=(X.dropS 2)
 clear X
 have aL:=aK.drop 1
 have cQ:=(aK.dropS 1)
 clear aK
 have b5:=aL.drop 0
 have cR:=(aL.dropS 0)
 clear aL
 have bO:=(bZ.trans (a4.trans (cP.trans (cQ.trans cR))))
 replace aB:=aB.trans bO;replace Fe:=Fe.step bO
 exact a8 (I,Ae,Ce,A,F) _ _ b5 aB Fe (Dc aT hm)
 rintro D129 ⟨I,Ae,Ce,A,F⟩ aY aD aP Fe hm
 replace aD:St ⟨w,[],D129::[]⟩ (D129::O) aY [(A,F),(some Y,Oc [Sl Ae I Ce] 82),(some Z,Oc [Sl Aa t.p.cells Ca,Sl Ab t.p.capacity Cb,Sl Ac t.p.variables Cc,Sl Ad t.uses Cd] 80)]:=aD
 replace aP:AA (ks [(none,Obj.cells #[] 86),(some Y,Oc [Value.slice none 0 0] 82),(some Z,Oc [Sl Aa t.p.cells Ca,Sl Ab t.p.capacity Cb,Sl Ac t.p.variables Cc,Sl Ad t.uses Cd] 80)] O) cB (ks [(A,F),(some Y,Oc [Sl Ae I Ce] 82),(some Z,Oc [Sl Aa t.p.cells Ca,Sl Ab t.p.capacity Cb,Sl Ac t.p.variables Cc,Sl Ad t.uses Cd] 80)] (D129::O)) aY:=aP
 replace Fe:Gs Kg 86 aY (ks [(A,F),(some Y,Oc [Sl Ae I Ce] 82),(some Z,Oc [Sl Aa t.p.cells Ca,Sl Ab t.p.capacity Cb,Sl Ac t.p.variables Cc,Sl Ad t.uses Cd] 80)] (D129::O)) Ae Ce I A F:=Fe
 replace hm:=R3 (show IU _ _ [] I=some _ from hm)
 replace hm:=Dc cF (show cE I=some _ from hm)
 clear a6
 refine Aw ?_
 obtain⟨aM,cS⟩:=aD.sub (bs':=[(A,F),(some Y,Oc [Sl Ae I Ce] 82)]) (.cons_cons _ (.cons_cons _ (.cons _ List.Sublist.slnil)))
 clear Fa Fb Fc Fd F_y20
 clear aD
 refine Av<|A9<|AP 1 PD aM Au Au Au<|Bh<|F1 (Sl Ae I Ce) Ip.p1 PD aM Au Au Au Au ?_
 intro c8 cT aZ
 clear aM
 refine Ax<|AV ?_
 obtain⟨c9,a5,aN,cU⟩:=St.close aZ
 clear aZ
 refine⟨_,a5,[Sl Ae I Ce],⟨N8 (cs:=[Sl Ae I Ce]) PD (i:=1) aN Au Au Au,trivial⟩,aN.ext,?_⟩
 replace Fe:=Fe.step (cS.trans (cT.trans cU))
 exact Px.mkS (i:=0) (fun k hk=>by simp [hk]) aN Au Fe (oi hm)
 intro _ _ _ _ h;simp at h
def Dv (a:Az) (b:Az):Option Int:=
 (CS a.leaf b.leaf).bind fun A=>
 (CS a.cell b.cell).bind fun F=>
 (Ih [A,F]).bind fun G=>
 some G

theorem Ii {w:World} {O:List Nat} {a:Az} {b:Az} (hO:∀k∈O,k<w.heap.size) (Ra:Cx .i64 a.leaf) (Rb:Cx .i64 a.cell) (Rc:Cx .i64 b.leaf) (Rd:Cx .i64 b.cell) {x:Int} (N:Dv a b=some x):
 Ok Try.prog 55 [Value.agg [Iv a.leaf,Iv a.cell].toArray,Value.agg [Iv b.leaf,Iv b.cell].toArray] w O (vI .i64) x:=by
 unfold Dv at N
 refine Br (n:=17) (xs:=[.tmp 4]) Try.func55 Au Try.ntmps55 Try.results55 Au ?_
 have hs:=St.start hO
 refine Aw<|Av<|A9<|BT (cs:=[Iv a.leaf,Iv a.cell]) hs Au Au ?_
 intro b1 w2 _ p3 aA
 refine A9<|BT (cs:=[Iv b.leaf,Iv b.cell]) aA Au Au ?_
 intro b6 w7 _ p8 X
 clear aA
 refine Bn (Iv 0) Au<|Ax<|Aw<|B7 (g0:=[]) (m:=9) (fl:=[]) (CQ X) Au (.inl Au) Au (by decide+kernel) ?_  -- 1
 refine Bc (Pt b1 0) (fun _ _ _ hi G=>AQ 0 C5 Au B6 (G 2 Au) Au<|Gz hi)<|Bc (Iv a.leaf) (fun _ _ _ hi G=>AP 1 B6 (AA.nx hi).1 (G 5 Au) Au Au<|Gz hi)<|Bc (Pt b6 0) (fun _ _ _ hi G=>AQ 0 C5 Au B6 (G 3 Au) Au<|Gz hi)<|Bc (Iv b.leaf) (fun _ _ _ hi G=>AP 0 B6 (AA.nx hi).1 (G 7 Au) Au Au<|Gz hi) ?_
 obtain⟨A,aB,N⟩:=bd N
 refine Bd (VD _ _ (vI .i64) A) (VD.stab _ _) (fun aP aR g aS hi G=>?_) ?_
 refine Ay (Gi Try.call39 (Gd (O:=ks (DS g++[(some b6,Oc [Iv b.leaf,Iv b.cell] 45),(some b1,Oc [Iv a.leaf,Iv a.cell] 45)]) O) (x_:=a.leaf) (y:=b.leaf) hi.ltw Ra Rc aB) (by simp only [List.map,Array.toList,(show ev _ (.tmp 6)=_ from(G 6 Au)),(show ev _ (.tmp 8)=_ from(G 8 Au))]<;> rfl) ?_)
 rintro aT aU ⟨aC,aK⟩
 exact Bs.call hi aC aK
 refine Bc (Pt b1 1) (fun _ _ _ hi G=>AQ 1 C5 Au B6 (G 2 Au) Au<|Gz hi)<|Bc (Iv a.cell) (fun _ _ _ hi G=>AP 1 B6 (AA.nx hi).1 (G 10 Au) Au Au<|Gz hi)<|Bc (Pt b6 1) (fun _ _ _ hi G=>AQ 1 C5 Au B6 (G 3 Au) Au<|Gz hi)<|Bc (Iv b.cell) (fun _ _ _ hi G=>AP 0 B6 (AA.nx hi).1 (G 12 Au) Au Au<|Gz hi)<|BD fun aV aW aD aE=>?_
 obtain⟨-,Y,-⟩:=aD
 obtain⟨I,aL⟩:=AA.nx aE
 rintro _ rfl _ rfl _ rfl _ rfl aX Z
 replace Z:Vr.vd (vI .i64) _ _ _ _:=Z
 obtain⟨rfl,Re⟩:=Z
 rintro _ rfl _ rfl _ rfl _ rfl
 have aY:=X.to I (Y.trans aL)
 clear X
 obtain⟨F,aF,N⟩:=bd N
 refine A9<|Bi I Try.call39 (Gd (x_:=a.cell) (y:=b.cell) I.ltw Rb Rd aF) Au ?_
 rintro aZ a0 a1 U aM
 clear I
 obtain⟨rfl,Rf⟩:=aM
 refine A9<|Bm (cs:=[Iv A,Iv F]) (parts:=[(0,.tmp 9),(1,.tmp 14)]) Bl B6 U (by decide) Au ?_
 intro a2 a3 aQ a4 W
 clear U
 obtain⟨J,a5,aN⟩:=St.publish (i:=0) (o:=0) (c:=2) (xs:=[A,F]) W Au (show E0 (AL .i64) _ _ [Iv A,Iv F] [A,F] from⟨_,_,Au,AU Re,⟨_,_,Au,AU Rf,E0.nil⟩⟩) (BQ Au) (BQ Au) (BQ Au)
 clear W
 obtain⟨M,aG,N⟩:=bd N
 refine A9<|Bi J Try.call64 (NN (vals:=[A,F]) J.ltw aN aG) Au ?_
 rintro a6 a7 a8 aH aO
 clear J
 obtain⟨rfl,Rg⟩:=aO
 refine Bn (Iv M) Au<|Ax<|AV<|⟨_,DX,[Iv M],⟨Au,trivial⟩,aH.ext,?_⟩
 exact Vr.eq (a:=(vI .i64)) (x:=M) ⟨Au,Rg⟩ (oi N)

abbrev Xz:List Nat:=[2,7,27,28,29,30,31,32,33,34]

abbrev Vz:List Nat:=[5,6,12,13,14,15,16,17,18,19,20,21,22,23,24]

def EU (G:Int) (F:Int→(List (Az × Bool))→Option (List Az)) (A:List (Az × Bool)):Option (List Az):=
 F (IntKind.wrap .i64 (G+1)) A

def Gm (F:(List (Az × Bool))→Option (List Az)) (G:Az × Bool) (A:List (Az × Bool)):Option (List Az):=
 F (Dp A G.1 true)

def EV (F:List Az):Option (List Az):=
 (LY (fun G I=>Dv G I) F).bind fun A=>
 ck (F.length<4611686018427387904)<|
 some A

def EW (F:(List Az)→Option (List Az)) (A:Az × Bool) (G:List Az):Option (List Az):=
 ck ((G.length+[A.1].length)*16≤140737488355328)<|
 F (G++[A.1])

def Dj (x_:D8) (G:Int→(List (Az × Bool))→Option (List Az)) (A:Int) (F:List (Az × Bool)):Option (List Az):=
 bif (decide (A<(x_.bad.length:Int))) then
  ck ((0:Int)≤A∧A<(x_.bad.length:Int))<|
  Jp Gm (EU A G) (x_.bad.getD A.toNat default) F
 else
  Jp EW EV F ([]:List Az)

def EE (x_:D8):Option (List Az):=
 BC (Dj x_) (((x_.bad.length:Int) - 0).toNat+1) 0 ([]:List (Az × Bool))

theorem J4 {w:World} {O:List Nat} {x_:D8} {Aa:Option Addr} {Ca:Nat} {Ab:Option Addr} {Cb:Nat} (hO:∀k∈O,k<w.heap.size) (Fa:CA (AL .i64) w O Aa Ca x_.variables) (Fb:CA (Kc AY HA) w O Ab Cb x_.bad) {x:(List Az)} (F:EE x_=some x):
 Px Try.prog 44 [Value.agg [Sl Aa x_.variables Ca,Sl Ab x_.bad Cb].toArray] w O AO 45 x:=by
 unfold EE at F
 refine Br (n:=38) (xs:=[.tmp 2]) Try.func44 Au Try.ntmps44 Try.results44 Au ?_
 have hs:=St.start hO
 refine Aw<|Av<|A9<|BT (cs:=[Sl Aa x_.variables Ca,Sl Ab x_.bad Cb]) hs Au Au ?_
 intro b1 w2 _ p3 cN
 refine Bn (Value.slice none 0 0) Au<|Ax<|Aw<|Av<|A9<|Hn cN ?_
 intro b6 w7 p8 b5
 clear cN
 have dQ:Mo AY HA (Obj.map #[] 0) ([]:List (Az × Bool)):=Mo.nil_
 refine Bn (Value.map (some b6)) Au<|Ax<|Aw<|Aw<|Av<|A9<|AQ 1 KG Au MC Au Au<|A9<|AP 1 MC b5 Au Au Au<|A9<|AZ Try.underlying84 Au ?_
 have dR:=(p3.trans p8)
 replace Fb:=Fb.step dR
 have eA:=AX Fb
 refine Bb (Iv 0) Au<|Ax<|AC<|Wr [] [(2,Value.slice none 0 0),(3,Value.map (some b6)),(10,Sl Ab x_.bad Cb),(11,Iv (x_.bad.length:Int)),(12,Iv 0)] fun cO=>Bf Vz (fun m fr w'=>∃(aE:Int) (Z:List (Az × Bool)) (W:Obj) (N:Be),N=[(some b6,W),(some b1,Oc [Sl Aa x_.variables Ca,Sl Ab x_.bad Cb] 86)]∧fr [] [(12,Iv aE)]∧b5.S (ks N O) w'∧St ⟨w,[],[]⟩ O w' N∧Cx .i64 aE∧Mo AY HA W Z∧BC (Dj x_) m aE Z=some x) (((x_.bad.length:Int) - 0).toNat+1) ⟨0,([]:List (Az × Bool)),Obj.map #[] 0,_,Au,BB.of ⟨Au,trivial⟩,AA.refl _ _,b5,E1,dQ,F⟩ ?_ ?_
 rintro _ _ ⟨_,_,_,_,_,_,_,_,_,_,F⟩;exact DI F
 rintro e1 e2 cP eB e3 ⟨aE,Z,W,_,rfl,aS,aT,aO,Ra,aU,F⟩
 obtain⟨cQ,b7,F⟩:=DJ F;unfold Dj at F
 rw [aS.eq];clear aS
 have aV:=aT
 refine Aw<|Av<|A9<|By Au Au<|Ax<|Aw<|AF F Au (fun cR F=>?_) (fun cR F=>?_)
 refine AG<|Aw<|AC<|Aw<|Av ?_
 obtain⟨bO,F⟩:=AE F
 replace Fb:=Fb.step aT
 refine A9<|AB (q:=Kc AY HA) MC LB Au Au Fb Au bO.1 bO.2 ?_
 intro e4 cS
 refine A9<|AR LB Au cS Au ?_
 intro b8 cT
 have cU:=Qk cT;clear cT
 refine Bn b8 Au<|Ax<|Aw ?_
 clear cS
 refine Av<|Bb b8 Au<|A9<|KY (q:=AY) (m:=HA) Try.underlying98 aO cU Au ?_
 intro cV dS aW e5 dT bP cW cX
 clear aO
 refine Ax<|AC<|Ic Vz [] (CO ⟨cO,[]⟩ [(2,Value.slice none 0 0),(3,Value.map (some b6)),(10,Sl Ab x_.bad Cb),(11,Iv (x_.bad.length:Int)),(12,Iv 0)]) [(12,Iv aE),(17,Pt cV 0)] fun eC=>?_
 rw [← L7 cX] at F
 refine Bf [6,18,19,20,21,22,23] (fun m fr w'=>∃(X:List (Az × Bool)) (aG:Obj) (U:List (Az × Bool)) (aA:Obj) (N:Be),N=[(some cV,aG),(some b6,aA),(some b1,Oc [Sl Aa x_.variables Ca,Sl Ab x_.bad Cb] 86)]∧fr [] []∧bP.S (ks N O) w'∧St ⟨w,[],[]⟩ O w' N∧L8 AY HA w' (ks N O) b8 aG none U∧Mo AY HA aA X∧U.length<m∧Jp Gm (EU aE cQ) U X=some x) (aW.length+1) ⟨Z,dS,aW,W,_,Au,BB.of trivial,AA.refl _ _,bP,cW.any,aU,Nat.lt_succ_self _,F⟩ ?_ ?_
 rintro _ _ ⟨_,_,_,_,_,_,_,_,_,_,_,hl,_⟩;exact absurd hl (Nat.not_lt_zero _)
 rintro dU e6 cY eD e7 ⟨X,aG,U,aA,_,rfl,aX,aY,aF,aZ,a0,cZ,F⟩
 rw [aX.eq];clear aX
 have a1:=aY
 refine Aw ?_
 clear cU cW
 refine Av<|A9 (LW (q:=AY) (m:=HA) (i:=0) aF Au aZ Au ?_ ?_)
 intro a2;subst a2;replace F:=P3 F;unfold EU at F
 refine A9<|Bk (v:=Bo false) Au Au<|Ax<|Aw<|GG Au<|Bq<|Av<|A9<|Bg Au Au<|Bb (Iv (wq (aE+1))) Au<|Ax ?_
 have c0:=aF.drop 0
 have dV:=(aF.dropS 0)
 clear aF
 have dW:=(dT.trans (aY.trans dV))
 replace aV:=aV.trans dW
 exact cP _ _ ⟨(wq (aE+1)),X,aA,_,Au,BB.of ⟨Au,trivial⟩,aV,c0,(AT .i64 _),a0,GV b7 F⟩
 intro aP c1 c2 dX e8 a2 dY a3 bL c3 eE;subst a2
 have c4:(c1++c2).length<dU:=by have:=cZ;simp only [List.length_append,List.length_cons] at this ⊢;omega
 obtain⟨eF,b9,F⟩:=P4 F;unfold Gm at F
 clear aF
 obtain⟨c5,c6⟩:=c3
 refine A9<|Bk (v:=Bo true) Au Au<|Ax<|Aw<|Hu Au<|AG<|AC<|Aw ?_
 clear aZ
 refine Av<|A9<|KZ (q:=AY) (m:=HA) (i:=0) a3 Au bL Au<|A9<|Bk (v:=Value.agg [Iv aP.1.leaf,Iv aP.1.cell].toArray) Au Au<|A9<|Bv C5 a3 ?_
 intro e9 fA _ c7 bQ
 clear a3
 refine Bh<|C6 .z C5 bQ Au Au Au Au Au ?_
 intro fB c8 a4
 clear bQ
 refine Ax<|Av<|Bb (Value.map (some b6)) Au<|A9<|B1 0 C5 a4 Au Au Au<|Bh<|GP (q:=AY) (m:=HA) (n:=aP.1) (v:=true) (i:=2) Try.underlying98 Iy a4 Au a0 Au Au Au Au (And.intro c5 c6) trivial ?_
 intro dZ fC c9 a5 d0
 clear a4
 refine Ax ?_
 have dA:=a5.drop 0
 have dB:=(a5.dropS 0)
 clear a5
 replace a1:=a1.trans (dY.trans (c7.trans (c8.trans (c9.trans dB))))
 replace bL:=bL.step (c7.trans (c8.trans (c9.trans dB)))
 exact cY _ _ ⟨Dp X aP.1 true,dX,c1++c2,dZ,_,Au,BB.of trivial,a1,dA,bL.any,d0,c4,Dc b9 F⟩
 refine Bq<|Aw<|Aw ?_
 obtain⟨bR,fD⟩:=aO.sub (bs':=[(some b6,W)]) (.cons_cons _ (.cons _ List.Sublist.slnil))
 clear Fa Fb
 clear aO
 refine Av<|Bb (Value.map (some b6)) Au ?_
 obtain⟨bS,fE,dC⟩:=St.publishM (i:=0) bR Au aU
 clear bR
 refine A9<|KY (q:=AY) (m:=HA) Try.underlying98 bS dC Au ?_
 intro dD d1 a6 fF fG dE bT cA
 clear bS
 refine Ax<|AC<|Wr [] [(2,Value.slice none 0 0),(26,Pt dD 0)] fun d2=>?_
 have a7:=dE.ghost (Obj.cells #[] 45)
 rw [← L7 cA] at F
 refine Bf Xz (fun m fr w'=>∃(Y:List Az) (Ac:Option Addr) (Cc:Nat) (G:Option Nat) (I:Obj) (aB:Obj) (J:List (Az × Bool)) (N:Be),N=[(G,I),(some dD,aB)]∧fr [] [(2,Sl Ac Y Cc)]∧a7.S (ks N O) w'∧St ⟨w,[],[]⟩ O w' N∧Gs AO 45 w' (ks N O) Ac Cc Y G I∧L8 AY HA w' (ks N O) (Value.map (some b6)) aB none J∧J.length<m∧Jp EW EV J Y=some x) (a6.length+1) ⟨([]:List Az),none,0,none,Obj.cells #[] 45,d1,a6,_,Au,BB.of ⟨Au,trivial⟩,AA.refl _ _,a7,Gs.nil_,bT.any,Nat.lt_succ_self _,F⟩ ?_ ?_
 rintro _ _ ⟨_,_,_,_,_,_,_,_,_,_,_,_,_,_,hl,_⟩;exact absurd hl (Nat.not_lt_zero _)
 rintro dF eG cB d3 bU ⟨Y,Ac,Cc,G,I,aB,J,_,rfl,aQ,bM,aC,Fc,aD,cC,F⟩
 rw [aQ.eq];clear aQ
 have aH:=bM
 refine Aw ?_
 clear dC bT
 refine Av<|A9 (LW (q:=AY) (m:=HA) (i:=1) aC Au aD Au ?_ ?_)
 intro aI;subst aI;replace F:=P3 F;unfold EV at F
 refine A9<|Bk (v:=Bo false) Au Au<|Ax<|Aw<|GG Au<|Bq<|Aw ?_
 obtain⟨a8,dG⟩:=aC.sub (bs':=[(G,I)]) (.cons_cons _ (.cons _ List.Sublist.slnil))
 clear aD
 clear aC
 refine Av<|Bb (Sl Ac Y Cc) Au ?_
 have F135:EC Try.prog bU (ks [(G,I)] O) (Value.func (.func 55) #[] #[]) (vA AO) (vA AO) (vI .i64) (fun a9 bA=>Dv a9 bA):=by
  intro eH O137 d4 cD eI eJ a9 bA eK dH dI cE
  obtain⟨_,rfl,⟨_,_,rfl,⟨rfl,Rb⟩,⟨rfl,Rc⟩⟩⟩:=dH
  obtain⟨_,rfl,⟨_,_,rfl,⟨rfl,Rd⟩,⟨rfl,Re⟩⟩⟩:=dI
  exact⟨55,#[],#[],Au,Try.call55,Ii (a:=a9) (b:=bA) cD Rb Rc Rd Re cE⟩
 obtain⟨M,bB,F⟩:=bd F
 obtain⟨cF,F⟩:=AE F
 have F157:EC Try.prog bU (ks [(G,I)] O) (Value.func (.func 55) #[] #[]) (vA AO) (vA AO) (vI .i64) (fun bC bD=>Dv bC bD):=by
  intro eL O159 d5 cG eM eN bC bD eO dJ dK cH
  obtain⟨_,rfl,⟨_,_,rfl,⟨rfl,Rf⟩,⟨rfl,Rg⟩⟩⟩:=dJ
  obtain⟨_,rfl,⟨_,_,rfl,⟨rfl,Rh⟩,⟨rfl,Ri⟩⟩⟩:=dK
  exact⟨55,#[],#[],Au,Try.call55,Ii (a:=bC) (b:=bD) cG Rf Rg Rh Ri cH⟩
 replace Fc:=Fc.step dG
 refine A9<|SU (q:=AO) (i:=0) (caps:=#[]) UP Au Try.call68 Au Try.isAgg45 Try.sizeOf45 Try.call55 a8 Au Fc F135 bB cF Au ?_
 intro eP eQ bE eR dL
 clear a8
 refine Ax<|Aw ?_
 clear F135 F157
 refine Av<|A9<|AD (v:=Sl Ac M Cc) (Ib Au (show Y.length=M.length from by rw [ST bB]))<|Bn (Sl Ac M Cc) Au<|Ax<|AV<|⟨_,DX,[Sl Ac M Cc],⟨Au,trivial⟩,bE.ext,?_⟩
 exact Px.mk (i:=0) bE Au dL (oi F)
 intro A bV bW dM eS aI dN aJ aR cI d6;subst aI
 have cJ:(bV++bW).length<dF:=by have:=cC;simp only [List.length_append,List.length_cons] at this ⊢;omega
 obtain⟨d7,bN,F⟩:=P4 F;unfold EW at F
 clear aC
 obtain⟨cK,cL⟩:=cI
 refine A9<|Bk (v:=Bo true) Au Au<|Ax<|Aw<|Hu Au<|AG<|AC<|Aw ?_
 clear aD
 refine Av<|A9<|KZ (q:=AY) (m:=HA) (i:=1) aJ Au aR Au<|A9<|Bk (v:=Value.agg [Iv A.1.leaf,Iv A.1.cell].toArray) Au Au<|A9<|Bv C5 aJ ?_
 intro eT eU _ bX bF
 clear aJ
 refine Bh<|C6 .z C5 bF Au Au Au Au Au ?_
 intro eV bY aK
 clear bF
 refine Ax<|Av<|Bb (Sl Ac Y Cc) Au<|A9<|B1 0 C5 aK Au Au Au<|A9<|Bm (cs:=[Iv A.1.leaf,Iv A.1.cell]) (parts:=[(0,.tmp 32)]) Eo C5 aK (by decide) Au ?_
 intro eW eX d8 bZ aL
 clear aK
 obtain⟨bG,F⟩:=AE F
 have b0:=(dN.trans (bX.trans (bY.trans bZ)))
 replace Fc:=Fc.step b0
 refine A9 (FF (q:=AO) (i:=2) (xs:=Y) (ys:=[A.1]) (news:=[Iv A.1.leaf,Iv A.1.cell]) Eo C5 Au (by decide) aL Au Au Fc Au (Oj.owned' (len:=2) (aL.get (i:=0) Au) Au) (show E0 AO _ _ [Iv A.1.leaf,Iv A.1.cell] [A.1] from⟨_,_,Au,C2 (AW (AU cK) (AU cL)),E0.nil⟩) bG (by have:=bG;simp only [maxLen];omega) ?_)
 intro b2 b3 dO dP eY b4 aM bH
 clear aL
 have aN:=aM.drop 0
 have bI:=(aM.dropS 0)
 clear aM
 refine Bn (Sl b2 (Y++[A.1]) b3) Au<|Ax ?_
 have cM:=aN.drop 0
 have bJ:=(aN.dropS 0)
 clear aN
 replace aH:=aH.trans (b0.trans (b4.trans (bI.trans bJ)))
 replace aR:=aR.step (bX.trans (bY.trans (bZ.trans (b4.trans (bI.trans bJ)))))
 replace bH:=bH.step (bI.trans bJ)
 exact cB _ _ ⟨Y++[A.1],b2,b3,dO,dP,dM,bV++bW,_,Au,BB.of ⟨Au,trivial⟩,aH,cM,bH,aR.any,cJ,Dc bN F⟩
abbrev X0:List Nat:=[4,5,8,9,10,11,12,13,14,15,16,17,18]

def F3 (s:List Az) (f:Az→Option Bool) (F:Int→Option Int) (A:Int):Option Int:=
 bif (decide (A<(s.length:Int))) then
  ck ((0:Int)≤A∧A<(s.length:Int))<|
  (f (s.getD A.toNat default)).bind fun G=>
  bif G then
   some A
  else
   F (IntKind.wrap .i64 (A+1))
 else
  some (-1)

def HR (s:List Az) (f:Az→Option Bool):Option Int:=
 B0 (F3 s f) (((s.length:Int) - 0).toNat+1) 0

theorem NO {w:World} {O:List Nat} {s:List Az} {f:Az→Option Bool} {Aa:Option Addr} {Ca:Nat} {v_f:Value} (hO:∀k∈O,k<w.heap.size) (Fa:CA AO w O Aa Ca s) (F_f:G6 Try.prog w O v_f (vA AO) vB f) {x:Int} (F:HR s f=some x):
 Ok Try.prog 77 [Sl Aa s Ca,v_f] w O (vI .i64) x:=by
 unfold HR at F
 refine Br (n:=19) (xs:=[.tmp 4]) Try.func77 Au Try.ntmps77 Try.results77 Au ?_
 have hs:=St.start hO
 refine Aw<|Av<|Bn (Iv 0) Au<|Ax<|Aw<|Aw<|Av<|Bb (Sl Aa s Ca) Au<|A9<|AZ Try.underlying32 Au ?_
 have aJ:=AX Fa
 refine Bb (Iv 0) Au<|Ax<|AC<|Wr [] [(0,Sl Aa s Ca),(1,v_f),(7,Iv (s.length:Int)),(8,Iv 0)] fun aK=>Bf X0 (fun m fr w'=>∃(A:Int) (X:Be),X=[]∧fr [] [(8,Iv A)]∧hs.S (ks X O) w'∧St ⟨w,[],[]⟩ O w' X∧Cx .i64 A∧B0 (F3 s f) m A=some x) (((s.length:Int) - 0).toNat+1) ⟨0,_,Au,BB.of ⟨Au,trivial⟩,AA.refl _ _,hs,E1,F⟩ ?_ ?_
 rintro _ _ ⟨_,_,_,_,_,_,_,F⟩;exact CF F
 rintro m7 K6 aD aH w8 ⟨A,_,rfl,I,G,J,Ra,F⟩
 obtain⟨aL,Z,F⟩:=CG F;unfold F3 at F
 rw [I.eq];clear I
 have M:=G
 refine Aw<|Av<|A9<|By Au Au<|Ax<|Aw<|AF F Au (fun aA F=>?_) (fun aA F=>?_)
 refine AG<|Aw<|AC<|Aw<|Av<|Bb (Iv A) Au<|Bn (Iv A) Au<|Ax<|Aw<|Av<|Bb v_f Au<|Bb (Sl Aa s Ca) Au<|Bb (Iv A) Au ?_
 obtain⟨U,F⟩:=AE F
 replace Fa:=Fa.step G
 refine A9<|AB (q:=AO) Eo C5 Au Au Fa Au U.1 U.2 ?_
 intro aM Y
 refine A9<|BE C5 Au Y Au ?_
 intro aI aE
 obtain⟨_,_,rfl,⟨rfl,Rb⟩,⟨rfl,Rc⟩⟩:=aE
 obtain⟨aN,aB,F⟩:=bd F
 replace F_f:=F_f.step G
 refine A9<|It Au (F_f.call J.ltw (JX (C2 (AW (AU Rb) (AU Rc)))) aB) Au ?_
 rintro aO aP ⟨N,aF⟩
 have W:=J.call N
 have aG:=J.stepE N
 clear N
 clear J
 obtain rfl:=aF
 refine Ax<|AF F Au (fun aC F=>?_) (fun aC F=>?_)
 refine Aw ?_
 clear Fa F_f Y
 refine Av<|Bb (Iv A) Au<|Bn (Iv A) Au<|Ax<|AV<|⟨_,DX,[Iv A],⟨Au,trivial⟩,W.ext,?_⟩
 exact Vr.eq (a:=(vI .i64)) (x:=A) ⟨Au,Ra⟩ (oi F)
 refine AG ?_
 clear Y
 refine Av<|A9<|Bg Au Au<|Bb (Iv (wq (A+1))) Au<|Ax ?_
 replace M:=M.trans aG
 exact aD _ _ ⟨(wq (A+1)),_,Au,BB.of ⟨Au,trivial⟩,M,W,(AT .i64 _),Dc Z F⟩
 refine Bq<|Aw ?_
 clear Fa F_f
 refine Av<|Bn (Iv (-1)) Au<|Ax<|AV<|⟨_,DX,[Iv (-1)],⟨Au,trivial⟩,J.ext,?_⟩
 exact Vr.eq (a:=(vI .i64)) (x:=(-1)) ⟨Au,(show Cx .i64 (-1) from by decide)⟩ (oi F)

def GL (s:List Az) (f:Az→Option Bool):Option Bool:=
 (HR s f).bind fun A=>
 some (decide (0≤A))

theorem KI {w:World} {O:List Nat} {s:List Az} {f:Az→Option Bool} {Aa:Option Addr} {Ca:Nat} {v_f:Value} (hO:∀k∈O,k<w.heap.size) (Fa:CA AO w O Aa Ca s) (F_f:G6 Try.prog w O v_f (vA AO) vB f) {x:Bool} (F:GL s f=some x):
 Ok Try.prog 51 [Sl Aa s Ca,v_f] w O vB x:=by
 unfold GL at F
 refine Br (n:=9) (xs:=[.tmp 4]) Try.func51 Au Try.ntmps51 Try.results51 Au ?_
 have hs:=St.start hO
 refine Aw<|Av<|Bn (Bo false) Au<|Ax<|Aw<|Av<|Bb (Sl Aa s Ca) Au<|Bb v_f Au ?_
 obtain⟨A,G,F⟩:=bd F
 refine A9<|Bi hs Try.call77 (NO (s:=s) (f:=f) hs.ltw Fa F_f G) Au ?_
 rintro M N U I J
 obtain⟨rfl,Ra⟩:=J
 refine A9<|HH Au Au<|Bn (Bo (decide (0≤A))) Au<|Ax<|AV<|⟨_,DX,[Bo (decide (0≤A))],⟨Au,trivial⟩,I.ext,?_⟩
 exact Vr.eq (a:=vB) (x:=decide (0≤A)) Au (oi F)

def DU (y:Az) (A:List (Az × Bool)):Option Bool:=
 some ((Bu A y).getD false)

theorem J5 {w:World} {O:List Nat} {y:Az} {A:List (Az × Bool)} {F:Addr} (hO:∀k∈O,k<w.heap.size) (Ra:Cx .i64 y.leaf) (Rb:Cx .i64 y.cell) (Fa:Ia (Kc AY HA) w O F A) {x:Bool} (I:DU y A=some x):
 Ok Try.prog 72 [Value.agg [Iv y.leaf,Iv y.cell].toArray,Value.pointer (some F)] w O vB x:=by
 unfold DU at I
 refine Br (n:=7) (xs:=[.tmp 3]) Try.func72 Au Try.ntmps72 Try.results72 Au ?_
 have hs:=St.start hO
 refine Aw<|Av<|A9<|BT (cs:=[Iv y.leaf,Iv y.cell]) hs Au Au ?_
 intro U W _ M G
 refine Bn (Bo false) Au<|Ax<|Aw<|Av ?_
 replace Fa:=Fa.step M
 refine A9<|AR LB Au Fa Au ?_
 intro X J
 have N:=Qk J;clear J
 refine A9<|B1 0 C5 G Au Au Au<|A9<|NE (q:=AY) (m:=HA) (n:=y) (z:=false) Try.underlying98 Iy Try.zeroValue4 N (And.intro Ra Rb) Au Au<|Bn (Bo ((Bu A y).getD false)) Au<|Ax<|AV<|⟨_,DX,[Bo ((Bu A y).getD false)],⟨Au,trivial⟩,G.ext,?_⟩
 exact Vr.eq (a:=vB) (x:=(Bu A y).getD false) Au (oi I)

abbrev X1:List Nat:=[4,6,10,11,12,13,14,15,16,17,18]

def DF (x_:D8) (places:List Az) (G:Int→Option Bool) (A:Int):Option Bool:=
 bif (decide (A<(x_.bad.length:Int))) then
  ck ((0:Int)≤A∧A<(x_.bad.length:Int))<|
  (GL places (fun I=>DU I (x_.bad.getD A.toNat default))).bind fun F=>
  bif (!F) then
   some false
  else
   G (IntKind.wrap .i64 (A+1))
 else
  some true

def F4 (x_:D8) (places:List Az):Option Bool:=
 B0 (DF x_ places) (((x_.bad.length:Int) - 0).toNat+1) 0

theorem Ki {w:World} {O:List Nat} {x_:D8} {places:List Az} {Aa:Option Addr} {Ca:Nat} {Ab:Option Addr} {Cb:Nat} {Ac:Option Addr} {Cc:Nat} (hO:∀k∈O,k<w.heap.size) (Fa:CA (AL .i64) w O Aa Ca x_.variables) (Fb:CA (Kc AY HA) w O Ab Cb x_.bad) (Fc:CA AO w O Ac Cc places) {x:Bool} (A:F4 x_ places=some x):
 Ok Try.prog 46 [Value.agg [Sl Aa x_.variables Ca,Sl Ab x_.bad Cb].toArray,Sl Ac places Cc] w O vB x:=by
 unfold F4 at A
 refine Br (n:=19) (xs:=[.tmp 4]) Try.func46 Au Try.ntmps46 Try.results46 Au ?_
 have hs:=St.start hO
 refine Aw<|Av<|A9<|BT (cs:=[Sl Aa x_.variables Ca,Sl Ab x_.bad Cb]) hs Au Au ?_
 intro b1 w2 _ p3 aC
 refine Bn (Bo false) Au<|Ax<|Aw<|Aw<|Av<|A9<|AQ 1 KG Au MC Au Au<|A9<|AP 0 MC aC Au Au Au<|A9<|AZ Try.underlying84 Au ?_
 replace Fb:=Fb.step p3
 have a4:=AX Fb
 refine Bb (Iv 0) Au<|Ax<|AC<|Wr [] [(1,Sl Ac places Cc),(8,Sl Ab x_.bad Cb),(9,Iv (x_.bad.length:Int)),(10,Iv 0)] fun a5=>Bf X1 (fun m fr w'=>∃(F:Int) (aD:Be),aD=[(some b1,Oc [Sl Aa x_.variables Ca,Sl Ab x_.bad Cb] 86)]∧fr [] [(10,Iv F)]∧aC.S (ks aD O) w'∧St ⟨w,[],[]⟩ O w' aD∧Cx .i64 F∧B0 (DF x_ places) m F=some x) (((x_.bad.length:Int) - 0).toNat+1) ⟨0,_,Au,BB.of ⟨Au,trivial⟩,AA.refl _ _,aC,E1,A⟩ ?_ ?_
 rintro _ _ ⟨_,_,_,_,_,_,_,A⟩;exact CF A
 rintro a6 a7 aJ a3 a8 ⟨F,_,rfl,M,I,J,Ra,A⟩
 obtain⟨a9,aE,A⟩:=CG A;unfold DF at A
 rw [M.eq];clear M
 have N:=I
 refine Aw<|Av<|A9<|By Au Au<|Ax<|Aw<|AF A Au (fun aK A=>?_) (fun aK A=>?_)
 refine AG<|Aw<|AC<|Aw<|Av ?_
 obtain⟨Y,A⟩:=AE A
 replace Fb:=Fb.step I
 refine A9<|AB (q:=Kc AY HA) MC LB Au Au Fb Au Y.1 Y.2 ?_
 intro bA aL
 refine A9<|AR LB Au aL Au ?_
 intro aF aM
 have G:=Qk aM;clear aM
 refine A9<|Bv LB J ?_
 intro X bB _ aG Z
 clear J
 replace G:=G.step aG
 refine Bh (HJ (cs:=[Value.map none]) (vs:=[aF]) (cs':=[aF]) (bs':=[(some X,Oc [aF] 98),(some b1,Oc [Sl Aa x_.variables Ca,Sl Ab x_.bad Cb] 86)]) (i:=0) LB Z Au Au Au (Ov.cells1 G) Au (BQ Au) (by simp only [List.all_cons,Ov.one1 G]<;> rfl) Au Au ?_)
 intro aW aH aA
 clear Z
 refine Ax<|Aw ?_
 clear aL
 refine Av<|Bb (Sl Ac places Cc) Au ?_
 replace G:=G.step aH
 obtain⟨U,aN,aI⟩:=St.publishP (p:=Kc AY HA) (i:=0) (x:=gt x_.bad F) aA Au (Sf G)
 clear aA
 refine A9<|Gl (a':=[]) (c':=[Value.pointer (some (⟨X,0,none⟩:Addr))]) Au Au ?_
 have F38:G6 Try.prog aW (ks [(some b1,Oc [Sl Aa x_.variables Ca,Sl Ab x_.bad Cb] 86)] O) (Value.func (.func 72) #[] #[Value.pointer (some (⟨X,0,none⟩:Addr))]) (vA AO) vB (fun W=>DU W (gt x_.bad F)):=by
  intro bC O40 aO aP bD W bE aX aQ
  obtain⟨_,rfl,⟨_,_,rfl,⟨rfl,Rb⟩,⟨rfl,Rc⟩⟩⟩:=aX
  exact⟨72,#[],#[Value.pointer (some (⟨X,0,none⟩:Addr))],Au,Try.call72,J5 (y:=W) aP Rb Rc (aI.step aO) aQ⟩
 obtain⟨aR,aS,A⟩:=bd A
 have aY:=(p3.trans (I.trans (aG.trans (aH.trans aN))))
 replace Fc:=Fc.step aY
 refine A9<|Bi U Try.call51 (KI (s:=places) (f:=(fun W=>DU W (gt x_.bad F))) U.ltw Fc F38 aS) Au ?_
 rintro bF bG aZ aB a0
 clear U
 obtain rfl:=a0
 refine A9<|Do Au<|Ax<|AF A Au (fun aT A=>?_) (fun aT A=>?_)
 refine Aw ?_
 clear Fc G aI F38
 refine Av<|Bn (Bo false) Au<|Ax<|AV<|⟨_,DX,[Bo false],⟨Au,trivial⟩,aB.ext,?_⟩
 exact Vr.eq (a:=vB) (x:=false) Au (oi A)
 refine AG ?_
 clear G aI F38
 refine Av<|A9<|Bg Au Au<|Bb (Iv (wq (F+1))) Au<|Ax ?_
 have a1:=(aG.trans (aH.trans (aN.trans aZ)))
 replace N:=N.trans a1
 exact aJ _ _ ⟨(wq (F+1)),_,Au,BB.of ⟨Au,trivial⟩,N,aB,(AT .i64 _),Dc aE A⟩
 refine Bq<|Aw ?_
 obtain⟨aU,bH⟩:=J.sub (bs':=[]) (.cons _ List.Sublist.slnil)
 clear Fa Fb Fc
 clear J
 refine Av<|Bn (Bo true) Au<|Ax<|AV<|⟨_,DX,[Bo true],⟨Au,trivial⟩,aU.ext,?_⟩
 exact Vr.eq (a:=vB) (x:=true) Au (oi A)

abbrev X2:List Nat:=[10,11,46,47,48,49,50,51,52,53,54,55,78]

abbrev X3:List Nat:=[13,15,59,60,61,62,63,64,65,66,67,68,69,70]

abbrev V0:List Nat:=[8,10,11,42,43,44,45,46,47,48,49,50,51,52,53,54,55,78]

abbrev TL:List Nat:=[6,7,8,10,11,29,30,31,32,33,34,35,36,37,38,39,40,41,42,43,44,45,46,47,48,49,50,51,52,53,54,55,78]

def DK (I:(List D8)) (W:Int) (X:(List Az)→Int→Bool→(List Int)→(List Az)→Option (Ba × Bool × Int)) (Y:Int) (Z:Bool) (aA:List Int) (aB:List Az) (N:(List Az)→Int→Bool→(List Int)→(List Az)→Option (Ba × Bool × Int)) (F:(List Int)) (U:(List Az)→Int→(List Az)→Option (Ba × Bool × Int)) (A:List Az) (G:Int) (J:List Az):Option (Ba × Bool × Int):=
 bif (decide (G<(F.length:Int))) then
  ck ((0:Int)≤G∧G<(F.length:Int))<|
  ck ((0:Int)≤(F.getD G.toNat default)∧(F.getD G.toNat default)<(J.length:Int))<|
  ck ((A.length+[J.getD (F.getD G.toNat default).toNat default].length)*16≤140737488355328)<|
  U (A++[J.getD (F.getD G.toNat default).toNat default]) (IntKind.wrap .i64 (G+1)) J
 else
  (F4 (I.getD W.toNat default) A).bind fun M=>
  bif M then
   X J 0 true ((I.getD W.toNat default).variables) A
  else
   N J Y Z aA aB

def F6 (A:(List D8)) (X:Int) (I:(List Az)→Int→Bool→(List Int)→(List Az)→Option (Ba × Bool × Int)) (G:(List Az)→Int→Bool→(List Int)→(List Az)→Option (Ba × Bool × Int)) (F:(List Int)) (J:List Az) (M:Int) (N:Bool) (U:List Int) (W:List Az):Option (Ba × Bool × Int):=
 Is (DK A X I M N U W G F) (((F.length:Int) - 0).toNat+1) ([]:List Az) 0 J

def Ep (A:(List D8)) (Y:Int) (W:Int→Int→Bool→(List Int)→(List Az)→Option (Ba × Bool × Int)) (X:Int→Int→Bool→(List Int)→(List Az)→Option (Ba × Bool × Int)) (G:Int) (Z:Int) (aA:Bool) (aB:List Int) (aC:List Az):Option (Ba × Bool × Int):=
 bif (decide (G<(A.length:Int))) then
  ck ((0:Int)≤G∧G<(A.length:Int))<|
  (EE (A.getD G.toNat default)).bind fun F=>
  (Gv (F.length:Int) Y).bind fun I=>
  jn (fun(aD:List Az) (J:Int) (M:Bool) (N:List Int) (U:List Az)=>
   X (IntKind.wrap .i64 (G+1)) J M N U)
  (fun aE=>
   jn (fun(aD:List Az) (J:Int) (M:Bool) (N:List Int) (U:List Az)=>
    some ((⟨N,U⟩:Ba),M,J))
   (fun aF=>
    M5 (F6 A G aF) aE I F Z aA aB aC))
 else
  W (IntKind.wrap .i64 (Y+1)) Z aA aB aC

def Er (A:(List D8)) (F:Int→Int→Bool→(List Int)→(List Az)→Option (Ba × Bool × Int)) (G:Int) (I:Int) (J:Bool) (M:List Int) (N:List Az):Option (Ba × Bool × Int):=
 IG (Ep A G F) (((A.length:Int) - 0).toNat+1) 0 I J M N

def F7 (p:A8) (G:Int) (F:D7) (I:Int→Option (Ba × Bool × Int)) (J:Int):Option (Ba × Bool × Int):=
 bif (decide (J≤(p.variables.length:Int))) then
  (ED F J).bind fun A=>
  bif (decide ((A.length:Int)=0)) then
   I (IntKind.wrap .i64 (J+1))
  else
   IG (Er A) 1000000 1 G false ([]:List Int) ([]:List Az)
 else
  some ((⟨([]:List Int),([]:List Az)⟩:Ba),false,0)

def DY (p:A8):Option (Ba × Bool × Int):=
 (E4 p).bind fun A=>
 bif (decide (A≠0)) then
  jn (some ((⟨([]:List Int),([]:List Az)⟩:Ba),false,A))
  (fun G=>
   G)
 else
  bif (decide (16<(p.variables.length:Int))) then
   some ((⟨([]:List Int),([]:List Az)⟩:Ba),false,2)
  else
   (FZ p).bind fun F=>
   B0 (F7 p A F) 1000000 1

theorem GF {w:World} {O:List Nat} {p:A8} {Aa:Option Addr} {Ca:Nat} {Ab:Option Addr} {Cb:Nat} {Ac:Option Addr} {Cc:Nat} (hO:∀k∈O,k<w.heap.size) (Fa:CA Bx w O Aa Ca p.cells) (Fb:CA (BG (AL .i64)) w O Ab Cb p.capacity) (Fc:CA AS w O Ac Cc p.variables) {x:Ba × Bool × Int} (hm:DY p=some x):
 Ok Try.prog 13 [Value.agg (BS p Aa Ca Ab Cb Ac Cc).toArray] w O (WM (vA G8) vB (vI .i64)) x:=by
 unfold DY at hm
 refine Br (n:=80) (xs:=[.cell 2 34,.cell 3 4,.cell 4 29]) Try.func13 Au Try.ntmps13 Try.results13 Au ?_
 have hs:=St.start hO
 refine Aw<|Av<|A9<|BT (cs:=(BS p Aa Ca Ab Cb Ac Cc)) hs Au Au ?_
 intro b1 w2 _ p3 gZ
 refine A9<|Bv DT gZ ?_
 intro b6 w7 _ p8 g1
 clear gZ
 refine A9<|Bv Jt g1 ?_
 intro aJ kW _ h1 eV
 clear g1
 refine A9<|Bv Ku eV ?_
 intro aK kX _ h2 cI
 clear eV
 refine Ax<|Aw<|Aw<|Av<|A9<|B1 3 B4 cI Au Au Au ?_
 obtain⟨aC,g2,hm⟩:=bd hm
 have fQ:=(p3.trans (p8.trans (h1.trans h2)))
 replace Fb:=Fb.step fQ;replace Fa:=Fa.step fQ;replace Fc:=Fc.step fQ
 refine A9<|Bi cI Try.call12 (Hi (p:=p) cI.ltw Fa Fb Fc g2) Au ?_
 rintro kY kZ h3 eW h4
 clear cI
 obtain⟨rfl,Ra⟩:=h4
 refine Bh<|F1 (Iv aC) .z Ku eW Au Au Au Au ?_
 intro k0 h5 aS
 clear eW
 refine Ax<|Aw<|Av<|A9<|AP 0 Ku aS Au Au Au<|A9<|Eh Au Au<|Ax<|AF hm Au (fun g3 hm=>?_) (fun g3 hm=>?_)
 refine Wr [] [(2,Pt b6 0),(3,Pt aJ 0),(4,Pt aK 0)] fun i9=>?_
 obtain⟨h6,g4,hm⟩:=Cy hm
 refine CE [20,21] (fun fr w'=>∃(aN:Be),aN=[(some aK,Oc [Iv aC] 29),(some aJ,Oc [Bo false] 4),(some b6,Oc [Value.slice none 0 0,Value.slice none 0 0] 34),(some b1,Oc (BS p Aa Ca Ab Cb Ac Cc) 26)]∧fr [] []∧aS.S (ks aN O) w'∧St ⟨w,[],[]⟩ O w' aN∧h6=some x) ?_ ?_
 rintro jA k1 ⟨_,rfl,c6,h7,cJ,hm⟩
 replace hm:=jnE0 g4 hm
 rw [c6.eq];clear c6
 refine AV<|⟨_,DX,[Value.agg [Value.slice none 0 0,Value.slice none 0 0].toArray,Bo false,Iv aC],⟨Qc (cs:=[Value.slice none 0 0,Value.slice none 0 0]) (vs:=[Value.slice none 0 0,Value.slice none 0 0]) DT (i:=2) cJ Au Au Au Au,N8 (cs:=[Bo false]) Jt (i:=1) cJ Au Au Au,N8 (cs:=[Iv aC]) Ku (i:=0) cJ Au Au Au,trivial⟩,cJ.ext,?_⟩
 exact Vr.eq (a:=WM (vA G8) vB (vI .i64)) (x:=((⟨([]:List Int),([]:List Az)⟩:Ba),false,aC)) (UA (JX (C2 (AW (B8 CA.nil_) (B8 CA.nil_)))) Au ⟨Au,Ra⟩) (oi hm)
 intro k2 cK
 have aR:=aS.stepR
 refine SF (g0:=[]) (m:=2) (fl:=[]) (f:=1) (CQ aS) Au (.inl Au) Au (by decide+kernel) Au ?_  -- 3
 refine Bc (Value.agg [Value.slice none 0 0,Value.slice none 0 0].toArray) (fun _ _ _ hi ht=>B1 2 DT (AA.nx hi).1 (ht 2 Au) Au Au<|Gz hi)<|Bc (Iv aC) (fun _ _ _ hi ht=>AP 0 Ku (AA.nx hi).1 (ht 4 Au) Au Au<|Gz hi)<|U9 (fun h9 iA c7 c8=>?_) (fun h9 iA c7 c8=>?_)
 obtain⟨-,fR,-⟩:=c7
 obtain⟨c9,iB⟩:=AA.nx c8
 rintro _ rfl _ rfl
 have iC:=aS.to c9 (fR.trans iB)
 refine Bh<|C6 Ip.p2 DT c9 Au Au Au Au Au ?_
 intro k3 iD eX
 clear c9
 refine Bh<|F1 (Bo false) Ip.p1 Jt eX Au Au Au Au ?_
 intro k4 iE eY
 clear eX
 refine Bh<|F1 (Iv aC) .z Ku eY Au Au Au Au ?_
 intro k5 iF g5
 clear eY
 refine Ax ?_
 replace aR:=aR.trans (iC.trans (iD.trans (iE.trans iF)))
 exact cK _ _ ⟨_,Au,BB.of trivial,aR,g5,hm⟩
 obtain⟨-,fS,-⟩:=c7
 obtain⟨bE,iG⟩:=AA.nx c8
 rintro _ rfl
 have fT:=aS.to bE (fS.trans iG)
 refine Qb Au Au (by decide) Au (by decide) ?_ ?_
 refine Lj<|C6 Ip.p2 DT bE Au Au Au Au Au ?_
 intro k6 g6 bV
 clear bE
 refine Qb Au Au (by decide) Au (by decide) ?_ ?_
 refine Lj<|F1 (Bo false) Ip.p1 Jt bV Au Au Au Au ?_
 intro k7 iH dA
 clear bV
 refine SG Au (by decide) (.inr (by decide+kernel))<|Ay<|AP 0 Ku dA Au Au Au<|Bh<|F1 (Iv aC) .z Ku dA Au Au Au Au ?_
 intro k8 iI g7
 clear dA
 refine Ax ?_
 replace aR:=aR.trans (fT.trans (g6.trans (iH.trans iI)))
 exact cK _ _ ⟨_,Au,BB.of trivial,aR,g7,hm⟩
 refine Ay<|AP 0 Ku bV Au Au Au<|Bh<|F1 (Bo false) Ip.p1 Jt bV Au Au Au Au ?_
 intro k9 iJ eZ
 clear bV
 refine Bh<|F1 (Iv aC) .z Ku eZ Au Au Au Au ?_
 intro lA iK g8
 clear eZ
 refine Ax ?_
 replace aR:=aR.trans (fT.trans (g6.trans (iJ.trans iK)))
 exact cK _ _ ⟨_,Au,BB.of trivial,aR,g8,hm⟩
 refine Ay<|AP 0 Ku bE Au Au Au<|Bh<|C6 Ip.p2 DT bE Au Au Au Au Au ?_
 intro lB iL e0
 clear bE
 refine Bh<|F1 (Bo false) Ip.p1 Jt e0 Au Au Au Au ?_
 intro lC iM e1
 clear e0
 refine Bh<|F1 (Iv aC) .z Ku e1 Au Au Au Au ?_
 intro jB g9 fU
 clear e1
 refine Ax ?_
 replace aR:=aR.trans (fT.trans (iL.trans (iM.trans g9)))
 exact cK _ _ ⟨_,Au,BB.of trivial,aR,fU,hm⟩
 refine AG<|Aw<|Aw<|Av<|A9<|AQ 2 B4 Au Cz Au Au<|A9<|AP 3 Cz aS Au Au Au<|A9<|AZ Try.underlying24 Au ?_
 have dB:=(h3.trans h5)
 replace Fc:=Fc.step dB
 have iN:=AX Fc
 refine A9<|EB Au Au<|Ax<|AF hm Au (fun fV hm=>?_) (fun fV hm=>?_)
 refine Aw ?_
 obtain⟨b3,jC⟩:=aS.sub (bs':=[(some aK,Oc [Iv aC] 29),(some aJ,Oc [Bo false] 4),(some b6,Oc [Value.slice none 0 0,Value.slice none 0 0] 34)]) (.cons_cons _ (.cons_cons _ (.cons_cons _ (.cons _ List.Sublist.slnil))))
 clear Fa Fb Fc
 refine Av<|A9<|B1 2 DT b3 Au Au Au<|Bh<|C6 Ip.p2 DT b3 Au Au Au Au Au ?_
 intro jD jE dC
 clear b3
 refine Bh<|F1 (Bo false) Ip.p1 Jt dC Au Au Au Au ?_
 intro jF jG dD
 clear dC
 refine Bh<|F1 (Iv 2) .z Ku dD Au Au Au Au ?_
 intro jH jI bI
 clear dD
 refine Ax<|AV<|⟨_,DX,[Value.agg [Value.slice none 0 0,Value.slice none 0 0].toArray,Bo false,Iv 2],⟨Qc (cs:=[Value.slice none 0 0,Value.slice none 0 0]) (vs:=[Value.slice none 0 0,Value.slice none 0 0]) DT (i:=2) bI Au Au Au Au,N8 (cs:=[Bo false]) Jt (i:=1) bI Au Au Au,N8 (cs:=[Iv 2]) Ku (i:=0) bI Au Au Au,trivial⟩,bI.ext,?_⟩
 exact Vr.eq (a:=WM (vA G8) vB (vI .i64)) (x:=((⟨([]:List Int),([]:List Az)⟩:Ba),false,2)) (UA (JX (C2 (AW (B8 CA.nil_) (B8 CA.nil_)))) Au ⟨Au,(show Cx .i64 2 from by decide)⟩) (oi hm)
 refine AG<|Aw<|Av<|A9<|B1 3 B4 aS Au Au Au ?_
 obtain⟨A,fW,hm⟩:=bd hm
 replace Fb:=Fb.step dB;replace Fa:=Fa.step dB
 refine A9<|Bi aS Try.call42 (Ju (p:=p) aS.ltw Fa Fb Fc fW) Au ?_
 rintro jJ jK hA dE hB
 obtain⟨_,rfl,⟨_,_,rfl,⟨_,_,rfl,⟨Ad,Cd,rfl,Fd⟩,⟨_,_,rfl,⟨Ae,Ce,rfl,Fe⟩,⟨Af,Cf,rfl,Ff⟩⟩⟩,⟨Ag,Cg,rfl,Fg⟩⟩⟩:=hB
 refine A9<|Bv LA dE ?_
 intro aD jL _ e2 dF
 clear dE
 refine Bh<|C6 .z LA dF Au Au Au Au Au ?_
 intro jM e3 dG
 clear dF
 refine Ax<|Aw<|Aw<|Av<|Bn (Iv 1) Au<|Ax<|AC<|Wr [] [(1,Pt b1 0),(2,Pt b6 0),(3,Pt aJ 0),(4,Pt aK 0),(5,Pt aD 0),(6,Iv 1)] fun dH=>Bf TL (fun m fr w'=>∃(a1:Int) (Ds134:List Nat) (aN:Be),aN=[(some aD,Oc [Sl Ad A.p.cells Cd,Sl Ae A.p.capacity Ce,Sl Af A.p.variables Cf,Sl Ag A.uses Cg] 80),(some aK,Oc [Iv aC] 29),(some aJ,Oc [Bo false] 4),(some b6,Oc [Value.slice none 0 0,Value.slice none 0 0] 34),(some b1,Oc (BS p Aa Ca Ab Cb Ac Cc) 26)]∧fr (Ds134++[]) [(6,Iv a1)]∧dG.S (ks aN (Ds134++O)) w'∧St ⟨w,[],Ds134++[]⟩ (Ds134++O) w' aN∧Cx .i64 a1∧B0 (F7 p aC A) m a1=some x) 1000000 ⟨1,[],_,Au,BB.of ⟨Au,trivial⟩,AA.refl _ _,dG,Ol,hm⟩ ?_ ?_
 rintro _ _ ⟨_,_,_,_,_,_,_,_,hm⟩;exact CF hm
 rintro jN jO fX iO jP ⟨a1,Ds134,_,rfl,cL,bJ,aY,Rb,hm⟩
 obtain⟨iP,eL,hm⟩:=CG hm;unfold F7 at hm
 rw [cL.eq];clear cL
 have b4:=bJ
 refine Aw<|Aw<|Av<|Bb (Iv a1) Au<|A9<|AQ 2 B4 Au Cz Au Au<|A9<|AP 4 Cz aY Au Au Au<|A9<|AZ Try.underlying24 Au ?_
 have hC:=(hA.trans (e2.trans (e3.trans bJ)))
 replace Fc:=Fc.step hC
 have iQ:=AX Fc
 refine A9<|JS Au Au<|Ax<|AF hm Au (fun fY hm=>?_) (fun fY hm=>?_)
 refine AG<|Aw<|AC<|Aw<|Av<|A9<|B1 0 LA aY Au Au Au<|Bb (Iv a1) Au ?_
 obtain⟨F,fZ,hm⟩:=bd hm
 have cM:=(e2.trans (e3.trans bJ))
 replace Fe:=Fe.step cM;replace Fd:=Fd.step cM;replace Ff:=Ff.step cM;replace Fg:=Fg.step cM
 refine A9<|Gi Try.call43 (J3 (t:=A) (k:=a1) aY.ltw Fd Fe Ff Fg Rb fZ) Au ?_
 rintro _ jQ ⟨f0,bF,aX,e4,aF,rfl,f1,aT⟩
 obtain⟨bK,hD⟩:=aY.callG (o:=aF) f0 f1
 rw [← JZ (o:=aF)] at aT
 clear aY
 refine Bn (Sl bF F aX) Au<|Ax<|Aw<|Aw<|Av<|Bb (Sl bF F aX) Au<|A9<|AZ Try.underlying82 Au ?_
 have iR:=HK aT
 refine A9<|HI Au Au<|Ax<|AF hm Au (fun f2 hm=>?_) (fun f2 hm=>?_)
 refine Bq ?_
 clear aT
 refine Av<|Bb (Iv a1) Au<|A9<|Bg Au Au<|Bn (Iv (wq (a1+1))) Au<|Ax ?_
 have f3:=bK.drop 0
 have hE:=(bK.dropS 0)
 clear bK
 have hF:=(hD.trans hE)
 replace b4:=b4.trans hF
 exact fX _ _ ⟨(wq (a1+1)),Ds134,_,Au,BB.of ⟨Au,trivial⟩,b4,f3,(AT .i64 _),Dc eL hm⟩
 refine AG<|Aw<|Av<|Bn (Iv 1) Au<|Ax<|AC<|Ic TL (Ds134++[]) (CO ⟨dH,[]⟩ [(1,Pt b1 0),(2,Pt b6 0),(3,Pt aJ 0),(4,Pt aK 0),(5,Pt aD 0),(6,Iv 1)]) [(6,Iv a1),(7,Sl bF F aX),(8,Iv 1)] fun f4=>?_
 have dI:=bK.ghost (Obj.cells #[] 45)
 refine Bf V0 (fun m fr w'=>∃(a5:Int) (dJ:Int) (eM:Bool) (dK:List Int) (dL:List Az) (Ah:Option Addr) (Ch:Nat) (Ai:Option Addr) (Ci:Nat) (a7:Option Nat) (a8:Obj) (Ds175:List Nat) (aN:Be),aN=[(a7,a8),(e4,aF),(some aD,Oc [Sl Ad A.p.cells Cd,Sl Ae A.p.capacity Ce,Sl Af A.p.variables Cf,Sl Ag A.uses Cg] 80),(some aK,Oc [Iv dJ] 29),(some aJ,Oc [Bo eM] 4),(some b6,Oc [Sl Ah dK Ch,Sl Ai dL Ci] 34),(some b1,Oc (BS p Aa Ca Ab Cb Ac Cc) 26)]∧fr (Ds175++[]) [(8,Iv a5)]∧dI.S (ks aN (Ds175++O)) w'∧St ⟨w,[],Ds175++[]⟩ (Ds175++O) w' aN∧Cx .i64 a5∧Cx .i64 dJ∧CA (AL .i64) w' (ks aN (Ds175++O)) Ah Ch dK∧Gs AO 45 w' (ks aN (Ds175++O)) Ai Ci dL a7 a8∧IG (Er F) m a5 dJ eM dK dL=some x) 1000000 ⟨1,aC,false,([]:List Int),([]:List Az),none,0,none,0,none,Obj.cells #[] 45,Ds134,_,Au,BB.of ⟨Au,trivial⟩,AA.refl _ _,dI,Ol,Ra,CA.nil_,Gs.nil_,hm⟩ ?_ ?_
 rintro _ _ ⟨_,_,_,_,_,_,_,_,_,_,_,_,_,_,_,_,_,_,_,_,_,hm⟩;exact Sb hm
 rintro jR jS f5 iS jT ⟨a5,dJ,eM,dK,dL,Ah,Ch,Ai,Ci,a7,a8,Ds175,_,rfl,cN,cO,dM,Rc,Rd,Fh,Fi,hm⟩
 obtain⟨f6,eN,hm⟩:=Sc hm;unfold Er at hm
 rw [cN.eq];clear cN
 have b5:=cO
 refine Aw<|AC<|Aw<|Av<|Bb (Sl bF F aX) Au<|A9<|AZ Try.underlying82 Au ?_
 replace aT:=aT.step cO
 have iT:=HK aT
 refine Bb (Iv 0) Au<|Ax<|AC<|Ic V0 (Ds175++[]) (CO (JE TL (Ds134++[]) f4 (CO ⟨dH,[]⟩ [(1,Pt b1 0),(2,Pt b6 0),(3,Pt aJ 0),(4,Pt aK 0),(5,Pt aD 0),(6,Iv 1)])) [(6,Iv a1),(7,Sl bF F aX),(8,Iv 1)]) [(8,Iv a5),(44,Sl bF F aX),(45,Iv (F.length:Int)),(46,Iv 0)] fun iU=>Bf X2 (fun m fr w'=>∃(X:Int) (bL:Int) (bW:Bool) (bM:List Int) (bN:List Az) (Aj:Option Addr) (Cj:Nat) (Ak:Option Addr) (Ck:Nat) (aP:Option Nat) (aQ:Obj) (Ds196:List Nat) (aN:Be),aN=[(aP,aQ),(e4,aF),(some aD,Oc [Sl Ad A.p.cells Cd,Sl Ae A.p.capacity Ce,Sl Af A.p.variables Cf,Sl Ag A.uses Cg] 80),(some aK,Oc [Iv bL] 29),(some aJ,Oc [Bo bW] 4),(some b6,Oc [Sl Aj bM Cj,Sl Ak bN Ck] 34),(some b1,Oc (BS p Aa Ca Ab Cb Ac Cc) 26)]∧fr (Ds196++[]) [(46,Iv X)]∧dM.S (ks aN (Ds196++O)) w'∧St ⟨w,[],Ds196++[]⟩ (Ds196++O) w' aN∧Cx .i64 X∧Cx .i64 bL∧CA (AL .i64) w' (ks aN (Ds196++O)) Aj Cj bM∧Gs AO 45 w' (ks aN (Ds196++O)) Ak Ck bN aP aQ∧IG (Ep F a5 f6) m X bL bW bM bN=some x) (((F.length:Int) - 0).toNat+1) ⟨0,dJ,eM,dK,dL,Ah,Ch,Ai,Ci,a7,a8,Ds175,_,Au,BB.of ⟨Au,trivial⟩,AA.refl _ _,dM,E1,Rd,Fh,Fi,hm⟩ ?_ ?_
 rintro _ _ ⟨_,_,_,_,_,_,_,_,_,_,_,_,_,_,_,_,_,_,_,_,_,hm⟩;exact Sb hm
 rintro jU jV f7 iV jW ⟨X,bL,bW,bM,bN,Aj,Cj,Ak,Ck,aP,aQ,Ds196,_,rfl,cP,bO,bP,Re,Rf,Fj,Fk,hm⟩
 obtain⟨iW,eO,hm⟩:=Sc hm;unfold Ep at hm
 rw [cP.eq];clear cP
 have b7:=bO
 refine Aw ?_
 clear Fh Fi
 refine Av<|A9<|By Au Au<|Ax<|Aw<|AF hm Au (fun f8 hm=>?_) (fun f8 hm=>?_)
 refine AG<|Aw<|AC<|Aw<|Av ?_
 obtain⟨dN,hm⟩:=AE hm
 replace aT:=aT.step bO
 refine A9<|BA PD KG Au Au aT dN ?_
 rintro aG rfl rfl
 refine A9<|KS (i:=1) KG Au bP Au Au aT dN ?_
 intro iX hG
 obtain⟨_,_,rfl,⟨Al,Cl,rfl,Fl⟩,⟨Am,Cm,rfl,Fm⟩⟩:=hG
 refine A9<|Bv KG bP ?_
 intro aH jX _ hH dO
 clear bP
 refine Bh<|C6 .z KG dO Au Au Au Au Au ?_
 intro jY hI bQ
 clear dO
 refine Ax<|Aw<|Av<|A9<|B1 0 KG bQ Au Au Au ?_
 obtain⟨aO,f9,hm⟩:=bd hm
 have dP:=(hH.trans hI)
 replace Fm:=Fm.step dP;replace Fl:=Fl.step dP
 refine A9<|Gi Try.call44 (J4 (x_:=gt F X) bQ.ltw Fl Fm f9) Au ?_
 rintro _ jZ ⟨gA,bX,bY,cQ,bG,rfl,gB,a2⟩
 obtain⟨dQ,e5⟩:=bQ.callG (o:=bG) gA gB
 rw [← JZ (o:=bG)] at a2
 clear bQ
 refine A9<|Bv Eo dQ ?_
 intro aI j0 _ dR dS
 clear dQ
 refine Bh<|F1 (Sl bX aO bY) .z Eo dS Au Au Au Au ?_
 intro j1 dT b8
 clear dS
 refine Ax<|Aw<|Av<|A9<|AP 0 Eo b8 Au Au Au<|A9<|AZ Try.underlying32 Au ?_
 replace a2:=a2.step (dR.trans dT)
 have gC:=HK a2
 refine Bb (Iv a5) Au ?_
 obtain⟨dU,gD,hm⟩:=bd hm
 refine A9<|Bi b8 Try.call45 (JK (n:=(aO.length:Int)) (k:=a5) b8.ltw gC Rc gD) Au ?_
 rintro dV dW dX dY hJ
 have F_y253:U0 Try.prog (JF (vC (BG (AL .i64)))) _ _ dV dU:=hJ
 refine Ax<|AC ?_
 obtain⟨e6,gE,hm⟩:=Cy hm
 obtain⟨cR,gF,hm⟩:=Cy hm
 obtain⟨gG,cS⟩:=dY.front (i:=9) Au
 clear dY
 obtain⟨dZ,cT⟩:=gG.front (i:=9) Au
 obtain⟨gH,cU⟩:=dZ.front (i:=9) Au
 clear dZ
 obtain⟨gI,cV⟩:=gH.front (i:=9) Au
 obtain⟨d0,cW⟩:=gI.front (i:=9) Au
 obtain⟨gJ,cX⟩:=d0.front (i:=9) Au
 clear d0
 obtain⟨d1,cY⟩:=gJ.front (i:=8) Au
 obtain⟨d2,cZ⟩:=d1.front (i:=8) Au
 clear d1
 obtain⟨d3,c0⟩:=d2.front (i:=8) Au
 clear d2
 obtain⟨b9,c1⟩:=d3.front (i:=9) Au
 clear d3
 replace F_y253:=F_y253.step (cS.trans (cT.trans (cU.trans (cV.trans (cW.trans (cX.trans (cY.trans (cZ.trans (c0.trans c1)))))))))
 have bR:=F_y253;obtain⟨iY,iZ,eP,eQ,bR⟩:=bR
 replace a2:=a2.step (dX.trans (cS.trans (cT.trans (cU.trans (cV.trans (cW.trans (cX.trans (cY.trans (cZ.trans (c0.trans c1))))))))))
 have d4:=(dP.trans (e5.trans (dR.trans (dT.trans (dX.trans (cS.trans (cT.trans (cU.trans (cV.trans (cW.trans (cX.trans (cY.trans (cZ.trans (c0.trans c1))))))))))))))
 replace Fk:=Fk.step d4;replace Fj:=Fj.step d4
 refine IK (σ:=(List Az) × Int × Bool × (List Int) × (List Az) × (Option Addr) × Nat × (Option Nat) × Obj × (Option Addr) × Nat × (Option Addr) × Nat × (Option Nat) × Obj) (ps:=[56]) b9 (rfl.trans eP) eQ bR Au Qf OF (fun s=>match s with |(Z,W,Y,N,U,An,Cn,J,M,Ao,Co,Ap,Cp,G,I)=>[(G,I),(some aI,Oc [Sl An Z Cn] 32),(J,M),(some aH,Oc [Sl Al ((gt F X).variables) Cl,Sl Am ((gt F X).bad) Cm] 86),(some aG,aF),(some aD,Oc [Sl Ad A.p.cells Cd,Sl Ae A.p.capacity Ce,Sl Af A.p.variables Cf,Sl Ag A.uses Cg] 80),(some aK,Oc [Iv W] 29),(some aJ,Oc [Bo Y] 4),(some b6,Oc [Sl Ao N Co,Sl Ap U Cp] 34),(some b1,Oc (BS p Aa Ca Ab Cb Ac Cc) 26)]) (fun s w O=>match s with |(Z,W,Y,N,U,An,Cn,J,M,Ao,Co,Ap,Cp,G,I)=>Gs AO 45 w O An Cn Z J M∧Cx .i64 W∧CA (AL .i64) w O Ao Co N∧Gs AO 45 w O Ap Cp U G I) (fun s w O w' O' p h=>by obtain⟨Z,W,Y,N,U,An,Cn,J,M,Ao,Co,Ap,Cp,G,I⟩:=s;have h:Gs AO 45 w O An Cn Z J M∧Cx .i64 W∧CA (AL .i64) w O Ao Co N∧Gs AO 45 w O Ap Cp U G I:=h;obtain⟨Fn,Rg,Fo,Fp⟩:=h;exact⟨Fn.step p,Rg,Fo.step p,Fp.step p⟩) (fun s l=>match s with |(Z,W,Y,N,U,An,Cn,J,M,Ao,Co,Ap,Cp,G,I)=>M5 (F6 F X cR) e6 l Z W Y N U=some x) [none] (fun e s=>match e,s with |none,(Z,W,Y,N,U,An,Cn,J,M,Ao,Co,Ap,Cp,G,I)=>cR Z W Y N U=some x |_,_=>False) (aO,bL,bW,bM,bN,bX,bY,cQ,bG,Aj,Cj,Ak,Ck,aP,aQ) Au ⟨a2,Rf,Fj,Fk⟩ hm ?_ ?_ ?_
 rintro j2 E291 ⟨Z,W,Y,N,U,An,Cn,J,M,Ao,Co,Ap,Cp,G,I⟩ aE d5 bH gK hK i0 bS c2 ⟨Fn,Rg,Fo,Fp⟩ hm cA
 replace bS:St hK (E291++(Ds196++O)) bH [(G,I),(some aI,Oc [Sl An Z Cn] 32),(J,M),(some aH,Oc [Sl Al ((gt F X).variables) Cl,Sl Am ((gt F X).bad) Cm] 86),(some aG,aF),(some aD,Oc [Sl Ad A.p.cells Cd,Sl Ae A.p.capacity Ce,Sl Af A.p.variables Cf,Sl Ag A.uses Cg] 80),(some aK,Oc [Iv W] 29),(some aJ,Oc [Bo Y] 4),(some b6,Oc [Sl Ao N Co,Sl Ap U Cp] 34),(some b1,Oc (BS p Aa Ca Ab Cb Ac Cc) 26)]:=bS
 have aZ:AA (ks [(aP,aQ),(some aI,Oc [Sl bX aO bY] 32),(cQ,bG),(some aH,Oc [Sl Al ((gt F X).variables) Cl,Sl Am ((gt F X).bad) Cm] 86),(some aG,aF),(some aD,Oc [Sl Ad A.p.cells Cd,Sl Ae A.p.capacity Ce,Sl Af A.p.variables Cf,Sl Ag A.uses Cg] 80),(some aK,Oc [Iv bL] 29),(some aJ,Oc [Bo bW] 4),(some b6,Oc [Sl Aj bM Cj,Sl Ak bN Ck] 34),(some b1,Oc (BS p Aa Ca Ab Cb Ac Cc) 26)] (Ds196++O)) dW (ks [(G,I),(some aI,Oc [Sl An Z Cn] 32),(J,M),(some aH,Oc [Sl Al ((gt F X).variables) Cl,Sl Am ((gt F X).bad) Cm] 86),(some aG,aF),(some aD,Oc [Sl Ad A.p.cells Cd,Sl Ae A.p.capacity Ce,Sl Af A.p.variables Cf,Sl Ag A.uses Cg] 80),(some aK,Oc [Iv W] 29),(some aJ,Oc [Bo Y] 4),(some b6,Oc [Sl Ao N Co,Sl Ap U Cp] 34),(some b1,Oc (BS p Aa Ca Ab Cb Ac Cc) 26)] (E291++(Ds196++O))) bH:=c2;clear c2
 replace Fn:Gs AO 45 bH (ks [(G,I),(some aI,Oc [Sl An Z Cn] 32),(J,M),(some aH,Oc [Sl Al ((gt F X).variables) Cl,Sl Am ((gt F X).bad) Cm] 86),(some aG,aF),(some aD,Oc [Sl Ad A.p.cells Cd,Sl Ae A.p.capacity Ce,Sl Af A.p.variables Cf,Sl Ag A.uses Cg] 80),(some aK,Oc [Iv W] 29),(some aJ,Oc [Bo Y] 4),(some b6,Oc [Sl Ao N Co,Sl Ap U Cp] 34),(some b1,Oc (BS p Aa Ca Ab Cb Ac Cc) 26)] (E291++(Ds196++O))) An Cn Z J M:=Fn
 replace Rg:Cx .i64 W:=Rg
 replace Fo:CA (AL .i64) bH (ks [(G,I),(some aI,Oc [Sl An Z Cn] 32),(J,M),(some aH,Oc [Sl Al ((gt F X).variables) Cl,Sl Am ((gt F X).bad) Cm] 86),(some aG,aF),(some aD,Oc [Sl Ad A.p.cells Cd,Sl Ae A.p.capacity Ce,Sl Af A.p.variables Cf,Sl Ag A.uses Cg] 80),(some aK,Oc [Iv W] 29),(some aJ,Oc [Bo Y] 4),(some b6,Oc [Sl Ao N Co,Sl Ap U Cp] 34),(some b1,Oc (BS p Aa Ca Ab Cb Ac Cc) 26)] (E291++(Ds196++O))) Ao Co N:=Fo
 replace Fp:Gs AO 45 bH (ks [(G,I),(some aI,Oc [Sl An Z Cn] 32),(J,M),(some aH,Oc [Sl Al ((gt F X).variables) Cl,Sl Am ((gt F X).bad) Cm] 86),(some aG,aF),(some aD,Oc [Sl Ad A.p.cells Cd,Sl Ae A.p.capacity Ce,Sl Af A.p.variables Cf,Sl Ag A.uses Cg] 80),(some aK,Oc [Iv W] 29),(some aJ,Oc [Bo Y] 4),(some b6,Oc [Sl Ao N Co,Sl Ap U Cp] 34),(some b1,Oc (BS p Aa Ca Ab Cb Ac Cc) 26)] (E291++(Ds196++O))) Ap Cp U G I:=Fp
 have gL:=VX (show M5 _ _ (aE::d5) Z W Y N U=some _ from hm);clear hm;obtain⟨gM,eR,hm⟩:=gL
 unfold F6 at hm
 replace cA:(JF (vC (BG (AL .i64)))) aE bH (ks [(G,I),(some aI,Oc [Sl An Z Cn] 32),(J,M),(some aH,Oc [Sl Al ((gt F X).variables) Cl,Sl Am ((gt F X).bad) Cm] 86),(some aG,aF),(some aD,Oc [Sl Ad A.p.cells Cd,Sl Ae A.p.capacity Ce,Sl Af A.p.variables Cf,Sl Ag A.uses Cg] 80),(some aK,Oc [Iv W] 29),(some aJ,Oc [Bo Y] 4),(some b6,Oc [Sl Ao N Co,Sl Ap U Cp] 34),(some b1,Oc (BS p Aa Ca Ab Cb Ac Cc) 26)] (E291++(Ds196++O))) gK:=cA
 obtain⟨j3,rfl,hL⟩:=cA
 obtain⟨Aq,Cq,rfl,Fq⟩:=B9 hL
 refine Av<|Bn (Sl Aq aE Cq) Au<|Ax<|Exists.intro _<|And.intro bS ?_
 intro j4 hM RQ310 i1 gN bZ gO gP
 clear bS
 refine AC<|Aw ?_
 clear Fj Fk a2
 refine Wr [] [(1,Pt b1 0),(2,Pt b6 0),(3,Pt aJ 0),(4,Pt aK 0),(5,Pt aD 0),(6,Iv a1),(7,Sl (some ⟨aG,0,none⟩) F aX),(8,Iv a5),(10,Pt aH 0),(11,Pt aI 0),(12,Sl Aq aE Cq),(44,Sl (some ⟨aG,0,none⟩) F aX),(45,Iv (F.length:Int)),(46,Iv X),(55,dV)] fun i2=>Av<|Bn (Value.slice none 0 0) Au<|Ax<|Aw<|Aw<|Av<|Bb (Sl Aq aE Cq) Au<|A9<|AZ Try.underlying31 Au ?_
 replace Fq:=Fq.step bZ
 have i3:=AX Fq
 refine Bb (Iv 0) Au<|Ax<|AC<|Wr [] [(1,Pt b1 0),(2,Pt b6 0),(3,Pt aJ 0),(4,Pt aK 0),(5,Pt aD 0),(6,Iv a1),(7,Sl (some ⟨aG,0,none⟩) F aX),(8,Iv a5),(10,Pt aH 0),(11,Pt aI 0),(13,Value.slice none 0 0),(44,Sl (some ⟨aG,0,none⟩) F aX),(45,Iv (F.length:Int)),(46,Iv X),(55,dV),(57,Sl Aq aE Cq),(58,Iv (aE.length:Int)),(59,Iv 0)] fun i4=>?_
 have d6:=gN.ghost (Obj.cells #[] 45)
 replace Fn:=Fn.step bZ
 refine Bf X3 (fun m fr w'=>∃(aB:List Az) (aL:Int) (aM:List Az) (Ar:Option Addr) (Cr:Nat) (a9:Option Nat) (bA:Obj) (As:Option Addr) (Cs:Nat) (a3:Option Nat) (aV:Obj) (aN:Be),aN=[(a9,bA),(G,I),(some aI,Oc [Sl As aM Cs] 32),(a3,aV),(some aH,Oc [Sl Al ((gt F X).variables) Cl,Sl Am ((gt F X).bad) Cm] 86),(some aG,aF),(some aD,Oc [Sl Ad A.p.cells Cd,Sl Ae A.p.capacity Ce,Sl Af A.p.variables Cf,Sl Ag A.uses Cg] 80),(some aK,Oc [Iv W] 29),(some aJ,Oc [Bo Y] 4),(some b6,Oc [Sl Ao N Co,Sl Ap U Cp] 34),(some b1,Oc (BS p Aa Ca Ab Cb Ac Cc) 26)]∧fr [] [(13,Sl Ar aB Cr),(59,Iv aL)]∧d6.S (ks aN (E291++(Ds196++O))) w'∧St hM (E291++(Ds196++O)) w' aN∧Gs AO 45 w' (ks aN (E291++(Ds196++O))) Ar Cr aB a9 bA∧Cx .i64 aL∧Gs AO 45 w' (ks aN (E291++(Ds196++O))) As Cs aM a3 aV∧Is (DK F X cR W Y N U gM aE) m aB aL aM=some x) (((aE.length:Int) - 0).toNat+1) ⟨([]:List Az),0,Z,none,0,none,Obj.cells #[] 45,An,Cn,J,M,_,Au,BB.of ⟨Au,Au,trivial⟩,AA.refl _ _,d6,Gs.nil_,E1,Fn,hm⟩ ?_ ?_
 rintro _ _ ⟨_,_,_,_,_,_,_,_,_,_,_,_,_,_,_,_,_,_,_,hm⟩;exact RZ hm
 rintro j5 j6 gQ i5 j7 ⟨aB,aL,aM,Ar,Cr,a9,bA,As,Cs,a3,aV,_,rfl,c3,a4,aU,Fr,Rh,Fs,hm⟩
 obtain⟨i6,eS,hm⟩:=Sa hm;unfold DK at hm
 rw [c3.eq];clear c3
 have cB:=a4
 refine Aw ?_
 clear Fn
 refine Av<|A9<|By Au Au<|Ax<|Aw<|AF hm Au (fun gR hm=>?_) (fun gR hm=>?_)
 refine AG<|Aw<|AC<|Aw<|Av ?_
 obtain⟨d7,hm⟩:=AE hm
 replace Fq:=Fq.step a4
 refine A9<|AB (q:=(AL .i64)) Bl B6 Au Au Fq Au d7.1 d7.2 ?_
 intro j8 e7
 refine A9<|AR B6 Au e7 Au ?_
 intro j9 hN
 obtain⟨rfl,Ri⟩:=BK hN
 refine Bn (Iv (gt aE aL)) Au<|Ax ?_
 clear e7
 refine Av<|Bb (Sl Ar aB Cr) Au<|A9<|AP 2 Eo aU Au Au Au<|Bb (Iv (gt aE aL)) Au ?_
 obtain⟨d8,hm⟩:=AE hm
 refine A9<|BA Eo C5 Au Au Fs d8 ?_
 rintro e8 rfl rfl
 refine A9<|KS (i:=3) C5 Au aU Au Au Fs d8 ?_
 intro i7 hP
 obtain⟨_,_,rfl,⟨rfl,Rj⟩,⟨rfl,Rk⟩⟩:=hP
 refine A9<|Bm (cs:=[Iv ((gt aM (gt aE aL)).leaf),Iv ((gt aM (gt aE aL)).cell)]) (parts:=[(0,.tmp 67)]) Eo C5 aU (by decide) Au ?_
 intro kA kB i8 e9 cC
 clear aU
 obtain⟨d9,hm⟩:=AE hm
 replace Fr:=Fr.step e9
 refine A9 (FF (q:=AO) (i:=1) (xs:=aB) (ys:=[gt aM (gt aE aL)]) (news:=[Iv ((gt aM (gt aE aL)).leaf),Iv ((gt aM (gt aE aL)).cell)]) Eo C5 Au (by decide) cC Au Au Fr Au (Oj.owned' (len:=2) (cC.get (i:=0) Au) Au) (show E0 AO _ _ [Iv ((gt aM (gt aE aL)).leaf),Iv ((gt aM (gt aE aL)).cell)] [gt aM (gt aE aL)] from⟨_,_,Au,C2 (AW (AU Rj) (AU Rk)),E0.nil⟩) d9 (by have:=d9;simp only [maxLen,gt];omega) ?_)
 intro fA fB hQ hR kC hS cD eA
 clear cC
 have gS:=cD.drop 0
 have fC:=(cD.dropS 0)
 clear cD
 refine Bn (Sl fA (aB++[gt aM (gt aE aL)]) fB) Au<|Ax<|Av<|A9<|Bg Au Au<|Bb (Iv (wq (aL+1))) Au<|Ax ?_
 have fD:=(e9.trans (hS.trans fC))
 replace cB:=cB.trans fD;replace eA:=eA.step fC;replace Fs:=Fs.step fD
 exact gQ _ _ ⟨aB++[gt aM (gt aE aL)],(wq (aL+1)),aM,fA,fB,hQ,hR,some ⟨e8,0,none⟩,Cs,some e8,aV,_,Au,BB.of ⟨Au,Au,trivial⟩,cB,gS,eA,(AT .i64 _),Fs,WQ eS hm⟩
 refine Bq<|Aw ?_
 clear Fq
 refine Av<|A9<|B1 4 KG aU Au Au Au<|Bb (Sl Ar aB Cr) Au ?_
 obtain⟨gT,fE,hT⟩:=Gs.publish (i:=0) aU Au Fr
 obtain⟨h0,gU,hm⟩:=bd hm
 have fF:=(e5.trans (dR.trans (dT.trans (dX.trans (cS.trans (cT.trans (cU.trans (cV.trans (cW.trans (cX.trans (cY.trans (cZ.trans (c0.trans (c1.trans (aZ.trans (bZ.trans a4))))))))))))))))
 replace Fm:=Fm.step fF;replace Fl:=Fl.step fF
 refine A9<|Bi aU Try.call46 (Ki (x_:=gt F X) (places:=aB) gT.ltw (Fl.step fE) (Fm.step fE) hT gU) Au ?_
 rintro kD kE c4 a6 hU
 clear aU
 obtain rfl:=hU
 refine Ax<|AF hm Au (fun gV hm=>?_) (fun gV hm=>?_)
 refine Aw ?_
 clear aT F_y253
 refine Av<|A9<|AQ 0 KG Au Bl Au Au<|A9<|AP 4 Bl a6 Au Au Au<|Bb (Sl Ar aB Cr) Au<|A9<|DM (vs:=[Sl Al ((gt F X).variables) Cl,Sl Ar aB Cr]) (parts:=[(0,.tmp 75),(1,.tmp 76)]) DT RC Au<|Bh<|C6 Ip.p9 DT a6 Au Au Au Au Au ?_
 intro kF fG eB
 clear a6
 refine Bh<|F1 (Bo true) Ip.p8 Jt eB Au Au Au Au ?_
 intro kG fH eC
 clear eB
 refine Bh<|F1 (Iv 0) Ip.p7 Ku eC Au Au Au Au ?_
 intro kH fI cE
 clear eC
 refine Ax<|AV ?_
 have gW:=cE.drop 1
 have fJ:=(cE.dropS 1)
 clear cE
 have hV:=(bZ.trans (a4.trans (c4.trans (fG.trans (fH.trans (fI.trans fJ))))))
 replace aZ:=aZ.trans hV
 have eD:=(c4.trans (fG.trans (fH.trans (fI.trans fJ))))
 replace Fr:=Fr.step eD;replace Fs:=Fs.step eD;replace Fl:=Fl.step eD
 exact gP none (aM,0,true,(gt F X).variables,aB,As,Cs,a3,aV,Al,Cl,Ar,Cr,a9,bA) _ _ (by simp) gW aZ ⟨Fs,E1,Fl,Fr⟩ hm
 refine AG ?_
 have gX:=a6.drop 0
 have fK:=(a6.dropS 0)
 clear a6
 have eE:=(bZ.trans (a4.trans (c4.trans fK)))
 replace aZ:=aZ.trans eE;replace Fp:=Fp.step eE
 have hW:=(c4.trans fK)
 replace Fs:=Fs.step hW;replace Fo:=Fo.step eE
 exact gO (aM,W,Y,N,U,As,Cs,a3,aV,Ao,Co,Ap,Cp,G,I) _ _ gX aZ ⟨Fs,Rg,Fo,Fp⟩ (Ts eR hm)
 rintro D395 ⟨Z,W,Y,N,U,An,Cn,J,M,Ao,Co,Ap,Cp,G,I⟩ b0 bB bT ⟨Fn,Rg,Fo,Fp⟩ hm
 replace bB:St ⟨w,[],D395::(Ds196++[])⟩ (D395::(Ds196++O)) b0 [(G,I),(some aI,Oc [Sl An Z Cn] 32),(J,M),(some aH,Oc [Sl Al ((gt F X).variables) Cl,Sl Am ((gt F X).bad) Cm] 86),(some aG,aF),(some aD,Oc [Sl Ad A.p.cells Cd,Sl Ae A.p.capacity Ce,Sl Af A.p.variables Cf,Sl Ag A.uses Cg] 80),(some aK,Oc [Iv W] 29),(some aJ,Oc [Bo Y] 4),(some b6,Oc [Sl Ao N Co,Sl Ap U Cp] 34),(some b1,Oc (BS p Aa Ca Ab Cb Ac Cc) 26)]:=bB
 replace bT:AA (ks [(aP,aQ),(some aI,Oc [Sl bX aO bY] 32),(cQ,bG),(some aH,Oc [Sl Al ((gt F X).variables) Cl,Sl Am ((gt F X).bad) Cm] 86),(some aG,aF),(some aD,Oc [Sl Ad A.p.cells Cd,Sl Ae A.p.capacity Ce,Sl Af A.p.variables Cf,Sl Ag A.uses Cg] 80),(some aK,Oc [Iv bL] 29),(some aJ,Oc [Bo bW] 4),(some b6,Oc [Sl Aj bM Cj,Sl Ak bN Ck] 34),(some b1,Oc (BS p Aa Ca Ab Cb Ac Cc) 26)] (Ds196++O)) dW (ks [(G,I),(some aI,Oc [Sl An Z Cn] 32),(J,M),(some aH,Oc [Sl Al ((gt F X).variables) Cl,Sl Am ((gt F X).bad) Cm] 86),(some aG,aF),(some aD,Oc [Sl Ad A.p.cells Cd,Sl Ae A.p.capacity Ce,Sl Af A.p.variables Cf,Sl Ag A.uses Cg] 80),(some aK,Oc [Iv W] 29),(some aJ,Oc [Bo Y] 4),(some b6,Oc [Sl Ao N Co,Sl Ap U Cp] 34),(some b1,Oc (BS p Aa Ca Ab Cb Ac Cc) 26)] (D395::(Ds196++O))) b0:=bT
 replace Fn:Gs AO 45 b0 (ks [(G,I),(some aI,Oc [Sl An Z Cn] 32),(J,M),(some aH,Oc [Sl Al ((gt F X).variables) Cl,Sl Am ((gt F X).bad) Cm] 86),(some aG,aF),(some aD,Oc [Sl Ad A.p.cells Cd,Sl Ae A.p.capacity Ce,Sl Af A.p.variables Cf,Sl Ag A.uses Cg] 80),(some aK,Oc [Iv W] 29),(some aJ,Oc [Bo Y] 4),(some b6,Oc [Sl Ao N Co,Sl Ap U Cp] 34),(some b1,Oc (BS p Aa Ca Ab Cb Ac Cc) 26)] (D395::(Ds196++O))) An Cn Z J M:=Fn
 replace Rg:Cx .i64 W:=Rg
 replace Fo:CA (AL .i64) b0 (ks [(G,I),(some aI,Oc [Sl An Z Cn] 32),(J,M),(some aH,Oc [Sl Al ((gt F X).variables) Cl,Sl Am ((gt F X).bad) Cm] 86),(some aG,aF),(some aD,Oc [Sl Ad A.p.cells Cd,Sl Ae A.p.capacity Ce,Sl Af A.p.variables Cf,Sl Ag A.uses Cg] 80),(some aK,Oc [Iv W] 29),(some aJ,Oc [Bo Y] 4),(some b6,Oc [Sl Ao N Co,Sl Ap U Cp] 34),(some b1,Oc (BS p Aa Ca Ab Cb Ac Cc) 26)] (D395::(Ds196++O))) Ao Co N:=Fo
 replace Fp:Gs AO 45 b0 (ks [(G,I),(some aI,Oc [Sl An Z Cn] 32),(J,M),(some aH,Oc [Sl Al ((gt F X).variables) Cl,Sl Am ((gt F X).bad) Cm] 86),(some aG,aF),(some aD,Oc [Sl Ad A.p.cells Cd,Sl Ae A.p.capacity Ce,Sl Af A.p.variables Cf,Sl Ag A.uses Cg] 80),(some aK,Oc [Iv W] 29),(some aJ,Oc [Bo Y] 4),(some b6,Oc [Sl Ao N Co,Sl Ap U Cp] 34),(some b1,Oc (BS p Aa Ca Ab Cb Ac Cc) 26)] (D395::(Ds196++O))) Ap Cp U G I:=Fp
 replace hm:=VW (show M5 _ _ [] Z W Y N U=some _ from hm)
 replace hm:=Ts gE (show e6 Z W Y N U=some _ from hm)
 clear b9
 clear Fj Fk a2 F_y253
 refine Av<|A9<|Bg Au Au<|Bb (Iv (wq (X+1))) Au<|Ax ?_
 have cF:=bB.drop 3
 have fL:=(bB.dropS 3)
 clear bB
 have cG:=cF.drop 2
 have fM:=(cF.dropS 2)
 clear cF
 have gY:=cG.drop 1
 have fN:=(cG.dropS 1)
 clear cG
 have hX:=(d4.trans (bT.trans (fL.trans (fM.trans fN))))
 replace b7:=b7.trans hX
 have fO:=(fL.trans (fM.trans fN))
 replace Fp:=Fp.step fO;replace Fo:=Fo.step fO
 exact f7 _ _ ⟨(wq (X+1)),W,Y,N,U,Ao,Co,Ap,Cp,G,I,D395::Ds196,_,Au,BB.of ⟨Au,trivial⟩,b7,gY,(AT .i64 _),Rg,Fo,Fp,Ts eO hm⟩
 rintro kJ D408 ⟨Z,W,Y,N,U,An,Cn,J,M,Ao,Co,Ap,Cp,G,I⟩ b2 eF bU c5 ⟨Fn,Rg,Fo,Fp⟩ hm
 simp only [List.mem_cons,List.not_mem_nil,or_false] at eF
 subst eF
 replace bU:St ⟨w,[],D408::(Ds196++[])⟩ (D408::(Ds196++O)) b2 [(G,I),(some aI,Oc [Sl An Z Cn] 32),(J,M),(some aH,Oc [Sl Al ((gt F X).variables) Cl,Sl Am ((gt F X).bad) Cm] 86),(some aG,aF),(some aD,Oc [Sl Ad A.p.cells Cd,Sl Ae A.p.capacity Ce,Sl Af A.p.variables Cf,Sl Ag A.uses Cg] 80),(some aK,Oc [Iv W] 29),(some aJ,Oc [Bo Y] 4),(some b6,Oc [Sl Ao N Co,Sl Ap U Cp] 34),(some b1,Oc (BS p Aa Ca Ab Cb Ac Cc) 26)]:=bU
 replace c5:AA (ks [(aP,aQ),(some aI,Oc [Sl bX aO bY] 32),(cQ,bG),(some aH,Oc [Sl Al ((gt F X).variables) Cl,Sl Am ((gt F X).bad) Cm] 86),(some aG,aF),(some aD,Oc [Sl Ad A.p.cells Cd,Sl Ae A.p.capacity Ce,Sl Af A.p.variables Cf,Sl Ag A.uses Cg] 80),(some aK,Oc [Iv bL] 29),(some aJ,Oc [Bo bW] 4),(some b6,Oc [Sl Aj bM Cj,Sl Ak bN Ck] 34),(some b1,Oc (BS p Aa Ca Ab Cb Ac Cc) 26)] (Ds196++O)) dW (ks [(G,I),(some aI,Oc [Sl An Z Cn] 32),(J,M),(some aH,Oc [Sl Al ((gt F X).variables) Cl,Sl Am ((gt F X).bad) Cm] 86),(some aG,aF),(some aD,Oc [Sl Ad A.p.cells Cd,Sl Ae A.p.capacity Ce,Sl Af A.p.variables Cf,Sl Ag A.uses Cg] 80),(some aK,Oc [Iv W] 29),(some aJ,Oc [Bo Y] 4),(some b6,Oc [Sl Ao N Co,Sl Ap U Cp] 34),(some b1,Oc (BS p Aa Ca Ab Cb Ac Cc) 26)] (D408::(Ds196++O))) b2:=c5
 replace Fn:Gs AO 45 b2 (ks [(G,I),(some aI,Oc [Sl An Z Cn] 32),(J,M),(some aH,Oc [Sl Al ((gt F X).variables) Cl,Sl Am ((gt F X).bad) Cm] 86),(some aG,aF),(some aD,Oc [Sl Ad A.p.cells Cd,Sl Ae A.p.capacity Ce,Sl Af A.p.variables Cf,Sl Ag A.uses Cg] 80),(some aK,Oc [Iv W] 29),(some aJ,Oc [Bo Y] 4),(some b6,Oc [Sl Ao N Co,Sl Ap U Cp] 34),(some b1,Oc (BS p Aa Ca Ab Cb Ac Cc) 26)] (D408::(Ds196++O))) An Cn Z J M:=Fn
 replace Rg:Cx .i64 W:=Rg
 replace Fo:CA (AL .i64) b2 (ks [(G,I),(some aI,Oc [Sl An Z Cn] 32),(J,M),(some aH,Oc [Sl Al ((gt F X).variables) Cl,Sl Am ((gt F X).bad) Cm] 86),(some aG,aF),(some aD,Oc [Sl Ad A.p.cells Cd,Sl Ae A.p.capacity Ce,Sl Af A.p.variables Cf,Sl Ag A.uses Cg] 80),(some aK,Oc [Iv W] 29),(some aJ,Oc [Bo Y] 4),(some b6,Oc [Sl Ao N Co,Sl Ap U Cp] 34),(some b1,Oc (BS p Aa Ca Ab Cb Ac Cc) 26)] (D408::(Ds196++O))) Ao Co N:=Fo
 replace Fp:Gs AO 45 b2 (ks [(G,I),(some aI,Oc [Sl An Z Cn] 32),(J,M),(some aH,Oc [Sl Al ((gt F X).variables) Cl,Sl Am ((gt F X).bad) Cm] 86),(some aG,aF),(some aD,Oc [Sl Ad A.p.cells Cd,Sl Ae A.p.capacity Ce,Sl Af A.p.variables Cf,Sl Ag A.uses Cg] 80),(some aK,Oc [Iv W] 29),(some aJ,Oc [Bo Y] 4),(some b6,Oc [Sl Ao N Co,Sl Ap U Cp] 34),(some b1,Oc (BS p Aa Ca Ab Cb Ac Cc) 26)] (D408::(Ds196++O))) Ap Cp U G I:=Fp
 replace hm:=Ts gF (show cR Z W Y N U=some _ from hm)
 clear b9
 obtain⟨kK,eT,eG,fP⟩:=St.close bU
 clear bU
 replace Fp:=Fp.step fP
 obtain⟨bC,hY,eH⟩:=Gs.publish (i:=0) eG Au Fp
 clear eG
 have hz:=(G5 bC).trans (AA.sub (O':=O) (fun k hk=>by simp [hk]))
 refine⟨_,eT,[Value.agg [Sl Ao N Co,Sl Ap U Cp].toArray,Bo Y,Iv W],⟨Qc (cs:=[Sl Ao N Co,Sl Ap U Cp]) (vs:=[Sl Ao N Co,Sl Ap U Cp]) DT (i:=7) bC Au Au Au Au,N8 (cs:=[Bo Y]) Jt (i:=6) bC Au Au Au,N8 (cs:=[Iv W]) Ku (i:=5) bC Au Au Au,trivial⟩,bC.ext,?_⟩
 replace eH:=eH.step hz
 have hZ:=(fP.trans (hY.trans hz))
 replace Fo:=Fo.step hZ
 exact Vr.eq (a:=WM (vA G8) vB (vI .i64)) (x:=((⟨N,U⟩:Ba),Y,W)) (UA (JX (C2 (AW (B8 Fo) (B8 eH)))) Au ⟨Au,Rg⟩) (oi hm)
 refine Bq<|Av<|Bb (Iv a5) Au<|A9<|Bg Au Au<|Bn (Iv (wq (a5+1))) Au<|Ax ?_
 replace b5:=b5.trans bO
 exact f5 _ _ ⟨(wq (a5+1)),bL,bW,bM,bN,Aj,Cj,Ak,Ck,aP,aQ,Ds196,_,Au,BB.of ⟨Au,trivial⟩,b5,bP,(AT .i64 _),Rf,Fj,Fk,Ts eN hm⟩
 refine Bq<|Aw ?_
 obtain⟨cH,kL⟩:=aY.sub (bs':=[(some aK,Oc [Iv aC] 29),(some aJ,Oc [Bo false] 4),(some b6,Oc [Value.slice none 0 0,Value.slice none 0 0] 34)]) (.cons _ (.cons_cons _ (.cons_cons _ (.cons_cons _ (.cons _ List.Sublist.slnil)))))
 clear Fa Fb Fc Fd Fe Ff Fg
 clear aY
 refine Av<|A9<|B1 2 DT cH Au Au Au<|Bh<|C6 Ip.p2 DT cH Au Au Au Au Au ?_
 intro kM kN eI
 clear cH
 refine Bh<|F1 (Bo false) Ip.p1 Jt eI Au Au Au Au ?_
 intro kO kP eJ
 clear eI
 refine Bh<|F1 (Iv 0) .z Ku eJ Au Au Au Au ?_
 intro kQ kR eK
 clear eJ
 refine Ax<|AV ?_
 obtain⟨kS,eU,bD,kT⟩:=St.close eK
 clear eK
 have hz:=(G5 bD).trans (AA.sub (O':=O) (fun k hk=>by simp [hk]))
 refine⟨_,eU,[Value.agg [Value.slice none 0 0,Value.slice none 0 0].toArray,Bo false,Iv 0],⟨Qc (cs:=[Value.slice none 0 0,Value.slice none 0 0]) (vs:=[Value.slice none 0 0,Value.slice none 0 0]) DT (i:=2) bD Au Au Au Au,N8 (cs:=[Bo false]) Jt (i:=1) bD Au Au Au,N8 (cs:=[Iv 0]) Ku (i:=0) bD Au Au Au,trivial⟩,bD.ext,?_⟩
 exact Vr.eq (a:=WM (vA G8) vB (vI .i64)) (x:=((⟨([]:List Int),([]:List Az)⟩:Ba),false,0)) (UA (JX (C2 (AW (B8 CA.nil_) (B8 CA.nil_)))) Au ⟨Au,E1⟩) (oi hm)

abbrev X4:List Nat:=[54,55,56,57,58,59,60,61,62,63,64,65,66,67,68,69,70,71,72,73,74,75,76,77,78,79,80,81,82,83,84,85,86,87,88,89,90,91,92]

abbrev V3:List Nat:=[4,7,8,49,50,51,52,53,54,55,56,57,58,59,60,61,62,63,64,65,66,67,68,69,70,71,72,73,74,75,76,77,78,79,80,81,82,83,84,85,86,87,88,89,90,91,92,93]

abbrev X5:List Nat:=[22,23,24,25,26,27,28,29,30,31,32,33,34,35,36,37,38,39,40,41,42,43,44]

abbrev V4:List Nat:=[4,5,6,17,18,19,20,21,22,23,24,25,26,27,28,29,30,31,32,33,34,35,36,37,38,39,40,41,42,43,44,45]

def E2 (p:A8) (r_:Ba) (I:Int→Option Int) (A:Int):Option Int:=
 bif (decide (A<(r_.places.length:Int))) then
  ck ((0:Int)≤A∧A<(r_.places.length:Int))<|
  jn (fun(J:Bool)=>
   bif J then
    some 320
   else
    I (IntKind.wrap .i64 (A+1)))
  (fun F=>
   bif (decide (((r_.places.getD A.toNat default).leaf)<0)) then
    F true
   else
    bif (decide ((p.capacity.length:Int)≤((r_.places.getD A.toNat default).leaf))) then
     F true
    else
     bif (decide (((r_.places.getD A.toNat default).cell)<0)) then
      F true
     else
      bif (decide ((p.cells.length:Int)≤((r_.places.getD A.toNat default).cell))) then
       F true
      else
       bif (decide (0<A)) then
        ck ((0:Int)≤(IntKind.wrap .i64 (A - 1))∧(IntKind.wrap .i64 (A - 1))<(r_.places.length:Int))<|
        (Dv (r_.places.getD (IntKind.wrap .i64 (A - 1)).toNat default) (r_.places.getD A.toNat default)).bind fun G=>
        F (decide (0≤G))
       else
        F false)
 else
  some 0

def E3 (p:A8) (r_:Ba) (G:Int→Option Int) (A:Int):Option Int:=
 bif (decide (A<(r_.variables.length:Int))) then
  ck ((0:Int)≤A∧A<(r_.variables.length:Int))<|
  jn (fun(I:Bool)=>
   bif I then
    some 320
   else
    G (IntKind.wrap .i64 (A+1)))
  (fun F=>
   bif (decide ((r_.variables.getD A.toNat default)<0)) then
    F true
   else
    bif (decide ((p.variables.length:Int)≤(r_.variables.getD A.toNat default))) then
     F true
    else
     bif (decide (0<A)) then
      ck ((0:Int)≤(IntKind.wrap .i64 (A - 1))∧(IntKind.wrap .i64 (A - 1))<(r_.variables.length:Int))<|
      F (decide ((r_.variables.getD A.toNat default)≤(r_.variables.getD (IntKind.wrap .i64 (A - 1)).toNat default)))
     else
      F false)
 else
  B0 (E2 p r_) (((r_.places.length:Int) - 0).toNat+1) 0

def FK (p:A8) (r_:Ba):Option Int:=
 (E4 p).bind fun A=>
 bif (decide (A≠0)) then
  some A
 else
  B0 (E3 p r_) (((r_.variables.length:Int) - 0).toNat+1) 0

theorem Ij {w:World} {O:List Nat} {p:A8} {r_:Ba} {Aa:Option Addr} {Ca:Nat} {Ab:Option Addr} {Cb:Nat} {Ac:Option Addr} {Cc:Nat} {Ad:Option Addr} {Cd:Nat} {Ae:Option Addr} {Ce:Nat} (hO:∀k∈O,k<w.heap.size) (Fa:CA Bx w O Aa Ca p.cells) (Fb:CA (BG (AL .i64)) w O Ab Cb p.capacity) (Fc:CA AS w O Ac Cc p.variables) (Fd:CA (AL .i64) w O Ad Cd r_.variables) (Fe:CA AO w O Ae Ce r_.places) {x:Int} (F:FK p r_=some x):
 Ok Try.prog 23 [Value.agg (BS p Aa Ca Ab Cb Ac Cc).toArray,Value.agg [Sl Ad r_.variables Cd,Sl Ae r_.places Ce].toArray] w O (vI .i64) x:=by
 unfold FK at F
 refine Br (n:=94) (xs:=[.tmp 4]) Try.func23 Au Try.ntmps23 Try.results23 Au ?_
 have hs:=St.start hO
 refine Aw<|Av<|A9<|BT (cs:=(BS p Aa Ca Ab Cb Ac Cc)) hs Au Au ?_
 intro b1 w2 _ p3 b8
 refine A9<|BT (cs:=[Sl Ad r_.variables Cd,Sl Ae r_.places Ce]) b8 Au Au ?_
 intro b6 w7 _ p8 a2
 clear b8
 refine Bn (Iv 0) Au<|Ax<|Aw<|Aw<|Av<|A9<|B1 1 B4 a2 Au Au Au ?_
 obtain⟨M,b9,F⟩:=bd F
 have a3:=(p3.trans p8)
 replace Fb:=Fb.step a3;replace Fa:=Fa.step a3;replace Fc:=Fc.step a3
 refine A9<|Bi a2 Try.call12 (Hi (p:=p) a2.ltw Fa Fb Fc b9) Au ?_
 rintro eQ eR cA aC dE
 clear a2
 obtain⟨rfl,Ra⟩:=dE
 refine Bn (Iv M) Au<|Ax<|Aw<|Av<|Bb (Iv M) Au<|A9<|Eh Au Au<|Ax<|AF F Au (fun cB F=>?_) (fun cB F=>?_)
 refine Aw ?_
 obtain⟨cC,eS⟩:=aC.sub (bs':=[]) (.cons _ (.cons _ List.Sublist.slnil))
 clear Fa Fb Fc Fd Fe
 clear aC
 refine Av<|Bb (Iv M) Au<|Bn (Iv M) Au<|Ax<|AV<|⟨_,DX,[Iv M],⟨Au,trivial⟩,cC.ext,?_⟩
 exact Vr.eq (a:=(vI .i64)) (x:=M) ⟨Au,Ra⟩ (oi F)
 refine AG<|Aw<|Aw<|Av<|A9<|AQ 0 DT Au Bl Au Au<|A9<|AP 0 Bl aC Au Au Au<|A9<|AZ Try.underlying31 Au ?_
 have cD:=(a3.trans cA)
 replace Fd:=Fd.step cD
 have dR:=AX Fd
 refine Bb (Iv 0) Au<|Ax<|AC<|Wr [] [(2,Pt b1 0),(3,Pt b6 0),(15,Sl Ad r_.variables Cd),(16,Iv (r_.variables.length:Int)),(17,Iv 0)] fun cE=>Bf V4 (fun m fr w'=>∃(J:Int) (U:Be),U=[(some b6,Oc [Sl Ad r_.variables Cd,Sl Ae r_.places Ce] 34),(some b1,Oc (BS p Aa Ca Ab Cb Ac Cc) 26)]∧fr [] [(17,Iv J)]∧aC.S (ks U O) w'∧St ⟨w,[],[]⟩ O w' U∧Cx .i64 J∧B0 (E3 p r_) m J=some x) (((r_.variables.length:Int) - 0).toNat+1) ⟨0,_,Au,BB.of ⟨Au,trivial⟩,AA.refl _ _,aC,E1,F⟩ ?_ ?_
 rintro _ _ ⟨_,_,_,_,_,_,_,F⟩;exact CF F
 rintro eT eU cF dS eV ⟨J,_,rfl,aN,Z,N,Rb,F⟩
 obtain⟨dT,bK,F⟩:=CG F;unfold E3 at F
 rw [aN.eq];clear aN
 have aO:=Z
 refine Aw<|Av<|A9<|By Au Au<|Ax<|Aw<|AF F Au (fun cG F=>?_) (fun cG F=>?_)
 refine AG<|Aw<|AC<|Aw<|Av<|Bb (Iv J) Au ?_
 obtain⟨bD,F⟩:=AE F
 replace Fd:=Fd.step Z
 refine A9<|AB (q:=(AL .i64)) Bl B6 Au Au Fd Au bD.1 bD.2 ?_
 intro eW a4
 refine A9<|AR B6 Au a4 Au ?_
 intro eX dF
 obtain⟨rfl,Rc⟩:=BK dF
 refine Bn (Iv J) Au<|Bn (Iv (gt r_.variables J)) Au<|Ax<|Ic V4 [] (CO ⟨cE,[]⟩ [(2,Pt b1 0),(3,Pt b6 0),(15,Sl Ad r_.variables Cd),(16,Iv (r_.variables.length:Int)),(17,Iv 0)]) [(5,Iv J),(6,Iv (gt r_.variables J)),(17,Iv J)] fun dU=>?_
 obtain⟨dG,cH,F⟩:=Cy F
 refine CE X5 (fun fr w'=>∃(bL:Bool) (U:Be),U=[(some b6,Oc [Sl Ad r_.variables Cd,Sl Ae r_.places Ce] 34),(some b1,Oc (BS p Aa Ca Ab Cb Ac Cc) 26)]∧fr [] [(44,Bo bL)]∧N.S (ks U O) w'∧St ⟨w,[],[]⟩ O w' U∧dG bL=some x) ?_ ?_
 rintro dV eY ⟨bL,_,rfl,aP,bM,bE,F⟩
 replace F:=Dc cH F
 rw [aP.eq];clear aP
 refine AF F Au (fun cI F=>?_) (fun cI F=>?_)
 refine Aw ?_
 clear a4
 refine Av<|Bn (Iv 320) Au<|Ax<|AV<|⟨_,DX,[Iv 320],⟨Au,trivial⟩,bE.ext,?_⟩
 exact Vr.eq (a:=(vI .i64)) (x:=320) ⟨Au,(show Cx .i64 320 from by decide)⟩ (oi F)
 refine AG ?_
 clear a4
 refine Av<|A9<|Bg Au Au<|Bb (Iv (wq (J+1))) Au<|Ax ?_
 replace aO:=aO.trans bM
 exact cF _ _ ⟨(wq (J+1)),_,Au,BB.of ⟨Au,trivial⟩,aO,bE,(AT .i64 _),Dc bK F⟩
 intro eZ aI
 have aJ:=N.stepR
 clear a4
 refine Av<|Bb (Iv (gt r_.variables J)) Au<|A9<|By Au Au<|Bb (Bo (decide ((gt r_.variables J)<0))) Au<|Bz F (fun cJ F=>?_) (fun cJ F=>?_)
 iterate 5 refine AI Au (AJ Au Au) Au ?_
 refine FM (Bo true) Au Au<|Bb (Bo true) Au ?_
 iterate 12 refine AI Au (AJ Au Au) Au ?_
 exact FM (Bo true) Au Au<|Ax<|aI _ _ ⟨true,_,Au,BB.of ⟨Au,trivial⟩,aJ,N,F⟩
 refine BO Au Au<|AD (v:=Iv (gt r_.variables J)) Au<|BO Au Au<|AQ 2 B4 Au Cz Au Au<|BO Au Au<|AP 1 Cz N Au Au Au<|BO Au Au<|AZ Try.underlying24 Au ?_
 have dH:=(cA.trans Z)
 replace Fc:=Fc.step dH
 have dW:=AX Fc
 refine BO Au Au<|HH Au Au<|F8 (Bo (decide ((p.variables.length:Int)≤(gt r_.variables J)))) Au Au<|Bb (Bo (decide ((p.variables.length:Int)≤(gt r_.variables J)))) Au<|Bz F (fun cK F=>?_) (fun cK F=>?_)
 iterate 12 refine AI Au (AJ Au Au) Au ?_
 exact FM (Bo true) Au Au<|Ax<|aI _ _ ⟨true,_,Au,BB.of ⟨Au,trivial⟩,aJ,N,F⟩
 refine BO Au Au<|AD (v:=Iv J) Au<|BO Au Au<|EB Au Au<|BO Au Au<|AD (v:=Bo (decide (0<J))) Au<|Bz F (fun cL F=>?_) (fun cL F=>?_)
 refine BO Au Au<|AD (v:=Iv (gt r_.variables J)) Au<|BO Au Au<|AQ 0 DT Au Bl Au Au<|BO Au Au<|AP 0 Bl N Au Au Au<|BO Au Au<|AD (v:=Iv J) Au<|BO Au Au<|FN Au Au ?_
 obtain⟨bF,F⟩:=AE F
 refine BO Au Au<|AB (q:=(AL .i64)) Bl B6 Au Au Fd Au bF.1 bF.2 ?_
 intro e0 dI
 refine BO Au Au<|AR B6 Au dI Au ?_
 intro e1 dJ
 obtain⟨rfl,Rd⟩:=BK dJ
 exact BO Au Au<|JS Au Au<|BO Au Au<|DR (v:=Bo (decide ((gt r_.variables J)≤(gt r_.variables (wq (J - 1)))))) Au Au<|F8 (Bo (decide ((gt r_.variables J)≤(gt r_.variables (wq (J - 1)))))) Au Au<|Ax<|aI _ _ ⟨decide ((gt r_.variables J)≤(gt r_.variables (wq (J - 1)))),_,Au,BB.of ⟨Au,trivial⟩,aJ,N,F⟩
 iterate 8 refine AI Au (AJ Au Au) Au ?_
 exact BO Au Au<|FE (v:=Bo false) Au Au<|F8 (Bo false) Au Au<|Ax<|aI _ _ ⟨false,_,Au,BB.of ⟨Au,trivial⟩,aJ,N,F⟩
 refine Bq<|Aw<|Aw<|Av<|A9<|AQ 1 DT Au Eo Au Au<|A9<|AP 0 Eo N Au Au Au<|A9<|AZ Try.underlying32 Au ?_
 replace Fe:=Fe.step (cD.trans Z)
 have dX:=AX Fe
 refine Bb (Iv 0) Au<|Ax<|AC<|Wr [] [(2,Pt b1 0),(3,Pt b6 0),(47,Sl Ae r_.places Ce),(48,Iv (r_.places.length:Int)),(49,Iv 0)] fun cM=>Bf V3 (fun m fr w'=>∃(G:Int) (U:Be),U=[(some b6,Oc [Sl Ad r_.variables Cd,Sl Ae r_.places Ce] 34),(some b1,Oc (BS p Aa Ca Ab Cb Ac Cc) 26)]∧fr [] [(49,Iv G)]∧N.S (ks U O) w'∧St ⟨w,[],[]⟩ O w' U∧Cx .i64 G∧B0 (E2 p r_) m G=some x) (((r_.places.length:Int) - 0).toNat+1) ⟨0,_,Au,BB.of ⟨Au,trivial⟩,AA.refl _ _,N,E1,F⟩ ?_ ?_
 rintro _ _ ⟨_,_,_,_,_,_,_,F⟩;exact CF F
 rintro e2 e3 cN dY e4 ⟨G,_,rfl,aQ,aR,aK,Re,F⟩
 obtain⟨dZ,bN,F⟩:=CG F;unfold E2 at F
 rw [aQ.eq];clear aQ
 have aS:=aR
 refine Aw<|Av<|A9<|By Au Au<|Ax<|Aw<|AF F Au (fun cO F=>?_) (fun cO F=>?_)
 refine AG<|Aw<|AC<|Aw<|Av<|Bb (Iv G) Au ?_
 obtain⟨bG,F⟩:=AE F
 replace Fe:=Fe.step aR
 refine A9<|AB (q:=AO) Eo C5 Au Au Fe Au bG.1 bG.2 ?_
 intro e5 a5
 refine A9<|BE C5 Au a5 Au ?_
 intro d0 dK
 obtain⟨_,_,rfl,⟨rfl,Rf⟩,⟨rfl,Rg⟩⟩:=dK
 refine A9<|Bv C5 aK ?_
 intro aM e6 _ cP bH
 clear aK
 refine Bn (Iv G) Au<|Bh<|C6 .z C5 bH Au Au Au Au Au ?_
 intro e7 cQ W
 clear bH
 refine Ax<|Ic V3 [] (CO ⟨cM,[]⟩ [(2,Pt b1 0),(3,Pt b6 0),(47,Sl Ae r_.places Ce),(48,Iv (r_.places.length:Int)),(49,Iv 0)]) [(7,Iv G),(8,Pt aM 0),(49,Iv G)] fun d1=>?_
 obtain⟨dL,cR,F⟩:=Cy F
 refine CE X4 (fun fr w'=>∃(bO:Bool) (U:Be),U=[(some aM,Oc [Iv ((gt r_.places G).leaf),Iv ((gt r_.places G).cell)] 45),(some b6,Oc [Sl Ad r_.variables Cd,Sl Ae r_.places Ce] 34),(some b1,Oc (BS p Aa Ca Ab Cb Ac Cc) 26)]∧fr [] [(92,Bo bO)]∧W.S (ks U O) w'∧St ⟨w,[],[]⟩ O w' U∧dL bO=some x) ?_ ?_
 rintro dM d2 ⟨bO,_,rfl,aL,a6,aA,F⟩
 replace F:=Dc cR F
 rw [aL.eq];clear aL
 refine AF F Au (fun bP F=>?_) (fun bP F=>?_)
 refine Aw ?_
 clear a5
 refine Av<|Bn (Iv 320) Au<|Ax<|AV<|⟨_,DX,[Iv 320],⟨Au,trivial⟩,aA.ext,?_⟩
 exact Vr.eq (a:=(vI .i64)) (x:=320) ⟨Au,(show Cx .i64 320 from by decide)⟩ (oi F)
 refine AG ?_
 clear a5
 refine Av<|A9<|Bg Au Au<|Bb (Iv (wq (G+1))) Au<|Ax ?_
 have bQ:=aA.drop 0
 have cS:=(aA.dropS 0)
 clear aA
 have cT:=(cP.trans (cQ.trans (a6.trans cS)))
 replace aS:=aS.trans cT
 exact cN _ _ ⟨(wq (G+1)),_,Au,BB.of ⟨Au,trivial⟩,aS,bQ,(AT .i64 _),Dc bN F⟩
 intro e8 Y
 have I:=W.stepR
 clear a5
 refine B7 (g0:=[]) (m:=35) (fl:=[]) (CQ W) Au (.inl Au) Au (by decide+kernel) ?_  -- 13
 refine Bc (Pt aM 0) (fun _ _ _ hi A=>AQ 0 C5 Au B6 (A 8 Au) Au<|Gz hi)<|Bc (Iv ((gt r_.places G).leaf)) (fun _ _ _ hi A=>AP 0 B6 (AA.nx hi).1 (A 54 Au) Au Au<|Gz hi)<|Bc (Bo (decide (((gt r_.places G).leaf)<0))) (fun _ _ _ hi A=>By (A 55 Au) Au<|Gz hi)<|GI (decide (((gt r_.places G).leaf)<0)) (fun _ _ _ _ hi A=>Ay<|AD (v:=Bo (decide (((gt r_.places G).leaf)<0))) (A 56 Au)<|Gz hi) (fun aD=>?_) (fun aD=>?_)
 replace F:=Hy F aD
 iterate 6 refine FX Au Au (fun _ _ _ h=>h) Au ?_
 refine Bc (Bo true) (fun _ _ _ hi A=>DR (v:=Bo true) (A 57 Au) Au<|Gz hi)<|Bc (Bo true) (fun _ _ _ hi A=>AD (v:=Bo true) (A 64 Au)<|Gz hi) ?_
 iterate 3 refine FX Au Au (fun _ _ _ h=>h) Au ?_
 refine Bc (Bo true) (fun _ _ _ hi A=>DR (v:=Bo true) (A 65 Au) Au<|Gz hi)<|Bc (Bo true) (fun _ _ _ hi A=>AD (v:=Bo true) (A 69 Au)<|Gz hi) ?_
 iterate 6 refine FX Au Au (fun _ _ _ h=>h) Au ?_
 refine Bc (Bo true) (fun _ _ _ hi A=>DR (v:=Bo true) (A 70 Au) Au<|Gz hi)<|Bc (Bo true) (fun _ _ _ hi A=>AD (v:=Bo true) (A 77 Au)<|Gz hi) ?_
 iterate 10 refine FX Au Au (fun _ _ _ h=>h) Au ?_
 refine BD fun d3 d4 bR bS=>?_
 obtain⟨-,a7,-⟩:=bR
 obtain⟨aT,cU⟩:=AA.nx bS
 rintro _ rfl _ rfl _ rfl _ rfl _ rfl _ rfl _ rfl _ rfl _ rfl _ rfl _ rfl _ rfl _ rfl _ rfl _ rfl _ rfl _ rfl _ rfl _ rfl _ rfl _ rfl _ rfl _ rfl _ rfl _ rfl _ rfl _ rfl _ rfl _ rfl _ rfl _ rfl _ rfl _ rfl _ rfl _ rfl
 have cV:=W.to aT (a7.trans cU)
 iterate 3 refine AI Au (AJ Au Au) Au ?_
 refine FM (Bo true) Au Au<|Ax ?_
 replace I:=I.trans cV
 exact Y _ _ ⟨true,_,Au,BB.of ⟨Au,trivial⟩,I,aT,F⟩
 replace F:=Hz F aD
 refine Dt (Pt aM 0) Au Au (fun _ _ _ h=>h) (fun _ _ _ hi A=>AQ 0 C5 Au B6 (A 8 Au) Au<|Gz hi)<|Dt (Iv ((gt r_.places G).leaf)) Au Au (fun _ _ _ h=>h) (fun _ _ _ hi A=>AP 0 B6 (AA.nx hi).1 (A 58 Au) Au Au<|Gz hi)<|Dt (Pt b1 1) Au Au (fun _ _ _ h=>h) (fun _ _ _ hi A=>AQ 1 B4 Au Db (A 2 Au) Au<|Gz hi)<|Dt (Sl Ab p.capacity Cb) Au Au (fun _ _ _ h=>h) (fun _ _ _ hi A=>AP 2 Db (AA.nx hi).1 (A 60 Au) Au Au<|Gz hi)<|Dt (Iv (p.capacity.length:Int)) Au Au (fun _ _ _ h=>h) (fun _ _ _ hi A=>AZ Try.underlying23 (A 61 Au)<|Gz hi)<|Dt (Bo (decide ((p.capacity.length:Int)≤((gt r_.places G).leaf)))) Au Au (fun _ _ _ h=>h) (fun _ _ _ hi A=>HH (A 59 Au) (A 62 Au)<|Gz hi)<|Bc (Bo (decide ((p.capacity.length:Int)≤((gt r_.places G).leaf)))) (fun _ _ _ hi A=>FE (v:=Bo (decide ((p.capacity.length:Int)≤((gt r_.places G).leaf)))) (A 57 Au) (A 63 Au)<|Gz hi)<|GI (decide ((p.capacity.length:Int)≤((gt r_.places G).leaf))) (fun _ _ _ _ hi A=>Ay<|AD (v:=Bo (decide ((p.capacity.length:Int)≤((gt r_.places G).leaf)))) (A 64 Au)<|Gz hi) (fun aE=>?_) (fun aE=>?_)
 replace F:=Hy F aE
 iterate 3 refine FX Au Au (fun _ _ _ h=>h) Au ?_
 refine Bc (Bo true) (fun _ _ _ hi A=>DR (v:=Bo true) (A 65 Au) Au<|Gz hi)<|Bc (Bo true) (fun _ _ _ hi A=>AD (v:=Bo true) (A 69 Au)<|Gz hi) ?_
 iterate 6 refine FX Au Au (fun _ _ _ h=>h) Au ?_
 refine Bc (Bo true) (fun _ _ _ hi A=>DR (v:=Bo true) (A 70 Au) Au<|Gz hi)<|Bc (Bo true) (fun _ _ _ hi A=>AD (v:=Bo true) (A 77 Au)<|Gz hi) ?_
 iterate 10 refine FX Au Au (fun _ _ _ h=>h) Au ?_
 refine BD fun d5 d6 bT bU=>?_
 obtain⟨-,a8,-⟩:=bT
 obtain⟨aU,cW⟩:=AA.nx bU
 rintro _ rfl _ rfl _ rfl _ rfl _ rfl _ rfl _ rfl _ rfl _ rfl _ rfl _ rfl _ rfl _ rfl _ rfl _ rfl _ rfl _ rfl _ rfl _ rfl _ rfl _ rfl _ rfl _ rfl _ rfl _ rfl _ rfl _ rfl _ rfl _ rfl _ rfl _ rfl _ rfl _ rfl _ rfl _ rfl
 have cX:=W.to aU (a8.trans cW)
 iterate 3 refine AI Au (AJ Au Au) Au ?_
 refine FM (Bo true) Au Au<|Ax ?_
 replace I:=I.trans cX
 exact Y _ _ ⟨true,_,Au,BB.of ⟨Au,trivial⟩,I,aU,F⟩
 replace F:=Hz F aE
 refine Dt (Pt aM 1) Au Au (fun _ _ _ h=>h) (fun _ _ _ hi A=>AQ 1 C5 Au B6 (A 8 Au) Au<|Gz hi)<|Dt (Iv ((gt r_.places G).cell)) Au Au (fun _ _ _ h=>h) (fun _ _ _ hi A=>AP 0 B6 (AA.nx hi).1 (A 66 Au) Au Au<|Gz hi)<|Dt (Bo (decide (((gt r_.places G).cell)<0))) Au Au (fun _ _ _ h=>h) (fun _ _ _ hi A=>By (A 67 Au) Au<|Gz hi)<|Bc (Bo (decide (((gt r_.places G).cell)<0))) (fun _ _ _ hi A=>FE (v:=Bo (decide (((gt r_.places G).cell)<0))) (A 65 Au) (A 68 Au)<|Gz hi)<|GI (decide (((gt r_.places G).cell)<0)) (fun _ _ _ _ hi A=>Ay<|AD (v:=Bo (decide (((gt r_.places G).cell)<0))) (A 69 Au)<|Gz hi) (fun aF=>?_) (fun aF=>?_)
 replace F:=Hy F aF
 iterate 6 refine FX Au Au (fun _ _ _ h=>h) Au ?_
 refine Bc (Bo true) (fun _ _ _ hi A=>DR (v:=Bo true) (A 70 Au) Au<|Gz hi)<|Bc (Bo true) (fun _ _ _ hi A=>AD (v:=Bo true) (A 77 Au)<|Gz hi) ?_
 iterate 10 refine FX Au Au (fun _ _ _ h=>h) Au ?_
 refine BD fun d7 d8 bV bW=>?_
 obtain⟨-,a9,-⟩:=bV
 obtain⟨aV,cY⟩:=AA.nx bW
 rintro _ rfl _ rfl _ rfl _ rfl _ rfl _ rfl _ rfl _ rfl _ rfl _ rfl _ rfl _ rfl _ rfl _ rfl _ rfl _ rfl _ rfl _ rfl _ rfl _ rfl _ rfl _ rfl _ rfl _ rfl _ rfl _ rfl _ rfl _ rfl _ rfl _ rfl _ rfl _ rfl _ rfl _ rfl _ rfl
 have cZ:=W.to aV (a9.trans cY)
 iterate 3 refine AI Au (AJ Au Au) Au ?_
 refine FM (Bo true) Au Au<|Ax ?_
 replace I:=I.trans cZ
 exact Y _ _ ⟨true,_,Au,BB.of ⟨Au,trivial⟩,I,aV,F⟩
 replace F:=Hz F aF
 refine Dt (Pt aM 1) Au Au (fun _ _ _ h=>h) (fun _ _ _ hi A=>AQ 1 C5 Au B6 (A 8 Au) Au<|Gz hi)<|Dt (Iv ((gt r_.places G).cell)) Au Au (fun _ _ _ h=>h) (fun _ _ _ hi A=>AP 0 B6 (AA.nx hi).1 (A 71 Au) Au Au<|Gz hi)<|Dt (Pt b1 0) Au Au (fun _ _ _ h=>h) (fun _ _ _ hi A=>AQ 0 B4 Au EX (A 2 Au) Au<|Gz hi)<|Dt (Sl Aa p.cells Ca) Au Au (fun _ _ _ h=>h) (fun _ _ _ hi A=>AP 2 EX (AA.nx hi).1 (A 73 Au) Au Au<|Gz hi)<|Dt (Iv (p.cells.length:Int)) Au Au (fun _ _ _ h=>h) (fun _ _ _ hi A=>AZ Try.underlying22 (A 74 Au)<|Gz hi)<|Dt (Bo (decide ((p.cells.length:Int)≤((gt r_.places G).cell)))) Au Au (fun _ _ _ h=>h) (fun _ _ _ hi A=>HH (A 72 Au) (A 75 Au)<|Gz hi)<|Bc (Bo (decide ((p.cells.length:Int)≤((gt r_.places G).cell)))) (fun _ _ _ hi A=>FE (v:=Bo (decide ((p.cells.length:Int)≤((gt r_.places G).cell)))) (A 70 Au) (A 76 Au)<|Gz hi)<|GI (decide ((p.cells.length:Int)≤((gt r_.places G).cell))) (fun _ _ _ _ hi A=>Ay<|AD (v:=Bo (decide ((p.cells.length:Int)≤((gt r_.places G).cell)))) (A 77 Au)<|Gz hi) (fun aG=>?_) (fun aG=>?_)
 replace F:=Hy F aG
 iterate 10 refine FX Au Au (fun _ _ _ h=>h) Au ?_
 refine BD fun d9 eA bX bY=>?_
 obtain⟨-,bA,-⟩:=bX
 obtain⟨aW,c0⟩:=AA.nx bY
 rintro _ rfl _ rfl _ rfl _ rfl _ rfl _ rfl _ rfl _ rfl _ rfl _ rfl _ rfl _ rfl _ rfl _ rfl _ rfl _ rfl _ rfl _ rfl _ rfl _ rfl _ rfl _ rfl _ rfl _ rfl _ rfl _ rfl _ rfl _ rfl _ rfl _ rfl _ rfl _ rfl _ rfl _ rfl _ rfl
 have c1:=W.to aW (bA.trans c0)
 iterate 3 refine AI Au (AJ Au Au) Au ?_
 refine FM (Bo true) Au Au<|Ax ?_
 replace I:=I.trans c1
 exact Y _ _ ⟨true,_,Au,BB.of ⟨Au,trivial⟩,I,aW,F⟩
 replace F:=Hz F aG
 refine Dt (Iv G) Au Au (fun _ _ _ h=>h) (fun _ _ _ hi A=>AD (v:=Iv G) (A 7 Au)<|Gz hi)<|Dt (Bo (decide (0<G))) Au Au (fun _ _ _ h=>h) (fun _ _ _ hi A=>EB (A 79 Au) Au<|Gz hi)<|GI (decide (0<G)) (fun _ _ _ _ hi A=>BL Au (A 78 Au)<|AD (v:=Bo (decide (0<G))) (A 80 Au)<|Gz hi) (fun aH=>?_) (fun aH=>?_)
 replace F:=Hy F aH
 refine Dt (Pt b6 1) Au Au (fun _ _ _ h=>h) (fun _ _ _ hi A=>AQ 1 DT Au Eo (A 3 Au) Au<|Gz hi)<|Dt (Sl Ae r_.places Ce) Au Au (fun _ _ _ h=>h) (fun _ _ _ hi A=>AP 1 Eo (AA.nx hi).1 (A 82 Au) Au Au<|Gz hi)<|Dt (Iv G) Au Au (fun _ _ _ h=>h) (fun _ _ _ hi A=>AD (v:=Iv G) (A 7 Au)<|Gz hi)<|Dt (Iv (wq (G - 1))) Au Au (fun _ _ _ h=>h) (fun _ _ _ hi A=>FN (A 84 Au) Au<|Gz hi) ?_
 obtain⟨aX,F⟩:=AE F
 have c2:=(cP.trans cQ)
 replace Fe:=Fe.step c2
 refine Bd (VP _ _ AO (gt r_.places (wq (G - 1)))) (VP.stab _ _) (fun dN eB g c3 hi A=>?_) ?_
 obtain⟨-,dO,-⟩:=c3
 replace Fe:=Fe.step dO
 refine BL Au (A 81 Au)<|AB (q:=AO) Eo C5 (A 83 Au) (A 85 Au) Fe Au aX.1 aX.2 ?_
 intro eC c4
 exact Bs.same hi ⟨_,Au,c4⟩
 refine Bd (VD _ _ (vA AO) (gt r_.places (wq (G - 1)))) (VD.stab _ _) (fun dP eD g c3 hi A=>?_) ?_
 obtain⟨eE,c5,c6⟩:=A 86 Au
 refine BL Au (A 81 Au)<|BE C5 c5 c6 Au ?_
 intro dQ c7
 obtain⟨_,_,rfl,⟨rfl,Rh⟩,⟨rfl,Ri⟩⟩:=c7
 exact Bs.same hi (show Vr.vd (vA AO) _ _ _ _ from(JX (C2 (AW (AU Rh) (AU Ri)))))
 refine Dt (Value.agg [Iv ((gt r_.places G).leaf),Iv ((gt r_.places G).cell)].toArray) Au Au (fun _ _ _ h=>h) (fun _ _ _ hi A=>B1 0 C5 (AA.nx hi).1 (A 8 Au) Au Au<|Gz hi)<|BD fun eF eG bZ b0=>?_
 obtain⟨-,bB,-⟩:=bZ
 obtain⟨aB,bI⟩:=AA.nx b0
 rintro _ rfl eH aY
 replace aY:Vr.vd (vA AO) _ _ _ _:=aY
 obtain⟨_,rfl,⟨_,_,rfl,⟨rfl,Rj⟩,⟨rfl,Rk⟩⟩⟩:=aY
 rintro _ ⟨eI,rfl,bJ⟩ _ rfl _ rfl _ rfl _ rfl _ rfl _ rfl _ rfl _ rfl _ rfl _ rfl _ rfl _ rfl _ rfl _ rfl _ rfl _ rfl _ rfl _ rfl _ rfl _ rfl _ rfl _ rfl _ rfl _ rfl _ rfl _ rfl _ rfl _ rfl _ rfl _ rfl _ rfl _ rfl
 have c8:=W.to aB (bB.trans bI)
 replace bJ:=bJ.step bI
 obtain⟨X,b2,F⟩:=bd F
 refine BO Au Au<|Bi aB Try.call55 (Ii (a:=gt r_.places (wq (G - 1))) (b:=gt r_.places G) aB.ltw Rj Rk Rf Rg b2) Au ?_
 rintro eJ eK c9 b3 dA
 clear aB
 obtain⟨rfl,Rl⟩:=dA
 refine BO Au Au<|HH Au Au<|BO Au Au<|DR (v:=Bo (decide (0≤X))) Au Au<|F8 (Bo (decide (0≤X))) Au Au<|Ax ?_
 have dB:=(c8.trans c9)
 replace I:=I.trans dB
 exact Y _ _ ⟨decide (0≤X),_,Au,BB.of ⟨Au,trivial⟩,I,b3,F⟩
 replace F:=Hz F aH
 iterate 7 refine FX Au Au (fun _ _ _ h=>h) Au ?_
 refine BD fun eL eM b4 b5=>?_
 obtain⟨-,bC,-⟩:=b4
 obtain⟨aZ,dC⟩:=AA.nx b5
 rintro _ rfl _ rfl _ rfl _ rfl _ rfl _ rfl _ rfl _ rfl _ rfl _ rfl _ rfl _ rfl _ rfl _ rfl _ rfl _ rfl _ rfl _ rfl _ rfl _ rfl _ rfl _ rfl _ rfl _ rfl _ rfl _ rfl _ rfl _ rfl _ rfl _ rfl _ rfl _ rfl _ rfl _ rfl _ rfl
 have dD:=W.to aZ (bC.trans dC)
 refine AI Au (AJ Au Au) Au<|AI Au (AJ Au Au) Au<|BO Au Au<|FE (v:=Bo false) Au Au<|F8 (Bo false) Au Au<|Ax ?_
 replace I:=I.trans dD
 exact Y _ _ ⟨false,_,Au,BB.of ⟨Au,trivial⟩,I,aZ,F⟩
 refine Bq<|Aw ?_
 obtain⟨b7,eN⟩:=aK.sub (bs':=[]) (.cons _ (.cons _ List.Sublist.slnil))
 clear Fa Fb Fc Fd Fe
 clear aK
 refine Av<|Bn (Iv 0) Au<|Ax<|AV<|⟨_,DX,[Iv 0],⟨Au,trivial⟩,b7.ext,?_⟩
 exact Vr.eq (a:=(vI .i64)) (x:=0) ⟨Au,E1⟩ (oi F)

def E8 (x_:Az) (A:List (Az × Bool)):Option Bool:=
 some ((Bu A x_).getD false)

theorem Kv {w:World} {O:List Nat} {x_:Az} {A:List (Az × Bool)} {F:Addr} (hO:∀k∈O,k<w.heap.size) (Ra:Cx .i64 x_.leaf) (Rb:Cx .i64 x_.cell) (Fa:Ia (Kc AY HA) w O F A) {x:Bool} (I:E8 x_ A=some x):
 Ok Try.prog 52 [Value.agg [Iv x_.leaf,Iv x_.cell].toArray,Value.pointer (some F)] w O vB x:=by
 unfold E8 at I
 refine Br (n:=7) (xs:=[.tmp 3]) Try.func52 Au Try.ntmps52 Try.results52 Au ?_
 have hs:=St.start hO
 refine Aw<|Av<|A9<|BT (cs:=[Iv x_.leaf,Iv x_.cell]) hs Au Au ?_
 intro U W _ M G
 refine Bn (Bo false) Au<|Ax<|Aw<|Av ?_
 replace Fa:=Fa.step M
 refine A9<|AR LB Au Fa Au ?_
 intro X J
 have N:=Qk J;clear J
 refine A9<|B1 0 C5 G Au Au Au<|A9<|NE (q:=AY) (m:=HA) (n:=x_) (z:=false) Try.underlying98 Iy Try.zeroValue4 N (And.intro Ra Rb) Au Au<|Bn (Bo ((Bu A x_).getD false)) Au<|Ax<|AV<|⟨_,DX,[Bo ((Bu A x_).getD false)],⟨Au,trivial⟩,G.ext,?_⟩
 exact Vr.eq (a:=vB) (x:=(Bu A x_).getD false) Au (oi I)

def DZ (bad:List (Az × Bool)) (F:Ba) (I:Bool):Option (Bool × Bool):=
 (GL F.places (fun G=>E8 G bad)).bind fun A=>
 some (A,A)

theorem Lf {w:World} {O:List Nat} {bad:List (Az × Bool)} {J:Ba} {G:Bool} {v_bad:Value} {I:Addr} {A:Nat} (aG:I8 w O [(some A,Oc [Bo G] 4)]) (M_bad:Ov AY HA w (ks [(some A,Oc [Bo G] 4)] O) v_bad bad) (Fa:Ia G8 w (ks [(some A,Oc [Bo G] 4)] O) I J) {x0:Bool} {y_fv1_:Bool} (Y:DZ bad J G=some (x0,y_fv1_)):
 WZ Try.prog 50 [v_bad,Value.pointer (some I),Pt A 0] w O [(some A,Oc [Bo G] 4)] vB x0 (fun w' L'=>L'=[(some A,Obj.cells [Bo y_fv1_].toArray 4)]):=by
 unfold DZ at Y
 refine Br (n:=10) (xs:=[.tmp 4]) Try.func50 Au Try.ntmps50 Try.results50 Au ?_
 obtain⟨x,hxm⟩:∃x,x=(x0,y_fv1_):=⟨_,Au⟩
 rw [← hxm] at Y
 have hs:St ⟨w,List.filterMap Prod.fst [(some A,Oc [Bo G] 4)],[]⟩ O w [(some A,Oc [Bo G] 4)]:=aG
 have hO:=hs.lt0
 refine Aw<|Av<|A9<|BT (cs:=[v_bad]) hs (show ev _ _=v_bad from Au) (Ov.cells1 M_bad) ?_
 intro b1 w2 _ p3 Z
 refine Bn (Bo false) Au<|Ax<|Aw<|Av<|A9<|B5 DT Au Eo (by decide) Au Au ?_
 replace Fa:=Fa.step p3
 have f6:=Fa.via.snd
 refine A9<|AR Eo Au f6 Au ?_
 intro v7 h8
 obtain⟨Aa,Ca,rfl,Fb⟩:=B9 h8
 replace M_bad:=M_bad.step p3
 obtain⟨M,aI,aA⟩:=St.publishP (p:=Kc AY HA) (i:=0) (x:=bad) Z Au (Sf M_bad)
 clear Z
 refine A9<|Gl (a':=[]) (c':=[Value.pointer (some (⟨b1,0,none⟩:Addr))]) Au Au ?_
 have F14:G6 Try.prog w2 (ks [(some A,Oc [Bo G] 4)] O) (Value.func (.func 52) #[] #[Value.pointer (some (⟨b1,0,none⟩:Addr))]) (vA AO) vB (fun N=>E8 N bad):=by
  intro aP O16 aB aC aQ N aR aJ aD
  obtain⟨_,rfl,⟨_,_,rfl,⟨rfl,Ra⟩,⟨rfl,Rb⟩⟩⟩:=aJ
  exact⟨52,#[],#[Value.pointer (some (⟨b1,0,none⟩:Addr))],Au,Try.call52,Kv (x_:=N) aC Ra Rb (aA.step aB) aD⟩
 obtain⟨F,aE,Y⟩:=bd Y
 replace Fb:=Fb.step aI
 refine A9<|Bi M Try.call51 (KI (s:=J.places) (f:=(fun N=>E8 N bad)) M.ltw Fb F14 aE) Au ?_
 rintro aS aT aU U aK
 clear M
 obtain rfl:=aK
 refine Bh<|F1 (Bo F) .z Jt U Au Au Au Au ?_
 intro aV aW W
 clear U
 refine Ax<|Aw ?_
 clear M_bad Fa f6 Fb aA F14
 refine Av<|A9<|AP 0 Jt W Au Au Au<|Bn (Bo F) Au<|Ax<|AV ?_
 have X:=(oi Y).trans hxm;simp only [Prod.mk.injEq] at X;obtain⟨aF,rfl⟩:=X
 refine⟨_,DX,[Bo F],⟨Au,trivial⟩,_,St.backB W,Au,?_⟩
 exact Vr.eq (a:=vB) (x:=F) Au aF
def S50 (A:Nat):Sx Bool where
 rd w O E s:=E=[(some A,Obj.cells [Bo s].toArray 4)]
 step:=fun p h=>by
  have hE:=h
  exact hE
theorem d50 {w:World} {O:List Nat} {A:Nat} {G:Ba} {F:Addr} (Fa:Ia G8 w O F G):
 Js Try.prog AY HA (S50 A) w O (Value.func (.func 50) #[] #[Value.pointer (some F),Pt A 0]) (fun xs s=>DZ xs G s):=by
 refine⟨⟨_,_,Au⟩,?_⟩
 intro I O1 L1 b o xs s r s' p hL hb ho hM hS J
 obtain rfl:=hS
 have hL':=hL.less (b:=b)
 have hp:=fun L=>I8.stepless (b:=b) L O1 I
 refine⟨50,#[],_,Au,Try.call50,(Lf (x0:=r) (y_fv1_:=s') hL' (hL.readM hb ho hM) ((Fa.step p).step (hp _)) J).mono ?_⟩
 rintro u M ⟨L2,hB,rfl,hu⟩
 exact⟨_,hB.more hL hb,Au,hu⟩

def CT (p:A8) (r_:Ba):Option (Bool × Int):=
 (FK p r_).bind fun A=>
 bif (decide (A≠0)) then
  some (false,A)
 else
  (FZ p).bind fun F=>
  (Dh F r_.variables (fun xs s=>DZ xs r_ s) true).bind fun G=>
  some (G,0)

theorem Ga {w:World} {O:List Nat} {p:A8} {r_:Ba} {Aa:Option Addr} {Ca:Nat} {Ab:Option Addr} {Cb:Nat} {Ac:Option Addr} {Cc:Nat} {Ad:Option Addr} {Cd:Nat} {Ae:Option Addr} {Ce:Nat} (hO:∀k∈O,k<w.heap.size) (Fa:CA Bx w O Aa Ca p.cells) (Fb:CA (BG (AL .i64)) w O Ab Cb p.capacity) (Fc:CA AS w O Ac Cc p.variables) (Fd:CA (AL .i64) w O Ad Cd r_.variables) (Fe:CA AO w O Ae Ce r_.places) {x:Bool × Int} (W:CT p r_=some x):
 Ok Try.prog 17 [Value.agg (BS p Aa Ca Ab Cb Ac Cc).toArray,Value.agg [Sl Ad r_.variables Cd,Sl Ae r_.places Ce].toArray] w O (Ns vB (vI .i64)) x:=by
 unfold CT at W
 refine Br (n:=19) (xs:=[.cell 4 4,.tmp 5]) Try.func17 Au Try.ntmps17 Try.results17 Au ?_
 have hs:=St.start hO
 refine Aw<|Av<|A9<|BT (cs:=(BS p Aa Ca Ab Cb Ac Cc)) hs Au Au ?_
 intro b1 w2 _ p3 aO
 refine A9<|BT (cs:=[Sl Ad r_.variables Cd,Sl Ae r_.places Ce]) aO Au Au ?_
 intro b6 w7 _ p8 aP
 clear aO
 refine A9<|Bv Jt aP ?_
 intro G bF _ a5 M
 clear aP
 refine Bn (Iv 0) Au<|Ax<|Aw<|Aw<|Av<|A9<|B1 2 B4 M Au Au Au<|A9<|B1 1 DT M Au Au Au ?_
 obtain⟨A,aQ,W⟩:=bd W
 have X:=(p3.trans (p8.trans a5))
 replace Fb:=Fb.step X;replace Fa:=Fa.step X;replace Fc:=Fc.step X;replace Fe:=Fe.step X;replace Fd:=Fd.step X
 refine A9<|Bi M Try.call23 (Ij (p:=p) (r_:=r_) M.ltw Fa Fb Fc Fd Fe aQ) Au ?_
 rintro bG bH a6 N a7
 clear M
 obtain⟨rfl,Ra⟩:=a7
 refine Bn (Iv A) Au<|Ax<|Aw<|Av<|Bb (Iv A) Au<|A9<|Eh Au Au<|Ax<|AF W Au (fun aR W=>?_) (fun aR W=>?_)
 refine Aw ?_
 obtain⟨aH,bI⟩:=N.sub (bs':=[(some G,Oc [Bo false] 4)]) (.cons_cons _ (.cons _ (.cons _ List.Sublist.slnil)))
 clear Fa Fb Fc Fd Fe
 clear N
 refine Av<|Bb (Iv A) Au<|Bh<|F1 (Bo false) .z Jt aH Au Au Au Au ?_
 intro bJ bK aI
 clear aH
 refine Bn (Iv A) Au<|Ax<|AV<|⟨_,DX,[Bo false,Iv A],⟨N8 (cs:=[Bo false]) Jt (i:=0) aI Au Au Au,Au,trivial⟩,aI.ext,?_⟩
 exact Vr.eq (a:=Ns vB (vI .i64)) (x:=(false,A)) (Ly Au ⟨Au,Ra⟩) (oi W)
 refine AG<|Aw<|Av<|Bh<|F1 (Bo true) .z Jt N Au Au Au Au ?_
 intro bL a8 Y
 clear N
 refine Ax<|Aw<|B7 (g0:=[]) (m:=5) (fl:=[]) (CQ Y) Au (.inl Au) Au (by decide+kernel) ?_  -- 5
 refine Bc (Value.agg (BS p Aa Ca Ab Cb Ac Cc).toArray) (fun _ _ _ hi ht=>B1 2 B4 (AA.nx hi).1 (ht 2 Au) Au Au<|Gz hi) ?_
 obtain⟨J,aS,W⟩:=bd W
 have aG:=(a6.trans a8)
 replace Fb:=Fb.step aG;replace Fa:=Fa.step aG;replace Fc:=Fc.step aG
 refine Bd (VD _ _ (vA La) J) (VD.stab _ _) (fun bB bM g aT hi ht=>?_) ?_
 obtain⟨-,aL,-⟩:=aT
 replace Fa:=Fa.step aL;replace Fb:=Fb.step aL;replace Fc:=Fc.step aL
 refine Ay (Gi Try.call42 (Ju (O:=ks (DS g++[(some G,Oc [Bo true] 4),(some b6,Oc [Sl Ad r_.variables Cd,Sl Ae r_.places Ce] 34),(some b1,Oc (BS p Aa Ca Ab Cb Ac Cc) 26)]) O) (p:=p) hi.ltw Fa Fb Fc aS) (by simp only [List.map,Array.toList,(show ev _ (.tmp 12)=_ from(ht 12 Au))]<;> rfl) ?_)
 rintro bN bO ⟨aU,a9⟩
 exact Bs.call hi aU a9
 refine Bc (Pt b6 0) (fun _ _ _ hi ht=>AQ 0 DT Au Bl (ht 3 Au) Au<|Gz hi)<|Bc (Sl Ad r_.variables Cd) (fun _ _ _ hi ht=>AP 1 Bl (AA.nx hi).1 (ht 14 Au) Au Au<|Gz hi)<|BN (Value.func (.func 50) #[] #[Pt b6 0,Pt G 0]) (fun bC bP g aT hi ht=>?_) ?_
 refine Ay (Gl (a':=[]) (c':=[Pt b6 0,Pt G 0]) Au (by simp only [List.map,Array.toList,(show ev _ (.tmp 3)=_ from(ht 3 Au)),(show ev _ (.tmp 4)=_ from(ht 4 Au))]<;> rfl) ?_)
 exact Gz hi
 refine BD fun aV bQ aW aX=>?_
 obtain⟨-,aM,-⟩:=aW
 obtain⟨Z,aA⟩:=AA.nx aX
 rintro _ rfl _ rfl _ rfl bR aN
 replace aN:Vr.vd (vA La) _ _ _ _:=aN
 obtain⟨_,rfl,⟨_,_,rfl,⟨_,_,rfl,⟨Af,Cf,rfl,Ff⟩,⟨_,_,rfl,⟨Ag,Cg,rfl,Fg⟩,⟨Ah,Ch,rfl,Fh⟩⟩⟩,⟨Ai,Ci,rfl,Fi⟩⟩⟩:=aN
 rintro _ rfl
 have bA:=Y.to Z (aM.trans aA)
 replace Ff:=Ff.step aA;replace Fg:=Fg.step aA;replace Fh:=Fh.step aA;replace Fi:=Fi.step aA;clear Y
 have aY:=(aG.trans bA)
 replace Fe:=Fe.step aY;replace Fd:=Fd.step aY
 obtain⟨aB,aC,aZ⟩:=St.publishP (p:=G8) (i:=1) (x:=r_) Z Au (C2 (AW (B8 Fd) (B8 Fe)))
 clear Z
 have aJ:Ox (S50 G) aV (ks [(some G,Oc [Bo true] 4)] (ks [(some b1,Oc (BS p Aa Ca Ab Cb Ac Cc) 26)] O)) [(some G,Oc [Bo true] 4)] true:=by rw [← IW];exact rfl
 obtain⟨F,a0,W⟩:=bd W
 have I:ks [(some G,Oc [Bo true] 4),(some b1,Oc (BS p Aa Ca Ab Cb Ac Cc) 26)] O=ks [(some G,Oc [Bo true] 4)] (ks [(some b1,Oc (BS p Aa Ca Ab Cb Ac Cc) 26)] O):=IW [(some G,Oc [Bo true] 4)] [(some b1,Oc (BS p Aa Ca Ab Cb Ac Cc) 26)] O
 replace Fd:=Fd.step aC;replace Fg:=Fg.step aC;replace Ff:=Ff.step aC;replace Fh:=Fh.step aC;replace Fi:=Fi.step aC
 refine A9<|NI (rest:=[(some b1,Oc (BS p Aa Ca Ab Cb Ac Cc) 26)]) Try.call49 [(some G,Oc [Bo true] 4)] aB (H7 (S:=S50 G) (t:=J) (variables:=r_.variables) (D:=(fun xs s=>DZ xs r_ s)) (s0:=true) (St.lendL (L:=[(some G,Oc [Bo true] 4)]) (rest:=[(some b1,Oc (BS p Aa Ca Ab Cb Ac Cc) 26)]) aB) (I ▸ Ff) (I ▸ Fg) (I ▸ Fh) (I ▸ Fi) (I ▸ Fd) (d50 (I ▸ aZ)) aJ a0) Au ?_
 intro bS a1 L79 a2 U a3 _;clear aJ I
 obtain rfl:=a3
 replace U:St ⟨w,[],[]⟩ O a1 [(some G,Oc [Bo F] 4),(some b1,Oc (BS p Aa Ca Ab Cb Ac Cc) 26)]:=U
 replace a2:AA (ks [(some G,Oc [Bo true] 4),(some b1,Oc (BS p Aa Ca Ab Cb Ac Cc) 26)] O) aV (ks [(some G,Oc [Bo F] 4),(some b1,Oc (BS p Aa Ca Ab Cb Ac Cc) 26)] O) a1:=a2
 clear aB
 refine Ax<|Aw ?_
 obtain⟨aD,bT⟩:=U.sub (bs':=[(some G,Oc [Bo F] 4)]) (.cons_cons _ (.cons _ List.Sublist.slnil))
 clear Fa Fb Fc Fd Fe Ff Fg Fh Fi aZ
 clear U
 refine Av<|A9<|AP 0 Jt aD Au Au Au<|Bh<|F1 (Bo F) .z Jt aD Au Au Au Au ?_
 intro bU bV aK
 clear aD
 refine Bn (Iv 0) Au<|Ax<|AV<|⟨_,DX,[Bo F,Iv 0],⟨N8 (cs:=[Bo F]) Jt (i:=0) aK Au Au Au,Au,trivial⟩,aK.ext,?_⟩
 exact Vr.eq (a:=Ns vB (vI .i64)) (x:=(F,0)) (Ly Au ⟨Au,E1⟩) (oi W)

def IZ (x_:Int) (y:Int):Option (Int × Int):=
 some ((IntKind.wrap .u64 ((IntKind.wrap .u64 ((IntKind.wrap .u64 ((x_ / 2 ^ min 32 (IntKind.bits .u64))*(y / 2 ^ min 32 (IntKind.bits .u64))))+((IntKind.wrap .u64 ((IntKind.wrap .u64 ((x_ / 2 ^ min 32 (IntKind.bits .u64))*(Go.bits .and .u64 y 4294967295)))+((IntKind.wrap .u64 ((Go.bits .and .u64 x_ 4294967295)*(Go.bits .and .u64 y 4294967295))) / 2 ^ min 32 (IntKind.bits .u64)))) / 2 ^ min 32 (IntKind.bits .u64))))+((IntKind.wrap .u64 ((Go.bits .and .u64 (IntKind.wrap .u64 ((IntKind.wrap .u64 ((x_ / 2 ^ min 32 (IntKind.bits .u64))*(Go.bits .and .u64 y 4294967295)))+((IntKind.wrap .u64 ((Go.bits .and .u64 x_ 4294967295)*(Go.bits .and .u64 y 4294967295))) / 2 ^ min 32 (IntKind.bits .u64)))) 4294967295)+(IntKind.wrap .u64 ((Go.bits .and .u64 x_ 4294967295)*(y / 2 ^ min 32 (IntKind.bits .u64)))))) / 2 ^ min 32 (IntKind.bits .u64)))),(IntKind.wrap .u64 (x_*y)))

theorem NP {w:World} {O:List Nat} {x_:Int} {y:Int} (hO:∀k∈O,k<w.heap.size) (Ra:Cx .u64 x_) (Rb:Cx .u64 y) {x:Int × Int} (A:IZ x_ y=some x):
 Ok Try.prog 86 [(Value.int .u64 x_),(Value.int .u64 y)] w O (Ns (vI .u64) (vI .u64)) x:=by
 unfold IZ at A
 refine Br (n:=51) (xs:=[.tmp 4,.tmp 5]) Try.func86 Au Try.ntmps86 Try.results86 Au ?_
 have hs:=St.start hO
 refine Aw<|Av<|Bn (Value.int .u64 0) Au<|Bn (Value.int .u64 0) Au<|Ax<|Aw<|Av<|Bb (Value.int .u64 x_) Au<|A9<|R1 Au Au<|Bn (Value.int .u64 (Go.bits .and .u64 x_ 4294967295)) Au<|Ax<|Aw<|Av<|Bb (Value.int .u64 x_) Au<|A9<|N9 Au Au (by decide)<|Bn (Value.int .u64 (x_ / 2 ^ min 32 (IntKind.bits .u64))) Au<|Ax<|Aw<|Av<|Bb (Value.int .u64 y) Au<|A9<|R1 Au Au<|Bn (Value.int .u64 (Go.bits .and .u64 y 4294967295)) Au<|Ax<|Aw<|Av<|Bb (Value.int .u64 y) Au<|A9<|N9 Au Au (by decide)<|Bn (Value.int .u64 (y / 2 ^ min 32 (IntKind.bits .u64))) Au<|Ax<|Aw<|Av<|Bb (Value.int .u64 (Go.bits .and .u64 x_ 4294967295)) Au<|Bb (Value.int .u64 (Go.bits .and .u64 y 4294967295)) Au<|A9<|Io Au Au<|Bn (Value.int .u64 (IntKind.wrap .u64 ((Go.bits .and .u64 x_ 4294967295)*(Go.bits .and .u64 y 4294967295)))) Au<|Ax<|Aw<|Av<|Bb (Value.int .u64 (x_ / 2 ^ min 32 (IntKind.bits .u64))) Au<|Bb (Value.int .u64 (Go.bits .and .u64 y 4294967295)) Au<|A9<|Io Au Au<|Bb (Value.int .u64 (IntKind.wrap .u64 ((Go.bits .and .u64 x_ 4294967295)*(Go.bits .and .u64 y 4294967295)))) Au<|A9<|N9 Au Au (by decide)<|A9<|Bg Au Au<|Bn (Value.int .u64 (IntKind.wrap .u64 ((IntKind.wrap .u64 ((x_ / 2 ^ min 32 (IntKind.bits .u64))*(Go.bits .and .u64 y 4294967295)))+((IntKind.wrap .u64 ((Go.bits .and .u64 x_ 4294967295)*(Go.bits .and .u64 y 4294967295))) / 2 ^ min 32 (IntKind.bits .u64))))) Au<|Ax<|Aw<|Wr [] [(0,(Value.int .u64 x_)),(1,(Value.int .u64 y)),(6,(Value.int .u64 (Go.bits .and .u64 x_ 4294967295))),(7,(Value.int .u64 (x_ / 2 ^ min 32 (IntKind.bits .u64)))),(9,(Value.int .u64 (y / 2 ^ min 32 (IntKind.bits .u64)))),(11,(Value.int .u64 (IntKind.wrap .u64 ((IntKind.wrap .u64 ((x_ / 2 ^ min 32 (IntKind.bits .u64))*(Go.bits .and .u64 y 4294967295)))+((IntKind.wrap .u64 ((Go.bits .and .u64 x_ 4294967295)*(Go.bits .and .u64 y 4294967295))) / 2 ^ min 32 (IntKind.bits .u64))))))] fun F=>Av<|Bb (Value.int .u64 (IntKind.wrap .u64 ((IntKind.wrap .u64 ((x_ / 2 ^ min 32 (IntKind.bits .u64))*(Go.bits .and .u64 y 4294967295)))+((IntKind.wrap .u64 ((Go.bits .and .u64 x_ 4294967295)*(Go.bits .and .u64 y 4294967295))) / 2 ^ min 32 (IntKind.bits .u64))))) Au<|A9<|R1 Au Au<|Bn (Value.int .u64 (Go.bits .and .u64 (IntKind.wrap .u64 ((IntKind.wrap .u64 ((x_ / 2 ^ min 32 (IntKind.bits .u64))*(Go.bits .and .u64 y 4294967295)))+((IntKind.wrap .u64 ((Go.bits .and .u64 x_ 4294967295)*(Go.bits .and .u64 y 4294967295))) / 2 ^ min 32 (IntKind.bits .u64)))) 4294967295)) Au<|Ax<|Aw<|Av<|Bb (Value.int .u64 (IntKind.wrap .u64 ((IntKind.wrap .u64 ((x_ / 2 ^ min 32 (IntKind.bits .u64))*(Go.bits .and .u64 y 4294967295)))+((IntKind.wrap .u64 ((Go.bits .and .u64 x_ 4294967295)*(Go.bits .and .u64 y 4294967295))) / 2 ^ min 32 (IntKind.bits .u64))))) Au<|A9<|N9 Au Au (by decide)<|Bn (Value.int .u64 ((IntKind.wrap .u64 ((IntKind.wrap .u64 ((x_ / 2 ^ min 32 (IntKind.bits .u64))*(Go.bits .and .u64 y 4294967295)))+((IntKind.wrap .u64 ((Go.bits .and .u64 x_ 4294967295)*(Go.bits .and .u64 y 4294967295))) / 2 ^ min 32 (IntKind.bits .u64)))) / 2 ^ min 32 (IntKind.bits .u64))) Au<|Ax<|Aw<|Av<|Bb (Value.int .u64 (Go.bits .and .u64 (IntKind.wrap .u64 ((IntKind.wrap .u64 ((x_ / 2 ^ min 32 (IntKind.bits .u64))*(Go.bits .and .u64 y 4294967295)))+((IntKind.wrap .u64 ((Go.bits .and .u64 x_ 4294967295)*(Go.bits .and .u64 y 4294967295))) / 2 ^ min 32 (IntKind.bits .u64)))) 4294967295)) Au<|Bb (Value.int .u64 (Go.bits .and .u64 x_ 4294967295)) Au<|Bb (Value.int .u64 (y / 2 ^ min 32 (IntKind.bits .u64))) Au<|A9<|Io Au Au<|A9<|Bg Au Au<|Bn (Value.int .u64 (IntKind.wrap .u64 ((Go.bits .and .u64 (IntKind.wrap .u64 ((IntKind.wrap .u64 ((x_ / 2 ^ min 32 (IntKind.bits .u64))*(Go.bits .and .u64 y 4294967295)))+((IntKind.wrap .u64 ((Go.bits .and .u64 x_ 4294967295)*(Go.bits .and .u64 y 4294967295))) / 2 ^ min 32 (IntKind.bits .u64)))) 4294967295)+(IntKind.wrap .u64 ((Go.bits .and .u64 x_ 4294967295)*(y / 2 ^ min 32 (IntKind.bits .u64))))))) Au<|Ax<|Aw<|Av<|Bb (Value.int .u64 (x_ / 2 ^ min 32 (IntKind.bits .u64))) Au<|Bb (Value.int .u64 (y / 2 ^ min 32 (IntKind.bits .u64))) Au<|A9<|Io Au Au<|Bb (Value.int .u64 ((IntKind.wrap .u64 ((IntKind.wrap .u64 ((x_ / 2 ^ min 32 (IntKind.bits .u64))*(Go.bits .and .u64 y 4294967295)))+((IntKind.wrap .u64 ((Go.bits .and .u64 x_ 4294967295)*(Go.bits .and .u64 y 4294967295))) / 2 ^ min 32 (IntKind.bits .u64)))) / 2 ^ min 32 (IntKind.bits .u64))) Au<|A9<|Bg Au Au<|Bb (Value.int .u64 (IntKind.wrap .u64 ((Go.bits .and .u64 (IntKind.wrap .u64 ((IntKind.wrap .u64 ((x_ / 2 ^ min 32 (IntKind.bits .u64))*(Go.bits .and .u64 y 4294967295)))+((IntKind.wrap .u64 ((Go.bits .and .u64 x_ 4294967295)*(Go.bits .and .u64 y 4294967295))) / 2 ^ min 32 (IntKind.bits .u64)))) 4294967295)+(IntKind.wrap .u64 ((Go.bits .and .u64 x_ 4294967295)*(y / 2 ^ min 32 (IntKind.bits .u64))))))) Au<|A9<|N9 Au Au (by decide)<|A9<|Bg Au Au<|Bn (Value.int .u64 (IntKind.wrap .u64 ((IntKind.wrap .u64 ((IntKind.wrap .u64 ((x_ / 2 ^ min 32 (IntKind.bits .u64))*(y / 2 ^ min 32 (IntKind.bits .u64))))+((IntKind.wrap .u64 ((IntKind.wrap .u64 ((x_ / 2 ^ min 32 (IntKind.bits .u64))*(Go.bits .and .u64 y 4294967295)))+((IntKind.wrap .u64 ((Go.bits .and .u64 x_ 4294967295)*(Go.bits .and .u64 y 4294967295))) / 2 ^ min 32 (IntKind.bits .u64)))) / 2 ^ min 32 (IntKind.bits .u64))))+((IntKind.wrap .u64 ((Go.bits .and .u64 (IntKind.wrap .u64 ((IntKind.wrap .u64 ((x_ / 2 ^ min 32 (IntKind.bits .u64))*(Go.bits .and .u64 y 4294967295)))+((IntKind.wrap .u64 ((Go.bits .and .u64 x_ 4294967295)*(Go.bits .and .u64 y 4294967295))) / 2 ^ min 32 (IntKind.bits .u64)))) 4294967295)+(IntKind.wrap .u64 ((Go.bits .and .u64 x_ 4294967295)*(y / 2 ^ min 32 (IntKind.bits .u64)))))) / 2 ^ min 32 (IntKind.bits .u64))))) Au<|Ax<|Aw<|Av<|Bb (Value.int .u64 x_) Au<|Bb (Value.int .u64 y) Au<|A9<|Io Au Au<|Bn (Value.int .u64 (IntKind.wrap .u64 (x_*y))) Au<|Ax<|AV<|⟨_,DX,[(Value.int .u64 (IntKind.wrap .u64 ((IntKind.wrap .u64 ((IntKind.wrap .u64 ((x_ / 2 ^ min 32 (IntKind.bits .u64))*(y / 2 ^ min 32 (IntKind.bits .u64))))+((IntKind.wrap .u64 ((IntKind.wrap .u64 ((x_ / 2 ^ min 32 (IntKind.bits .u64))*(Go.bits .and .u64 y 4294967295)))+((IntKind.wrap .u64 ((Go.bits .and .u64 x_ 4294967295)*(Go.bits .and .u64 y 4294967295))) / 2 ^ min 32 (IntKind.bits .u64)))) / 2 ^ min 32 (IntKind.bits .u64))))+((IntKind.wrap .u64 ((Go.bits .and .u64 (IntKind.wrap .u64 ((IntKind.wrap .u64 ((x_ / 2 ^ min 32 (IntKind.bits .u64))*(Go.bits .and .u64 y 4294967295)))+((IntKind.wrap .u64 ((Go.bits .and .u64 x_ 4294967295)*(Go.bits .and .u64 y 4294967295))) / 2 ^ min 32 (IntKind.bits .u64)))) 4294967295)+(IntKind.wrap .u64 ((Go.bits .and .u64 x_ 4294967295)*(y / 2 ^ min 32 (IntKind.bits .u64)))))) / 2 ^ min 32 (IntKind.bits .u64))))),(Value.int .u64 (IntKind.wrap .u64 (x_*y)))],⟨Au,Au,trivial⟩,hs.ext,?_⟩
 exact Vr.eq (a:=Ns (vI .u64) (vI .u64)) (x:=((IntKind.wrap .u64 ((IntKind.wrap .u64 ((IntKind.wrap .u64 ((x_ / 2 ^ min 32 (IntKind.bits .u64))*(y / 2 ^ min 32 (IntKind.bits .u64))))+((IntKind.wrap .u64 ((IntKind.wrap .u64 ((x_ / 2 ^ min 32 (IntKind.bits .u64))*(Go.bits .and .u64 y 4294967295)))+((IntKind.wrap .u64 ((Go.bits .and .u64 x_ 4294967295)*(Go.bits .and .u64 y 4294967295))) / 2 ^ min 32 (IntKind.bits .u64)))) / 2 ^ min 32 (IntKind.bits .u64))))+((IntKind.wrap .u64 ((Go.bits .and .u64 (IntKind.wrap .u64 ((IntKind.wrap .u64 ((x_ / 2 ^ min 32 (IntKind.bits .u64))*(Go.bits .and .u64 y 4294967295)))+((IntKind.wrap .u64 ((Go.bits .and .u64 x_ 4294967295)*(Go.bits .and .u64 y 4294967295))) / 2 ^ min 32 (IntKind.bits .u64)))) 4294967295)+(IntKind.wrap .u64 ((Go.bits .and .u64 x_ 4294967295)*(y / 2 ^ min 32 (IntKind.bits .u64)))))) / 2 ^ min 32 (IntKind.bits .u64)))),(IntKind.wrap .u64 (x_*y)))) (Ly ⟨Au,(AT .u64 _)⟩ ⟨Au,(AT .u64 _)⟩) (oi A)

def Kj (x_:Int) (y:Int):Option (Int × Int):=
 (IZ x_ y).bind fun A=>
 some (A.1,A.2)

theorem PF {w:World} {O:List Nat} {x_:Int} {y:Int} (hO:∀k∈O,k<w.heap.size) (Ra:Cx .u64 x_) (Rb:Cx .u64 y) {x:Int × Int} (F:Kj x_ y=some x):
 Ok Try.prog 78 [(Value.int .u64 x_),(Value.int .u64 y)] w O (Ns (vI .u64) (vI .u64)) x:=by
 unfold Kj at F
 refine Br (n:=30) (xs:=[.tmp 4,.tmp 5]) Try.func78 Au Try.ntmps78 Try.results78 Au ?_
 have hs:=St.start hO
 refine Aw<|Av<|Bn (Value.int .u64 0) Au<|Bn (Value.int .u64 0) Au<|Ax<|Aw<|GG Au<|AG<|Aw<|Av<|Bb (Value.int .u64 x_) Au<|Bb (Value.int .u64 y) Au ?_
 obtain⟨A,G,F⟩:=bd F
 refine A9<|Bi hs Try.call86 (NP (x_:=x_) (y:=y) hs.ltw Ra Rb G) Au ?_
 rintro U W X I N
 obtain⟨Y,Z,rfl,J,M⟩:=N
 obtain⟨rfl,Rc⟩:=J
 obtain⟨rfl,Rd⟩:=M
 refine Bb (Value.tuple [(Value.int .u64 A.1),(Value.int .u64 A.2)].toArray) Au<|A9<|Bk (v:=(Value.int .u64 A.1)) Au Au<|A9<|Bk (v:=(Value.int .u64 A.2)) Au Au<|Bn (Value.int .u64 A.1) Au<|Bn (Value.int .u64 A.2) Au<|Ax<|Aw<|Av<|Bb (Value.int .u64 A.1) Au<|Bb (Value.int .u64 A.2) Au<|Bn (Value.int .u64 A.1) Au<|Bn (Value.int .u64 A.2) Au<|Ax<|AV<|⟨_,DX,[(Value.int .u64 A.1),(Value.int .u64 A.2)],⟨Au,Au,trivial⟩,I.ext,?_⟩
 exact Vr.eq (a:=Ns (vI .u64) (vI .u64)) (x:=(A.1,A.2)) (Ly ⟨Au,Rc⟩ ⟨Au,Rd⟩) (oi F)

abbrev X6:List Nat:=[7,8,34,35,36,37,38,39,40,41,42,43,44,45,46]

def Ge (G:(List Int)→Int→Option (List Int)) (A:List Int) (F:Int):Option (List Int):=
 bif (decide (F<(A.length:Int))) then
  ck ((0:Int)≤F∧F<(A.length:Int)∧(A.length:Int)≤(A.length:Int))<|
  ck ((0:Int)≤(0:Int)∧(0:Int)<F∧F≤(A.length:Int))<|
  ck (F.toNat<A.length)<|
  G (A.take F.toNat++(((A.drop 0).take (F.toNat - 0)).take (A.length - F.toNat)++(A.drop F.toNat).drop (min ((A.drop 0).take (F.toNat - 0)).length (A.length - F.toNat)))) (IntKind.wrap .i64 (F+((min ((A.drop 0).take (F.toNat - 0)).length (A.length - F.toNat):Nat):Int)))
 else
  some A

def G2 (x_:List Int) (count:Int):Option (List Int):=
 bif (decide (count<0)) then
  none
 else
  (Kj (IntKind.wrap .u64 (x_.length:Int)) (IntKind.wrap .u64 count)).bind fun A=>
  jn (fun(G:Bool)=>
   bif G then
    none
   else
    ck ((0:Int)≤(IntKind.wrap .i64 A.2)∧(IntKind.wrap .i64 A.2)≤(IntKind.wrap .i64 A.2)∧(8:Int)*(IntKind.wrap .i64 A.2)≤281474976710656∧(IntKind.wrap .i64 A.2)≤281474976710656)<|
    BC Ge 1000000 (x_.take (List.replicate (IntKind.wrap .i64 A.2).toNat (0:Int)).length++(List.replicate (IntKind.wrap .i64 A.2).toNat (0:Int)).drop x_.length) ((min x_.length (List.replicate (IntKind.wrap .i64 A.2).toNat (0:Int)).length:Nat):Int))
  (fun F=>
   bif (decide (0<A.1)) then
    F true
   else
    F (decide (9223372036854775807<A.2)))

theorem Jh {w:World} {O:List Nat} {x_:List Int} {count:Int} {Aa:Option Addr} {Ca:Nat} (hO:∀k∈O,k<w.heap.size) (Fa:CA (AL .i64) w O Aa Ca x_) (Ra:Cx .i64 count) {x:(List Int)} (I:G2 x_ count=some x):
 Px Try.prog 53 [Sl Aa x_ Ca,Iv count] w O (AL .i64) 3 x:=by
 unfold G2 at I
 refine Br (n:=48) (xs:=[.tmp 4]) Try.func53 Au Try.ntmps53 Try.results53 Au ?_
 have hs:=St.start hO
 refine Aw<|Av<|Bn (Value.slice none 0 0) Au<|Ax<|Aw<|Aw<|Av<|Bb (Iv count) Au<|A9<|By Au Au<|Ax<|AF I Au (fun a5 I=>?_) (fun a5 I=>?_)
 refine Av ?_
 cases I
 refine AG<|Aw<|Av<|Bb (Sl Aa x_ Ca) Au<|A9<|AZ Try.underlying31 Au ?_
 have bS:=AX Fa
 refine A9<|Pn Try.underlying3 Try.underlying123 Au<|Bb (Iv count) Au<|A9<|Pn Try.underlying3 Try.underlying123 Au ?_
 obtain⟨F,a6,I⟩:=bd I
 refine A9<|Bi hs Try.call78 (PF (x_:=(IntKind.wrap .u64 (x_.length:Int))) (y:=(IntKind.wrap .u64 count)) hs.ltw (AT .u64 _) (AT .u64 _) a6) Au ?_
 rintro v4 w5 p9 aD h7
 obtain⟨bV,bW,rfl,a7,a8⟩:=h7
 obtain⟨rfl,Rb⟩:=a7
 obtain⟨rfl,Rc⟩:=a8
 refine Bb (Value.tuple [(Value.int .u64 F.1),(Value.int .u64 F.2)].toArray) Au<|A9<|Bk (v:=(Value.int .u64 F.1)) Au Au<|A9<|Bk (v:=(Value.int .u64 F.2)) Au Au<|Bn (Value.int .u64 F.1) Au<|Bn (Value.int .u64 F.2) Au<|Ax<|Aw<|Wr [] [(0,Sl Aa x_ Ca),(5,(Value.int .u64 F.1)),(6,(Value.int .u64 F.2))] fun bH=>?_
 obtain⟨a9,aR,I⟩:=Cy I
 refine CE [21,22,23,24,25,26] (fun fr w'=>∃(aJ:Bool) (J:Be),J=[]∧fr [] [(26,Bo aJ)]∧aD.S (ks J O) w'∧St ⟨w,[],[]⟩ O w' J∧a9 aJ=some x) ?_ ?_
 rintro bI bX ⟨aJ,_,rfl,Z,aK,aF,I⟩
 replace I:=Dc aR I
 rw [Z.eq];clear Z
 refine AF I Au (fun aS I=>?_) (fun aS I=>?_)
 refine Av ?_
 cases I
 refine AG<|Aw<|Av<|Bb (Value.int .u64 F.2) Au<|A9<|Pn Try.underlying123 Try.underlying3 Au ?_
 obtain⟨aT,I⟩:=AE I
 refine A9<|GC (q:=(AL .i64)) (v:=Iv 0) (x0:=(0:Int)) Bl B6 aF Au Au aT Au (fun _ _=>(AU E1)) ?_
 intro aE bY bJ bA aG bB
 clear aF
 refine Bn (Sl (some ⟨aE,0,none⟩) (List.replicate (wq F.2).toNat (0:Int)) ((wq F.2).toNat)) Au<|Ax<|Aw<|Av<|Bb (Sl (some ⟨aE,0,none⟩) (List.replicate (wq F.2).toNat (0:Int)) ((wq F.2).toNat)) Au<|Bb (Sl Aa x_ Ca) Au ?_
 replace Fa:=Fa.step (p9.trans (aK.trans bA))
 refine A9<|Tt (p:=(AL .i64)) (i:=0) Bl B6 Au aG Au Au bB Au Fa (.inr (by simp)) ?_
 intro bC bZ bD aH aU
 clear aG
 refine Bn (Iv ((min x_.length (List.replicate (wq F.2).toNat (0:Int)).length:Nat):Int)) Au<|Ax<|Aw<|AC ?_
 replace Fa:=Fa.step bD
 refine Bf X6 (fun m fr w'=>∃(A:List Int) (G:Int) (Ab:Option Addr) (Cb:Nat) (N:Option Nat) (U:Obj) (J:Be),J=[(N,U)]∧fr [] [(7,Sl Ab A Cb),(8,Iv G)]∧aH.S (ks J O) w'∧St ⟨w,[],[]⟩ O w' J∧Gs (AL .i64) 3 w' (ks J O) Ab Cb A N U∧Cx .i64 G∧BC Ge m A G=some x) 1000000 ⟨x_.take (List.replicate (wq F.2).toNat (0:Int)).length++(List.replicate (wq F.2).toNat (0:Int)).drop x_.length,((min x_.length (List.replicate (wq F.2).toNat (0:Int)).length:Nat):Int),some ⟨aE,0,none⟩,(wq F.2).toNat,some aE,bC,_,Au,BB.of ⟨M4 (show(List.replicate (wq F.2).toNat (0:Int)).length=(x_.take (List.replicate (wq F.2).toNat (0:Int)).length++(List.replicate (wq F.2).toNat (0:Int)).drop x_.length).length from by first |(simp;done) |(simp;omega)),Au,trivial⟩,AA.refl _ _,aH,aU,QZ Fa,I⟩ ?_ ?_
 rintro _ _ ⟨_,_,_,_,_,_,_,_,_,_,_,_,_,I⟩;exact DI I
 rintro b0 b1 aV bK b2 ⟨A,G,Ab,Cb,N,U,_,rfl,aA,aL,M,Fb,Rd,I⟩
 obtain⟨bL,aM,I⟩:=DJ I;unfold Ge at I
 rw [aA.eq];clear aA
 have aB:=aL
 refine Aw<|Aw ?_
 clear Fa aU
 refine Av<|Bb (Iv G) Au<|Bb (Sl Ab A Cb) Au<|A9<|AZ Try.underlying31 Au ?_
 have bM:=HK Fb
 refine A9<|By Au Au<|Ax<|AF I Au (fun aW I=>?_) (fun aW I=>?_)
 refine AG<|AC<|B7 (g0:=[]) (m:=7) (fl:=[0]) (CQ M) Au (.inl Au) Au (by decide+kernel) ?_  -- 9
 refine Bc (Iv G) (fun _ _ _ hi W=>AD (v:=Iv G) (W 8 Au)<|Gz hi)<|Bc (Sl Ab A Cb) (fun _ _ _ hi W=>AD (v:=Sl Ab A Cb) (W 7 Au)<|Gz hi)<|Bc (Iv G) (fun _ _ _ hi W=>AD (v:=Iv G) (W 8 Au)<|Gz hi) ?_
 obtain⟨bN,I⟩:=AE I
 obtain⟨Y,rfl,rfl⟩:=Fb.at_ (by omega)
 refine BN (Value.slice (some ⟨Y,if Cb=G.toNat then 0 else 0+G.toNat*1,none⟩) (A.length - G.toNat) (Cb - G.toNat)) (fun bO b3 g aN hi W=>?_) ?_
 obtain⟨-,aO,-⟩:=aN
 replace Fb:=Fb.step aO
 refine Ay (OA (l:=G.toNat) (h:=A.length) (m:=Cb) Bl B6 (W 39 Au) (Pw (W 40 Au) (by omega)) Au Au (by decide) (by omega) (by have:=Fb.le;omega) (Nat.le_refl _) ?_)
 exact Gz hi
 refine Bc (Sl (some ⟨Y,0,none⟩) A Cb) (fun _ _ _ hi W=>AD (v:=Sl (some ⟨Y,0,none⟩) A Cb) (W 7 Au)<|Gz hi)<|Bc (Iv G) (fun _ _ _ hi W=>AD (v:=Iv G) (W 8 Au)<|Gz hi) ?_
 obtain⟨bP,I⟩:=AE I
 refine BN (Value.slice (some ⟨Y,if Cb=0 then 0 else 0+0*1,none⟩) (G.toNat - 0) (Cb - 0)) (fun bQ b4 g aN hi W=>?_) ?_
 obtain⟨-,aO,-⟩:=aN
 replace Fb:=Fb.step aO
 refine Ay (OA (l:=0) (h:=G.toNat) (m:=Cb) Bl B6 (W 42 Au) Au (Pw (W 43 Au) (by omega)) Au (by decide) (by omega) (by have:=Fb.le;omega) (Nat.le_refl _) ?_)
 exact Gz hi
 refine BD fun b5 b6 aX aY=>?_
 obtain⟨-,aP,-⟩:=aX
 obtain⟨X,bE⟩:=AA.nx aY
 rintro _ rfl _ rfl _ rfl _ rfl _ rfl _ rfl _ rfl
 have aZ:=M.to X (aP.trans bE)
 clear M
 obtain⟨a0,I⟩:=AE I
 replace Fb:=Fb.step aZ
 obtain⟨bR,a1,a2⟩:=Gs.win (i:=0) (l:=0) (h:=G.toNat) Au X Au Fb (by omega) (by omega)
 refine A9 (Tu (p:=(AL .i64)) (xs:=A) (i:=0) (l:=G.toNat) (h:=A.length) Bl B6 Au X Au Au Fb (Ib Au (show G.toNat - 0=((A.drop 0).take (G.toNat - 0)).length from by simp;omega)) a1 a2 a0 (by omega) ?_)
 intro bF b7 bG a3 a4
 clear X
 have b8:Cx .i64 ((min ((A.drop 0).take (G.toNat - 0)).length (A.length - G.toNat):Nat):Int):=Pu (by have:=a4.le;have I:maxLen=9223372036854775807:=rfl;simp at this ⊢;omega)
 refine A9<|Bg Au Au<|Bn (Iv (wq (G+((min ((A.drop 0).take (G.toNat - 0)).length (A.length - G.toNat):Nat):Int)))) Au<|Ax ?_
 replace aB:=aB.trans (aZ.trans bG)
 exact aV _ _ ⟨A.take G.toNat++(((A.drop 0).take (G.toNat - 0)).take (A.length - G.toNat)++(A.drop G.toNat).drop (min ((A.drop 0).take (G.toNat - 0)).length (A.length - G.toNat))),(wq (G+((min ((A.drop 0).take (G.toNat - 0)).length (A.length - G.toNat):Nat):Int))),some ⟨Y,0,none⟩,Cb,some Y,bF,_,Au,BB.of ⟨M4 (show A.length=(A.take G.toNat++(((A.drop 0).take (G.toNat - 0)).take (A.length - G.toNat)++(A.drop G.toNat).drop (min ((A.drop 0).take (G.toNat - 0)).length (A.length - G.toNat)))).length from by first |(simp;done) |(simp;omega)),Au,trivial⟩,aB,a3,a4,(AT .i64 _),GV aM I⟩
 refine Bq<|Aw<|Av<|Bb (Sl Ab A Cb) Au<|Bn (Sl Ab A Cb) Au<|Ax<|AV<|⟨_,DX,[Sl Ab A Cb],⟨Au,trivial⟩,M.ext,?_⟩
 exact Px.mk (i:=0) M Au Fb (oi I)
 intro b9 aI
 have aC:=aD.stepR
 refine Av<|Bb (Value.int .u64 F.1) Au<|A9<|EB Au Au<|Bb (Bo (decide (0<F.1))) Au<|Bz I (fun aQ I=>?_) (fun aQ I=>?_)
 exact AI Au (AJ Au Au) Au<|AI Au (AJ Au Au) Au<|FM (Bo true) Au Au<|Ax<|aI _ _ ⟨true,_,Au,BB.of ⟨Au,trivial⟩,aC,aD,I⟩
 exact BO Au Au<|AD (v:=(Value.int .u64 F.2)) Au<|BO Au Au<|EB Au Au<|F8 (Bo (decide (9223372036854775807<F.2))) Au Au<|Ax<|aI _ _ ⟨decide (9223372036854775807<F.2),_,Au,BB.of ⟨Au,trivial⟩,aC,aD,I⟩
end Go.Fx
