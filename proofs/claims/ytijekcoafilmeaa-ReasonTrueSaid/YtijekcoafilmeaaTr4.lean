/- Part 4 of the proof: for every problem there is a smallest reason exactly if every solution has an overload. -/
import Derived.Test.YtijekcoafilmeaaTr3
set_option linter.unusedVariables false
set_option linter.unusedSimpArgs false
set_option maxRecDepth 100000
set_option maxHeartbeats 0
namespace Go.Fx
open Go Go.RowKit Go.Proofs
abbrev X7:List Nat:=[23,24,25,26,27,28,29,30,31,32,33,34,35]

abbrev X8:List Nat:=[7,39,40,41,42,43,44,45,46,47,48,49,50,51,52,53,54,55,56,57,58,59,60,61,62]

abbrev X9:List Nat:=[9,66,67,68,69,70,71,72,73,74,75,76,77,78,79,80]

def HB (p:A8) (r_:Ba) (F:List (List Int)) (G:Int→(List AM)→Option (A8 × Int)) (A:Int) (I:List AM):Option (A8 × Int):=
 bif (decide (A<(r_.variables.length:Int))) then
  ck ((0:Int)≤A∧A<(r_.variables.length:Int))<|
  ck ((0:Int)≤(r_.variables.getD A.toNat default)∧(r_.variables.getD A.toNat default)<(p.variables.length:Int))<|
  ck ((I.length+[p.variables.getD (r_.variables.getD A.toNat default).toNat default].length)*64≤140737488355328)<|
  G (IntKind.wrap .i64 (A+1)) (I++[p.variables.getD (r_.variables.getD A.toNat default).toNat default])
 else
  some ((⟨p.cells,F,I⟩:A8),0)

def HC (p:A8) (r_:Ba) (G:Int→(List (List Int))→Option (A8 × Int)) (A:Int) (F:List (List Int)):Option (A8 × Int):=
 bif (decide (A<(r_.places.length:Int))) then
  ck ((0:Int)≤A∧A<(r_.places.length:Int))<|
  ck ((0:Int)≤((r_.places.getD A.toNat default).leaf)∧((r_.places.getD A.toNat default).leaf)<(F.length:Int))<|
  ck ((0:Int)≤((r_.places.getD A.toNat default).leaf)∧((r_.places.getD A.toNat default).leaf)<(p.capacity.length:Int))<|
  ck ((0:Int)≤((r_.places.getD A.toNat default).cell)∧((r_.places.getD A.toNat default).cell)<((p.capacity.getD ((r_.places.getD A.toNat default).leaf).toNat default).length:Int))<|
  ck ((0:Int)≤((r_.places.getD A.toNat default).cell)∧((r_.places.getD A.toNat default).cell)<((F.getD ((r_.places.getD A.toNat default).leaf).toNat default).length:Int))<|
  G (IntKind.wrap .i64 (A+1)) (F.set ((r_.places.getD A.toNat default).leaf).toNat ((F.getD ((r_.places.getD A.toNat default).leaf).toNat default).set ((r_.places.getD A.toNat default).cell).toNat ((p.capacity.getD ((r_.places.getD A.toNat default).leaf).toNat default).getD ((r_.places.getD A.toNat default).cell).toNat default)))
 else
  BC (HB p r_ F) (((r_.variables.length:Int) - 0).toNat+1) 0 ([]:List AM)

def HD (p:A8) (r_:Ba) (G:Int→(List (List Int))→Option (A8 × Int)) (I:Int) (A:List (List Int)):Option (A8 × Int):=
 bif (decide (I<(p.capacity.length:Int))) then
  (G2 [4096] (p.cells.length:Int)).bind fun F=>
  ck ((A.length+1)*24≤140737488355328)<|
  G (IntKind.wrap .i64 (I+1)) (A++[F])
 else
  BC (HC p r_) (((r_.places.length:Int) - 0).toNat+1) 0 A

def IA (p:A8) (r_:Ba):Option (A8 × Int):=
 (FK p r_).bind fun A=>
 bif (decide (A≠0)) then
  some ((⟨([]:List AK),([]:List (List Int)),([]:List AM)⟩:A8),A)
 else
  BC (HD p r_) (((p.capacity.length:Int) - 0).toNat+1) 0 ([]:List (List Int))

theorem Nu {w:World} {O:List Nat} {p:A8} {r_:Ba} {Aa:Option Addr} {Ca:Nat} {Ab:Option Addr} {Cb:Nat} {Ac:Option Addr} {Cc:Nat} {Ad:Option Addr} {Cd:Nat} {Ae:Option Addr} {Ce:Nat} (hO:∀k∈O,k<w.heap.size) (Fa:CA Bx w O Aa Ca p.cells) (Fb:CA (BG (AL .i64)) w O Ab Cb p.capacity) (Fc:CA AS w O Ac Cc p.variables) (Fd:CA (AL .i64) w O Ad Cd r_.variables) (Fe:CA AO w O Ae Ce r_.places) {x:A8 × Int} (U:IA p r_=some x):
 Ok Try.prog 20 [Value.agg (BS p Aa Ca Ab Cb Ac Cc).toArray,Value.agg [Sl Ad r_.variables Cd,Sl Ae r_.places Ce].toArray] w O (Ns (vA FY) (vI .i64)) x:=by
 unfold IA at U
 refine Br (n:=82) (xs:=[.cell 4 26,.tmp 5]) Try.func20 Au Try.ntmps20 Try.results20 Au ?_
 have hs:=St.start hO
 refine Aw<|Av<|A9<|BT (cs:=(BS p Aa Ca Ab Cb Ac Cc)) hs Au Au ?_
 intro b1 w2 _ p3 eP
 refine A9<|BT (cs:=[Sl Ad r_.variables Cd,Sl Ae r_.places Ce]) eP Au Au ?_
 intro b6 w7 _ p8 eQ
 clear eP
 refine A9<|Bv B4 eQ ?_
 intro Y iW _ f5 a8
 clear eQ
 refine Bn (Iv 0) Au<|Ax<|Aw<|Aw<|Av<|A9<|B1 2 B4 a8 Au Au Au<|A9<|B1 1 DT a8 Au Au Au ?_
 obtain⟨aC,eR,U⟩:=bd U
 have bV:=(p3.trans (p8.trans f5))
 replace Fb:=Fb.step bV;replace Fa:=Fa.step bV;replace Fc:=Fc.step bV;replace Fe:=Fe.step bV;replace Fd:=Fd.step bV
 refine A9<|Bi a8 Try.call23 (Ij (p:=p) (r_:=r_) a8.ltw Fa Fb Fc Fd Fe eR) Au ?_
 rintro iX iY f6 a9 f7
 clear a8
 obtain⟨rfl,Ra⟩:=f7
 refine Bn (Iv aC) Au<|Ax<|Aw<|Av<|Bb (Iv aC) Au<|A9<|Eh Au Au<|Ax<|AF U Au (fun eS U=>?_) (fun eS U=>?_)
 refine Aw ?_
 obtain⟨bW,iZ⟩:=a9.sub (bs':=(some Y,Oc [Value.slice none 0 0,Value.slice none 0 0,Value.slice none 0 0] 26)::([]:Be)) (.cons_cons _ (.cons _ (.cons _ (List.Sublist.refl _))))
 clear Fa Fb Fc Fd Fe
 clear a9
 refine Av<|A9<|B1 0 B4 bW Au Au Au<|Bb (Iv aC) Au<|Bh<|C6 .z B4 bW Au Au Au Au Au ?_
 intro i0 i1 dA
 clear bW
 refine Bn (Iv aC) Au<|Ax<|AV<|⟨_,DX,[Value.agg [Value.slice none 0 0,Value.slice none 0 0,Value.slice none 0 0].toArray,Iv aC],⟨Qc (cs:=[Value.slice none 0 0,Value.slice none 0 0,Value.slice none 0 0]) (vs:=[Value.slice none 0 0,Value.slice none 0 0,Value.slice none 0 0]) B4 (i:=0) dA Au Au Au Au,Au,trivial⟩,dA.ext,?_⟩
 exact Vr.eq (a:=Ns (vA FY) (vI .i64)) (x:=((⟨([]:List AK),([]:List (List Int)),([]:List AM)⟩:A8),aC)) (Ly (JX (C2 (AW (B8 CA.nil_) (AW (B8 CA.nil_) (B8 CA.nil_))))) ⟨Au,Ra⟩) (oi U)
 refine AG<|Aw<|Av<|A9<|AQ 0 B4 Au EX Au Au<|A9<|AP 2 EX a9 Au Au Au<|A9<|AQ 0 B4 Au EX Au Au<|Bh<|KC (Sl Aa p.cells Ca) (cs':=[Sl Aa p.cells Ca,Value.slice none 0 0,Value.slice none 0 0]) .z EX a9 Au Au Au (BQ Au) Au Au ?_
 intro i2 f8 dB
 clear a9
 refine Ax<|Aw<|Aw<|Av<|A9<|AQ 1 B4 Au Db Au Au<|A9<|AP 2 Db dB Au Au Au<|A9<|AZ Try.underlying23 Au ?_
 have dT:=(f6.trans f8)
 replace Fb:=Fb.step dT
 have g2:=AX Fb
 refine Bb (Iv 0) Au<|Ax<|AC<|Wr [] [(2,Pt b1 0),(3,Pt b6 0),(4,Pt Y 0),(22,Iv (p.capacity.length:Int)),(23,Iv 0)] fun g3=>?_
 have dC:=dB.ghost (Obj.cells #[] 31)
 refine Bf X7 (fun m fr w'=>∃(bU:Int) (Z:List (List Int)) (Af:Option Addr) (Cf:Nat) (aL:Option Nat) (aM:Obj) (F:List Hd) (W:Be) (aI:Be),aI=((aL,aM)::(some Y,Oc [Sl Aa p.cells Ca,Value.slice Af F.length Cf,Value.slice none 0 0] 26)::(some b6,Oc [Sl Ad r_.variables Cd,Sl Ae r_.places Ce] 34)::(some b1,Oc (BS p Aa Ca Ab Cb Ac Cc) 26)::W)∧fr [] [(23,Iv bU)]∧dC.S (ks aI O) w'∧St ⟨w,[],[]⟩ O w' aI∧Cx .i64 bU∧Gs QR 31 w' (ks aI O) Af Cf F aL aM∧Rows (AL .i64) 3 w' (ks aI O) F W Z∧F.length=Z.length∧BC (HD p r_) m bU Z=some x) (((p.capacity.length:Int) - 0).toNat+1) ⟨0,([]:List (List Int)),none,0,none,Obj.cells #[] 31,([]:List Hd),([]:Be),_,Au,BB.of ⟨Au,trivial⟩,AA.refl _ _,dC,E1,Gs.nil_,Rows.nil_,Au,U⟩ ?_ ?_
 rintro _ _ ⟨_,_,_,_,_,_,_,_,_,_,_,_,_,_,_,_,_,U⟩;exact DI U
 rintro i3 i4 eT g4 i5 ⟨bU,Z,Af,Cf,aL,aM,F,W,_,rfl,bX,a2,aZ,Rb,Ff,aN,bO,U⟩
 obtain⟨g5,dU,U⟩:=DJ U;unfold HD at U
 rw [bX.eq];clear bX
 have bY:=a2
 refine Aw<|Av<|A9<|By Au Au<|Ax<|Aw<|AF U Au (fun eU U=>?_) (fun eU U=>?_)
 refine AG<|Aw<|AC<|B7 (g0:=[]) (m:=8) (fl:=[]) (CQ aZ) Au (.inl Au) Au (by decide+kernel) ?_  -- 7
 refine Bc (Pt Y 1) (fun _ _ _ hi M=>AQ 1 B4 Au Db (M 4 Au) Au<|Gz hi)<|Bc (Value.slice Af F.length Cf) (fun _ _ _ hi M=>AP 1 Db (AA.nx hi).1 (M 25 Au) Au Au<|Gz hi)<|Bd (VD _ _ (vC (BG (AL .i64))) [4096]) (VD.stab _ _) (fun g6 i6 g aJ hi M=>?_) ?_
 refine Ay (Bm (cs:=[Iv 4096]) (parts:=[(0,.const (.int .i64 4096))]) Bl B6 hi (by decide) (by simp only [List.map,(show ev _ (.const (.int .i64 4096))=.int .i64 4096 from Au)];rfl) ?_)
 intro i7 i8 eV f9 eW
 obtain⟨eX,gA,gB⟩:=St.publish (q:=(AL .i64)) (i:=0) (o:=0) (c:=1) (xs:=[4096]) eW Au (show E0 (AL .i64) _ _ [Iv 4096] [4096] from⟨_,_,Au,AU (show Cx .i64 4096 from by decide),E0.nil⟩) (BQ Au) (BQ Au) (BQ Au)
 exact Bs.pub hi eX (AA.trans f9 gA) eV (show Vr.vd (vC (BG (AL .i64))) _ _ _ _ from Jy (B8 gB))
 refine Bc (Pt b1 0) (fun _ _ _ hi M=>AQ 0 B4 Au EX (M 2 Au) Au<|Gz hi)<|Bc (Sl Aa p.cells Ca) (fun _ _ _ hi M=>AP 3 EX (AA.nx hi).1 (M 28 Au) Au Au<|Gz hi)<|Bc (Iv (p.cells.length:Int)) (fun _ _ _ hi M=>AZ Try.underlying22 (M 29 Au)<|Gz hi) ?_
 obtain⟨I,eY,U⟩:=bd U
 have gC:=(dT.trans a2)
 replace Fa:=Fa.step gC
 refine Bd (Vn O ((aL,aM)::(some Y,Oc [Sl Aa p.cells Ca,Value.slice Af F.length Cf,Value.slice none 0 0] 26)::(some b6,Oc [Sl Ad r_.variables Cd,Sl Ae r_.places Ce] 34)::(some b1,Oc (BS p Aa Ca Ab Cb Ac Cc) 26)::W) 6 (AL .i64) 3 I) Vn.stab (fun g7 i9 g aJ hi M=>?_) ?_
 obtain⟨-,a3,-⟩:=aJ
 replace Fa:=Fa.step a3
 have gD:Vr.vd (vC (BG (AL .i64))) _ _ _ _:=M 27 Au
 obtain⟨Ag,Cg,gE,Fg⟩:=B9 gD
 refine Ay (Gi Try.call53 (Jh (O:=ks (DS g++((aL,aM)::(some Y,Oc [Sl Aa p.cells Ca,Value.slice Af F.length Cf,Value.slice none 0 0] 26)::(some b6,Oc [Sl Ad r_.variables Cd,Sl Ae r_.places Ce] 34)::(some b1,Oc (BS p Aa Ca Ab Cb Ac Cc) 26)::W)) O) (x_:=[4096]) (count:=(p.cells.length:Int)) hi.ltw Fg (AX Fa) eY) (by simp only [List.map,Array.toList,(show ev _ (.tmp 27)=_ from gE),(show ev _ (.tmp 30)=_ from(M 30 Au))]<;> rfl) ?_)
 rintro _ jA ⟨eZ,jB,jC,jD,jE,rfl,e0,gF⟩;exact GoesG.call hi eZ e0 gF
 refine Bd (Xa O ((aL,aM)::(some Y,Oc [Sl Aa p.cells Ca,Value.slice Af F.length Cf,Value.slice none 0 0] 26)::(some b6,Oc [Sl Ad r_.variables Cd,Sl Ae r_.places Ce] 34)::(some b1,Oc (BS p Aa Ca Ab Cb Ac Cc) 26)::W) 6 7 (AL .i64) 3 31 I) Xa.stab (fun g8 g9 g aJ hi M=>?_) ?_
 obtain⟨e1,e2,hA,hB,e3,dV,e4⟩:=M 31 Au
 refine Ay (Bm (cs:=[Sl e1 I e2]) (parts:=[(0,.tmp 31)]) Db Bl hi (by decide) (by simp only [List.map,(show ev _ (.tmp 31)=_ from e3)];rfl) ?_)
 intro hC hD dW e5 dX
 exact GoesG.hd dW e5 dX dV e4
 refine BD fun hE hF dY dZ=>?_
 obtain⟨-,c5,-⟩:=dY
 rintro _ ⟨hG,aO,aP,a0,a1,rfl,d0,d1,bA⟩ _ - _ rfl _ rfl _ rfl hH bZ
 replace bZ:Vr.vd (vC (BG (AL .i64))) _ _ _ _:=bZ
 obtain⟨Ah,Ch,rfl,Fh⟩:=B9 bZ
 rintro _ rfl _ rfl
 obtain⟨a4,b0⟩:=AA.nxK2 dZ d0 d1 (by decide)
 have dD:=aZ.to a4 (c5.trans b0)
 replace bA:=bA.step b0;replace Fh:=Fh.step b0;clear aZ
 obtain⟨d2,U⟩:=AE U
 have b2:(F.length+1)*24≤140737488355328:=by have h1:=d2;have h2:F.length=Z.length:=bO;omega
 replace Ff:=Ff.step dD
 refine A9 (FF (q:=QR) (i:=2) (xs:=F) (ys:=[((aO,I.length,aP):Hd)]) (news:=[Sl aO I aP]) Db Bl Au (by decide) a4 Au Au Ff Au (Oj.owned' (len:=1) (a4.get (i:=0) Au) Au) (show E0 QR _ _ [Sl aO I aP] [((aO,I.length,aP):Hd)] from⟨_,_,Au,Au,E0.nil⟩) b2 (show F.length+1≤maxLen from by have:=b2;simp only [maxLen];omega) ?_)
 intro b3 b4 bB bC bP dE bF b5
 clear a4
 have b7:=bF.drop 0
 have b8:=(bF.dropS 0)
 clear bF
 have e7:=(dE.trans b8)
 replace bA:=bA.step e7
 have dF:=(dD.trans (dE.trans b8))
 replace aN:=aN.step dF
 have aS:Rows (AL .i64) 3 bP (ks ((a0,a1)::(bB,bC)::(some Y,Oc [Sl Aa p.cells Ca,Value.slice Af F.length Cf,Value.slice none 0 0] 26)::(some b6,Oc [Sl Ad r_.variables Cd,Sl Ae r_.places Ce] 34)::(some b1,Oc (BS p Aa Ca Ab Cb Ac Cc) 26)::W) O) (F++[((aO,I.length,aP):Hd)]) (W++[(a0,a1)]) (Z++[I]):=Rows.append aN bA Au
 obtain⟨b9,cA⟩:St ⟨w,[],[]⟩ O bP ((bB,bC)::(some Y,Oc [Sl Aa p.cells Ca,Value.slice Af F.length Cf,Value.slice none 0 0] 26)::(some b6,Oc [Sl Ad r_.variables Cd,Sl Ae r_.places Ce] 34)::(some b1,Oc (BS p Aa Ca Ab Cb Ac Cc) 26)::(W++[(a0,a1)]))∧AA (ks ((a0,a1)::(bB,bC)::(some Y,Oc [Sl Aa p.cells Ca,Value.slice Af F.length Cf,Value.slice none 0 0] 26)::(some b6,Oc [Sl Ad r_.variables Cd,Sl Ae r_.places Ce] 34)::(some b1,Oc (BS p Aa Ca Ab Cb Ac Cc) 26)::W) O) bP (ks ((bB,bC)::(some Y,Oc [Sl Aa p.cells Ca,Value.slice Af F.length Cf,Value.slice none 0 0] 26)::(some b6,Oc [Sl Ad r_.variables Cd,Sl Ae r_.places Ce] 34)::(some b1,Oc (BS p Aa Ca Ab Cb Ac Cc) 26)::(W++[(a0,a1)])) O) bP:=St.toback (i:=0) b7 Au
 clear b7
 replace aS:=aS.step cA
 have d3:(F++[((aO,I.length,aP):Hd)]).length=(Z++[I]).length:=(Rows.lens aS).1
 refine A9<|AQ 1 B4 Au Db Au Au<|Bh<|KC (Value.slice b3 (F++[((aO,I.length,aP):Hd)]).length b4) (cs':=[Sl Aa p.cells Ca,Value.slice b3 (F++[((aO,I.length,aP):Hd)]).length b4,Value.slice none 0 0]) Ip.p1 Db b9 Au Au Au (BQ Au) Au Au ?_
 intro hJ cB d4
 clear b9
 refine Ax ?_
 clear Fh
 refine Av<|A9<|Bg Au Au<|Bb (Iv (wq (bU+1))) Au<|Ax ?_
 have e8:=(dF.trans (cA.trans cB))
 replace bY:=bY.trans e8
 replace b5:=b5.step (b8.trans (cA.trans cB));replace aS:=aS.step cB
 exact eT _ _ ⟨(wq (bU+1)),Z++[I],b3,b4,bB,bC,F++[((aO,I.length,aP):Hd)],W++[(a0,a1)],_,Au,BB.of ⟨Au,trivial⟩,bY,d4,(AT .i64 _),b5,aS,d3,GV dU U⟩
 refine Bq<|Aw<|Aw<|Av<|A9<|AQ 1 DT Au Eo Au Au<|A9<|AP 2 Eo aZ Au Au Au<|A9<|AZ Try.underlying32 Au ?_
 have dG:=(dT.trans a2)
 replace Fe:=Fe.step dG
 have gG:=AX Fe
 refine Bb (Iv 0) Au<|Ax<|AC<|Wr [] [(2,Pt b1 0),(3,Pt b6 0),(4,Pt Y 0),(37,Sl Ae r_.places Ce),(38,Iv (r_.places.length:Int)),(39,Iv 0)] fun gH=>Bf X8 (fun m fr w'=>∃(G:Int) (J:List (List Int)) (Ai:Option Addr) (Ci:Nat) (aF:Option Nat) (N:Obj) (A:List Hd) (aB:Be) (aI:Be),aI=((aF,N)::(some Y,Oc [Sl Aa p.cells Ca,Value.slice Ai A.length Ci,Value.slice none 0 0] 26)::(some b6,Oc [Sl Ad r_.variables Cd,Sl Ae r_.places Ce] 34)::(some b1,Oc (BS p Aa Ca Ab Cb Ac Cc) 26)::aB)∧fr [] [(39,Iv G)]∧aZ.S (ks aI O) w'∧St ⟨w,[],[]⟩ O w' aI∧Cx .i64 G∧Gs QR 31 w' (ks aI O) Ai Ci A aF N∧Rows (AL .i64) 3 w' (ks aI O) A aB J∧A.length=J.length∧BC (HC p r_) m G J=some x) (((r_.places.length:Int) - 0).toNat+1) ⟨0,Z,Af,Cf,aL,aM,F,W,_,Au,BB.of ⟨Au,trivial⟩,AA.refl _ _,aZ,E1,Ff,aN,bO,U⟩ ?_ ?_
 rintro _ _ ⟨_,_,_,_,_,_,_,_,_,_,_,_,_,_,_,_,_,U⟩;exact DI U
 rintro hK hL d5 gI hM ⟨G,J,Ai,Ci,aF,N,A,aB,_,rfl,bQ,aV,a5,Rc,Fi,aA,aE,U⟩
 obtain⟨gJ,c6,U⟩:=DJ U;unfold HC at U
 rw [bQ.eq];clear bQ
 have bG:=aV
 refine Aw ?_
 clear Ff aN
 refine Av<|A9<|By Au Au<|Ax<|Aw<|AF U Au (fun d6 U=>?_) (fun d6 U=>?_)
 refine AG<|Aw<|AC<|Aw<|Av ?_
 obtain⟨cC,U⟩:=AE U
 replace Fe:=Fe.step aV
 refine A9<|AB (q:=AO) Eo C5 Au Au Fe Au cC.1 cC.2 ?_
 intro hN dH
 refine A9<|BE C5 Au dH Au ?_
 intro gK e9
 obtain⟨_,_,rfl,⟨rfl,Rd⟩,⟨rfl,Re⟩⟩:=e9
 refine A9<|Bv C5 a5 ?_
 intro aQ hP _ dI cD
 clear a5
 refine Bh<|C6 .z C5 cD Au Au Au Au Au ?_
 intro hQ dJ bH
 clear cD
 refine Ax ?_
 clear dH
 refine B7 (g0:=[]) (m:=18) (fl:=[]) (CQ bH) Au (.inl Au) Au (by decide+kernel) ?_  -- 12
 refine Bc (Pt Y 1) (fun _ _ _ hi M=>AQ 1 B4 Au Db (M 4 Au) Au<|Gz hi)<|Bc (Value.slice Ai A.length Ci) (fun _ _ _ hi M=>AP 2 Db (AA.nx hi).1 (M 43 Au) Au Au<|Gz hi)<|Bc (Pt aQ 0) (fun _ _ _ hi M=>AQ 0 C5 Au B6 (M 7 Au) Au<|Gz hi)<|Bc (Iv ((r_.places.getD G.toNat default).leaf)) (fun _ _ _ hi M=>AP 0 B6 (AA.nx hi).1 (M 45 Au) Au Au<|Gz hi) ?_
 obtain⟨aT,U⟩:=AE U
 have dK:=(dI.trans dJ)
 replace Fi:=Fi.step dK
 obtain⟨aD,rfl,rfl⟩:=Fi.at_ (by have h1:A.length=J.length:=aE;omega)
 refine BN (Value.pointer (some ⟨aD,((r_.places.getD G.toNat default).leaf).toNat*1,none⟩)) (fun gL hR g aJ hi M=>?_) ?_
 obtain⟨-,a3,-⟩:=aJ
 replace Fi:=Fi.step a3
 refine Ay (BA Db Bl (M 44 Au) (M 46 Au) Fi ⟨aT.1,by have h1:A.length=J.length:=aE;have h2:=aT.2;omega⟩ ?_)
 rintro _ ⟨⟩ -
 exact Gz hi
 refine BN (Value.slice (A.getD ((r_.places.getD G.toNat default).leaf).toNat default).1 (A.getD ((r_.places.getD G.toNat default).leaf).toNat default).2.1 (A.getD ((r_.places.getD G.toNat default).leaf).toNat default).2.2) (fun gM hS g aJ hi M=>?_) ?_
 obtain⟨-,a3,-⟩:=aJ
 replace Fi:=Fi.step a3
 have gN:=(AA.nx hi).1
 refine Ay (F0 (p:=QR) (m:=(r_.places.getD G.toNat default).leaf) (i:=1) Bl Au gN Au (M 47 Au) Fi ⟨aT.1,by have h1:A.length=J.length:=aE;have h2:=aT.2;omega⟩ ?_)
 intro hT fA;obtain rfl:=Vm fA
 exact Gz hi
 refine Bc (Pt aQ 1) (fun _ _ _ hi M=>AQ 1 C5 Au B6 (M 7 Au) Au<|Gz hi)<|Bc (Iv ((r_.places.getD G.toNat default).cell)) (fun _ _ _ hi M=>AP 0 B6 (AA.nx hi).1 (M 49 Au) Au Au<|Gz hi)<|Bc (Pt b1 1) (fun _ _ _ hi M=>AQ 1 B4 Au Db (M 2 Au) Au<|Gz hi)<|Bc (Sl Ab p.capacity Cb) (fun _ _ _ hi M=>AP 4 Db (AA.nx hi).1 (M 51 Au) Au Au<|Gz hi)<|Bc (Pt aQ 0) (fun _ _ _ hi M=>AQ 0 C5 Au B6 (M 7 Au) Au<|Gz hi)<|Bc (Iv ((r_.places.getD G.toNat default).leaf)) (fun _ _ _ hi M=>AP 0 B6 (AA.nx hi).1 (M 53 Au) Au Au<|Gz hi) ?_
 obtain⟨cE,U⟩:=AE U
 replace Fb:=Fb.step (a2.trans (aV.trans (dI.trans dJ)))
 refine Bd (VP _ _ (BG (AL .i64)) (p.capacity.getD ((r_.places.getD G.toNat default).leaf).toNat default)) (VP.stab _ _) (fun gO hU g aJ hi M=>?_) ?_
 obtain⟨-,a3,-⟩:=aJ
 replace Fb:=Fb.step a3
 refine Ay<|AB (q:=BG (AL .i64)) Db Bl (M 52 Au) (M 54 Au) Fb Au cE.1 cE.2 ?_
 intro hV fB
 exact Bs.same hi ⟨_,Au,fB⟩
 refine Bd (VD _ _ (vC (BG (AL .i64))) (p.capacity.getD ((r_.places.getD G.toNat default).leaf).toNat default)) (VD.stab _ _) (fun gP hW g aJ hi M=>?_) ?_
 obtain⟨hX,fC,fD⟩:=M 55 Au
 refine Ay<|AR Bl fC fD Au ?_
 intro hY fE
 obtain⟨Aj,Cj,rfl,Fj⟩:=B9 fE
 exact Bs.same hi (show Vr.vd (vC (BG (AL .i64))) _ _ _ _ from(Jy (B8 Fj)))
 refine Bc (Pt aQ 1) (fun _ _ _ hi M=>AQ 1 C5 Au B6 (M 7 Au) Au<|Gz hi)<|Bc (Iv ((r_.places.getD G.toNat default).cell)) (fun _ _ _ hi M=>AP 0 B6 (AA.nx hi).1 (M 57 Au) Au Au<|Gz hi) ?_
 obtain⟨cF,U⟩:=AE U
 refine Bd (VP _ _ (AL .i64) ((p.capacity.getD ((r_.places.getD G.toNat default).leaf).toNat default).getD ((r_.places.getD G.toNat default).cell).toNat default)) (VP.stab _ _) (fun gQ hZ g aJ hi M=>?_) ?_
 have fF:Vr.vd (vC (BG (AL .i64))) _ _ _ _:=M 56 Au
 obtain⟨Ak,Ck,fG,Fk⟩:=B9 fF
 refine Ay<|AB (q:=(AL .i64)) Bl B6 fG (M 58 Au) Fk Au cF.1 cF.2 ?_
 intro h0 fH
 exact Bs.same hi ⟨_,Au,fH⟩
 refine Bd (VD _ _ (vI .i64) ((p.capacity.getD ((r_.places.getD G.toNat default).leaf).toNat default).getD ((r_.places.getD G.toNat default).cell).toNat default)) (VD.stab _ _) (fun gR h3 g aJ hi M=>?_) ?_
 obtain⟨h4,fI,fJ⟩:=M 59 Au
 refine Ay<|AR B6 fI fJ Au ?_
 intro h5 fK
 obtain⟨rfl,Rf⟩:=BK fK
 exact Bs.same hi (show Vr.vd (vI .i64) _ _ _ _ from⟨Au,Rf⟩)
 refine BD fun fL h6 d7 d8=>?_
 obtain⟨-,c7,-⟩:=d7
 obtain⟨bI,bR⟩:=AA.nx d8
 rintro h7 cG
 replace cG:Vr.vd (vI .i64) _ _ _ _:=cG
 obtain⟨rfl,Rg⟩:=cG
 rintro _ ⟨h8,rfl,cH⟩ _ rfl _ rfl h9 cI
 replace cI:Vr.vd (vC (BG (AL .i64))) _ _ _ _:=cI
 obtain⟨Al,Cl,rfl,Fl⟩:=B9 cI
 rintro _ ⟨iA,rfl,cJ⟩ _ rfl _ rfl _ rfl _ rfl _ rfl _ rfl _ rfl _ rfl _ rfl _ rfl _ rfl _ rfl
 have dL:=bH.to bI (c7.trans bR)
 replace cH:=cH.step bR;replace Fl:=Fl.step bR;replace cJ:=cJ.step bR;clear bH
 have dM:=(dK.trans dL)
 replace aA:=aA.step dM
 obtain⟨d9,eA,eB⟩:=aA.at_ (i:=((r_.places.getD G.toNat default).leaf).toNat) (by have:=aT;omega)
 obtain⟨bJ,U⟩:=AE U
 obtain⟨fM,cK⟩:=eB (by have:=bJ;omega)
 refine A9<|KF (H:=A.getD ((r_.places.getD G.toNat default).leaf).toNat default) (row:=J.getD ((r_.places.getD G.toNat default).leaf).toNat default) (bl:=fM) Bl B6 Au Au cK eA bJ ?_
 refine Bh (Nb (bs:=[(some aQ,Oc [Iv ((r_.places.getD G.toNat default).leaf),Iv ((r_.places.getD G.toNat default).cell)] 45),(some aD,N),(some Y,Oc [Sl Aa p.cells Ca,Value.slice (some ⟨aD,0,none⟩) A.length Ci,Value.slice none 0 0] 26),(some b6,Oc [Sl Ad r_.variables Cd,Sl Ae r_.places Ce] 34),(some b1,Oc (BS p Aa Ca Ab Cb Ac Cc) 26)]) (R:=aB) (vs:=[Iv ((p.capacity.getD ((r_.places.getD G.toNat default).leaf).toNat default).getD ((r_.places.getD G.toNat default).cell).toNat default)]) (m:=(r_.places.getD G.toNat default).cell) (i:=((r_.places.getD G.toNat default).leaf).toNat) (hd:=A.getD ((r_.places.getD G.toNat default).leaf).toNat default) B6 Au bI aA (by have:=aT;omega) d9 cK Au Au Au bJ (AU Rg) ?_)
 intro cL bD bS aW aU
 replace aW:St ⟨w,[],[]⟩ O cL ((some aQ,Oc [Iv ((r_.places.getD G.toNat default).leaf),Iv ((r_.places.getD G.toNat default).cell)] 45)::(some aD,N)::(some Y,Oc [Sl Aa p.cells Ca,Value.slice (some ⟨aD,0,none⟩) A.length Ci,Value.slice none 0 0] 26)::(some b6,Oc [Sl Ad r_.variables Cd,Sl Ae r_.places Ce] 34)::(some b1,Oc (BS p Aa Ca Ab Cb Ac Cc) 26)::bD):=aW
 replace bS:AA (ks ((some aQ,Oc [Iv ((r_.places.getD G.toNat default).leaf),Iv ((r_.places.getD G.toNat default).cell)] 45)::(some aD,N)::(some Y,Oc [Sl Aa p.cells Ca,Value.slice (some ⟨aD,0,none⟩) A.length Ci,Value.slice none 0 0] 26)::(some b6,Oc [Sl Ad r_.variables Cd,Sl Ae r_.places Ce] 34)::(some b1,Oc (BS p Aa Ca Ab Cb Ac Cc) 26)::aB) O) fL (ks ((some aQ,Oc [Iv ((r_.places.getD G.toNat default).leaf),Iv ((r_.places.getD G.toNat default).cell)] 45)::(some aD,N)::(some Y,Oc [Sl Aa p.cells Ca,Value.slice (some ⟨aD,0,none⟩) A.length Ci,Value.slice none 0 0] 26)::(some b6,Oc [Sl Ad r_.variables Cd,Sl Ae r_.places Ce] 34)::(some b1,Oc (BS p Aa Ca Ab Cb Ac Cc) 26)::bD) O) cL:=bS
 replace aU:Rows (AL .i64) 3 cL (ks ((some aQ,Oc [Iv ((r_.places.getD G.toNat default).leaf),Iv ((r_.places.getD G.toNat default).cell)] 45)::(some aD,N)::(some Y,Oc [Sl Aa p.cells Ca,Value.slice (some ⟨aD,0,none⟩) A.length Ci,Value.slice none 0 0] 26)::(some b6,Oc [Sl Ad r_.variables Cd,Sl Ae r_.places Ce] 34)::(some b1,Oc (BS p Aa Ca Ab Cb Ac Cc) 26)::bD) O) A bD (J.set ((r_.places.getD G.toNat default).leaf).toNat ((J.getD ((r_.places.getD G.toNat default).leaf).toNat default).set ((r_.places.getD G.toNat default).cell).toNat ((p.capacity.getD ((r_.places.getD G.toNat default).leaf).toNat default).getD ((r_.places.getD G.toNat default).cell).toNat default))):=aU
 clear bI
 have eC:A.length=(J.set ((r_.places.getD G.toNat default).leaf).toNat ((J.getD ((r_.places.getD G.toNat default).leaf).toNat default).set ((r_.places.getD G.toNat default).cell).toNat ((p.capacity.getD ((r_.places.getD G.toNat default).leaf).toNat default).getD ((r_.places.getD G.toNat default).cell).toNat default))).length:=(Rows.lens aU).1
 have gS:A.length=(J.set ((r_.places.getD G.toNat default).leaf).toNat ((J.getD ((r_.places.getD G.toNat default).leaf).toNat default).set ((r_.places.getD G.toNat default).cell).toNat ((p.capacity.getD ((r_.places.getD G.toNat default).leaf).toNat default).getD ((r_.places.getD G.toNat default).cell).toNat default))).length:=by have h1:A.length=J.length:=aE;rw [List.length_set];exact h1
 refine Ax ?_
 clear cH Fl cJ
 refine Av<|A9<|Bg Au Au<|Bb (Iv (wq (G+1))) Au<|Ax ?_
 have eD:=aW.drop 0
 have cM:=(aW.dropS 0)
 clear aW
 have fN:=(dM.trans (bS.trans cM))
 replace bG:=bG.trans fN;replace aU:=aU.step cM
 have fO:=(dL.trans (bS.trans cM))
 replace Fi:=Fi.step fO
 exact d5 _ _ ⟨(wq (G+1)),J.set ((r_.places.getD G.toNat default).leaf).toNat ((J.getD ((r_.places.getD G.toNat default).leaf).toNat default).set ((r_.places.getD G.toNat default).cell).toNat ((p.capacity.getD ((r_.places.getD G.toNat default).leaf).toNat default).getD ((r_.places.getD G.toNat default).cell).toNat default)),some ⟨aD,0,none⟩,Ci,some aD,N,A,bD,_,Au,BB.of ⟨Au,trivial⟩,bG,eD,(AT .i64 _),Fi,aU,eC,GV c6 U⟩
 refine Bq<|Aw<|Aw<|Av<|A9<|AQ 0 DT Au Bl Au Au<|A9<|AP 2 Bl a5 Au Au Au<|A9<|AZ Try.underlying31 Au ?_
 have cN:=(dG.trans aV)
 replace Fd:=Fd.step cN
 have gT:=AX Fd
 refine Bb (Iv 0) Au<|Ax<|AC<|Wr [] [(2,Pt b1 0),(4,Pt Y 0),(64,Sl Ad r_.variables Cd),(65,Iv (r_.variables.length:Int)),(66,Iv 0)] fun gU=>?_
 have cO:=a5.ghost (Obj.cells #[] 61)
 refine Bf X9 (fun m fr w'=>∃(X:Int) (aK:List AM) (Am:Option Addr) (Cm:Nat) (aG:Option Nat) (aH:Obj) (aI:Be),aI=((aG,aH)::(aF,N)::(some Y,Oc [Sl Aa p.cells Ca,Value.slice Ai A.length Ci,Sl Am aK Cm] 26)::(some b6,Oc [Sl Ad r_.variables Cd,Sl Ae r_.places Ce] 34)::(some b1,Oc (BS p Aa Ca Ab Cb Ac Cc) 26)::aB)∧fr [] [(66,Iv X)]∧cO.S (ks aI O) w'∧St ⟨w,[],[]⟩ O w' aI∧Cx .i64 X∧Gs AS 61 w' (ks aI O) Am Cm aK aG aH∧BC (HB p r_ J) m X aK=some x) (((r_.variables.length:Int) - 0).toNat+1) ⟨0,([]:List AM),none,0,none,Obj.cells #[] 61,_,Au,BB.of ⟨Au,trivial⟩,AA.refl _ _,cO,E1,Gs.nil_,U⟩ ?_ ?_
 rintro _ _ ⟨_,_,_,_,_,_,_,_,_,_,_,_,_,U⟩;exact DI U
 rintro iB iC eE gV iD ⟨X,aK,Am,Cm,aG,aH,_,rfl,bT,aR,aX,Rh,Fm,U⟩
 obtain⟨gW,c8,U⟩:=DJ U;unfold HB at U
 rw [bT.eq];clear bT
 have bK:=aR
 refine Aw<|Av<|A9<|By Au Au<|Ax<|Aw<|AF U Au (fun eF U=>?_) (fun eF U=>?_)
 refine AG<|Aw<|AC<|Aw<|Av ?_
 obtain⟨cP,U⟩:=AE U
 replace Fd:=Fd.step aR
 refine A9<|AB (q:=(AL .i64)) Bl B6 Au Au Fd Au cP.1 cP.2 ?_
 intro iE dN
 refine A9<|AR B6 Au dN Au ?_
 intro iF fP
 obtain⟨rfl,Ri⟩:=BK fP
 refine Bn (Iv (r_.variables.getD X.toNat default)) Au<|Ax ?_
 clear dN
 refine B7 (g0:=[]) (m:=8) (fl:=[]) (CQ aX) Au (.inl Au) Au (by decide+kernel) ?_  -- 17
 refine Bc (Pt Y 2) (fun _ _ _ hi M=>AQ 2 B4 Au Cz (M 4 Au) Au<|Gz hi)<|Bc (Sl Am aK Cm) (fun _ _ _ hi M=>AP 2 Cz (AA.nx hi).1 (M 70 Au) Au Au<|Gz hi)<|Bc (Pt b1 2) (fun _ _ _ hi M=>AQ 2 B4 Au Cz (M 2 Au) Au<|Gz hi)<|Bc (Sl Ac p.variables Cc) (fun _ _ _ hi M=>AP 4 Cz (AA.nx hi).1 (M 72 Au) Au Au<|Gz hi)<|Bc (Iv (r_.variables.getD X.toNat default)) (fun _ _ _ hi M=>AD (v:=Iv (r_.variables.getD X.toNat default)) (M 9 Au)<|Gz hi) ?_
 obtain⟨cQ,U⟩:=AE U
 have fQ:=(cN.trans aR)
 replace Fc:=Fc.step fQ
 refine Bd (VP _ _ AS (p.variables.getD (r_.variables.getD X.toNat default).toNat default)) (VP.stab _ _) (fun gX iG g aJ hi M=>?_) ?_
 obtain⟨-,a3,-⟩:=aJ
 replace Fc:=Fc.step a3
 refine Ay<|AB (q:=AS) Cz Dq (M 73 Au) (M 74 Au) Fc Au cQ.1 cQ.2 ?_
 intro iH fR
 exact Bs.same hi ⟨_,Au,fR⟩
 refine Bd (VD _ _ (vA AS) (p.variables.getD (r_.variables.getD X.toNat default).toNat default)) (VD.stab _ _) (fun gY iI g aJ hi M=>?_) ?_
 obtain⟨iJ,fS,fT⟩:=M 75 Au
 refine Ay<|BE Dq fS fT Au ?_
 intro gZ fU
 obtain⟨_,_,rfl,⟨rfl,Rj⟩,⟨_,_,rfl,⟨rfl,Rk⟩,⟨_,_,rfl,⟨An,Cn,rfl,Fn⟩,⟨Ao,Co,rfl,Fo⟩⟩⟩⟩:=fU
 exact Bs.same hi (show Vr.vd (vA AS) _ _ _ _ from(JX (C2 (AW (AU Rj) (AW (AU Rk) (AW (B8 Fn) (B8 Fo)))))))
 refine Bd (VD _ _ (vC (BG AS)) [p.variables.getD (r_.variables.getD X.toNat default).toNat default]) (VD.stab _ _) (fun g1 iK g aJ hi M=>?_) ?_
 have fV:Vr.vd (vA AS) _ _ _ _:=M 76 Au
 obtain⟨_,fW,⟨_,_,rfl,⟨rfl,Rl⟩,⟨_,_,rfl,⟨rfl,Rm⟩,⟨_,_,rfl,⟨Ap,Cp,rfl,Fp⟩,⟨Aq,Cq,rfl,Fq⟩⟩⟩⟩⟩:=fV
 refine Ay (Bm (cs:=[Iv ((p.variables.getD (r_.variables.getD X.toNat default).toNat default).flight),Iv ((p.variables.getD (r_.variables.getD X.toNat default).toNat default).node),Sl Ap ((p.variables.getD (r_.variables.getD X.toNat default).toNat default).leaves) Cp,Sl Aq ((p.variables.getD (r_.variables.getD X.toNat default).toNat default).choices) Cq]) (parts:=[(0,.tmp 76)]) Cz Dq hi (by decide) (by simp only [List.map,(show ev _ (.tmp 76)=_ from fW)];rfl) ?_)
 intro iL iM eG cR eH
 replace Fq:=Fq.step cR;replace Fp:=Fp.step cR
 obtain⟨eI,fX,fY⟩:=St.publish (q:=AS) (i:=0) (o:=0) (c:=1) (xs:=[p.variables.getD (r_.variables.getD X.toNat default).toNat default]) eH Au (show E0 AS _ _ [Iv ((p.variables.getD (r_.variables.getD X.toNat default).toNat default).flight),Iv ((p.variables.getD (r_.variables.getD X.toNat default).toNat default).node),Sl Ap ((p.variables.getD (r_.variables.getD X.toNat default).toNat default).leaves) Cp,Sl Aq ((p.variables.getD (r_.variables.getD X.toNat default).toNat default).choices) Cq] [p.variables.getD (r_.variables.getD X.toNat default).toNat default] from⟨_,_,Au,C2 (AW (AU Rl) (AW (AU Rm) (AW (B8 Fp) (B8 Fq)))),E0.nil⟩) (BQ Au) (BQ Au) (BQ Au)
 exact Bs.pub hi eI (AA.trans cR fX) eG (show Vr.vd (vC (BG AS)) _ _ _ _ from Jy (B8 fY))
 refine BD fun iN iO eJ eK=>?_
 obtain⟨-,c9,-⟩:=eJ
 obtain⟨bL,bE⟩:=AA.nx eK
 rintro iP cS
 replace cS:Vr.vd (vC (BG AS)) _ _ _ _:=cS
 obtain⟨Ar,Cr,rfl,Fr⟩:=B9 cS
 rintro iQ cT
 replace cT:Vr.vd (vA AS) _ _ _ _:=cT
 obtain⟨_,rfl,⟨_,_,rfl,⟨rfl,Rn⟩,⟨_,_,rfl,⟨rfl,Ro⟩,⟨_,_,rfl,⟨As,Cs,rfl,Fs⟩,⟨At,Ct,rfl,Ft⟩⟩⟩⟩⟩:=cT
 rintro _ ⟨iR,rfl,cU⟩ _ rfl _ rfl _ rfl _ rfl _ rfl
 have dO:=aX.to bL (c9.trans bE)
 replace Fr:=Fr.step bE;replace Fs:=Fs.step bE;replace Ft:=Ft.step bE;replace cU:=cU.step bE;clear aX
 obtain⟨cV,U⟩:=AE U
 obtain⟨eL,eM,eN⟩:=Fr.src
 replace Fm:=Fm.step dO
 refine A9 (FF (q:=AS) (i:=0) (xs:=aK) (ys:=[p.variables.getD (r_.variables.getD X.toNat default).toNat default]) (news:=eL) Cz Dq Au (by decide) bL Au Au Fm Au eN eM cV (by have:=cV;simp only [maxLen];omega) ?_)
 intro cW cX fZ f0 iS f1 cY cZ
 clear bL
 refine A9<|AQ 2 B4 Au Cz Au Au<|Bh<|KC (Sl cW (aK++[p.variables.getD (r_.variables.getD X.toNat default).toNat default]) cX) (cs':=[Sl Aa p.cells Ca,Value.slice Ai A.length Ci,Sl cW (aK++[p.variables.getD (r_.variables.getD X.toNat default).toNat default]) cX]) Ip.p2 Cz cY Au Au Au (BQ Au) Au Au ?_
 intro iT dP eO
 clear cY
 refine Ax ?_
 clear Fr Fs Ft cU
 refine Av<|A9<|Bg Au Au<|Bb (Iv (wq (X+1))) Au<|Ax ?_
 have f2:=(dO.trans (f1.trans dP))
 replace bK:=bK.trans f2;replace cZ:=cZ.step dP
 exact eE _ _ ⟨(wq (X+1)),aK++[p.variables.getD (r_.variables.getD X.toNat default).toNat default],cW,cX,fZ,f0,_,Au,BB.of ⟨Au,trivial⟩,bK,eO,(AT .i64 _),cZ,GV c8 U⟩
 refine Bq<|Aw ?_
 obtain⟨bM,c0⟩:=aX.sub (bs':=(aG,aH)::(aF,N)::(some Y,Oc [Sl Aa p.cells Ca,Value.slice Ai A.length Ci,Sl Am aK Cm] 26)::aB) (.cons_cons _ (.cons_cons _ (.cons_cons _ (.cons _ (.cons _ (List.Sublist.refl _))))))
 clear Fb Fc Fd Fe
 clear aX
 refine Av<|A9<|B1 2 B4 bM Au Au Au<|Bh<|C6 Ip.p2 B4 bM Au Au Au Au Au ?_
 intro f3 c1 c2
 clear bM
 refine Bn (Iv 0) Au<|Ax<|AV ?_
 have dQ:=(aR.trans (c0.trans c1))
 replace aA:=aA.step dQ;replace Fi:=Fi.step dQ
 obtain⟨a6,dR,c3⟩:=Rows.publish (bs:=[(aG,aH),(aF,N),(some Y,Oc [Sl Aa p.cells Ca,Value.slice Ai A.length Ci,Sl Am aK Cm] 26)]) (R:=aB) (j:=1) c2 aA Au Fi
 replace a6:St _ O f3 [(aG,aH),(some Y,Oc [Sl Aa p.cells Ca,Value.slice Ai A.length Ci,Sl Am aK Cm] 26)]:=a6
 clear c2
 have f4:=(c0.trans (c1.trans dR))
 replace Fm:=Fm.step f4
 obtain⟨bN,dS,c4⟩:=Gs.publish (i:=0) a6 Au Fm
 clear a6
 have hz:=G5 bN
 refine⟨_,DX,[Value.agg [Sl Aa p.cells Ca,Value.slice Ai A.length Ci,Sl Am aK Cm].toArray,Iv 0],⟨Qc (cs:=[Sl Aa p.cells Ca,Value.slice Ai A.length Ci,Sl Am aK Cm]) (vs:=[Sl Aa p.cells Ca,Value.slice Ai A.length Ci,Sl Am aK Cm]) B4 (i:=0) bN Au Au Au Au,Au,trivial⟩,bN.ext,?_⟩
 replace c3:=c3.step (dS.trans hz);replace c4:=c4.step hz
 replace Fa:=Fa.step (cN.trans (aR.trans (c0.trans (c1.trans (dR.trans (dS.trans hz))))))
 exact Vr.eq (a:=Ns (vA FY) (vI .i64)) (x:=((⟨p.cells,J,aK⟩:A8),0)) (Ly (JX (C2 (AW (B8 Fa) (AW (VU aE c3) (B8 c4))))) ⟨Au,E1⟩) (oi U)

abbrev XA:List Nat:=[4,5,23,24,25,26,27,28,29,30,31,32,33,34,35,36,37,38,39,40]

abbrev XB:List Nat:=[4,6,41,42,43,44,45,46,47,48,49,50,51,52,53,54,55,56,57,58]

abbrev XC:List Nat:=[7,8,9,10,11,12,13,14,15,16,17,18,19,20,21,22]

def Gn (a:Ba) (b:Ba) (F:Int→Option Bool) (A:Int):Option Bool:=
 bif (decide (A<(a.places.length:Int))) then
  ck ((0:Int)≤A∧A<(a.places.length:Int))<|
  ck ((0:Int)≤A∧A<(b.places.length:Int))<|
  bif (!(decide ((a.places.getD A.toNat default)=(b.places.getD A.toNat default)))) then
   some false
  else
   F (IntKind.wrap .i64 (A+1))
 else
  some true

def Gp (a:Ba) (b:Ba) (F:Int→Option Bool) (A:Int):Option Bool:=
 bif (decide (A<(a.variables.length:Int))) then
  ck ((0:Int)≤A∧A<(a.variables.length:Int))<|
  ck ((0:Int)≤A∧A<(b.variables.length:Int))<|
  bif (decide ((a.variables.getD A.toNat default)≠(b.variables.getD A.toNat default))) then
   some false
  else
   F (IntKind.wrap .i64 (A+1))
 else
  B0 (Gn a b) (((a.places.length:Int) - 0).toNat+1) 0

def GD (a:Ba) (b:Ba):Option Bool:=
 jn (fun(F:Bool)=>
  bif F then
   some false
  else
   B0 (Gp a b) (((a.variables.length:Int) - 0).toNat+1) 0)
 (fun A=>
  bif (decide ((a.variables.length:Int)≠(b.variables.length:Int))) then
   A true
  else
   A (decide ((a.places.length:Int)≠(b.places.length:Int))))

theorem J6 {w:World} {O:List Nat} {a:Ba} {b:Ba} {Aa:Option Addr} {Ca:Nat} {Ab:Option Addr} {Cb:Nat} {Ac:Option Addr} {Cc:Nat} {Ad:Option Addr} {Cd:Nat} (hO:∀k∈O,k<w.heap.size) (Fa:CA (AL .i64) w O Aa Ca a.variables) (Fb:CA AO w O Ab Cb a.places) (Fc:CA (AL .i64) w O Ac Cc b.variables) (Fd:CA AO w O Ad Cd b.places) {x:Bool} (A:GD a b=some x):
 Ok Try.prog 27 [Value.agg [Sl Aa a.variables Ca,Sl Ab a.places Cb].toArray,Value.agg [Sl Ac b.variables Cc,Sl Ad b.places Cd].toArray] w O vB x:=by
 unfold GD at A
 refine Br (n:=59) (xs:=[.tmp 4]) Try.func27 Au Try.ntmps27 Try.results27 Au ?_
 have hs:=St.start hO
 refine Aw<|Av<|A9<|BT (cs:=[Sl Aa a.variables Ca,Sl Ab a.places Cb]) hs Au Au ?_
 intro b1 w2 _ p3 bH
 refine A9<|BT (cs:=[Sl Ac b.variables Cc,Sl Ad b.places Cd]) bH Au Au ?_
 intro b6 w7 _ p8 W
 clear bH
 refine Bn (Bo false) Au<|Ax<|Aw<|Wr [] [(2,Pt b1 0),(3,Pt b6 0)] fun cQ=>?_
 obtain⟨bZ,bI,A⟩:=Cy A
 refine CE XC (fun fr w'=>∃(a2:Bool) (M:Be),M=[(some b6,Oc [Sl Ac b.variables Cc,Sl Ad b.places Cd] 34),(some b1,Oc [Sl Aa a.variables Ca,Sl Ab a.places Cb] 34)]∧fr [] [(22,Bo a2)]∧W.S (ks M O) w'∧St ⟨w,[],[]⟩ O w' M∧bZ a2=some x) ?_ ?_
 rintro cR dL ⟨a2,_,rfl,aI,a3,aA,A⟩
 replace A:=Dc bI A
 rw [aI.eq];clear aI
 refine AF A Au (fun bJ A=>?_) (fun bJ A=>?_)
 refine Aw ?_
 obtain⟨bK,dM⟩:=aA.sub (bs':=[]) (.cons _ (.cons _ List.Sublist.slnil))
 clear Fa Fb Fc Fd
 clear aA
 refine Av<|Bn (Bo false) Au<|Ax<|AV<|⟨_,DX,[Bo false],⟨Au,trivial⟩,bK.ext,?_⟩
 exact Vr.eq (a:=vB) (x:=false) Au (oi A)
 refine AG<|Aw<|Aw<|Av<|Bn (Iv 0) Au<|Ax<|AC<|Wr [] [(2,Pt b1 0),(3,Pt b6 0),(5,Iv 0)] fun cS=>Bf XA (fun m fr w'=>∃(I:Int) (M:Be),M=[(some b6,Oc [Sl Ac b.variables Cc,Sl Ad b.places Cd] 34),(some b1,Oc [Sl Aa a.variables Ca,Sl Ab a.places Cb] 34)]∧fr [] [(5,Iv I)]∧aA.S (ks M O) w'∧St ⟨w,[],[]⟩ O w' M∧Cx .i64 I∧B0 (Gp a b) m I=some x) (((a.variables.length:Int) - 0).toNat+1) ⟨0,_,Au,BB.of ⟨Au,trivial⟩,AA.refl _ _,aA,E1,A⟩ ?_ ?_
 rintro _ _ ⟨_,_,_,_,_,_,_,A⟩;exact CF A
 rintro dN dO bL cT dP ⟨I,_,rfl,aJ,aK,U,Ra,A⟩
 obtain⟨cU,a4,A⟩:=CG A;unfold Gp at A
 rw [aJ.eq];clear aJ
 have aL:=aK
 refine Aw<|Aw<|Av<|Bb (Iv I) Au<|A9<|AQ 0 DT Au Bl Au Au<|A9<|AP 1 Bl U Au Au Au<|A9<|AZ Try.underlying31 Au ?_
 have a5:=(p3.trans (p8.trans (a3.trans aK)))
 replace Fa:=Fa.step a5
 have cV:=AX Fa
 refine A9<|By Au Au<|Ax<|AF A Au (fun bM A=>?_) (fun bM A=>?_)
 refine AG<|Aw<|AC<|Aw<|B7 (g0:=[]) (m:=10) (fl:=[]) (CQ U) Au (.inl Au) Au (by decide+kernel) ?_  -- 6
 refine Bc (Pt b1 0) (fun _ _ _ hi F=>AQ 0 DT Au Bl (F 2 Au) Au<|Gz hi)<|Bc (Sl Aa a.variables Ca) (fun _ _ _ hi F=>AP 1 Bl (AA.nx hi).1 (F 30 Au) Au Au<|Gz hi)<|Bc (Iv I) (fun _ _ _ hi F=>AD (v:=Iv I) (F 5 Au)<|Gz hi) ?_
 obtain⟨aY,A⟩:=AE A
 refine Bd (VP _ _ (AL .i64) (gt a.variables I)) (VP.stab _ _) (fun cW dQ g N hi F=>?_) ?_
 obtain⟨-,X,-⟩:=N
 replace Fa:=Fa.step X
 refine Ay<|AB (q:=(AL .i64)) Bl B6 (F 31 Au) (F 32 Au) Fa Au aY.1 aY.2 ?_
 intro dR b0
 exact Bs.same hi ⟨_,Au,b0⟩
 refine Bd (VD _ _ (vI .i64) (gt a.variables I)) (VD.stab _ _) (fun cX dS g N hi F=>?_) ?_
 obtain⟨dT,b2,b3⟩:=F 33 Au
 refine Ay<|AR B6 b2 b3 Au ?_
 intro dU b4
 obtain⟨rfl,Rb⟩:=BK b4
 exact Bs.same hi (show Vr.vd (vI .i64) _ _ _ _ from⟨Au,Rb⟩)
 refine Bc (Pt b6 0) (fun _ _ _ hi F=>AQ 0 DT Au Bl (F 3 Au) Au<|Gz hi)<|Bc (Sl Ac b.variables Cc) (fun _ _ _ hi F=>AP 0 Bl (AA.nx hi).1 (F 35 Au) Au Au<|Gz hi)<|Bc (Iv I) (fun _ _ _ hi F=>AD (v:=Iv I) (F 5 Au)<|Gz hi) ?_
 obtain⟨aZ,A⟩:=AE A
 replace Fc:=Fc.step a5
 refine Bd (VP _ _ (AL .i64) (gt b.variables I)) (VP.stab _ _) (fun cY dV g N hi F=>?_) ?_
 obtain⟨-,X,-⟩:=N
 replace Fc:=Fc.step X
 refine Ay<|AB (q:=(AL .i64)) Bl B6 (F 36 Au) (F 37 Au) Fc Au aZ.1 aZ.2 ?_
 intro dW b5
 exact Bs.same hi ⟨_,Au,b5⟩
 refine Bd (VD _ _ (vI .i64) (gt b.variables I)) (VD.stab _ _) (fun cZ dX g N hi F=>?_) ?_
 obtain⟨dY,b7,b8⟩:=F 38 Au
 refine Ay<|AR B6 b7 b8 Au ?_
 intro dZ b9
 obtain⟨rfl,Rc⟩:=BK b9
 exact Bs.same hi (show Vr.vd (vI .i64) _ _ _ _ from⟨Au,Rc⟩)
 refine BD fun d0 d1 bN bO=>?_
 obtain⟨-,a6,-⟩:=bN
 obtain⟨aM,a7⟩:=AA.nx bO
 rintro d2 a8
 replace a8:Vr.vd (vI .i64) _ _ _ _:=a8
 obtain⟨rfl,Rd⟩:=a8
 rintro _ ⟨c0,rfl,aB⟩ _ rfl _ rfl _ rfl c1 aN
 replace aN:Vr.vd (vI .i64) _ _ _ _:=aN
 obtain⟨rfl,Re⟩:=aN
 rintro _ ⟨c2,rfl,aC⟩ _ rfl _ rfl _ rfl
 have bP:=U.to aM (a6.trans a7)
 replace aB:=aB.step a7;replace aC:=aC.step a7;clear U
 refine A9<|Eh Au Au<|Ax<|AF A Au (fun a9 A=>?_) (fun a9 A=>?_)
 refine Aw ?_
 clear aB aC
 refine Av<|Bn (Bo false) Au<|Ax<|AV<|⟨_,DX,[Bo false],⟨Au,trivial⟩,aM.ext,?_⟩
 exact Vr.eq (a:=vB) (x:=false) Au (oi A)
 refine AG ?_
 clear aB aC
 refine Av<|Bb (Iv I) Au<|A9<|Bg Au Au<|Bn (Iv (wq (I+1))) Au<|Ax ?_
 replace aL:=aL.trans bP
 exact bL _ _ ⟨(wq (I+1)),_,Au,BB.of ⟨Au,trivial⟩,aL,aM,(AT .i64 _),Dc a4 A⟩
 refine Bq<|Aw<|Aw<|Av<|Bn (Iv 0) Au<|Ax<|AC<|Wr [] [(2,Pt b1 0),(3,Pt b6 0),(6,Iv 0)] fun cA=>Bf XB (fun m fr w'=>∃(G:Int) (M:Be),M=[(some b6,Oc [Sl Ac b.variables Cc,Sl Ad b.places Cd] 34),(some b1,Oc [Sl Aa a.variables Ca,Sl Ab a.places Cb] 34)]∧fr [] [(6,Iv G)]∧U.S (ks M O) w'∧St ⟨w,[],[]⟩ O w' M∧Cx .i64 G∧B0 (Gn a b) m G=some x) (((a.places.length:Int) - 0).toNat+1) ⟨0,_,Au,BB.of ⟨Au,trivial⟩,AA.refl _ _,U,E1,A⟩ ?_ ?_
 rintro _ _ ⟨_,_,_,_,_,_,_,A⟩;exact CF A
 rintro c3 c4 bA cB c5 ⟨G,_,rfl,aD,aE,J,Rf,A⟩
 obtain⟨cC,aU,A⟩:=CG A;unfold Gn at A
 rw [aD.eq];clear aD
 have Y:=aE
 refine Aw<|Aw<|Av<|Bb (Iv G) Au<|A9<|AQ 1 DT Au Eo Au Au<|A9<|AP 1 Eo J Au Au Au<|A9<|AZ Try.underlying32 Au ?_
 have a0:=(a5.trans aE)
 replace Fb:=Fb.step a0
 have cD:=AX Fb
 refine A9<|By Au Au<|Ax<|AF A Au (fun bB A=>?_) (fun bB A=>?_)
 refine AG<|Aw<|AC<|Aw<|B7 (g0:=[]) (m:=10) (fl:=[]) (CQ J) Au (.inl Au) Au (by decide+kernel) ?_  -- 11
 refine Bc (Pt b1 1) (fun _ _ _ hi F=>AQ 1 DT Au Eo (F 2 Au) Au<|Gz hi)<|Bc (Sl Ab a.places Cb) (fun _ _ _ hi F=>AP 1 Eo (AA.nx hi).1 (F 48 Au) Au Au<|Gz hi)<|Bc (Iv G) (fun _ _ _ hi F=>AD (v:=Iv G) (F 6 Au)<|Gz hi) ?_
 obtain⟨aO,A⟩:=AE A
 refine Bd (VP _ _ AO (gt a.places G)) (VP.stab _ _) (fun cE c6 g N hi F=>?_) ?_
 obtain⟨-,X,-⟩:=N
 replace Fb:=Fb.step X
 refine Ay<|AB (q:=AO) Eo C5 (F 49 Au) (F 50 Au) Fb Au aO.1 aO.2 ?_
 intro c7 bQ
 exact Bs.same hi ⟨_,Au,bQ⟩
 refine Bd (VD _ _ (vA AO) (gt a.places G)) (VD.stab _ _) (fun cF c8 g N hi F=>?_) ?_
 obtain⟨c9,bR,bS⟩:=F 51 Au
 refine Ay<|BE C5 bR bS Au ?_
 intro cG bT
 obtain⟨_,_,rfl,⟨rfl,Rg⟩,⟨rfl,Rh⟩⟩:=bT
 exact Bs.same hi (show Vr.vd (vA AO) _ _ _ _ from(JX (C2 (AW (AU Rg) (AU Rh)))))
 refine Bc (Pt b6 1) (fun _ _ _ hi F=>AQ 1 DT Au Eo (F 3 Au) Au<|Gz hi)<|Bc (Sl Ad b.places Cd) (fun _ _ _ hi F=>AP 0 Eo (AA.nx hi).1 (F 53 Au) Au Au<|Gz hi)<|Bc (Iv G) (fun _ _ _ hi F=>AD (v:=Iv G) (F 6 Au)<|Gz hi) ?_
 obtain⟨aP,A⟩:=AE A
 replace Fd:=Fd.step a0
 refine Bd (VP _ _ AO (gt b.places G)) (VP.stab _ _) (fun cH dA g N hi F=>?_) ?_
 obtain⟨-,X,-⟩:=N
 replace Fd:=Fd.step X
 refine Ay<|AB (q:=AO) Eo C5 (F 54 Au) (F 55 Au) Fd Au aP.1 aP.2 ?_
 intro dB bU
 exact Bs.same hi ⟨_,Au,bU⟩
 refine Bd (VD _ _ (vA AO) (gt b.places G)) (VD.stab _ _) (fun cI dC g N hi F=>?_) ?_
 obtain⟨dD,bV,bW⟩:=F 56 Au
 refine Ay<|BE C5 bV bW Au ?_
 intro cJ bX
 obtain⟨_,_,rfl,⟨rfl,Ri⟩,⟨rfl,Rj⟩⟩:=bX
 exact Bs.same hi (show Vr.vd (vA AO) _ _ _ _ from(JX (C2 (AW (AU Ri) (AU Rj)))))
 refine BD fun dE dF bC bD=>?_
 obtain⟨-,aV,-⟩:=bC
 obtain⟨Z,aQ⟩:=AA.nx bD
 rintro dG aR
 replace aR:Vr.vd (vA AO) _ _ _ _:=aR
 obtain⟨_,rfl,⟨_,_,rfl,⟨rfl,Rk⟩,⟨rfl,Rl⟩⟩⟩:=aR
 rintro _ ⟨dH,rfl,aF⟩ _ rfl _ rfl _ rfl dI aS
 replace aS:Vr.vd (vA AO) _ _ _ _:=aS
 obtain⟨_,rfl,⟨_,_,rfl,⟨rfl,Rm⟩,⟨rfl,Rn⟩⟩⟩:=aS
 rintro _ ⟨dJ,rfl,aG⟩ _ rfl _ rfl _ rfl
 have bY:=J.to Z (aV.trans aQ)
 replace aF:=aF.step aQ;replace aG:=aG.step aQ;clear J
 refine A9<|Sk (c:=decide ((gt a.places G)=(gt b.places G))) Au Au Vp (TI 9998 (gt a.places G) (gt b.places G) _)<|Ax<|AF A Au (fun bE A=>?_) (fun bE A=>?_)
 refine Aw ?_
 clear aF aG
 refine Av<|Bn (Bo false) Au<|Ax<|AV<|⟨_,DX,[Bo false],⟨Au,trivial⟩,Z.ext,?_⟩
 exact Vr.eq (a:=vB) (x:=false) Au (oi A)
 refine AG ?_
 clear aF aG
 refine Av<|Bb (Iv G) Au<|A9<|Bg Au Au<|Bn (Iv (wq (G+1))) Au<|Ax ?_
 replace Y:=Y.trans bY
 exact bA _ _ ⟨(wq (G+1)),_,Au,BB.of ⟨Au,trivial⟩,Y,Z,(AT .i64 _),Dc aU A⟩
 refine Bq<|Aw ?_
 obtain⟨bF,dK⟩:=J.sub (bs':=[]) (.cons _ (.cons _ List.Sublist.slnil))
 clear Fa Fb Fc Fd
 clear J
 refine Av<|Bn (Bo true) Au<|Ax<|AV<|⟨_,DX,[Bo true],⟨Au,trivial⟩,bF.ext,?_⟩
 exact Vr.eq (a:=vB) (x:=true) Au (oi A)
 intro d3 a1
 have aT:=W.stepR
 refine Av<|A9<|AQ 0 DT Au Bl Au Au<|A9<|AP 1 Bl W Au Au Au<|A9<|AZ Try.underlying31 Au ?_
 have aH:=(p3.trans p8)
 replace Fa:=Fa.step aH
 have cK:=AX Fa
 refine A9<|AQ 0 DT Au Bl Au Au<|A9<|AP 0 Bl W Au Au Au<|A9<|AZ Try.underlying31 Au ?_
 replace Fc:=Fc.step aH
 have cL:=AX Fc
 refine A9<|Eh Au Au<|Bb (Bo (decide ((a.variables.length:Int)≠(b.variables.length:Int)))) Au<|Bz A (fun bG A=>?_) (fun bG A=>?_)
 iterate 7 refine AI Au (AJ Au Au) Au ?_
 exact FM (Bo true) Au Au<|Ax<|a1 _ _ ⟨true,_,Au,BB.of ⟨Au,trivial⟩,aT,W,A⟩
 refine BO Au Au<|AQ 1 DT Au Eo Au Au<|BO Au Au<|AP 1 Eo W Au Au Au<|BO Au Au<|AZ Try.underlying32 Au ?_
 replace Fb:=Fb.step aH
 have cM:=AX Fb
 refine BO Au Au<|AQ 1 DT Au Eo Au Au<|BO Au Au<|AP 0 Eo W Au Au Au<|BO Au Au<|AZ Try.underlying32 Au ?_
 replace Fd:=Fd.step aH
 have cN:=AX Fd
 exact BO Au Au<|Eh Au Au<|F8 (Bo (decide ((a.places.length:Int)≠(b.places.length:Int)))) Au Au<|Ax<|a1 _ _ ⟨decide ((a.places.length:Int)≠(b.places.length:Int)),_,Au,BB.of ⟨Au,trivial⟩,aT,W,A⟩

abbrev V5:List Nat:=[5,6,18,19,20,21,22,23,24,25,26,27,28,29,30,31,32,33,34,35,36,37,38,39,40,41,42,43,44,45]

def Gw (I:Int→(List AM)→Option A8) (A:Int) (G:List AM):Option A8:=
 bif (decide (A<3)) then
  jn (fun(J:List AN)=>
   ck ((G.length+[(⟨A,0,[0],J⟩:AM)].length)*64≤140737488355328)<|
   I (IntKind.wrap .i64 (A+1)) (G++[(⟨A,0,[0],J⟩:AM)]))
  (fun F=>
   bif (decide (A=0)) then
    ck ((0:Int)≤1∧1<([(⟨0,0,0,[(⟨(⟨false,0,61⟩:AK),1⟩:Bp)]⟩:AN),(⟨10,0,0,[(⟨(⟨false,0,60⟩:AK),1⟩:Bp),(⟨(⟨false,0,61⟩:AK),1⟩:Bp)]⟩:AN)].length:Int))<|
    F ([(⟨0,0,0,[(⟨(⟨false,0,61⟩:AK),1⟩:Bp)]⟩:AN),(⟨10,0,0,[(⟨(⟨false,0,60⟩:AK),1⟩:Bp),(⟨(⟨false,0,61⟩:AK),1⟩:Bp)]⟩:AN)].set 1 (⟨([(⟨0,0,0,[(⟨(⟨false,0,61⟩:AK),1⟩:Bp)]⟩:AN),(⟨10,0,0,[(⟨(⟨false,0,60⟩:AK),1⟩:Bp),(⟨(⟨false,0,61⟩:AK),1⟩:Bp)]⟩:AN)].getD 1 default).delay,([(⟨0,0,0,[(⟨(⟨false,0,61⟩:AK),1⟩:Bp)]⟩:AN),(⟨10,0,0,[(⟨(⟨false,0,60⟩:AK),1⟩:Bp),(⟨(⟨false,0,61⟩:AK),1⟩:Bp)]⟩:AN)].getD 1 default).cost,([(⟨0,0,0,[(⟨(⟨false,0,61⟩:AK),1⟩:Bp)]⟩:AN),(⟨10,0,0,[(⟨(⟨false,0,60⟩:AK),1⟩:Bp),(⟨(⟨false,0,61⟩:AK),1⟩:Bp)]⟩:AN)].getD 1 default).changes,([]:List Bp)⟩:AN))
   else
    F [(⟨0,0,0,[(⟨(⟨false,0,61⟩:AK),1⟩:Bp)]⟩:AN),(⟨10,0,0,[(⟨(⟨false,0,60⟩:AK),1⟩:Bp),(⟨(⟨false,0,61⟩:AK),1⟩:Bp)]⟩:AN)])
 else
  some (⟨[(⟨false,0,60⟩:AK),(⟨false,0,61⟩:AK)],[[1,1]],G⟩:A8)

def GM:Option A8:=
 BC Gw (((3:Int) - 0).toNat+1) 0 ([]:List AM)

theorem JL {w:World} {O:List Nat} (hO:∀k∈O,k<w.heap.size) {x:A8} (X:GM=some x):
 Ok Try.prog 29 [] w O (vA FY) x:=by
 unfold GM at X
 refine Br (n:=47) (xs:=[.cell 0 26]) Try.func29 Au Try.ntmps29 Try.results29 Au ?_
 have hs:=St.start hO
 refine Aw<|Av<|A9<|Bv B4 hs ?_
 intro b1 w2 _ p3 cU
 refine Ax<|Aw<|Av<|A9<|DM (vs:=[Bo false,Iv 0,Iv 60]) (parts:=[(2,.const (.int .i64 60))]) Du Xh Au<|A9<|DM (vs:=[Bo false,Iv 0,Iv 61]) (parts:=[(2,.const (.int .i64 61))]) Du Xh Au<|A9<|Bv Du cU ?_
 intro b6 w7 _ p8 cV
 clear cU
 refine A9<|Bv Du cV ?_
 intro aA d8 _ d9 bU
 clear cV
 refine Bh<|C6 Ip.p1 Du bU Au Au Au Au Au ?_
 intro eA eB bV
 clear bU
 refine Bh<|C6 .z Du bV Au Au Au Au Au ?_
 intro eC eD a0
 clear bV
 refine Ax<|Aw<|Av<|A9<|B1 0 Du a0 Au Au Au<|A9<|DM (vs:=[Bo false,Iv 0,Iv 61,Iv 1]) (parts:=[(0,.tmp 9),(1,.const (.int .i64 1))]) Gc We Au<|A9<|Bm (cs:=[Bo false,Iv 0,Iv 61,Iv 1]) (parts:=[(0,.tmp 10)]) Ho Gc a0 (by decide) Au ?_
 intro U eE dR eF aR
 clear a0
 refine Bn (Value.slice (some ⟨U,0,none⟩) 1 1) Au<|Ax<|Aw<|Av<|A9<|B1 2 Du aR Au Au Au<|A9<|B1 1 Du aR Au Au Au<|A9<|Bm (cs:=[Bo false,Iv 0,Iv 60,Bo false,Iv 0,Iv 61]) (parts:=[(0,.tmp 12),(1,.tmp 13)]) EX Du aR (by decide) Au ?_
 intro A eG dS eH bW
 clear aR
 refine A9<|Bm (cs:=[Iv 1,Iv 1]) (parts:=[(0,.const (.int .i64 1)),(1,.const (.int .i64 1))]) Bl B6 bW (by decide) Au ?_
 intro Y eI dT eJ bX
 clear bW
 obtain⟨bY,eK,bS⟩:=St.publish (i:=0) (o:=0) (c:=2) (xs:=[1,1]) bX Au (show E0 (AL .i64) _ _ [Iv 1,Iv 1] [1,1] from⟨_,_,Au,AU Ol,⟨_,_,Au,AU Ol,E0.nil⟩⟩) (BQ Au) (BQ Au) (BQ Au)
 clear bX
 refine A9<|Bm (cs:=[Sl (some ⟨Y,0,none⟩) [1,1] 2]) (parts:=[(0,.tmp 15)]) Db Bl bY (by decide) Au ?_
 intro F cW dU dH bZ
 clear bY
 have cN:=Gs.of_cells (p:=Bx) (e:=67) (bl:=A) (c:=2) (w:=cW) (O:=ks [(some F,Oc [Sl (some ⟨Y,0,none⟩) [1,1] 2] 31),(some A,Oc [Bo false,Iv 0,Iv 60,Bo false,Iv 0,Iv 61] 67),(some U,Oc [Bo false,Iv 0,Iv 61,Iv 1] 76),(some aA,Oc [Bo false,Iv 0,Iv 61] 67),(some b6,Oc [Bo false,Iv 0,Iv 60] 67),(some b1,Oc [Value.slice none 0 0,Value.slice none 0 0,Value.slice none 0 0] 26)] O) (show E0 Bx _ _ [Bo false,Iv 0,Iv 60,Bo false,Iv 0,Iv 61] [(⟨false,0,60⟩:AK),(⟨false,0,61⟩:AK)] from⟨_,_,Au,C2 (AW GJ (AW (AU E1) (AU (show Cx .i64 60 from by decide)))),⟨_,_,Au,C2 (AW GJ (AW (AU E1) (AU (show Cx .i64 61 from by decide)))),E0.nil⟩⟩) Au (BQ Au)
 replace bS:=bS.step dH
 have cO:=Gs.of_cells (p:=BG (AL .i64)) (e:=31) (bl:=F) (c:=1) (w:=cW) (O:=ks [(some F,Oc [Sl (some ⟨Y,0,none⟩) [1,1] 2] 31),(some A,Obj.cells [Bo false,Iv 0,Iv 60,Bo false,Iv 0,Iv 61].toArray 67),(some U,Oc [Bo false,Iv 0,Iv 61,Iv 1] 76),(some aA,Oc [Bo false,Iv 0,Iv 61] 67),(some b6,Oc [Bo false,Iv 0,Iv 60] 67),(some b1,Oc [Value.slice none 0 0,Value.slice none 0 0,Value.slice none 0 0] 26)] O) (show E0 (BG (AL .i64)) _ _ [Sl (some ⟨Y,0,none⟩) [1,1] 2] [[1,1]] from⟨_,_,Au,B8 bS,E0.nil⟩) Au (BQ Au)
 refine A9<|DM (vs:=[Sl (some ⟨A,0,none⟩) [(⟨false,0,60⟩:AK),(⟨false,0,61⟩:AK)] 2,Sl (some ⟨F,0,none⟩) [[1,1]] 1,Value.slice none 0 0]) (parts:=[(0,.tmp 14),(1,.tmp 16)]) B4 Wf Au<|A9<|Bv B4 bZ ?_
 intro aC eL _ dI b0
 clear bZ
 refine Bh<|C6 .z B4 b0 Au Au Au Au Au ?_
 intro eM dJ b2
 clear b0
 refine Ax<|Aw<|Aw ?_
 clear bS
 refine Av<|Bb (Iv 0) Au<|Ax<|AC ?_
 obtain⟨cX,dK,bT⟩:=St.publish (i:=3) (o:=0) (c:=1) (xs:=[(⟨(⟨false,0,61⟩:AK),1⟩:Bp)]) b2 Au (show E0 Ed _ _ [Bo false,Iv 0,Iv 61,Iv 1] [(⟨(⟨false,0,61⟩:AK),1⟩:Bp)] from⟨_,_,Au,C2 (AW (C2 (AW GJ (AW (AU E1) (AU (show Cx .i64 61 from by decide))))) (AU Ol)),E0.nil⟩) (BQ Au) (BQ Au) (BQ Au)
 clear b2
 refine Wr [] [(0,Pt b1 0),(1,Pt b6 0),(2,Pt aA 0),(3,Sl (some ⟨U,0,none⟩) [(⟨(⟨false,0,61⟩:AK),1⟩:Bp)] 1),(4,Pt aC 0),(18,Iv 0)] fun cY=>?_
 have b3:=cX.ghost (Obj.cells #[] 61)
 refine Bf V5 (fun m fr w'=>∃(G:Int) (M:List AM) (Aa:Option Addr) (Ca:Nat) (I:Option Nat) (J:Obj) (aF:Be),aF=[(I,J),(some aC,Oc [Sl (some ⟨A,0,none⟩) [(⟨false,0,60⟩:AK),(⟨false,0,61⟩:AK)] 2,Sl (some ⟨F,0,none⟩) [[1,1]] 1,Sl Aa M Ca] 26),(some F,Obj.cells [Sl (some ⟨Y,0,none⟩) [1,1] 2].toArray 31),(some A,Obj.cells [Bo false,Iv 0,Iv 60,Bo false,Iv 0,Iv 61].toArray 67),(some aA,Oc [Bo false,Iv 0,Iv 61] 67),(some b6,Oc [Bo false,Iv 0,Iv 60] 67),(some b1,Oc [Value.slice none 0 0,Value.slice none 0 0,Value.slice none 0 0] 26)]∧fr [] [(18,Iv G)]∧b3.S (ks aF O) w'∧St ⟨w,[],[]⟩ O w' aF∧Cx .i64 G∧Gs AS 61 w' (ks aF O) Aa Ca M I J∧BC Gw m G M=some x) (((3:Int) - 0).toNat+1) ⟨0,([]:List AM),none,0,none,Obj.cells #[] 61,_,Au,BB.of ⟨Au,trivial⟩,AA.refl _ _,b3,E1,Gs.nil_,X⟩ ?_ ?_
 rintro _ _ ⟨_,_,_,_,_,_,_,_,_,_,_,_,_,X⟩;exact DI X
 rintro eN eO cZ dV eP ⟨G,M,Aa,Ca,I,J,_,rfl,a1,aL,aS,Ra,Fa,X⟩
 obtain⟨dW,cP,X⟩:=DJ X;unfold Gw at X
 rw [a1.eq];clear a1
 have a2:=aL
 refine Aw<|Av<|A9<|By Au Au<|Ax<|Aw<|AF X Au (fun c0 X=>?_) (fun c0 X=>?_)
 refine AG<|Aw<|AC<|Aw<|Av<|Bb (Iv G) Au<|Bn (Iv G) Au<|Ax<|Aw<|Av<|Bb (Iv G) Au<|A9<|Bm (cs:=[Iv 0]) (parts:=[(0,.const (.int .i64 0))]) Bl B6 aS (by decide) Au ?_
 intro N eQ dX c1 aT
 clear aS
 refine Bb (Sl (some ⟨U,0,none⟩) [(⟨(⟨false,0,61⟩:AK),1⟩:Bp)] 1) Au<|A9<|DM (vs:=[Iv 0,Iv 0,Iv 0,Sl (some ⟨U,0,none⟩) [(⟨(⟨false,0,61⟩:AK),1⟩:Bp)] 1]) (parts:=[(3,.tmp 23)]) FT Wg Au<|A9<|B1 6 Du aT Au Au Au<|A9<|DM (vs:=[Bo false,Iv 0,Iv 60,Iv 1]) (parts:=[(0,.tmp 25),(1,.const (.int .i64 1))]) Gc We Au<|A9<|B1 5 Du aT Au Au Au<|A9<|DM (vs:=[Bo false,Iv 0,Iv 61,Iv 1]) (parts:=[(0,.tmp 27),(1,.const (.int .i64 1))]) Gc We Au<|A9<|Bm (cs:=[Bo false,Iv 0,Iv 60,Iv 1,Bo false,Iv 0,Iv 61,Iv 1]) (parts:=[(0,.tmp 26),(1,.tmp 28)]) Ho Gc aT (by decide) Au ?_
 intro aE dL dY c2 b4
 clear aT
 have dM:=Gs.of_cells (p:=Ed) (e:=76) (bl:=aE) (c:=2) (w:=dL) (O:=ks [(some aE,Oc [Bo false,Iv 0,Iv 60,Iv 1,Bo false,Iv 0,Iv 61,Iv 1] 76),(some N,Oc [Iv 0] 3),(I,J),(some aC,Oc [Sl (some ⟨A,0,none⟩) [(⟨false,0,60⟩:AK),(⟨false,0,61⟩:AK)] 2,Sl (some ⟨F,0,none⟩) [[1,1]] 1,Sl Aa M Ca] 26),(some F,Obj.cells [Sl (some ⟨Y,0,none⟩) [1,1] 2].toArray 31),(some A,Obj.cells [Bo false,Iv 0,Iv 60,Bo false,Iv 0,Iv 61].toArray 67),(some aA,Oc [Bo false,Iv 0,Iv 61] 67),(some b6,Oc [Bo false,Iv 0,Iv 60] 67),(some b1,Oc [Value.slice none 0 0,Value.slice none 0 0,Value.slice none 0 0] 26)] O) (show E0 Ed _ _ [Bo false,Iv 0,Iv 60,Iv 1,Bo false,Iv 0,Iv 61,Iv 1] [(⟨(⟨false,0,60⟩:AK),1⟩:Bp),(⟨(⟨false,0,61⟩:AK),1⟩:Bp)] from⟨_,_,Au,C2 (AW (C2 (AW GJ (AW (AU E1) (AU (show Cx .i64 60 from by decide))))) (AU Ol)),⟨_,_,Au,C2 (AW (C2 (AW GJ (AW (AU E1) (AU (show Cx .i64 61 from by decide))))) (AU Ol)),E0.nil⟩⟩) Au (BQ Au)
 refine A9<|DM (vs:=[Iv 10,Iv 0,Iv 0,Sl (some ⟨aE,0,none⟩) [(⟨(⟨false,0,60⟩:AK),1⟩:Bp),(⟨(⟨false,0,61⟩:AK),1⟩:Bp)] 2]) (parts:=[(0,.const (.int .i64 10)),(3,.tmp 29)]) FT Wg Au ?_
 obtain⟨b5,c3,a3⟩:=Gs.publish (i:=0) b4 Au dM
 clear b4
 refine A9<|Bm (cs:=[Iv 0,Iv 0,Iv 0,Sl (some ⟨U,0,none⟩) [(⟨(⟨false,0,61⟩:AK),1⟩:Bp)] 1,Iv 10,Iv 0,Iv 0,Sl (some ⟨aE,0,none⟩) [(⟨(⟨false,0,60⟩:AK),1⟩:Bp),(⟨(⟨false,0,61⟩:AK),1⟩:Bp)] 2]) (parts:=[(0,.tmp 24),(1,.tmp 30)]) FJ FT b5 (by decide) Au ?_
 intro W c4 dZ cQ b7
 clear b5
 have a4:=Gs.of_cells (p:=(AL .i64)) (e:=3) (bl:=N) (c:=1) (w:=c4) (O:=ks [(some W,Oc [Iv 0,Iv 0,Iv 0,Sl (some ⟨U,0,none⟩) [(⟨(⟨false,0,61⟩:AK),1⟩:Bp)] 1,Iv 10,Iv 0,Iv 0,Sl (some ⟨aE,0,none⟩) [(⟨(⟨false,0,60⟩:AK),1⟩:Bp),(⟨(⟨false,0,61⟩:AK),1⟩:Bp)] 2] 58),(some N,Oc [Iv 0] 3),(I,J),(some aC,Oc [Sl (some ⟨A,0,none⟩) [(⟨false,0,60⟩:AK),(⟨false,0,61⟩:AK)] 2,Sl (some ⟨F,0,none⟩) [[1,1]] 1,Sl Aa M Ca] 26),(some F,Obj.cells [Sl (some ⟨Y,0,none⟩) [1,1] 2].toArray 31),(some A,Obj.cells [Bo false,Iv 0,Iv 60,Bo false,Iv 0,Iv 61].toArray 67),(some aA,Oc [Bo false,Iv 0,Iv 61] 67),(some b6,Oc [Bo false,Iv 0,Iv 60] 67),(some b1,Oc [Value.slice none 0 0,Value.slice none 0 0,Value.slice none 0 0] 26)] O) (show E0 (AL .i64) _ _ [Iv 0] [0] from⟨_,_,Au,AU E1,E0.nil⟩) Au (BQ Au)
 replace bT:=bT.step (aL.trans (c1.trans (c2.trans (c3.trans cQ))));replace a3:=a3.step cQ
 have Z:=Gs.of_cells (p:=Bt) (e:=58) (bl:=W) (c:=2) (w:=c4) (O:=ks [(some W,Oc [Iv 0,Iv 0,Iv 0,Sl (some ⟨U,0,none⟩) [(⟨(⟨false,0,61⟩:AK),1⟩:Bp)] 1,Iv 10,Iv 0,Iv 0,Sl (some ⟨aE,0,none⟩) [(⟨(⟨false,0,60⟩:AK),1⟩:Bp),(⟨(⟨false,0,61⟩:AK),1⟩:Bp)] 2] 58),(some N,Obj.cells [Iv 0].toArray 3),(I,J),(some aC,Oc [Sl (some ⟨A,0,none⟩) [(⟨false,0,60⟩:AK),(⟨false,0,61⟩:AK)] 2,Sl (some ⟨F,0,none⟩) [[1,1]] 1,Sl Aa M Ca] 26),(some F,Obj.cells [Sl (some ⟨Y,0,none⟩) [1,1] 2].toArray 31),(some A,Obj.cells [Bo false,Iv 0,Iv 60,Bo false,Iv 0,Iv 61].toArray 67),(some aA,Oc [Bo false,Iv 0,Iv 61] 67),(some b6,Oc [Bo false,Iv 0,Iv 60] 67),(some b1,Oc [Value.slice none 0 0,Value.slice none 0 0,Value.slice none 0 0] 26)] O) (show E0 Bt _ _ [Iv 0,Iv 0,Iv 0,Sl (some ⟨U,0,none⟩) [(⟨(⟨false,0,61⟩:AK),1⟩:Bp)] 1,Iv 10,Iv 0,Iv 0,Sl (some ⟨aE,0,none⟩) [(⟨(⟨false,0,60⟩:AK),1⟩:Bp),(⟨(⟨false,0,61⟩:AK),1⟩:Bp)] 2] [(⟨0,0,0,[(⟨(⟨false,0,61⟩:AK),1⟩:Bp)]⟩:AN),(⟨10,0,0,[(⟨(⟨false,0,60⟩:AK),1⟩:Bp),(⟨(⟨false,0,61⟩:AK),1⟩:Bp)]⟩:AN)] from⟨_,_,Au,C2 (AW (AU E1) (AW (AU E1) (AW (AU E1) (B8 bT)))),⟨_,_,Au,C2 (AW (AU (show Cx .i64 10 from by decide)) (AW (AU E1) (AW (AU E1) (B8 a3)))),E0.nil⟩⟩) Au (BQ Au)
 refine A9<|DM (vs:=[Iv G,Iv 0,Sl (some ⟨N,0,none⟩) [0] 1,Sl (some ⟨W,0,none⟩) [(⟨0,0,0,[(⟨(⟨false,0,61⟩:AK),1⟩:Bp)]⟩:AN),(⟨10,0,0,[(⟨(⟨false,0,60⟩:AK),1⟩:Bp),(⟨(⟨false,0,61⟩:AK),1⟩:Bp)]⟩:AN)] 2]) (parts:=[(0,.tmp 21),(2,.tmp 22),(3,.tmp 31)]) Dq Xi Au<|A9<|Bv Dq b7 ?_
 intro aK d0 _ aU a5
 clear b7
 refine Bh<|C6 .z Dq a5 Au Au Au Au Au ?_
 intro b8 aV aD
 clear a5
 refine Ax<|Ic V5 [] (CO ⟨cY,[]⟩ [(0,Pt b1 0),(1,Pt b6 0),(2,Pt aA 0),(3,Sl (some ⟨U,0,none⟩) [(⟨(⟨false,0,61⟩:AK),1⟩:Bp)] 1),(4,Pt aC 0),(18,Iv 0)]) [(5,Iv G),(6,Pt aK 0),(18,Iv G)] fun dN=>?_
 obtain⟨c5,cR,X⟩:=Cy X
 refine CE [33,34,35,36,37,38] (fun fr w'=>∃(aB:List AN) (Ab:Option Addr) (Cb:Nat) (aG:Option Nat) (aH:Obj) (aF:Be),aF=[(some aK,Oc [Iv G,Iv 0,Sl (some ⟨N,0,none⟩) [0] 1,Sl Ab aB Cb] 61),(aG,aH),(some N,Obj.cells [Iv 0].toArray 3),(I,J),(some aC,Oc [Sl (some ⟨A,0,none⟩) [(⟨false,0,60⟩:AK),(⟨false,0,61⟩:AK)] 2,Sl (some ⟨F,0,none⟩) [[1,1]] 1,Sl Aa M Ca] 26),(some F,Obj.cells [Sl (some ⟨Y,0,none⟩) [1,1] 2].toArray 31),(some A,Obj.cells [Bo false,Iv 0,Iv 60,Bo false,Iv 0,Iv 61].toArray 67),(some aA,Oc [Bo false,Iv 0,Iv 61] 67),(some b6,Oc [Bo false,Iv 0,Iv 60] 67),(some b1,Oc [Value.slice none 0 0,Value.slice none 0 0,Value.slice none 0 0] 26)]∧fr [] []∧aD.S (ks aF O) w'∧St ⟨w,[],[]⟩ O w' aF∧Gs Bt 58 w' (ks aF O) Ab Cb aB aG aH∧c5 aB=some x) ?_ ?_
 rintro dO d1 ⟨aB,Ab,Cb,aG,aH,_,rfl,aW,aX,aI,Fb,X⟩
 replace X:=Dc cR X
 rw [aW.eq];clear aW
 clear a3 Z
 refine Av<|A9<|AQ 2 B4 Au Cz Au Au<|A9<|AP 4 Cz aI Au Au Au<|A9<|B1 0 Dq aI Au Au Au ?_
 have c6:=(aU.trans (aV.trans aX))
 replace a4:=a4.step c6
 obtain⟨a6,b9,a7⟩:=Gs.publish (i:=2) aI Au a4
 clear aI
 replace Fb:=Fb.step b9
 obtain⟨a8,cA,a9⟩:=Gs.publish (i:=1) a6 Au Fb
 clear a6
 refine A9<|Bm (cs:=[Iv G,Iv 0,Sl (some ⟨N,0,none⟩) [0] 1,Sl Ab aB Cb]) (parts:=[(0,.tmp 41)]) Cz Dq a8 (by decide) Au ?_
 intro d2 d3 dP bA aM
 clear a8
 obtain⟨bB,X⟩:=AE X
 replace a7:=a7.step (cA.trans bA);replace a9:=a9.step bA
 have cB:=(c1.trans (c2.trans (c3.trans (cQ.trans (aU.trans (aV.trans (aX.trans (b9.trans (cA.trans bA)))))))))
 replace Fa:=Fa.step cB
 refine A9 (FF (q:=AS) (i:=2) (xs:=M) (ys:=[(⟨G,0,[0],aB⟩:AM)]) (news:=[Iv G,Iv 0,Sl (some ⟨N,0,none⟩) [0] 1,Sl Ab aB Cb]) Cz Dq Au (by decide) aM Au Au Fa Au (Oj.owned' (len:=4) (aM.get (i:=0) Au) Au) (show E0 AS _ _ [Iv G,Iv 0,Sl (some ⟨N,0,none⟩) [0] 1,Sl Ab aB Cb] [(⟨G,0,[0],aB⟩:AM)] from⟨_,_,Au,C2 (AW (AU Ra) (AW (AU E1) (AW (B8 a7) (B8 a9)))),E0.nil⟩) bB (by have:=bB;simp only [maxLen];omega) ?_)
 intro bC bD c7 c8 d4 c9 aN bE
 clear aM
 have bF:=aN.drop 0
 have cC:=(aN.dropS 0)
 clear aN
 refine A9<|AQ 2 B4 Au Cz Au Au<|Bh<|KC (Sl bC (M++[(⟨G,0,[0],aB⟩:AM)]) bD) (cs':=[Sl (some ⟨A,0,none⟩) [(⟨false,0,60⟩:AK),(⟨false,0,61⟩:AK)] 2,Sl (some ⟨F,0,none⟩) [[1,1]] 1,Sl bC (M++[(⟨G,0,[0],aB⟩:AM)]) bD]) Ip.p2 Cz bF Au Au Au (BQ Au) Au Au ?_
 intro d5 cD aO
 clear bF
 refine Ax<|Av<|A9<|Bg Au Au<|Bb (Iv (wq (G+1))) Au<|Ax ?_
 have cS:=aO.drop 0
 have cE:=(aO.dropS 0)
 clear aO
 replace a2:=a2.trans (cB.trans (c9.trans (cC.trans (cD.trans cE))))
 replace bE:=bE.step (cC.trans (cD.trans cE))
 exact cZ _ _ ⟨(wq (G+1)),M++[(⟨G,0,[0],aB⟩:AM)],bC,bD,c7,c8,_,Au,BB.of ⟨Au,trivial⟩,a2,cS,(AT .i64 _),bE,GV cP X⟩
 intro d6 bG
 have aJ:=aD.stepR
 refine Aw ?_
 clear a3
 refine Av<|Bb (Iv G) Au<|A9<|HI Au Au<|Ax<|AF X Au (fun cT X=>?_) (fun cT X=>?_)
 refine Av<|A9<|AQ 3 Dq Au FJ Au Au<|A9<|AP 0 FJ aD Au Au Au ?_
 obtain⟨bH,X⟩:=AE X
 have dA:=(aU.trans aV)
 replace Z:=Z.step dA
 refine A9<|BA FJ FT Au Au Z bH ?_
 rintro _ ⟨⟩ -
 refine A9<|B5 FT Au Ho (by decide) Au (rfl:_=(⟨_,1*4+3,none⟩:Addr)) ?_
 have bI:∀vs,Rp.rd Bt b8 (ks [(some aK,Oc [Iv G,Iv 0,Sl (some ⟨N,0,none⟩) [0] 1,Sl (some ⟨W,0,none⟩) [(⟨0,0,0,[(⟨(⟨false,0,61⟩:AK),1⟩:Bp)]⟩:AN),(⟨10,0,0,[(⟨(⟨false,0,60⟩:AK),1⟩:Bp),(⟨(⟨false,0,61⟩:AK),1⟩:Bp)]⟩:AN)] 2] 61),(some W,Obj.cells [Iv 0,Iv 0,Iv 0,Sl (some ⟨U,0,none⟩) [(⟨(⟨false,0,61⟩:AK),1⟩:Bp)] 1,Iv 10,Iv 0,Iv 0,Sl (some ⟨aE,0,none⟩) [(⟨(⟨false,0,60⟩:AK),1⟩:Bp),(⟨(⟨false,0,61⟩:AK),1⟩:Bp)] 2].toArray 58),(some N,Obj.cells [Iv 0].toArray 3),(I,J),(some aC,Oc [Sl (some ⟨A,0,none⟩) [(⟨false,0,60⟩:AK),(⟨false,0,61⟩:AK)] 2,Sl (some ⟨F,0,none⟩) [[1,1]] 1,Sl Aa M Ca] 26),(some F,Obj.cells [Sl (some ⟨Y,0,none⟩) [1,1] 2].toArray 31),(some A,Obj.cells [Bo false,Iv 0,Iv 60,Bo false,Iv 0,Iv 61].toArray 67),(some aA,Oc [Bo false,Iv 0,Iv 61] 67),(some b6,Oc [Bo false,Iv 0,Iv 60] 67),(some b1,Oc [Value.slice none 0 0,Value.slice none 0 0,Value.slice none 0 0] 26)] O) vs ([(⟨0,0,0,[(⟨(⟨false,0,61⟩:AK),1⟩:Bp)]⟩:AN),(⟨10,0,0,[(⟨(⟨false,0,60⟩:AK),1⟩:Bp),(⟨(⟨false,0,61⟩:AK),1⟩:Bp)]⟩:AN)].getD 1 default)→Rp.rd Bt b8 (ks [(some aK,Oc [Iv G,Iv 0,Sl (some ⟨N,0,none⟩) [0] 1,Sl (some ⟨W,0,none⟩) [(⟨0,0,0,[(⟨(⟨false,0,61⟩:AK),1⟩:Bp)]⟩:AN),(⟨10,0,0,[(⟨(⟨false,0,60⟩:AK),1⟩:Bp),(⟨(⟨false,0,61⟩:AK),1⟩:Bp)]⟩:AN)] 2] 61),(some W,Obj.cells [Iv 0,Iv 0,Iv 0,Sl (some ⟨U,0,none⟩) [(⟨(⟨false,0,61⟩:AK),1⟩:Bp)] 1,Iv 10,Iv 0,Iv 0,Sl (some ⟨aE,0,none⟩) [(⟨(⟨false,0,60⟩:AK),1⟩:Bp),(⟨(⟨false,0,61⟩:AK),1⟩:Bp)] 2].toArray 58),(some N,Obj.cells [Iv 0].toArray 3),(I,J),(some aC,Oc [Sl (some ⟨A,0,none⟩) [(⟨false,0,60⟩:AK),(⟨false,0,61⟩:AK)] 2,Sl (some ⟨F,0,none⟩) [[1,1]] 1,Sl Aa M Ca] 26),(some F,Obj.cells [Sl (some ⟨Y,0,none⟩) [1,1] 2].toArray 31),(some A,Obj.cells [Bo false,Iv 0,Iv 60,Bo false,Iv 0,Iv 61].toArray 67),(some aA,Oc [Bo false,Iv 0,Iv 61] 67),(some b6,Oc [Bo false,Iv 0,Iv 60] 67),(some b1,Oc [Value.slice none 0 0,Value.slice none 0 0,Value.slice none 0 0] 26)] O) (vs.set 3 (Value.slice none 0 0)) (⟨([(⟨0,0,0,[(⟨(⟨false,0,61⟩:AK),1⟩:Bp)]⟩:AN),(⟨10,0,0,[(⟨(⟨false,0,60⟩:AK),1⟩:Bp),(⟨(⟨false,0,61⟩:AK),1⟩:Bp)]⟩:AN)].getD 1 default).delay,([(⟨0,0,0,[(⟨(⟨false,0,61⟩:AK),1⟩:Bp)]⟩:AN),(⟨10,0,0,[(⟨(⟨false,0,60⟩:AK),1⟩:Bp),(⟨(⟨false,0,61⟩:AK),1⟩:Bp)]⟩:AN)].getD 1 default).cost,([(⟨0,0,0,[(⟨(⟨false,0,61⟩:AK),1⟩:Bp)]⟩:AN),(⟨10,0,0,[(⟨(⟨false,0,60⟩:AK),1⟩:Bp),(⟨(⟨false,0,61⟩:AK),1⟩:Bp)]⟩:AN)].getD 1 default).changes,([]:List Bp)⟩:AN):=by
  intro dQ dB
  obtain⟨_,_,rfl,⟨rfl,Rb⟩,⟨_,_,rfl,⟨rfl,Rc⟩,⟨_,_,rfl,⟨rfl,Rd⟩,⟨Ac,Cc,rfl,Fc⟩⟩⟩⟩:=dB
  exact(C2 (AW (AU Rb) (AW (AU Rc) (AW (AU Rd) (B8 CA.nil_)))))
 refine Bh<|R7 (m:=1) (nn:=4) (off:=3) (i:=1) Ho Au aD Au Au Au Au Au Z bH (by decide) bI ?_
 intro dC cF dD bJ bK;clear bI
 refine Ax ?_
 have dE: [(⟨0,0,0,[(⟨(⟨false,0,61⟩:AK),1⟩:Bp)]⟩:AN),(⟨10,0,0,[(⟨(⟨false,0,60⟩:AK),1⟩:Bp),(⟨(⟨false,0,61⟩:AK),1⟩:Bp)]⟩:AN)].length=([(⟨0,0,0,[(⟨(⟨false,0,61⟩:AK),1⟩:Bp)]⟩:AN),(⟨10,0,0,[(⟨(⟨false,0,60⟩:AK),1⟩:Bp),(⟨(⟨false,0,61⟩:AK),1⟩:Bp)]⟩:AN)].set 1 (⟨([(⟨0,0,0,[(⟨(⟨false,0,61⟩:AK),1⟩:Bp)]⟩:AN),(⟨10,0,0,[(⟨(⟨false,0,60⟩:AK),1⟩:Bp),(⟨(⟨false,0,61⟩:AK),1⟩:Bp)]⟩:AN)].getD 1 default).delay,([(⟨0,0,0,[(⟨(⟨false,0,61⟩:AK),1⟩:Bp)]⟩:AN),(⟨10,0,0,[(⟨(⟨false,0,60⟩:AK),1⟩:Bp),(⟨(⟨false,0,61⟩:AK),1⟩:Bp)]⟩:AN)].getD 1 default).cost,([(⟨0,0,0,[(⟨(⟨false,0,61⟩:AK),1⟩:Bp)]⟩:AN),(⟨10,0,0,[(⟨(⟨false,0,60⟩:AK),1⟩:Bp),(⟨(⟨false,0,61⟩:AK),1⟩:Bp)]⟩:AN)].getD 1 default).changes,([]:List Bp)⟩:AN)).length:=(show [(⟨0,0,0,[(⟨(⟨false,0,61⟩:AK),1⟩:Bp)]⟩:AN),(⟨10,0,0,[(⟨(⟨false,0,60⟩:AK),1⟩:Bp),(⟨(⟨false,0,61⟩:AK),1⟩:Bp)]⟩:AN)].length=([(⟨0,0,0,[(⟨(⟨false,0,61⟩:AK),1⟩:Bp)]⟩:AN),(⟨10,0,0,[(⟨(⟨false,0,60⟩:AK),1⟩:Bp),(⟨(⟨false,0,61⟩:AK),1⟩:Bp)]⟩:AN)].set 1 (⟨([(⟨0,0,0,[(⟨(⟨false,0,61⟩:AK),1⟩:Bp)]⟩:AN),(⟨10,0,0,[(⟨(⟨false,0,60⟩:AK),1⟩:Bp),(⟨(⟨false,0,61⟩:AK),1⟩:Bp)]⟩:AN)].getD 1 default).delay,([(⟨0,0,0,[(⟨(⟨false,0,61⟩:AK),1⟩:Bp)]⟩:AN),(⟨10,0,0,[(⟨(⟨false,0,60⟩:AK),1⟩:Bp),(⟨(⟨false,0,61⟩:AK),1⟩:Bp)]⟩:AN)].getD 1 default).cost,([(⟨0,0,0,[(⟨(⟨false,0,61⟩:AK),1⟩:Bp)]⟩:AN),(⟨10,0,0,[(⟨(⟨false,0,60⟩:AK),1⟩:Bp),(⟨(⟨false,0,61⟩:AK),1⟩:Bp)]⟩:AN)].getD 1 default).changes,([]:List Bp)⟩:AN)).length from by first |(simp;done) |(simp;omega))
 have bL:St ⟨w,[],[]⟩ O dC [(some aK,Oc [Iv G,Iv 0,Sl (some ⟨N,0,none⟩) [0] 1,Sl (some ⟨W,0,none⟩) ([(⟨0,0,0,[(⟨(⟨false,0,61⟩:AK),1⟩:Bp)]⟩:AN),(⟨10,0,0,[(⟨(⟨false,0,60⟩:AK),1⟩:Bp),(⟨(⟨false,0,61⟩:AK),1⟩:Bp)]⟩:AN)].set 1 (⟨([(⟨0,0,0,[(⟨(⟨false,0,61⟩:AK),1⟩:Bp)]⟩:AN),(⟨10,0,0,[(⟨(⟨false,0,60⟩:AK),1⟩:Bp),(⟨(⟨false,0,61⟩:AK),1⟩:Bp)]⟩:AN)].getD 1 default).delay,([(⟨0,0,0,[(⟨(⟨false,0,61⟩:AK),1⟩:Bp)]⟩:AN),(⟨10,0,0,[(⟨(⟨false,0,60⟩:AK),1⟩:Bp),(⟨(⟨false,0,61⟩:AK),1⟩:Bp)]⟩:AN)].getD 1 default).cost,([(⟨0,0,0,[(⟨(⟨false,0,61⟩:AK),1⟩:Bp)]⟩:AN),(⟨10,0,0,[(⟨(⟨false,0,60⟩:AK),1⟩:Bp),(⟨(⟨false,0,61⟩:AK),1⟩:Bp)]⟩:AN)].getD 1 default).changes,([]:List Bp)⟩:AN)) 2] 61),(some W,cF),(some N,Obj.cells [Iv 0].toArray 3),(I,J),(some aC,Oc [Sl (some ⟨A,0,none⟩) [(⟨false,0,60⟩:AK),(⟨false,0,61⟩:AK)] 2,Sl (some ⟨F,0,none⟩) [[1,1]] 1,Sl Aa M Ca] 26),(some F,Obj.cells [Sl (some ⟨Y,0,none⟩) [1,1] 2].toArray 31),(some A,Obj.cells [Bo false,Iv 0,Iv 60,Bo false,Iv 0,Iv 61].toArray 67),(some aA,Oc [Bo false,Iv 0,Iv 61] 67),(some b6,Oc [Bo false,Iv 0,Iv 60] 67),(some b1,Oc [Value.slice none 0 0,Value.slice none 0 0,Value.slice none 0 0] 26)]:=by unfold Sl;rw [← dE];exact bJ
 have cG:=St.stepR bL
 clear bJ
 replace aJ:=aJ.trans (dD.trans cG);replace bK:=bK.step cG
 exact bG _ _ ⟨[(⟨0,0,0,[(⟨(⟨false,0,61⟩:AK),1⟩:Bp)]⟩:AN),(⟨10,0,0,[(⟨(⟨false,0,60⟩:AK),1⟩:Bp),(⟨(⟨false,0,61⟩:AK),1⟩:Bp)]⟩:AN)].set 1 (⟨([(⟨0,0,0,[(⟨(⟨false,0,61⟩:AK),1⟩:Bp)]⟩:AN),(⟨10,0,0,[(⟨(⟨false,0,60⟩:AK),1⟩:Bp),(⟨(⟨false,0,61⟩:AK),1⟩:Bp)]⟩:AN)].getD 1 default).delay,([(⟨0,0,0,[(⟨(⟨false,0,61⟩:AK),1⟩:Bp)]⟩:AN),(⟨10,0,0,[(⟨(⟨false,0,60⟩:AK),1⟩:Bp),(⟨(⟨false,0,61⟩:AK),1⟩:Bp)]⟩:AN)].getD 1 default).cost,([(⟨0,0,0,[(⟨(⟨false,0,61⟩:AK),1⟩:Bp)]⟩:AN),(⟨10,0,0,[(⟨(⟨false,0,60⟩:AK),1⟩:Bp),(⟨(⟨false,0,61⟩:AK),1⟩:Bp)]⟩:AN)].getD 1 default).changes,([]:List Bp)⟩:AN),some ⟨W,0,none⟩,2,some W,cF,_,Au,BB.of trivial,aJ,bL,bK,X⟩
 refine AG ?_
 have dF:=(aU.trans aV)
 replace Z:=Z.step dF
 exact bG _ _ ⟨[(⟨0,0,0,[(⟨(⟨false,0,61⟩:AK),1⟩:Bp)]⟩:AN),(⟨10,0,0,[(⟨(⟨false,0,60⟩:AK),1⟩:Bp),(⟨(⟨false,0,61⟩:AK),1⟩:Bp)]⟩:AN)],some ⟨W,0,none⟩,2,some W,Obj.cells [Iv 0,Iv 0,Iv 0,Sl (some ⟨U,0,none⟩) [(⟨(⟨false,0,61⟩:AK),1⟩:Bp)] 1,Iv 10,Iv 0,Iv 0,Sl (some ⟨aE,0,none⟩) [(⟨(⟨false,0,60⟩:AK),1⟩:Bp),(⟨(⟨false,0,61⟩:AK),1⟩:Bp)] 2].toArray 58,_,Au,BB.of trivial,aJ,aD,Z,X⟩
 refine Bq<|Aw ?_
 obtain⟨aP,cH⟩:=aS.sub (bs':=[(I,J),(some aC,Oc [Sl (some ⟨A,0,none⟩) [(⟨false,0,60⟩:AK),(⟨false,0,61⟩:AK)] 2,Sl (some ⟨F,0,none⟩) [[1,1]] 1,Sl Aa M Ca] 26),(some F,Obj.cells [Sl (some ⟨Y,0,none⟩) [1,1] 2].toArray 31),(some A,Obj.cells [Bo false,Iv 0,Iv 60,Bo false,Iv 0,Iv 61].toArray 67),(some b1,Oc [Value.slice none 0 0,Value.slice none 0 0,Value.slice none 0 0] 26)]) (.cons_cons _ (.cons_cons _ (.cons_cons _ (.cons_cons _ (.cons _ (.cons _ (.cons_cons _ List.Sublist.slnil)))))))
 clear bT
 clear aS
 refine Av<|A9<|B1 1 B4 aP Au Au Au<|Bh<|C6 Ip.p4 B4 aP Au Au Au Au Au ?_
 intro d7 cI bM
 clear aP
 refine Ax<|AV ?_
 have cJ:=(dI.trans (dJ.trans (dK.trans (aL.trans (cH.trans cI)))))
 replace cN:=cN.step cJ
 obtain⟨bN,cK,bO⟩:=Gs.publish (i:=3) bM Au cN
 clear bM
 replace cO:=cO.step (cJ.trans cK)
 obtain⟨bP,cL,bQ⟩:=Gs.publish (i:=2) bN Au cO
 clear bN
 have dG:=(cH.trans (cI.trans (cK.trans cL)))
 replace Fa:=Fa.step dG
 obtain⟨aQ,cM,bR⟩:=Gs.publish (i:=0) bP Au Fa
 clear bP
 have hz:=G5 aQ
 refine⟨_,DX,[Value.agg [Sl (some ⟨A,0,none⟩) [(⟨false,0,60⟩:AK),(⟨false,0,61⟩:AK)] 2,Sl (some ⟨F,0,none⟩) [[1,1]] 1,Sl Aa M Ca].toArray],⟨Qc (cs:=[Sl (some ⟨A,0,none⟩) [(⟨false,0,60⟩:AK),(⟨false,0,61⟩:AK)] 2,Sl (some ⟨F,0,none⟩) [[1,1]] 1,Sl Aa M Ca]) (vs:=[Sl (some ⟨A,0,none⟩) [(⟨false,0,60⟩:AK),(⟨false,0,61⟩:AK)] 2,Sl (some ⟨F,0,none⟩) [[1,1]] 1,Sl Aa M Ca]) B4 (i:=1) aQ Au Au Au Au,trivial⟩,aQ.ext,?_⟩
 replace bO:=bO.step (cL.trans (cM.trans hz))
 replace bQ:=bQ.step (cM.trans hz);replace bR:=bR.step hz
 exact Vr.eq (a:=vA FY) (x:=(⟨[(⟨false,0,60⟩:AK),(⟨false,0,61⟩:AK)],[[1,1]],M⟩:A8)) (JX (C2 (AW (B8 bO) (AW (B8 bQ) (B8 bR))))) (oi X)

abbrev XE:List Nat:=[63,64,65,66,67,68,69,70,71,72,73,74]

abbrev XF:List Nat:=[0,120,121,122,123,124,125,126,127,128,129,130,131,132,133,134,135,136,137,138,139,140,141,142,143,144,145,146,147,148,149,150,151,152,153,154,155,156,157,158,159,160,161,162,163,164,165,166,167,168,169,170,171,172,173,174,175,176,177,178]

abbrev XH:List Nat:=[87,88,89,90,91,92,93,94,95,96,97,98,99,100,101,102,103,104,105,106,107,108,109,110,111,112,113,114,115,116,117,118,119]

def Gr (W:A8) (A:Ba × Bool × Int) (J:Bool × Int) (M:Bool × Int) (N:Bool × Int) (G:Ba × Bool × Int) (Z:Int→(List AM)→Option Bool) (aB:Int) (aA:List AM):Option Bool:=
 bif (decide (aB<17)) then
  ck ((aA.length+[(⟨0,0,[0],[(⟨0,0,0,([]:List Bp)⟩:AN)]⟩:AM)].length)*64≤140737488355328)<|
  Z (IntKind.wrap .i64 (aB+1)) (aA++[(⟨0,0,[0],[(⟨0,0,0,([]:List Bp)⟩:AN)]⟩:AM)])
 else
  (DY (⟨([]:List AK),[([]:List Int)],aA⟩:A8)).bind fun U=>
  (IA W (⟨[1,2],[(⟨0,1⟩:Az)]⟩:Ba)).bind fun BR=>
  jn (fun(aC:Bool)=>
   bif aC then
    some false
   else
    jn (fun(aD:Bool)=>
     some aD)
    (fun F=>
     bif A.2.1 then
      (GD A.1 (⟨[1,2],[(⟨0,1⟩:Az)]⟩:Ba)).bind fun Y=>
      bif Y then
       bif J.1 then
        bif (!M.1) then
         bif (!N.1) then
          bif (!G.2.1) then
           bif (decide ((BR.1.variables.length:Int)=2)) then
            bif (decide ((BR.1.capacity.length:Int)=1)) then
             ck ((0:Int)≤0∧0<(BR.1.capacity.length:Int))<|
             bif (decide (((BR.1.capacity.getD 0 default).length:Int)=2)) then
              ck ((0:Int)≤0∧0<(BR.1.capacity.length:Int))<|
              ck ((0:Int)≤0∧0<((BR.1.capacity.getD 0 default).length:Int))<|
              bif (decide (((BR.1.capacity.getD 0 default).getD 0 default)=4096)) then
               ck ((0:Int)≤0∧0<(BR.1.capacity.length:Int))<|
               ck ((0:Int)≤1∧1<((BR.1.capacity.getD 0 default).length:Int))<|
               F (decide (((BR.1.capacity.getD 0 default).getD 1 default)=1))
              else
               F false
             else
              F false
            else
             F false
           else
            F false
          else
           F false
         else
          F false
        else
         F false
       else
        F false
      else
       F false
     else
      F false))
  (fun I=>
   bif (decide (A.2.2≠0)) then
    I true
   else
    bif (decide (J.2≠0)) then
     I true
    else
     bif (decide (M.2≠0)) then
      I true
     else
      bif (decide (N.2≠0)) then
       I true
      else
       bif (decide (G.2.2≠0)) then
        I true
       else
        bif (decide (U.2.2≠2)) then
         I true
        else
         bif (decide (BR.2≠0)) then
          I true
         else
          (FK W (⟨[0,0],([]:List Az)⟩:Ba)).bind fun X=>
          I (decide (X≠320)))

def FP:Option Bool:=
 GM.bind fun A=>
 (DY A).bind fun F=>
 (CT A (⟨[1,2],[(⟨0,1⟩:Az)]⟩:Ba)).bind fun I=>
 (CT A (⟨[0,1],[(⟨0,1⟩:Az)]⟩:Ba)).bind fun J=>
 (CT A (⟨[1,2],([]:List Az)⟩:Ba)).bind fun M=>
 (DY (⟨([]:List AK),[([]:List Int)],([]:List AM)⟩:A8)).bind fun G=>
 BC (Gr A F I J M G) (((17:Int) - 0).toNat+1) 0 ([]:List AM)

theorem J7 {w:World} {O:List Nat} (hO:∀k∈O,k<w.heap.size) {x:Bool} (N:FP=some x):
 Ok Try.prog 10 [] w O vB x:=by
 unfold FP at N
 refine Br (n:=179) (xs:=[.tmp 0]) Try.func10 Au Try.ntmps10 Try.results10 Au ?_
 have hs:=St.start hO
 refine Aw<|Av<|Bn (Bo false) Au<|Ax<|Aw<|Av ?_
 obtain⟨W,gY,N⟩:=bd N
 refine A9<|Bi hs Try.call29 (JL hs.ltw gY) Au ?_
 rintro v2 w3 p7 e9 h5
 obtain⟨_,rfl,⟨_,_,rfl,⟨Aa,Ca,rfl,Fa⟩,⟨_,_,rfl,⟨Ab,Cb,rfl,Fb⟩,⟨Ac,Cc,rfl,Fc⟩⟩⟩⟩:=h5
 refine A9<|Bv B4 e9 ?_
 intro b9 jL _ gZ dG
 clear e9
 refine Bh<|C6 .z B4 dG Au Au Au Au Au ?_
 intro jM g1 bB
 clear dG
 refine Ax<|Aw<|Av<|A9<|B1 0 B4 bB Au Au Au ?_
 obtain⟨A,fA,N⟩:=bd N
 have d2:=(gZ.trans g1)
 replace Fb:=Fb.step d2;replace Fa:=Fa.step d2;replace Fc:=Fc.step d2
 refine A9<|Bi bB Try.call13 (GF (p:=W) bB.ltw Fa Fb Fc fA) Au ?_
 rintro jN jO g2 dH g3
 clear bB
 obtain⟨jP,jQ,jR,rfl,g4,g5,g6⟩:=g3
 obtain⟨_,rfl,⟨_,_,rfl,⟨Ad,Cd,rfl,Fd⟩,⟨Ae,Ce,rfl,Fe⟩⟩⟩:=g4
 obtain rfl:=g5
 obtain⟨rfl,Ra⟩:=g6
 refine Bb (Value.tuple [Value.agg [Sl Ad A.1.variables Cd,Sl Ae A.1.places Ce].toArray,Bo A.2.1,Iv A.2.2].toArray) Au<|A9<|Bk (v:=Value.agg [Sl Ad A.1.variables Cd,Sl Ae A.1.places Ce].toArray) Au Au<|A9<|Bk (v:=Bo A.2.1) Au Au<|A9<|Bk (v:=Iv A.2.2) Au Au<|A9<|Bv DT dH ?_
 intro aB jS _ fB dI
 clear dH
 refine Bh<|C6 .z DT dI Au Au Au Au Au ?_
 intro jT fC dJ
 clear dI
 refine Bn (Bo A.2.1) Au<|Bn (Iv A.2.2) Au<|Ax<|Aw<|Av<|A9<|Bm (cs:=[Iv 1,Iv 2]) (parts:=[(0,.const (.int .i64 1)),(1,.const (.int .i64 2))]) Bl B6 dJ (by decide) Au ?_
 intro aI jU hV fD dK
 clear dJ
 refine A9<|DM (vs:=[Iv 0,Iv 1]) (parts:=[(1,.const (.int .i64 1))]) C5 US Au<|A9<|Bm (cs:=[Iv 0,Iv 1]) (parts:=[(0,.tmp 29)]) Eo C5 dK (by decide) Au ?_
 intro aD fE hW fF dL
 clear dK
 have d3:=Gs.of_cells (p:=(AL .i64)) (e:=3) (bl:=aI) (c:=2) (w:=fE) (O:=ks [(some aD,Oc [Iv 0,Iv 1] 45),(some aI,Oc [Iv 1,Iv 2] 3),(some aB,Oc [Sl Ad A.1.variables Cd,Sl Ae A.1.places Ce] 34),(some b9,Oc (BS W Aa Ca Ab Cb Ac Cc) 26)] O) (show E0 (AL .i64) _ _ [Iv 1,Iv 2] [1,2] from⟨_,_,Au,AU Ol,⟨_,_,Au,AU (show Cx .i64 2 from by decide),E0.nil⟩⟩) Au (BQ Au)
 have d4:=Gs.of_cells (p:=AO) (e:=45) (bl:=aD) (c:=1) (w:=fE) (O:=ks [(some aD,Oc [Iv 0,Iv 1] 45),(some aI,Obj.cells [Iv 1,Iv 2].toArray 3),(some aB,Oc [Sl Ad A.1.variables Cd,Sl Ae A.1.places Ce] 34),(some b9,Oc (BS W Aa Ca Ab Cb Ac Cc) 26)] O) (show E0 AO _ _ [Iv 0,Iv 1] [(⟨0,1⟩:Az)] from⟨_,_,Au,C2 (AW (AU E1) (AU Ol)),E0.nil⟩) Au (BQ Au)
 refine A9<|DM (vs:=[Sl (some ⟨aI,0,none⟩) [1,2] 2,Sl (some ⟨aD,0,none⟩) [(⟨0,1⟩:Az)] 1]) (parts:=[(0,.tmp 28),(1,.tmp 30)]) DT RC Au<|A9<|Bv DT dL ?_
 intro aE jV _ d5 dM
 clear dL
 refine Bh<|C6 .z DT dM Au Au Au Au Au ?_
 intro jW d6 bC
 clear dM
 refine Ax<|Aw<|Av<|A9<|B1 4 B4 bC Au Au Au<|A9<|B1 0 DT bC Au Au Au ?_
 have fG:=(d5.trans d6)
 replace d3:=d3.step fG
 obtain⟨dN,d7,aT⟩:=Gs.publish (i:=2) bC Au d3
 clear bC
 replace d4:=d4.step (fG.trans d7)
 obtain⟨b1,d8,aO⟩:=Gs.publish (i:=1) dN Au d4
 clear dN
 obtain⟨G,fH,N⟩:=bd N
 replace aT:=aT.step d8
 have d9:=(g2.trans (fB.trans (fC.trans (fD.trans (fF.trans (d5.trans (d6.trans (d7.trans d8))))))))
 replace Fb:=Fb.step d9;replace Fa:=Fa.step d9;replace Fc:=Fc.step d9
 refine A9<|Bi b1 Try.call17 (Ga (p:=W) (r_:=(⟨[1,2],[(⟨0,1⟩:Az)]⟩:Ba)) b1.ltw Fa Fb Fc aT aO fH) Au ?_
 rintro jX jY fI b2 g7
 clear b1
 obtain⟨jZ,j0,rfl,g8,g9⟩:=g7
 obtain rfl:=g8
 obtain⟨rfl,Rb⟩:=g9
 refine Bb (Value.tuple [Bo G.1,Iv G.2].toArray) Au<|A9<|Bk (v:=Bo G.1) Au Au<|A9<|Bk (v:=Iv G.2) Au Au<|Bn (Bo G.1) Au<|Bn (Iv G.2) Au<|Ax<|Aw<|Wr [] [(1,Pt b9 0),(2,Pt aB 0),(3,Bo A.2.1),(4,Iv A.2.2),(5,Pt aE 0),(6,Bo G.1),(7,Iv G.2)] fun hX=>Av<|A9<|B1 2 B4 b2 Au Au Au<|A9<|Bm (cs:=[Iv 0,Iv 1]) (parts:=[(0,.const (.int .i64 0)),(1,.const (.int .i64 1))]) Bl B6 b2 (by decide) Au ?_
 intro eA hA hY fJ b3
 clear b2
 refine A9<|AQ 1 DT Au Eo Au Au<|A9<|AP 1 Eo b3 Au Au Au ?_
 have hB:=Gs.of_cells (p:=(AL .i64)) (e:=3) (bl:=eA) (c:=2) (w:=hA) (O:=ks [(some eA,Oc [Iv 0,Iv 1] 3),(some aE,Oc [Sl (some ⟨aI,0,none⟩) [1,2] 2,Sl (some ⟨aD,0,none⟩) [(⟨0,1⟩:Az)] 1] 34),(some aB,Oc [Sl Ad A.1.variables Cd,Sl Ae A.1.places Ce] 34),(some b9,Oc (BS W Aa Ca Ab Cb Ac Cc) 26)] O) (show E0 (AL .i64) _ _ [Iv 0,Iv 1] [0,1] from⟨_,_,Au,AU E1,⟨_,_,Au,AU Ol,E0.nil⟩⟩) Au (BQ Au)
 refine A9<|DM (vs:=[Sl (some ⟨eA,0,none⟩) [0,1] 2,Sl (some ⟨aD,0,none⟩) [(⟨0,1⟩:Az)] 1]) (parts:=[(0,.tmp 40),(1,.tmp 42)]) DT RC Au ?_
 obtain⟨b4,fK,fL⟩:=Gs.publish (i:=0) b3 Au hB
 clear b3
 obtain⟨I,fM,N⟩:=bd N
 have aW:=(fI.trans (fJ.trans fK))
 replace aO:=aO.step aW;replace Fb:=Fb.step aW;replace Fa:=Fa.step aW;replace Fc:=Fc.step aW
 refine A9<|Bi b4 Try.call17 (Ga (p:=W) (r_:=(⟨[0,1],[(⟨0,1⟩:Az)]⟩:Ba)) b4.ltw Fa Fb Fc fL aO fM) Au ?_
 rintro j1 j2 b5 a3 fN
 clear b4
 obtain⟨hZ,h0,rfl,fO,fP⟩:=fN
 obtain rfl:=fO
 obtain⟨rfl,Rc⟩:=fP
 refine Bb (Value.tuple [Bo I.1,Iv I.2].toArray) Au<|A9<|Bk (v:=Bo I.1) Au Au<|A9<|Bk (v:=Iv I.2) Au Au<|Bn (Bo I.1) Au<|Bn (Iv I.2) Au<|Ax<|Aw ?_
 clear fL
 refine Av<|A9<|B1 2 B4 a3 Au Au Au<|A9<|Bm (cs:=[Iv 1,Iv 2]) (parts:=[(0,.const (.int .i64 1)),(1,.const (.int .i64 2))]) Bl B6 a3 (by decide) Au ?_
 intro b6 fQ hC b7 b8
 clear a3
 have fR:=Gs.of_cells (p:=(AL .i64)) (e:=3) (bl:=b6) (c:=2) (w:=fQ) (O:=ks [(some b6,Oc [Iv 1,Iv 2] 3),(some aE,Oc [Sl (some ⟨aI,0,none⟩) [1,2] 2,Sl (some ⟨aD,0,none⟩) [(⟨0,1⟩:Az)] 1] 34),(some aB,Oc [Sl Ad A.1.variables Cd,Sl Ae A.1.places Ce] 34),(some b9,Oc (BS W Aa Ca Ab Cb Ac Cc) 26)] O) (show E0 (AL .i64) _ _ [Iv 1,Iv 2] [1,2] from⟨_,_,Au,AU Ol,⟨_,_,Au,AU (show Cx .i64 2 from by decide),E0.nil⟩⟩) Au (BQ Au)
 refine A9<|DM (vs:=[Sl (some ⟨b6,0,none⟩) [1,2] 2,Value.slice none 0 0]) (parts:=[(0,.tmp 49)]) DT RC Au ?_
 obtain⟨a4,cA,dO⟩:=Gs.publish (i:=0) b8 Au fR
 clear b8
 obtain⟨J,eB,N⟩:=bd N
 have bD:=(b5.trans (b7.trans cA))
 replace Fb:=Fb.step bD;replace Fa:=Fa.step bD;replace Fc:=Fc.step bD
 refine A9<|Bi a4 Try.call17 (Ga (p:=W) (r_:=(⟨[1,2],([]:List Az)⟩:Ba)) a4.ltw Fa Fb Fc dO CA.nil_ eB) Au ?_
 rintro h1 h2 bE cB fS
 clear a4
 obtain⟨h3,h4,rfl,fT,fU⟩:=fS
 obtain rfl:=fT
 obtain⟨rfl,Rd⟩:=fU
 refine Bb (Value.tuple [Bo J.1,Iv J.2].toArray) Au<|A9<|Bk (v:=Bo J.1) Au Au<|A9<|Bk (v:=Iv J.2) Au Au<|Bn (Bo J.1) Au<|Bn (Iv J.2) Au<|Ax<|Aw ?_
 clear dO
 refine Av<|A9<|Bm (cs:=[Value.slice none 0 0]) (parts:=[(0,.const (.slice none 0 0))]) Db Bl cB (by decide) Au ?_
 intro cC fV hD bF cD
 clear cB
 have fW:=Gs.of_cells (p:=BG (AL .i64)) (e:=31) (bl:=cC) (c:=1) (w:=fV) (O:=ks [(some cC,Oc [Value.slice none 0 0] 31),(some aE,Oc [Sl (some ⟨aI,0,none⟩) [1,2] 2,Sl (some ⟨aD,0,none⟩) [(⟨0,1⟩:Az)] 1] 34),(some aB,Oc [Sl Ad A.1.variables Cd,Sl Ae A.1.places Ce] 34),(some b9,Oc (BS W Aa Ca Ab Cb Ac Cc) 26)] O) (show E0 (BG (AL .i64)) _ _ [Value.slice none 0 0] [([]:List Int)] from⟨_,_,Au,B8 CA.nil_,E0.nil⟩) Au (BQ Au)
 refine A9<|DM (vs:=[Value.slice none 0 0,Sl (some ⟨cC,0,none⟩) [([]:List Int)] 1,Value.slice none 0 0]) (parts:=[(1,.tmp 55)]) B4 Wf Au ?_
 obtain⟨a5,bG,dP⟩:=Gs.publish (i:=0) cD Au fW
 clear cD
 obtain⟨F,eC,N⟩:=bd N
 refine A9<|Bi a5 Try.call13 (GF (p:=(⟨([]:List AK),[([]:List Int)],([]:List AM)⟩:A8)) a5.ltw CA.nil_ dP CA.nil_ eC) Au ?_
 rintro h6 h7 bH cE fX
 clear a5
 obtain⟨h8,h9,iA,rfl,fY,fZ,f0⟩:=fX
 obtain⟨_,rfl,⟨_,_,rfl,⟨Af,Cf,rfl,Ff⟩,⟨Ag,Cg,rfl,Fg⟩⟩⟩:=fY
 obtain rfl:=fZ
 obtain⟨rfl,Re⟩:=f0
 refine Bb (Value.tuple [Value.agg [Sl Af F.1.variables Cf,Sl Ag F.1.places Cg].toArray,Bo F.2.1,Iv F.2.2].toArray) Au<|A9<|Bk (v:=Value.agg [Sl Af F.1.variables Cf,Sl Ag F.1.places Cg].toArray) Au Au<|A9<|Bk (v:=Bo F.2.1) Au Au<|A9<|Bk (v:=Iv F.2.2) Au Au<|A9<|Bv DT cE ?_
 intro iB iC _ bI cF
 clear cE
 refine Bh<|C6 .z DT cF Au Au Au Au Au ?_
 intro iD bJ cG
 clear cF
 refine Bn (Bo F.2.1) Au<|Bn (Iv F.2.2) Au<|Ax<|Aw ?_
 obtain⟨cH,bK⟩:=cG.sub (bs':=[(some aE,Oc [Sl (some ⟨aI,0,none⟩) [1,2] 2,Sl (some ⟨aD,0,none⟩) [(⟨0,1⟩:Az)] 1] 34),(some aB,Oc [Sl Ad A.1.variables Cd,Sl Ae A.1.places Ce] 34),(some b9,Oc (BS W Aa Ca Ab Cb Ac Cc) 26)]) (.cons _ (.cons_cons _ (.cons_cons _ (.cons_cons _ List.Sublist.slnil))))
 clear dP Ff Fg
 clear cG
 refine Wr [] [(1,Pt b9 0),(2,Pt aB 0),(3,Bo A.2.1),(4,Iv A.2.2),(5,Pt aE 0),(6,Bo G.1),(7,Iv G.2),(8,Bo I.1),(9,Iv I.2),(10,Bo J.1),(11,Iv J.2),(13,Bo F.2.1),(14,Iv F.2.2)] fun hE=>Av<|A9<|Bm (cs:=[Value.slice none 0 0]) (parts:=[(0,.const (.slice none 0 0))]) Db Bl cH (by decide) Au ?_
 intro aJ f1 hF bL cI
 clear cH
 have cJ:=Gs.of_cells (p:=BG (AL .i64)) (e:=31) (bl:=aJ) (c:=1) (w:=f1) (O:=ks [(some aJ,Oc [Value.slice none 0 0] 31),(some aE,Oc [Sl (some ⟨aI,0,none⟩) [1,2] 2,Sl (some ⟨aD,0,none⟩) [(⟨0,1⟩:Az)] 1] 34),(some aB,Oc [Sl Ad A.1.variables Cd,Sl Ae A.1.places Ce] 34),(some b9,Oc (BS W Aa Ca Ab Cb Ac Cc) 26)] O) (show E0 (BG (AL .i64)) _ _ [Value.slice none 0 0] [([]:List Int)] from⟨_,_,Au,B8 CA.nil_,E0.nil⟩) Au (BQ Au)
 refine A9<|DM (vs:=[Value.slice none 0 0,Sl (some ⟨aJ,0,none⟩) [([]:List Int)] 1,Value.slice none 0 0]) (parts:=[(1,.tmp 61)]) B4 Wf Au<|A9<|Bv B4 cI ?_
 intro bM iE _ aX cK
 clear cI
 refine Bh<|C6 .z B4 cK Au Au Au Au Au ?_
 intro iF aY eD
 clear cK
 refine Ax<|Aw<|Aw<|Av<|Bb (Iv 0) Au<|Ax<|AC<|Wr [] [(1,Pt b9 0),(2,Pt aB 0),(3,Bo A.2.1),(4,Iv A.2.2),(5,Pt aE 0),(6,Bo G.1),(7,Iv G.2),(8,Bo I.1),(9,Iv I.2),(10,Bo J.1),(11,Iv J.2),(13,Bo F.2.1),(14,Iv F.2.2),(15,Pt bM 0),(63,Iv 0)] fun hG=>?_
 have cL:=eD.ghost (Obj.cells #[] 61)
 refine Bf XE (fun m fr w'=>∃(b0:Int) (aP:List AM) (Ah:Option Addr) (Ch:Nat) (aK:Option Nat) (aL:Obj) (aN:Be),aN=[(aK,aL),(some bM,Oc [Value.slice none 0 0,Sl (some ⟨aJ,0,none⟩) [([]:List Int)] 1,Sl Ah aP Ch] 26),(some aJ,Obj.cells [Value.slice none 0 0].toArray 31),(some aE,Oc [Sl (some ⟨aI,0,none⟩) [1,2] 2,Sl (some ⟨aD,0,none⟩) [(⟨0,1⟩:Az)] 1] 34),(some aB,Oc [Sl Ad A.1.variables Cd,Sl Ae A.1.places Ce] 34),(some b9,Oc (BS W Aa Ca Ab Cb Ac Cc) 26)]∧fr [] [(63,Iv b0)]∧cL.S (ks aN O) w'∧St ⟨w,[],[]⟩ O w' aN∧Cx .i64 b0∧Gs AS 61 w' (ks aN O) Ah Ch aP aK aL∧BC (Gr W A G I J F) m b0 aP=some x) (((17:Int) - 0).toNat+1) ⟨0,([]:List AM),none,0,none,Obj.cells #[] 61,_,Au,BB.of ⟨Au,trivial⟩,AA.refl _ _,cL,E1,Gs.nil_,N⟩ ?_ ?_
 rintro _ _ ⟨_,_,_,_,_,_,_,_,_,_,_,_,_,N⟩;exact DI N
 rintro iG iH eE hH iI ⟨b0,aP,Ah,Ch,aK,aL,_,rfl,bN,aH,aM,Rf,Fh,N⟩
 obtain⟨hI,dF,N⟩:=DJ N;unfold Gr at N
 rw [bN.eq];clear bN
 have a6:=aH
 refine Aw<|Av<|A9<|By Au Au<|Ax<|Aw<|AF N Au (fun eF N=>?_) (fun eF N=>?_)
 refine AG<|Aw<|AC<|Av<|A9<|AQ 2 B4 Au Cz Au Au<|A9<|AP 1 Cz aM Au Au Au<|A9<|Bm (cs:=[Iv 0]) (parts:=[(0,.const (.int .i64 0))]) Bl B6 aM (by decide) Au ?_
 intro aQ iJ hJ f2 cM
 clear aM
 refine A9<|DM (vs:=[Iv 0,Iv 0,Iv 0,Value.slice none 0 0]) (parts:=[]) FT Wg Au<|A9<|Bm (cs:=[Iv 0,Iv 0,Iv 0,Value.slice none 0 0]) (parts:=[(0,.tmp 68)]) FJ FT cM (by decide) Au ?_
 intro aR dQ hK f3 cN
 clear cM
 have f4:=Gs.of_cells (p:=(AL .i64)) (e:=3) (bl:=aQ) (c:=1) (w:=dQ) (O:=ks [(some aR,Oc [Iv 0,Iv 0,Iv 0,Value.slice none 0 0] 58),(some aQ,Oc [Iv 0] 3),(aK,aL),(some bM,Oc [Value.slice none 0 0,Sl (some ⟨aJ,0,none⟩) [([]:List Int)] 1,Sl Ah aP Ch] 26),(some aJ,Obj.cells [Value.slice none 0 0].toArray 31),(some aE,Oc [Sl (some ⟨aI,0,none⟩) [1,2] 2,Sl (some ⟨aD,0,none⟩) [(⟨0,1⟩:Az)] 1] 34),(some aB,Oc [Sl Ad A.1.variables Cd,Sl Ae A.1.places Ce] 34),(some b9,Oc (BS W Aa Ca Ab Cb Ac Cc) 26)] O) (show E0 (AL .i64) _ _ [Iv 0] [0] from⟨_,_,Au,AU E1,E0.nil⟩) Au (BQ Au)
 have cO:=Gs.of_cells (p:=Bt) (e:=58) (bl:=aR) (c:=1) (w:=dQ) (O:=ks [(some aR,Oc [Iv 0,Iv 0,Iv 0,Value.slice none 0 0] 58),(some aQ,Obj.cells [Iv 0].toArray 3),(aK,aL),(some bM,Oc [Value.slice none 0 0,Sl (some ⟨aJ,0,none⟩) [([]:List Int)] 1,Sl Ah aP Ch] 26),(some aJ,Obj.cells [Value.slice none 0 0].toArray 31),(some aE,Oc [Sl (some ⟨aI,0,none⟩) [1,2] 2,Sl (some ⟨aD,0,none⟩) [(⟨0,1⟩:Az)] 1] 34),(some aB,Oc [Sl Ad A.1.variables Cd,Sl Ae A.1.places Ce] 34),(some b9,Oc (BS W Aa Ca Ab Cb Ac Cc) 26)] O) (show E0 Bt _ _ [Iv 0,Iv 0,Iv 0,Value.slice none 0 0] [(⟨0,0,0,([]:List Bp)⟩:AN)] from⟨_,_,Au,C2 (AW (AU E1) (AW (AU E1) (AW (AU E1) (B8 CA.nil_)))),E0.nil⟩) Au (BQ Au)
 refine A9<|DM (vs:=[Iv 0,Iv 0,Sl (some ⟨aQ,0,none⟩) [0] 1,Sl (some ⟨aR,0,none⟩) [(⟨0,0,0,([]:List Bp)⟩:AN)] 1]) (parts:=[(2,.tmp 67),(3,.tmp 69)]) Dq Xi Au ?_
 obtain⟨cP,dR,bO⟩:=Gs.publish (i:=1) cN Au f4
 clear cN
 replace cO:=cO.step dR
 obtain⟨cQ,dS,bP⟩:=Gs.publish (i:=0) cP Au cO
 clear cP
 refine A9<|Bm (cs:=[Iv 0,Iv 0,Sl (some ⟨aQ,0,none⟩) [0] 1,Sl (some ⟨aR,0,none⟩) [(⟨0,0,0,([]:List Bp)⟩:AN)] 1]) (parts:=[(0,.tmp 70)]) Cz Dq cQ (by decide) Au ?_
 intro iK iL hL cR a7
 clear cQ
 obtain⟨cS,N⟩:=AE N
 replace bO:=bO.step (dS.trans cR);replace bP:=bP.step cR
 have dT:=(f2.trans (f3.trans (dR.trans (dS.trans cR))))
 replace Fh:=Fh.step dT
 refine A9 (FF (q:=AS) (i:=1) (xs:=aP) (ys:=[(⟨0,0,[0],[(⟨0,0,0,([]:List Bp)⟩:AN)]⟩:AM)]) (news:=[Iv 0,Iv 0,Sl (some ⟨aQ,0,none⟩) [0] 1,Sl (some ⟨aR,0,none⟩) [(⟨0,0,0,([]:List Bp)⟩:AN)] 1]) Cz Dq Au (by decide) a7 Au Au Fh Au (Oj.owned' (len:=4) (a7.get (i:=0) Au) Au) (show E0 AS _ _ [Iv 0,Iv 0,Sl (some ⟨aQ,0,none⟩) [0] 1,Sl (some ⟨aR,0,none⟩) [(⟨0,0,0,([]:List Bp)⟩:AN)] 1] [(⟨0,0,[0],[(⟨0,0,0,([]:List Bp)⟩:AN)]⟩:AM)] from⟨_,_,Au,C2 (AW (AU E1) (AW (AU E1) (AW (B8 bO) (B8 bP)))),E0.nil⟩) cS (by have:=cS;simp only [maxLen];omega) ?_)
 intro cT cU f5 f6 iM f7 a8 cV
 clear a7
 have cW:=a8.drop 0
 have dU:=(a8.dropS 0)
 clear a8
 refine A9<|AQ 2 B4 Au Cz Au Au<|Bh<|KC (Sl cT (aP++[(⟨0,0,[0],[(⟨0,0,0,([]:List Bp)⟩:AN)]⟩:AM)]) cU) (cs':=[Value.slice none 0 0,Sl (some ⟨aJ,0,none⟩) [([]:List Int)] 1,Sl cT (aP++[(⟨0,0,[0],[(⟨0,0,0,([]:List Bp)⟩:AN)]⟩:AM)]) cU]) Ip.p1 Cz cW Au Au Au (BQ Au) Au Au ?_
 intro iN dV eG
 clear cW
 refine Ax ?_
 clear bO bP
 refine Av<|A9<|Bg Au Au<|Bb (Iv (wq (b0+1))) Au<|Ax ?_
 replace a6:=a6.trans (dT.trans (f7.trans (dU.trans dV)))
 replace cV:=cV.step (dU.trans dV)
 exact eE _ _ ⟨(wq (b0+1)),aP++[(⟨0,0,[0],[(⟨0,0,0,([]:List Bp)⟩:AN)]⟩:AM)],cT,cU,f5,f6,_,Au,BB.of ⟨Au,trivial⟩,a6,eG,(AT .i64 _),cV,GV dF N⟩
 refine Bq<|Aw<|Av<|A9<|B1 1 B4 aM Au Au Au ?_
 replace cJ:=cJ.step (aX.trans (aY.trans aH))
 obtain⟨cX,aZ,bQ⟩:=Gs.publish (i:=2) aM Au cJ
 clear aM
 replace Fh:=Fh.step aZ
 obtain⟨a9,a0,dW⟩:=Gs.publish (i:=0) cX Au Fh
 clear cX
 obtain⟨M,eH,N⟩:=bd N
 replace bQ:=bQ.step a0
 refine A9<|Bi a9 Try.call13 (GF (p:=(⟨([]:List AK),[([]:List Int)],aP⟩:A8)) a9.ltw CA.nil_ bQ dW eH) Au ?_
 rintro iO iP bR cY f8
 clear a9
 obtain⟨iQ,iR,iS,rfl,f9,gA,gB⟩:=f8
 obtain⟨_,rfl,⟨_,_,rfl,⟨Ai,Ci,rfl,Fi⟩,⟨Aj,Cj,rfl,Fj⟩⟩⟩:=f9
 obtain rfl:=gA
 obtain⟨rfl,Rg⟩:=gB
 refine Bb (Value.tuple [Value.agg [Sl Ai M.1.variables Ci,Sl Aj M.1.places Cj].toArray,Bo M.2.1,Iv M.2.2].toArray) Au<|A9<|Bk (v:=Value.agg [Sl Ai M.1.variables Ci,Sl Aj M.1.places Cj].toArray) Au Au<|A9<|Bk (v:=Bo M.2.1) Au Au<|A9<|Bk (v:=Iv M.2.2) Au Au<|A9<|Bv DT cY ?_
 intro iT iU _ bS cZ
 clear cY
 refine Bh<|C6 .z DT cZ Au Au Au Au Au ?_
 intro iV bT c0
 clear cZ
 refine Bn (Bo M.2.1) Au<|Bn (Iv M.2.2) Au<|Ax<|Aw ?_
 obtain⟨aS,bU⟩:=c0.sub (bs':=[(some aE,Oc [Sl (some ⟨aI,0,none⟩) [1,2] 2,Sl (some ⟨aD,0,none⟩) [(⟨0,1⟩:Az)] 1] 34),(some aB,Oc [Sl Ad A.1.variables Cd,Sl Ae A.1.places Ce] 34),(some b9,Oc (BS W Aa Ca Ab Cb Ac Cc) 26)]) (.cons _ (.cons _ (.cons_cons _ (.cons_cons _ (.cons_cons _ List.Sublist.slnil)))))
 clear bQ dW Fi Fj
 clear c0
 refine Av<|A9<|B1 2 B4 aS Au Au Au<|A9<|B1 0 DT aS Au Au Au ?_
 obtain⟨BR,eI,N⟩:=bd N
 replace aT:=aT.step (aW.trans (b5.trans (b7.trans (cA.trans (bE.trans (bF.trans (bG.trans (bH.trans (bI.trans (bJ.trans (bK.trans (bL.trans (aX.trans (aY.trans (aH.trans (aZ.trans (a0.trans (bR.trans (bS.trans (bT.trans bU))))))))))))))))))))
 replace aO:=aO.step (bD.trans (bE.trans (bF.trans (bG.trans (bH.trans (bI.trans (bJ.trans (bK.trans (bL.trans (aX.trans (aY.trans (aH.trans (aZ.trans (a0.trans (bR.trans (bS.trans (bT.trans bU)))))))))))))))))
 have c1:=(bE.trans (bF.trans (bG.trans (bH.trans (bI.trans (bJ.trans (bK.trans (bL.trans (aX.trans (aY.trans (aH.trans (aZ.trans (a0.trans (bR.trans (bS.trans (bT.trans bU))))))))))))))))
 replace Fb:=Fb.step c1;replace Fa:=Fa.step c1;replace Fc:=Fc.step c1
 refine A9<|Bi aS Try.call20 (Nu (p:=W) (r_:=(⟨[1,2],[(⟨0,1⟩:Az)]⟩:Ba)) aS.ltw Fa Fb Fc aT aO eI) Au ?_
 rintro iW iX c2 c3 gC
 clear aS
 obtain⟨iY,iZ,rfl,gD,gE⟩:=gC
 obtain⟨_,rfl,⟨_,_,rfl,⟨Ak,Ck,rfl,Fk⟩,⟨_,_,rfl,⟨Al,Cl,rfl,Fl⟩,⟨Am,Cm,rfl,Fm⟩⟩⟩⟩:=gD
 obtain⟨rfl,Rh⟩:=gE
 refine Bb (Value.tuple [Value.agg [Sl Ak BR.1.cells Ck,Sl Al BR.1.capacity Cl,Sl Am BR.1.variables Cm].toArray,Iv BR.2].toArray) Au<|A9<|Bk (v:=Value.agg [Sl Ak BR.1.cells Ck,Sl Al BR.1.capacity Cl,Sl Am BR.1.variables Cm].toArray) Au Au<|A9<|Bk (v:=Iv BR.2) Au Au<|A9<|Bv B4 c3 ?_
 intro a1 i0 _ bV c4
 clear c3
 refine Bh<|C6 .z B4 c4 Au Au Au Au Au ?_
 intro i1 bW Y
 clear c4
 refine Bn (Iv BR.2) Au<|Ax<|Aw<|Wr [] [(1,Pt b9 0),(2,Pt aB 0),(3,Bo A.2.1),(4,Iv A.2.2),(5,Pt aE 0),(6,Bo G.1),(7,Iv G.2),(8,Bo I.1),(9,Iv I.2),(10,Bo J.1),(11,Iv J.2),(13,Bo F.2.1),(14,Iv F.2.2),(18,Iv M.2.2),(19,Pt a1 0),(20,Iv BR.2)] fun hM=>?_
 obtain⟨gF,eJ,N⟩:=Cy N
 refine CE XH (fun fr w'=>∃(eK:Bool) (aN:Be),aN=[(some a1,Oc [Sl Ak BR.1.cells Ck,Sl Al BR.1.capacity Cl,Sl Am BR.1.variables Cm] 26),(some aE,Oc [Sl (some ⟨aI,0,none⟩) [1,2] 2,Sl (some ⟨aD,0,none⟩) [(⟨0,1⟩:Az)] 1] 34),(some aB,Oc [Sl Ad A.1.variables Cd,Sl Ae A.1.places Ce] 34),(some b9,Oc (BS W Aa Ca Ab Cb Ac Cc) 26)]∧fr [] [(119,Bo eK)]∧Y.S (ks aN O) w'∧St ⟨w,[],[]⟩ O w' aN∧gF eK=some x) ?_ ?_
 rintro hN i2 ⟨eK,_,rfl,bX,aU,aC,N⟩
 replace N:=Dc eJ N
 rw [bX.eq];clear bX
 refine AF N Au (fun eL N=>?_) (fun eL N=>?_)
 refine Aw ?_
 obtain⟨eM,i3⟩:=aC.sub (bs':=[]) (.cons _ (.cons _ (.cons _ (.cons _ List.Sublist.slnil))))
 clear Fa Fb Fc Fd Fe aT aO Fk Fl Fm
 clear aC
 refine Av<|Bn (Bo false) Au<|Ax<|AV<|⟨_,DX,[Bo false],⟨Au,trivial⟩,eM.ext,?_⟩
 exact Vr.eq (a:=vB) (x:=false) Au (oi N)
 refine AG<|Wr [] [(2,Pt aB 0),(3,Bo A.2.1),(5,Pt aE 0),(6,Bo G.1),(8,Bo I.1),(10,Bo J.1),(13,Bo F.2.1),(19,Pt a1 0)] fun hP=>?_
 obtain⟨gG,eN,N⟩:=Cy N
 refine CE XF (fun fr w'=>∃(c5:Bool) (aN:Be),aN=[(some a1,Oc [Sl Ak BR.1.cells Ck,Sl Al BR.1.capacity Cl,Sl Am BR.1.variables Cm] 26),(some aE,Oc [Sl (some ⟨aI,0,none⟩) [1,2] 2,Sl (some ⟨aD,0,none⟩) [(⟨0,1⟩:Az)] 1] 34),(some aB,Oc [Sl Ad A.1.variables Cd,Sl Ae A.1.places Ce] 34),(some b9,Oc (BS W Aa Ca Ab Cb Ac Cc) 26)]∧fr [] [(0,Bo c5)]∧aC.S (ks aN O) w'∧St ⟨w,[],[]⟩ O w' aN∧gG c5=some x) ?_ ?_
 rintro hQ i4 ⟨c5,_,rfl,bY,gX,eO,N⟩
 replace N:=Dc eN N
 rw [bY.eq];clear bY
 refine AV<|⟨_,DX,[Bo c5],⟨Au,trivial⟩,eO.ext,?_⟩
 exact Vr.eq (a:=vB) (x:=c5) Au (oi N)
 intro i5 Z
 have U:=aC.stepR
 refine Av<|Bb (Bo A.2.1) Au<|Bb (Bo A.2.1) Au<|Bz N (fun eP N=>?_) (fun eP N=>?_)
 refine BO Au Au<|B1 2 DT aC Au Au Au<|BO Au Au<|B1 1 DT aC Au Au Au ?_
 obtain⟨bZ,eQ,N⟩:=bd N
 have dX:=(c2.trans (bV.trans (bW.trans aU)))
 replace aT:=aT.step dX;replace aO:=aO.step dX
 have dY:=(fB.trans (fC.trans (fD.trans (fF.trans (d5.trans (d6.trans (d7.trans (d8.trans (fI.trans (fJ.trans (fK.trans (b5.trans (b7.trans (cA.trans (bE.trans (bF.trans (bG.trans (bH.trans (bI.trans (bJ.trans (bK.trans (bL.trans (aX.trans (aY.trans (aH.trans (aZ.trans (a0.trans (bR.trans (bS.trans (bT.trans (bU.trans (c2.trans (bV.trans (bW.trans aU))))))))))))))))))))))))))))))))))
 replace Fe:=Fe.step dY;replace Fd:=Fd.step dY
 refine BO Au Au<|Bi aC Try.call27 (J6 (a:=A.1) (b:=(⟨[1,2],[(⟨0,1⟩:Az)]⟩:Ba)) aC.ltw Fd Fe aT aO eQ) Au ?_
 rintro i6 i7 aF X gH
 obtain rfl:=gH
 refine FM (Bo bZ) Au Au<|Bb (Bo bZ) Au<|Bz N (fun eR N=>?_) (fun eR N=>?_)
 refine BO Au Au<|AD (v:=Bo G.1) Au<|FM (Bo G.1) Au Au<|Bb (Bo G.1) Au<|Bz N (fun eS N=>?_) (fun eS N=>?_)
 refine BO Au Au<|AD (v:=Bo I.1) Au<|BO Au Au<|Do Au<|FM (Bo (!I.1)) Au Au<|Bb (Bo (!I.1)) Au<|Bz N (fun eT N=>?_) (fun eT N=>?_)
 refine BO Au Au<|AD (v:=Bo J.1) Au<|BO Au Au<|Do Au<|FM (Bo (!J.1)) Au Au<|Bb (Bo (!J.1)) Au<|Bz N (fun eU N=>?_) (fun eU N=>?_)
 refine BO Au Au<|AD (v:=Bo F.2.1) Au<|BO Au Au<|Do Au<|FM (Bo (!F.2.1)) Au Au<|Bb (Bo (!F.2.1)) Au<|Bz N (fun eV N=>?_) (fun eV N=>?_)
 refine BO Au Au<|AQ 2 B4 Au Cz Au Au<|BO Au Au<|AP 0 Cz X Au Au Au<|BO Au Au<|AZ Try.underlying24 Au ?_
 have dZ:=(bV.trans (bW.trans (aU.trans aF)))
 replace Fm:=Fm.step dZ
 have hR:=AX Fm
 refine BO Au Au<|HI Au Au<|FM (Bo (decide ((BR.1.variables.length:Int)=2))) Au Au<|Bb (Bo (decide ((BR.1.variables.length:Int)=2))) Au<|Bz N (fun eW N=>?_) (fun eW N=>?_)
 refine BO Au Au<|AQ 1 B4 Au Db Au Au<|BO Au Au<|AP 0 Db X Au Au Au<|BO Au Au<|AZ Try.underlying23 Au ?_
 replace Fl:=Fl.step dZ
 have hS:=AX Fl
 refine BO Au Au<|HI Au Au<|FM (Bo (decide ((BR.1.capacity.length:Int)=1))) Au Au<|Bb (Bo (decide ((BR.1.capacity.length:Int)=1))) Au<|Bz N (fun eX N=>?_) (fun eX N=>?_)
 refine BO Au Au<|AQ 1 B4 Au Db Au Au<|BO Au Au<|AP 0 Db X Au Au Au ?_
 obtain⟨c6,N⟩:=AE N
 refine BO Au Au<|AB (q:=BG (AL .i64)) Db Bl Au Au Fl Au c6.1 c6.2 ?_
 intro i8 gI
 refine BO Au Au<|AR Bl Au gI Au ?_
 intro i9 gJ
 obtain⟨An,Cn,rfl,Fn⟩:=B9 gJ
 refine BO Au Au<|AZ Try.underlying31 Au ?_
 have hT:=AX Fn
 refine BO Au Au<|HI Au Au<|FM (Bo (decide (((BR.1.capacity.getD 0 default).length:Int)=2))) Au Au<|Bb (Bo (decide (((BR.1.capacity.getD 0 default).length:Int)=2))) Au<|Bz N (fun eY N=>?_) (fun eY N=>?_)
 refine BO Au Au<|AQ 1 B4 Au Db Au Au<|BO Au Au<|AP 0 Db X Au Au Au ?_
 obtain⟨c7,N⟩:=AE N
 refine BO Au Au<|AB (q:=BG (AL .i64)) Db Bl Au Au Fl Au c7.1 c7.2 ?_
 intro jA gK
 refine BO Au Au<|AR Bl Au gK Au ?_
 intro jB gL
 obtain⟨Ao,Co,rfl,Fo⟩:=B9 gL
 obtain⟨c8,N⟩:=AE N
 refine BO Au Au<|AB (q:=(AL .i64)) Bl B6 Au Au Fo Au c8.1 c8.2 ?_
 intro jC gM
 refine BO Au Au<|AR B6 Au gM Au ?_
 intro jD gN
 obtain⟨rfl,Ri⟩:=BK gN
 refine BO Au Au<|HI Au Au<|FM (Bo (decide (((BR.1.capacity.getD 0 default).getD 0 default)=4096))) Au Au<|Bb (Bo (decide (((BR.1.capacity.getD 0 default).getD 0 default)=4096))) Au<|Bz N (fun eZ N=>?_) (fun eZ N=>?_)
 refine BO Au Au<|AQ 1 B4 Au Db Au Au<|BO Au Au<|AP 0 Db X Au Au Au ?_
 obtain⟨c9,N⟩:=AE N
 refine BO Au Au<|AB (q:=BG (AL .i64)) Db Bl Au Au Fl Au c9.1 c9.2 ?_
 intro jE gO
 refine BO Au Au<|AR Bl Au gO Au ?_
 intro jF gP
 obtain⟨Ap,Cp,rfl,Fp⟩:=B9 gP
 obtain⟨dA,N⟩:=AE N
 refine BO Au Au<|AB (q:=(AL .i64)) Bl B6 Au Au Fp Au dA.1 dA.2 ?_
 intro gQ dB
 replace dB:Ia (AL .i64) _ _ gQ ((BR.1.capacity.getD 0 default).getD 1 default):=dB
 refine BO Au Au<|AR B6 Au dB Au ?_
 intro jG gR
 obtain⟨rfl,Rj⟩:=BK gR
 refine BO Au Au<|HI Au Au<|FM (Bo (decide (((BR.1.capacity.getD 0 default).getD 1 default)=1))) Au Au<|Bn (Bo (decide (((BR.1.capacity.getD 0 default).getD 1 default)=1))) Au<|Ax ?_
 replace U:=U.trans aF
 exact Z _ _ ⟨decide (((BR.1.capacity.getD 0 default).getD 1 default)=1),_,Au,BB.of ⟨Au,trivial⟩,U,X,N⟩
 iterate 7 refine AI Au (AJ Au Au) Au ?_
 refine F8 (Bo false) Au Au<|Bn (Bo false) Au<|Ax ?_
 replace U:=U.trans aF
 exact Z _ _ ⟨false,_,Au,BB.of ⟨Au,trivial⟩,U,X,N⟩
 iterate 7 refine AI Au (AJ Au Au) Au ?_
 refine F8 (Bo false) Au Au<|Bb (Bo false) Au ?_
 iterate 7 refine AI Au (AJ Au Au) Au ?_
 refine F8 (Bo false) Au Au<|Bn (Bo false) Au<|Ax ?_
 replace U:=U.trans aF
 exact Z _ _ ⟨false,_,Au,BB.of ⟨Au,trivial⟩,U,X,N⟩
 iterate 6 refine AI Au (AJ Au Au) Au ?_
 refine F8 (Bo false) Au Au<|Bb (Bo false) Au ?_
 iterate 7 refine AI Au (AJ Au Au) Au ?_
 refine F8 (Bo false) Au Au<|Bb (Bo false) Au ?_
 iterate 7 refine AI Au (AJ Au Au) Au ?_
 refine F8 (Bo false) Au Au<|Bn (Bo false) Au<|Ax ?_
 replace U:=U.trans aF
 exact Z _ _ ⟨false,_,Au,BB.of ⟨Au,trivial⟩,U,X,N⟩
 iterate 4 refine AI Au (AJ Au Au) Au ?_
 refine F8 (Bo false) Au Au<|Bb (Bo false) Au ?_
 iterate 6 refine AI Au (AJ Au Au) Au ?_
 refine F8 (Bo false) Au Au<|Bb (Bo false) Au ?_
 iterate 7 refine AI Au (AJ Au Au) Au ?_
 refine F8 (Bo false) Au Au<|Bb (Bo false) Au ?_
 iterate 7 refine AI Au (AJ Au Au) Au ?_
 refine F8 (Bo false) Au Au<|Bn (Bo false) Au<|Ax ?_
 replace U:=U.trans aF
 exact Z _ _ ⟨false,_,Au,BB.of ⟨Au,trivial⟩,U,X,N⟩
 iterate 4 refine AI Au (AJ Au Au) Au ?_
 refine F8 (Bo false) Au Au<|Bb (Bo false) Au ?_
 iterate 4 refine AI Au (AJ Au Au) Au ?_
 refine F8 (Bo false) Au Au<|Bb (Bo false) Au ?_
 iterate 6 refine AI Au (AJ Au Au) Au ?_
 refine F8 (Bo false) Au Au<|Bb (Bo false) Au ?_
 iterate 7 refine AI Au (AJ Au Au) Au ?_
 refine F8 (Bo false) Au Au<|Bb (Bo false) Au ?_
 iterate 7 refine AI Au (AJ Au Au) Au ?_
 refine F8 (Bo false) Au Au<|Bn (Bo false) Au<|Ax ?_
 replace U:=U.trans aF
 exact Z _ _ ⟨false,_,Au,BB.of ⟨Au,trivial⟩,U,X,N⟩
 refine AI Au (AJ Au Au) Au<|AI Au (AJ Au Au) Au<|F8 (Bo false) Au Au<|Bb (Bo false) Au ?_
 iterate 4 refine AI Au (AJ Au Au) Au ?_
 refine F8 (Bo false) Au Au<|Bb (Bo false) Au ?_
 iterate 4 refine AI Au (AJ Au Au) Au ?_
 refine F8 (Bo false) Au Au<|Bb (Bo false) Au ?_
 iterate 6 refine AI Au (AJ Au Au) Au ?_
 refine F8 (Bo false) Au Au<|Bb (Bo false) Au ?_
 iterate 7 refine AI Au (AJ Au Au) Au ?_
 refine F8 (Bo false) Au Au<|Bb (Bo false) Au ?_
 iterate 7 refine AI Au (AJ Au Au) Au ?_
 refine F8 (Bo false) Au Au<|Bn (Bo false) Au<|Ax ?_
 replace U:=U.trans aF
 exact Z _ _ ⟨false,_,Au,BB.of ⟨Au,trivial⟩,U,X,N⟩
 refine AI Au (AJ Au Au) Au<|AI Au (AJ Au Au) Au<|F8 (Bo false) Au Au<|Bb (Bo false) Au<|AI Au (AJ Au Au) Au<|AI Au (AJ Au Au) Au<|F8 (Bo false) Au Au<|Bb (Bo false) Au ?_
 iterate 4 refine AI Au (AJ Au Au) Au ?_
 refine F8 (Bo false) Au Au<|Bb (Bo false) Au ?_
 iterate 4 refine AI Au (AJ Au Au) Au ?_
 refine F8 (Bo false) Au Au<|Bb (Bo false) Au ?_
 iterate 6 refine AI Au (AJ Au Au) Au ?_
 refine F8 (Bo false) Au Au<|Bb (Bo false) Au ?_
 iterate 7 refine AI Au (AJ Au Au) Au ?_
 refine F8 (Bo false) Au Au<|Bb (Bo false) Au ?_
 iterate 7 refine AI Au (AJ Au Au) Au ?_
 refine F8 (Bo false) Au Au<|Bn (Bo false) Au<|Ax ?_
 replace U:=U.trans aF
 exact Z _ _ ⟨false,_,Au,BB.of ⟨Au,trivial⟩,U,X,N⟩
 refine AI Au (AJ Au Au) Au<|AI Au (AJ Au Au) Au<|F8 (Bo false) Au Au<|Bb (Bo false) Au<|AI Au (AJ Au Au) Au<|AI Au (AJ Au Au) Au<|F8 (Bo false) Au Au<|Bb (Bo false) Au<|AI Au (AJ Au Au) Au<|AI Au (AJ Au Au) Au<|F8 (Bo false) Au Au<|Bb (Bo false) Au ?_
 iterate 4 refine AI Au (AJ Au Au) Au ?_
 refine F8 (Bo false) Au Au<|Bb (Bo false) Au ?_
 iterate 4 refine AI Au (AJ Au Au) Au ?_
 refine F8 (Bo false) Au Au<|Bb (Bo false) Au ?_
 iterate 6 refine AI Au (AJ Au Au) Au ?_
 refine F8 (Bo false) Au Au<|Bb (Bo false) Au ?_
 iterate 7 refine AI Au (AJ Au Au) Au ?_
 refine F8 (Bo false) Au Au<|Bb (Bo false) Au ?_
 iterate 7 refine AI Au (AJ Au Au) Au ?_
 refine F8 (Bo false) Au Au<|Bn (Bo false) Au<|Ax ?_
 replace U:=U.trans aF
 exact Z _ _ ⟨false,_,Au,BB.of ⟨Au,trivial⟩,U,X,N⟩
 refine AI Au (AJ Au Au) Au<|F8 (Bo false) Au Au<|Bb (Bo false) Au<|AI Au (AJ Au Au) Au<|AI Au (AJ Au Au) Au<|F8 (Bo false) Au Au<|Bb (Bo false) Au<|AI Au (AJ Au Au) Au<|AI Au (AJ Au Au) Au<|F8 (Bo false) Au Au<|Bb (Bo false) Au<|AI Au (AJ Au Au) Au<|AI Au (AJ Au Au) Au<|F8 (Bo false) Au Au<|Bb (Bo false) Au ?_
 iterate 4 refine AI Au (AJ Au Au) Au ?_
 refine F8 (Bo false) Au Au<|Bb (Bo false) Au ?_
 iterate 4 refine AI Au (AJ Au Au) Au ?_
 refine F8 (Bo false) Au Au<|Bb (Bo false) Au ?_
 iterate 6 refine AI Au (AJ Au Au) Au ?_
 refine F8 (Bo false) Au Au<|Bb (Bo false) Au ?_
 iterate 7 refine AI Au (AJ Au Au) Au ?_
 refine F8 (Bo false) Au Au<|Bb (Bo false) Au ?_
 iterate 7 refine AI Au (AJ Au Au) Au ?_
 refine F8 (Bo false) Au Au<|Bn (Bo false) Au<|Ax ?_
 replace U:=U.trans aF
 exact Z _ _ ⟨false,_,Au,BB.of ⟨Au,trivial⟩,U,X,N⟩
 iterate 3 refine AI Au (AJ Au Au) Au ?_
 refine F8 (Bo false) Au Au<|Bb (Bo false) Au<|AI Au (AJ Au Au) Au<|F8 (Bo false) Au Au<|Bb (Bo false) Au<|AI Au (AJ Au Au) Au<|AI Au (AJ Au Au) Au<|F8 (Bo false) Au Au<|Bb (Bo false) Au<|AI Au (AJ Au Au) Au<|AI Au (AJ Au Au) Au<|F8 (Bo false) Au Au<|Bb (Bo false) Au<|AI Au (AJ Au Au) Au<|AI Au (AJ Au Au) Au<|F8 (Bo false) Au Au<|Bb (Bo false) Au ?_
 iterate 4 refine AI Au (AJ Au Au) Au ?_
 refine F8 (Bo false) Au Au<|Bb (Bo false) Au ?_
 iterate 4 refine AI Au (AJ Au Au) Au ?_
 refine F8 (Bo false) Au Au<|Bb (Bo false) Au ?_
 iterate 6 refine AI Au (AJ Au Au) Au ?_
 refine F8 (Bo false) Au Au<|Bb (Bo false) Au ?_
 iterate 7 refine AI Au (AJ Au Au) Au ?_
 refine F8 (Bo false) Au Au<|Bb (Bo false) Au ?_
 iterate 7 refine AI Au (AJ Au Au) Au ?_
 exact F8 (Bo false) Au Au<|Bn (Bo false) Au<|Ax<|Z _ _ ⟨false,_,Au,BB.of ⟨Au,trivial⟩,U,aC,N⟩
 intro jH aG
 have aA:=Y.stepR
 refine Av<|Bb (Iv A.2.2) Au<|A9<|Eh Au Au<|Bb (Bo (decide (A.2.2≠0))) Au<|Bz N (fun e0 N=>?_) (fun e0 N=>?_)
 refine AI Au (AJ Au Au) Au<|AI Au (AJ Au Au) Au<|FM (Bo true) Au Au<|Bb (Bo true) Au<|AI Au (AJ Au Au) Au<|AI Au (AJ Au Au) Au<|FM (Bo true) Au Au<|Bb (Bo true) Au<|AI Au (AJ Au Au) Au<|AI Au (AJ Au Au) Au<|FM (Bo true) Au Au<|Bb (Bo true) Au<|AI Au (AJ Au Au) Au<|AI Au (AJ Au Au) Au<|FM (Bo true) Au Au<|Bb (Bo true) Au<|AI Au (AJ Au Au) Au<|AI Au (AJ Au Au) Au<|FM (Bo true) Au Au<|Bb (Bo true) Au<|AI Au (AJ Au Au) Au<|AI Au (AJ Au Au) Au<|FM (Bo true) Au Au<|Bb (Bo true) Au ?_
 iterate 5 refine AI Au (AJ Au Au) Au ?_
 exact FM (Bo true) Au Au<|Ax<|aG _ _ ⟨true,_,Au,BB.of ⟨Au,trivial⟩,aA,Y,N⟩
 refine BO Au Au<|AD (v:=Iv G.2) Au<|BO Au Au<|Eh Au Au<|F8 (Bo (decide (G.2≠0))) Au Au<|Bb (Bo (decide (G.2≠0))) Au<|Bz N (fun e1 N=>?_) (fun e1 N=>?_)
 refine AI Au (AJ Au Au) Au<|AI Au (AJ Au Au) Au<|FM (Bo true) Au Au<|Bb (Bo true) Au<|AI Au (AJ Au Au) Au<|AI Au (AJ Au Au) Au<|FM (Bo true) Au Au<|Bb (Bo true) Au<|AI Au (AJ Au Au) Au<|AI Au (AJ Au Au) Au<|FM (Bo true) Au Au<|Bb (Bo true) Au<|AI Au (AJ Au Au) Au<|AI Au (AJ Au Au) Au<|FM (Bo true) Au Au<|Bb (Bo true) Au<|AI Au (AJ Au Au) Au<|AI Au (AJ Au Au) Au<|FM (Bo true) Au Au<|Bb (Bo true) Au ?_
 iterate 5 refine AI Au (AJ Au Au) Au ?_
 exact FM (Bo true) Au Au<|Ax<|aG _ _ ⟨true,_,Au,BB.of ⟨Au,trivial⟩,aA,Y,N⟩
 refine BO Au Au<|AD (v:=Iv I.2) Au<|BO Au Au<|Eh Au Au<|F8 (Bo (decide (I.2≠0))) Au Au<|Bb (Bo (decide (I.2≠0))) Au<|Bz N (fun e2 N=>?_) (fun e2 N=>?_)
 refine AI Au (AJ Au Au) Au<|AI Au (AJ Au Au) Au<|FM (Bo true) Au Au<|Bb (Bo true) Au<|AI Au (AJ Au Au) Au<|AI Au (AJ Au Au) Au<|FM (Bo true) Au Au<|Bb (Bo true) Au<|AI Au (AJ Au Au) Au<|AI Au (AJ Au Au) Au<|FM (Bo true) Au Au<|Bb (Bo true) Au<|AI Au (AJ Au Au) Au<|AI Au (AJ Au Au) Au<|FM (Bo true) Au Au<|Bb (Bo true) Au ?_
 iterate 5 refine AI Au (AJ Au Au) Au ?_
 exact FM (Bo true) Au Au<|Ax<|aG _ _ ⟨true,_,Au,BB.of ⟨Au,trivial⟩,aA,Y,N⟩
 refine BO Au Au<|AD (v:=Iv J.2) Au<|BO Au Au<|Eh Au Au<|F8 (Bo (decide (J.2≠0))) Au Au<|Bb (Bo (decide (J.2≠0))) Au<|Bz N (fun e3 N=>?_) (fun e3 N=>?_)
 refine AI Au (AJ Au Au) Au<|AI Au (AJ Au Au) Au<|FM (Bo true) Au Au<|Bb (Bo true) Au<|AI Au (AJ Au Au) Au<|AI Au (AJ Au Au) Au<|FM (Bo true) Au Au<|Bb (Bo true) Au<|AI Au (AJ Au Au) Au<|AI Au (AJ Au Au) Au<|FM (Bo true) Au Au<|Bb (Bo true) Au ?_
 iterate 5 refine AI Au (AJ Au Au) Au ?_
 exact FM (Bo true) Au Au<|Ax<|aG _ _ ⟨true,_,Au,BB.of ⟨Au,trivial⟩,aA,Y,N⟩
 refine BO Au Au<|AD (v:=Iv F.2.2) Au<|BO Au Au<|Eh Au Au<|F8 (Bo (decide (F.2.2≠0))) Au Au<|Bb (Bo (decide (F.2.2≠0))) Au<|Bz N (fun e4 N=>?_) (fun e4 N=>?_)
 refine AI Au (AJ Au Au) Au<|AI Au (AJ Au Au) Au<|FM (Bo true) Au Au<|Bb (Bo true) Au<|AI Au (AJ Au Au) Au<|AI Au (AJ Au Au) Au<|FM (Bo true) Au Au<|Bb (Bo true) Au ?_
 iterate 5 refine AI Au (AJ Au Au) Au ?_
 exact FM (Bo true) Au Au<|Ax<|aG _ _ ⟨true,_,Au,BB.of ⟨Au,trivial⟩,aA,Y,N⟩
 refine BO Au Au<|AD (v:=Iv M.2.2) Au<|BO Au Au<|Eh Au Au<|F8 (Bo (decide (M.2.2≠2))) Au Au<|Bb (Bo (decide (M.2.2≠2))) Au<|Bz N (fun e5 N=>?_) (fun e5 N=>?_)
 refine AI Au (AJ Au Au) Au<|AI Au (AJ Au Au) Au<|FM (Bo true) Au Au<|Bb (Bo true) Au ?_
 iterate 5 refine AI Au (AJ Au Au) Au ?_
 exact FM (Bo true) Au Au<|Ax<|aG _ _ ⟨true,_,Au,BB.of ⟨Au,trivial⟩,aA,Y,N⟩
 refine BO Au Au<|AD (v:=Iv BR.2) Au<|BO Au Au<|Eh Au Au<|F8 (Bo (decide (BR.2≠0))) Au Au<|Bb (Bo (decide (BR.2≠0))) Au<|Bz N (fun e6 N=>?_) (fun e6 N=>?_)
 iterate 5 refine AI Au (AJ Au Au) Au ?_
 exact FM (Bo true) Au Au<|Ax<|aG _ _ ⟨true,_,Au,BB.of ⟨Au,trivial⟩,aA,Y,N⟩
 refine BO Au Au<|B1 3 B4 Y Au Au Au<|BO Au Au<|Bm (cs:=[Iv 0,Iv 0]) (parts:=[(0,.const (.int .i64 0)),(1,.const (.int .i64 0))]) Bl B6 Y (by decide) Au ?_
 intro dC gS hU d0 dD
 have gT:=Gs.of_cells (p:=(AL .i64)) (e:=3) (bl:=dC) (c:=2) (w:=gS) (O:=ks [(some dC,Oc [Iv 0,Iv 0] 3),(some a1,Oc [Sl Ak BR.1.cells Ck,Sl Al BR.1.capacity Cl,Sl Am BR.1.variables Cm] 26),(some aE,Oc [Sl (some ⟨aI,0,none⟩) [1,2] 2,Sl (some ⟨aD,0,none⟩) [(⟨0,1⟩:Az)] 1] 34),(some aB,Oc [Sl Ad A.1.variables Cd,Sl Ae A.1.places Ce] 34),(some b9,Oc (BS W Aa Ca Ab Cb Ac Cc) 26)] O) (show E0 (AL .i64) _ _ [Iv 0,Iv 0] [0,0] from⟨_,_,Au,AU E1,⟨_,_,Au,AU E1,E0.nil⟩⟩) Au (BQ Au)
 refine BO Au Au<|DM (vs:=[Sl (some ⟨dC,0,none⟩) [0,0] 2,Value.slice none 0 0]) (parts:=[(0,.tmp 115)]) DT RC Au ?_
 obtain⟨bA,d1,gU⟩:=Gs.publish (i:=0) dD Au gT
 clear dD
 obtain⟨a2,e7,N⟩:=bd N
 have dE:=(c2.trans (bV.trans (bW.trans (d0.trans d1))))
 replace Fb:=Fb.step dE;replace Fa:=Fa.step dE;replace Fc:=Fc.step dE
 refine BO Au Au<|Bi bA Try.call23 (Ij (p:=W) (r_:=(⟨[0,0],([]:List Az)⟩:Ba)) bA.ltw Fa Fb Fc gU CA.nil_ e7) Au ?_
 rintro jI jJ gV e8 gW
 clear bA
 obtain⟨rfl,Rk⟩:=gW
 refine BO Au Au<|Eh Au Au<|F8 (Bo (decide (a2≠320))) Au Au<|Ax ?_
 replace aA:=aA.trans (d0.trans (d1.trans gV))
 exact aG _ _ ⟨decide (a2≠320),_,Au,BB.of ⟨Au,trivial⟩,aA,e8,N⟩

abbrev XI:List Nat:=[7,8,9,10,11,12,13,14,15,16]

abbrev V6:List Nat:=[5,6,7,8,9,10,11,12,13,14,15,16,17,18,19,20,21,22,23,24,25,26,27,28]

def Ef (p:A8) (limit:Int) (I:Int→Int→Option Int) (F:Int) (A:Int):Option Int:=
 jn (fun(J:Bool)=>
  bif J then
   ck ((0:Int)≤A∧A<(p.variables.length:Int))<|
   I (IntKind.wrap .i64 (F*(max 1 (((p.variables.getD A.toNat default).choices).length:Int)))) (IntKind.wrap .i64 (A+1))
  else
   some (min F limit))
 (fun G=>
  bif (decide (A<(p.variables.length:Int))) then
   G (decide (F<limit))
  else
   G false)

def DV (p:A8) (limit:Int):Option Int:=
 BC (Ef p limit) 1000000 1 0

theorem H8 {w:World} {O:List Nat} {p:A8} {limit:Int} {Aa:Option Addr} {Ca:Nat} {Ab:Option Addr} {Cb:Nat} {Ac:Option Addr} {Cc:Nat} (hO:∀k∈O,k<w.heap.size) (Fa:CA Bx w O Aa Ca p.cells) (Fb:CA (BG (AL .i64)) w O Ab Cb p.capacity) (Fc:CA AS w O Ac Cc p.variables) (Ra:Cx .i64 limit) {x:Int} (G:DV p limit=some x):
 Ok Try.prog 30 [Value.agg (BS p Aa Ca Ab Cb Ac Cc).toArray,Iv limit] w O (vI .i64) x:=by
 unfold DV at G
 refine Br (n:=32) (xs:=[.tmp 4]) Try.func30 Au Try.ntmps30 Try.results30 Au ?_
 have hs:=St.start hO
 refine Aw<|Av<|A9<|BT (cs:=(BS p Aa Ca Ab Cb Ac Cc)) hs Au Au ?_
 intro b1 w2 _ p3 aE
 refine Bn (Iv 0) Au<|Ax<|Aw<|Av<|Bn (Iv 1) Au<|Ax<|Aw<|Aw<|Av<|Bn (Iv 0) Au<|Ax<|AC<|Wr [] [(1,Iv limit),(2,Pt b1 0),(5,Iv 1),(6,Iv 0)] fun aN=>Bf V6 (fun m fr w'=>∃(A:Int) (F:Int) (J:Be),J=[(some b1,Oc (BS p Aa Ca Ab Cb Ac Cc) 26)]∧fr [] [(5,Iv A),(6,Iv F)]∧aE.S (ks J O) w'∧St ⟨w,[],[]⟩ O w' J∧Cx .i64 A∧Cx .i64 F∧BC (Ef p limit) m A F=some x) 1000000 ⟨1,0,_,Au,BB.of ⟨Au,Au,trivial⟩,AA.refl _ _,aE,Ol,E1,G⟩ ?_ ?_
 rintro _ _ ⟨_,_,_,_,_,_,_,_,_,G⟩;exact DI G
 rintro aY aZ aF aT a0 ⟨A,F,_,rfl,U,M,I,Rb,Rc,G⟩
 obtain⟨a1,aC,G⟩:=DJ G;unfold Ef at G
 rw [U.eq];clear U
 have W:=M
 refine Aw<|Ic V6 [] (CO ⟨aN,[]⟩ [(1,Iv limit),(2,Pt b1 0),(5,Iv 1),(6,Iv 0)]) [(5,Iv A),(6,Iv F)] fun aU=>?_
 obtain⟨aO,aG,G⟩:=Cy G
 refine CE XI (fun fr w'=>∃(aD:Bool) (J:Be),J=[(some b1,Oc (BS p Aa Ca Ab Cb Ac Cc) 26)]∧fr [] [(16,Bo aD)]∧I.S (ks J O) w'∧St ⟨w,[],[]⟩ O w' J∧aO aD=some x) ?_ ?_
 rintro aV a2 ⟨aD,_,rfl,X,Y,N,G⟩
 replace G:=Dc aG G
 rw [X.eq];clear X
 refine AF G Au (fun aH G=>?_) (fun aH G=>?_)
 refine AG<|Aw<|AC<|Av<|Bb (Iv A) Au<|A9<|AQ 2 B4 Au Cz Au Au<|A9<|AP 0 Cz N Au Au Au<|Bb (Iv F) Au ?_
 obtain⟨Z,G⟩:=AE G
 have aP:=(p3.trans (M.trans Y))
 replace Fc:=Fc.step aP
 refine A9<|AB (q:=AS) Cz Dq Au Au Fc Au Z.1 Z.2 ?_
 intro a3 aI
 refine A9<|B5 Dq Au FJ (by decide) Au Au ?_
 have aJ:=aI.via.snd.snd.snd
 refine A9<|AR FJ Au aJ Au ?_
 intro a4 aQ
 obtain⟨Ad,Cd,rfl,Fd⟩:=B9 aQ
 refine A9<|AZ Try.underlying59 Au ?_
 have aW:=AX Fd
 refine A9<|Pv Au Au<|A9<|Io Au Au<|Bn (Iv (wq (A*(max 1 (((gt p.variables F).choices).length:Int))))) Au<|Ax ?_
 clear aI aJ Fd
 refine Av<|Bb (Iv F) Au<|A9<|Bg Au Au<|Bn (Iv (wq (F+1))) Au<|Ax ?_
 replace W:=W.trans Y
 exact aF _ _ ⟨(wq (A*(max 1 (((gt p.variables F).choices).length:Int)))),(wq (F+1)),_,Au,BB.of ⟨Au,Au,trivial⟩,W,N,(AT .i64 _),(AT .i64 _),GV aC G⟩
 refine Bq<|Aw ?_
 obtain⟨aK,a5⟩:=N.sub (bs':=[]) (.cons _ List.Sublist.slnil)
 clear Fa Fb Fc
 clear N
 refine Av<|Bb (Iv A) Au<|Bb (Iv limit) Au<|A9<|VT Au Au<|Bn (Iv (min A limit)) Au<|Ax<|AV<|⟨_,DX,[Iv (min A limit)],⟨Au,trivial⟩,aK.ext,?_⟩
 exact Vr.eq (a:=(vI .i64)) (x:=min A limit) ⟨Au,UD Rb Ra⟩ (oi G)
 intro a6 aA
 have aB:=I.stepR
 refine Av<|Bb (Iv F) Au<|A9<|AQ 2 B4 Au Cz Au Au<|A9<|AP 0 Cz I Au Au Au<|A9<|AZ Try.underlying24 Au ?_
 have aR:=(p3.trans M)
 replace Fc:=Fc.step aR
 have aX:=AX Fc
 refine A9<|By Au Au<|Bb (Bo (decide (F<(p.variables.length:Int)))) Au<|Bz G (fun aL G=>?_) (fun aL G=>?_)
 exact BO Au Au<|AD (v:=Iv A) Au<|BO Au Au<|AD (v:=Iv limit) Au<|BO Au Au<|By Au Au<|FM (Bo (decide (A<limit))) Au Au<|Ax<|aA _ _ ⟨decide (A<limit),_,Au,BB.of ⟨Au,trivial⟩,aB,I,G⟩
 iterate 3 refine AI Au (AJ Au Au) Au ?_
 exact F8 (Bo false) Au Au<|Ax<|aA _ _ ⟨false,_,Au,BB.of ⟨Au,trivial⟩,aB,I,G⟩

abbrev XJ:List Nat:=[2,3,23,24,25,26,27,28,29,30,31,32,33,34,35,36]

abbrev XK:List Nat:=[2,6,59,60,61,62,63,64,65,66,67,68,69,70,71,72,73]

abbrev XL:List Nat:=[49,50,51,52,53,54,55,56,57,58]

abbrev TN:List Nat:=[2,4,5,6,37,38,39,40,41,42,43,44,45,46,47,48,49,50,51,52,53,54,55,56,57,58,59,60,61,62,63,64,65,66,67,68,69,70,71,72,73]

abbrev XM:List Nat:=[7,8,9,10,11,12,13,14,15,16,17,18,19,20,21,22]

def Dx (p:A8) (F:Int) (G:Int→Option Bool) (I:Int→Option Bool) (A:Int):Option Bool:=
 bif (decide (A<(((p.variables.getD F.toNat default).choices).length:Int))) then
  ck ((0:Int)≤A∧A<(((p.variables.getD F.toNat default).choices).length:Int))<|
  bif (decide (12<(((((p.variables.getD F.toNat default).choices).getD A.toNat default).uses).length:Int))) then
   some false
  else
   I (IntKind.wrap .i64 (A+1))
 else
  G (IntKind.wrap .i64 (F+1))

def Dy (p:A8) (G:Int→Option Bool) (A:Int):Option Bool:=
 bif (decide (A<(p.variables.length:Int))) then
  ck ((0:Int)≤A∧A<(p.variables.length:Int))<|
  jn (fun(J:Bool)=>
   bif J then
    some false
   else
    B0 (Dx p A G) (((((p.variables.getD A.toNat default).choices).length:Int) - 0).toNat+1) 0)
  (fun I=>
   bif (decide (8<(((p.variables.getD A.toNat default).leaves).length:Int))) then
    I true
   else
    I (decide (8<(((p.variables.getD A.toNat default).choices).length:Int))))
 else
  (DV p 2000).bind fun F=>
  some (decide (F<2000))

def Dz (p:A8) (F:Int→Option Bool) (A:Int):Option Bool:=
 bif (decide (A<(p.capacity.length:Int))) then
  ck ((0:Int)≤A∧A<(p.capacity.length:Int))<|
  bif (decide (16<((p.capacity.getD A.toNat default).length:Int))) then
   some false
  else
   F (IntKind.wrap .i64 (A+1))
 else
  B0 (Dy p) (((p.variables.length:Int) - 0).toNat+1) 0

def ER (p:A8):Option Bool:=
 jn (fun(A:Bool)=>
  bif A then
   some false
  else
   B0 (Dz p) (((p.capacity.length:Int) - 0).toNat+1) 0)
 (fun F=>
  bif (decide (12<(p.cells.length:Int))) then
   F true
  else
   bif (decide (4<(p.capacity.length:Int))) then
    F true
   else
    F (decide (6<(p.variables.length:Int))))

theorem JM {w:World} {O:List Nat} {p:A8} {Aa:Option Addr} {Ca:Nat} {Ab:Option Addr} {Cb:Nat} {Ac:Option Addr} {Cc:Nat} (hO:∀k∈O,k<w.heap.size) (Fa:CA Bx w O Aa Ca p.cells) (Fb:CA (BG (AL .i64)) w O Ab Cb p.capacity) (Fc:CA AS w O Ac Cc p.variables) {x:Bool} (A:ER p=some x):
 Ok Try.prog 18 [Value.agg (BS p Aa Ca Ab Cb Ac Cc).toArray] w O vB x:=by
 unfold ER at A
 refine Br (n:=77) (xs:=[.tmp 2]) Try.func18 Au Try.ntmps18 Try.results18 Au ?_
 have hs:=St.start hO
 refine Aw<|Av<|A9<|BT (cs:=(BS p Aa Ca Ab Cb Ac Cc)) hs Au Au ?_
 intro b1 w2 _ p3 Y
 refine Bn (Bo false) Au<|Ax<|Aw<|Wr [] [(1,Pt b1 0)] fun cW=>?_
 obtain⟨k8,b3,A⟩:=Cy A
 refine CE XM (fun fr w'=>∃(aY:Bool) (G:Be),G=[(some b1,Oc (BS p Aa Ca Ab Cb Ac Cc) 26)]∧fr [] [(22,Bo aY)]∧Y.S (ks G O) w'∧St ⟨w,[],[]⟩ O w' G∧k8 aY=some x) ?_ ?_
 rintro cD cY ⟨aY,_,rfl,aC,aZ,aB,A⟩
 replace A:=Dc b3 A
 rw [aC.eq];clear aC
 refine AF A Au (fun bE A=>?_) (fun bE A=>?_)
 refine Aw ?_
 obtain⟨bF,cZ⟩:=aB.sub (bs':=[]) (.cons _ List.Sublist.slnil)
 clear Fa Fb Fc
 clear aB
 refine Av<|Bn (Bo false) Au<|Ax<|AV<|⟨_,DX,[Bo false],⟨Au,trivial⟩,bF.ext,?_⟩
 exact Vr.eq (a:=vB) (x:=false) Au (oi A)
 refine AG<|Aw<|Aw<|Av<|Bn (Iv 0) Au<|Ax<|AC<|Wr [] [(1,Pt b1 0),(3,Iv 0)] fun cE=>Bf XJ (fun m fr w'=>∃(U:Int) (G:Be),G=[(some b1,Oc (BS p Aa Ca Ab Cb Ac Cc) 26)]∧fr [] [(3,Iv U)]∧aB.S (ks G O) w'∧St ⟨w,[],[]⟩ O w' G∧Cx .i64 U∧B0 (Dz p) m U=some x) (((p.capacity.length:Int) - 0).toNat+1) ⟨0,_,Au,BB.of ⟨Au,trivial⟩,AA.refl _ _,aB,E1,A⟩ ?_ ?_
 rintro _ _ ⟨_,_,_,_,_,_,_,A⟩;exact CF A
 rintro c0 c1 bG cF c2 ⟨U,_,rfl,aD,aE,M,Ra,A⟩
 obtain⟨cG,a0,A⟩:=CG A;unfold Dz at A
 rw [aD.eq];clear aD
 have bH:=aE
 refine Aw<|Aw<|Av<|Bb (Iv U) Au<|A9<|AQ 1 B4 Au Db Au Au<|A9<|AP 0 Db M Au Au Au<|A9<|AZ Try.underlying23 Au ?_
 have bI:=(p3.trans (aZ.trans aE))
 replace Fb:=Fb.step bI
 have cH:=AX Fb
 refine A9<|By Au Au<|Ax<|AF A Au (fun bJ A=>?_) (fun bJ A=>?_)
 refine AG<|Aw<|AC<|Aw<|Av<|A9<|AQ 1 B4 Au Db Au Au<|A9<|AP 0 Db M Au Au Au<|Bb (Iv U) Au ?_
 obtain⟨aR,A⟩:=AE A
 refine A9<|AB (q:=BG (AL .i64)) Db Bl Au Au Fb Au aR.1 aR.2 ?_
 intro c3 a1
 refine A9<|AR Bl Au a1 Au ?_
 intro c4 b4
 obtain⟨Ad,Cd,rfl,Fd⟩:=B9 b4
 refine A9<|AZ Try.underlying31 Au ?_
 have cI:=AX Fd
 refine A9<|EB Au Au<|Ax<|AF A Au (fun bK A=>?_) (fun bK A=>?_)
 refine Aw ?_
 clear a1 Fd
 refine Av<|Bn (Bo false) Au<|Ax<|AV<|⟨_,DX,[Bo false],⟨Au,trivial⟩,M.ext,?_⟩
 exact Vr.eq (a:=vB) (x:=false) Au (oi A)
 refine AG ?_
 clear a1 Fd
 exact Av<|Bb (Iv U) Au<|A9<|Bg Au Au<|Bn (Iv (wq (U+1))) Au<|Ax<|bG _ _ ⟨(wq (U+1)),_,Au,BB.of ⟨Au,trivial⟩,bH,M,(AT .i64 _),Dc a0 A⟩
 refine Bq<|Aw<|Aw<|Av<|Bn (Iv 0) Au<|Ax<|AC<|Wr [] [(1,Pt b1 0),(4,Iv 0)] fun aS=>Bf TN (fun m fr w'=>∃(F:Int) (G:Be),G=[(some b1,Oc (BS p Aa Ca Ab Cb Ac Cc) 26)]∧fr [] [(4,Iv F)]∧M.S (ks G O) w'∧St ⟨w,[],[]⟩ O w' G∧Cx .i64 F∧B0 (Dy p) m F=some x) (((p.variables.length:Int) - 0).toNat+1) ⟨0,_,Au,BB.of ⟨Au,trivial⟩,AA.refl _ _,M,E1,A⟩ ?_ ?_
 rintro _ _ ⟨_,_,_,_,_,_,_,A⟩;exact CF A
 rintro c5 c6 bL cJ c7 ⟨F,_,rfl,aF,Z,I,Rb,A⟩
 obtain⟨bM,a2,A⟩:=CG A;unfold Dy at A
 rw [aF.eq];clear aF
 have aG:=Z
 refine Aw<|Aw<|Av<|Bb (Iv F) Au<|A9<|AQ 2 B4 Au Cz Au Au<|A9<|AP 0 Cz I Au Au Au<|A9<|AZ Try.underlying24 Au ?_
 have bN:=(bI.trans Z)
 replace Fc:=Fc.step bN
 have cK:=AX Fc
 refine A9<|By Au Au<|Ax<|AF A Au (fun bO A=>?_) (fun bO A=>?_)
 refine AG<|Aw<|AC<|Aw<|Av<|A9<|AQ 2 B4 Au Cz Au Au<|A9<|AP 0 Cz I Au Au Au<|Bb (Iv F) Au ?_
 obtain⟨aT,A⟩:=AE A
 refine A9<|AB (q:=AS) Cz Dq Au Au Fc Au aT.1 aT.2 ?_
 intro c8 aP
 refine A9<|BE Dq Au aP Au ?_
 intro cL b5
 obtain⟨_,_,rfl,⟨rfl,Rc⟩,⟨_,_,rfl,⟨rfl,Rd⟩,⟨_,_,rfl,⟨Ae,Ce,rfl,Fe⟩,⟨Af,Cf,rfl,Ff⟩⟩⟩⟩:=b5
 refine A9<|Bv Dq I ?_
 intro aQ c9 _ bP aU
 clear I
 refine Bh<|C6 .z Dq aU Au Au Au Au Au ?_
 intro dA bQ N
 clear aU
 refine Ax<|Aw<|Ic TN [] (CO ⟨aS,[]⟩ [(1,Pt b1 0),(4,Iv 0)]) [(4,Iv F),(5,Pt aQ 0)] fun cM=>?_
 obtain⟨b6,bR,A⟩:=Cy A
 refine CE XL (fun fr w'=>∃(a3:Bool) (G:Be),G=[(some aQ,Oc [Iv ((gt p.variables F).flight),Iv ((gt p.variables F).node),Sl Ae ((gt p.variables F).leaves) Ce,Sl Af ((gt p.variables F).choices) Cf] 61),(some b1,Oc (BS p Aa Ca Ab Cb Ac Cc) 26)]∧fr [] [(58,Bo a3)]∧N.S (ks G O) w'∧St ⟨w,[],[]⟩ O w' G∧b6 a3=some x) ?_ ?_
 rintro cN dB ⟨a3,_,rfl,aH,a4,aI,A⟩
 replace A:=Dc bR A
 rw [aH.eq];clear aH
 refine AF A Au (fun bS A=>?_) (fun bS A=>?_)
 refine Aw ?_
 clear aP
 refine Av<|Bn (Bo false) Au<|Ax<|AV<|⟨_,DX,[Bo false],⟨Au,trivial⟩,aI.ext,?_⟩
 exact Vr.eq (a:=vB) (x:=false) Au (oi A)
 refine AG<|Aw ?_
 clear aP
 refine Av<|Bn (Iv 0) Au<|Ax<|AC<|Ic TN [] (CO ⟨aS,[]⟩ [(1,Pt b1 0),(4,Iv 0)]) [(4,Iv F),(5,Pt aQ 0),(6,Iv 0)] fun cO=>Bf XK (fun m fr w'=>∃(W:Int) (G:Be),G=[(some aQ,Oc [Iv ((gt p.variables F).flight),Iv ((gt p.variables F).node),Sl Ae ((gt p.variables F).leaves) Ce,Sl Af ((gt p.variables F).choices) Cf] 61),(some b1,Oc (BS p Aa Ca Ab Cb Ac Cc) 26)]∧fr [] [(6,Iv W)]∧aI.S (ks G O) w'∧St ⟨w,[],[]⟩ O w' G∧Cx .i64 W∧B0 (Dx p F bM) m W=some x) (((((gt p.variables F).choices).length:Int) - 0).toNat+1) ⟨0,_,Au,BB.of ⟨Au,trivial⟩,AA.refl _ _,aI,E1,A⟩ ?_ ?_
 rintro _ _ ⟨_,_,_,_,_,_,_,A⟩;exact CF A
 rintro dC dD bT cP dE ⟨W,_,rfl,aJ,aK,J,Re,A⟩
 obtain⟨cQ,a5,A⟩:=CG A;unfold Dx at A
 rw [aJ.eq];clear aJ
 have bU:=aK
 refine Aw<|Aw<|Av<|Bb (Iv W) Au<|A9<|AQ 3 Dq Au FJ Au Au<|A9<|AP 0 FJ J Au Au Au<|A9<|AZ Try.underlying59 Au ?_
 have bV:=(bP.trans (bQ.trans (a4.trans aK)))
 replace Ff:=Ff.step bV
 have cR:=AX Ff
 refine A9<|By Au Au<|Ax<|AF A Au (fun bW A=>?_) (fun bW A=>?_)
 refine AG<|Aw<|AC<|Aw<|Av<|A9<|AQ 3 Dq Au FJ Au Au<|A9<|AP 0 FJ J Au Au Au<|Bb (Iv W) Au ?_
 obtain⟨aV,A⟩:=AE A
 refine A9<|AB (q:=Bt) FJ FT Au Au Ff Au aV.1 aV.2 ?_
 intro dF a6
 refine A9<|B5 FT Au Ho (by decide) Au Au ?_
 have aL:=a6.via.snd.snd.snd
 refine A9<|AR Ho Au aL Au ?_
 intro cS bX
 obtain⟨Ag,Cg,rfl,Fg⟩:=B9 bX
 refine A9<|AZ Try.underlying56 Au ?_
 have b7:=AX Fg
 refine A9<|EB Au Au<|Ax<|AF A Au (fun a7 A=>?_) (fun a7 A=>?_)
 refine Aw ?_
 clear a6 aL Fg
 refine Av<|Bn (Bo false) Au<|Ax<|AV<|⟨_,DX,[Bo false],⟨Au,trivial⟩,J.ext,?_⟩
 exact Vr.eq (a:=vB) (x:=false) Au (oi A)
 refine AG ?_
 clear a6 aL Fg
 exact Av<|Bb (Iv W) Au<|A9<|Bg Au Au<|Bn (Iv (wq (W+1))) Au<|Ax<|bT _ _ ⟨(wq (W+1)),_,Au,BB.of ⟨Au,trivial⟩,bU,J,(AT .i64 _),Dc a5 A⟩
 refine Bq<|Av<|Bb (Iv F) Au<|A9<|Bg Au Au<|Bn (Iv (wq (F+1))) Au<|Ax ?_
 have a8:=J.drop 0
 have bY:=(J.dropS 0)
 clear J
 have bZ:=(bV.trans bY)
 replace aG:=aG.trans bZ
 exact bL _ _ ⟨(wq (F+1)),_,Au,BB.of ⟨Au,trivial⟩,aG,a8,(AT .i64 _),Dc a2 A⟩
 intro dG aW
 have aM:=N.stepR
 clear aP
 refine Av<|A9<|AQ 2 Dq Au Bl Au Au<|A9<|AP 0 Bl N Au Au Au<|A9<|AZ Try.underlying31 Au ?_
 have aX:=(bP.trans bQ)
 replace Fe:=Fe.step aX
 have b8:=AX Fe
 refine A9<|EB Au Au<|Bb (Bo (decide (8<(((gt p.variables F).leaves).length:Int)))) Au<|Bz A (fun a9 A=>?_) (fun a9 A=>?_)
 iterate 4 refine AI Au (AJ Au Au) Au ?_
 exact FM (Bo true) Au Au<|Ax<|aW _ _ ⟨true,_,Au,BB.of ⟨Au,trivial⟩,aM,N,A⟩
 refine BO Au Au<|AQ 3 Dq Au FJ Au Au<|BO Au Au<|AP 0 FJ N Au Au Au<|BO Au Au<|AZ Try.underlying59 Au ?_
 replace Ff:=Ff.step aX
 have b9:=AX Ff
 exact BO Au Au<|EB Au Au<|F8 (Bo (decide (8<(((gt p.variables F).choices).length:Int)))) Au Au<|Ax<|aW _ _ ⟨decide (8<(((gt p.variables F).choices).length:Int)),_,Au,BB.of ⟨Au,trivial⟩,aM,N,A⟩
 refine Bq<|Aw<|Av<|A9<|B1 0 B4 I Au Au Au ?_
 obtain⟨X,bA,A⟩:=bd A
 replace Fb:=Fb.step Z;replace Fa:=Fa.step bN
 refine A9<|Bi I Try.call30 (H8 (p:=p) (limit:=2000) I.ltw Fa Fb Fc (show Cx .i64 2000 from by decide) bA) Au ?_
 rintro cT cU cV bB b0
 clear I
 obtain⟨rfl,Rf⟩:=b0
 refine A9<|By Au Au<|Bn (Bo (decide (X<2000))) Au<|Ax<|AV<|⟨_,DX,[Bo (decide (X<2000))],⟨Au,trivial⟩,bB.ext,?_⟩
 exact Vr.eq (a:=vB) (x:=decide (X<2000)) Au (oi A)
 intro dH aN
 have aA:=Y.stepR
 refine Av<|A9<|AQ 0 B4 Au EX Au Au<|A9<|AP 0 EX Y Au Au Au<|A9<|AZ Try.underlying22 Au ?_
 replace Fa:=Fa.step p3
 have cA:=AX Fa
 refine A9<|EB Au Au<|Bb (Bo (decide (12<(p.cells.length:Int)))) Au<|Bz A (fun bC A=>?_) (fun bC A=>?_)
 iterate 4 refine AI Au (AJ Au Au) Au ?_
 refine FM (Bo true) Au Au<|Bb (Bo true) Au ?_
 iterate 4 refine AI Au (AJ Au Au) Au ?_
 exact FM (Bo true) Au Au<|Ax<|aN _ _ ⟨true,_,Au,BB.of ⟨Au,trivial⟩,aA,Y,A⟩
 refine BO Au Au<|AQ 1 B4 Au Db Au Au<|BO Au Au<|AP 0 Db Y Au Au Au<|BO Au Au<|AZ Try.underlying23 Au ?_
 replace Fb:=Fb.step p3
 have cB:=AX Fb
 refine BO Au Au<|EB Au Au<|F8 (Bo (decide (4<(p.capacity.length:Int)))) Au Au<|Bb (Bo (decide (4<(p.capacity.length:Int)))) Au<|Bz A (fun bD A=>?_) (fun bD A=>?_)
 iterate 4 refine AI Au (AJ Au Au) Au ?_
 exact FM (Bo true) Au Au<|Ax<|aN _ _ ⟨true,_,Au,BB.of ⟨Au,trivial⟩,aA,Y,A⟩
 refine BO Au Au<|AQ 2 B4 Au Cz Au Au<|BO Au Au<|AP 0 Cz Y Au Au Au<|BO Au Au<|AZ Try.underlying24 Au ?_
 replace Fc:=Fc.step p3
 have cC:=AX Fc
 exact BO Au Au<|EB Au Au<|F8 (Bo (decide (6<(p.variables.length:Int)))) Au Au<|Ax<|aN _ _ ⟨decide (6<(p.variables.length:Int)),_,Au,BB.of ⟨Au,trivial⟩,aA,Y,A⟩

def D0 (a:AK) (b:AK):Option Bool:=
 bif (!(a.airport == b.airport)) then
  some b.airport
 else
  bif (decide (a.index≠b.index)) then
   some (decide (a.index<b.index))
  else
   some (decide (a.minute<b.minute))

theorem Hp {w:World} {O:List Nat} {a:AK} {b:AK} (hO:∀k∈O,k<w.heap.size) (Ra:Cx .i64 a.index) (Rb:Cx .i64 a.minute) (Rc:Cx .i64 b.index) (Rd:Cx .i64 b.minute) {x:Bool} (F:D0 a b=some x):
 Ok Try.prog 60 [Value.agg [Bo a.airport,Iv a.index,Iv a.minute].toArray,Value.agg [Bo b.airport,Iv b.index,Iv b.minute].toArray] w O vB x:=by
 unfold D0 at F
 refine Br (n:=27) (xs:=[.tmp 4]) Try.func60 Au Try.ntmps60 Try.results60 Au ?_
 have hs:=St.start hO
 refine Aw<|Av<|A9<|BT (cs:=[Bo a.airport,Iv a.index,Iv a.minute]) hs Au Au ?_
 intro W X _ Y I
 refine A9<|BT (cs:=[Bo b.airport,Iv b.index,Iv b.minute]) I Au Au ?_
 intro N Z _ p8 A
 clear I
 refine Bn (Bo false) Au<|Ax<|Aw<|Aw<|Av<|A9<|AQ 0 Du Au Jt Au Au<|A9<|AP 1 Jt A Au Au Au<|A9<|AQ 0 Du Au Jt Au Au<|A9<|AP 0 Jt A Au Au Au<|A9<|LO Try.underlying4 Au Au<|Ax<|AF F Au (fun J F=>?_) (fun J F=>?_)
 refine Aw ?_
 obtain⟨G,U⟩:=A.sub (bs':=[(some N,Oc [Bo b.airport,Iv b.index,Iv b.minute] 67)]) (.cons_cons _ (.cons _ List.Sublist.slnil))
 clear A
 refine Av<|A9<|AQ 0 Du Au Jt Au Au<|A9<|AP 0 Jt G Au Au Au<|Bn (Bo b.airport) Au<|Ax<|AV<|⟨_,DX,[Bo b.airport],⟨Au,trivial⟩,G.ext,?_⟩
 exact Vr.eq (a:=vB) (x:=b.airport) Au (oi F)
 refine AG<|Aw<|Aw<|Av<|A9<|AQ 1 Du Au B6 Au Au<|A9<|AP 1 B6 A Au Au Au<|A9<|AQ 1 Du Au B6 Au Au<|A9<|AP 0 B6 A Au Au Au<|A9<|Eh Au Au<|Ax<|AF F Au (fun M F=>?_) (fun M F=>?_)
 refine Aw<|Av<|A9<|AQ 1 Du Au B6 Au Au<|A9<|AP 1 B6 A Au Au Au<|A9<|AQ 1 Du Au B6 Au Au<|A9<|AP 0 B6 A Au Au Au<|A9<|By Au Au<|Bn (Bo (decide (a.index<b.index))) Au<|Ax<|AV<|⟨_,DX,[Bo (decide (a.index<b.index))],⟨Au,trivial⟩,A.ext,?_⟩
 exact Vr.eq (a:=vB) (x:=decide (a.index<b.index)) Au (oi F)
 refine AG<|Aw<|Av<|A9<|AQ 2 Du Au B6 Au Au<|A9<|AP 1 B6 A Au Au Au<|A9<|AQ 2 Du Au B6 Au Au<|A9<|AP 0 B6 A Au Au Au<|A9<|By Au Au<|Bn (Bo (decide (a.minute<b.minute))) Au<|Ax<|AV<|⟨_,DX,[Bo (decide (a.minute<b.minute))],⟨Au,trivial⟩,A.ext,?_⟩
 exact Vr.eq (a:=vB) (x:=decide (a.minute<b.minute)) Au (oi F)

def BH (n:Int) (lo:Int) (hi:Int):Option Bool:=
 bif (decide (lo≤n)) then
  some (decide (n≤hi))
 else
  some false

theorem CU {w:World} {O:List Nat} {n:Int} {lo:Int} {hi:Int} (hO:∀k∈O,k<w.heap.size) (Ra:Cx .i64 n) (Rb:Cx .i64 lo) (Rc:Cx .i64 hi) {x:Bool} (A:BH n lo hi=some x):
 Ok Try.prog 61 [Iv n,Iv lo,Iv hi] w O vB x:=by
 unfold BH at A
 refine Br (n:=15) (xs:=[.tmp 6]) Try.func61 Au Try.ntmps61 Try.results61 Au ?_
 have hs:=St.start hO
 refine Aw<|Av<|Bn (Bo false) Au<|Ax<|Aw<|Av<|Bb (Iv lo) Au<|Bb (Iv n) Au<|A9<|JS Au Au<|Bb (Bo (decide (lo≤n))) Au<|Bz A (fun F A=>?_) (fun F A=>?_)
 refine BO Au Au<|AD (v:=Iv n) Au<|BO Au Au<|AD (v:=Iv hi) Au<|BO Au Au<|JS Au Au<|FM (Bo (decide (n≤hi))) Au Au<|Bn (Bo (decide (n≤hi))) Au<|Ax<|AV<|⟨_,DX,[Bo (decide (n≤hi))],⟨Au,trivial⟩,hs.ext,?_⟩
 exact Vr.eq (a:=vB) (x:=decide (n≤hi)) Au (oi A)
 iterate 3 refine AI Au (AJ Au Au) Au ?_
 refine F8 (Bo false) Au Au<|Bn (Bo false) Au<|Ax<|AV<|⟨_,DX,[Bo false],⟨Au,trivial⟩,hs.ext,?_⟩
 exact Vr.eq (a:=vB) (x:=false) Au (oi A)

abbrev XO:List Nat:=[4,5,6,7,8,9,10,11,12,13,14,15,16,17,18]

def DG (l:List AK) (c:AK) (F:Int→Option Int) (A:Int):Option Int:=
 bif (decide (A<(l.length:Int))) then
  ck ((0:Int)≤A∧A<(l.length:Int))<|
  bif (decide ((l.getD A.toNat default)=c)) then
   some A
  else
   F (IntKind.wrap .i64 (A+1))
 else
  some (-1)

def DL (l:List AK) (c:AK):Option Int:=
 B0 (DG l c) (((l.length:Int) - 0).toNat+1) 0

theorem HS {w:World} {O:List Nat} {l:List AK} {c:AK} {Aa:Option Addr} {Ca:Nat} (hO:∀k∈O,k<w.heap.size) (Fa:CA Bx w O Aa Ca l) (Ra:Cx .i64 c.index) (Rb:Cx .i64 c.minute) {x:Int} (F:DL l c=some x):
 Ok Try.prog 81 [Sl Aa l Ca,Value.agg [Bo c.airport,Iv c.index,Iv c.minute].toArray] w O (vI .i64) x:=by
 unfold DL at F
 refine Br (n:=19) (xs:=[.tmp 4]) Try.func81 Au Try.ntmps81 Try.results81 Au ?_
 have hs:=St.start hO
 refine Aw<|Av<|A9<|BT (cs:=[Bo c.airport,Iv c.index,Iv c.minute]) hs Au Au ?_
 intro b1 w2 _ p3 aB
 refine Bn (Iv 0) Au<|Ax<|Aw<|Aw<|Av<|Bn (Iv 0) Au<|Ax<|AC<|Wr [] [(0,Sl Aa l Ca),(3,Pt b1 0),(5,Iv 0)] fun aY=>Bf XO (fun m fr w'=>∃(A:Int) (Y:Be),Y=[(some b1,Oc [Bo c.airport,Iv c.index,Iv c.minute] 67)]∧fr [] [(5,Iv A)]∧aB.S (ks Y O) w'∧St ⟨w,[],[]⟩ O w' Y∧Cx .i64 A∧B0 (DG l c) m A=some x) (((l.length:Int) - 0).toNat+1) ⟨0,_,Au,BB.of ⟨Au,trivial⟩,AA.refl _ _,aB,E1,F⟩ ?_ ?_
 rintro _ _ ⟨_,_,_,_,_,_,_,F⟩;exact CF F
 rintro aZ a0 aC aS a1 ⟨A,_,rfl,I,J,G,Rc,F⟩
 obtain⟨a2,aD,F⟩:=CG F;unfold DG at F
 rw [I.eq];clear I
 have M:=J
 refine Aw<|Aw<|Av<|Bb (Iv A) Au<|Bb (Sl Aa l Ca) Au<|A9<|AZ Try.underlying22 Au ?_
 replace Fa:=Fa.step (p3.trans J)
 have aT:=AX Fa
 refine A9<|By Au Au<|Ax<|AF F Au (fun aE F=>?_) (fun aE F=>?_)
 refine AG<|Aw<|AC<|Aw<|B7 (g0:=[]) (m:=5) (fl:=[]) (CQ G) Au (.inl Au) Au (by decide+kernel) ?_  -- 4
 refine Bc (Sl Aa l Ca) (fun _ _ _ hi U=>AD (v:=Sl Aa l Ca) (U 0 Au)<|Gz hi)<|Bc (Iv A) (fun _ _ _ hi U=>AD (v:=Iv A) (U 5 Au)<|Gz hi) ?_
 obtain⟨X,F⟩:=AE F
 refine Bd (VP _ _ Bx (gt l A)) (VP.stab _ _) (fun aU a3 g aF hi U=>?_) ?_
 obtain⟨-,aL,-⟩:=aF
 replace Fa:=Fa.step aL
 refine Ay<|AB (q:=Bx) EX Du (U 12 Au) (U 13 Au) Fa Au X.1 X.2 ?_
 intro a4 aM
 exact Bs.same hi ⟨_,Au,aM⟩
 refine Bd (VD _ _ (vA Bx) (gt l A)) (VD.stab _ _) (fun aV a5 g aF hi U=>?_) ?_
 obtain⟨a6,aN,aO⟩:=U 14 Au
 refine Ay<|BE Du aN aO Au ?_
 intro aW aP
 obtain⟨_,_,rfl,rfl,⟨_,_,rfl,⟨rfl,Rd⟩,⟨rfl,Re⟩⟩⟩:=aP
 exact Bs.same hi (show Vr.vd (vA Bx) _ _ _ _ from(JX (C2 (AW GJ (AW (AU Rd) (AU Re))))))
 refine Bc (Value.agg [Bo c.airport,Iv c.index,Iv c.minute].toArray) (fun _ _ _ hi U=>B1 0 Du (AA.nx hi).1 (U 3 Au) Au Au<|Gz hi)<|BD fun a7 a8 aG aH=>?_
 obtain⟨-,Z,-⟩:=aG
 obtain⟨N,aI⟩:=AA.nx aH
 rintro _ rfl a9 aA
 replace aA:Vr.vd (vA Bx) _ _ _ _:=aA
 obtain⟨_,rfl,⟨_,_,rfl,rfl,⟨_,_,rfl,⟨rfl,Rf⟩,⟨rfl,Rg⟩⟩⟩⟩:=aA
 rintro _ ⟨bA,rfl,W⟩ _ rfl _ rfl
 have aQ:=G.to N (Z.trans aI)
 replace W:=W.step aI;clear G
 refine A9<|Sj (c:=decide ((gt l A)=c)) Au Au Vo (TH 9998 (gt l A) c _)<|Ax<|AF F Au (fun aJ F=>?_) (fun aJ F=>?_)
 refine Aw ?_
 clear Fa W
 refine Av<|Bb (Iv A) Au<|Bn (Iv A) Au<|Ax<|AV<|⟨_,DX,[Iv A],⟨Au,trivial⟩,N.ext,?_⟩
 exact Vr.eq (a:=(vI .i64)) (x:=A) ⟨Au,Rc⟩ (oi F)
 refine AG ?_
 clear W
 refine Av<|Bb (Iv A) Au<|A9<|Bg Au Au<|Bn (Iv (wq (A+1))) Au<|Ax ?_
 replace M:=M.trans aQ
 exact aC _ _ ⟨(wq (A+1)),_,Au,BB.of ⟨Au,trivial⟩,M,N,(AT .i64 _),Dc aD F⟩
 refine Bq<|Aw ?_
 obtain⟨aK,bB⟩:=G.sub (bs':=[]) (.cons _ List.Sublist.slnil)
 clear Fa
 clear G
 refine Av<|Bn (Iv (-1)) Au<|Ax<|AV<|⟨_,DX,[Iv (-1)],⟨Au,trivial⟩,aK.ext,?_⟩
 exact Vr.eq (a:=(vI .i64)) (x:=(-1)) ⟨Au,(show Cx .i64 (-1) from by decide)⟩ (oi F)

abbrev XQ:List Nat:=[102,103,104,105,106,107,108,109,110,111,112,113,114,115,116,117,118,119,120,121,122,123,124,125,126,127,128,129,130]

abbrev V7:List Nat:=[4,8,9,90,91,92,93,94,95,96,97,98,99,100,101,102,103,104,105,106,107,108,109,110,111,112,113,114,115,116,117,118,119,120,121,122,123,124,125,126,127,128,129,130]

abbrev XR:List Nat:=[74,75,76,77,78,79,80,81,82,83,84,85,86,87,88,89]

abbrev Sv:List Nat:=[4,6,7,8,9,62,63,64,65,66,67,68,69,70,71,72,73,74,75,76,77,78,79,80,81,82,83,84,85,86,87,88,89,90,91,92,93,94,95,96,97,98,99,100,101,102,103,104,105,106,107,108,109,110,111,112,113,114,115,116,117,118,119,120,121,122,123,124,125,126,127,128,129,130]

abbrev XS:List Nat:=[33,34,35,36,37,38,39,40,41,42,43,44,45,46,47,48,49,50,51,52,53,54,55,56,57,58,59,60,61]

abbrev V8:List Nat:=[4,5,26,27,28,29,30,31,32,33,34,35,36,37,38,39,40,41,42,43,44,45,46,47,48,49,50,51,52,53,54,55,56,57,58,59,60,61]

abbrev XT:List Nat:=[10,11,12,13,14,15,16,17,18,19,20,21,22,23,24,25]

def Cu (p:A8) (v:AM) (F:Int) (M:Int→Option Bool) (N:Int→Option Bool) (A:Int):Option Bool:=
 bif (decide (A<(((v.choices.getD F.toNat default).uses).length:Int))) then
  ck ((0:Int)≤A∧A<(((v.choices.getD F.toNat default).uses).length:Int))<|
  jn (fun(W:Bool)=>
   bif W then
    some false
   else
    N (IntKind.wrap .i64 (A+1)))
  (fun G=>
   (DL p.cells ((((v.choices.getD F.toNat default).uses).getD A.toNat default).cell)).bind fun U=>
   bif (decide (U<0)) then
    G true
   else
    (BH ((((v.choices.getD F.toNat default).uses).getD A.toNat default).places) 1 8).bind fun I=>
    bif (!I) then
     G true
    else
     bif (decide (0<A)) then
      ck ((0:Int)≤(IntKind.wrap .i64 (A - 1))∧(IntKind.wrap .i64 (A - 1))<(((v.choices.getD F.toNat default).uses).length:Int))<|
      (D0 ((((v.choices.getD F.toNat default).uses).getD (IntKind.wrap .i64 (A - 1)).toNat default).cell) ((((v.choices.getD F.toNat default).uses).getD A.toNat default).cell)).bind fun J=>
      G (!J)
     else
      G false)
 else
  M (IntKind.wrap .i64 (F+1))

def CK (p:A8) (v:AM) (M:Int→Option Bool) (A:Int):Option Bool:=
 bif (decide (A<(v.choices.length:Int))) then
  ck ((0:Int)≤A∧A<(v.choices.length:Int))<|
  jn (fun(N:Bool)=>
   bif N then
    some false
   else
    B0 (Cu p v A M) (((((v.choices.getD A.toNat default).uses).length:Int) - 0).toNat+1) 0)
  (fun J=>
   (BH ((v.choices.getD A.toNat default).delay) 0 1048576).bind fun F=>
   bif (!F) then
    J true
   else
    (BH ((v.choices.getD A.toNat default).cost) 0 1048576).bind fun G=>
    bif (!G) then
     J true
    else
     (BH ((v.choices.getD A.toNat default).changes) 0 1048576).bind fun I=>
     J (!I))
 else
  some true

def Cv (p:A8) (v:AM) (I:Int→Option Bool) (A:Int):Option Bool:=
 bif (decide (A<(v.leaves.length:Int))) then
  jn (fun(J:Bool)=>
   bif J then
    some false
   else
    I (IntKind.wrap .i64 (A+1)))
  (fun G=>
   ck ((0:Int)≤A∧A<(v.leaves.length:Int))<|
   (BH (v.leaves.getD A.toNat default) 0 (IntKind.wrap .i64 ((p.capacity.length:Int) - 1))).bind fun F=>
   bif (!F) then
    G true
   else
    bif (decide (0<A)) then
     ck ((0:Int)≤(IntKind.wrap .i64 (A - 1))∧(IntKind.wrap .i64 (A - 1))<(v.leaves.length:Int))<|
     ck ((0:Int)≤A∧A<(v.leaves.length:Int))<|
     G (decide ((v.leaves.getD A.toNat default)≤(v.leaves.getD (IntKind.wrap .i64 (A - 1)).toNat default)))
    else
     G false)
 else
  B0 (CK p v) (((v.choices.length:Int) - 0).toNat+1) 0

def DN (p:A8) (v:AM):Option Bool:=
 jn (fun(F:Bool)=>
  bif F then
   some false
  else
   B0 (Cv p v) (((v.leaves.length:Int) - 0).toNat+1) 0)
 (fun A=>
  bif (decide ((v.leaves.length:Int)<1)) then
   A true
  else
   bif (decide ((v.choices.length:Int)<1)) then
    A true
   else
    A (decide (96<(v.choices.length:Int))))

theorem IB {w:World} {O:List Nat} {p:A8} {v:AM} {Aa:Option Addr} {Ca:Nat} {Ab:Option Addr} {Cb:Nat} {Ac:Option Addr} {Cc:Nat} {Ad:Option Addr} {Cd:Nat} {Ae:Option Addr} {Ce:Nat} (hO:∀k∈O,k<w.heap.size) (Fa:CA Bx w O Aa Ca p.cells) (Fb:CA (BG (AL .i64)) w O Ab Cb p.capacity) (Fc:CA AS w O Ac Cc p.variables) (Ra:Cx .i64 v.flight) (Rb:Cx .i64 v.node) (Fd:CA (AL .i64) w O Ad Cd v.leaves) (Fe:CA Bt w O Ae Ce v.choices) {x:Bool} (A:DN p v=some x):
 Ok Try.prog 62 [Value.agg (BS p Aa Ca Ab Cb Ac Cc).toArray,Value.agg [Iv v.flight,Iv v.node,Sl Ad v.leaves Cd,Sl Ae v.choices Ce].toArray] w O vB x:=by
 unfold DN at A
 refine Br (n:=131) (xs:=[.tmp 4]) Try.func62 Au Try.ntmps62 Try.results62 Au ?_
 have hs:=St.start hO
 refine Aw<|Av<|A9<|BT (cs:=(BS p Aa Ca Ab Cb Ac Cc)) hs Au Au ?_
 intro b1 w2 _ p3 eQ
 refine A9<|BT (cs:=[Iv v.flight,Iv v.node,Sl Ad v.leaves Cd,Sl Ae v.choices Ce]) eQ Au Au ?_
 intro b6 w7 _ p8 aT
 clear eQ
 refine Bn (Bo false) Au<|Ax<|Aw<|Wr [] [(2,Pt b1 0),(3,Pt b6 0)] fun hJ=>?_
 obtain⟨gG,eR,A⟩:=Cy A
 refine CE XT (fun fr w'=>∃(dE:Bool) (M:Be),M=[(some b6,Oc [Iv v.flight,Iv v.node,Sl Ad v.leaves Cd,Sl Ae v.choices Ce] 61),(some b1,Oc (BS p Aa Ca Ab Cb Ac Cc) 26)]∧fr [] [(25,Bo dE)]∧aT.S (ks M O) w'∧St ⟨w,[],[]⟩ O w' M∧gG dE=some x) ?_ ?_
 rintro hK kA ⟨dE,_,rfl,bH,dF,a5,A⟩
 replace A:=Dc eR A
 rw [bH.eq];clear bH
 refine AF A Au (fun eS A=>?_) (fun eS A=>?_)
 refine Aw ?_
 obtain⟨eT,kB⟩:=a5.sub (bs':=[]) (.cons _ (.cons _ List.Sublist.slnil))
 clear Fa Fb Fc Fd Fe
 clear a5
 refine Av<|Bn (Bo false) Au<|Ax<|AV<|⟨_,DX,[Bo false],⟨Au,trivial⟩,eT.ext,?_⟩
 exact Vr.eq (a:=vB) (x:=false) Au (oi A)
 refine AG<|Aw<|Aw<|Av<|Bn (Iv 0) Au<|Ax<|AC<|Wr [] [(2,Pt b1 0),(3,Pt b6 0),(5,Iv 0)] fun eU=>Bf V8 (fun m fr w'=>∃(J:Int) (M:Be),M=[(some b6,Oc [Iv v.flight,Iv v.node,Sl Ad v.leaves Cd,Sl Ae v.choices Ce] 61),(some b1,Oc (BS p Aa Ca Ab Cb Ac Cc) 26)]∧fr [] [(5,Iv J)]∧a5.S (ks M O) w'∧St ⟨w,[],[]⟩ O w' M∧Cx .i64 J∧B0 (Cv p v) m J=some x) (((v.leaves.length:Int) - 0).toNat+1) ⟨0,_,Au,BB.of ⟨Au,trivial⟩,AA.refl _ _,a5,E1,A⟩ ?_ ?_
 rintro _ _ ⟨_,_,_,_,_,_,_,A⟩;exact CF A
 rintro kC kD eV hL kE ⟨J,_,rfl,bI,bJ,aB,Rc,A⟩
 obtain⟨hM,dG,A⟩:=CG A;unfold Cv at A
 rw [bI.eq];clear bI
 have bK:=bJ
 refine Aw<|Aw<|Av<|Bb (Iv J) Au<|A9<|AQ 2 Dq Au Bl Au Au<|A9<|AP 0 Bl aB Au Au Au<|A9<|AZ Try.underlying31 Au ?_
 have eW:=(p3.trans (p8.trans (dF.trans bJ)))
 replace Fd:=Fd.step eW
 have hN:=AX Fd
 refine A9<|By Au Au<|Ax<|AF A Au (fun eX A=>?_) (fun eX A=>?_)
 refine AG<|Aw<|AC<|Ic V8 [] (CO ⟨eU,[]⟩ [(2,Pt b1 0),(3,Pt b6 0),(5,Iv 0)]) [(5,Iv J)] fun hP=>?_
 obtain⟨gH,eY,A⟩:=Cy A
 refine CE XS (fun fr w'=>∃(dH:Bool) (M:Be),M=[(some b6,Oc [Iv v.flight,Iv v.node,Sl Ad v.leaves Cd,Sl Ae v.choices Ce] 61),(some b1,Oc (BS p Aa Ca Ab Cb Ac Cc) 26)]∧fr [] [(61,Bo dH)]∧aB.S (ks M O) w'∧St ⟨w,[],[]⟩ O w' M∧gH dH=some x) ?_ ?_
 rintro hQ kF ⟨dH,_,rfl,bL,dI,cX,A⟩
 replace A:=Dc eY A
 rw [bL.eq];clear bL
 refine AF A Au (fun eZ A=>?_) (fun eZ A=>?_)
 refine Aw<|Av<|Bn (Bo false) Au<|Ax<|AV<|⟨_,DX,[Bo false],⟨Au,trivial⟩,cX.ext,?_⟩
 exact Vr.eq (a:=vB) (x:=false) Au (oi A)
 refine AG<|Av<|Bb (Iv J) Au<|A9<|Bg Au Au<|Bn (Iv (wq (J+1))) Au<|Ax ?_
 replace bK:=bK.trans dI
 exact eV _ _ ⟨(wq (J+1)),_,Au,BB.of ⟨Au,trivial⟩,bK,cX,(AT .i64 _),Dc dG A⟩
 intro kG bM
 have aC:=aB.stepR
 refine B7 (g0:=[]) (m:=26) (fl:=[]) (CQ aB) Au (.inl Au) Au (by decide+kernel) ?_  -- 6
 refine Bc (Pt b6 2) (fun _ _ _ hi G=>AQ 2 Dq Au Bl (G 3 Au) Au<|Gz hi)<|Bc (Sl Ad v.leaves Cd) (fun _ _ _ hi G=>AP 0 Bl (AA.nx hi).1 (G 33 Au) Au Au<|Gz hi)<|Bc (Iv J) (fun _ _ _ hi G=>AD (v:=Iv J) (G 5 Au)<|Gz hi) ?_
 obtain⟨cY,A⟩:=AE A
 refine Bd (VP _ _ (AL .i64) (gt v.leaves J)) (VP.stab _ _) (fun hR kH g X hi G=>?_) ?_
 obtain⟨-,aO,-⟩:=X
 replace Fd:=Fd.step aO
 refine Ay<|AB (q:=(AL .i64)) Bl B6 (G 34 Au) (G 35 Au) Fd Au cY.1 cY.2 ?_
 intro kJ gI
 exact Bs.same hi ⟨_,Au,gI⟩
 refine Bd (VD _ _ (vI .i64) (gt v.leaves J)) (VD.stab _ _) (fun hS kK g X hi G=>?_) ?_
 obtain⟨kL,gJ,gK⟩:=G 36 Au
 refine Ay<|AR B6 gJ gK Au ?_
 intro kM gL
 obtain⟨rfl,Rd⟩:=BK gL
 exact Bs.same hi (show Vr.vd (vI .i64) _ _ _ _ from⟨Au,Rd⟩)
 refine Bc (Pt b1 1) (fun _ _ _ hi G=>AQ 1 B4 Au Db (G 2 Au) Au<|Gz hi)<|Bc (Sl Ab p.capacity Cb) (fun _ _ _ hi G=>AP 1 Db (AA.nx hi).1 (G 38 Au) Au Au<|Gz hi)<|Bc (Iv (p.capacity.length:Int)) (fun _ _ _ hi G=>AZ Try.underlying23 (G 39 Au)<|Gz hi)<|Bc (Iv (wq ((p.capacity.length:Int) - 1))) (fun _ _ _ hi G=>FN (G 40 Au) Au<|Gz hi) ?_
 obtain⟨W,e0,A⟩:=bd A
 refine Bd (VD _ _ vB W) (VD.stab _ _) (fun hT kN g X hi G=>?_) ?_
 have gM:Vr.vd (vI .i64) _ _ _ _:=G 37 Au
 obtain⟨gN,Re⟩:=gM
 refine Ay (Gi Try.call61 (CU (O:=ks (DS g++[(some b6,Oc [Iv v.flight,Iv v.node,Sl Ad v.leaves Cd,Sl Ae v.choices Ce] 61),(some b1,Oc (BS p Aa Ca Ab Cb Ac Cc) 26)]) O) (n:=gt v.leaves J) (lo:=0) (hi:=(wq ((p.capacity.length:Int) - 1))) hi.ltw Re E1 (AT .i64 _) e0) (by simp only [List.map,Array.toList,(show ev _ (.tmp 37)=_ from gN),(show ev _ (.const (.int .i64 0))=.int .i64 0 from Au),(show ev _ (.tmp 41)=_ from(G 41 Au))]<;> rfl) ?_)
 rintro kO kP ⟨e1,gO⟩
 exact Bs.call hi e1 gO
 refine BN (Bo (!W)) (fun hU hV g X hi G=>?_) ?_
 have e2:Vr.vd vB _ _ _ _:=G 42 Au
 have e3:_=(Bo W):=e2
 exact Ay<|Do e3<|Gz hi
 refine GI (!W) (fun _ _ _ _ hi G=>Ay<|AD (v:=Bo (!W)) (G 43 Au)<|Gz hi) (fun aU=>?_) (fun aU=>?_)
 replace A:=Hy A aU
 iterate 14 refine FX Au Au (fun _ _ _ h=>h) Au ?_
 refine BD fun hW hX dJ dK=>?_
 obtain⟨-,cN,-⟩:=dJ
 obtain⟨bN,cZ⟩:=AA.nx dK
 rintro _ rfl _ rfl _ rfl _ rfl _ rfl _ rfl _ rfl _ rfl _ rfl _ rfl _ rfl _ rfl _ rfl _ rfl _ rfl _ rfl hY bO
 replace bO:Vr.vd vB _ _ _ _:=bO
 obtain rfl:=bO
 rintro _ rfl _ rfl _ rfl _ rfl hZ bP
 replace bP:Vr.vd (vI .i64) _ _ _ _:=bP
 obtain⟨rfl,Rf⟩:=bP
 rintro _ ⟨h0,rfl,c0⟩ _ rfl _ rfl _ rfl
 have e4:=aB.to bN (cN.trans cZ)
 replace c0:=c0.step cZ
 refine AI Au (AJ Au Au) Au<|AI Au (AJ Au Au) Au<|FM (Bo true) Au Au<|Ax ?_
 replace aC:=aC.trans e4
 exact bM _ _ ⟨true,_,Au,BB.of ⟨Au,trivial⟩,aC,bN,A⟩
 replace A:=Hz A aU
 refine Dt (Iv J) Au Au (fun _ _ _ h=>h) (fun _ _ _ hi G=>AD (v:=Iv J) (G 5 Au)<|Gz hi)<|Dt (Bo (decide (0<J))) Au Au (fun _ _ _ h=>h) (fun _ _ _ hi G=>EB (G 45 Au) Au<|Gz hi)<|GI (decide (0<J)) (fun _ _ _ _ hi G=>BL Au (G 44 Au)<|AD (v:=Bo (decide (0<J))) (G 46 Au)<|Gz hi) (fun aV=>?_) (fun aV=>?_)
 replace A:=Hy A aV
 refine Dt (Pt b6 2) Au Au (fun _ _ _ h=>h) (fun _ _ _ hi G=>AQ 2 Dq Au Bl (G 3 Au) Au<|Gz hi)<|Dt (Sl Ad v.leaves Cd) Au Au (fun _ _ _ h=>h) (fun _ _ _ hi G=>AP 0 Bl (AA.nx hi).1 (G 48 Au) Au Au<|Gz hi)<|Dt (Iv J) Au Au (fun _ _ _ h=>h) (fun _ _ _ hi G=>AD (v:=Iv J) (G 5 Au)<|Gz hi)<|Dt (Iv (wq (J - 1))) Au Au (fun _ _ _ h=>h) (fun _ _ _ hi G=>FN (G 50 Au) Au<|Gz hi) ?_
 obtain⟨bQ,A⟩:=AE A
 refine Bd (VP _ _ (AL .i64) (gt v.leaves (wq (J - 1)))) (VP.stab _ _) (fun gP h1 g X hi G=>?_) ?_
 obtain⟨-,aO,-⟩:=X
 replace Fd:=Fd.step aO
 refine BL Au (G 47 Au)<|AB (q:=(AL .i64)) Bl B6 (G 49 Au) (G 51 Au) Fd Au bQ.1 bQ.2 ?_
 intro h2 e5
 exact Bs.same hi ⟨_,Au,e5⟩
 refine Bd (VD _ _ (vI .i64) (gt v.leaves (wq (J - 1)))) (VD.stab _ _) (fun gQ h3 g X hi G=>?_) ?_
 obtain⟨h4,e6,e7⟩:=G 52 Au
 refine BL Au (G 47 Au)<|AR B6 e6 e7 Au ?_
 intro h5 e8
 obtain⟨rfl,Rg⟩:=BK e8
 exact Bs.same hi (show Vr.vd (vI .i64) _ _ _ _ from⟨Au,Rg⟩)
 refine Dt (Pt b6 2) Au Au (fun _ _ _ h=>h) (fun _ _ _ hi G=>AQ 2 Dq Au Bl (G 3 Au) Au<|Gz hi)<|Dt (Sl Ad v.leaves Cd) Au Au (fun _ _ _ h=>h) (fun _ _ _ hi G=>AP 0 Bl (AA.nx hi).1 (G 54 Au) Au Au<|Gz hi)<|Dt (Iv J) Au Au (fun _ _ _ h=>h) (fun _ _ _ hi G=>AD (v:=Iv J) (G 5 Au)<|Gz hi) ?_
 obtain⟨bR,A⟩:=AE A
 refine Bd (VP _ _ (AL .i64) (gt v.leaves J)) (VP.stab _ _) (fun gR h6 g X hi G=>?_) ?_
 obtain⟨-,aO,-⟩:=X
 replace Fd:=Fd.step aO
 refine BL Au (G 47 Au)<|AB (q:=(AL .i64)) Bl B6 (G 55 Au) (G 56 Au) Fd Au bR.1 bR.2 ?_
 intro h7 e9
 exact Bs.same hi ⟨_,Au,e9⟩
 refine Bd (VD _ _ (vI .i64) (gt v.leaves J)) (VD.stab _ _) (fun gS h8 g X hi G=>?_) ?_
 obtain⟨h9,fA,fB⟩:=G 57 Au
 refine BL Au (G 47 Au)<|AR B6 fA fB Au ?_
 intro iA fC
 obtain⟨rfl,Rh⟩:=BK fC
 exact Bs.same hi (show Vr.vd (vI .i64) _ _ _ _ from⟨Au,Rh⟩)
 refine BD fun iB iC dL dM=>?_
 obtain⟨-,cO,-⟩:=dL
 obtain⟨bS,a6⟩:=AA.nx dM
 rintro iD bT
 replace bT:Vr.vd (vI .i64) _ _ _ _:=bT
 obtain⟨rfl,Ri⟩:=bT
 rintro _ ⟨iE,rfl,c1⟩ _ rfl _ rfl _ rfl iF bU
 replace bU:Vr.vd (vI .i64) _ _ _ _:=bU
 obtain⟨rfl,Rj⟩:=bU
 rintro _ ⟨iG,rfl,c2⟩ _ rfl _ rfl _ rfl _ rfl _ rfl _ rfl _ rfl _ rfl _ rfl iH bV
 replace bV:Vr.vd vB _ _ _ _:=bV
 obtain rfl:=bV
 rintro _ rfl _ rfl _ rfl _ rfl iI bW
 replace bW:Vr.vd (vI .i64) _ _ _ _:=bW
 obtain⟨rfl,Rk⟩:=bW
 rintro _ ⟨iJ,rfl,c3⟩ _ rfl _ rfl _ rfl
 have fD:=aB.to bS (cO.trans a6)
 replace c1:=c1.step a6;replace c2:=c2.step a6;replace c3:=c3.step a6
 refine BO Au Au<|HH Au Au<|BO Au Au<|DR (v:=Bo (decide ((gt v.leaves J)≤(gt v.leaves (wq (J - 1)))))) Au Au<|F8 (Bo (decide ((gt v.leaves J)≤(gt v.leaves (wq (J - 1)))))) Au Au<|Ax ?_
 replace aC:=aC.trans fD
 exact bM _ _ ⟨decide ((gt v.leaves J)≤(gt v.leaves (wq (J - 1)))),_,Au,BB.of ⟨Au,trivial⟩,aC,bS,A⟩
 replace A:=Hz A aV
 iterate 11 refine FX Au Au (fun _ _ _ h=>h) Au ?_
 refine BD fun iK iL dN dO=>?_
 obtain⟨-,cP,-⟩:=dN
 obtain⟨bX,c4⟩:=AA.nx dO
 rintro _ rfl _ rfl _ rfl _ rfl _ rfl _ rfl _ rfl _ rfl _ rfl _ rfl _ rfl _ rfl _ rfl _ rfl _ rfl _ rfl iM bY
 replace bY:Vr.vd vB _ _ _ _:=bY
 obtain rfl:=bY
 rintro _ rfl _ rfl _ rfl _ rfl iN bZ
 replace bZ:Vr.vd (vI .i64) _ _ _ _:=bZ
 obtain⟨rfl,Rl⟩:=bZ
 rintro _ ⟨iO,rfl,c5⟩ _ rfl _ rfl _ rfl
 have fE:=aB.to bX (cP.trans c4)
 replace c5:=c5.step c4
 refine AI Au (AJ Au Au) Au<|BO Au Au<|FE (v:=Bo false) Au Au<|F8 (Bo false) Au Au<|Ax ?_
 replace aC:=aC.trans fE
 exact bM _ _ ⟨false,_,Au,BB.of ⟨Au,trivial⟩,aC,bX,A⟩
 refine Bq<|Aw<|Aw<|Av<|Bn (Iv 0) Au<|Ax<|AC<|Wr [] [(2,Pt b1 0),(3,Pt b6 0),(6,Iv 0)] fun aW=>Bf Sv (fun m fr w'=>∃(F:Int) (M:Be),M=[(some b6,Oc [Iv v.flight,Iv v.node,Sl Ad v.leaves Cd,Sl Ae v.choices Ce] 61),(some b1,Oc (BS p Aa Ca Ab Cb Ac Cc) 26)]∧fr [] [(6,Iv F)]∧aB.S (ks M O) w'∧St ⟨w,[],[]⟩ O w' M∧Cx .i64 F∧B0 (CK p v) m F=some x) (((v.choices.length:Int) - 0).toNat+1) ⟨0,_,Au,BB.of ⟨Au,trivial⟩,AA.refl _ _,aB,E1,A⟩ ?_ ?_
 rintro _ _ ⟨_,_,_,_,_,_,_,A⟩;exact CF A
 rintro iP iQ dP gT iR ⟨F,_,rfl,a7,a8,aE,Rm,A⟩
 obtain⟨dQ,cQ,A⟩:=CG A;unfold CK at A
 rw [a7.eq];clear a7
 have aX:=a8
 refine Aw<|Aw<|Av<|Bb (Iv F) Au<|A9<|AQ 3 Dq Au FJ Au Au<|A9<|AP 0 FJ aE Au Au Au<|A9<|AZ Try.underlying59 Au ?_
 have c6:=(eW.trans a8)
 replace Fe:=Fe.step c6
 have gU:=AX Fe
 refine A9<|By Au Au<|Ax<|AF A Au (fun dR A=>?_) (fun dR A=>?_)
 refine AG<|Aw<|AC<|Aw<|Av<|A9<|AQ 3 Dq Au FJ Au Au<|A9<|AP 0 FJ aE Au Au Au<|Bb (Iv F) Au ?_
 obtain⟨b0,A⟩:=AE A
 refine A9<|AB (q:=Bt) FJ FT Au Au Fe Au b0.1 b0.2 ?_
 intro iS a9
 refine A9<|BE FT Au a9 Au ?_
 intro gV fF
 obtain⟨_,_,rfl,⟨rfl,Rn⟩,⟨_,_,rfl,⟨rfl,Ro⟩,⟨_,_,rfl,⟨rfl,Rp⟩,⟨Af,Cf,rfl,Ff⟩⟩⟩⟩:=fF
 refine A9<|Bv FT aE ?_
 intro aD iT _ c7 b2
 clear aE
 refine Bh<|C6 .z FT b2 Au Au Au Au Au ?_
 intro iU c8 aG
 clear b2
 refine Ax<|Aw<|Ic Sv [] (CO ⟨aW,[]⟩ [(2,Pt b1 0),(3,Pt b6 0),(6,Iv 0)]) [(6,Iv F),(7,Pt aD 0)] fun gW=>?_
 obtain⟨fG,dS,A⟩:=Cy A
 refine CE XR (fun fr w'=>∃(dT:Bool) (M:Be),M=[(some aD,Oc [Iv ((gt v.choices F).delay),Iv ((gt v.choices F).cost),Iv ((gt v.choices F).changes),Sl Af ((gt v.choices F).uses) Cf] 58),(some b6,Oc [Iv v.flight,Iv v.node,Sl Ad v.leaves Cd,Sl Ae v.choices Ce] 61),(some b1,Oc (BS p Aa Ca Ab Cb Ac Cc) 26)]∧fr [] [(89,Bo dT)]∧aG.S (ks M O) w'∧St ⟨w,[],[]⟩ O w' M∧fG dT=some x) ?_ ?_
 rintro gX iV ⟨dT,_,rfl,bA,bB,aY,A⟩
 replace A:=Dc dS A
 rw [bA.eq];clear bA
 refine AF A Au (fun dU A=>?_) (fun dU A=>?_)
 refine Aw ?_
 clear a9
 refine Av<|Bn (Bo false) Au<|Ax<|AV<|⟨_,DX,[Bo false],⟨Au,trivial⟩,aY.ext,?_⟩
 exact Vr.eq (a:=vB) (x:=false) Au (oi A)
 refine AG<|Aw ?_
 clear a9
 refine Av<|Bn (Iv 0) Au<|Ax<|AC<|Ic Sv [] (CO ⟨aW,[]⟩ [(2,Pt b1 0),(3,Pt b6 0),(6,Iv 0)]) [(6,Iv F),(7,Pt aD 0),(8,Iv 0)] fun dV=>Bf V7 (fun m fr w'=>∃(I:Int) (M:Be),M=[(some aD,Oc [Iv ((gt v.choices F).delay),Iv ((gt v.choices F).cost),Iv ((gt v.choices F).changes),Sl Af ((gt v.choices F).uses) Cf] 58),(some b6,Oc [Iv v.flight,Iv v.node,Sl Ad v.leaves Cd,Sl Ae v.choices Ce] 61),(some b1,Oc (BS p Aa Ca Ab Cb Ac Cc) 26)]∧fr [] [(8,Iv I)]∧aY.S (ks M O) w'∧St ⟨w,[],[]⟩ O w' M∧Cx .i64 I∧B0 (Cu p v F dQ) m I=some x) (((((gt v.choices F).uses).length:Int) - 0).toNat+1) ⟨0,_,Au,BB.of ⟨Au,trivial⟩,AA.refl _ _,aY,E1,A⟩ ?_ ?_
 rintro _ _ ⟨_,_,_,_,_,_,_,A⟩;exact CF A
 rintro iW iX dW gY iY ⟨I,_,rfl,bC,aP,Z,Rq,A⟩
 obtain⟨gZ,cR,A⟩:=CG A;unfold Cu at A
 rw [bC.eq];clear bC
 have aZ:=aP
 refine Aw<|Aw<|Av<|Bb (Iv I) Au<|A9<|AQ 3 FT Au Ho Au Au<|A9<|AP 0 Ho Z Au Au Au<|A9<|AZ Try.underlying56 Au ?_
 have c9:=(c7.trans (c8.trans (bB.trans aP)))
 replace Ff:=Ff.step c9
 have g1:=AX Ff
 refine A9<|By Au Au<|Ax<|AF A Au (fun dX A=>?_) (fun dX A=>?_)
 refine AG<|Aw<|AC<|Aw<|Av<|A9<|AQ 3 FT Au Ho Au Au<|A9<|AP 0 Ho Z Au Au Au<|Bb (Iv I) Au ?_
 obtain⟨b3,A⟩:=AE A
 refine A9<|AB (q:=Ed) Ho Gc Au Au Ff Au b3.1 b3.2 ?_
 intro iZ bD
 refine A9<|BE Gc Au bD Au ?_
 intro g2 fH
 obtain⟨_,_,rfl,⟨_,_,rfl,rfl,⟨_,_,rfl,⟨rfl,Rr⟩,⟨rfl,Rs⟩⟩⟩,⟨rfl,Rt⟩⟩:=fH
 refine A9<|Bv Gc Z ?_
 intro aH i0 _ b4 b5
 clear Z
 refine Bh<|C6 .z Gc b5 Au Au Au Au Au ?_
 intro i1 b7 aA
 clear b5
 refine Ax<|Ic V7 [] (CO (JE Sv [] dV (CO ⟨aW,[]⟩ [(2,Pt b1 0),(3,Pt b6 0),(6,Iv 0)])) [(6,Iv F),(7,Pt aD 0),(8,Iv 0)]) [(8,Iv I),(9,Pt aH 0)] fun g3=>?_
 obtain⟨fI,dY,A⟩:=Cy A
 refine CE XQ (fun fr w'=>∃(dZ:Bool) (M:Be),M=[(some aH,Oc [Bo (((gt ((gt v.choices F).uses) I).cell).airport),Iv (((gt ((gt v.choices F).uses) I).cell).index),Iv (((gt ((gt v.choices F).uses) I).cell).minute),Iv ((gt ((gt v.choices F).uses) I).places)] 76),(some aD,Oc [Iv ((gt v.choices F).delay),Iv ((gt v.choices F).cost),Iv ((gt v.choices F).changes),Sl Af ((gt v.choices F).uses) Cf] 58),(some b6,Oc [Iv v.flight,Iv v.node,Sl Ad v.leaves Cd,Sl Ae v.choices Ce] 61),(some b1,Oc (BS p Aa Ca Ab Cb Ac Cc) 26)]∧fr [] [(130,Bo dZ)]∧aA.S (ks M O) w'∧St ⟨w,[],[]⟩ O w' M∧fI dZ=some x) ?_ ?_
 rintro g4 i2 ⟨dZ,_,rfl,bE,cS,aQ,A⟩
 replace A:=Dc dY A
 rw [bE.eq];clear bE
 refine AF A Au (fun d0 A=>?_) (fun d0 A=>?_)
 refine Aw ?_
 clear bD
 refine Av<|Bn (Bo false) Au<|Ax<|AV<|⟨_,DX,[Bo false],⟨Au,trivial⟩,aQ.ext,?_⟩
 exact Vr.eq (a:=vB) (x:=false) Au (oi A)
 refine AG ?_
 clear bD
 refine Av<|Bb (Iv I) Au<|A9<|Bg Au Au<|Bn (Iv (wq (I+1))) Au<|Ax ?_
 have d1:=aQ.drop 0
 have fJ:=(aQ.dropS 0)
 clear aQ
 have fK:=(b4.trans (b7.trans (cS.trans fJ)))
 replace aZ:=aZ.trans fK
 exact dW _ _ ⟨(wq (I+1)),_,Au,BB.of ⟨Au,trivial⟩,aZ,d1,(AT .i64 _),Dc cR A⟩
 intro i3 aR
 have U:=aA.stepR
 clear bD
 refine B7 (g0:=[]) (m:=25) (fl:=[]) (CQ aA) Au (.inl Au) Au (by decide+kernel) ?_  -- 18
 refine Bc (Pt b1 0) (fun _ _ _ hi G=>AQ 0 B4 Au EX (G 2 Au) Au<|Gz hi)<|Bc (Sl Aa p.cells Ca) (fun _ _ _ hi G=>AP 3 EX (AA.nx hi).1 (G 102 Au) Au Au<|Gz hi)<|Bc (Pt aH 0) (fun _ _ _ hi G=>AQ 0 Gc Au Du (G 9 Au) Au<|Gz hi)<|Bc (Value.agg [Bo (((gt ((gt v.choices F).uses) I).cell).airport),Iv (((gt ((gt v.choices F).uses) I).cell).index),Iv (((gt ((gt v.choices F).uses) I).cell).minute)].toArray) (fun _ _ _ hi G=>G4 (vs:=[Bo (((gt ((gt v.choices F).uses) I).cell).airport),Iv (((gt ((gt v.choices F).uses) I).cell).index),Iv (((gt ((gt v.choices F).uses) I).cell).minute)]) (i:=0) Du (AA.nx hi).1 (G 104 Au) Au Au Au<|Gz hi) ?_
 obtain⟨bF,d2,A⟩:=bd A
 have fL:=(c6.trans (c7.trans (c8.trans (bB.trans (aP.trans (b4.trans b7))))))
 replace Fa:=Fa.step fL
 refine Bd (VD _ _ (vI .i64) bF) (VD.stab _ _) (fun g5 i4 g X hi G=>?_) ?_
 obtain⟨-,aO,-⟩:=X
 replace Fa:=Fa.step aO
 refine Ay (Gi Try.call81 (HS (O:=ks (DS g++[(some aH,Oc [Bo (((gt ((gt v.choices F).uses) I).cell).airport),Iv (((gt ((gt v.choices F).uses) I).cell).index),Iv (((gt ((gt v.choices F).uses) I).cell).minute),Iv ((gt ((gt v.choices F).uses) I).places)] 76),(some aD,Oc [Iv ((gt v.choices F).delay),Iv ((gt v.choices F).cost),Iv ((gt v.choices F).changes),Sl Af ((gt v.choices F).uses) Cf] 58),(some b6,Oc [Iv v.flight,Iv v.node,Sl Ad v.leaves Cd,Sl Ae v.choices Ce] 61),(some b1,Oc (BS p Aa Ca Ab Cb Ac Cc) 26)]) O) (l:=p.cells) (c:=(gt ((gt v.choices F).uses) I).cell) hi.ltw Fa Rr Rs d2) (by simp only [List.map,Array.toList,(show ev _ (.tmp 103)=_ from(G 103 Au)),(show ev _ (.tmp 105)=_ from(G 105 Au))]<;> rfl) ?_)
 rintro i5 i6 ⟨d3,fM⟩
 exact Bs.call hi d3 fM
 refine BN (Bo (decide (bF<0))) (fun g6 i7 g X hi G=>?_) ?_
 have fN:Vr.vd (vI .i64) _ _ _ _:=G 106 Au
 obtain⟨fO,Ru⟩:=fN
 exact Ay<|By fO Au<|Gz hi
 refine GI (decide (bF<0)) (fun _ _ _ _ hi G=>Ay<|AD (v:=Bo (decide (bF<0))) (G 107 Au)<|Gz hi) (fun a0=>?_) (fun a0=>?_)
 replace A:=Hy A a0
 iterate 4 refine FX Au Au (fun _ _ _ h=>h) Au ?_
 refine Bc (Bo true) (fun _ _ _ hi G=>DR (v:=Bo true) (G 108 Au) Au<|Gz hi)<|Bc (Bo true) (fun _ _ _ hi G=>AD (v:=Bo true) (G 113 Au)<|Gz hi) ?_
 iterate 12 refine FX Au Au (fun _ _ _ h=>h) Au ?_
 refine BD fun i8 i9 d4 d5=>?_
 obtain⟨-,cT,-⟩:=d4
 obtain⟨b8,fP⟩:=AA.nx d5
 rintro _ rfl _ rfl _ rfl _ rfl _ rfl _ rfl _ rfl _ rfl _ rfl _ rfl _ rfl _ rfl _ rfl _ rfl _ rfl _ rfl _ rfl _ rfl _ rfl _ rfl jA b9
 replace b9:Vr.vd (vI .i64) _ _ _ _:=b9
 obtain⟨rfl,Rv⟩:=b9
 rintro _ rfl _ rfl _ rfl _ rfl
 have fQ:=aA.to b8 (cT.trans fP)
 iterate 3 refine AI Au (AJ Au Au) Au ?_
 refine FM (Bo true) Au Au<|Ax ?_
 replace U:=U.trans fQ
 exact aR _ _ ⟨true,_,Au,BB.of ⟨Au,trivial⟩,U,b8,A⟩
 replace A:=Hz A a0
 refine Dt (Pt aH 3) Au Au (fun _ _ _ h=>h) (fun _ _ _ hi G=>AQ 3 Gc Au B6 (G 9 Au) Au<|Gz hi)<|Dt (Iv ((gt ((gt v.choices F).uses) I).places)) Au Au (fun _ _ _ h=>h) (fun _ _ _ hi G=>AP 0 B6 (AA.nx hi).1 (G 109 Au) Au Au<|Gz hi) ?_
 obtain⟨N,d6,A⟩:=bd A
 refine Bd (VD _ _ vB N) (VD.stab _ _) (fun g7 jB g X hi G=>?_) ?_
 refine BL Au (G 108 Au) (Gi Try.call61 (CU (O:=ks (DS g++[(some aH,Oc [Bo (((gt ((gt v.choices F).uses) I).cell).airport),Iv (((gt ((gt v.choices F).uses) I).cell).index),Iv (((gt ((gt v.choices F).uses) I).cell).minute),Iv ((gt ((gt v.choices F).uses) I).places)] 76),(some aD,Oc [Iv ((gt v.choices F).delay),Iv ((gt v.choices F).cost),Iv ((gt v.choices F).changes),Sl Af ((gt v.choices F).uses) Cf] 58),(some b6,Oc [Iv v.flight,Iv v.node,Sl Ad v.leaves Cd,Sl Ae v.choices Ce] 61),(some b1,Oc (BS p Aa Ca Ab Cb Ac Cc) 26)]) O) (n:=(gt ((gt v.choices F).uses) I).places) (lo:=1) (hi:=8) hi.ltw Rt Ol (show Cx .i64 8 from by decide) d6) (by simp only [List.map,Array.toList,(show ev _ (.tmp 110)=_ from(G 110 Au)),(show ev _ (.const (.int .i64 1))=.int .i64 1 from Au),(show ev _ (.const (.int .i64 8))=.int .i64 8 from Au)]<;> rfl) ?_)
 rintro jC jD ⟨d7,fR⟩
 exact Bs.call hi d7 fR
 refine BN (Bo (!N)) (fun g8 jE g X hi G=>?_) ?_
 have fS:Vr.vd vB _ _ _ _:=G 111 Au
 have fT:_=(Bo N):=fS
 exact BL Au (G 108 Au)<|Do fT<|Gz hi
 refine Bc (Bo (!N)) (fun _ _ _ hi G=>FE (v:=Bo (!N)) (G 108 Au) (G 112 Au)<|Gz hi)<|GI (!N) (fun _ _ _ _ hi G=>Ay<|AD (v:=Bo (!N)) (G 113 Au)<|Gz hi) (fun a1=>?_) (fun a1=>?_)
 replace A:=Hy A a1
 iterate 12 refine FX Au Au (fun _ _ _ h=>h) Au ?_
 refine BD fun jF jG d8 d9=>?_
 obtain⟨-,cU,-⟩:=d8
 obtain⟨cA,fU⟩:=AA.nx d9
 rintro _ rfl _ rfl _ rfl _ rfl _ rfl _ rfl _ rfl _ rfl _ rfl _ rfl _ rfl _ rfl _ rfl _ rfl _ rfl jH cB
 replace cB:Vr.vd vB _ _ _ _:=cB
 obtain rfl:=cB
 rintro _ rfl _ rfl _ rfl _ rfl jI cC
 replace cC:Vr.vd (vI .i64) _ _ _ _:=cC
 obtain⟨rfl,Rw⟩:=cC
 rintro _ rfl _ rfl _ rfl _ rfl
 have fV:=aA.to cA (cU.trans fU)
 iterate 3 refine AI Au (AJ Au Au) Au ?_
 refine FM (Bo true) Au Au<|Ax ?_
 replace U:=U.trans fV
 exact aR _ _ ⟨true,_,Au,BB.of ⟨Au,trivial⟩,U,cA,A⟩
 replace A:=Hz A a1
 refine Dt (Iv I) Au Au (fun _ _ _ h=>h) (fun _ _ _ hi G=>AD (v:=Iv I) (G 8 Au)<|Gz hi)<|Dt (Bo (decide (0<I))) Au Au (fun _ _ _ h=>h) (fun _ _ _ hi G=>EB (G 115 Au) Au<|Gz hi)<|GI (decide (0<I)) (fun _ _ _ _ hi G=>BL Au (G 114 Au)<|AD (v:=Bo (decide (0<I))) (G 116 Au)<|Gz hi) (fun a2=>?_) (fun a2=>?_)
 replace A:=Hy A a2
 refine Dt (Pt aD 3) Au Au (fun _ _ _ h=>h) (fun _ _ _ hi G=>AQ 3 FT Au Ho (G 7 Au) Au<|Gz hi)<|Dt (Sl Af ((gt v.choices F).uses) Cf) Au Au (fun _ _ _ h=>h) (fun _ _ _ hi G=>AP 1 Ho (AA.nx hi).1 (G 118 Au) Au Au<|Gz hi)<|Dt (Iv I) Au Au (fun _ _ _ h=>h) (fun _ _ _ hi G=>AD (v:=Iv I) (G 8 Au)<|Gz hi)<|Dt (Iv (wq (I - 1))) Au Au (fun _ _ _ h=>h) (fun _ _ _ hi G=>FN (G 120 Au) Au<|Gz hi) ?_
 obtain⟨cD,A⟩:=AE A
 have fW:=(b4.trans b7)
 replace Ff:=Ff.step fW
 refine Bd (VP _ _ Ed (gt ((gt v.choices F).uses) (wq (I - 1)))) (VP.stab _ _) (fun g9 jJ g X hi G=>?_) ?_
 obtain⟨-,aO,-⟩:=X
 replace Ff:=Ff.step aO
 refine BL Au (G 117 Au)<|AB (q:=Ed) Ho Gc (G 119 Au) (G 121 Au) Ff Au cD.1 cD.2 ?_
 intro jK fX
 exact Bs.same hi ⟨_,Au,fX⟩
 refine Bd (VP _ _ Bx ((gt ((gt v.choices F).uses) (wq (I - 1))).cell)) (VP.stab _ _) (fun hA jL g X hi G=>?_) ?_
 obtain⟨jM,fY,fZ⟩:=G 122 Au
 refine BL Au (G 117 Au)<|B5 Gc Au Du (by decide) fY Au ?_
 have f0:=fZ.via.fst
 exact Bs.same hi ⟨_,Au,f0⟩
 refine Bd (VD _ _ (vA Bx) ((gt ((gt v.choices F).uses) (wq (I - 1))).cell)) (VD.stab _ _) (fun hB jN g X hi G=>?_) ?_
 obtain⟨jO,f1,f2⟩:=G 123 Au
 refine BL Au (G 117 Au)<|BE Du f1 f2 Au ?_
 intro hC f3
 obtain⟨_,_,rfl,rfl,⟨_,_,rfl,⟨rfl,Rx⟩,⟨rfl,Ry⟩⟩⟩:=f3
 exact Bs.same hi (show Vr.vd (vA Bx) _ _ _ _ from(JX (C2 (AW GJ (AW (AU Rx) (AU Ry))))))
 refine Dt (Pt aH 0) Au Au (fun _ _ _ h=>h) (fun _ _ _ hi G=>AQ 0 Gc Au Du (G 9 Au) Au<|Gz hi)<|Dt (Value.agg [Bo (((gt ((gt v.choices F).uses) I).cell).airport),Iv (((gt ((gt v.choices F).uses) I).cell).index),Iv (((gt ((gt v.choices F).uses) I).cell).minute)].toArray) Au Au (fun _ _ _ h=>h) (fun _ _ _ hi G=>G4 (vs:=[Bo (((gt ((gt v.choices F).uses) I).cell).airport),Iv (((gt ((gt v.choices F).uses) I).cell).index),Iv (((gt ((gt v.choices F).uses) I).cell).minute)]) (i:=0) Du (AA.nx hi).1 (G 125 Au) Au Au Au<|Gz hi)<|BD fun jP jQ eA eB=>?_
 obtain⟨-,cV,-⟩:=eA
 obtain⟨aS,cE⟩:=AA.nx eB
 rintro _ rfl _ rfl jR cF
 replace cF:Vr.vd (vA Bx) _ _ _ _:=cF
 obtain⟨_,rfl,⟨_,_,rfl,rfl,⟨_,_,rfl,⟨rfl,Rz⟩,⟨rfl,hD⟩⟩⟩⟩:=cF
 rintro _ ⟨jS,rfl,dA⟩ _ ⟨jT,rfl,dB⟩ _ rfl _ rfl _ rfl _ rfl _ rfl _ rfl _ rfl _ rfl _ rfl _ rfl jU cG
 replace cG:Vr.vd vB _ _ _ _:=cG
 obtain rfl:=cG
 rintro _ rfl _ rfl _ rfl _ rfl jV cH
 replace cH:Vr.vd (vI .i64) _ _ _ _:=cH
 obtain⟨rfl,kQ⟩:=cH
 rintro _ rfl _ rfl _ rfl _ rfl
 have f4:=aA.to aS (cV.trans cE)
 replace dA:=dA.step cE;replace dB:=dB.step cE
 obtain⟨aF,eC,A⟩:=bd A
 refine BO Au Au<|Bi aS Try.call60 (Hp (a:=(gt ((gt v.choices F).uses) (wq (I - 1))).cell) (b:=(gt ((gt v.choices F).uses) I).cell) aS.ltw Rz hD Rr Rs eC) Au ?_
 rintro jW jX f5 eD f6
 clear aS
 obtain rfl:=f6
 refine BO Au Au<|Do Au<|BO Au Au<|DR (v:=Bo (!aF)) Au Au<|F8 (Bo (!aF)) Au Au<|Ax ?_
 have f7:=(f4.trans f5)
 replace U:=U.trans f7
 exact aR _ _ ⟨!aF,_,Au,BB.of ⟨Au,trivial⟩,U,eD,A⟩
 replace A:=Hz A a2
 iterate 9 refine FX Au Au (fun _ _ _ h=>h) Au ?_
 refine BD fun jY jZ eE eF=>?_
 obtain⟨-,cW,-⟩:=eE
 obtain⟨cI,f8⟩:=AA.nx eF
 rintro _ rfl _ rfl _ rfl _ rfl _ rfl _ rfl _ rfl _ rfl _ rfl _ rfl _ rfl _ rfl _ rfl _ rfl _ rfl j0 cJ
 replace cJ:Vr.vd vB _ _ _ _:=cJ
 obtain rfl:=cJ
 rintro _ rfl _ rfl _ rfl _ rfl j1 cK
 replace cK:Vr.vd (vI .i64) _ _ _ _:=cK
 obtain⟨rfl,kR⟩:=cK
 rintro _ rfl _ rfl _ rfl _ rfl
 have f9:=aA.to cI (cW.trans f8)
 refine AI Au (AJ Au Au) Au<|AI Au (AJ Au Au) Au<|BO Au Au<|FE (v:=Bo false) Au Au<|F8 (Bo false) Au Au<|Ax ?_
 replace U:=U.trans f9
 exact aR _ _ ⟨false,_,Au,BB.of ⟨Au,trivial⟩,U,cI,A⟩
 refine Bq<|Av<|Bb (Iv F) Au<|A9<|Bg Au Au<|Bn (Iv (wq (F+1))) Au<|Ax ?_
 have eG:=Z.drop 0
 have gA:=(Z.dropS 0)
 clear Z
 have gB:=(c9.trans gA)
 replace aX:=aX.trans gB
 exact dP _ _ ⟨(wq (F+1)),_,Au,BB.of ⟨Au,trivial⟩,aX,eG,(AT .i64 _),Dc cQ A⟩
 intro j2 a3
 have Y:=aG.stepR
 clear a9
 refine Av<|A9<|AQ 0 FT Au B6 Au Au<|A9<|AP 0 B6 aG Au Au Au ?_
 obtain⟨bG,eH,A⟩:=bd A
 refine A9<|Bi aG Try.call61 (CU (n:=(gt v.choices F).delay) (lo:=0) (hi:=1048576) aG.ltw Rn E1 (show Cx .i64 1048576 from by decide) eH) Au ?_
 rintro j3 j4 cL aI gC
 obtain rfl:=gC
 refine A9<|Do Au<|Bb (Bo (!bG)) Au<|Bz A (fun eI A=>?_) (fun eI A=>?_)
 iterate 4 refine AI Au (AJ Au Au) Au ?_
 refine FM (Bo true) Au Au<|Bb (Bo true) Au ?_
 iterate 4 refine AI Au (AJ Au Au) Au ?_
 refine FM (Bo true) Au Au<|Ax ?_
 replace Y:=Y.trans cL
 exact a3 _ _ ⟨true,_,Au,BB.of ⟨Au,trivial⟩,Y,aI,A⟩
 refine BO Au Au<|AQ 1 FT Au B6 Au Au<|BO Au Au<|AP 0 B6 aI Au Au Au ?_
 obtain⟨aL,eJ,A⟩:=bd A
 refine BO Au Au<|Bi aI Try.call61 (CU (n:=(gt v.choices F).cost) (lo:=0) (hi:=1048576) aI.ltw Ro E1 (show Cx .i64 1048576 from by decide) eJ) Au ?_
 rintro j5 j6 dC aJ gD
 clear aI
 obtain rfl:=gD
 refine BO Au Au<|Do Au<|F8 (Bo (!aL)) Au Au<|Bb (Bo (!aL)) Au<|Bz A (fun eK A=>?_) (fun eK A=>?_)
 iterate 4 refine AI Au (AJ Au Au) Au ?_
 refine FM (Bo true) Au Au<|Ax ?_
 replace Y:=Y.trans (cL.trans dC)
 exact a3 _ _ ⟨true,_,Au,BB.of ⟨Au,trivial⟩,Y,aJ,A⟩
 refine BO Au Au<|AQ 2 FT Au B6 Au Au<|BO Au Au<|AP 0 B6 aJ Au Au Au ?_
 obtain⟨aM,eL,A⟩:=bd A
 refine BO Au Au<|Bi aJ Try.call61 (CU (n:=(gt v.choices F).changes) (lo:=0) (hi:=1048576) aJ.ltw Rp E1 (show Cx .i64 1048576 from by decide) eL) Au ?_
 rintro j7 j8 gE eM gF
 clear aJ
 obtain rfl:=gF
 refine BO Au Au<|Do Au<|F8 (Bo (!aM)) Au Au<|Ax ?_
 replace Y:=Y.trans (cL.trans (dC.trans gE))
 exact a3 _ _ ⟨!aM,_,Au,BB.of ⟨Au,trivial⟩,Y,eM,A⟩
 refine Bq<|Aw ?_
 obtain⟨eN,j9⟩:=aE.sub (bs':=[]) (.cons _ (.cons _ List.Sublist.slnil))
 clear Fa Fb Fc Fd Fe
 clear aE
 refine Av<|Bn (Bo true) Au<|Ax<|AV<|⟨_,DX,[Bo true],⟨Au,trivial⟩,eN.ext,?_⟩
 exact Vr.eq (a:=vB) (x:=true) Au (oi A)
 intro kS cM
 have a4:=aT.stepR
 refine Av<|A9<|AQ 2 Dq Au Bl Au Au<|A9<|AP 0 Bl aT Au Au Au<|A9<|AZ Try.underlying31 Au ?_
 have dD:=(p3.trans p8)
 replace Fd:=Fd.step dD
 have hE:=AX Fd
 refine A9<|By Au Au<|Bb (Bo (decide ((v.leaves.length:Int)<1))) Au<|Bz A (fun eO A=>?_) (fun eO A=>?_)
 iterate 4 refine AI Au (AJ Au Au) Au ?_
 refine FM (Bo true) Au Au<|Bb (Bo true) Au ?_
 iterate 4 refine AI Au (AJ Au Au) Au ?_
 exact FM (Bo true) Au Au<|Ax<|cM _ _ ⟨true,_,Au,BB.of ⟨Au,trivial⟩,a4,aT,A⟩
 refine BO Au Au<|AQ 3 Dq Au FJ Au Au<|BO Au Au<|AP 0 FJ aT Au Au Au<|BO Au Au<|AZ Try.underlying59 Au ?_
 replace Fe:=Fe.step dD
 have hF:=AX Fe
 refine BO Au Au<|By Au Au<|F8 (Bo (decide ((v.choices.length:Int)<1))) Au Au<|Bb (Bo (decide ((v.choices.length:Int)<1))) Au<|Bz A (fun eP A=>?_) (fun eP A=>?_)
 iterate 4 refine AI Au (AJ Au Au) Au ?_
 exact FM (Bo true) Au Au<|Ax<|cM _ _ ⟨true,_,Au,BB.of ⟨Au,trivial⟩,a4,aT,A⟩
 refine BO Au Au<|AQ 3 Dq Au FJ Au Au<|BO Au Au<|AP 0 FJ aT Au Au Au<|BO Au Au<|AZ Try.underlying59 Au ?_
 have hG:=AX Fe
 exact BO Au Au<|EB Au Au<|F8 (Bo (decide (96<(v.choices.length:Int)))) Au Au<|Ax<|cM _ _ ⟨decide (96<(v.choices.length:Int)),_,Au,BB.of ⟨Au,trivial⟩,a4,aT,A⟩

abbrev XU:List Nat:=[2,6,105,106,107,108,109,110,111,112,113,114,115,116,117,118,119]

abbrev XV:List Nat:=[2,5,88,89,90,91,92,93,94,95,96,97,98,99,100,101,102,103,104]

abbrev V9:List Nat:=[2,4,5,71,72,73,74,75,76,77,78,79,80,81,82,83,84,85,86,87,88,89,90,91,92,93,94,95,96,97,98,99,100,101,102,103,104]

abbrev XW:List Nat:=[36,37,38,39,40,41,42,43,44,45,46,47,48,49,50,51,52,53,54,55,56,57,58,59,60,61,62,63,64,65,66,67,68,69,70]

abbrev VA:List Nat:=[2,3,29,30,31,32,33,34,35,36,37,38,39,40,41,42,43,44,45,46,47,48,49,50,51,52,53,54,55,56,57,58,59,60,61,62,63,64,65,66,67,68,69,70]

abbrev XX:List Nat:=[7,8,9,10,11,12,13,14,15,16,17,18,19,20,21,22,23,24,25,26,27,28]

def Dd (p:A8) (F:Int) (I:Int→Option Int) (J:Int→Option Int) (G:Int):Option Int:=
 bif (decide (G<(p.cells.length:Int))) then
  ck ((0:Int)≤F∧F<(p.capacity.length:Int))<|
  ck ((0:Int)≤G∧G<((p.capacity.getD F.toNat default).length:Int))<|
  (BH ((p.capacity.getD F.toNat default).getD G.toNat default) 0 4096).bind fun A=>
  bif (!A) then
   some 270
  else
   J (IntKind.wrap .i64 (G+1))
 else
  I (IntKind.wrap .i64 (F+1))

def De (p:A8) (G:Int→Option Int) (F:Int):Option Int:=
 bif (decide (F<(p.variables.length:Int))) then
  ck ((0:Int)≤F∧F<(p.variables.length:Int))<|
  (DN p (p.variables.getD F.toNat default)).bind fun A=>
  bif (!A) then
   some 270
  else
   G (IntKind.wrap .i64 (F+1))
 else
  some 0

def Df (p:A8) (F:Int→Option Int) (A:Int):Option Int:=
 bif (decide (A<(p.capacity.length:Int))) then
  ck ((0:Int)≤A∧A<(p.capacity.length:Int))<|
  bif (decide (((p.capacity.getD A.toNat default).length:Int)≠(p.cells.length:Int))) then
   some 270
  else
   B0 (Dd p A F) (((p.cells.length:Int) - 0).toNat+1) 0
 else
  B0 (De p) (((p.variables.length:Int) - 0).toNat+1) 0

def CC (p:A8) (I:Int→Option Int) (A:Int):Option Int:=
 bif (decide (A<(p.cells.length:Int))) then
  jn (fun(J:Bool)=>
   bif J then
    some 270
   else
    I (IntKind.wrap .i64 (A+1)))
  (fun G=>
   ck ((0:Int)≤A∧A<(p.cells.length:Int))<|
   bif (decide (((p.cells.getD A.toNat default).index)<0)) then
    G true
   else
    ck ((0:Int)≤A∧A<(p.cells.length:Int))<|
    bif (decide (((p.cells.getD A.toNat default).minute)<0)) then
     G true
    else
     bif (decide (0<A)) then
      ck ((0:Int)≤(IntKind.wrap .i64 (A - 1))∧(IntKind.wrap .i64 (A - 1))<(p.cells.length:Int))<|
      ck ((0:Int)≤A∧A<(p.cells.length:Int))<|
      (D0 (p.cells.getD (IntKind.wrap .i64 (A - 1)).toNat default) (p.cells.getD A.toNat default)).bind fun F=>
      G (!F)
     else
      G false)
 else
  B0 (Df p) (((p.capacity.length:Int) - 0).toNat+1) 0

def DH (p:A8):Option Int:=
 jn (fun(F:Bool)=>
  bif F then
   some 270
  else
   B0 (CC p) (((p.cells.length:Int) - 0).toNat+1) 0)
 (fun A=>
  bif (decide (4096<(p.cells.length:Int))) then
   A true
  else
   bif (decide ((p.capacity.length:Int)<1)) then
    A true
   else
    bif (decide (32<(p.capacity.length:Int))) then
     A true
    else
     A (decide (64<(p.variables.length:Int))))

theorem H0 {w:World} {O:List Nat} {p:A8} {Aa:Option Addr} {Ca:Nat} {Ab:Option Addr} {Cb:Nat} {Ac:Option Addr} {Cc:Nat} (hO:∀k∈O,k<w.heap.size) (Fa:CA Bx w O Aa Ca p.cells) (Fb:CA (BG (AL .i64)) w O Ab Cb p.capacity) (Fc:CA AS w O Ac Cc p.variables) {x:Int} (A:DH p=some x):
 Ok Try.prog 31 [Value.agg (BS p Aa Ca Ab Cb Ac Cc).toArray] w O (vI .i64) x:=by
 unfold DH at A
 refine Br (n:=120) (xs:=[.tmp 2]) Try.func31 Au Try.ntmps31 Try.results31 Au ?_
 have hs:=St.start hO
 refine Aw<|Av<|A9<|BT (cs:=(BS p Aa Ca Ab Cb Ac Cc)) hs Au Au ?_
 intro b1 w2 _ p3 aG
 refine Bn (Iv 0) Au<|Ax<|Aw<|Wr [] [(1,Pt b1 0)] fun jE=>?_
 obtain⟨k8,fG,A⟩:=Cy A
 refine CE XX (fun fr w'=>∃(cX:Bool) (I:Be),I=[(some b1,Oc (BS p Aa Ca Ab Cb Ac Cc) 26)]∧fr [] [(28,Bo cX)]∧aG.S (ks I O) w'∧St ⟨w,[],[]⟩ O w' I∧k8 cX=some x) ?_ ?_
 rintro gO jG ⟨cX,_,rfl,a4,cY,aU,A⟩
 replace A:=Dc fG A
 rw [a4.eq];clear a4
 refine AF A Au (fun dX A=>?_) (fun dX A=>?_)
 refine Aw ?_
 obtain⟨dY,jH⟩:=aU.sub (bs':=[]) (.cons _ List.Sublist.slnil)
 clear Fa Fb Fc
 clear aU
 refine Av<|Bn (Iv 270) Au<|Ax<|AV<|⟨_,DX,[Iv 270],⟨Au,trivial⟩,dY.ext,?_⟩
 exact Vr.eq (a:=(vI .i64)) (x:=270) ⟨Au,(show Cx .i64 270 from by decide)⟩ (oi A)
 refine AG<|Aw<|Aw<|Av<|Bn (Iv 0) Au<|Ax<|AC<|Wr [] [(1,Pt b1 0),(3,Iv 0)] fun dZ=>Bf VA (fun m fr w'=>∃(G:Int) (I:Be),I=[(some b1,Oc (BS p Aa Ca Ab Cb Ac Cc) 26)]∧fr [] [(3,Iv G)]∧aU.S (ks I O) w'∧St ⟨w,[],[]⟩ O w' I∧Cx .i64 G∧B0 (CC p) m G=some x) (((p.cells.length:Int) - 0).toNat+1) ⟨0,_,Au,BB.of ⟨Au,trivial⟩,AA.refl _ _,aU,E1,A⟩ ?_ ?_
 rintro _ _ ⟨_,_,_,_,_,_,_,A⟩;exact CF A
 rintro jI jJ d0 gP jK ⟨G,_,rfl,a5,a6,U,Ra,A⟩
 obtain⟨gQ,cZ,A⟩:=CG A;unfold CC at A
 rw [a5.eq];clear a5
 have a7:=a6
 refine Aw<|Aw<|Av<|Bb (Iv G) Au<|A9<|AQ 0 B4 Au EX Au Au<|A9<|AP 0 EX U Au Au Au<|A9<|AZ Try.underlying22 Au ?_
 have d1:=(p3.trans (cY.trans a6))
 replace Fa:=Fa.step d1
 have gR:=AX Fa
 refine A9<|By Au Au<|Ax<|AF A Au (fun d2 A=>?_) (fun d2 A=>?_)
 refine AG<|Aw<|AC<|Ic VA [] (CO ⟨dZ,[]⟩ [(1,Pt b1 0),(3,Iv 0)]) [(3,Iv G)] fun gS=>?_
 obtain⟨fH,d3,A⟩:=Cy A
 refine CE XW (fun fr w'=>∃(c0:Bool) (I:Be),I=[(some b1,Oc (BS p Aa Ca Ab Cb Ac Cc) 26)]∧fr [] [(70,Bo c0)]∧U.S (ks I O) w'∧St ⟨w,[],[]⟩ O w' I∧fH c0=some x) ?_ ?_
 rintro gT jL ⟨c0,_,rfl,a8,c1,cD,A⟩
 replace A:=Dc d3 A
 rw [a8.eq];clear a8
 refine AF A Au (fun d4 A=>?_) (fun d4 A=>?_)
 refine Aw<|Av<|Bn (Iv 270) Au<|Ax<|AV<|⟨_,DX,[Iv 270],⟨Au,trivial⟩,cD.ext,?_⟩
 exact Vr.eq (a:=(vI .i64)) (x:=270) ⟨Au,(show Cx .i64 270 from by decide)⟩ (oi A)
 refine AG<|Av<|Bb (Iv G) Au<|A9<|Bg Au Au<|Bn (Iv (wq (G+1))) Au<|Ax ?_
 replace a7:=a7.trans c1
 exact d0 _ _ ⟨(wq (G+1)),_,Au,BB.of ⟨Au,trivial⟩,a7,cD,(AT .i64 _),Dc cZ A⟩
 intro jM aV
 have M:=U.stepR
 refine B7 (g0:=[]) (m:=31) (fl:=[]) (CQ U) Au (.inl Au) Au (by decide+kernel) ?_  -- 6
 refine Bc (Pt b1 0) (fun _ _ _ hi F=>AQ 0 B4 Au EX (F 1 Au) Au<|Gz hi)<|Bc (Sl Aa p.cells Ca) (fun _ _ _ hi F=>AP 0 EX (AA.nx hi).1 (F 36 Au) Au Au<|Gz hi)<|Bc (Iv G) (fun _ _ _ hi F=>AD (v:=Iv G) (F 3 Au)<|Gz hi) ?_
 obtain⟨cE,A⟩:=AE A
 refine Bd (VP _ _ Bx (gt p.cells G)) (VP.stab _ _) (fun gU jN g J hi F=>?_) ?_
 obtain⟨-,aE,-⟩:=J
 replace Fa:=Fa.step aE
 refine Ay<|AB (q:=Bx) EX Du (F 37 Au) (F 38 Au) Fa Au cE.1 cE.2 ?_
 intro jO fI
 exact Bs.same hi ⟨_,Au,fI⟩
 refine Bd (VP _ _ (AL .i64) ((gt p.cells G).index)) (VP.stab _ _) (fun gV jP g J hi F=>?_) ?_
 obtain⟨jQ,fJ,fK⟩:=F 39 Au
 refine Ay<|B5 Du Au B6 (by decide) fJ Au ?_
 have fL:=fK.via.snd.fst
 exact Bs.same hi ⟨_,Au,fL⟩
 refine Bd (VD _ _ (vI .i64) ((gt p.cells G).index)) (VD.stab _ _) (fun gW jR g J hi F=>?_) ?_
 obtain⟨jS,fM,fN⟩:=F 40 Au
 refine Ay<|AR B6 fM fN Au ?_
 intro jT fO
 obtain⟨rfl,Rb⟩:=BK fO
 exact Bs.same hi (show Vr.vd (vI .i64) _ _ _ _ from⟨Au,Rb⟩)
 refine BN (Bo (decide (((gt p.cells G).index)<0))) (fun gX jU g J hi F=>?_) ?_
 have fP:Vr.vd (vI .i64) _ _ _ _:=F 41 Au
 obtain⟨fQ,Rc⟩:=fP
 exact Ay<|By fQ Au<|Gz hi
 refine GI (decide (((gt p.cells G).index)<0)) (fun _ _ _ _ hi F=>Ay<|AD (v:=Bo (decide (((gt p.cells G).index)<0))) (F 42 Au)<|Gz hi) (fun a9=>?_) (fun a9=>?_)
 replace A:=Hy A a9
 iterate 7 refine FX Au Au (fun _ _ _ h=>h) Au ?_
 refine Bc (Bo true) (fun _ _ _ hi F=>DR (v:=Bo true) (F 43 Au) Au<|Gz hi)<|Bc (Bo true) (fun _ _ _ hi F=>AD (v:=Bo true) (F 51 Au)<|Gz hi) ?_
 iterate 14 refine FX Au Au (fun _ _ _ h=>h) Au ?_
 refine BD fun jV jW d5 c2=>?_
 obtain⟨-,b4,-⟩:=d5
 obtain⟨bA,bB⟩:=AA.nx c2
 rintro _ rfl _ rfl _ rfl _ rfl _ rfl _ rfl _ rfl _ rfl _ rfl _ rfl _ rfl _ rfl _ rfl _ rfl _ rfl _ rfl _ rfl _ rfl _ rfl _ rfl _ rfl _ rfl _ rfl _ rfl _ rfl gY bC
 replace bC:Vr.vd (vI .i64) _ _ _ _:=bC
 obtain⟨rfl,Rd⟩:=bC
 rintro _ ⟨gZ,rfl,cF⟩ _ ⟨g1,rfl,cG⟩ _ rfl _ rfl _ rfl
 have d6:=U.to bA (b4.trans bB)
 replace cF:=cF.step bB;replace cG:=cG.step bB
 iterate 3 refine AI Au (AJ Au Au) Au ?_
 refine FM (Bo true) Au Au<|Ax ?_
 replace M:=M.trans d6
 exact aV _ _ ⟨true,_,Au,BB.of ⟨Au,trivial⟩,M,bA,A⟩
 replace A:=Hz A a9
 refine Dt (Pt b1 0) Au Au (fun _ _ _ h=>h) (fun _ _ _ hi F=>AQ 0 B4 Au EX (F 1 Au) Au<|Gz hi)<|Dt (Sl Aa p.cells Ca) Au Au (fun _ _ _ h=>h) (fun _ _ _ hi F=>AP 0 EX (AA.nx hi).1 (F 44 Au) Au Au<|Gz hi)<|Dt (Iv G) Au Au (fun _ _ _ h=>h) (fun _ _ _ hi F=>AD (v:=Iv G) (F 3 Au)<|Gz hi) ?_
 obtain⟨bD,A⟩:=AE A
 refine Bd (VP _ _ Bx (gt p.cells G)) (VP.stab _ _) (fun fR g2 g J hi F=>?_) ?_
 obtain⟨-,aE,-⟩:=J
 replace Fa:=Fa.step aE
 refine BL Au (F 43 Au)<|AB (q:=Bx) EX Du (F 45 Au) (F 46 Au) Fa Au bD.1 bD.2 ?_
 intro g3 d7
 exact Bs.same hi ⟨_,Au,d7⟩
 refine Bd (VP _ _ (AL .i64) ((gt p.cells G).minute)) (VP.stab _ _) (fun fS g4 g J hi F=>?_) ?_
 obtain⟨g5,d8,d9⟩:=F 47 Au
 refine BL Au (F 43 Au)<|B5 Du Au B6 (by decide) d8 Au ?_
 have eA:=d9.via.snd.snd
 exact Bs.same hi ⟨_,Au,eA⟩
 refine Bd (VD _ _ (vI .i64) ((gt p.cells G).minute)) (VD.stab _ _) (fun fT g6 g J hi F=>?_) ?_
 obtain⟨g7,eB,eC⟩:=F 48 Au
 refine BL Au (F 43 Au)<|AR B6 eB eC Au ?_
 intro g8 eD
 obtain⟨rfl,Re⟩:=BK eD
 exact Bs.same hi (show Vr.vd (vI .i64) _ _ _ _ from⟨Au,Re⟩)
 refine BN (Bo (decide (((gt p.cells G).minute)<0))) (fun fU g9 g J hi F=>?_) ?_
 have eE:Vr.vd (vI .i64) _ _ _ _:=F 49 Au
 obtain⟨eF,Rf⟩:=eE
 exact BL Au (F 43 Au)<|By eF Au<|Gz hi
 refine Bc (Bo (decide (((gt p.cells G).minute)<0))) (fun _ _ _ hi F=>FE (v:=Bo (decide (((gt p.cells G).minute)<0))) (F 43 Au) (F 50 Au)<|Gz hi)<|GI (decide (((gt p.cells G).minute)<0)) (fun _ _ _ _ hi F=>Ay<|AD (v:=Bo (decide (((gt p.cells G).minute)<0))) (F 51 Au)<|Gz hi) (fun aP=>?_) (fun aP=>?_)
 replace A:=Hy A aP
 iterate 14 refine FX Au Au (fun _ _ _ h=>h) Au ?_
 refine BD fun hA hB c3 c4=>?_
 obtain⟨-,b5,-⟩:=c3
 obtain⟨bE,aN⟩:=AA.nx c4
 rintro _ rfl _ rfl _ rfl _ rfl _ rfl _ rfl _ rfl _ rfl _ rfl _ rfl _ rfl _ rfl _ rfl _ rfl _ rfl _ rfl _ rfl hC bF
 replace bF:Vr.vd (vI .i64) _ _ _ _:=bF
 obtain⟨rfl,Rg⟩:=bF
 rintro _ ⟨hD,rfl,cH⟩ _ ⟨hE,rfl,cI⟩ _ rfl _ rfl _ rfl _ rfl _ rfl hF bG
 replace bG:Vr.vd (vI .i64) _ _ _ _:=bG
 obtain⟨rfl,Rh⟩:=bG
 rintro _ ⟨hG,rfl,cJ⟩ _ ⟨hH,rfl,cK⟩ _ rfl _ rfl _ rfl
 have eG:=U.to bE (b5.trans aN)
 replace cH:=cH.step aN;replace cI:=cI.step aN;replace cJ:=cJ.step aN;replace cK:=cK.step aN
 iterate 3 refine AI Au (AJ Au Au) Au ?_
 refine FM (Bo true) Au Au<|Ax ?_
 replace M:=M.trans eG
 exact aV _ _ ⟨true,_,Au,BB.of ⟨Au,trivial⟩,M,bE,A⟩
 replace A:=Hz A aP
 refine Dt (Iv G) Au Au (fun _ _ _ h=>h) (fun _ _ _ hi F=>AD (v:=Iv G) (F 3 Au)<|Gz hi)<|Dt (Bo (decide (0<G))) Au Au (fun _ _ _ h=>h) (fun _ _ _ hi F=>EB (F 53 Au) Au<|Gz hi)<|GI (decide (0<G)) (fun _ _ _ _ hi F=>BL Au (F 52 Au)<|AD (v:=Bo (decide (0<G))) (F 54 Au)<|Gz hi) (fun aQ=>?_) (fun aQ=>?_)
 replace A:=Hy A aQ
 refine Dt (Pt b1 0) Au Au (fun _ _ _ h=>h) (fun _ _ _ hi F=>AQ 0 B4 Au EX (F 1 Au) Au<|Gz hi)<|Dt (Sl Aa p.cells Ca) Au Au (fun _ _ _ h=>h) (fun _ _ _ hi F=>AP 0 EX (AA.nx hi).1 (F 56 Au) Au Au<|Gz hi)<|Dt (Iv G) Au Au (fun _ _ _ h=>h) (fun _ _ _ hi F=>AD (v:=Iv G) (F 3 Au)<|Gz hi)<|Dt (Iv (wq (G - 1))) Au Au (fun _ _ _ h=>h) (fun _ _ _ hi F=>FN (F 58 Au) Au<|Gz hi) ?_
 obtain⟨bH,A⟩:=AE A
 refine Bd (VP _ _ Bx (gt p.cells (wq (G - 1)))) (VP.stab _ _) (fun fV hI g J hi F=>?_) ?_
 obtain⟨-,aE,-⟩:=J
 replace Fa:=Fa.step aE
 refine BL Au (F 55 Au)<|AB (q:=Bx) EX Du (F 57 Au) (F 59 Au) Fa Au bH.1 bH.2 ?_
 intro hJ eH
 exact Bs.same hi ⟨_,Au,eH⟩
 refine Bd (VD _ _ (vA Bx) (gt p.cells (wq (G - 1)))) (VD.stab _ _) (fun fW hK g J hi F=>?_) ?_
 obtain⟨hL,eI,eJ⟩:=F 60 Au
 refine BL Au (F 55 Au)<|BE Du eI eJ Au ?_
 intro fX eK
 obtain⟨_,_,rfl,rfl,⟨_,_,rfl,⟨rfl,Ri⟩,⟨rfl,Rj⟩⟩⟩:=eK
 exact Bs.same hi (show Vr.vd (vA Bx) _ _ _ _ from(JX (C2 (AW GJ (AW (AU Ri) (AU Rj))))))
 refine Dt (Pt b1 0) Au Au (fun _ _ _ h=>h) (fun _ _ _ hi F=>AQ 0 B4 Au EX (F 1 Au) Au<|Gz hi)<|Dt (Sl Aa p.cells Ca) Au Au (fun _ _ _ h=>h) (fun _ _ _ hi F=>AP 0 EX (AA.nx hi).1 (F 62 Au) Au Au<|Gz hi)<|Dt (Iv G) Au Au (fun _ _ _ h=>h) (fun _ _ _ hi F=>AD (v:=Iv G) (F 3 Au)<|Gz hi) ?_
 obtain⟨bI,A⟩:=AE A
 refine Bd (VP _ _ Bx (gt p.cells G)) (VP.stab _ _) (fun fY hM g J hi F=>?_) ?_
 obtain⟨-,aE,-⟩:=J
 replace Fa:=Fa.step aE
 refine BL Au (F 55 Au)<|AB (q:=Bx) EX Du (F 63 Au) (F 64 Au) Fa Au bI.1 bI.2 ?_
 intro hN eL
 exact Bs.same hi ⟨_,Au,eL⟩
 refine Bd (VD _ _ (vA Bx) (gt p.cells G)) (VD.stab _ _) (fun fZ hP g J hi F=>?_) ?_
 obtain⟨hQ,eM,eN⟩:=F 65 Au
 refine BL Au (F 55 Au)<|BE Du eM eN Au ?_
 intro f0 eO
 obtain⟨_,_,rfl,rfl,⟨_,_,rfl,⟨rfl,Rk⟩,⟨rfl,Rl⟩⟩⟩:=eO
 exact Bs.same hi (show Vr.vd (vA Bx) _ _ _ _ from(JX (C2 (AW GJ (AW (AU Rk) (AU Rl))))))
 refine BD fun hR hS c5 c6=>?_
 obtain⟨-,b6,-⟩:=c5
 obtain⟨aJ,aF⟩:=AA.nx c6
 rintro hT bJ
 replace bJ:Vr.vd (vA Bx) _ _ _ _:=bJ
 obtain⟨_,rfl,⟨_,_,rfl,rfl,⟨_,_,rfl,⟨rfl,Rm⟩,⟨rfl,Rn⟩⟩⟩⟩:=bJ
 rintro _ ⟨hU,rfl,cL⟩ _ rfl _ rfl _ rfl hV bK
 replace bK:Vr.vd (vA Bx) _ _ _ _:=bK
 obtain⟨_,rfl,⟨_,_,rfl,rfl,⟨_,_,rfl,⟨rfl,Ro⟩,⟨rfl,Rp⟩⟩⟩⟩:=bK
 rintro _ ⟨hW,rfl,cM⟩ _ rfl _ rfl _ rfl _ rfl _ rfl _ rfl _ rfl _ rfl _ rfl _ rfl hX bL
 replace bL:Vr.vd (vI .i64) _ _ _ _:=bL
 obtain⟨rfl,Rq⟩:=bL
 rintro _ ⟨hY,rfl,cN⟩ _ ⟨hZ,rfl,cO⟩ _ rfl _ rfl _ rfl _ rfl _ rfl h0 bM
 replace bM:Vr.vd (vI .i64) _ _ _ _:=bM
 obtain⟨rfl,Rr⟩:=bM
 rintro _ ⟨h1,rfl,cP⟩ _ ⟨h2,rfl,cQ⟩ _ rfl _ rfl _ rfl
 have eP:=U.to aJ (b6.trans aF)
 replace cL:=cL.step aF;replace cM:=cM.step aF;replace cN:=cN.step aF;replace cO:=cO.step aF;replace cP:=cP.step aF;replace cQ:=cQ.step aF
 obtain⟨W,c7,A⟩:=bd A
 refine BO Au Au<|Bi aJ Try.call60 (Hp (a:=gt p.cells (wq (G - 1))) (b:=gt p.cells G) aJ.ltw Ro Rp Rm Rn c7) Au ?_
 rintro h3 h4 eQ c8 eR
 clear aJ
 obtain rfl:=eR
 refine BO Au Au<|Do Au<|BO Au Au<|DR (v:=Bo (!W)) Au Au<|F8 (Bo (!W)) Au Au<|Ax ?_
 have eS:=(eP.trans eQ)
 replace M:=M.trans eS
 exact aV _ _ ⟨!W,_,Au,BB.of ⟨Au,trivial⟩,M,c8,A⟩
 replace A:=Hz A aQ
 iterate 11 refine FX Au Au (fun _ _ _ h=>h) Au ?_
 refine BD fun h5 h6 c9 dA=>?_
 obtain⟨-,b7,-⟩:=c9
 obtain⟨bN,aO⟩:=AA.nx dA
 rintro _ rfl _ rfl _ rfl _ rfl _ rfl _ rfl _ rfl _ rfl _ rfl _ rfl _ rfl _ rfl _ rfl _ rfl _ rfl _ rfl _ rfl h7 bO
 replace bO:Vr.vd (vI .i64) _ _ _ _:=bO
 obtain⟨rfl,Rs⟩:=bO
 rintro _ ⟨h8,rfl,cR⟩ _ ⟨h9,rfl,cS⟩ _ rfl _ rfl _ rfl _ rfl _ rfl iA bP
 replace bP:Vr.vd (vI .i64) _ _ _ _:=bP
 obtain⟨rfl,Rt⟩:=bP
 rintro _ ⟨iB,rfl,cT⟩ _ ⟨iC,rfl,cU⟩ _ rfl _ rfl _ rfl
 have eT:=U.to bN (b7.trans aO)
 replace cR:=cR.step aO;replace cS:=cS.step aO;replace cT:=cT.step aO;replace cU:=cU.step aO
 refine AI Au (AJ Au Au) Au<|AI Au (AJ Au Au) Au<|BO Au Au<|FE (v:=Bo false) Au Au<|F8 (Bo false) Au Au<|Ax ?_
 replace M:=M.trans eT
 exact aV _ _ ⟨false,_,Au,BB.of ⟨Au,trivial⟩,M,bN,A⟩
 refine Bq<|Aw<|Aw<|Av<|Bn (Iv 0) Au<|Ax<|AC<|Wr [] [(1,Pt b1 0),(4,Iv 0)] fun dB=>Bf V9 (fun m fr w'=>∃(N:Int) (I:Be),I=[(some b1,Oc (BS p Aa Ca Ab Cb Ac Cc) 26)]∧fr [] [(4,Iv N)]∧U.S (ks I O) w'∧St ⟨w,[],[]⟩ O w' I∧Cx .i64 N∧B0 (Df p) m N=some x) (((p.capacity.length:Int) - 0).toNat+1) ⟨0,_,Au,BB.of ⟨Au,trivial⟩,AA.refl _ _,U,E1,A⟩ ?_ ?_
 rintro _ _ ⟨_,_,_,_,_,_,_,A⟩;exact CF A
 rintro iD iE dC f1 iF ⟨N,_,rfl,aW,aB,X,Ru,A⟩
 obtain⟨dD,b8,A⟩:=CG A;unfold Df at A
 rw [aW.eq];clear aW
 have aR:=aB
 refine Aw<|Aw<|Av<|Bb (Iv N) Au<|A9<|AQ 1 B4 Au Db Au Au<|A9<|AP 0 Db X Au Au Au<|A9<|AZ Try.underlying23 Au ?_
 have cV:=(d1.trans aB)
 replace Fb:=Fb.step cV
 have f2:=AX Fb
 refine A9<|By Au Au<|Ax<|AF A Au (fun dE A=>?_) (fun dE A=>?_)
 refine AG<|Aw<|AC<|Aw<|Aw<|B7 (g0:=[]) (m:=9) (fl:=[]) (CQ X) Au (.inl Au) Au (by decide+kernel) ?_  -- 11
 refine Bc (Pt b1 1) (fun _ _ _ hi F=>AQ 1 B4 Au Db (F 1 Au) Au<|Gz hi)<|Bc (Sl Ab p.capacity Cb) (fun _ _ _ hi F=>AP 0 Db (AA.nx hi).1 (F 78 Au) Au Au<|Gz hi)<|Bc (Iv N) (fun _ _ _ hi F=>AD (v:=Iv N) (F 4 Au)<|Gz hi) ?_
 obtain⟨bQ,A⟩:=AE A
 refine Bd (VP _ _ (BG (AL .i64)) (gt p.capacity N)) (VP.stab _ _) (fun f3 iG g J hi F=>?_) ?_
 obtain⟨-,aE,-⟩:=J
 replace Fb:=Fb.step aE
 refine Ay<|AB (q:=BG (AL .i64)) Db Bl (F 79 Au) (F 80 Au) Fb Au bQ.1 bQ.2 ?_
 intro iH eU
 exact Bs.same hi ⟨_,Au,eU⟩
 refine Bd (VD _ _ (vC (BG (AL .i64))) (gt p.capacity N)) (VD.stab _ _) (fun f4 iI g J hi F=>?_) ?_
 obtain⟨iJ,eV,eW⟩:=F 81 Au
 refine Ay<|AR Bl eV eW Au ?_
 intro iK eX
 obtain⟨Ad,Cd,rfl,Fd⟩:=B9 eX
 exact Bs.same hi (show Vr.vd (vC (BG (AL .i64))) _ _ _ _ from(Jy (B8 Fd)))
 refine Bd (VD _ _ (vI .i64) ((gt p.capacity N).length:Int)) (VD.stab _ _) (fun f5 iL g J hi F=>?_) ?_
 have eY:Vr.vd (vC (BG (AL .i64))) _ _ _ _:=F 82 Au
 obtain⟨Ae,Ce,eZ,Fe⟩:=B9 eY
 exact Ay<|AZ Try.underlying31 eZ<|Bs.same hi (show Vr.vd (vI .i64) _ _ _ _ from⟨Au,AX Fe⟩)
 refine Bc (Pt b1 0) (fun _ _ _ hi F=>AQ 0 B4 Au EX (F 1 Au) Au<|Gz hi)<|Bc (Sl Aa p.cells Ca) (fun _ _ _ hi F=>AP 0 EX (AA.nx hi).1 (F 84 Au) Au Au<|Gz hi)<|Bc (Iv (p.cells.length:Int)) (fun _ _ _ hi F=>AZ Try.underlying22 (F 85 Au)<|Gz hi)<|BD fun iM iN dF dG=>?_
 obtain⟨-,b9,-⟩:=dF
 obtain⟨aK,bR⟩:=AA.nx dG
 rintro _ rfl _ rfl _ rfl iO bS
 replace bS:Vr.vd (vI .i64) _ _ _ _:=bS
 obtain⟨rfl,Rv⟩:=bS
 rintro iP bT
 replace bT:Vr.vd (vC (BG (AL .i64))) _ _ _ _:=bT
 obtain⟨Af,Cf,rfl,Ff⟩:=B9 bT
 rintro _ ⟨iQ,rfl,aX⟩ _ rfl _ rfl _ rfl
 have bU:=X.to aK (b9.trans bR)
 replace Ff:=Ff.step bR;replace aX:=aX.step bR;clear X
 refine A9<|Eh Au Au<|Ax<|AF A Au (fun dH A=>?_) (fun dH A=>?_)
 refine Aw ?_
 clear Ff aX
 refine Av<|Bn (Iv 270) Au<|Ax<|AV<|⟨_,DX,[Iv 270],⟨Au,trivial⟩,aK.ext,?_⟩
 exact Vr.eq (a:=(vI .i64)) (x:=270) ⟨Au,(show Cx .i64 270 from by decide)⟩ (oi A)
 refine AG<|Aw ?_
 clear Ff aX
 refine Av<|Bn (Iv 0) Au<|Ax<|AC<|Ic V9 [] (CO ⟨dB,[]⟩ [(1,Pt b1 0),(4,Iv 0)]) [(4,Iv N),(5,Iv 0)] fun f6=>Bf XV (fun m fr w'=>∃(aH:Int) (I:Be),I=[(some b1,Oc (BS p Aa Ca Ab Cb Ac Cc) 26)]∧fr [] [(5,Iv aH)]∧aK.S (ks I O) w'∧St ⟨w,[],[]⟩ O w' I∧Cx .i64 aH∧B0 (Dd p N dD) m aH=some x) (((p.cells.length:Int) - 0).toNat+1) ⟨0,_,Au,BB.of ⟨Au,trivial⟩,AA.refl _ _,aK,E1,A⟩ ?_ ?_
 rintro _ _ ⟨_,_,_,_,_,_,_,A⟩;exact CF A
 rintro iR iS dI f7 iT ⟨aH,_,rfl,aY,aC,Y,Rw,A⟩
 obtain⟨f8,cA,A⟩:=CG A;unfold Dd at A
 rw [aY.eq];clear aY
 have aS:=aC
 refine Aw<|Aw<|Av<|Bb (Iv aH) Au<|A9<|AQ 0 B4 Au EX Au Au<|A9<|AP 0 EX Y Au Au Au<|A9<|AZ Try.underlying22 Au ?_
 have e0:=(aB.trans (bU.trans aC))
 replace Fa:=Fa.step e0
 have f9:=AX Fa
 refine A9<|By Au Au<|Ax<|AF A Au (fun dJ A=>?_) (fun dJ A=>?_)
 refine AG<|Aw<|AC<|Aw<|Av<|A9<|AQ 1 B4 Au Db Au Au<|A9<|AP 0 Db Y Au Au Au<|Bb (Iv N) Au ?_
 obtain⟨bV,A⟩:=AE A
 have e1:=(bU.trans aC)
 replace Fb:=Fb.step e1
 refine A9<|AB (q:=BG (AL .i64)) Db Bl Au Au Fb Au bV.1 bV.2 ?_
 intro iU bW
 refine A9<|AR Bl Au bW Au ?_
 intro iV e2
 obtain⟨Ag,Cg,rfl,Fg⟩:=B9 e2
 refine Bb (Iv aH) Au ?_
 obtain⟨bX,A⟩:=AE A
 refine A9<|AB (q:=(AL .i64)) Bl B6 Au Au Fg Au bX.1 bX.2 ?_
 intro iW bY
 refine A9<|AR B6 Au bY Au ?_
 intro iX e3
 obtain⟨rfl,Rx⟩:=BK e3
 obtain⟨dW,dK,A⟩:=bd A
 refine A9<|Bi Y Try.call61 (CU (n:=gt (gt p.capacity N) aH) (lo:=0) (hi:=4096) Y.ltw Rx E1 (show Cx .i64 4096 from by decide) dK) Au ?_
 rintro iY iZ e4 bZ e5
 clear Y
 obtain rfl:=e5
 refine A9<|Do Au<|Ax<|AF A Au (fun dL A=>?_) (fun dL A=>?_)
 refine Aw ?_
 clear bW Fg bY
 refine Av<|Bn (Iv 270) Au<|Ax<|AV<|⟨_,DX,[Iv 270],⟨Au,trivial⟩,bZ.ext,?_⟩
 exact Vr.eq (a:=(vI .i64)) (x:=270) ⟨Au,(show Cx .i64 270 from by decide)⟩ (oi A)
 refine AG ?_
 clear bW Fg bY
 refine Av<|Bb (Iv aH) Au<|A9<|Bg Au Au<|Bn (Iv (wq (aH+1))) Au<|Ax ?_
 replace aS:=aS.trans e4
 exact dI _ _ ⟨(wq (aH+1)),_,Au,BB.of ⟨Au,trivial⟩,aS,bZ,(AT .i64 _),Dc cA A⟩
 refine Bq<|Av<|Bb (Iv N) Au<|A9<|Bg Au Au<|Bn (Iv (wq (N+1))) Au<|Ax ?_
 have e6:=(bU.trans aC)
 replace aR:=aR.trans e6
 exact dC _ _ ⟨(wq (N+1)),_,Au,BB.of ⟨Au,trivial⟩,aR,Y,(AT .i64 _),Dc b8 A⟩
 refine Bq<|Aw<|Aw<|Av<|Bn (Iv 0) Au<|Ax<|AC<|Wr [] [(1,Pt b1 0),(6,Iv 0)] fun gA=>Bf XU (fun m fr w'=>∃(Z:Int) (I:Be),I=[(some b1,Oc (BS p Aa Ca Ab Cb Ac Cc) 26)]∧fr [] [(6,Iv Z)]∧X.S (ks I O) w'∧St ⟨w,[],[]⟩ O w' I∧Cx .i64 Z∧B0 (De p) m Z=some x) (((p.variables.length:Int) - 0).toNat+1) ⟨0,_,Au,BB.of ⟨Au,trivial⟩,AA.refl _ _,X,E1,A⟩ ?_ ?_
 rintro _ _ ⟨_,_,_,_,_,_,_,A⟩;exact CF A
 rintro i0 i1 dM gB i2 ⟨Z,_,rfl,aZ,aD,aA,Ry,A⟩
 obtain⟨gC,cB,A⟩:=CG A;unfold De at A
 rw [aZ.eq];clear aZ
 have aT:=aD
 refine Aw<|Aw<|Av<|Bb (Iv Z) Au<|A9<|AQ 2 B4 Au Cz Au Au<|A9<|AP 0 Cz aA Au Au Au<|A9<|AZ Try.underlying24 Au ?_
 replace Fc:=Fc.step (cV.trans aD)
 have gD:=AX Fc
 refine A9<|By Au Au<|Ax<|AF A Au (fun dN A=>?_) (fun dN A=>?_)
 refine AG<|Aw<|AC<|Aw<|B7 (g0:=[]) (m:=6) (fl:=[]) (CQ aA) Au (.inl Au) Au (by decide+kernel) ?_  -- 21
 refine Bc (Value.agg (BS p Aa Ca Ab Cb Ac Cc).toArray) (fun _ _ _ hi F=>B1 0 B4 (AA.nx hi).1 (F 1 Au) Au Au<|Gz hi)<|Bc (Pt b1 2) (fun _ _ _ hi F=>AQ 2 B4 Au Cz (F 1 Au) Au<|Gz hi)<|Bc (Sl Ac p.variables Cc) (fun _ _ _ hi F=>AP 0 Cz (AA.nx hi).1 (F 113 Au) Au Au<|Gz hi)<|Bc (Iv Z) (fun _ _ _ hi F=>AD (v:=Iv Z) (F 6 Au)<|Gz hi) ?_
 obtain⟨b0,A⟩:=AE A
 refine Bd (VP _ _ AS (gt p.variables Z)) (VP.stab _ _) (fun gE i3 g J hi F=>?_) ?_
 obtain⟨-,aE,-⟩:=J
 replace Fc:=Fc.step aE
 refine Ay<|AB (q:=AS) Cz Dq (F 114 Au) (F 115 Au) Fc Au b0.1 b0.2 ?_
 intro i4 e7
 exact Bs.same hi ⟨_,Au,e7⟩
 refine Bd (VD _ _ (vA AS) (gt p.variables Z)) (VD.stab _ _) (fun gF i5 g J hi F=>?_) ?_
 obtain⟨i6,e8,e9⟩:=F 116 Au
 refine Ay<|BE Dq e8 e9 Au ?_
 intro gG fA
 obtain⟨_,_,rfl,⟨rfl,Rz⟩,⟨_,_,rfl,⟨rfl,gH⟩,⟨_,_,rfl,⟨Ah,Ch,rfl,Fh⟩,⟨Ai,Ci,rfl,Fi⟩⟩⟩⟩:=fA
 exact Bs.same hi (show Vr.vd (vA AS) _ _ _ _ from(JX (C2 (AW (AU Rz) (AW (AU gH) (AW (B8 Fh) (B8 Fi)))))))
 refine BD fun i7 i8 dO dP=>?_
 obtain⟨-,cC,-⟩:=dO
 obtain⟨aL,a0⟩:=AA.nx dP
 rintro i9 b2
 replace b2:Vr.vd (vA AS) _ _ _ _:=b2
 obtain⟨_,rfl,⟨_,_,rfl,⟨rfl,gI⟩,⟨_,_,rfl,⟨rfl,gJ⟩,⟨_,_,rfl,⟨Aj,Cj,rfl,Fj⟩,⟨Ak,Ck,rfl,Fk⟩⟩⟩⟩⟩:=b2
 rintro _ ⟨jA,rfl,a1⟩ _ rfl _ rfl _ rfl _ rfl
 have a2:=aA.to aL (cC.trans a0)
 replace Fj:=Fj.step a0;replace Fk:=Fk.step a0;replace a1:=a1.step a0;clear aA
 obtain⟨cW,dQ,A⟩:=bd A
 have fB:=(aD.trans a2)
 replace Fb:=Fb.step fB
 have fC:=(aB.trans (aD.trans a2))
 replace Fa:=Fa.step fC;replace Fc:=Fc.step a2
 refine A9<|Bi aL Try.call62 (IB (p:=p) (v:=gt p.variables Z) aL.ltw Fa Fb Fc gI gJ Fj Fk dQ) Au ?_
 rintro jB jC fD b3 fE
 clear aL
 obtain rfl:=fE
 refine A9<|Do Au<|Ax<|AF A Au (fun dR A=>?_) (fun dR A=>?_)
 refine Aw ?_
 clear Fj Fk a1
 refine Av<|Bn (Iv 270) Au<|Ax<|AV<|⟨_,DX,[Iv 270],⟨Au,trivial⟩,b3.ext,?_⟩
 exact Vr.eq (a:=(vI .i64)) (x:=270) ⟨Au,(show Cx .i64 270 from by decide)⟩ (oi A)
 refine AG ?_
 clear Fj Fk a1
 refine Av<|Bb (Iv Z) Au<|A9<|Bg Au Au<|Bn (Iv (wq (Z+1))) Au<|Ax ?_
 replace aT:=aT.trans (a2.trans fD)
 exact dM _ _ ⟨(wq (Z+1)),_,Au,BB.of ⟨Au,trivial⟩,aT,b3,(AT .i64 _),Dc cB A⟩
 refine Bq<|Aw ?_
 obtain⟨dS,jD⟩:=aA.sub (bs':=[]) (.cons _ List.Sublist.slnil)
 clear Fa Fb Fc
 clear aA
 refine Av<|Bn (Iv 0) Au<|Ax<|AV<|⟨_,DX,[Iv 0],⟨Au,trivial⟩,dS.ext,?_⟩
 exact Vr.eq (a:=(vI .i64)) (x:=0) ⟨Au,E1⟩ (oi A)
 intro jX a3
 have aM:=aG.stepR
 refine Av<|A9<|AQ 0 B4 Au EX Au Au<|A9<|AP 0 EX aG Au Au Au<|A9<|AZ Try.underlying22 Au ?_
 replace Fa:=Fa.step p3
 have gK:=AX Fa
 refine A9<|EB Au Au<|Bb (Bo (decide (4096<(p.cells.length:Int)))) Au<|Bz A (fun dT A=>?_) (fun dT A=>?_)
 iterate 4 refine AI Au (AJ Au Au) Au ?_
 refine FM (Bo true) Au Au<|Bb (Bo true) Au ?_
 iterate 4 refine AI Au (AJ Au Au) Au ?_
 refine FM (Bo true) Au Au<|Bb (Bo true) Au ?_
 iterate 4 refine AI Au (AJ Au Au) Au ?_
 exact FM (Bo true) Au Au<|Ax<|a3 _ _ ⟨true,_,Au,BB.of ⟨Au,trivial⟩,aM,aG,A⟩
 refine BO Au Au<|AQ 1 B4 Au Db Au Au<|BO Au Au<|AP 0 Db aG Au Au Au<|BO Au Au<|AZ Try.underlying23 Au ?_
 replace Fb:=Fb.step p3
 have gL:=AX Fb
 refine BO Au Au<|By Au Au<|F8 (Bo (decide ((p.capacity.length:Int)<1))) Au Au<|Bb (Bo (decide ((p.capacity.length:Int)<1))) Au<|Bz A (fun dU A=>?_) (fun dU A=>?_)
 iterate 4 refine AI Au (AJ Au Au) Au ?_
 refine FM (Bo true) Au Au<|Bb (Bo true) Au ?_
 iterate 4 refine AI Au (AJ Au Au) Au ?_
 exact FM (Bo true) Au Au<|Ax<|a3 _ _ ⟨true,_,Au,BB.of ⟨Au,trivial⟩,aM,aG,A⟩
 refine BO Au Au<|AQ 1 B4 Au Db Au Au<|BO Au Au<|AP 0 Db aG Au Au Au<|BO Au Au<|AZ Try.underlying23 Au ?_
 have gM:=AX Fb
 refine BO Au Au<|EB Au Au<|F8 (Bo (decide (32<(p.capacity.length:Int)))) Au Au<|Bb (Bo (decide (32<(p.capacity.length:Int)))) Au<|Bz A (fun dV A=>?_) (fun dV A=>?_)
 iterate 4 refine AI Au (AJ Au Au) Au ?_
 exact FM (Bo true) Au Au<|Ax<|a3 _ _ ⟨true,_,Au,BB.of ⟨Au,trivial⟩,aM,aG,A⟩
 refine BO Au Au<|AQ 2 B4 Au Cz Au Au<|BO Au Au<|AP 0 Cz aG Au Au Au<|BO Au Au<|AZ Try.underlying24 Au ?_
 replace Fc:=Fc.step p3
 have gN:=AX Fc
 exact BO Au Au<|EB Au Au<|F8 (Bo (decide (64<(p.variables.length:Int)))) Au Au<|Ax<|a3 _ _ ⟨decide (64<(p.variables.length:Int)),_,Au,BB.of ⟨Au,trivial⟩,aM,aG,A⟩

abbrev XY:List Nat:=[4,5,12,13,14,15,16,17,18,19,20,21,22,23,24,25,26,27,28,29,30,31]

def DB (p:A8) (b:List Int) (G:Int→Option Bool) (A:Int):Option Bool:=
 bif (decide (A<(b.length:Int))) then
  ck ((0:Int)≤A∧A<(b.length:Int))<|
  ck ((0:Int)≤A∧A<(p.variables.length:Int))<|
  (BH (b.getD A.toNat default) 0 (IntKind.wrap .i64 ((((p.variables.getD A.toNat default).choices).length:Int) - 1))).bind fun F=>
  bif (!F) then
   some false
  else
   G (IntKind.wrap .i64 (A+1))
 else
  some true

def El (p:A8) (b:List Int):Option Bool:=
 bif (decide ((p.variables.length:Int)<(b.length:Int))) then
  some false
 else
  B0 (DB p b) (((b.length:Int) - 0).toNat+1) 0

theorem Ja {w:World} {O:List Nat} {p:A8} {b:List Int} {Aa:Option Addr} {Ca:Nat} {Ab:Option Addr} {Cb:Nat} {Ac:Option Addr} {Cc:Nat} {Ad:Option Addr} {Cd:Nat} (hO:∀k∈O,k<w.heap.size) (Fa:CA Bx w O Aa Ca p.cells) (Fb:CA (BG (AL .i64)) w O Ab Cb p.capacity) (Fc:CA AS w O Ac Cc p.variables) (Fd:CA (AL .i64) w O Ad Cd b) {x:Bool} (F:El p b=some x):
 Ok Try.prog 87 [Value.agg (BS p Aa Ca Ab Cb Ac Cc).toArray,Sl Ad b Cd] w O vB x:=by
 unfold El at F
 refine Br (n:=32) (xs:=[.tmp 4]) Try.func87 Au Try.ntmps87 Try.results87 Au ?_
 have hs:=St.start hO
 refine Aw<|Av<|A9<|BT (cs:=(BS p Aa Ca Ab Cb Ac Cc)) hs Au Au ?_
 intro b1 w2 _ p3 Y
 refine Bn (Bo false) Au<|Ax<|Aw<|Aw<|Av<|Bb (Sl Ad b Cd) Au<|A9<|AZ Try.underlying31 Au ?_
 replace Fd:=Fd.step p3
 have b2:=AX Fd
 refine A9<|AQ 2 B4 Au Cz Au Au<|A9<|AP 0 Cz Y Au Au Au<|A9<|AZ Try.underlying24 Au ?_
 replace Fc:=Fc.step p3
 have b3:=AX Fc
 refine A9<|EB Au Au<|Ax<|AF F Au (fun aZ F=>?_) (fun aZ F=>?_)
 refine Aw ?_
 obtain⟨a0,b4⟩:=Y.sub (bs':=[]) (.cons _ List.Sublist.slnil)
 clear Fa Fb Fc Fd
 clear Y
 refine Av<|Bn (Bo false) Au<|Ax<|AV<|⟨_,DX,[Bo false],⟨Au,trivial⟩,a0.ext,?_⟩
 exact Vr.eq (a:=vB) (x:=false) Au (oi F)
 refine AG<|Aw<|Aw<|Av<|Bn (Iv 0) Au<|Ax<|AC<|Wr [] [(1,Sl Ad b Cd),(2,Pt b1 0),(5,Iv 0)] fun bH=>Bf XY (fun m fr w'=>∃(A:Int) (aI:Be),aI=[(some b1,Oc (BS p Aa Ca Ab Cb Ac Cc) 26)]∧fr [] [(5,Iv A)]∧Y.S (ks aI O) w'∧St ⟨w,[],[]⟩ O w' aI∧Cx .i64 A∧B0 (DB p b) m A=some x) (((b.length:Int) - 0).toNat+1) ⟨0,_,Au,BB.of ⟨Au,trivial⟩,AA.refl _ _,Y,E1,F⟩ ?_ ?_
 rintro _ _ ⟨_,_,_,_,_,_,_,F⟩;exact CF F
 rintro b5 b6 aQ bI b7 ⟨A,_,rfl,Z,M,I,Ra,F⟩
 obtain⟨bJ,aJ,F⟩:=CG F;unfold DB at F
 rw [Z.eq];clear Z
 have aA:=M
 refine Aw<|Aw<|Av<|Bb (Iv A) Au<|Bb (Sl Ad b Cd) Au<|A9<|AZ Try.underlying31 Au ?_
 replace Fd:=Fd.step M
 have bK:=AX Fd
 refine A9<|By Au Au<|Ax<|AF F Au (fun aR F=>?_) (fun aR F=>?_)
 refine AG<|Aw<|AC<|Aw<|B7 (g0:=[]) (m:=12) (fl:=[]) (CQ I) Au (.inl Au) Au (by decide+kernel) ?_  -- 6
 refine Bc (Sl Ad b Cd) (fun _ _ _ hi G=>AD (v:=Sl Ad b Cd) (G 1 Au)<|Gz hi)<|Bc (Iv A) (fun _ _ _ hi G=>AD (v:=Iv A) (G 5 Au)<|Gz hi) ?_
 obtain⟨aG,F⟩:=AE F
 refine Bd (VP _ _ (AL .i64) (gt b A)) (VP.stab _ _) (fun bL b8 g J hi G=>?_) ?_
 obtain⟨-,aK,-⟩:=J
 replace Fd:=Fd.step aK
 refine Ay<|AB (q:=(AL .i64)) Bl B6 (G 18 Au) (G 19 Au) Fd Au aG.1 aG.2 ?_
 intro b9 a1
 exact Bs.same hi ⟨_,Au,a1⟩
 refine Bd (VD _ _ (vI .i64) (gt b A)) (VD.stab _ _) (fun bM cA g J hi G=>?_) ?_
 obtain⟨cB,a2,a3⟩:=G 20 Au
 refine Ay<|AR B6 a2 a3 Au ?_
 intro cC a4
 obtain⟨rfl,Rb⟩:=BK a4
 exact Bs.same hi (show Vr.vd (vI .i64) _ _ _ _ from⟨Au,Rb⟩)
 refine Bc (Pt b1 2) (fun _ _ _ hi G=>AQ 2 B4 Au Cz (G 2 Au) Au<|Gz hi)<|Bc (Sl Ac p.variables Cc) (fun _ _ _ hi G=>AP 0 Cz (AA.nx hi).1 (G 22 Au) Au Au<|Gz hi)<|Bc (Iv A) (fun _ _ _ hi G=>AD (v:=Iv A) (G 5 Au)<|Gz hi) ?_
 obtain⟨aH,F⟩:=AE F
 replace Fc:=Fc.step M
 refine Bd (VP _ _ AS (gt p.variables A)) (VP.stab _ _) (fun bN cD g J hi G=>?_) ?_
 obtain⟨-,aK,-⟩:=J
 replace Fc:=Fc.step aK
 refine Ay<|AB (q:=AS) Cz Dq (G 23 Au) (G 24 Au) Fc Au aH.1 aH.2 ?_
 intro cE a5
 exact Bs.same hi ⟨_,Au,a5⟩
 refine Bd (VP _ _ (BG Bt) ((gt p.variables A).choices)) (VP.stab _ _) (fun bO cF g J hi G=>?_) ?_
 obtain⟨cG,a6,a7⟩:=G 25 Au
 refine Ay<|B5 Dq Au FJ (by decide) a6 Au ?_
 have a8:=a7.via.snd.snd.snd
 exact Bs.same hi ⟨_,Au,a8⟩
 refine Bd (VD _ _ (vC (BG Bt)) ((gt p.variables A).choices)) (VD.stab _ _) (fun bP cH g J hi G=>?_) ?_
 obtain⟨cI,a9,bA⟩:=G 26 Au
 refine Ay<|AR FJ a9 bA Au ?_
 intro cJ bB
 obtain⟨Ae,Ce,rfl,Fe⟩:=B9 bB
 exact Bs.same hi (show Vr.vd (vC (BG Bt)) _ _ _ _ from(Jy (B8 Fe)))
 refine Bd (VD _ _ (vI .i64) (((gt p.variables A).choices).length:Int)) (VD.stab _ _) (fun bQ cK g J hi G=>?_) ?_
 have bC:Vr.vd (vC (BG Bt)) _ _ _ _:=G 27 Au
 obtain⟨Af,Cf,bD,Ff⟩:=B9 bC
 exact Ay<|AZ Try.underlying59 bD<|Bs.same hi (show Vr.vd (vI .i64) _ _ _ _ from⟨Au,AX Ff⟩)
 refine BN (Iv (wq ((((gt p.variables A).choices).length:Int) - 1))) (fun bR cL g J hi G=>?_) ?_
 have bE:Vr.vd (vI .i64) _ _ _ _:=G 28 Au
 obtain⟨bF,Rc⟩:=bE
 exact Ay<|FN bF Au<|Gz hi
 refine BD fun cM cN aS aT=>?_
 obtain⟨-,aL,-⟩:=aS
 obtain⟨N,aB⟩:=AA.nx aT
 rintro _ rfl bS aC
 replace aC:Vr.vd (vI .i64) _ _ _ _:=aC
 obtain⟨rfl,Rd⟩:=aC
 rintro bT aD
 replace aD:Vr.vd (vC (BG Bt)) _ _ _ _:=aD
 obtain⟨Ag,Cg,rfl,Fg⟩:=B9 aD
 rintro _ ⟨bU,rfl,U⟩ _ ⟨bV,rfl,W⟩ _ rfl _ rfl _ rfl bW aE
 replace aE:Vr.vd (vI .i64) _ _ _ _:=aE
 obtain⟨rfl,Re⟩:=aE
 rintro _ ⟨bX,rfl,X⟩ _ rfl _ rfl
 have aU:=I.to N (aL.trans aB)
 replace Fg:=Fg.step aB;replace U:=U.step aB;replace W:=W.step aB;replace X:=X.step aB;clear I
 obtain⟨aP,aM,F⟩:=bd F
 refine A9<|Bi N Try.call61 (CU (n:=gt b A) (lo:=0) (hi:=(wq ((((gt p.variables A).choices).length:Int) - 1))) N.ltw Re E1 (AT .i64 _) aM) Au ?_
 rintro bY bZ aV aF aW
 clear N
 obtain rfl:=aW
 refine A9<|Do Au<|Ax<|AF F Au (fun aN F=>?_) (fun aN F=>?_)
 refine Aw ?_
 clear Fd Fg U W X
 refine Av<|Bn (Bo false) Au<|Ax<|AV<|⟨_,DX,[Bo false],⟨Au,trivial⟩,aF.ext,?_⟩
 exact Vr.eq (a:=vB) (x:=false) Au (oi F)
 refine AG ?_
 clear Fg U W X
 refine Av<|Bb (Iv A) Au<|A9<|Bg Au Au<|Bn (Iv (wq (A+1))) Au<|Ax ?_
 have aX:=(aU.trans aV)
 replace aA:=aA.trans aX
 exact aQ _ _ ⟨(wq (A+1)),_,Au,BB.of ⟨Au,trivial⟩,aA,aF,(AT .i64 _),Dc aJ F⟩
 refine Bq<|Aw ?_
 obtain⟨aO,b0⟩:=I.sub (bs':=[]) (.cons _ List.Sublist.slnil)
 clear Fa Fb Fc Fd
 clear I
 refine Av<|Bn (Bo true) Au<|Ax<|AV<|⟨_,DX,[Bo true],⟨Au,trivial⟩,aO.ext,?_⟩
 exact Vr.eq (a:=vB) (x:=true) Au (oi F)

abbrev XZ:List Nat:=[4,5,6,7,8,9,10,11,12,13,14,15,16,17,18,19]

def CY (v:AM) (leaf:Int) (F:Int→Option Bool) (A:Int):Option Bool:=
 bif (decide (A<(v.leaves.length:Int))) then
  ck ((0:Int)≤A∧A<(v.leaves.length:Int))<|
  bif (decide ((v.leaves.getD A.toNat default)=leaf)) then
   some true
  else
   F (IntKind.wrap .i64 (A+1))
 else
  some false

def Em (v:AM) (leaf:Int):Option Bool:=
 B0 (CY v leaf) (((v.leaves.length:Int) - 0).toNat+1) 0

theorem Jb {w:World} {O:List Nat} {v:AM} {leaf:Int} {Aa:Option Addr} {Ca:Nat} {Ab:Option Addr} {Cb:Nat} (hO:∀k∈O,k<w.heap.size) (Ra:Cx .i64 v.flight) (Rb:Cx .i64 v.node) (Fa:CA (AL .i64) w O Aa Ca v.leaves) (Fb:CA Bt w O Ab Cb v.choices) (Rc:Cx .i64 leaf) {x:Bool} (F:Em v leaf=some x):
 Ok Try.prog 89 [Value.agg [Iv v.flight,Iv v.node,Sl Aa v.leaves Ca,Sl Ab v.choices Cb].toArray,Iv leaf] w O vB x:=by
 unfold Em at F
 refine Br (n:=20) (xs:=[.tmp 4]) Try.func89 Au Try.ntmps89 Try.results89 Au ?_
 have hs:=St.start hO
 refine Aw<|Av<|A9<|BT (cs:=[Iv v.flight,Iv v.node,Sl Aa v.leaves Ca,Sl Ab v.choices Cb]) hs Au Au ?_
 intro b1 w2 _ p3 W
 refine Bn (Bo false) Au<|Ax<|Aw<|Aw<|Av<|Bn (Iv 0) Au<|Ax<|AC<|Wr [] [(1,Iv leaf),(2,Pt b1 0),(5,Iv 0)] fun aJ=>Bf XZ (fun m fr w'=>∃(G:Int) (N:Be),N=[(some b1,Oc [Iv v.flight,Iv v.node,Sl Aa v.leaves Ca,Sl Ab v.choices Cb] 61)]∧fr [] [(5,Iv G)]∧W.S (ks N O) w'∧St ⟨w,[],[]⟩ O w' N∧Cx .i64 G∧B0 (CY v leaf) m G=some x) (((v.leaves.length:Int) - 0).toNat+1) ⟨0,_,Au,BB.of ⟨Au,trivial⟩,AA.refl _ _,W,E1,F⟩ ?_ ?_
 rintro _ _ ⟨_,_,_,_,_,_,_,F⟩;exact CF F
 rintro aK aL X aG aM ⟨G,_,rfl,I,J,A,Rd,F⟩
 obtain⟨aN,Y,F⟩:=CG F;unfold CY at F
 rw [I.eq];clear I
 have Z:=J
 refine Aw<|Aw<|Av<|Bb (Iv G) Au<|A9<|AQ 2 Dq Au Bl Au Au<|A9<|AP 0 Bl A Au Au Au<|A9<|AZ Try.underlying31 Au ?_
 have aD:=(p3.trans J)
 replace Fa:=Fa.step aD
 have aH:=AX Fa
 refine A9<|By Au Au<|Ax<|AF F Au (fun aA F=>?_) (fun aA F=>?_)
 refine AG<|Aw<|AC<|Aw<|Av<|A9<|AQ 2 Dq Au Bl Au Au<|A9<|AP 0 Bl A Au Au Au<|Bb (Iv G) Au ?_
 obtain⟨M,F⟩:=AE F
 refine A9<|AB (q:=(AL .i64)) Bl B6 Au Au Fa Au M.1 M.2 ?_
 intro aO U
 refine A9<|AR B6 Au U Au ?_
 intro aP aE
 obtain⟨rfl,Re⟩:=BK aE
 refine Bb (Iv leaf) Au<|A9<|HI Au Au<|Ax<|AF F Au (fun aB F=>?_) (fun aB F=>?_)
 refine Aw ?_
 clear U
 refine Av<|Bn (Bo true) Au<|Ax<|AV<|⟨_,DX,[Bo true],⟨Au,trivial⟩,A.ext,?_⟩
 exact Vr.eq (a:=vB) (x:=true) Au (oi F)
 refine AG ?_
 clear U
 exact Av<|Bb (Iv G) Au<|A9<|Bg Au Au<|Bn (Iv (wq (G+1))) Au<|Ax<|X _ _ ⟨(wq (G+1)),_,Au,BB.of ⟨Au,trivial⟩,Z,A,(AT .i64 _),Dc Y F⟩
 refine Bq<|Aw ?_
 obtain⟨aC,aQ⟩:=A.sub (bs':=[]) (.cons _ List.Sublist.slnil)
 clear Fa Fb
 clear A
 refine Av<|Bn (Bo false) Au<|Ax<|AV<|⟨_,DX,[Bo false],⟨Au,trivial⟩,aC.ext,?_⟩
 exact Vr.eq (a:=vB) (x:=false) Au (oi F)

abbrev Ya:List Nat:=[7,10,11,43,44,45,46,47,48,49,50,51,52,53,54,55,56,57,58,59,60,61,62,63,64,65,66,67,68,69]

abbrev VB:List Nat:=[7,9,10,11,22,23,24,25,26,27,28,29,30,31,32,33,34,35,36,37,38,39,40,41,42,43,44,45,46,47,48,49,50,51,52,53,54,55,56,57,58,59,60,61,62,63,64,65,66,67,68,69]

abbrev TO:List Nat:=[7,8,9,10,11,16,17,18,19,20,21,22,23,24,25,26,27,28,29,30,31,32,33,34,35,36,37,38,39,40,41,42,43,44,45,46,47,48,49,50,51,52,53,54,55,56,57,58,59,60,61,62,63,64,65,66,67,68,69]

def CZ (p:A8) (b:List Int) (A:Int) (M:(List Int)→Option (List Int)) (J:(List Int)→Int→Option (List Int)) (I:List Int) (G:Int):Option (List Int):=
 bif (decide (G<(((((p.variables.getD A.toNat default).choices).getD (b.getD A.toNat default).toNat default).uses).length:Int))) then
  ck ((0:Int)≤G∧G<(((((p.variables.getD A.toNat default).choices).getD (b.getD A.toNat default).toNat default).uses).length:Int))<|
  (DL p.cells ((((((p.variables.getD A.toNat default).choices).getD (b.getD A.toNat default).toNat default).uses).getD G.toNat default).cell)).bind fun F=>
  ck ((0:Int)≤F∧F<(I.length:Int))<|
  ck ((0:Int)≤G∧G<(((((p.variables.getD A.toNat default).choices).getD (b.getD A.toNat default).toNat default).uses).length:Int))<|
  ck ((0:Int)≤F∧F<(I.length:Int))<|
  J (I.set F.toNat (IntKind.wrap .i64 ((I.getD F.toNat default)+((((((p.variables.getD A.toNat default).choices).getD (b.getD A.toNat default).toNat default).uses).getD G.toNat default).places)))) (IntKind.wrap .i64 (G+1))
 else
  M I

def Da (p:A8) (b:List Int) (leaf:Int) (I:(List Int)→Int→Option (List Int)) (G:List Int) (A:Int):Option (List Int):=
 bif (decide (A<(b.length:Int))) then
  jn (fun(M:List Int)=>
   I M (IntKind.wrap .i64 (A+1)))
  (fun J=>
   ck ((0:Int)≤A∧A<(p.variables.length:Int))<|
   (Em (p.variables.getD A.toNat default) leaf).bind fun F=>
   bif (!F) then
    J G
   else
    ck ((0:Int)≤A∧A<(p.variables.length:Int))<|
    ck ((0:Int)≤A∧A<(b.length:Int))<|
    ck ((0:Int)≤(b.getD A.toNat default)∧(b.getD A.toNat default)<(((p.variables.getD A.toNat default).choices).length:Int))<|
    BC (CZ p b A J) (((((((p.variables.getD A.toNat default).choices).getD (b.getD A.toNat default).toNat default).uses).length:Int) - 0).toNat+1) G 0)
 else
  some G

def D1 (p:A8) (b:List Int) (leaf:Int):Option (List Int):=
 ck ((0:Int)≤(p.cells.length:Int)∧(p.cells.length:Int)≤(p.cells.length:Int)∧(8:Int)*(p.cells.length:Int)≤281474976710656∧(p.cells.length:Int)≤281474976710656)<|
 BC (Da p b leaf) (((b.length:Int) - 0).toNat+1) (List.replicate p.cells.length (0:Int)) 0

theorem Hq {w:World} {O:List Nat} {p:A8} {b:List Int} {leaf:Int} {Aa:Option Addr} {Ca:Nat} {Ab:Option Addr} {Cb:Nat} {Ac:Option Addr} {Cc:Nat} {Ad:Option Addr} {Cd:Nat} (hO:∀k∈O,k<w.heap.size) (Fa:CA Bx w O Aa Ca p.cells) (Fb:CA (BG (AL .i64)) w O Ab Cb p.capacity) (Fc:CA AS w O Ac Cc p.variables) (Fd:CA (AL .i64) w O Ad Cd b) (Ra:Cx .i64 leaf) {x:(List Int)} (G:D1 p b leaf=some x):
 Px Try.prog 80 [Value.agg (BS p Aa Ca Ab Cb Ac Cc).toArray,Sl Ad b Cd,Iv leaf] w O (AL .i64) 3 x:=by
 unfold D1 at G
 refine Br (n:=71) (xs:=[.tmp 6]) Try.func80 Au Try.ntmps80 Try.results80 Au ?_
 have hs:=St.start hO
 refine Aw<|Av<|A9<|BT (cs:=(BS p Aa Ca Ab Cb Ac Cc)) hs Au Au ?_
 intro b1 w2 _ p3 bZ
 refine Bn (Value.slice none 0 0) Au<|Ax<|Aw<|Av<|A9<|AQ 0 B4 Au EX Au Au<|A9<|AP 0 EX bZ Au Au Au<|A9<|AZ Try.underlying22 Au ?_
 replace Fa:=Fa.step p3
 have fS:=AX Fa
 obtain⟨dI,G⟩:=AE G
 refine A9<|GC (q:=(AL .i64)) (v:=Iv 0) (x0:=(0:Int)) Bl B6 bZ Au Au dI Au (fun _ _=>(AU E1)) ?_
 intro b8 w9 d9 cG bN cH
 clear bZ
 refine Bn (Sl (some ⟨b8,0,none⟩) (List.replicate p.cells.length (0:Int)) p.cells.length) Au<|Ax<|Aw<|Aw<|Av<|Bn (Iv 0) Au<|Ax<|AC<|Wr [] [(1,Sl Ad b Cd),(2,Iv leaf),(3,Pt b1 0),(7,Sl (some ⟨b8,0,none⟩) (List.replicate p.cells.length (0:Int)) p.cells.length),(8,Iv 0)] fun bO=>Bf TO (fun m fr w'=>∃(Y:List Int) (A:Int) (Ae:Option Addr) (Ce:Nat) (W:Option Nat) (X:Obj) (U:Be),U=[(W,X),(some b1,Oc (BS p Aa Ca Ab Cb Ac Cc) 26)]∧fr [] [(7,Sl Ae Y Ce),(8,Iv A)]∧bN.S (ks U O) w'∧St ⟨w,[],[]⟩ O w' U∧Gs (AL .i64) 3 w' (ks U O) Ae Ce Y W X∧Cx .i64 A∧BC (Da p b leaf) m Y A=some x) (((b.length:Int) - 0).toNat+1) ⟨List.replicate p.cells.length (0:Int),0,some ⟨b8,0,none⟩,p.cells.length,some b8,Obj.cells (List.replicate p.cells.length (Iv 0)).toArray 3,_,Au,BB.of ⟨Au,Au,trivial⟩,AA.refl _ _,bN,cH,E1,G⟩ ?_ ?_
 rintro _ _ ⟨_,_,_,_,_,_,_,_,_,_,_,_,_,G⟩;exact DI G
 rintro fT fU cI eA fV ⟨Y,A,Ae,Ce,W,X,_,rfl,aS,aK,aD,Fe,Rb,G⟩
 obtain⟨eB,b0,G⟩:=DJ G;unfold Da at G
 rw [aS.eq];clear aS
 have aT:=aK
 refine Aw<|Aw ?_
 clear cH
 refine Av<|Bb (Iv A) Au<|Bb (Sl Ad b Cd) Au<|A9<|AZ Try.underlying31 Au ?_
 have cJ:=(p3.trans (cG.trans aK))
 replace Fd:=Fd.step cJ
 have eC:=AX Fd
 refine A9<|By Au Au<|Ax<|AF G Au (fun cK G=>?_) (fun cK G=>?_)
 refine AG<|Ic TO [] (CO ⟨bO,[]⟩ [(1,Sl Ad b Cd),(2,Iv leaf),(3,Pt b1 0),(7,Sl (some ⟨b8,0,none⟩) (List.replicate p.cells.length (0:Int)) p.cells.length),(8,Iv 0)]) [(7,Sl Ae Y Ce),(8,Iv A)] fun cL=>?_
 obtain⟨cM,cN,G⟩:=Cy G
 refine CE VB (fun fr w'=>∃(aU:List Int) (Af:Option Addr) (Cf:Nat) (aF:Option Nat) (aG:Obj) (U:Be),U=[(aF,aG),(some b1,Oc (BS p Aa Ca Ab Cb Ac Cc) 26)]∧fr [] [(7,Sl Af aU Cf)]∧aD.S (ks U O) w'∧St ⟨w,[],[]⟩ O w' U∧Gs (AL .i64) 3 w' (ks U O) Af Cf aU aF aG∧cM aU=some x) ?_ ?_
 rintro eD fW ⟨aU,Af,Cf,aF,aG,_,rfl,aV,b2,cO,Ff,G⟩
 replace G:=Dc cN G
 rw [aV.eq];clear aV
 clear Fe
 refine Av<|Bb (Iv A) Au<|A9<|Bg Au Au<|Bn (Iv (wq (A+1))) Au<|Ax ?_
 replace aT:=aT.trans b2
 exact cI _ _ ⟨aU,(wq (A+1)),Af,Cf,aF,aG,_,Au,BB.of ⟨Au,Au,trivial⟩,aT,cO,Ff,(AT .i64 _),GV b0 G⟩
 intro fX bP
 have aE:=aD.stepR
 refine AC<|Aw<|Aw<|Av<|A9<|AQ 2 B4 Au Cz Au Au<|A9<|AP 1 Cz aD Au Au Au<|Bb (Iv A) Au ?_
 obtain⟨bQ,G⟩:=AE G
 replace Fc:=Fc.step cJ
 refine A9<|AB (q:=AS) Cz Dq Au Au Fc Au bQ.1 bQ.2 ?_
 intro fY cP
 refine A9<|BE Dq Au cP Au ?_
 intro eE dJ
 obtain⟨_,_,rfl,⟨rfl,Rc⟩,⟨_,_,rfl,⟨rfl,Rd⟩,⟨_,_,rfl,⟨Ag,Cg,rfl,Fg⟩,⟨Ah,Ch,rfl,Fh⟩⟩⟩⟩:=dJ
 refine Bb (Iv leaf) Au ?_
 obtain⟨cF,cQ,G⟩:=bd G
 refine A9<|Bi aD Try.call89 (Jb (v:=gt p.variables A) (leaf:=leaf) aD.ltw Rc Rd Fg Fh Ra cQ) Au ?_
 rintro fZ f0 aR aP dK
 obtain rfl:=dK
 refine A9<|Do Au<|Ax<|AF G Au (fun cR G=>?_) (fun cR G=>?_)
 refine Bq ?_
 replace aE:=aE.trans aR;replace Fe:=Fe.step aR
 exact bP _ _ ⟨Y,Ae,Ce,W,X,_,Au,BB.of ⟨Au,trivial⟩,aE,aP,Fe,G⟩
 refine AG<|Aw ?_
 clear cP Fg Fh
 refine B7 (g0:=[]) (m:=10) (fl:=[]) (CQ aP) Au (.inl Au) Au (by decide+kernel) ?_  -- 6
 refine Bc (Pt b1 2) (fun _ _ _ hi F=>AQ 2 B4 Au Cz (F 3 Au) Au<|Gz hi)<|Bc (Sl Ac p.variables Cc) (fun _ _ _ hi F=>AP 1 Cz (AA.nx hi).1 (F 30 Au) Au Au<|Gz hi)<|Bc (Iv A) (fun _ _ _ hi F=>AD (v:=Iv A) (F 8 Au)<|Gz hi) ?_
 obtain⟨bR,G⟩:=AE G
 replace Fc:=Fc.step aR
 refine Bd (VP _ _ AS (gt p.variables A)) (VP.stab _ _) (fun eF f1 g M hi F=>?_) ?_
 obtain⟨-,aC,-⟩:=M
 replace Fc:=Fc.step aC
 refine Ay<|AB (q:=AS) Cz Dq (F 31 Au) (F 32 Au) Fc Au bR.1 bR.2 ?_
 intro f2 dL
 exact Bs.same hi ⟨_,Au,dL⟩
 refine Bd (VP _ _ (BG Bt) ((gt p.variables A).choices)) (VP.stab _ _) (fun eG f3 g M hi F=>?_) ?_
 obtain⟨f4,dM,dN⟩:=F 33 Au
 refine Ay<|B5 Dq Au FJ (by decide) dM Au ?_
 have dO:=dN.via.snd.snd.snd
 exact Bs.same hi ⟨_,Au,dO⟩
 refine Bd (VD _ _ (vC (BG Bt)) ((gt p.variables A).choices)) (VD.stab _ _) (fun eH f5 g M hi F=>?_) ?_
 obtain⟨f6,dP,dQ⟩:=F 34 Au
 refine Ay<|AR FJ dP dQ Au ?_
 intro f7 dR
 obtain⟨Ai,Ci,rfl,Fi⟩:=B9 dR
 exact Bs.same hi (show Vr.vd (vC (BG Bt)) _ _ _ _ from(Jy (B8 Fi)))
 refine Bc (Sl Ad b Cd) (fun _ _ _ hi F=>AD (v:=Sl Ad b Cd) (F 1 Au)<|Gz hi)<|Bc (Iv A) (fun _ _ _ hi F=>AD (v:=Iv A) (F 8 Au)<|Gz hi) ?_
 obtain⟨bS,G⟩:=AE G
 replace Fd:=Fd.step aR
 refine Bd (VP _ _ (AL .i64) (gt b A)) (VP.stab _ _) (fun eI f8 g M hi F=>?_) ?_
 obtain⟨-,aC,-⟩:=M
 replace Fd:=Fd.step aC
 refine Ay<|AB (q:=(AL .i64)) Bl B6 (F 36 Au) (F 37 Au) Fd Au bS.1 bS.2 ?_
 intro f9 dS
 exact Bs.same hi ⟨_,Au,dS⟩
 refine Bd (VD _ _ (vI .i64) (gt b A)) (VD.stab _ _) (fun dT eJ g M hi F=>?_) ?_
 obtain⟨eK,cS,cT⟩:=F 38 Au
 refine Ay<|AR B6 cS cT Au ?_
 intro eL cU
 obtain⟨rfl,Re⟩:=BK cU
 exact Bs.same hi (show Vr.vd (vI .i64) _ _ _ _ from⟨Au,Re⟩)
 refine BD fun eM eN b3 b4=>?_
 obtain⟨-,bI,-⟩:=b3
 obtain⟨aL,aJ⟩:=AA.nx b4
 rintro eO aW
 replace aW:Vr.vd (vI .i64) _ _ _ _:=aW
 obtain⟨rfl,Rf⟩:=aW
 rintro _ ⟨eP,rfl,aX⟩ _ rfl _ rfl eQ aY
 replace aY:Vr.vd (vC (BG Bt)) _ _ _ _:=aY
 obtain⟨Aj,Cj,rfl,Fj⟩:=B9 aY
 rintro _ ⟨eR,rfl,aZ⟩ _ ⟨eS,rfl,a0⟩ _ rfl _ rfl _ rfl
 have bT:=aP.to aL (bI.trans aJ)
 replace aX:=aX.step aJ;replace Fj:=Fj.step aJ;replace aZ:=aZ.step aJ;replace a0:=a0.step aJ;clear aP
 obtain⟨a1,G⟩:=AE G
 refine A9<|AB (q:=Bt) FJ FT Au Au Fj Au a1.1 a1.2 ?_
 intro eT bU
 refine A9<|B5 FT Au Ho (by decide) Au Au ?_
 have bV:=bU.via.snd.snd.snd
 refine A9<|AR Ho Au bV Au ?_
 intro eU cV
 obtain⟨Ak,Ck,rfl,Fk⟩:=B9 cV
 refine Bn (Sl Ak ((gt ((gt p.variables A).choices) (gt b A)).uses) Ck) Au<|Ax<|Aw ?_
 clear aX Fj aZ a0 bU bV
 refine Av<|Bn (Iv 0) Au<|Ax<|AC<|Ic VB [] (CO (JE TO [] cL (CO ⟨bO,[]⟩ [(1,Sl Ad b Cd),(2,Iv leaf),(3,Pt b1 0),(7,Sl (some ⟨b8,0,none⟩) (List.replicate p.cells.length (0:Int)) p.cells.length),(8,Iv 0)])) [(7,Sl Ae Y Ce),(8,Iv A)]) [(7,Sl Ae Y Ce),(9,Sl Ak ((gt ((gt p.variables A).choices) (gt b A)).uses) Ck),(10,Iv 0)] fun dU=>?_
 have bW:=(aR.trans bT)
 replace Fe:=Fe.step bW
 refine Bf Ya (fun m fr w'=>∃(N:List Int) (I:Int) (Al:Option Addr) (Cl:Nat) (Z:Option Nat) (aA:Obj) (U:Be),U=[(Z,aA),(some b1,Oc (BS p Aa Ca Ab Cb Ac Cc) 26)]∧fr [] [(7,Sl Al N Cl),(10,Iv I)]∧aL.S (ks U O) w'∧St ⟨w,[],[]⟩ O w' U∧Gs (AL .i64) 3 w' (ks U O) Al Cl N Z aA∧Cx .i64 I∧BC (CZ p b A cM) m N I=some x) (((((gt ((gt p.variables A).choices) (gt b A)).uses).length:Int) - 0).toNat+1) ⟨Y,0,Ae,Ce,W,X,_,Au,BB.of ⟨Au,Au,trivial⟩,AA.refl _ _,aL,Fe,E1,G⟩ ?_ ?_
 rintro _ _ ⟨_,_,_,_,_,_,_,_,_,_,_,_,_,G⟩;exact DI G
 rintro eV eW b5 dV eX ⟨N,I,Al,Cl,Z,aA,_,rfl,aQ,aB,aH,Fl,Rg,G⟩
 obtain⟨dW,bJ,G⟩:=DJ G;unfold CZ at G
 rw [aQ.eq];clear aQ
 have aM:=aB
 refine Aw<|Aw ?_
 clear Fe
 refine Av<|Bb (Iv I) Au<|Bb (Sl Ak ((gt ((gt p.variables A).choices) (gt b A)).uses) Ck) Au<|A9<|AZ Try.underlying56 Au ?_
 replace Fk:=Fk.step aB
 have dX:=AX Fk
 refine A9<|By Au Au<|Ax<|AF G Au (fun b6 G=>?_) (fun b6 G=>?_)
 refine AG<|Aw<|AC<|Aw<|B7 (g0:=[]) (m:=7) (fl:=[]) (CQ aH) Au (.inl Au) Au (by decide+kernel) ?_  -- 10
 refine Bc (Pt b1 0) (fun _ _ _ hi F=>AQ 0 B4 Au EX (F 3 Au) Au<|Gz hi)<|Bc (Sl Aa p.cells Ca) (fun _ _ _ hi F=>AP 1 EX (AA.nx hi).1 (F 49 Au) Au Au<|Gz hi)<|Bc (Sl Ak ((gt ((gt p.variables A).choices) (gt b A)).uses) Ck) (fun _ _ _ hi F=>AD (v:=Sl Ak ((gt ((gt p.variables A).choices) (gt b A)).uses) Ck) (F 9 Au)<|Gz hi)<|Bc (Iv I) (fun _ _ _ hi F=>AD (v:=Iv I) (F 10 Au)<|Gz hi) ?_
 obtain⟨a2,G⟩:=AE G
 refine Bd (VP _ _ Ed (gt ((gt ((gt p.variables A).choices) (gt b A)).uses) I)) (VP.stab _ _) (fun dY eY g M hi F=>?_) ?_
 obtain⟨-,aC,-⟩:=M
 replace Fk:=Fk.step aC
 refine Ay<|AB (q:=Ed) Ho Gc (F 51 Au) (F 52 Au) Fk Au a2.1 a2.2 ?_
 intro eZ cW
 exact Bs.same hi ⟨_,Au,cW⟩
 refine Bd (VP _ _ Bx ((gt ((gt ((gt p.variables A).choices) (gt b A)).uses) I).cell)) (VP.stab _ _) (fun dZ e0 g M hi F=>?_) ?_
 obtain⟨e1,cX,cY⟩:=F 53 Au
 refine Ay<|B5 Gc Au Du (by decide) cX Au ?_
 have cZ:=cY.via.fst
 exact Bs.same hi ⟨_,Au,cZ⟩
 refine Bd (VD _ _ (vA Bx) ((gt ((gt ((gt p.variables A).choices) (gt b A)).uses) I).cell)) (VD.stab _ _) (fun d0 e2 g M hi F=>?_) ?_
 obtain⟨e3,c0,c1⟩:=F 54 Au
 refine Ay<|BE Du c0 c1 Au ?_
 intro d1 c2
 obtain⟨_,_,rfl,rfl,⟨_,_,rfl,⟨rfl,Rh⟩,⟨rfl,Ri⟩⟩⟩:=c2
 exact Bs.same hi (show Vr.vd (vA Bx) _ _ _ _ from(JX (C2 (AW GJ (AW (AU Rh) (AU Ri))))))
 refine BD fun e4 e5 b7 b9=>?_
 obtain⟨-,bK,-⟩:=b7
 obtain⟨aI,a3⟩:=AA.nx b9
 rintro e6 a4
 replace a4:Vr.vd (vA Bx) _ _ _ _:=a4
 obtain⟨_,rfl,⟨_,_,rfl,rfl,⟨_,_,rfl,⟨rfl,Rj⟩,⟨rfl,Rk⟩⟩⟩⟩:=a4
 rintro _ ⟨e7,rfl,a5⟩ _ ⟨e8,rfl,a6⟩ _ rfl _ rfl _ rfl _ rfl
 have bX:=aH.to aI (bK.trans a3)
 replace a5:=a5.step a3;replace a6:=a6.step a3;clear aH
 obtain⟨J,cA,G⟩:=bd G
 replace Fa:=Fa.step (cG.trans (aK.trans (aR.trans (bT.trans (aB.trans bX)))))
 refine A9<|Bi aI Try.call81 (HS (l:=p.cells) (c:=(gt ((gt ((gt p.variables A).choices) (gt b A)).uses) I).cell) aI.ltw Fa Rj Rk cA) Au ?_
 rintro e9 fA c3 aN c4
 clear aI
 obtain⟨rfl,Rl⟩:=c4
 refine Bn (Iv J) Au<|Ax ?_
 clear a5 a6
 refine B7 (g0:=[]) (m:=11) (fl:=[0,1]) (CQ aN) Au (.inl Au) Au (by decide+kernel) ?_  -- 11
 refine Bc (Sl Al N Cl) (fun _ _ _ hi F=>AD (v:=Sl Al N Cl) (F 7 Au)<|Gz hi)<|Bc (Iv J) (fun _ _ _ hi F=>AD (v:=Iv J) (F 11 Au)<|Gz hi)<|Bc (Sl Al N Cl) (fun _ _ _ hi F=>AD (v:=Sl Al N Cl) (F 7 Au)<|Gz hi)<|Bc (Iv J) (fun _ _ _ hi F=>AD (v:=Iv J) (F 11 Au)<|Gz hi) ?_
 obtain⟨a7,G⟩:=AE G
 have a8:=(bX.trans c3)
 replace Fl:=Fl.step a8
 obtain⟨a9,rfl,rfl⟩:=Fl.at_ (by omega)
 refine BN (Value.pointer (some ⟨a9,J.toNat*1,none⟩)) (fun d2 fB g M hi F=>?_) ?_
 obtain⟨-,aC,-⟩:=M
 replace Fl:=Fl.step aC
 refine Ay<|BA Bl B6 (F 59 Au) (F 60 Au) Fl a7 ?_
 rintro _ ⟨⟩ -
 exact Gz hi
 refine Bd (VD _ _ (vI .i64) (gt N J)) (VD.stab _ _) (fun d3 fC g M hi F=>?_) ?_
 obtain⟨-,aC,-⟩:=M
 replace Fl:=Fl.step aC
 have d4:=(AA.nx hi).1
 refine Ay<|F0 (m:=J) (i:=0) B6 Au d4 Au (F 61 Au) Fl a7 ?_
 intro fD c5
 obtain⟨rfl,Rm⟩:=BK c5
 exact Bs.same hi (show Vr.vd (vI .i64) _ _ _ _ from⟨Au,Rm⟩)
 refine Bc (Sl Ak ((gt ((gt p.variables A).choices) (gt b A)).uses) Ck) (fun _ _ _ hi F=>AD (v:=Sl Ak ((gt ((gt p.variables A).choices) (gt b A)).uses) Ck) (F 9 Au)<|Gz hi)<|Bc (Iv I) (fun _ _ _ hi F=>AD (v:=Iv I) (F 10 Au)<|Gz hi) ?_
 obtain⟨bA,G⟩:=AE G
 replace Fk:=Fk.step a8
 refine Bd (VP _ _ Ed (gt ((gt ((gt p.variables A).choices) (gt b A)).uses) I)) (VP.stab _ _) (fun d5 fE g M hi F=>?_) ?_
 obtain⟨-,aC,-⟩:=M
 replace Fk:=Fk.step aC
 refine Ay<|AB (q:=Ed) Ho Gc (F 63 Au) (F 64 Au) Fk Au bA.1 bA.2 ?_
 intro fF c6
 exact Bs.same hi ⟨_,Au,c6⟩
 refine Bd (VP _ _ (AL .i64) ((gt ((gt ((gt p.variables A).choices) (gt b A)).uses) I).places)) (VP.stab _ _) (fun d6 fG g M hi F=>?_) ?_
 obtain⟨fH,c7,c8⟩:=F 65 Au
 refine Ay<|B5 Gc Au B6 (by decide) c7 Au ?_
 have c9:=c8.via.snd
 exact Bs.same hi ⟨_,Au,c9⟩
 refine Bd (VD _ _ (vI .i64) ((gt ((gt ((gt p.variables A).choices) (gt b A)).uses) I).places)) (VD.stab _ _) (fun d7 fI g M hi F=>?_) ?_
 obtain⟨fJ,dA,dB⟩:=F 66 Au
 refine Ay<|AR B6 dA dB Au ?_
 intro fK dC
 obtain⟨rfl,Rn⟩:=BK dC
 exact Bs.same hi (show Vr.vd (vI .i64) _ _ _ _ from⟨Au,Rn⟩)
 refine BD fun fL fM cB cC=>?_
 obtain⟨-,bL,-⟩:=cB
 obtain⟨aO,bB⟩:=AA.nx cC
 rintro fN bC
 replace bC:Vr.vd (vI .i64) _ _ _ _:=bC
 obtain⟨rfl,Ro⟩:=bC
 rintro _ ⟨fO,rfl,bD⟩ _ ⟨fP,rfl,bE⟩ _ rfl _ rfl fQ bF
 replace bF:Vr.vd (vI .i64) _ _ _ _:=bF
 obtain⟨rfl,Rp⟩:=bF
 rintro _ rfl _ rfl _ rfl _ rfl _ rfl
 have bY:=aN.to aO (bL.trans bB)
 replace bD:=bD.step bB;replace bE:=bE.step bB;clear aN
 refine A9<|Bg Au Au ?_
 obtain⟨bG,G⟩:=AE G
 replace Fl:=Fl.step bY
 refine A9<|BA Bl B6 Au Au Fl bG ?_
 rintro _ ⟨⟩ -
 refine Bh<|FH (vs:=[Iv (wq ((gt N J)+((gt ((gt ((gt p.variables A).choices) (gt b A)).uses) I).places)))]) (i:=0) (m:=J) B6 Au aO Au Au Au Au Fl bG (AU (AT .i64 _)) ?_
 intro fR dD dE cD dF
 clear aO
 refine Ax ?_
 clear bD bE
 refine Av<|Bb (Iv I) Au<|A9<|Bg Au Au<|Bn (Iv (wq (I+1))) Au<|Ax ?_
 replace aM:=aM.trans (a8.trans (bY.trans dE))
 exact b5 _ _ ⟨N.set J.toNat (wq ((gt N J)+((gt ((gt ((gt p.variables A).choices) (gt b A)).uses) I).places))),(wq (I+1)),some ⟨a9,0,none⟩,Cl,some a9,dD,_,Au,BB.of ⟨M4 (show N.length=(N.set J.toNat (wq ((gt N J)+((gt ((gt ((gt p.variables A).choices) (gt b A)).uses) I).places)))).length from by first |(simp;done) |(simp;omega)),Au,trivial⟩,aM,cD,dF,(AT .i64 _),GV bJ G⟩
 refine Bq ?_
 have dG:=(bW.trans aB)
 replace aE:=aE.trans dG
 exact bP _ _ ⟨N,Al,Cl,Z,aA,_,Au,BB.of ⟨Au,trivial⟩,aE,aH,Fl,G⟩
 refine Bq<|Aw ?_
 obtain⟨bH,dH⟩:=aD.sub (bs':=[(W,X)]) (.cons_cons _ (.cons _ List.Sublist.slnil))
 clear Fa Fb Fc Fd
 refine Av<|Bb (Sl Ae Y Ce) Au<|Bn (Sl Ae Y Ce) Au<|Ax<|AV<|⟨_,DX,[Sl Ae Y Ce],⟨Au,trivial⟩,bH.ext,?_⟩
 replace Fe:=Fe.step dH
 exact Px.mk (i:=0) bH Au Fe (oi G)
abbrev Yb:List Nat:=[5,8,20,21,22,23,24,25,26,27,28,29,30,31,32,33,34,35,36,37,38,39,40,41]

abbrev VC:List Nat:=[5,6,7,8,9,10,11,12,13,14,15,16,17,18,19,20,21,22,23,24,25,26,27,28,29,30,31,32,33,34,35,36,37,38,39,40,41]

def CL (p:A8) (A:Int) (M:Int→Int→Option Int) (F:(List Int)) (J:Int→Int→Option Int) (I:Int) (G:Int):Option Int:=
 bif (decide (G<(F.length:Int))) then
  ck ((0:Int)≤G∧G<(F.length:Int))<|
  ck ((0:Int)≤A∧A<(p.capacity.length:Int))<|
  ck ((0:Int)≤G∧G<((p.capacity.getD A.toNat default).length:Int))<|
  J (IntKind.wrap .i64 (I+(max 0 (IntKind.wrap .i64 ((F.getD G.toNat default) - ((p.capacity.getD A.toNat default).getD G.toNat default)))))) (IntKind.wrap .i64 (G+1))
 else
  M I (IntKind.wrap .i64 (A+1))

def CM (p:A8) (b:List Int) (I:Int→Int→Option Int) (G:Int) (F:Int):Option Int:=
 bif (decide (F<(p.capacity.length:Int))) then
  (D1 p b F).bind fun A=>
  BC (CL p F I A) (((A.length:Int) - 0).toNat+1) G 0
 else
  some G

def DO (p:A8) (b:List Int):Option Int:=
 BC (CM p b) (((p.capacity.length:Int) - 0).toNat+1) 0 0

theorem IC {w:World} {O:List Nat} {p:A8} {b:List Int} {Aa:Option Addr} {Ca:Nat} {Ab:Option Addr} {Cb:Nat} {Ac:Option Addr} {Cc:Nat} {Ad:Option Addr} {Cd:Nat} (hO:∀k∈O,k<w.heap.size) (Fa:CA Bx w O Aa Ca p.cells) (Fb:CA (BG (AL .i64)) w O Ab Cb p.capacity) (Fc:CA AS w O Ac Cc p.variables) (Fd:CA (AL .i64) w O Ad Cd b) {x:Int} (M:DO p b=some x):
 Ok Try.prog 88 [Value.agg (BS p Aa Ca Ab Cb Ac Cc).toArray,Sl Ad b Cd] w O (vI .i64) x:=by
 unfold DO at M
 refine Br (n:=43) (xs:=[.tmp 4]) Try.func88 Au Try.ntmps88 Try.results88 Au ?_
 have hs:=St.start hO
 refine Aw<|Av<|A9<|BT (cs:=(BS p Aa Ca Ab Cb Ac Cc)) hs Au Au ?_
 intro b1 w2 _ p3 a4
 refine Bn (Iv 0) Au<|Ax<|Aw<|Av<|Bn (Iv 0) Au<|Ax<|Aw<|Aw<|Av<|Bn (Iv 0) Au<|Ax<|AC<|Wr [] [(1,Sl Ad b Cd),(2,Pt b1 0),(5,Iv 0),(6,Iv 0)] fun bM=>Bf VC (fun m fr w'=>∃(G:Int) (A:Int) (aA:Be),aA=[(some b1,Oc (BS p Aa Ca Ab Cb Ac Cc) 26)]∧fr [] [(5,Iv G),(6,Iv A)]∧a4.S (ks aA O) w'∧St ⟨w,[],[]⟩ O w' aA∧Cx .i64 G∧Cx .i64 A∧BC (CM p b) m G A=some x) (((p.capacity.length:Int) - 0).toNat+1) ⟨0,0,_,Au,BB.of ⟨Au,Au,trivial⟩,AA.refl _ _,a4,E1,E1,M⟩ ?_ ?_
 rintro _ _ ⟨_,_,_,_,_,_,_,_,_,M⟩;exact DI M
 rintro cO cP a5 bY cQ ⟨G,A,_,rfl,aC,aD,W,Ra,Rb,M⟩
 obtain⟨bN,aW,M⟩:=DJ M;unfold CM at M
 rw [aC.eq];clear aC
 have aE:=aD
 refine Aw<|Aw<|Av<|Bb (Iv A) Au<|A9<|AQ 1 B4 Au Db Au Au<|A9<|AP 0 Db W Au Au Au<|A9<|AZ Try.underlying23 Au ?_
 have aR:=(p3.trans aD)
 replace Fb:=Fb.step aR
 have bZ:=AX Fb
 refine A9<|By Au Au<|Ax<|AF M Au (fun a6 M=>?_) (fun a6 M=>?_)
 refine AG<|Aw<|AC<|Aw<|Av<|A9<|B1 0 B4 W Au Au Au<|Bb (Sl Ad b Cd) Au<|Bb (Iv A) Au ?_
 obtain⟨F,a7,M⟩:=bd M
 replace Fd:=Fd.step aR;replace Fa:=Fa.step aR;replace Fc:=Fc.step aR
 refine A9<|Gi Try.call80 (Hq (p:=p) (b:=b) (leaf:=A) W.ltw Fa Fb Fc Fd Rb a7) Au ?_
 rintro _ cR ⟨a8,aF,aG,bO,aX,rfl,a9,U⟩
 obtain⟨aT,bA⟩:=W.callG (o:=aX) a8 a9
 rw [← JZ (o:=aX)] at U
 clear W
 refine Bn (Sl aF F aG) Au<|Ax<|Aw<|Av<|Bn (Iv 0) Au<|Ax<|AC<|Ic VC [] (CO ⟨bM,[]⟩ [(1,Sl Ad b Cd),(2,Pt b1 0),(5,Iv 0),(6,Iv 0)]) [(5,Iv G),(6,Iv A),(7,Sl aF F aG),(8,Iv 0)] fun b0=>Bf Yb (fun m fr w'=>∃(J:Int) (I:Int) (aA:Be),aA=[(bO,aX),(some b1,Oc (BS p Aa Ca Ab Cb Ac Cc) 26)]∧fr [] [(5,Iv J),(8,Iv I)]∧aT.S (ks aA O) w'∧St ⟨w,[],[]⟩ O w' aA∧Cx .i64 J∧Cx .i64 I∧BC (CL p A bN F) m J I=some x) (((F.length:Int) - 0).toNat+1) ⟨G,0,_,Au,BB.of ⟨Au,Au,trivial⟩,AA.refl _ _,aT,Ra,E1,M⟩ ?_ ?_
 rintro _ _ ⟨_,_,_,_,_,_,_,_,_,M⟩;exact DI M
 rintro cS cT bB b2 cU ⟨J,I,_,rfl,aH,Y,X,Rc,Rd,M⟩
 obtain⟨b3,aY,M⟩:=DJ M;unfold CL at M
 rw [aH.eq];clear aH
 have aI:=Y
 refine Aw<|Aw<|Av<|Bb (Iv I) Au<|Bb (Sl aF F aG) Au<|A9<|AZ Try.underlying31 Au ?_
 replace U:=U.step Y
 have b4:=HK U
 refine A9<|By Au Au<|Ax<|AF M Au (fun bC M=>?_) (fun bC M=>?_)
 refine AG<|Aw<|AC<|B7 (g0:=[]) (m:=13) (fl:=[0]) (CQ X) Au (.inl Au) Au (by decide+kernel) ?_  -- 9
 refine Bc (Iv J) (fun _ _ _ hi N=>AD (v:=Iv J) (N 5 Au)<|Gz hi)<|Bc (Sl aF F aG) (fun _ _ _ hi N=>AD (v:=Sl aF F aG) (N 7 Au)<|Gz hi)<|Bc (Iv I) (fun _ _ _ hi N=>AD (v:=Iv I) (N 8 Au)<|Gz hi) ?_
 obtain⟨aU,M⟩:=AE M
 obtain⟨bP,rfl,rfl⟩:=U.at_ (by omega)
 refine BN (Value.pointer (some ⟨bP,I.toNat*1,none⟩)) (fun b5 cV g Z hi N=>?_) ?_
 obtain⟨-,aJ,-⟩:=Z
 replace U:=U.step aJ
 refine Ay<|BA Bl B6 (N 27 Au) (N 28 Au) U aU ?_
 rintro _ ⟨⟩ -
 exact Gz hi
 refine Bd (VD _ _ (vI .i64) (gt F I)) (VD.stab _ _) (fun b6 cW g Z hi N=>?_) ?_
 obtain⟨-,aJ,-⟩:=Z
 replace U:=U.step aJ
 have bQ:=(AA.nx hi).1
 refine Ay<|F0 (m:=I) (i:=0) B6 Au bQ Au (N 29 Au) U aU ?_
 intro cX bR
 obtain⟨rfl,Re⟩:=BK bR
 exact Bs.same hi (show Vr.vd (vI .i64) _ _ _ _ from⟨Au,Re⟩)
 refine Bc (Pt b1 1) (fun _ _ _ hi N=>AQ 1 B4 Au Db (N 2 Au) Au<|Gz hi)<|Bc (Sl Ab p.capacity Cb) (fun _ _ _ hi N=>AP 1 Db (AA.nx hi).1 (N 31 Au) Au Au<|Gz hi)<|Bc (Iv A) (fun _ _ _ hi N=>AD (v:=Iv A) (N 6 Au)<|Gz hi) ?_
 obtain⟨aV,M⟩:=AE M
 have bS:=(bA.trans Y)
 replace Fb:=Fb.step bS
 refine Bd (VP _ _ (BG (AL .i64)) (gt p.capacity A)) (VP.stab _ _) (fun b7 cY g Z hi N=>?_) ?_
 obtain⟨-,aJ,-⟩:=Z
 replace Fb:=Fb.step aJ
 refine Ay<|AB (q:=BG (AL .i64)) Db Bl (N 32 Au) (N 33 Au) Fb Au aV.1 aV.2 ?_
 intro cZ bT
 exact Bs.same hi ⟨_,Au,bT⟩
 refine Bd (VD _ _ (vC (BG (AL .i64))) (gt p.capacity A)) (VD.stab _ _) (fun b8 c0 g Z hi N=>?_) ?_
 obtain⟨c1,bU,bV⟩:=N 34 Au
 refine Ay<|AR Bl bU bV Au ?_
 intro c2 bW
 obtain⟨Ae,Ce,rfl,Fe⟩:=B9 bW
 exact Bs.same hi (show Vr.vd (vC (BG (AL .i64))) _ _ _ _ from(Jy (B8 Fe)))
 refine Bc (Iv I) (fun _ _ _ hi N=>AD (v:=Iv I) (N 8 Au)<|Gz hi) ?_
 obtain⟨aK,M⟩:=AE M
 refine Bd (VP _ _ (AL .i64) (gt (gt p.capacity A) I)) (VP.stab _ _) (fun b9 cA g Z hi N=>?_) ?_
 have bD:Vr.vd (vC (BG (AL .i64))) _ _ _ _:=N 35 Au
 obtain⟨Af,Cf,bE,Ff⟩:=B9 bD
 refine Ay<|AB (q:=(AL .i64)) Bl B6 bE (N 36 Au) Ff Au aK.1 aK.2 ?_
 intro cB bF
 exact Bs.same hi ⟨_,Au,bF⟩
 refine Bd (VD _ _ (vI .i64) (gt (gt p.capacity A) I)) (VD.stab _ _) (fun bX cC g Z hi N=>?_) ?_
 obtain⟨cD,bG,bH⟩:=N 37 Au
 refine Ay<|AR B6 bG bH Au ?_
 intro cE bI
 obtain⟨rfl,Rf⟩:=BK bI
 exact Bs.same hi (show Vr.vd (vI .i64) _ _ _ _ from⟨Au,Rf⟩)
 refine BD fun cF cG aZ a0=>?_
 obtain⟨-,aS,-⟩:=aZ
 obtain⟨aL,aB⟩:=AA.nx a0
 rintro cH aM
 replace aM:Vr.vd (vI .i64) _ _ _ _:=aM
 obtain⟨rfl,Rg⟩:=aM
 rintro _ ⟨cI,rfl,aN⟩ _ rfl cJ aO
 replace aO:Vr.vd (vC (BG (AL .i64))) _ _ _ _:=aO
 obtain⟨Ag,Cg,rfl,Fg⟩:=B9 aO
 rintro _ ⟨cK,rfl,aP⟩ _ rfl _ rfl _ rfl cL aQ
 replace aQ:Vr.vd (vI .i64) _ _ _ _:=aQ
 obtain⟨rfl,Rh⟩:=aQ
 rintro _ rfl _ rfl _ rfl _ rfl
 have bJ:=X.to aL (aS.trans aB)
 replace aN:=aN.step aB;replace Fg:=Fg.step aB;replace aP:=aP.step aB;clear X
 refine A9<|FN Au Au<|A9<|Pv Au Au<|A9<|Bg Au Au<|Bn (Iv (wq (J+(max 0 (wq ((gt F I) - (gt (gt p.capacity A) I))))))) Au<|Ax ?_
 clear aN Fg aP
 refine Av<|Bb (Iv I) Au<|A9<|Bg Au Au<|Bn (Iv (wq (I+1))) Au<|Ax ?_
 replace aI:=aI.trans bJ
 exact bB _ _ ⟨(wq (J+(max 0 (wq ((gt F I) - (gt (gt p.capacity A) I)))))),(wq (I+1)),_,Au,BB.of ⟨Au,Au,trivial⟩,aI,aL,(AT .i64 _),(AT .i64 _),GV aY M⟩
 refine Bq ?_
 clear U
 refine Av<|Bb (Iv A) Au<|A9<|Bg Au Au<|Bn (Iv (wq (A+1))) Au<|Ax ?_
 have a1:=X.drop 0
 have bK:=(X.dropS 0)
 clear X
 have bL:=(bA.trans (Y.trans bK))
 replace aE:=aE.trans bL
 exact a5 _ _ ⟨J,(wq (A+1)),_,Au,BB.of ⟨Au,Au,trivial⟩,aE,a1,Rc,(AT .i64 _),GV aW M⟩
 refine Bq<|Aw ?_
 obtain⟨a2,cM⟩:=W.sub (bs':=[]) (.cons _ List.Sublist.slnil)
 clear Fa Fb Fc Fd
 clear W
 refine Av<|Bb (Iv G) Au<|Bn (Iv G) Au<|Ax<|AV<|⟨_,DX,[Iv G],⟨Au,trivial⟩,a2.ext,?_⟩
 exact Vr.eq (a:=(vI .i64)) (x:=G) ⟨Au,Ra⟩ (oi M)

abbrev VF:List Nat:=[7,8,9,10,32,33,34,35,36,37,38,39,40,41,42,43,44,45,46,47,48,49,50,51,52,53,54,55,56,57,58,59,60,61,62,63,64,65,66,67,68,69,70,71,72,73,74,75,76,77,78,79,80,81,82,83,84]

abbrev Yc:List Nat:=[16,17,18,19,20,21,22,23,24,25,26,27]

def CD (p:A8) (choices:List Int) (G:(List Int)→Int→Option ((List Int) × Int)) (F:List Int) (A:Int):Option ((List Int) × Int):=
 bif (decide (A<(choices.length:Int))) then
  ck ((0:Int)≤A∧A<(p.variables.length:Int))<|
  ck ((0:Int)≤A∧A<(choices.length:Int))<|
  ck ((0:Int)≤(choices.getD A.toNat default)∧(choices.getD A.toNat default)<(((p.variables.getD A.toNat default).choices).length:Int))<|
  ck ((0:Int)≤A∧A<(p.variables.length:Int))<|
  ck ((0:Int)≤1∧1<(F.length:Int))<|
  ck ((0:Int)≤1∧1<(F.length:Int))<|
  ck ((0:Int)≤2∧2<((F.set 1 (max (F.getD 1 default) ((((p.variables.getD A.toNat default).choices).getD (choices.getD A.toNat default).toNat default).delay))).length:Int))<|
  ck ((0:Int)≤2∧2<((F.set 1 (max (F.getD 1 default) ((((p.variables.getD A.toNat default).choices).getD (choices.getD A.toNat default).toNat default).delay))).length:Int))<|
  ck ((0:Int)≤3∧3<(((F.set 1 (max (F.getD 1 default) ((((p.variables.getD A.toNat default).choices).getD (choices.getD A.toNat default).toNat default).delay))).set 2 (IntKind.wrap .i64 (((F.set 1 (max (F.getD 1 default) ((((p.variables.getD A.toNat default).choices).getD (choices.getD A.toNat default).toNat default).delay))).getD 2 default)+(IntKind.wrap .i64 (((((p.variables.getD A.toNat default).choices).getD (choices.getD A.toNat default).toNat default).cost)*(((p.variables.getD A.toNat default).leaves).length:Int)))))).length:Int))<|
  ck ((0:Int)≤3∧3<(((F.set 1 (max (F.getD 1 default) ((((p.variables.getD A.toNat default).choices).getD (choices.getD A.toNat default).toNat default).delay))).set 2 (IntKind.wrap .i64 (((F.set 1 (max (F.getD 1 default) ((((p.variables.getD A.toNat default).choices).getD (choices.getD A.toNat default).toNat default).delay))).getD 2 default)+(IntKind.wrap .i64 (((((p.variables.getD A.toNat default).choices).getD (choices.getD A.toNat default).toNat default).cost)*(((p.variables.getD A.toNat default).leaves).length:Int)))))).length:Int))<|
  G (((F.set 1 (max (F.getD 1 default) ((((p.variables.getD A.toNat default).choices).getD (choices.getD A.toNat default).toNat default).delay))).set 2 (IntKind.wrap .i64 (((F.set 1 (max (F.getD 1 default) ((((p.variables.getD A.toNat default).choices).getD (choices.getD A.toNat default).toNat default).delay))).getD 2 default)+(IntKind.wrap .i64 (((((p.variables.getD A.toNat default).choices).getD (choices.getD A.toNat default).toNat default).cost)*(((p.variables.getD A.toNat default).leaves).length:Int)))))).set 3 (IntKind.wrap .i64 ((((F.set 1 (max (F.getD 1 default) ((((p.variables.getD A.toNat default).choices).getD (choices.getD A.toNat default).toNat default).delay))).set 2 (IntKind.wrap .i64 (((F.set 1 (max (F.getD 1 default) ((((p.variables.getD A.toNat default).choices).getD (choices.getD A.toNat default).toNat default).delay))).getD 2 default)+(IntKind.wrap .i64 (((((p.variables.getD A.toNat default).choices).getD (choices.getD A.toNat default).toNat default).cost)*(((p.variables.getD A.toNat default).leaves).length:Int)))))).getD 3 default)+(IntKind.wrap .i64 (((((p.variables.getD A.toNat default).choices).getD (choices.getD A.toNat default).toNat default).changes)*(((p.variables.getD A.toNat default).leaves).length:Int)))))) (IntKind.wrap .i64 (A+1))
 else
  some (F,0)

def Ew (p:A8) (choices:List Int):Option ((List Int) × Int):=
 (DH p).bind fun A=>
 bif (decide (A≠0)) then
  some (([]:List Int),A)
 else
  jn (fun(J:Bool)=>
   bif J then
    some (([]:List Int),270)
   else
    (DO p choices).bind fun F=>
    BC (CD p choices) (((choices.length:Int) - 0).toNat+1) [F,0,0,0] 0)
  (fun I=>
   (El p choices).bind fun G=>
   bif (!G) then
    I true
   else
    I (decide ((choices.length:Int)≠(p.variables.length:Int))))

theorem Ji {w:World} {O:List Nat} {p:A8} {choices:List Int} {Aa:Option Addr} {Ca:Nat} {Ab:Option Addr} {Cb:Nat} {Ac:Option Addr} {Cc:Nat} {Ad:Option Addr} {Cd:Nat} (hO:∀k∈O,k<w.heap.size) (Fa:CA Bx w O Aa Ca p.cells) (Fb:CA (BG (AL .i64)) w O Ab Cb p.capacity) (Fc:CA AS w O Ac Cc p.variables) (Fd:CA (AL .i64) w O Ad Cd choices) {x:(List Int) × Int} (J:Ew p choices=some x):
 Ok Try.prog 79 [Value.agg (BS p Aa Ca Ab Cb Ac Cc).toArray,Sl Ad choices Cd] w O (Ns (vC (BG (AL .i64))) (vI .i64)) x:=by
 unfold Ew at J
 refine Br (n:=86) (xs:=[.tmp 4,.tmp 5]) Try.func79 Au Try.ntmps79 Try.results79 Au ?_
 have hs:=St.start hO
 refine Aw<|Av<|A9<|BT (cs:=(BS p Aa Ca Ab Cb Ac Cc)) hs Au Au ?_
 intro b1 w2 _ p3 bP
 refine Bn (Value.slice none 0 0) Au<|Bn (Iv 0) Au<|Ax<|Aw<|Av<|A9<|B1 0 B4 bP Au Au Au ?_
 obtain⟨N,dS,J⟩:=bd J
 replace Fb:=Fb.step p3;replace Fa:=Fa.step p3;replace Fc:=Fc.step p3
 refine A9<|Bi bP Try.call31 (H0 (p:=p) bP.ltw Fa Fb Fc dS) Au ?_
 rintro v7 w8 aT aA dT
 clear bP
 obtain⟨rfl,Ra⟩:=dT
 refine Bn (Iv N) Au<|Ax<|Aw<|Aw<|Av<|Bb (Iv N) Au<|A9<|Eh Au Au<|Ax<|AF J Au (fun cN J=>?_) (fun cN J=>?_)
 refine Aw ?_
 obtain⟨cO,gH⟩:=aA.sub (bs':=[]) (.cons _ List.Sublist.slnil)
 clear Fa Fb Fc Fd
 clear aA
 refine Av<|Bb (Iv N) Au<|Bn (Value.slice none 0 0) Au<|Bn (Iv N) Au<|Ax<|AV<|⟨_,DX,[Value.slice none 0 0,Iv N],⟨Au,Au,trivial⟩,cO.ext,?_⟩
 exact Vr.eq (a:=Ns (vC (BG (AL .i64))) (vI .i64)) (x:=(([]:List Int),N)) (Ly (Jy (B8 CA.nil_)) ⟨Au,Ra⟩) (oi J)
 refine AG<|Aw<|Wr [] [(1,Sl Ad choices Cd),(2,Pt b1 0)] fun eP=>?_
 obtain⟨dU,cP,J⟩:=Cy J
 refine CE Yc (fun fr w'=>∃(b6:Bool) (aG:Be),aG=[(some b1,Oc (BS p Aa Ca Ab Cb Ac Cc) 26)]∧fr [] [(27,Bo b6)]∧aA.S (ks aG O) w'∧St ⟨w,[],[]⟩ O w' aG∧dU b6=some x) ?_ ?_
 rintro eQ gI ⟨b6,_,rfl,aV,aW,aC,J⟩
 replace J:=Dc cP J
 rw [aV.eq];clear aV
 refine AF J Au (fun cQ J=>?_) (fun cQ J=>?_)
 refine Aw ?_
 obtain⟨cR,gJ⟩:=aC.sub (bs':=[]) (.cons _ List.Sublist.slnil)
 clear Fa Fb Fc Fd
 clear aC
 refine Av<|Bn (Value.slice none 0 0) Au<|Bn (Iv 270) Au<|Ax<|AV<|⟨_,DX,[Value.slice none 0 0,Iv 270],⟨Au,Au,trivial⟩,cR.ext,?_⟩
 exact Vr.eq (a:=Ns (vC (BG (AL .i64))) (vI .i64)) (x:=(([]:List Int),270)) (Ly (Jy (B8 CA.nil_)) ⟨Au,(show Cx .i64 270 from by decide)⟩) (oi J)
 refine AG<|Aw<|Av<|A9<|B1 0 B4 aC Au Au Au<|Bb (Sl Ad choices Cd) Au ?_
 obtain⟨G,cS,J⟩:=bd J
 replace Fd:=Fd.step (p3.trans (aT.trans aW))
 have b7:=(aT.trans aW)
 replace Fb:=Fb.step b7;replace Fa:=Fa.step b7;replace Fc:=Fc.step b7
 refine A9<|Bi aC Try.call88 (IC (p:=p) (b:=choices) aC.ltw Fa Fb Fc Fd cS) Au ?_
 rintro gK gL dV bU dW
 clear aC
 obtain⟨rfl,Rb⟩:=dW
 refine A9<|Bm (cs:=[Iv G,Iv 0,Iv 0,Iv 0]) (parts:=[(0,.tmp 30),(1,.const (.int .i64 0)),(2,.const (.int .i64 0)),(3,.const (.int .i64 0))]) Bl B6 bU (by decide) Au ?_
 intro aI dX eR dY bV
 clear bU
 have cT:=Gs.of_cells (p:=(AL .i64)) (e:=3) (bl:=aI) (c:=4) (w:=dX) (O:=ks [(some aI,Oc [Iv G,Iv 0,Iv 0,Iv 0] 3),(some b1,Oc (BS p Aa Ca Ab Cb Ac Cc) 26)] O) (show E0 (AL .i64) _ _ [Iv G,Iv 0,Iv 0,Iv 0] [G,0,0,0] from⟨_,_,Au,AU Rb,⟨_,_,Au,AU E1,⟨_,_,Au,AU E1,⟨_,_,Au,AU E1,E0.nil⟩⟩⟩⟩) Au (BQ Au)
 refine Bn (Sl (some ⟨aI,0,none⟩) [G,0,0,0] 4) Au<|Ax<|Aw<|Aw<|Av<|Bn (Iv 0) Au<|Ax<|AC<|Wr [] [(1,Sl Ad choices Cd),(2,Pt b1 0),(7,Sl (some ⟨aI,0,none⟩) [G,0,0,0] 4),(8,Iv 0)] fun cU=>Bf VF (fun m fr w'=>∃(F:List Int) (A:Int) (Ae:Option Addr) (Ce:Nat) (aD:Option Nat) (aE:Obj) (aG:Be),aG=[(aD,aE),(some b1,Oc (BS p Aa Ca Ab Cb Ac Cc) 26)]∧fr [] [(7,Sl Ae F Ce),(8,Iv A)]∧bV.S (ks aG O) w'∧St ⟨w,[],[]⟩ O w' aG∧Gs (AL .i64) 3 w' (ks aG O) Ae Ce F aD aE∧Cx .i64 A∧BC (CD p choices) m F A=some x) (((choices.length:Int) - 0).toNat+1) ⟨[G,0,0,0],0,some ⟨aI,0,none⟩,4,some aI,Obj.cells [Iv G,Iv 0,Iv 0,Iv 0].toArray 3,_,Au,BB.of ⟨Au,Au,trivial⟩,AA.refl _ _,bV,cT,E1,J⟩ ?_ ?_
 rintro _ _ ⟨_,_,_,_,_,_,_,_,_,_,_,_,_,J⟩;exact DI J
 rintro gM gN cV eS gO ⟨F,A,Ae,Ce,aD,aE,_,rfl,aX,aY,aH,Fe,Rc,J⟩
 obtain⟨eT,b8,J⟩:=DJ J;unfold CD at J
 rw [aX.eq];clear aX
 have aZ:=aY
 refine Aw<|Aw ?_
 clear cT
 refine Av<|Bb (Iv A) Au<|Bb (Sl Ad choices Cd) Au<|A9<|AZ Try.underlying31 Au ?_
 have cW:=(dV.trans (dY.trans aY))
 replace Fd:=Fd.step cW
 have eU:=AX Fd
 refine A9<|By Au Au<|Ax<|AF J Au (fun cX J=>?_) (fun cX J=>?_)
 refine AG<|Aw<|AC<|Aw<|B7 (g0:=[]) (m:=13) (fl:=[]) (CQ aH) Au (.inl Au) Au (by decide+kernel) ?_  -- 10
 refine Bc (Pt b1 2) (fun _ _ _ hi I=>AQ 2 B4 Au Cz (I 2 Au) Au<|Gz hi)<|Bc (Sl Ac p.variables Cc) (fun _ _ _ hi I=>AP 1 Cz (AA.nx hi).1 (I 38 Au) Au Au<|Gz hi)<|Bc (Iv A) (fun _ _ _ hi I=>AD (v:=Iv A) (I 8 Au)<|Gz hi) ?_
 obtain⟨bW,J⟩:=AE J
 replace Fc:=Fc.step cW
 refine Bd (VP _ _ AS (gt p.variables A)) (VP.stab _ _) (fun eV gP g M hi I=>?_) ?_
 obtain⟨-,Y,-⟩:=M
 replace Fc:=Fc.step Y
 refine Ay<|AB (q:=AS) Cz Dq (I 39 Au) (I 40 Au) Fc Au bW.1 bW.2 ?_
 intro gQ dZ
 exact Bs.same hi ⟨_,Au,dZ⟩
 refine Bd (VP _ _ (BG Bt) ((gt p.variables A).choices)) (VP.stab _ _) (fun eW gR g M hi I=>?_) ?_
 obtain⟨gS,d0,d1⟩:=I 41 Au
 refine Ay<|B5 Dq Au FJ (by decide) d0 Au ?_
 have d2:=d1.via.snd.snd.snd
 exact Bs.same hi ⟨_,Au,d2⟩
 refine Bd (VD _ _ (vC (BG Bt)) ((gt p.variables A).choices)) (VD.stab _ _) (fun eX gT g M hi I=>?_) ?_
 obtain⟨gU,d3,d4⟩:=I 42 Au
 refine Ay<|AR FJ d3 d4 Au ?_
 intro gV d5
 obtain⟨Af,Cf,rfl,Ff⟩:=B9 d5
 exact Bs.same hi (show Vr.vd (vC (BG Bt)) _ _ _ _ from(Jy (B8 Ff)))
 refine Bc (Sl Ad choices Cd) (fun _ _ _ hi I=>AD (v:=Sl Ad choices Cd) (I 1 Au)<|Gz hi)<|Bc (Iv A) (fun _ _ _ hi I=>AD (v:=Iv A) (I 8 Au)<|Gz hi) ?_
 obtain⟨a0,J⟩:=AE J
 refine Bd (VP _ _ (AL .i64) (gt choices A)) (VP.stab _ _) (fun eY eZ g M hi I=>?_) ?_
 obtain⟨-,Y,-⟩:=M
 replace Fd:=Fd.step Y
 refine Ay<|AB (q:=(AL .i64)) Bl B6 (I 44 Au) (I 45 Au) Fd Au a0.1 a0.2 ?_
 intro e0 cY
 exact Bs.same hi ⟨_,Au,cY⟩
 refine Bd (VD _ _ (vI .i64) (gt choices A)) (VD.stab _ _) (fun d6 e1 g M hi I=>?_) ?_
 obtain⟨e2,cZ,c0⟩:=I 46 Au
 refine Ay<|AR B6 cZ c0 Au ?_
 intro e3 c1
 obtain⟨rfl,Rd⟩:=BK c1
 exact Bs.same hi (show Vr.vd (vI .i64) _ _ _ _ from⟨Au,Rd⟩)
 obtain⟨a1,J⟩:=AE J
 refine Bd (VP _ _ Bt (gt ((gt p.variables A).choices) (gt choices A))) (VP.stab _ _) (fun d7 e4 g M hi I=>?_) ?_
 have c2:Vr.vd (vC (BG Bt)) _ _ _ _:=I 43 Au
 obtain⟨Ag,Cg,c3,Fg⟩:=B9 c2
 have c4:Vr.vd (vI .i64) _ _ _ _:=I 47 Au
 obtain⟨c5,Re⟩:=c4
 refine Ay<|AB (q:=Bt) FJ FT c3 c5 Fg Au a1.1 a1.2 ?_
 intro e5 c6
 exact Bs.same hi ⟨_,Au,c6⟩
 refine Bd (VD _ _ (vA Bt) (gt ((gt p.variables A).choices) (gt choices A))) (VD.stab _ _) (fun d8 e6 g M hi I=>?_) ?_
 obtain⟨e7,c7,c8⟩:=I 48 Au
 refine Ay<|BE FT c7 c8 Au ?_
 intro d9 c9
 obtain⟨_,_,rfl,⟨rfl,Rf⟩,⟨_,_,rfl,⟨rfl,Rg⟩,⟨_,_,rfl,⟨rfl,Rh⟩,⟨Ah,Ch,rfl,Fh⟩⟩⟩⟩:=c9
 exact Bs.same hi (show Vr.vd (vA Bt) _ _ _ _ from(JX (C2 (AW (AU Rf) (AW (AU Rg) (AW (AU Rh) (B8 Fh)))))))
 refine Bd (VN 9 (Obj.cells [Iv 0,Iv 0,Iv 0,Value.slice none 0 0].toArray 58)) (VN.stab _ _) (fun eA e8 g M hi I=>?_) ?_
 refine Ay<|Bv FT hi ?_
 intro e9 fA b9 dA cA;exact Bs.new hi dA cA b9
 refine BD fun fB fC cB cC=>?_
 obtain⟨-,bQ,-⟩:=cB
 rintro _ ⟨aR,rfl,dB⟩ fD a2
 replace a2:Vr.vd (vA Bt) _ _ _ _:=a2
 obtain⟨_,rfl,⟨_,_,rfl,⟨rfl,Ri⟩,⟨_,_,rfl,⟨rfl,Rj⟩,⟨_,_,rfl,⟨rfl,Rk⟩,⟨Ai,Ci,rfl,Fi⟩⟩⟩⟩⟩:=a2
 rintro _ ⟨fE,rfl,a3⟩ fF a4
 replace a4:Vr.vd (vI .i64) _ _ _ _:=a4
 obtain⟨rfl,Rl⟩:=a4
 rintro _ ⟨fG,rfl,a5⟩ _ rfl _ rfl fH a6
 replace a6:Vr.vd (vC (BG Bt)) _ _ _ _:=a6
 obtain⟨Aj,Cj,rfl,Fj⟩:=B9 a6
 rintro _ ⟨fI,rfl,a7⟩ _ ⟨fJ,rfl,a8⟩ _ rfl _ rfl _ rfl
 obtain⟨aJ,aB⟩:=AA.nx1 cC dB
 have dC:=aH.to aJ (bQ.trans aB)
 replace Fi:=Fi.step aB;replace a3:=a3.step aB;replace a5:=a5.step aB;replace Fj:=Fj.step aB;replace a7:=a7.step aB;replace a8:=a8.step aB;clear aH
 refine Bh<|C6 .z FT aJ Au Au Au Au Au ?_
 intro fK dD aF
 clear aJ
 refine Ax<|Aw ?_
 clear a3 a5 Fj a7 a8
 refine Av<|A9<|AQ 2 B4 Au Cz Au Au<|A9<|AP 2 Cz aF Au Au Au<|Bb (Iv A) Au ?_
 obtain⟨a9,J⟩:=AE J
 have bA:=(dC.trans dD)
 replace Fc:=Fc.step bA
 refine A9<|AB (q:=AS) Cz Dq Au Au Fc Au a9.1 a9.2 ?_
 intro fL bX
 refine A9<|B5 Dq Au Bl (by decide) Au Au ?_
 have bY:=bX.via.snd.snd.fst
 refine A9<|AR Bl Au bY Au ?_
 intro fM dE
 obtain⟨Ak,Ck,rfl,Fk⟩:=B9 dE
 refine A9<|AZ Try.underlying31 Au ?_
 have eB:=AX Fk
 refine Bn (Iv (((gt p.variables A).leaves).length:Int)) Au<|Ax<|Aw ?_
 clear bX bY Fk
 refine Ic VF [] (CO ⟨cU,[]⟩ [(1,Sl Ad choices Cd),(2,Pt b1 0),(7,Sl (some ⟨aI,0,none⟩) [G,0,0,0] 4),(8,Iv 0)]) [(7,Sl Ae F Ce),(8,Iv A),(9,Pt aR 0),(10,Iv (((gt p.variables A).leaves).length:Int))] fun eC=>B7 (g0:=[]) (m:=6) (fl:=[0]) (CQ aF) Au (.inl Au) Au (by decide+kernel) ?_  -- 12
 refine Bc (Sl Ae F Ce) (fun _ _ _ hi I=>AD (v:=Sl Ae F Ce) (I 7 Au)<|Gz hi)<|Bc (Sl Ae F Ce) (fun _ _ _ hi I=>AD (v:=Sl Ae F Ce) (I 7 Au)<|Gz hi) ?_
 obtain⟨bB,J⟩:=AE J
 replace Fe:=Fe.step bA
 obtain⟨U,rfl,rfl⟩:=Fe.at_ (by omega)
 refine BN (Value.pointer (some ⟨U,1*1,none⟩)) (fun eD fN g M hi I=>?_) ?_
 obtain⟨-,Y,-⟩:=M
 replace Fe:=Fe.step Y
 refine Ay<|BA Bl B6 (I 58 Au) Au Fe bB ?_
 rintro _ ⟨⟩ -
 exact Gz hi
 refine Bd (VD _ _ (vI .i64) (F.getD 1 default)) (VD.stab _ _) (fun eE fO g M hi I=>?_) ?_
 obtain⟨-,Y,-⟩:=M
 replace Fe:=Fe.step Y
 have bC:=(AA.nx hi).1
 refine Ay<|F0 (m:=1) (i:=1) B6 Au bC Au (I 59 Au) Fe bB ?_
 intro fP dF
 obtain⟨rfl,Rm⟩:=BK dF
 exact Bs.same hi (show Vr.vd (vI .i64) _ _ _ _ from⟨Au,Rm⟩)
 refine Bc (Pt aR 0) (fun _ _ _ hi I=>AQ 0 FT Au B6 (I 9 Au) Au<|Gz hi)<|Bc (Iv ((gt ((gt p.variables A).choices) (gt choices A)).delay)) (fun _ _ _ hi I=>AP 0 B6 (AA.nx hi).1 (I 61 Au) Au Au<|Gz hi)<|BD fun fQ fR cD cE=>?_
 obtain⟨-,bR,-⟩:=cD
 obtain⟨aK,dG⟩:=AA.nx cE
 rintro _ rfl _ rfl fS bD
 replace bD:Vr.vd (vI .i64) _ _ _ _:=bD
 obtain⟨rfl,Rn⟩:=bD
 rintro _ rfl _ rfl _ rfl
 have bZ:=aF.to aK (bR.trans dG)
 clear aF
 refine A9<|Pv Au Au ?_
 obtain⟨bE,J⟩:=AE J
 replace Fe:=Fe.step bZ
 refine A9<|BA Bl B6 Au Au Fe bE ?_
 rintro _ ⟨⟩ -
 refine Bh<|FH (vs:=[Iv (max (F.getD 1 default) ((gt ((gt p.variables A).choices) (gt choices A)).delay))]) (i:=1) (m:=1) B6 Au aK Au Au Au Au Fe bE (AU (Sd Rn Ri)) ?_
 intro fT fU dH aL W
 clear aK
 refine Ax<|Aw<|B7 (g0:=[]) (m:=8) (fl:=[0]) (CQ aL) Au (.inl Au) Au (by decide+kernel) ?_  -- 13
 refine BN (Sl (some ⟨U,0,none⟩) (F.set 1 (max (F.getD 1 default) ((gt ((gt p.variables A).choices) (gt choices A)).delay))) Ce) (fun eF fV g M hi I=>?_) ?_
 refine Ay (AD (v:=Sl (some ⟨U,0,none⟩) (F.set 1 (max (F.getD 1 default) ((gt ((gt p.variables A).choices) (gt choices A)).delay))) Ce) (Ib (I 7 Au) (show F.length=(F.set 1 (max (F.getD 1 default) ((gt ((gt p.variables A).choices) (gt choices A)).delay))).length from by first |(simp;done) |(simp;omega))) ?_)
 exact Gz hi
 refine BN (Sl (some ⟨U,0,none⟩) (F.set 1 (max (F.getD 1 default) ((gt ((gt p.variables A).choices) (gt choices A)).delay))) Ce) (fun eG fW g M hi I=>?_) ?_
 refine Ay (AD (v:=Sl (some ⟨U,0,none⟩) (F.set 1 (max (F.getD 1 default) ((gt ((gt p.variables A).choices) (gt choices A)).delay))) Ce) (Ib (I 7 Au) (show F.length=(F.set 1 (max (F.getD 1 default) ((gt ((gt p.variables A).choices) (gt choices A)).delay))).length from by first |(simp;done) |(simp;omega))) ?_)
 exact Gz hi
 obtain⟨bF,J⟩:=AE J
 refine BN (Value.pointer (some ⟨U,2*1,none⟩)) (fun eH fX g M hi I=>?_) ?_
 obtain⟨-,Y,-⟩:=M
 replace W:=W.step Y
 refine Ay<|BA Bl B6 (I 66 Au) Au W bF ?_
 rintro _ ⟨⟩ -
 exact Gz hi
 refine Bd (VD _ _ (vI .i64) ((F.set 1 (max (F.getD 1 default) ((gt ((gt p.variables A).choices) (gt choices A)).delay))).getD 2 default)) (VD.stab _ _) (fun eI fY g M hi I=>?_) ?_
 obtain⟨-,Y,-⟩:=M
 replace W:=W.step Y
 have bC:=(AA.nx hi).1
 refine Ay<|F0 (m:=2) (i:=1) B6 Au bC Au (I 67 Au) W bF ?_
 intro fZ dI
 obtain⟨rfl,Ro⟩:=BK dI
 exact Bs.same hi (show Vr.vd (vI .i64) _ _ _ _ from⟨Au,Ro⟩)
 refine Bc (Pt aR 1) (fun _ _ _ hi I=>AQ 1 FT Au B6 (I 9 Au) Au<|Gz hi)<|Bc (Iv ((gt ((gt p.variables A).choices) (gt choices A)).cost)) (fun _ _ _ hi I=>AP 0 B6 (AA.nx hi).1 (I 69 Au) Au Au<|Gz hi)<|Bc (Iv (((gt p.variables A).leaves).length:Int)) (fun _ _ _ hi I=>AD (v:=Iv (((gt p.variables A).leaves).length:Int)) (I 10 Au)<|Gz hi)<|Bc (Iv (wq (((gt ((gt p.variables A).choices) (gt choices A)).cost)*(((gt p.variables A).leaves).length:Int)))) (fun _ _ _ hi I=>Io (I 70 Au) (I 71 Au)<|Gz hi)<|BD fun f0 f1 cF cG=>?_
 obtain⟨-,bS,-⟩:=cF
 obtain⟨aM,dJ⟩:=AA.nx cG
 rintro _ rfl _ rfl _ rfl _ rfl f2 bG
 replace bG:Vr.vd (vI .i64) _ _ _ _:=bG
 obtain⟨rfl,Rp⟩:=bG
 rintro _ rfl _ rfl _ rfl
 have b0:=aL.to aM (bS.trans dJ)
 clear aL
 refine A9<|Bg Au Au ?_
 obtain⟨bH,J⟩:=AE J
 replace W:=W.step b0
 refine A9<|BA Bl B6 Au Au W bH ?_
 rintro _ ⟨⟩ -
 refine Bh<|FH (vs:=[Iv (wq (((F.set 1 (max (F.getD 1 default) ((gt ((gt p.variables A).choices) (gt choices A)).delay))).getD 2 default)+(wq (((gt ((gt p.variables A).choices) (gt choices A)).cost)*(((gt p.variables A).leaves).length:Int)))))]) (i:=1) (m:=2) B6 Au aM Au Au Au Au W bH (AU (AT .i64 _)) ?_
 intro f3 f4 dK aN X
 clear aM
 refine Ax<|B7 (g0:=[]) (m:=8) (fl:=[0]) (CQ aN) Au (.inl Au) Au (by decide+kernel) ?_  -- 14
 refine BN (Sl (some ⟨U,0,none⟩) ((F.set 1 (max (F.getD 1 default) ((gt ((gt p.variables A).choices) (gt choices A)).delay))).set 2 (wq (((F.set 1 (max (F.getD 1 default) ((gt ((gt p.variables A).choices) (gt choices A)).delay))).getD 2 default)+(wq (((gt ((gt p.variables A).choices) (gt choices A)).cost)*(((gt p.variables A).leaves).length:Int)))))) Ce) (fun eJ f5 g M hi I=>?_) ?_
 refine Ay (AD (v:=Sl (some ⟨U,0,none⟩) ((F.set 1 (max (F.getD 1 default) ((gt ((gt p.variables A).choices) (gt choices A)).delay))).set 2 (wq (((F.set 1 (max (F.getD 1 default) ((gt ((gt p.variables A).choices) (gt choices A)).delay))).getD 2 default)+(wq (((gt ((gt p.variables A).choices) (gt choices A)).cost)*(((gt p.variables A).leaves).length:Int)))))) Ce) (Ib (I 7 Au) (show F.length=((F.set 1 (max (F.getD 1 default) ((gt ((gt p.variables A).choices) (gt choices A)).delay))).set 2 (wq (((F.set 1 (max (F.getD 1 default) ((gt ((gt p.variables A).choices) (gt choices A)).delay))).getD 2 default)+(wq (((gt ((gt p.variables A).choices) (gt choices A)).cost)*(((gt p.variables A).leaves).length:Int)))))).length from by first |(simp;done) |(simp;omega))) ?_)
 exact Gz hi
 refine BN (Sl (some ⟨U,0,none⟩) ((F.set 1 (max (F.getD 1 default) ((gt ((gt p.variables A).choices) (gt choices A)).delay))).set 2 (wq (((F.set 1 (max (F.getD 1 default) ((gt ((gt p.variables A).choices) (gt choices A)).delay))).getD 2 default)+(wq (((gt ((gt p.variables A).choices) (gt choices A)).cost)*(((gt p.variables A).leaves).length:Int)))))) Ce) (fun eK f6 g M hi I=>?_) ?_
 refine Ay (AD (v:=Sl (some ⟨U,0,none⟩) ((F.set 1 (max (F.getD 1 default) ((gt ((gt p.variables A).choices) (gt choices A)).delay))).set 2 (wq (((F.set 1 (max (F.getD 1 default) ((gt ((gt p.variables A).choices) (gt choices A)).delay))).getD 2 default)+(wq (((gt ((gt p.variables A).choices) (gt choices A)).cost)*(((gt p.variables A).leaves).length:Int)))))) Ce) (Ib (I 7 Au) (show F.length=((F.set 1 (max (F.getD 1 default) ((gt ((gt p.variables A).choices) (gt choices A)).delay))).set 2 (wq (((F.set 1 (max (F.getD 1 default) ((gt ((gt p.variables A).choices) (gt choices A)).delay))).getD 2 default)+(wq (((gt ((gt p.variables A).choices) (gt choices A)).cost)*(((gt p.variables A).leaves).length:Int)))))).length from by first |(simp;done) |(simp;omega))) ?_)
 exact Gz hi
 obtain⟨bI,J⟩:=AE J
 refine BN (Value.pointer (some ⟨U,3*1,none⟩)) (fun eL f7 g M hi I=>?_) ?_
 obtain⟨-,Y,-⟩:=M
 replace X:=X.step Y
 refine Ay<|BA Bl B6 (I 76 Au) Au X bI ?_
 rintro _ ⟨⟩ -
 exact Gz hi
 refine Bd (VD _ _ (vI .i64) (((F.set 1 (max (F.getD 1 default) ((gt ((gt p.variables A).choices) (gt choices A)).delay))).set 2 (wq (((F.set 1 (max (F.getD 1 default) ((gt ((gt p.variables A).choices) (gt choices A)).delay))).getD 2 default)+(wq (((gt ((gt p.variables A).choices) (gt choices A)).cost)*(((gt p.variables A).leaves).length:Int)))))).getD 3 default)) (VD.stab _ _) (fun eM f8 g M hi I=>?_) ?_
 obtain⟨-,Y,-⟩:=M
 replace X:=X.step Y
 have bC:=(AA.nx hi).1
 refine Ay<|F0 (m:=3) (i:=1) B6 Au bC Au (I 77 Au) X bI ?_
 intro f9 dL
 obtain⟨rfl,Rq⟩:=BK dL
 exact Bs.same hi (show Vr.vd (vI .i64) _ _ _ _ from⟨Au,Rq⟩)
 refine Bc (Pt aR 2) (fun _ _ _ hi I=>AQ 2 FT Au B6 (I 9 Au) Au<|Gz hi)<|Bc (Iv ((gt ((gt p.variables A).choices) (gt choices A)).changes)) (fun _ _ _ hi I=>AP 0 B6 (AA.nx hi).1 (I 79 Au) Au Au<|Gz hi)<|Bc (Iv (((gt p.variables A).leaves).length:Int)) (fun _ _ _ hi I=>AD (v:=Iv (((gt p.variables A).leaves).length:Int)) (I 10 Au)<|Gz hi)<|Bc (Iv (wq (((gt ((gt p.variables A).choices) (gt choices A)).changes)*(((gt p.variables A).leaves).length:Int)))) (fun _ _ _ hi I=>Io (I 80 Au) (I 81 Au)<|Gz hi)<|BD fun gA gB cH cI=>?_
 obtain⟨-,bT,-⟩:=cH
 obtain⟨aO,dM⟩:=AA.nx cI
 rintro _ rfl _ rfl _ rfl _ rfl gC bJ
 replace bJ:Vr.vd (vI .i64) _ _ _ _:=bJ
 obtain⟨rfl,Rr⟩:=bJ
 rintro _ rfl _ rfl _ rfl
 have b2:=aN.to aO (bT.trans dM)
 clear aN
 refine A9<|Bg Au Au ?_
 obtain⟨bK,J⟩:=AE J
 replace X:=X.step b2
 refine A9<|BA Bl B6 Au Au X bK ?_
 rintro _ ⟨⟩ -
 refine Bh<|FH (vs:=[Iv (wq ((((F.set 1 (max (F.getD 1 default) ((gt ((gt p.variables A).choices) (gt choices A)).delay))).set 2 (wq (((F.set 1 (max (F.getD 1 default) ((gt ((gt p.variables A).choices) (gt choices A)).delay))).getD 2 default)+(wq (((gt ((gt p.variables A).choices) (gt choices A)).cost)*(((gt p.variables A).leaves).length:Int)))))).getD 3 default)+(wq (((gt ((gt p.variables A).choices) (gt choices A)).changes)*(((gt p.variables A).leaves).length:Int)))))]) (i:=1) (m:=3) B6 Au aO Au Au Au Au X bK (AU (AT .i64 _)) ?_
 intro gD dN dO aP bL
 clear aO
 refine Ax<|Av<|Bb (Iv A) Au<|A9<|Bg Au Au<|Bn (Iv (wq (A+1))) Au<|Ax ?_
 have cJ:=aP.drop 0
 have b3:=(aP.dropS 0)
 clear aP
 have dP:=(bA.trans (bZ.trans (dH.trans (b0.trans (dK.trans (b2.trans (dO.trans b3)))))))
 replace aZ:=aZ.trans dP;replace bL:=bL.step b3
 exact cV _ _ ⟨((F.set 1 (max (F.getD 1 default) ((gt ((gt p.variables A).choices) (gt choices A)).delay))).set 2 (wq (((F.set 1 (max (F.getD 1 default) ((gt ((gt p.variables A).choices) (gt choices A)).delay))).getD 2 default)+(wq (((gt ((gt p.variables A).choices) (gt choices A)).cost)*(((gt p.variables A).leaves).length:Int)))))).set 3 (wq ((((F.set 1 (max (F.getD 1 default) ((gt ((gt p.variables A).choices) (gt choices A)).delay))).set 2 (wq (((F.set 1 (max (F.getD 1 default) ((gt ((gt p.variables A).choices) (gt choices A)).delay))).getD 2 default)+(wq (((gt ((gt p.variables A).choices) (gt choices A)).cost)*(((gt p.variables A).leaves).length:Int)))))).getD 3 default)+(wq (((gt ((gt p.variables A).choices) (gt choices A)).changes)*(((gt p.variables A).leaves).length:Int))))),(wq (A+1)),some ⟨U,0,none⟩,Ce,some U,dN,_,Au,BB.of ⟨M4 (show F.length=(((F.set 1 (max (F.getD 1 default) ((gt ((gt p.variables A).choices) (gt choices A)).delay))).set 2 (wq (((F.set 1 (max (F.getD 1 default) ((gt ((gt p.variables A).choices) (gt choices A)).delay))).getD 2 default)+(wq (((gt ((gt p.variables A).choices) (gt choices A)).cost)*(((gt p.variables A).leaves).length:Int)))))).set 3 (wq ((((F.set 1 (max (F.getD 1 default) ((gt ((gt p.variables A).choices) (gt choices A)).delay))).set 2 (wq (((F.set 1 (max (F.getD 1 default) ((gt ((gt p.variables A).choices) (gt choices A)).delay))).getD 2 default)+(wq (((gt ((gt p.variables A).choices) (gt choices A)).cost)*(((gt p.variables A).leaves).length:Int)))))).getD 3 default)+(wq (((gt ((gt p.variables A).choices) (gt choices A)).changes)*(((gt p.variables A).leaves).length:Int)))))).length from by first |(simp;done) |(simp;omega)),Au,trivial⟩,aZ,cJ,bL,(AT .i64 _),GV b8 J⟩
 refine Bq<|Aw ?_
 obtain⟨bM,dQ⟩:=aH.sub (bs':=[(aD,aE)]) (.cons_cons _ (.cons _ List.Sublist.slnil))
 clear Fa Fb Fc Fd
 clear aH
 refine Av<|Bb (Sl Ae F Ce) Au<|Bn (Sl Ae F Ce) Au<|Bn (Iv 0) Au<|Ax<|AV ?_
 replace Fe:=Fe.step dQ
 obtain⟨bN,gE,bO⟩:=Gs.publish (i:=0) bM Au Fe
 clear bM
 have hz:=G5 bN
 refine⟨_,DX,[Sl Ae F Ce,Iv 0],⟨Au,Au,trivial⟩,bN.ext,?_⟩
 replace bO:=bO.step hz
 exact Vr.eq (a:=Ns (vC (BG (AL .i64))) (vI .i64)) (x:=(F,0)) (Ly (Jy (B8 bO)) ⟨Au,E1⟩) (oi J)
 intro gW b4
 have Z:=aA.stepR
 refine Av<|A9<|B1 0 B4 aA Au Au Au<|Bb (Sl Ad choices Cd) Au ?_
 obtain⟨aU,cK,J⟩:=bd J
 replace Fd:=Fd.step (p3.trans aT);replace Fb:=Fb.step aT;replace Fa:=Fa.step aT;replace Fc:=Fc.step aT
 refine A9<|Bi aA Try.call87 (Ja (p:=p) (b:=choices) aA.ltw Fa Fb Fc Fd cK) Au ?_
 rintro gF gG aS aQ dR
 obtain rfl:=dR
 refine A9<|Do Au<|Bb (Bo (!aU)) Au<|Bz J (fun cL J=>?_) (fun cL J=>?_)
 iterate 6 refine AI Au (AJ Au Au) Au ?_
 refine FM (Bo true) Au Au<|Ax ?_
 replace Z:=Z.trans aS
 exact b4 _ _ ⟨true,_,Au,BB.of ⟨Au,trivial⟩,Z,aQ,J⟩
 refine BO Au Au<|AD (v:=Sl Ad choices Cd) Au<|BO Au Au<|AZ Try.underlying31 Au ?_
 replace Fd:=Fd.step aS
 have eN:=AX Fd
 refine BO Au Au<|AQ 2 B4 Au Cz Au Au<|BO Au Au<|AP 0 Cz aQ Au Au Au<|BO Au Au<|AZ Try.underlying24 Au ?_
 replace Fc:=Fc.step aS
 have eO:=AX Fc
 refine BO Au Au<|Eh Au Au<|F8 (Bo (decide ((choices.length:Int)≠(p.variables.length:Int)))) Au Au<|Ax ?_
 replace Z:=Z.trans aS
 exact b4 _ _ ⟨decide ((choices.length:Int)≠(p.variables.length:Int)),_,Au,BB.of ⟨Au,trivial⟩,Z,aQ,J⟩

abbrev Yd:List Nat:=[8,11,33,34,35,36,37,38,39,40,41,42,43,44,45,46,47,48,49,50,51,52,53,54,55,56,57]

abbrev VG:List Nat:=[8,9,10,11,22,23,24,25,26,27,28,29,30,31,32,33,34,35,36,37,38,39,40,41,42,43,44,45,46,47,48,49,50,51,52,53,54,55,56,57]

def C7 (p:A8) (A:Int) (M:(List Az)→Int→Option ((List Az) × Int)) (F:(List Int)) (J:(List Az)→Int→Option ((List Az) × Int)) (I:List Az) (G:Int):Option ((List Az) × Int):=
 bif (decide (G<(F.length:Int))) then
  ck ((0:Int)≤G∧G<(F.length:Int))<|
  ck ((0:Int)≤A∧A<(p.capacity.length:Int))<|
  ck ((0:Int)≤G∧G<((p.capacity.getD A.toNat default).length:Int))<|
  bif (decide (((p.capacity.getD A.toNat default).getD G.toNat default)<(F.getD G.toNat default))) then
   ck ((I.length+[(⟨A,G⟩:Az)].length)*16≤140737488355328)<|
   J (I++[(⟨A,G⟩:Az)]) (IntKind.wrap .i64 (G+1))
  else
   J I (IntKind.wrap .i64 (G+1))
 else
  M I (IntKind.wrap .i64 (A+1))

def C8 (p:A8) (choices:List Int) (G:(List Az)→Int→Option ((List Az) × Int)) (I:List Az) (F:Int):Option ((List Az) × Int):=
 bif (decide (F<(p.capacity.length:Int))) then
  (D1 p choices F).bind fun A=>
  BC (C7 p F G A) (((A.length:Int) - 0).toNat+1) I 0
 else
  some (I,0)

def DC (p:A8) (choices:List Int):Option ((List Az) × Int):=
 (Ew p choices).bind fun A=>
 bif (decide (A.2≠0)) then
  some (([]:List Az),A.2)
 else
  BC (C8 p choices) (((p.capacity.length:Int) - 0).toNat+1) [] 0

theorem I0 {w:World} {O:List Nat} {p:A8} {choices:List Int} {Aa:Option Addr} {Ca:Nat} {Ab:Option Addr} {Cb:Nat} {Ac:Option Addr} {Cc:Nat} {Ad:Option Addr} {Cd:Nat} (hO:∀k∈O,k<w.heap.size) (Fa:CA Bx w O Aa Ca p.cells) (Fb:CA (BG (AL .i64)) w O Ab Cb p.capacity) (Fc:CA AS w O Ac Cc p.variables) (Fd:CA (AL .i64) w O Ad Cd choices) {x:(List Az) × Int} (J:DC p choices=some x):
 Ok Try.prog 57 [Value.agg (BS p Aa Ca Ab Cb Ac Cc).toArray,Sl Ad choices Cd] w O (Ns (vC (BG AO)) (vI .i64)) x:=by
 unfold DC at J
 refine Br (n:=59) (xs:=[.tmp 4,.tmp 5]) Try.func57 Au Try.ntmps57 Try.results57 Au ?_
 have hs:=St.start hO
 refine Aw<|Av<|A9<|BT (cs:=(BS p Aa Ca Ab Cb Ac Cc)) hs Au Au ?_
 intro b1 w2 _ p3 a8
 refine Bn (Value.slice none 0 0) Au<|Bn (Iv 0) Au<|Ax<|Aw<|Av<|A9<|B1 0 B4 a8 Au Au Au<|Bb (Sl Ad choices Cd) Au ?_
 obtain⟨F,cO,J⟩:=bd J
 replace Fd:=Fd.step p3;replace Fb:=Fb.step p3;replace Fa:=Fa.step p3;replace Fc:=Fc.step p3
 refine A9<|Bi a8 Try.call79 (Ji (p:=p) (choices:=choices) a8.ltw Fa Fb Fc Fd cO) Au ?_
 rintro v7 w8 cP aL cQ
 clear a8
 obtain⟨dY,dZ,rfl,cR,cS⟩:=cQ
 obtain⟨Ae,Ce,rfl,Fe⟩:=B9 cR
 obtain⟨rfl,Ra⟩:=cS
 refine Bb (Value.tuple [Sl Ae F.1 Ce,Iv F.2].toArray) Au<|A9<|Bk (v:=Sl Ae F.1 Ce) Au Au<|A9<|Bk (v:=Iv F.2) Au Au<|Bn (Sl Ae F.1 Ce) Au<|Bn (Iv F.2) Au<|Ax<|Aw<|Aw ?_
 clear Fe
 refine Av<|Bb (Iv F.2) Au<|A9<|Eh Au Au<|Ax<|AF J Au (fun bT J=>?_) (fun bT J=>?_)
 refine Aw ?_
 obtain⟨bU,d0⟩:=aL.sub (bs':=[]) (.cons _ List.Sublist.slnil)
 clear Fa Fb Fc Fd
 clear aL
 refine Av<|Bb (Iv F.2) Au<|Bn (Value.slice none 0 0) Au<|Bn (Iv F.2) Au<|Ax<|AV<|⟨_,DX,[Value.slice none 0 0,Iv F.2],⟨Au,Au,trivial⟩,bU.ext,?_⟩
 exact Vr.eq (a:=Ns (vC (BG AO)) (vI .i64)) (x:=(([]:List Az),F.2)) (Ly (Jy (B8 CA.nil_)) ⟨Au,Ra⟩) (oi J)
 refine AG<|Aw<|Av<|A9<|Bm (cs:=[]) (parts:=[]) Eo C5 aL (by decide) Au ?_
 intro aI cT c4 cU bB
 clear aL
 refine Bn (Value.slice (some ⟨aI,0,none⟩) 0 0) Au<|Ax<|Aw<|Aw<|Av<|Bn (Iv 0) Au<|Ax<|AC<|Wr [] [(1,Sl Ad choices Cd),(2,Pt b1 0),(8,Value.slice (some ⟨aI,0,none⟩) 0 0),(9,Iv 0)] fun bV=>?_
 have bW:=Gs.of_cells (p:=AO) (e:=45) (bl:=aI) (c:=0) (w:=cT) (O:=ks [(some aI,Oc [] 45),(some b1,Oc (BS p Aa Ca Ab Cb Ac Cc) 26)] O) (show E0 AO _ _ [] [] from E0.nil) Au (BQ Au)
 refine Bf VG (fun m fr w'=>∃(aA:List Az) (A:Int) (Af:Option Addr) (Cf:Nat) (U:Option Nat) (W:Obj) (aE:Be),aE=[(U,W),(some b1,Oc (BS p Aa Ca Ab Cb Ac Cc) 26)]∧fr [] [(8,Sl Af aA Cf),(9,Iv A)]∧bB.S (ks aE O) w'∧St ⟨w,[],[]⟩ O w' aE∧Gs AO 45 w' (ks aE O) Af Cf aA U W∧Cx .i64 A∧BC (C8 p choices) m aA A=some x) (((p.capacity.length:Int) - 0).toNat+1) ⟨[],0,some ⟨aI,0,none⟩,0,some aI,Obj.cells [].toArray 45,_,Au,BB.of ⟨Au,Au,trivial⟩,AA.refl _ _,bB,bW,E1,J⟩ ?_ ?_
 rintro _ _ ⟨_,_,_,_,_,_,_,_,_,_,_,_,_,J⟩;exact DI J
 rintro d1 d2 bX c5 d3 ⟨aA,A,Af,Cf,U,W,_,rfl,aP,aQ,X,Ff,Rb,J⟩
 obtain⟨bY,bK,J⟩:=DJ J;unfold C8 at J
 rw [aP.eq];clear aP
 have aR:=aQ
 refine Aw<|Aw ?_
 clear bW
 refine Av<|Bb (Iv A) Au<|A9<|AQ 1 B4 Au Db Au Au<|A9<|AP 1 Db X Au Au Au<|A9<|AZ Try.underlying23 Au ?_
 have a9:=(cP.trans (cU.trans aQ))
 replace Fb:=Fb.step a9
 have c6:=AX Fb
 refine A9<|By Au Au<|Ax<|AF J Au (fun bZ J=>?_) (fun bZ J=>?_)
 refine AG<|Aw<|AC<|Aw<|Av<|A9<|B1 1 B4 X Au Au Au<|Bb (Sl Ad choices Cd) Au<|Bb (Iv A) Au ?_
 obtain⟨G,b0,J⟩:=bd J
 replace Fd:=Fd.step a9;replace Fa:=Fa.step a9;replace Fc:=Fc.step a9
 refine A9<|Gi Try.call80 (Hq (p:=p) (b:=choices) (leaf:=A) X.ltw Fa Fb Fc Fd Rb b0) Au ?_
 rintro _ d4 ⟨b2,aS,aT,cV,bL,rfl,b3,N⟩
 obtain⟨bC,bM⟩:=X.callG (o:=bL) b2 b3
 rw [← JZ (o:=bL)] at N
 clear X
 refine Bn (Sl aS G aT) Au<|Ax<|Aw<|Av<|Bn (Iv 0) Au<|Ax<|AC<|Ic VG [] (CO ⟨bV,[]⟩ [(1,Sl Ad choices Cd),(2,Pt b1 0),(8,Value.slice (some ⟨aI,0,none⟩) 0 0),(9,Iv 0)]) [(8,Sl Af aA Cf),(9,Iv A),(10,Sl aS G aT),(11,Iv 0)] fun c7=>?_
 replace Ff:=Ff.step bM
 refine Bf Yd (fun m fr w'=>∃(aB:List Az) (I:Int) (Ag:Option Addr) (Cg:Nat) (Y:Option Nat) (Z:Obj) (aE:Be),aE=[(cV,bL),(Y,Z),(some b1,Oc (BS p Aa Ca Ab Cb Ac Cc) 26)]∧fr [] [(8,Sl Ag aB Cg),(11,Iv I)]∧bC.S (ks aE O) w'∧St ⟨w,[],[]⟩ O w' aE∧Gs AO 45 w' (ks aE O) Ag Cg aB Y Z∧Cx .i64 I∧BC (C7 p A bY G) m aB I=some x) (((G.length:Int) - 0).toNat+1) ⟨aA,0,Af,Cf,U,W,_,Au,BB.of ⟨Au,Au,trivial⟩,AA.refl _ _,bC,Ff,E1,J⟩ ?_ ?_
 rintro _ _ ⟨_,_,_,_,_,_,_,_,_,_,_,_,_,J⟩;exact DI J
 rintro d5 d6 bD c8 d7 ⟨aB,I,Ag,Cg,Y,Z,_,rfl,aU,aF,aC,Fg,Rc,J⟩
 obtain⟨c9,aV,J⟩:=DJ J;unfold C7 at J
 rw [aU.eq];clear aU
 have aD:=aF
 refine Aw<|Aw ?_
 clear Ff
 refine Av<|Bb (Iv I) Au<|Bb (Sl aS G aT) Au<|A9<|AZ Try.underlying31 Au ?_
 replace N:=N.step aF
 have dA:=HK N
 refine A9<|By Au Au<|Ax<|AF J Au (fun b4 J=>?_) (fun b4 J=>?_)
 refine AG<|Aw<|AC<|Aw<|B7 (g0:=[]) (m:=12) (fl:=[]) (CQ aC) Au (.inl Au) Au (by decide+kernel) ?_  -- 12
 refine Bc (Sl aS G aT) (fun _ _ _ hi M=>AD (v:=Sl aS G aT) (M 10 Au)<|Gz hi)<|Bc (Iv I) (fun _ _ _ hi M=>AD (v:=Iv I) (M 11 Au)<|Gz hi) ?_
 obtain⟨bE,J⟩:=AE J
 obtain⟨cW,rfl,rfl⟩:=N.at_ (by omega)
 refine BN (Value.pointer (some ⟨cW,I.toNat*1,none⟩)) (fun dB d8 g aH hi M=>?_) ?_
 obtain⟨-,aW,-⟩:=aH
 replace N:=N.step aW
 refine Ay<|BA Bl B6 (M 39 Au) (M 40 Au) N bE ?_
 rintro _ ⟨⟩ -
 exact Gz hi
 refine Bd (VD _ _ (vI .i64) (gt G I)) (VD.stab _ _) (fun dC d9 g aH hi M=>?_) ?_
 obtain⟨-,aW,-⟩:=aH
 replace N:=N.step aW
 have cX:=(AA.nx hi).1
 refine Ay<|F0 (m:=I) (i:=0) B6 Au cX Au (M 41 Au) N bE ?_
 intro eA cY
 obtain⟨rfl,Rd⟩:=BK cY
 exact Bs.same hi (show Vr.vd (vI .i64) _ _ _ _ from⟨Au,Rd⟩)
 refine Bc (Pt b1 1) (fun _ _ _ hi M=>AQ 1 B4 Au Db (M 2 Au) Au<|Gz hi)<|Bc (Sl Ab p.capacity Cb) (fun _ _ _ hi M=>AP 2 Db (AA.nx hi).1 (M 43 Au) Au Au<|Gz hi)<|Bc (Iv A) (fun _ _ _ hi M=>AD (v:=Iv A) (M 9 Au)<|Gz hi) ?_
 obtain⟨aX,J⟩:=AE J
 have b5:=(bM.trans aF)
 replace Fb:=Fb.step b5
 refine Bd (VP _ _ (BG (AL .i64)) (gt p.capacity A)) (VP.stab _ _) (fun cZ dD g aH hi M=>?_) ?_
 obtain⟨-,aW,-⟩:=aH
 replace Fb:=Fb.step aW
 refine Ay<|AB (q:=BG (AL .i64)) Db Bl (M 44 Au) (M 45 Au) Fb Au aX.1 aX.2 ?_
 intro dE b6
 exact Bs.same hi ⟨_,Au,b6⟩
 refine Bd (VD _ _ (vC (BG (AL .i64))) (gt p.capacity A)) (VD.stab _ _) (fun c0 dF g aH hi M=>?_) ?_
 obtain⟨dG,b7,b8⟩:=M 46 Au
 refine Ay<|AR Bl b7 b8 Au ?_
 intro dH b9
 obtain⟨Ah,Ch,rfl,Fh⟩:=B9 b9
 exact Bs.same hi (show Vr.vd (vC (BG (AL .i64))) _ _ _ _ from(Jy (B8 Fh)))
 refine Bc (Iv I) (fun _ _ _ hi M=>AD (v:=Iv I) (M 11 Au)<|Gz hi) ?_
 obtain⟨aY,J⟩:=AE J
 refine Bd (VP _ _ (AL .i64) (gt (gt p.capacity A) I)) (VP.stab _ _) (fun c1 dI g aH hi M=>?_) ?_
 have cA:Vr.vd (vC (BG (AL .i64))) _ _ _ _:=M 47 Au
 obtain⟨Ai,Ci,cB,Fi⟩:=B9 cA
 refine Ay<|AB (q:=(AL .i64)) Bl B6 cB (M 48 Au) Fi Au aY.1 aY.2 ?_
 intro dJ cC
 exact Bs.same hi ⟨_,Au,cC⟩
 refine Bd (VD _ _ (vI .i64) (gt (gt p.capacity A) I)) (VD.stab _ _) (fun c2 dK g aH hi M=>?_) ?_
 obtain⟨dL,cD,cE⟩:=M 49 Au
 refine Ay<|AR B6 cD cE Au ?_
 intro dM cF
 obtain⟨rfl,Re⟩:=BK cF
 exact Bs.same hi (show Vr.vd (vI .i64) _ _ _ _ from⟨Au,Re⟩)
 refine BD fun dN dO bN bO=>?_
 obtain⟨-,bA,-⟩:=bN
 obtain⟨aG,aM⟩:=AA.nx bO
 rintro dP aZ
 replace aZ:Vr.vd (vI .i64) _ _ _ _:=aZ
 obtain⟨rfl,Rf⟩:=aZ
 rintro _ ⟨dQ,rfl,aN⟩ _ rfl dR a0
 replace a0:Vr.vd (vC (BG (AL .i64))) _ _ _ _:=a0
 obtain⟨Aj,Cj,rfl,Fj⟩:=B9 a0
 rintro _ ⟨dS,rfl,aO⟩ _ rfl _ rfl _ rfl dT a1
 replace a1:Vr.vd (vI .i64) _ _ _ _:=a1
 obtain⟨rfl,Rg⟩:=a1
 rintro _ rfl _ rfl _ rfl
 have a2:=aC.to aG (bA.trans aM)
 replace aN:=aN.step aM;replace Fj:=Fj.step aM;replace aO:=aO.step aM;clear aC
 refine A9<|EB Au Au<|Ax<|AF J Au (fun bP J=>?_) (fun bP J=>?_)
 clear aN Fj aO
 refine Av<|Bb (Sl Ag aB Cg) Au<|Bb (Iv A) Au<|Bb (Iv I) Au<|A9<|DM (vs:=[Iv A,Iv I]) (parts:=[(0,.tmp 53),(1,.tmp 54)]) C5 US Au<|A9<|Bm (cs:=[Iv A,Iv I]) (parts:=[(0,.tmp 55)]) Eo C5 aG (by decide) Au ?_
 intro dU dV c3 cG aJ
 clear aG
 obtain⟨a3,J⟩:=AE J
 have bF:=(a2.trans cG)
 replace Fg:=Fg.step bF
 refine A9 (FF (q:=AO) (i:=2) (xs:=aB) (ys:=[(⟨A,I⟩:Az)]) (news:=[Iv A,Iv I]) Eo C5 Au (by decide) aJ Au Au Fg Au (Oj.owned' (len:=2) (aJ.get (i:=0) Au) Au) (show E0 AO _ _ [Iv A,Iv I] [(⟨A,I⟩:Az)] from⟨_,_,Au,C2 (AW (AU Rb) (AU Rc)),E0.nil⟩) a3 (by have:=a3;simp only [maxLen,gt];omega) ?_)
 intro bG bH cH cI dW cJ aK a4
 clear aJ
 have bQ:=aK.drop 0
 have bI:=(aK.dropS 0)
 clear aK
 refine Bn (Sl bG (aB++[(⟨A,I⟩:Az)]) bH) Au<|Ax<|Av<|Bb (Iv I) Au<|A9<|Bg Au Au<|Bn (Iv (wq (I+1))) Au<|Ax ?_
 have cK:=(bF.trans (cJ.trans bI))
 replace aD:=aD.trans cK;replace a4:=a4.step bI
 exact bD _ _ ⟨aB++[(⟨A,I⟩:Az)],(wq (I+1)),bG,bH,cH,cI,_,Au,BB.of ⟨Au,Au,trivial⟩,aD,bQ,a4,(AT .i64 _),GV aV J⟩
 refine AG ?_
 clear aN Fj aO
 refine Av<|Bb (Iv I) Au<|A9<|Bg Au Au<|Bn (Iv (wq (I+1))) Au<|Ax ?_
 replace aD:=aD.trans a2;replace Fg:=Fg.step a2
 exact bD _ _ ⟨aB,(wq (I+1)),Ag,Cg,Y,Z,_,Au,BB.of ⟨Au,Au,trivial⟩,aD,aG,Fg,(AT .i64 _),GV aV J⟩
 refine Bq ?_
 clear N
 refine Av<|Bb (Iv A) Au<|A9<|Bg Au Au<|Bn (Iv (wq (A+1))) Au<|Ax ?_
 have bR:=aC.drop 0
 have bJ:=(aC.dropS 0)
 clear aC
 have cL:=(bM.trans (aF.trans bJ))
 replace aR:=aR.trans cL;replace Fg:=Fg.step bJ
 exact bX _ _ ⟨aB,(wq (A+1)),Ag,Cg,Y,Z,_,Au,BB.of ⟨Au,Au,trivial⟩,aR,bR,Fg,(AT .i64 _),GV bK J⟩
 refine Bq<|Aw ?_
 obtain⟨a5,cM⟩:=X.sub (bs':=[(U,W)]) (.cons_cons _ (.cons _ List.Sublist.slnil))
 clear Fa Fb Fc Fd
 clear X
 refine Av<|Bb (Sl Af aA Cf) Au<|Bn (Sl Af aA Cf) Au<|Bn (Iv 0) Au<|Ax<|AV ?_
 replace Ff:=Ff.step cM
 obtain⟨a6,dX,a7⟩:=Gs.publish (i:=0) a5 Au Ff
 clear a5
 have hz:=G5 a6
 refine⟨_,DX,[Sl Af aA Cf,Iv 0],⟨Au,Au,trivial⟩,a6.ext,?_⟩
 replace a7:=a7.step hz
 exact Vr.eq (a:=Ns (vC (BG AO)) (vI .i64)) (x:=(aA,0)) (Ly (Jy (B8 a7)) ⟨Au,E1⟩) (oi J)

abbrev Ye:List Nat:=[4,5,6,7,14,15,16,17,18,19,20,21,22,23,24,25,26,27,28,29,30,31,32,33,34,35,36,37,38,39]

def Dk (p:A8) (choices:List Int) (G:(List Int)→Int→Option ((List Int) × Bool)) (F:List Int) (A:Int):Option ((List Int) × Bool):=
 bif (decide (0≤A)) then
  ck ((0:Int)≤A∧A<(F.length:Int))<|
  ck ((0:Int)≤A∧A<(F.length:Int))<|
  ck ((0:Int)≤A∧A<((F.set A.toNat (IntKind.wrap .i64 ((F.getD A.toNat default)+1))).length:Int))<|
  ck ((0:Int)≤A∧A<(p.variables.length:Int))<|
  bif (decide (((F.set A.toNat (IntKind.wrap .i64 ((F.getD A.toNat default)+1))).getD A.toNat default)<(((p.variables.getD A.toNat default).choices).length:Int))) then
   some (F.set A.toNat (IntKind.wrap .i64 ((F.getD A.toNat default)+1)),true)
  else
   ck ((0:Int)≤A∧A<((F.set A.toNat (IntKind.wrap .i64 ((F.getD A.toNat default)+1))).length:Int))<|
   G ((F.set A.toNat (IntKind.wrap .i64 ((F.getD A.toNat default)+1))).set A.toNat 0) (IntKind.wrap .i64 (A - 1))
 else
  some (F,false)

def Di (p:A8) (choices:List Int):Option ((List Int) × Bool):=
 ck ((([]:List Int).length+choices.length)*8≤140737488355328)<|
 BC (Dk p choices) 1000000 (([]:List Int)++choices) (IntKind.wrap .i64 (((([]:List Int)++choices).length:Int) - 1))

theorem J8 {w:World} {O:List Nat} {p:A8} {choices:List Int} {Aa:Option Addr} {Ca:Nat} {Ab:Option Addr} {Cb:Nat} {Ac:Option Addr} {Cc:Nat} {Ad:Option Addr} {Cd:Nat} (hO:∀k∈O,k<w.heap.size) (Fa:CA Bx w O Aa Ca p.cells) (Fb:CA (BG (AL .i64)) w O Ab Cb p.capacity) (Fc:CA AS w O Ac Cc p.variables) (Fd:CA (AL .i64) w O Ad Cd choices) {x:(List Int) × Bool} (G:Di p choices=some x):
 Ok Try.prog 58 [Value.agg (BS p Aa Ca Ab Cb Ac Cc).toArray,Sl Ad choices Cd] w O (Ns (vC (BG (AL .i64))) vB) x:=by
 unfold Di at G
 refine Br (n:=41) (xs:=[.tmp 4,.tmp 5]) Try.func58 Au Try.ntmps58 Try.results58 Au ?_
 have hs:=St.start hO
 refine Aw<|Av<|A9<|BT (cs:=(BS p Aa Ca Ab Cb Ac Cc)) hs Au Au ?_
 intro b1 w2 _ p3 a7
 refine Bn (Value.slice none 0 0) Au<|Bn (Bo false) Au<|Ax<|Aw<|Av<|A9<|Bm (cs:=[]) (parts:=[]) Bl B6 a7 (by decide) Au ?_
 intro b6 w7 b5 p8 a8
 clear a7
 refine Bb (Sl Ad choices Cd) Au ?_
 have bO:=Gs.of_cells (p:=(AL .i64)) (e:=3) (bl:=b6) (c:=0) (w:=w7) (O:=ks [(some b6,Oc [] 3),(some b1,Oc (BS p Aa Ca Ab Cb Ac Cc) 26)] O) (show E0 (AL .i64) _ _ [] [] from E0.nil) Au (BQ Au)
 obtain⟨aV,G⟩:=AE G
 have a9:=(p3.trans p8)
 replace Fd:=Fd.step a9
 obtain⟨bA,bB,bC⟩:=Fd.src
 refine A9 (FF (q:=(AL .i64)) (i:=0) (xs:=([]:List Int)) (ys:=choices) (news:=bA) Bl B6 Au (by decide) a8 Au Au bO Au bC bB aV (by have:=aV;simp only [maxLen,gt];omega) ?_)
 intro aR aS bP bQ cV bR aW a1
 clear a8
 refine Bn (Sl aR (([]:List Int)++choices) aS) Au<|Ax<|Aw<|Aw ?_
 clear Fd
 refine Av<|Bb (Sl aR (([]:List Int)++choices) aS) Au<|A9<|AZ Try.underlying31 Au ?_
 have b7:=HK a1
 refine A9<|FN Au Au<|Bn (Iv (wq (((([]:List Int)++choices).length:Int) - 1))) Au<|Ax<|AC<|Wr [] [(2,Pt b1 0),(6,Sl aR (([]:List Int)++choices) aS),(7,Iv (wq (((([]:List Int)++choices).length:Int) - 1)))] fun b8=>Bf Ye (fun m fr w'=>∃(F:List Int) (A:Int) (Ae:Option Addr) (Ce:Nat) (N:Option Nat) (U:Obj) (aT:Be),aT=[(N,U),(some b1,Oc (BS p Aa Ca Ab Cb Ac Cc) 26)]∧fr [] [(6,Sl Ae F Ce),(7,Iv A)]∧aW.S (ks aT O) w'∧St ⟨w,[],[]⟩ O w' aT∧Gs (AL .i64) 3 w' (ks aT O) Ae Ce F N U∧Cx .i64 A∧BC (Dk p choices) m F A=some x) 1000000 ⟨([]:List Int)++choices,(wq (((([]:List Int)++choices).length:Int) - 1)),aR,aS,bP,bQ,_,Au,BB.of ⟨Au,Au,trivial⟩,AA.refl _ _,aW,a1,(AT .i64 _),G⟩ ?_ ?_
 rintro _ _ ⟨_,_,_,_,_,_,_,_,_,_,_,_,_,G⟩;exact DI G
 rintro cW cX bD b9 cY ⟨F,A,Ae,Ce,N,U,_,rfl,aC,aD,Y,Fe,Ra,G⟩
 obtain⟨cA,a2,G⟩:=DJ G;unfold Dk at G
 rw [aC.eq];clear aC
 have aE:=aD
 refine Aw<|Aw ?_
 clear a1
 refine Av<|Bb (Iv A) Au<|A9<|HH Au Au<|Ax<|AF G Au (fun bE G=>?_) (fun bE G=>?_)
 refine AG<|Aw<|AC<|Aw<|Av<|Bb (Sl Ae F Ce) Au<|Bb (Iv A) Au ?_
 obtain⟨aX,G⟩:=AE G
 refine A9<|BA Bl B6 Au Au Fe aX ?_
 rintro W rfl rfl
 refine A9<|F0 (m:=A) (i:=0) B6 Au Y Au Au Fe aX ?_
 intro cZ bS
 obtain⟨rfl,Rb⟩:=BK bS
 refine A9<|Bg Au Au ?_
 obtain⟨aY,G⟩:=AE G
 refine A9<|BA Bl B6 Au Au Fe aY ?_
 rintro _ ⟨⟩ -
 refine Bh<|FH (vs:=[Iv (wq ((gt F A)+1))]) (i:=0) (m:=A) B6 Au Y Au Au Au Au Fe aY (AU (AT .i64 _)) ?_
 intro c0 c1 bF aF I
 clear Y
 refine Ax<|Aw<|Aw<|B7 (g0:=[]) (m:=11) (fl:=[]) (CQ aF) Au (.inl Au) Au (by decide+kernel) ?_  -- 6
 refine BN (Sl (some ⟨W,0,none⟩) (F.set A.toNat (wq ((gt F A)+1))) Ce) (fun cB c2 g X hi J=>?_) ?_
 refine Ay (AD (v:=Sl (some ⟨W,0,none⟩) (F.set A.toNat (wq ((gt F A)+1))) Ce) (Ib (J 6 Au) (show F.length=(F.set A.toNat (wq ((gt F A)+1))).length from by first |(simp;done) |(simp;omega))) ?_)
 exact Gz hi
 refine Bc (Iv A) (fun _ _ _ hi J=>AD (v:=Iv A) (J 7 Au)<|Gz hi) ?_
 obtain⟨aZ,G⟩:=AE G
 refine BN (Value.pointer (some ⟨W,A.toNat*1,none⟩)) (fun cC c3 g X hi J=>?_) ?_
 obtain⟨-,aG,-⟩:=X
 replace I:=I.step aG
 refine Ay<|BA Bl B6 (J 24 Au) (J 25 Au) I aZ ?_
 rintro _ ⟨⟩ -
 exact Gz hi
 refine Bd (VD _ _ (vI .i64) (gt (F.set A.toNat (wq ((gt F A)+1))) A)) (VD.stab _ _) (fun cD c4 g X hi J=>?_) ?_
 obtain⟨-,aG,-⟩:=X
 replace I:=I.step aG
 have bT:=(AA.nx hi).1
 refine Ay<|F0 (m:=A) (i:=0) B6 Au bT Au (J 26 Au) I aZ ?_
 intro c5 bU
 obtain⟨rfl,Rc⟩:=BK bU
 exact Bs.same hi (show Vr.vd (vI .i64) _ _ _ _ from⟨Au,Rc⟩)
 refine Bc (Pt b1 2) (fun _ _ _ hi J=>AQ 2 B4 Au Cz (J 2 Au) Au<|Gz hi)<|Bc (Sl Ac p.variables Cc) (fun _ _ _ hi J=>AP 1 Cz (AA.nx hi).1 (J 28 Au) Au Au<|Gz hi)<|Bc (Iv A) (fun _ _ _ hi J=>AD (v:=Iv A) (J 7 Au)<|Gz hi) ?_
 obtain⟨a0,G⟩:=AE G
 have bV:=(a9.trans (bR.trans (aD.trans bF)))
 replace Fc:=Fc.step bV
 refine Bd (VP _ _ AS (gt p.variables A)) (VP.stab _ _) (fun cE c6 g X hi J=>?_) ?_
 obtain⟨-,aG,-⟩:=X
 replace Fc:=Fc.step aG
 refine Ay<|AB (q:=AS) Cz Dq (J 29 Au) (J 30 Au) Fc Au a0.1 a0.2 ?_
 intro c7 bW
 exact Bs.same hi ⟨_,Au,bW⟩
 refine Bd (VP _ _ (BG Bt) ((gt p.variables A).choices)) (VP.stab _ _) (fun cF c8 g X hi J=>?_) ?_
 obtain⟨c9,bX,bY⟩:=J 31 Au
 refine Ay<|B5 Dq Au FJ (by decide) bX Au ?_
 have bZ:=bY.via.snd.snd.snd
 exact Bs.same hi ⟨_,Au,bZ⟩
 refine Bd (VD _ _ (vC (BG Bt)) ((gt p.variables A).choices)) (VD.stab _ _) (fun cG dA g X hi J=>?_) ?_
 obtain⟨dB,b0,b2⟩:=J 32 Au
 refine Ay<|AR FJ b0 b2 Au ?_
 intro dC bG
 obtain⟨Af,Cf,rfl,Ff⟩:=B9 bG
 exact Bs.same hi (show Vr.vd (vC (BG Bt)) _ _ _ _ from(Jy (B8 Ff)))
 refine Bd (VD _ _ (vI .i64) (((gt p.variables A).choices).length:Int)) (VD.stab _ _) (fun b3 cH g X hi J=>?_) ?_
 have bH:Vr.vd (vC (BG Bt)) _ _ _ _:=J 33 Au
 obtain⟨Ag,Cg,bI,Fg⟩:=B9 bH
 exact Ay<|AZ Try.underlying59 bI<|Bs.same hi (show Vr.vd (vI .i64) _ _ _ _ from⟨Au,AX Fg⟩)
 refine BD fun cI cJ a3 a4=>?_
 obtain⟨-,aU,-⟩:=a3
 obtain⟨M,Z⟩:=AA.nx a4
 rintro cK aH
 replace aH:Vr.vd (vI .i64) _ _ _ _:=aH
 obtain⟨rfl,Rd⟩:=aH
 rintro cL aI
 replace aI:Vr.vd (vC (BG Bt)) _ _ _ _:=aI
 obtain⟨Ah,Ch,rfl,Fh⟩:=B9 aI
 rintro _ ⟨cM,rfl,aA⟩ _ ⟨cN,rfl,aB⟩ _ rfl _ rfl _ rfl cO aJ
 replace aJ:Vr.vd (vI .i64) _ _ _ _:=aJ
 obtain⟨rfl,Re⟩:=aJ
 rintro _ rfl _ rfl _ rfl
 have aK:=aF.to M (aU.trans Z)
 replace Fh:=Fh.step Z;replace aA:=aA.step Z;replace aB:=aB.step Z;clear aF
 refine A9<|By Au Au<|Ax<|AF G Au (fun a5 G=>?_) (fun a5 G=>?_)
 refine Aw ?_
 clear Fh aA aB
 refine Av ?_
 refine A9 (AD (v:=Sl (some ⟨W,0,none⟩) (F.set A.toNat (wq ((gt F A)+1))) Ce) (Ib Au (show F.length=(F.set A.toNat (wq ((gt F A)+1))).length from by first |(simp;done) |(simp;omega))) ?_)
 refine Bn (Sl (some ⟨W,0,none⟩) (F.set A.toNat (wq ((gt F A)+1))) Ce) Au<|Bn (Bo true) Au<|Ax<|AV ?_
 replace I:=I.step aK
 obtain⟨aL,cP,aM⟩:=Gs.publish (i:=0) M Au I
 clear M
 have hz:=G5 aL
 refine⟨_,DX,[Sl (some ⟨W,0,none⟩) (F.set A.toNat (wq ((gt F A)+1))) Ce,Bo true],⟨Au,Au,trivial⟩,aL.ext,?_⟩
 replace aM:=aM.step hz
 exact Vr.eq (a:=Ns (vC (BG (AL .i64))) vB) (x:=(F.set A.toNat (wq ((gt F A)+1)),true)) (Ly (Jy (B8 aM)) Au) (oi G)
 refine AG ?_
 clear Fh aA aB
 refine Av ?_
 refine A9 (AD (v:=Sl (some ⟨W,0,none⟩) (F.set A.toNat (wq ((gt F A)+1))) Ce) (Ib Au (show F.length=(F.set A.toNat (wq ((gt F A)+1))).length from by first |(simp;done) |(simp;omega))) ?_)
 refine Bb (Iv A) Au ?_
 obtain⟨aN,G⟩:=AE G
 replace I:=I.step aK
 refine A9<|BA Bl B6 Au Au I aN ?_
 rintro _ ⟨⟩ -
 refine Bh<|FH (vs:=[Iv 0]) (i:=0) (m:=A) B6 Au M Au Au Au Au I aN (AU E1) ?_
 intro cQ bJ bK a6 bL
 clear M
 refine Ax<|Av<|Bb (Iv A) Au<|A9<|FN Au Au<|Bn (Iv (wq (A - 1))) Au<|Ax ?_
 replace aE:=aE.trans (bF.trans (aK.trans bK))
 exact bD _ _ ⟨(F.set A.toNat (wq ((gt F A)+1))).set A.toNat 0,(wq (A - 1)),some ⟨W,0,none⟩,Ce,some W,bJ,_,Au,BB.of ⟨M4 (show F.length=((F.set A.toNat (wq ((gt F A)+1))).set A.toNat 0).length from by first |(simp;done) |(simp;omega)),Au,trivial⟩,aE,a6,bL,(AT .i64 _),GV a2 G⟩
 refine Bq<|Aw ?_
 obtain⟨aO,bM⟩:=Y.sub (bs':=[(N,U)]) (.cons_cons _ (.cons _ List.Sublist.slnil))
 clear Fa Fb Fc
 clear Y
 refine Av<|Bb (Sl Ae F Ce) Au<|Bn (Sl Ae F Ce) Au<|Bn (Bo false) Au<|Ax<|AV ?_
 replace Fe:=Fe.step bM
 obtain⟨aP,cR,aQ⟩:=Gs.publish (i:=0) aO Au Fe
 clear aO
 have hz:=G5 aP
 refine⟨_,DX,[Sl Ae F Ce,Bo false],⟨Au,Au,trivial⟩,aP.ext,?_⟩
 replace aQ:=aQ.step hz
 exact Vr.eq (a:=Ns (vC (BG (AL .i64))) vB) (x:=(F,false)) (Ly (Jy (B8 aQ)) Au) (oi G)

def En (a:Az) (b:Az):Option Bool:=
 bif (decide (a.leaf<b.leaf)) then
  some true
 else
  bif (decide (a.leaf=b.leaf)) then
   some (decide (a.cell<b.cell))
  else
   some false

theorem Jc {w:World} {O:List Nat} {a:Az} {b:Az} (hO:∀k∈O,k<w.heap.size) (Ra:Cx .i64 a.leaf) (Rb:Cx .i64 a.cell) (Rc:Cx .i64 b.leaf) (Rd:Cx .i64 b.cell) {x:Bool} (F:En a b=some x):
 Ok Try.prog 63 [Value.agg [Iv a.leaf,Iv a.cell].toArray,Value.agg [Iv b.leaf,Iv b.cell].toArray] w O vB x:=by
 unfold En at F
 refine Br (n:=24) (xs:=[.tmp 4]) Try.func63 Au Try.ntmps63 Try.results63 Au ?_
 have hs:=St.start hO
 refine Aw<|Av<|A9<|BT (cs:=[Iv a.leaf,Iv a.cell]) hs Au Au ?_
 intro M N _ U G
 refine A9<|BT (cs:=[Iv b.leaf,Iv b.cell]) G Au Au ?_
 intro W X _ Y A
 clear G
 refine Bn (Bo false) Au<|Ax<|Aw<|Av<|A9<|AQ 0 C5 Au B6 Au Au<|A9<|AP 1 B6 A Au Au Au<|A9<|AQ 0 C5 Au B6 Au Au<|A9<|AP 0 B6 A Au Au Au<|A9<|By Au Au<|Bb (Bo (decide (a.leaf<b.leaf))) Au<|Bz F (fun I F=>?_) (fun I F=>?_)
 iterate 12 refine AI Au (AJ Au Au) Au ?_
 refine FM (Bo true) Au Au<|Bn (Bo true) Au<|Ax<|AV<|⟨_,DX,[Bo true],⟨Au,trivial⟩,A.ext,?_⟩
 exact Vr.eq (a:=vB) (x:=true) Au (oi F)
 refine BO Au Au<|AQ 0 C5 Au B6 Au Au<|BO Au Au<|AP 1 B6 A Au Au Au<|BO Au Au<|AQ 0 C5 Au B6 Au Au<|BO Au Au<|AP 0 B6 A Au Au Au<|BO Au Au<|HI Au Au<|BO Au Au<|AD (v:=Bo (decide (a.leaf=b.leaf))) Au<|Bz F (fun J F=>?_) (fun J F=>?_)
 refine BO Au Au<|AQ 1 C5 Au B6 Au Au<|BO Au Au<|AP 1 B6 A Au Au Au<|BO Au Au<|AQ 1 C5 Au B6 Au Au<|BO Au Au<|AP 0 B6 A Au Au Au<|BO Au Au<|By Au Au<|BO Au Au<|DR (v:=Bo (decide (a.cell<b.cell))) Au Au<|F8 (Bo (decide (a.cell<b.cell))) Au Au<|Bn (Bo (decide (a.cell<b.cell))) Au<|Ax<|AV<|⟨_,DX,[Bo (decide (a.cell<b.cell))],⟨Au,trivial⟩,A.ext,?_⟩
 exact Vr.eq (a:=vB) (x:=decide (a.cell<b.cell)) Au (oi F)
 iterate 5 refine AI Au (AJ Au Au) Au ?_
 refine BO Au Au<|FE (v:=Bo false) Au Au<|F8 (Bo false) Au Au<|Bn (Bo false) Au<|Ax<|AV<|⟨_,DX,[Bo false],⟨Au,trivial⟩,A.ext,?_⟩
 exact Vr.eq (a:=vB) (x:=false) Au (oi F)

end Go.Fx
