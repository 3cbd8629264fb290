/- Part 5 of the proof: for every problem there is a smallest reason exactly if every solution has an overload. -/
import Derived.Test.YtijekcoafilmeaaTr4
set_option linter.unusedVariables false
set_option linter.unusedSimpArgs false
set_option maxRecDepth 100000
set_option maxHeartbeats 0
namespace Go.Fx
open Go Go.RowKit Go.Proofs
abbrev Yf:List Nat:=[27,28,29,30,31,32,33,34,35,36,37,38,39,40,41]

abbrev Yg:List Nat:=[44,45,46,47,48,49,50,51,52,53,54,55,56,57,58]

abbrev Qx:List Nat:=[9,27,28,29,30,31,32,33,34,35,36,37,38,39,40,41,42,43]

abbrev Qy:List Nat:=[3,9,27,28,29,30,31,32,33,34,35,36,37,38,39,40,41,42,43,44,45,46,47,48,49,50,51,52,53,54,55,56,57,58,59,60,61,62,63,64,65,66,67,68,69,70,71,72,73]

abbrev OW:List Nat:=[3,8,9,21,22,23,24,25,26,27,28,29,30,31,32,33,34,35,36,37,38,39,40,41,42,43,44,45,46,47,48,49,50,51,52,53,54,55,56,57,58,59,60,61,62,63,64,65,66,67,68,69,70,71,72,73]

abbrev NQ:List Nat:=[3,4,5,6,7,8,9,14,15,16,17,18,19,20,21,22,23,24,25,26,27,28,29,30,31,32,33,34,35,36,37,38,39,40,41,42,43,44,45,46,47,48,49,50,51,52,53,54,55,56,57,58,59,60,61,62,63,64,65,66,67,68,69,70,71,72,73,74,75,76,77,78,79]

def CN (A:(List Az) × Int) (J:List Az) (M:Int) (U:Int→Option (List Az)) (N:Int→Option (List Az)) (F:Int):Option (List Az):=
 jn (fun(W:Bool)=>
  bif W then
   N (IntKind.wrap .i64 (F+1))
  else
   U F)
 (fun I=>
  bif (decide (F<(J.length:Int))) then
   ck ((0:Int)≤F∧F<(J.length:Int))<|
   ck ((0:Int)≤M∧M<(A.1.length:Int))<|
   (En (J.getD F.toNat default) (A.1.getD M.toNat default)).bind fun G=>
   I G
  else
   I false)

def BM (p:A8) (J:List Int) (N:(List Az)→(List Int)→Bool→Option (List Az)) (A:(List Az) × Int) (U:(List Az)→Int→Option (List Az)) (G:List Az) (I:Int):Option (List Az):=
 bif (decide (I<(A.1.length:Int))) then
  jn (fun(Y:List Az)=>
   U Y (IntKind.wrap .i64 (I+1)))
  (fun W=>
   jn (fun(F:Int)=>
    jn (fun(Z:Bool)=>
     bif Z then
      ck ((0:Int)≤F∧F≤(G.length:Int))<|
      ck ((([]:List Az).length+((G.drop 0).take (F.toNat - 0)).length)*16≤140737488355328)<|
      ck ((0:Int)≤I∧I<(A.1.length:Int))<|
      ck (((([]:List Az)++((G.drop 0).take (F.toNat - 0))).length+[A.1.getD I.toNat default].length)*16≤140737488355328)<|
      ck ((0:Int)≤F∧F≤(G.length:Int))<|
      ck ((((([]:List Az)++((G.drop 0).take (F.toNat - 0)))++[A.1.getD I.toNat default]).length+((G.drop F.toNat).take (G.length - F.toNat)).length)*16≤140737488355328)<|
      W (((([]:List Az)++((G.drop 0).take (F.toNat - 0)))++[A.1.getD I.toNat default])++((G.drop F.toNat).take (G.length - F.toNat)))
     else
      W G)
    (fun X=>
     bif (decide (F=(G.length:Int))) then
      X true
     else
      ck ((0:Int)≤F∧F<(G.length:Int))<|
      ck ((0:Int)≤I∧I<(A.1.length:Int))<|
      X (!(decide ((G.getD F.toNat default)=(A.1.getD I.toNat default))))))
   (fun aA=>
    B0 (CN A G I aA) 1000000 0))
 else
  (Di p J).bind fun M=>
  N G M.1 M.2

def Cw (p:A8) (I:(List Az)→(List Int)→Bool→Option (List Az)) (J:List Az) (F:List Int) (G:Bool):Option (List Az):=
 bif G then
  (DC p F).bind fun A=>
  BC (BM p F I A) (((A.1.length:Int) - 0).toNat+1) J 0
 else
  some J

def DP (p:A8):Option (List Az):=
 ck ((0:Int)≤(p.variables.length:Int)∧(p.variables.length:Int)≤(p.variables.length:Int)∧(8:Int)*(p.variables.length:Int)≤281474976710656∧(p.variables.length:Int)≤281474976710656)<|
 Is (Cw p) 1000000 ([]:List Az) (List.replicate p.variables.length (0:Int)) true

theorem ID {w:World} {O:List Nat} {p:A8} {Aa:Option Addr} {Ca:Nat} {Ab:Option Addr} {Cb:Nat} {Ac:Option Addr} {Cc:Nat} (hO:∀k∈O,k<w.heap.size) (Fa:CA Bx w O Aa Ca p.cells) (Fb:CA (BG (AL .i64)) w O Ab Cb p.capacity) (Fc:CA AS w O Ac Cc p.variables) {x:(List Az)} (J:DP p=some x):
 Px Try.prog 32 [Value.agg (BS p Aa Ca Ab Cb Ac Cc).toArray] w O AO 45 x:=by
 unfold DP at J
 refine Br (n:=81) (xs:=[.tmp 2]) Try.func32 Au Try.ntmps32 Try.results32 Au ?_
 have hs:=St.start hO
 refine Aw<|Av<|A9<|BT (cs:=(BS p Aa Ca Ab Cb Ac Cc)) hs Au Au ?_
 intro b1 w2 _ p3 c1
 refine Bn (Value.slice none 0 0) Au<|Ax<|Aw<|Av<|Bn (Value.slice none 0 0) Au<|Ax<|Aw<|Av<|A9<|AQ 2 B4 Au Cz Au Au<|A9<|AP 0 Cz c1 Au Au Au<|A9<|AZ Try.underlying24 Au ?_
 replace Fc:=Fc.step p3
 have jI:=AX Fc
 obtain⟨f2,J⟩:=AE J
 refine A9<|GC (q:=(AL .i64)) (v:=Iv 0) (x0:=(0:Int)) Bl B6 c1 Au Au f2 Au (fun _ _=>(AU E1)) ?_
 intro b8 w9 g9 d4 cK f3
 clear c1
 refine Bn (Sl (some ⟨b8,0,none⟩) (List.replicate p.variables.length (0:Int)) p.variables.length) Au<|Ax<|Aw<|Av<|Bn (Bo true) Au<|Ax<|Aw<|AC<|Wr [] [(1,Pt b1 0),(3,Value.slice none 0 0),(4,Sl (some ⟨b8,0,none⟩) (List.replicate p.variables.length (0:Int)) p.variables.length),(5,Bo true)] fun aN=>?_
 obtain⟨d5,d6,d7⟩:=Gs.publish (i:=0) cK Au f3
 clear cK
 have cL:=d5.ghost (Obj.cells #[] 45)
 refine Bf NQ (fun m fr w'=>∃(aD:List Az) (G:List Int) (aH:Bool) (Ad:Option Addr) (Cd:Nat) (aJ:Option Nat) (aK:Obj) (Ae:Option Addr) (Ce:Nat) (U:Be),U=[(aJ,aK),(some b1,Oc (BS p Aa Ca Ab Cb Ac Cc) 26)]∧fr [] [(3,Sl Ad aD Cd),(4,Sl Ae G Ce),(5,Bo aH)]∧cL.S (ks U O) w'∧St ⟨w,[],[]⟩ O w' U∧Gs AO 45 w' (ks U O) Ad Cd aD aJ aK∧CA (AL .i64) w' (ks U O) Ae Ce G∧Is (Cw p) m aD G aH=some x) 1000000 ⟨([]:List Az),List.replicate p.variables.length (0:Int),true,none,0,none,Obj.cells #[] 45,some ⟨b8,0,none⟩,p.variables.length,_,Au,BB.of ⟨Au,Au,Au,trivial⟩,AA.refl _ _,cL,Gs.nil_,d7,J⟩ ?_ ?_
 rintro _ _ ⟨_,_,_,_,_,_,_,_,_,_,_,_,_,_,_,_,J⟩;exact RZ J
 rintro jJ jK d8 hA jL ⟨aD,G,aH,Ad,Cd,aJ,aK,Ae,Ce,_,rfl,bE,a1,aO,Fd,Fe,J⟩
 obtain⟨d9,c2,J⟩:=Sa J;unfold Cw at J
 rw [bE.eq];clear bE
 have bF:=a1
 refine Aw<|Aw ?_
 clear d7
 refine Av<|Bb (Bo aH) Au<|Ax<|AF J Au (fun eA J=>?_) (fun eA J=>?_)
 refine AG<|AC<|Aw<|Av<|A9<|B1 1 B4 aO Au Au Au<|Bb (Sl Ae G Ce) Au ?_
 obtain⟨A,eB,J⟩:=bd J
 have eC:=(p3.trans (d4.trans (d6.trans a1)))
 replace Fb:=Fb.step eC;replace Fa:=Fa.step eC
 replace Fc:=Fc.step (d4.trans (d6.trans a1))
 refine A9<|Bi aO Try.call57 (I0 (p:=p) (choices:=G) aO.ltw Fa Fb Fc Fe eB) Au ?_
 rintro jM jN eD cM f4
 clear aO
 obtain⟨jO,jP,rfl,f5,f6⟩:=f4
 obtain⟨Af,Cf,rfl,Ff⟩:=B9 f5
 obtain⟨rfl,Ra⟩:=f6
 refine Bb (Value.tuple [Sl Af A.1 Cf,Iv A.2].toArray) Au<|A9<|Bk (v:=Sl Af A.1 Cf) Au Au<|A9<|Bk (v:=Iv A.2) Au Au<|Bn (Sl Af A.1 Cf) Au<|Bn (Iv A.2) Au<|Ax<|Aw<|Aw<|Av<|Bn (Iv 0) Au<|Ax<|AC<|Ic NQ [] (CO ⟨aN,[]⟩ [(1,Pt b1 0),(3,Value.slice none 0 0),(4,Sl (some ⟨b8,0,none⟩) (List.replicate p.variables.length (0:Int)) p.variables.length),(5,Bo true)]) [(3,Sl Ad aD Cd),(4,Sl Ae G Ce),(6,Sl Af A.1 Cf),(8,Iv 0)] fun aY=>?_
 replace Fd:=Fd.step eD
 refine Bf OW (fun m fr w'=>∃(F:List Az) (N:Int) (Ag:Option Addr) (Cg:Nat) (aA:Option Nat) (aB:Obj) (U:Be),U=[(aA,aB),(some b1,Oc (BS p Aa Ca Ab Cb Ac Cc) 26)]∧fr [] [(3,Sl Ag F Cg),(8,Iv N)]∧cM.S (ks U O) w'∧St ⟨w,[],[]⟩ O w' U∧Gs AO 45 w' (ks U O) Ag Cg F aA aB∧Cx .i64 N∧BC (BM p G d9 A) m F N=some x) (((A.1.length:Int) - 0).toNat+1) ⟨aD,0,Ad,Cd,aJ,aK,_,Au,BB.of ⟨Au,Au,trivial⟩,AA.refl _ _,cM,Fd,E1,J⟩ ?_ ?_
 rintro _ _ ⟨_,_,_,_,_,_,_,_,_,_,_,_,_,J⟩;exact DI J
 rintro jQ jR eE hB jS ⟨F,N,Ag,Cg,aA,aB,_,rfl,bG,a2,aE,Fg,Rb,J⟩
 obtain⟨hC,c3,J⟩:=DJ J;unfold BM at J
 rw [bG.eq];clear bG
 have bH:=a2
 refine Aw<|Aw ?_
 clear Fd
 refine Av<|Bb (Iv N) Au<|Bb (Sl Af A.1 Cf) Au<|A9<|AZ Try.underlying32 Au ?_
 replace Ff:=Ff.step a2
 have hD:=AX Ff
 refine A9<|By Au Au<|Ax<|AF J Au (fun eF J=>?_) (fun eF J=>?_)
 refine AG<|Ic OW [] (CO (JE NQ [] aY (CO ⟨aN,[]⟩ [(1,Pt b1 0),(3,Value.slice none 0 0),(4,Sl (some ⟨b8,0,none⟩) (List.replicate p.variables.length (0:Int)) p.variables.length),(5,Bo true)])) [(3,Sl Ad aD Cd),(4,Sl Ae G Ce),(6,Sl Af A.1 Cf),(8,Iv 0)]) [(3,Sl Ag F Cg),(8,Iv N)] fun bA=>?_
 obtain⟨f7,eG,J⟩:=Cy J
 refine CE Qy (fun fr w'=>∃(bI:List Az) (Ah:Option Addr) (Ch:Nat) (aS:Option Nat) (aT:Obj) (U:Be),U=[(aS,aT),(some b1,Oc (BS p Aa Ca Ab Cb Ac Cc) 26)]∧fr [] [(3,Sl Ah bI Ch)]∧aE.S (ks U O) w'∧St ⟨w,[],[]⟩ O w' U∧Gs AO 45 w' (ks U O) Ah Ch bI aS aT∧f7 bI=some x) ?_ ?_
 rintro hE jT ⟨bI,Ah,Ch,aS,aT,_,rfl,bJ,c4,eH,Fh,J⟩
 replace J:=Dc eG J
 rw [bJ.eq];clear bJ
 clear Fg
 refine Av<|Bb (Iv N) Au<|A9<|Bg Au Au<|Bn (Iv (wq (N+1))) Au<|Ax ?_
 replace bH:=bH.trans c4
 exact eE _ _ ⟨bI,(wq (N+1)),Ah,Ch,aS,aT,_,Au,BB.of ⟨Au,Au,trivial⟩,bH,eH,Fh,(AT .i64 _),GV c3 J⟩
 intro jU cN
 have aP:=aE.stepR
 refine AC<|Aw<|Av<|Bn (Iv 0) Au<|Ax<|Ic Qy [] (CO (JE OW [] bA (CO (JE NQ [] aY (CO ⟨aN,[]⟩ [(1,Pt b1 0),(3,Value.slice none 0 0),(4,Sl (some ⟨b8,0,none⟩) (List.replicate p.variables.length (0:Int)) p.variables.length),(5,Bo true)])) [(3,Sl Ad aD Cd),(4,Sl Ae G Ce),(6,Sl Af A.1 Cf),(8,Iv 0)])) [(3,Sl Ag F Cg),(8,Iv N)]) [(3,Sl Ag F Cg),(9,Iv 0)] fun cO=>?_
 obtain⟨eI,eJ,J⟩:=Cy J
 refine CE Qx (fun fr w'=>∃(I:Int) (U:Be),U=[(aA,aB),(some b1,Oc (BS p Aa Ca Ab Cb Ac Cc) 26)]∧fr [] [(9,Iv I)]∧aE.S (ks U O) w'∧St ⟨w,[],[]⟩ O w' U∧Cx .i64 I∧eI I=some x) ?_ ?_
 rintro hF jV ⟨I,_,rfl,bK,aU,aZ,Rc,J⟩
 replace J:=Dc eJ J
 rw [bK.eq];clear bK
 refine Ic Qy [] (CO (JE OW [] bA (CO (JE NQ [] aY (CO ⟨aN,[]⟩ [(1,Pt b1 0),(3,Value.slice none 0 0),(4,Sl (some ⟨b8,0,none⟩) (List.replicate p.variables.length (0:Int)) p.variables.length),(5,Bo true)])) [(3,Sl Ad aD Cd),(4,Sl Ae G Ce),(6,Sl Af A.1 Cf),(8,Iv 0)])) [(3,Sl Ag F Cg),(8,Iv N)]) [(3,Sl Ag F Cg),(9,Iv I)] fun hG=>?_
 obtain⟨f8,eK,J⟩:=Cy J
 refine CE Yg (fun fr w'=>∃(c5:Bool) (U:Be),U=[(aA,aB),(some b1,Oc (BS p Aa Ca Ab Cb Ac Cc) 26)]∧fr [] [(58,Bo c5)]∧aZ.S (ks U O) w'∧St ⟨w,[],[]⟩ O w' U∧f8 c5=some x) ?_ ?_
 rintro hH jW ⟨c5,_,rfl,bL,bM,bN,J⟩
 replace J:=Dc eK J
 rw [bL.eq];clear bL
 refine AF J Au (fun eL J=>?_) (fun eL J=>?_)
 have cP:=(aU.trans bM)
 replace Fg:=Fg.step cP
 obtain⟨a3,eM,aM⟩:=Gs.publish (i:=0) bN Au Fg
 clear bN
 refine B7 (g0:=([],[])) (m:=14) (fl:=[]) (R8 (eat:=(fun t:Nat=>if t=0 then 4 else if t=4 then 10 else 1000)) a3) Au (.inl Au) Au (by decide+kernel) ?_  -- 13
 refine Gk (XG O [(some b1,Oc (BS p Aa Ca Ab Cb Ac Cc) 26)] (fun t:Nat=>if t=0 then 4 else if t=4 then 10 else 1000) 0 AO 45 ([]:List Az)) (XG.stab _ _ _ _) (fun f9 hI g W hi hk M=>?_) ?_
 obtain⟨hi,Y⟩:=hi
 refine Ay (Bm (cs:=[]) (parts:=[]) Eo C5 hi (by decide) (by simp only [List.map];rfl) ?_)
 intro eN hJ gA eO c6
 exact GoesX.own (xs:=([]:List Az)) Y eO c6 (Gs.of_cells (p:=AO) (e:=45) (bl:=eN) (c:=0) (show E0 AO _ _ [] [] from E0.nil) Au (BQ Au)) Au
 refine BN (Sl Ag F Cg) (fun gB hK g W hi M=>?_) ?_
 obtain⟨hi,Y⟩:=hi
 exact Ay<|AD (v:=Sl Ag F Cg) (M 3 Au)<|GoesX.same hi Y Au
 refine BN (Iv I) (fun gC hL g W hi M=>?_) ?_
 obtain⟨hi,Y⟩:=hi
 exact Ay<|AD (v:=Iv I) (M 9 Au)<|GoesX.same hi Y Au
 obtain⟨gD,J⟩:=AE J
 refine Bd (XD _ _ (vC (BG AO)) ((F.drop 0).take (I.toNat - 0))) (XD.stab _ _) (fun gE hM g W hi M=>?_) ?_
 obtain⟨-,aC,-⟩:=W
 obtain⟨hi,Y⟩:=hi
 replace aM:=aM.step aC
 refine Ay (IT (q:=AO) (l:=0) (h:=I.toNat) (m:=Cg) Eo C5 (M 60 Au) aM Au Au (Pw (M 61 Au) (by omega)) Au (by decide) (by omega) (by omega) (by have h_:F.length≤Cg:=aM.le;omega) (by have h_:F.length≤Cg:=aM.le;omega) ?_)
 intro hN eP
 exact GoesX.same hi Y (show Vr.vd (vC (BG AO)) _ _ _ _ from(Jy (B8 eP)))
 obtain⟨bO,J⟩:=AE J
 refine Gk (XG O [(some b1,Oc (BS p Aa Ca Ab Cb Ac Cc) 26)] (fun t:Nat=>if t=0 then 4 else if t=4 then 10 else 1000) 4 AO 45 (([]:List Az)++((F.drop 0).take (I.toNat - 0)))) (XG.stab _ _ _ _) (fun gF hP g W hi hk M=>?_) ?_
 obtain⟨hi,Y⟩:=hi
 have eQ:Vr.vd (vC (BG AO)) _ _ _ _:=M 62 Au
 obtain⟨Ai,Ci,eR,Fi⟩:=B9 eQ
 obtain⟨c7,c8,c9⟩:=Fi.src
 refine Ay (Ig (q:=AO) (xs:=([]:List Az)) (ys:=(F.drop 0).take (I.toNat - 0)) (news:=c7) (tag:=0) Eo C5 Au (by decide) hi Y hk Au (BQ Au) (M 59 Au) eR c9 c8 bO (by have:=bO;simp only [maxLen,gt];omega))
 refine BN (Sl Af A.1 Cf) (fun gG hQ g W hi M=>?_) ?_
 obtain⟨hi,Y⟩:=hi
 exact Ay<|AD (v:=Sl Af A.1 Cf) (M 6 Au)<|GoesX.same hi Y Au
 refine BN (Iv N) (fun gH hR g W hi M=>?_) ?_
 obtain⟨hi,Y⟩:=hi
 exact Ay<|AD (v:=Iv N) (M 8 Au)<|GoesX.same hi Y Au
 obtain⟨bP,J⟩:=AE J
 have cQ:=(cP.trans eM)
 replace Ff:=Ff.step cQ
 refine Bd (XP _ _ AO (gt A.1 N)) (XP.stab _ _) (fun gI hS g W hi M=>?_) ?_
 obtain⟨-,aC,-⟩:=W
 obtain⟨hi,Y⟩:=hi
 replace Ff:=Ff.step aC
 refine Ay<|AB (q:=AO) Eo C5 (M 64 Au) (M 65 Au) Ff Au bP.1 bP.2 ?_
 intro hT eS
 exact GoesX.same hi Y ⟨_,Au,eS⟩
 refine Bd (XD _ _ (vA AO) (gt A.1 N)) (XD.stab _ _) (fun gJ hU g W hi M=>?_) ?_
 obtain⟨hi,Y⟩:=hi
 obtain⟨hV,eT,eU⟩:=M 66 Au
 refine Ay<|BE C5 eT eU Au ?_
 intro gK eV
 obtain⟨_,_,rfl,⟨rfl,Rd⟩,⟨rfl,Re⟩⟩:=eV
 exact GoesX.same hi Y (show Vr.vd (vA AO) _ _ _ _ from(JX (C2 (AW (AU Rd) (AU Re)))))
 refine Bd (XD _ _ (vC (BG AO)) [gt A.1 N]) (XD.stab _ _) (fun gL hW g W hi M=>?_) ?_
 obtain⟨hi,Y⟩:=hi
 have eW:Vr.vd (vA AO) _ _ _ _:=M 67 Au
 obtain⟨_,eX,⟨_,_,rfl,⟨rfl,Rf⟩,⟨rfl,Rg⟩⟩⟩:=eW
 refine Ay (Bm (cs:=[Iv ((gt A.1 N).leaf),Iv ((gt A.1 N).cell)]) (parts:=[(0,.tmp 67)]) Eo C5 hi (by decide) (by simp only [List.map,(show ev _ (.tmp 67)=_ from eX)];rfl) ?_)
 intro hX hY dA eY dB
 obtain⟨dC,eZ,e0⟩:=St.publish (q:=AO) (i:=0) (o:=0) (c:=1) (xs:=[gt A.1 N]) dB Au (show E0 AO _ _ [Iv ((gt A.1 N).leaf),Iv ((gt A.1 N).cell)] [gt A.1 N] from⟨_,_,Au,C2 (AW (AU Rf) (AU Rg)),E0.nil⟩) (BQ Au) (BQ Au) (BQ Au)
 exact GoesX.pub hi Y dC (AA.trans eY eZ) dA (show Vr.vd (vC (BG AO)) _ _ _ _ from Jy (B8 e0))
 obtain⟨bQ,J⟩:=AE J
 refine Gk (XG O [(some b1,Oc (BS p Aa Ca Ab Cb Ac Cc) 26)] (fun t:Nat=>if t=0 then 4 else if t=4 then 10 else 1000) 10 AO 45 ((([]:List Az)++((F.drop 0).take (I.toNat - 0)))++[gt A.1 N])) (XG.stab _ _ _ _) (fun gM hZ g W hi hk M=>?_) ?_
 obtain⟨hi,Y⟩:=hi
 have e1:Vr.vd (vC (BG AO)) _ _ _ _:=M 68 Au
 obtain⟨Aj,Cj,e2,Fj⟩:=B9 e1
 obtain⟨dD,dE,dF⟩:=Fj.src
 refine Ay (Ig (q:=AO) (xs:=([]:List Az)++((F.drop 0).take (I.toNat - 0))) (ys:=[gt A.1 N]) (news:=dD) (tag:=4) Eo C5 Au (by decide) hi Y hk Au (BQ Au) (M 63 Au) e2 dF dE bQ (by have:=bQ;simp only [maxLen,gt];omega))
 refine BN (Sl Ag F Cg) (fun gN h0 g W hi M=>?_) ?_
 obtain⟨hi,Y⟩:=hi
 exact Ay<|AD (v:=Sl Ag F Cg) (M 3 Au)<|GoesX.same hi Y Au
 refine BN (Iv I) (fun gO h1 g W hi M=>?_) ?_
 obtain⟨hi,Y⟩:=hi
 exact Ay<|AD (v:=Iv I) (M 9 Au)<|GoesX.same hi Y Au
 obtain⟨gP,J⟩:=AE J
 refine Bd (XD _ _ (vC (BG AO)) ((F.drop I.toNat).take (F.length - I.toNat))) (XD.stab _ _) (fun gQ h2 g W hi M=>?_) ?_
 obtain⟨-,aC,-⟩:=W
 obtain⟨hi,Y⟩:=hi
 replace aM:=aM.step aC
 refine Ay (IT (q:=AO) (l:=I.toNat) (h:=F.length) (m:=Cg) Eo C5 (M 70 Au) aM Au (Pw (M 71 Au) (by omega)) Au Au (by decide) (by omega) (by omega) (by have h_:F.length≤Cg:=aM.le;omega) (by have h_:F.length≤Cg:=aM.le;omega) ?_)
 intro h3 e3
 exact GoesX.same hi Y (show Vr.vd (vC (BG AO)) _ _ _ _ from(Jy (B8 e3)))
 refine BD fun h4 h5 dG a4=>?_
 obtain⟨-,cE,-⟩:=dG
 obtain⟨a4,dH⟩:=a4
 rintro h6 bR
 replace bR:Vr.vd (vC (BG AO)) _ _ _ _:=bR
 obtain⟨Ak,Ck,rfl,Fk⟩:=B9 bR
 rintro _ rfl _ rfl h7 aV
 obtain⟨h8,h9,iA,iB,rfl,aV,bS⟩:=aV.resolve_left (fun h=>absurd (dH _ h) (by decide))
 rintro iC bT
 replace bT:Vr.vd (vC (BG AO)) _ _ _ _:=bT
 obtain⟨Al,Cl,rfl,Fl⟩:=B9 bT
 rintro iD bU
 replace bU:Vr.vd (vA AO) _ _ _ _:=bU
 obtain⟨_,rfl,⟨_,_,rfl,⟨rfl,Rh⟩,⟨rfl,Ri⟩⟩⟩:=bU
 rintro _ ⟨iE,rfl,cR⟩ _ rfl _ rfl _ - iF bV
 replace bV:Vr.vd (vC (BG AO)) _ _ _ _:=bV
 obtain⟨Am,Cm,rfl,Fm⟩:=B9 bV
 rintro _ rfl _ rfl _ -
 obtain⟨a5,aQ⟩:=AA.nxX1 a4 aV;clear aV
 have e4:=a3.to a5 (cE.trans aQ)
 replace Fk:=Fk.step aQ;replace bS:=bS.step aQ;replace Fl:=Fl.step aQ;replace cR:=cR.step aQ;replace Fm:=Fm.step aQ;clear a3
 obtain⟨bW,J⟩:=AE J
 obtain⟨dI,dJ,dK⟩:=Fk.src
 refine A9 (FF (q:=AO) (i:=0) (xs:=(([]:List Az)++((F.drop 0).take (I.toNat - 0)))++[gt A.1 N]) (ys:=(F.drop I.toNat).take (F.length - I.toNat)) (news:=dI) Eo C5 Au (by decide) a5 Au Au bS Au dK dJ bW (by have:=bW;simp only [maxLen,gt];omega) ?_)
 intro cS cT e5 e6 iG e7 dL e8
 clear a5
 refine Bn (Sl cS (((([]:List Az)++((F.drop 0).take (I.toNat - 0)))++[gt A.1 N])++((F.drop I.toNat).take (F.length - I.toNat))) cT) Au<|Ax ?_
 have e9:=(cQ.trans (e4.trans e7))
 replace aP:=aP.trans e9
 exact cN _ _ ⟨((([]:List Az)++((F.drop 0).take (I.toNat - 0)))++[gt A.1 N])++((F.drop I.toNat).take (F.length - I.toNat)),cS,cT,e5,e6,_,Au,BB.of ⟨Au,trivial⟩,aP,dL,e8,J⟩
 refine AG ?_
 have cU:=(aU.trans bM)
 replace aP:=aP.trans cU;replace Fg:=Fg.step cU
 exact cN _ _ ⟨F,Ag,Cg,aA,aB,_,Au,BB.of ⟨Au,trivial⟩,aP,bN,Fg,J⟩
 intro jX cV
 have aF:=aZ.stepR
 refine B7 (g0:=[]) (m:=13) (fl:=[]) (CQ aZ) Au (.inl Au) Au (by decide+kernel) ?_  -- 12
 refine Bc (Iv I) (fun _ _ _ hi M=>AD (v:=Iv I) (M 9 Au)<|Gz hi)<|Bc (Sl Ag F Cg) (fun _ _ _ hi M=>AD (v:=Sl Ag F Cg) (M 3 Au)<|Gz hi)<|Bc (Iv (F.length:Int)) (fun _ _ _ hi M=>AZ Try.underlying32 (M 45 Au)<|Gz hi)<|Bc (Bo (decide (I=(F.length:Int)))) (fun _ _ _ hi M=>HI (M 44 Au) (M 46 Au)<|Gz hi)<|GI (decide (I=(F.length:Int))) (fun _ _ _ _ hi M=>Ay<|AD (v:=Bo (decide (I=(F.length:Int)))) (M 47 Au)<|Gz hi) (fun a6=>?_) (fun a6=>?_)
 replace J:=Hy J a6
 iterate 8 refine FX Au Au (fun _ _ _ h=>h) Au ?_
 refine BD fun iH iI dM dN=>?_
 obtain⟨-,cF,-⟩:=dM
 obtain⟨bX,fA⟩:=AA.nx dN
 rintro _ rfl _ rfl _ rfl _ rfl _ rfl _ rfl _ rfl _ rfl _ rfl _ rfl _ rfl _ rfl _ rfl
 have fB:=aZ.to bX (cF.trans fA)
 refine AI Au (AJ Au Au) Au<|FM (Bo true) Au Au<|Ax ?_
 replace aF:=aF.trans fB
 exact cV _ _ ⟨true,_,Au,BB.of ⟨Au,trivial⟩,aF,bX,J⟩
 replace J:=Hz J a6
 refine Dt (Sl Ag F Cg) Au Au (fun _ _ _ h=>h) (fun _ _ _ hi M=>AD (v:=Sl Ag F Cg) (M 3 Au)<|Gz hi)<|Dt (Iv I) Au Au (fun _ _ _ h=>h) (fun _ _ _ hi M=>AD (v:=Iv I) (M 9 Au)<|Gz hi) ?_
 obtain⟨bY,J⟩:=AE J
 replace Fg:=Fg.step aU
 obtain⟨fC,rfl,rfl⟩:=Fg.at_ (by omega)
 refine BN (Value.pointer (some ⟨fC,I.toNat*2,none⟩)) (fun gR iJ g W hi M=>?_) ?_
 obtain⟨-,aC,-⟩:=W
 replace Fg:=Fg.step aC
 refine BL Au (M 48 Au)<|BA Eo C5 (M 49 Au) (M 50 Au) Fg bY ?_
 rintro _ ⟨⟩ -
 exact Gz hi
 refine Bd (VD _ _ (vA AO) (gt F I)) (VD.stab _ _) (fun gS iK g W hi M=>?_) ?_
 obtain⟨-,aC,-⟩:=W
 replace Fg:=Fg.step aC
 have dO:=(AA.nx hi).1
 refine BL Au (M 48 Au)<|KS (i:=0) C5 Au dO Au (M 51 Au) Fg bY ?_
 intro gT fD
 obtain⟨_,_,rfl,⟨rfl,Rj⟩,⟨rfl,Rk⟩⟩:=fD
 exact Bs.same hi (show Vr.vd (vA AO) _ _ _ _ from(JX (C2 (AW (AU Rj) (AU Rk)))))
 refine Dt (Sl Af A.1 Cf) Au Au (fun _ _ _ h=>h) (fun _ _ _ hi M=>AD (v:=Sl Af A.1 Cf) (M 6 Au)<|Gz hi)<|Dt (Iv N) Au Au (fun _ _ _ h=>h) (fun _ _ _ hi M=>AD (v:=Iv N) (M 8 Au)<|Gz hi) ?_
 obtain⟨bZ,J⟩:=AE J
 replace Ff:=Ff.step aU
 refine Bd (VP _ _ AO (gt A.1 N)) (VP.stab _ _) (fun gU iL g W hi M=>?_) ?_
 obtain⟨-,aC,-⟩:=W
 replace Ff:=Ff.step aC
 refine BL Au (M 48 Au)<|AB (q:=AO) Eo C5 (M 53 Au) (M 54 Au) Ff Au bZ.1 bZ.2 ?_
 intro iM fE
 exact Bs.same hi ⟨_,Au,fE⟩
 refine Bd (VD _ _ (vA AO) (gt A.1 N)) (VD.stab _ _) (fun gV iN g W hi M=>?_) ?_
 obtain⟨iO,fF,fG⟩:=M 55 Au
 refine BL Au (M 48 Au)<|BE C5 fF fG Au ?_
 intro gW fH
 obtain⟨_,_,rfl,⟨rfl,Rl⟩,⟨rfl,Rm⟩⟩:=fH
 exact Bs.same hi (show Vr.vd (vA AO) _ _ _ _ from(JX (C2 (AW (AU Rl) (AU Rm)))))
 refine BD fun iP iQ dP dQ=>?_
 obtain⟨-,cG,-⟩:=dP
 obtain⟨b0,cW⟩:=AA.nx dQ
 rintro iR b2
 replace b2:Vr.vd (vA AO) _ _ _ _:=b2
 obtain⟨_,rfl,⟨_,_,rfl,⟨rfl,Rn⟩,⟨rfl,Ro⟩⟩⟩:=b2
 rintro _ ⟨iS,rfl,cX⟩ _ rfl _ rfl iT b3
 replace b3:Vr.vd (vA AO) _ _ _ _:=b3
 obtain⟨_,rfl,⟨_,_,rfl,⟨rfl,Rp⟩,⟨rfl,Rq⟩⟩⟩:=b3
 rintro _ rfl _ rfl _ rfl _ rfl _ rfl _ rfl _ rfl _ rfl
 have fI:=aZ.to b0 (cG.trans cW)
 replace cX:=cX.step cW
 refine BO Au Au<|Sk (c:=decide ((gt F I)=(gt A.1 N))) Au Au Vp (TI 9998 (gt F I) (gt A.1 N) _)<|F8 (Bo (!(decide ((gt F I)=(gt A.1 N))))) Au Au<|Ax ?_
 replace aF:=aF.trans fI
 exact cV _ _ ⟨!(decide ((gt F I)=(gt A.1 N))),_,Au,BB.of ⟨Au,trivial⟩,aF,b0,J⟩
 intro jY fJ
 have a7:=aE.stepR
 refine AC<|Ic Qx [] (CO (JE Qy [] cO (CO (JE OW [] bA (CO (JE NQ [] aY (CO ⟨aN,[]⟩ [(1,Pt b1 0),(3,Value.slice none 0 0),(4,Sl (some ⟨b8,0,none⟩) (List.replicate p.variables.length (0:Int)) p.variables.length),(5,Bo true)])) [(3,Sl Ad aD Cd),(4,Sl Ae G Ce),(6,Sl Af A.1 Cf),(8,Iv 0)])) [(3,Sl Ag F Cg),(8,Iv N)])) [(3,Sl Ag F Cg),(9,Iv 0)]) [(9,Iv 0)] fun dR=>Bf Qx (fun m fr w'=>∃(X:Int) (U:Be),U=[(aA,aB),(some b1,Oc (BS p Aa Ca Ab Cb Ac Cc) 26)]∧fr [] [(9,Iv X)]∧aE.S (ks U O) w'∧St ⟨w,[],[]⟩ O w' U∧Cx .i64 X∧B0 (CN A F N eI) m X=some x) 1000000 ⟨0,_,Au,BB.of ⟨Au,trivial⟩,AA.refl _ _,aE,E1,J⟩ ?_ ?_
 rintro _ _ ⟨_,_,_,_,_,_,_,J⟩;exact CF J
 rintro iU iV dS gX iW ⟨X,_,rfl,bB,aI,aL,Rr,J⟩
 obtain⟨gY,cH,J⟩:=CG J;unfold CN at J
 rw [bB.eq];clear bB
 have a8:=aI
 refine Aw<|Ic Qx [] (CO (JE Qx [] dR (CO (JE Qy [] cO (CO (JE OW [] bA (CO (JE NQ [] aY (CO ⟨aN,[]⟩ [(1,Pt b1 0),(3,Value.slice none 0 0),(4,Sl (some ⟨b8,0,none⟩) (List.replicate p.variables.length (0:Int)) p.variables.length),(5,Bo true)])) [(3,Sl Ad aD Cd),(4,Sl Ae G Ce),(6,Sl Af A.1 Cf),(8,Iv 0)])) [(3,Sl Ag F Cg),(8,Iv N)])) [(3,Sl Ag F Cg),(9,Iv 0)])) [(9,Iv 0)]) [(9,Iv X)] fun gZ=>?_
 obtain⟨fK,dT,J⟩:=Cy J
 refine CE Yf (fun fr w'=>∃(dU:Bool) (U:Be),U=[(aA,aB),(some b1,Oc (BS p Aa Ca Ab Cb Ac Cc) 26)]∧fr [] [(41,Bo dU)]∧aL.S (ks U O) w'∧St ⟨w,[],[]⟩ O w' U∧fK dU=some x) ?_ ?_
 rintro g1 iX ⟨dU,_,rfl,bC,bD,b4,J⟩
 replace J:=Dc dT J
 rw [bC.eq];clear bC
 refine AF J Au (fun dV J=>?_) (fun dV J=>?_)
 refine AG<|AC<|Av<|Bb (Iv X) Au<|A9<|Bg Au Au<|Bn (Iv (wq (X+1))) Au<|Ax ?_
 replace a8:=a8.trans bD
 exact dS _ _ ⟨(wq (X+1)),_,Au,BB.of ⟨Au,trivial⟩,a8,b4,(AT .i64 _),Dc cH J⟩
 refine Bq ?_
 have fL:=(aI.trans bD)
 replace a7:=a7.trans fL
 exact fJ _ _ ⟨X,_,Au,BB.of ⟨Au,trivial⟩,a7,b4,Rr,J⟩
 intro iY b5
 have aG:=aL.stepR
 refine B7 (g0:=[]) (m:=13) (fl:=[]) (CQ aL) Au (.inl Au) Au (by decide+kernel) ?_  -- 10
 refine Bc (Iv X) (fun _ _ _ hi M=>AD (v:=Iv X) (M 9 Au)<|Gz hi)<|Bc (Sl Ag F Cg) (fun _ _ _ hi M=>AD (v:=Sl Ag F Cg) (M 3 Au)<|Gz hi)<|Bc (Iv (F.length:Int)) (fun _ _ _ hi M=>AZ Try.underlying32 (M 28 Au)<|Gz hi)<|Bc (Bo (decide (X<(F.length:Int)))) (fun _ _ _ hi M=>By (M 27 Au) (M 29 Au)<|Gz hi)<|GI (decide (X<(F.length:Int))) (fun _ _ _ _ hi M=>Ay<|AD (v:=Bo (decide (X<(F.length:Int)))) (M 30 Au)<|Gz hi) (fun a9=>?_) (fun a9=>?_)
 replace J:=Hy J a9
 refine Dt (Sl Ag F Cg) Au Au (fun _ _ _ h=>h) (fun _ _ _ hi M=>AD (v:=Sl Ag F Cg) (M 3 Au)<|Gz hi)<|Dt (Iv X) Au Au (fun _ _ _ h=>h) (fun _ _ _ hi M=>AD (v:=Iv X) (M 9 Au)<|Gz hi) ?_
 obtain⟨b6,J⟩:=AE J
 replace Fg:=Fg.step aI
 obtain⟨fM,rfl,rfl⟩:=Fg.at_ (by omega)
 refine BN (Value.pointer (some ⟨fM,X.toNat*2,none⟩)) (fun g2 iZ g W hi M=>?_) ?_
 obtain⟨-,aC,-⟩:=W
 replace Fg:=Fg.step aC
 refine BL Au (M 31 Au)<|BA Eo C5 (M 32 Au) (M 33 Au) Fg b6 ?_
 rintro _ ⟨⟩ -
 exact Gz hi
 refine Bd (VD _ _ (vA AO) (gt F X)) (VD.stab _ _) (fun g3 i0 g W hi M=>?_) ?_
 obtain⟨-,aC,-⟩:=W
 replace Fg:=Fg.step aC
 have dO:=(AA.nx hi).1
 refine BL Au (M 31 Au)<|KS (i:=0) C5 Au dO Au (M 34 Au) Fg b6 ?_
 intro g4 fN
 obtain⟨_,_,rfl,⟨rfl,Rs⟩,⟨rfl,Rt⟩⟩:=fN
 exact Bs.same hi (show Vr.vd (vA AO) _ _ _ _ from(JX (C2 (AW (AU Rs) (AU Rt)))))
 refine Dt (Sl Af A.1 Cf) Au Au (fun _ _ _ h=>h) (fun _ _ _ hi M=>AD (v:=Sl Af A.1 Cf) (M 6 Au)<|Gz hi)<|Dt (Iv N) Au Au (fun _ _ _ h=>h) (fun _ _ _ hi M=>AD (v:=Iv N) (M 8 Au)<|Gz hi) ?_
 obtain⟨b7,J⟩:=AE J
 replace Ff:=Ff.step aI
 refine Bd (VP _ _ AO (gt A.1 N)) (VP.stab _ _) (fun g5 i1 g W hi M=>?_) ?_
 obtain⟨-,aC,-⟩:=W
 replace Ff:=Ff.step aC
 refine BL Au (M 31 Au)<|AB (q:=AO) Eo C5 (M 36 Au) (M 37 Au) Ff Au b7.1 b7.2 ?_
 intro i2 fO
 exact Bs.same hi ⟨_,Au,fO⟩
 refine Bd (VD _ _ (vA AO) (gt A.1 N)) (VD.stab _ _) (fun g6 i3 g W hi M=>?_) ?_
 obtain⟨i4,fP,fQ⟩:=M 38 Au
 refine BL Au (M 31 Au)<|BE C5 fP fQ Au ?_
 intro g7 fR
 obtain⟨_,_,rfl,⟨rfl,Ru⟩,⟨rfl,Rv⟩⟩:=fR
 exact Bs.same hi (show Vr.vd (vA AO) _ _ _ _ from(JX (C2 (AW (AU Ru) (AU Rv)))))
 refine BD fun i5 i6 dW dX=>?_
 obtain⟨-,cI,-⟩:=dW
 obtain⟨aW,cY⟩:=AA.nx dX
 rintro i7 b9
 replace b9:Vr.vd (vA AO) _ _ _ _:=b9
 obtain⟨_,rfl,⟨_,_,rfl,⟨rfl,Rw⟩,⟨rfl,Rx⟩⟩⟩:=b9
 rintro _ ⟨i8,rfl,cZ⟩ _ rfl _ rfl i9 cA
 replace cA:Vr.vd (vA AO) _ _ _ _:=cA
 obtain⟨_,rfl,⟨_,_,rfl,⟨rfl,Ry⟩,⟨rfl,Rz⟩⟩⟩:=cA
 rintro _ rfl _ rfl _ rfl _ rfl _ rfl _ rfl _ rfl _ rfl
 have fS:=aL.to aW (cI.trans cY)
 replace cZ:=cZ.step cY
 obtain⟨aR,dY,J⟩:=bd J
 refine BO Au Au<|Bi aW Try.call63 (Jc (a:=gt F X) (b:=gt A.1 N) aW.ltw Ry Rz Rw Rx dY) Au ?_
 rintro jA jB fT dZ fU
 clear aW
 obtain rfl:=fU
 refine FM (Bo aR) Au Au<|Ax ?_
 have fV:=(fS.trans fT)
 replace aG:=aG.trans fV
 exact b5 _ _ ⟨aR,_,Au,BB.of ⟨Au,trivial⟩,aG,dZ,J⟩
 replace J:=Hz J a9
 iterate 8 refine FX Au Au (fun _ _ _ h=>h) Au ?_
 refine BD fun jC jD d0 d1=>?_
 obtain⟨-,cJ,-⟩:=d0
 obtain⟨cB,fW⟩:=AA.nx d1
 rintro _ rfl _ rfl _ rfl _ rfl _ rfl _ rfl _ rfl _ rfl _ rfl _ rfl _ rfl _ rfl _ rfl
 have fX:=aL.to cB (cJ.trans fW)
 refine AI Au (AJ Au Au) Au<|F8 (Bo false) Au Au<|Ax ?_
 replace aG:=aG.trans fX
 exact b5 _ _ ⟨false,_,Au,BB.of ⟨Au,trivial⟩,aG,cB,J⟩
 refine Bq ?_
 clear Ff
 refine Av<|A9<|B1 1 B4 aE Au Au Au<|Bb (Sl Ae G Ce) Au ?_
 obtain⟨Z,d2,J⟩:=bd J
 have a0:=(eD.trans a2)
 replace Fb:=Fb.step a0;replace Fa:=Fa.step a0;replace Fc:=Fc.step a0;replace Fe:=Fe.step a0
 refine A9<|Bi aE Try.call58 (J8 (p:=p) (choices:=G) aE.ltw Fa Fb Fc Fe d2) Au ?_
 rintro jE jF c0 d3 fY
 obtain⟨jG,jH,rfl,fZ,f0⟩:=fY
 obtain⟨An,Cn,rfl,Fn⟩:=B9 fZ
 obtain rfl:=f0
 refine Bb (Value.tuple [Sl An Z.1 Cn,Bo Z.2].toArray) Au<|A9<|Bk (v:=Sl An Z.1 Cn) Au Au<|A9<|Bk (v:=Bo Z.2) Au Au<|Bn (Sl An Z.1 Cn) Au<|Bn (Bo Z.2) Au<|Ax ?_
 replace bF:=bF.trans (a0.trans c0);replace Fg:=Fg.step c0
 exact d8 _ _ ⟨F,Z.1,Z.2,Ag,Cg,aA,aB,An,Cn,_,Au,BB.of ⟨Au,Au,Au,trivial⟩,bF,d3,Fg,Fn,WQ c2 J⟩
 refine Bq<|Aw ?_
 obtain⟨cC,f1⟩:=aO.sub (bs':=[(aJ,aK)]) (.cons_cons _ (.cons _ List.Sublist.slnil))
 clear Fa Fb Fc Fe
 clear aO
 refine Av<|Bb (Sl Ad aD Cd) Au<|Bn (Sl Ad aD Cd) Au<|Ax<|AV<|⟨_,DX,[Sl Ad aD Cd],⟨Au,trivial⟩,cC.ext,?_⟩
 replace Fd:=Fd.step f1
 exact Px.mk (i:=0) cC Au Fd (oi J)
def Ex (p:A8):Option Bool:=
 jn (fun(J:Bool)=>
  bif J then
   some false
  else
   (DH p).bind fun F=>
   bif (decide (F≠0)) then
    some true
   else
    (DP p).bind fun A=>
    some (decide ((A.length:Int)≤6)))
 (fun M=>
  (ER p).bind fun I=>
  bif (!I) then
   M true
  else
   (DV p 150).bind fun G=>
   M (decide (150≤G)))

theorem Jj {w:World} {O:List Nat} {p:A8} {Aa:Option Addr} {Ca:Nat} {Ab:Option Addr} {Cb:Nat} {Ac:Option Addr} {Cc:Nat} (hO:∀k∈O,k<w.heap.size) (Fa:CA Bx w O Aa Ca p.cells) (Fb:CA (BG (AL .i64)) w O Ab Cb p.capacity) (Fc:CA AS w O Ac Cc p.variables) {x:Bool} (F:Ex p=some x):
 Ok Try.prog 11 [Value.agg (BS p Aa Ca Ab Cb Ac Cc).toArray] w O vB x:=by
 unfold Ex at F
 refine Br (n:=20) (xs:=[.tmp 2]) Try.func11 Au Try.ntmps11 Try.results11 Au ?_
 have hs:=St.start hO
 refine Aw<|Av<|A9<|BT (cs:=(BS p Aa Ca Ab Cb Ac Cc)) hs Au Au ?_
 intro b1 w2 _ p3 U
 refine Bn (Bo false) Au<|Ax<|Aw<|Wr [] [(1,Pt b1 0)] fun a3=>?_
 obtain⟨k8,aV,F⟩:=Cy F
 refine CE [3,4,5,6,7,8,9,10] (fun fr w'=>∃(aA:Bool) (aB:Be),aB=[(some b1,Oc (BS p Aa Ca Ab Cb Ac Cc) 26)]∧fr [] [(10,Bo aA)]∧U.S (ks aB O) w'∧St ⟨w,[],[]⟩ O w' aB∧k8 aA=some x) ?_ ?_
 rintro a1 a5 ⟨aA,_,rfl,W,aC,G,F⟩
 replace F:=Dc aV F
 rw [W.eq];clear W
 refine AF F Au (fun aG F=>?_) (fun aG F=>?_)
 refine Aw ?_
 obtain⟨aH,a6⟩:=G.sub (bs':=[]) (.cons _ List.Sublist.slnil)
 clear Fa Fb Fc
 clear G
 refine Av<|Bn (Bo false) Au<|Ax<|AV<|⟨_,DX,[Bo false],⟨Au,trivial⟩,aH.ext,?_⟩
 exact Vr.eq (a:=vB) (x:=false) Au (oi F)
 refine AG<|Aw<|Av<|A9<|B1 0 B4 G Au Au Au ?_
 obtain⟨X,aI,F⟩:=bd F
 have aD:=(p3.trans aC)
 replace Fb:=Fb.step aD;replace Fa:=Fa.step aD;replace Fc:=Fc.step aD
 refine A9<|Bi G Try.call31 (H0 (p:=p) G.ltw Fa Fb Fc aI) Au ?_
 rintro a7 a8 aE J aW
 clear G
 obtain⟨rfl,Ra⟩:=aW
 refine A9<|Eh Au Au<|Bb (Bo (decide (X≠0))) Au<|Bz F (fun aJ F=>?_) (fun aJ F=>?_)
 iterate 4 refine AI Au (AJ Au Au) Au ?_
 refine FM (Bo true) Au Au<|Bn (Bo true) Au<|Ax<|AV<|⟨_,DX,[Bo true],⟨Au,trivial⟩,J.ext,?_⟩
 exact Vr.eq (a:=vB) (x:=true) Au (oi F)
 refine BO Au Au<|B1 0 B4 J Au Au Au ?_
 obtain⟨A,aK,F⟩:=bd F
 replace Fb:=Fb.step aE;replace Fa:=Fa.step aE;replace Fc:=Fc.step aE
 refine BO Au Au<|Gi Try.call32 (ID (p:=p) J.ltw Fa Fb Fc aK) Au ?_
 rintro _ a9 ⟨aL,bA,bB,bC,aM,rfl,aN,aO⟩
 obtain⟨aP,bD⟩:=J.callG (o:=aM) aL aN
 rw [← JZ (o:=aM)] at aO
 clear J
 refine BO Au Au<|AZ Try.underlying32 Au ?_
 have a2:=HK aO
 refine BO Au Au<|JS Au Au<|F8 (Bo (decide ((A.length:Int)≤6))) Au Au<|Bn (Bo (decide ((A.length:Int)≤6))) Au<|Ax<|AV<|⟨_,DX,[Bo (decide ((A.length:Int)≤6))],⟨Au,trivial⟩,aP.ext,?_⟩
 exact Vr.eq (a:=vB) (x:=decide ((A.length:Int)≤6)) Au (oi F)
 intro bE Z
 have I:=U.stepR
 refine Av<|A9<|B1 0 B4 U Au Au Au ?_
 obtain⟨aF,aQ,F⟩:=bd F
 replace Fb:=Fb.step p3;replace Fa:=Fa.step p3;replace Fc:=Fc.step p3
 refine A9<|Bi U Try.call18 (JM (p:=p) U.ltw Fa Fb Fc aQ) Au ?_
 rintro bF bG Y M aX
 obtain rfl:=aX
 refine A9<|Do Au<|Bb (Bo (!aF)) Au<|Bz F (fun aR F=>?_) (fun aR F=>?_)
 iterate 3 refine AI Au (AJ Au Au) Au ?_
 refine FM (Bo true) Au Au<|Ax ?_
 replace I:=I.trans Y
 exact Z _ _ ⟨true,_,Au,BB.of ⟨Au,trivial⟩,I,M,F⟩
 refine BO Au Au<|B1 0 B4 M Au Au Au ?_
 obtain⟨N,aS,F⟩:=bd F
 replace Fb:=Fb.step Y;replace Fa:=Fa.step Y;replace Fc:=Fc.step Y
 refine BO Au Au<|Bi M Try.call30 (H8 (p:=p) (limit:=150) M.ltw Fa Fb Fc (show Cx .i64 150 from by decide) aS) Au ?_
 rintro bH bI aY aT aZ
 clear M
 obtain⟨rfl,Rb⟩:=aZ
 refine BO Au Au<|HH Au Au<|F8 (Bo (decide (150≤N))) Au Au<|Ax ?_
 replace I:=I.trans (Y.trans aY)
 exact Z _ _ ⟨decide (150≤N),_,Au,BB.of ⟨Au,trivial⟩,I,aT,F⟩

abbrev Yh:List Nat:=[4,6,7,21,22,23,24,25,26,27,28,29,30,31,32,33,34,35,36,37]

def E9 (p:A8) (b:List Int) (G:Int→Option Int) (A:Int):Option Int:=
 bif (decide (A<(b.length:Int))) then
  ck ((0:Int)≤A∧A<(b.length:Int))<|
  ck ((0:Int)≤A∧A<(p.variables.length:Int))<|
  (CB (b.getD A.toNat default) 0 (IntKind.wrap .i64 ((((p.variables.getD A.toNat default).choices).length:Int) - 1))).bind fun F=>
  bif (!F) then
   some 270
  else
   G (IntKind.wrap .i64 (A+1))
 else
  some 0

def Gy (p:A8) (b:List Int):Option Int:=
 (E4 p).bind fun A=>
 bif (decide (A≠0)) then
  some A
 else
  bif (decide ((p.variables.length:Int)<(b.length:Int))) then
   some 270
  else
   B0 (E9 p b) (((b.length:Int) - 0).toNat+1) 0

theorem LD {w:World} {O:List Nat} {p:A8} {b:List Int} {Aa:Option Addr} {Ca:Nat} {Ab:Option Addr} {Cb:Nat} {Ac:Option Addr} {Cc:Nat} {Ad:Option Addr} {Cd:Nat} (hO:∀k∈O,k<w.heap.size) (Fa:CA Bx w O Aa Ca p.cells) (Fb:CA (BG (AL .i64)) w O Ab Cb p.capacity) (Fc:CA AS w O Ac Cc p.variables) (Fd:CA (AL .i64) w O Ad Cd b) {x:Int} (F:Gy p b=some x):
 Ok Try.prog 73 [Value.agg (BS p Aa Ca Ab Cb Ac Cc).toArray,Sl Ad b Cd] w O (vI .i64) x:=by
 unfold Gy at F
 refine Br (n:=38) (xs:=[.tmp 4]) Try.func73 Au Try.ntmps73 Try.results73 Au ?_
 have hs:=St.start hO
 refine Aw<|Av<|A9<|BT (cs:=(BS p Aa Ca Ab Cb Ac Cc)) hs Au Au ?_
 intro b1 w2 _ p3 W
 refine Bn (Iv 0) Au<|Ax<|Aw<|Aw<|Av<|A9<|B1 0 B4 W Au Au Au ?_
 obtain⟨A,aR,F⟩:=bd F
 replace Fb:=Fb.step p3;replace Fa:=Fa.step p3;replace Fc:=Fc.step p3
 refine A9<|Bi W Try.call12 (Hi (p:=p) W.ltw Fa Fb Fc aR) Au ?_
 rintro v7 w8 aF I aS
 clear W
 obtain⟨rfl,Ra⟩:=aS
 refine Bn (Iv A) Au<|Ax<|Aw<|Av<|Bb (Iv A) Au<|A9<|Eh Au Au<|Ax<|AF F Au (fun aG F=>?_) (fun aG F=>?_)
 refine Aw ?_
 obtain⟨aH,a5⟩:=I.sub (bs':=[]) (.cons _ List.Sublist.slnil)
 clear Fa Fb Fc Fd
 clear I
 refine Av<|Bb (Iv A) Au<|Bn (Iv A) Au<|Ax<|AV<|⟨_,DX,[Iv A],⟨Au,trivial⟩,aH.ext,?_⟩
 exact Vr.eq (a:=(vI .i64)) (x:=A) ⟨Au,Ra⟩ (oi F)
 refine AG<|Aw<|Aw<|Av<|Bb (Sl Ad b Cd) Au<|A9<|AZ Try.underlying31 Au ?_
 replace Fd:=Fd.step (p3.trans aF)
 have aY:=AX Fd
 refine A9<|AQ 2 B4 Au Cz Au Au<|A9<|AP 0 Cz I Au Au Au<|A9<|AZ Try.underlying24 Au ?_
 replace Fc:=Fc.step aF
 have aZ:=AX Fc
 refine A9<|EB Au Au<|Ax<|AF F Au (fun aI F=>?_) (fun aI F=>?_)
 refine Aw ?_
 obtain⟨aJ,a6⟩:=I.sub (bs':=[]) (.cons _ List.Sublist.slnil)
 clear Fa Fb Fc Fd
 clear I
 refine Av<|Bn (Iv 270) Au<|Ax<|AV<|⟨_,DX,[Iv 270],⟨Au,trivial⟩,aJ.ext,?_⟩
 exact Vr.eq (a:=(vI .i64)) (x:=270) ⟨Au,(show Cx .i64 270 from by decide)⟩ (oi F)
 refine AG<|Aw<|Aw<|Av<|Bb (Sl Ad b Cd) Au<|A9<|AZ Try.underlying31 Au ?_
 have a0:=AX Fd
 refine Bb (Iv 0) Au<|Ax<|AC<|Wr [] [(2,Pt b1 0),(19,Sl Ad b Cd),(20,Iv (b.length:Int)),(21,Iv 0)] fun a1=>Bf Yh (fun m fr w'=>∃(G:Int) (aA:Be),aA=[(some b1,Oc (BS p Aa Ca Ab Cb Ac Cc) 26)]∧fr [] [(21,Iv G)]∧I.S (ks aA O) w'∧St ⟨w,[],[]⟩ O w' aA∧Cx .i64 G∧B0 (E9 p b) m G=some x) (((b.length:Int) - 0).toNat+1) ⟨0,_,Au,BB.of ⟨Au,trivial⟩,AA.refl _ _,I,E1,F⟩ ?_ ?_
 rintro _ _ ⟨_,_,_,_,_,_,_,F⟩;exact CF F
 rintro a7 a8 aK a2 a9 ⟨G,_,rfl,N,M,J,Rb,F⟩
 obtain⟨a3,aB,F⟩:=CG F;unfold E9 at F
 rw [N.eq];clear N
 have U:=M
 refine Aw<|Av<|A9<|By Au Au<|Ax<|Aw<|AF F Au (fun aL F=>?_) (fun aL F=>?_)
 refine AG<|Aw<|AC<|Aw<|Av<|Bb (Iv G) Au ?_
 obtain⟨X,F⟩:=AE F
 replace Fd:=Fd.step M
 refine A9<|AB (q:=(AL .i64)) Bl B6 Au Au Fd Au X.1 X.2 ?_
 intro bA aM
 refine A9<|AR B6 Au aM Au ?_
 intro bB aT
 obtain⟨rfl,Rc⟩:=BK aT
 refine Bn (Iv G) Au<|Bn (Iv (gt b G)) Au<|Ax<|Aw ?_
 clear aM
 refine Av<|Bb (Iv (gt b G)) Au<|A9<|AQ 2 B4 Au Cz Au Au<|A9<|AP 0 Cz J Au Au Au<|Bb (Iv G) Au ?_
 obtain⟨Y,F⟩:=AE F
 replace Fc:=Fc.step M
 refine A9<|AB (q:=AS) Cz Dq Au Au Fc Au Y.1 Y.2 ?_
 intro bC aC
 refine A9<|B5 Dq Au FJ (by decide) Au Au ?_
 have aD:=aC.via.snd.snd.snd
 refine A9<|AR FJ Au aD Au ?_
 intro bD aU
 obtain⟨Ae,Ce,rfl,Fe⟩:=B9 aU
 refine A9<|AZ Try.underlying59 Au ?_
 have a4:=AX Fe
 refine A9<|FN Au Au ?_
 obtain⟨aE,aN,F⟩:=bd F
 refine A9<|Bi J Try.call33 (Ej (n:=gt b G) (lo:=0) (hi:=(wq ((((gt p.variables G).choices).length:Int) - 1))) J.ltw Rc E1 (AT .i64 _) aN) Au ?_
 rintro bE bF aV Z aW
 clear J
 obtain rfl:=aW
 refine A9<|Do Au<|Ax<|AF F Au (fun aO F=>?_) (fun aO F=>?_)
 refine Aw ?_
 clear Fd aC aD Fe
 refine Av<|Bn (Iv 270) Au<|Ax<|AV<|⟨_,DX,[Iv 270],⟨Au,trivial⟩,Z.ext,?_⟩
 exact Vr.eq (a:=(vI .i64)) (x:=270) ⟨Au,(show Cx .i64 270 from by decide)⟩ (oi F)
 refine AG ?_
 clear aC aD Fe
 refine Av<|A9<|Bg Au Au<|Bb (Iv (wq (G+1))) Au<|Ax ?_
 replace U:=U.trans aV
 exact aK _ _ ⟨(wq (G+1)),_,Au,BB.of ⟨Au,trivial⟩,U,Z,(AT .i64 _),Dc aB F⟩
 refine Bq<|Aw ?_
 obtain⟨aP,bG⟩:=J.sub (bs':=[]) (.cons _ List.Sublist.slnil)
 clear Fa Fb Fc Fd
 clear J
 refine Av<|Bn (Iv 0) Au<|Ax<|AV<|⟨_,DX,[Iv 0],⟨Au,trivial⟩,aP.ext,?_⟩
 exact Vr.eq (a:=(vI .i64)) (x:=0) ⟨Au,E1⟩ (oi F)

def G9 (p:A8) (choices:List Int):Option Int:=
 (Gy p choices).bind fun A=>
 bif (decide (A≠0)) then
  some A
 else
  bif (decide ((choices.length:Int)≠(p.variables.length:Int))) then
   some 270
  else
   some 0

theorem Ma {w:World} {O:List Nat} {p:A8} {choices:List Int} {Aa:Option Addr} {Ca:Nat} {Ab:Option Addr} {Cb:Nat} {Ac:Option Addr} {Cc:Nat} {Ad:Option Addr} {Cd:Nat} (hO:∀k∈O,k<w.heap.size) (Fa:CA Bx w O Aa Ca p.cells) (Fb:CA (BG (AL .i64)) w O Ab Cb p.capacity) (Fc:CA AS w O Ac Cc p.variables) (Fd:CA (AL .i64) w O Ad Cd choices) {x:Int} (G:G9 p choices=some x):
 Ok Try.prog 47 [Value.agg (BS p Aa Ca Ab Cb Ac Cc).toArray,Sl Ad choices Cd] w O (vI .i64) x:=by
 unfold G9 at G
 refine Br (n:=18) (xs:=[.tmp 4]) Try.func47 Au Try.ntmps47 Try.results47 Au ?_
 have hs:=St.start hO
 refine Aw<|Av<|A9<|BT (cs:=(BS p Aa Ca Ab Cb Ac Cc)) hs Au Au ?_
 intro b1 w2 _ Y I
 refine Bn (Iv 0) Au<|Ax<|Aw<|Aw<|Av<|A9<|B1 0 B4 I Au Au Au<|Bb (Sl Ad choices Cd) Au ?_
 obtain⟨A,Z,G⟩:=bd G
 replace Fd:=Fd.step Y;replace Fb:=Fb.step Y;replace Fa:=Fa.step Y;replace Fc:=Fc.step Y
 refine A9<|Bi I Try.call73 (LD (p:=p) (b:=choices) I.ltw Fa Fb Fc Fd Z) Au ?_
 rintro v7 w8 J F aA
 clear I
 obtain⟨rfl,Ra⟩:=aA
 refine Bn (Iv A) Au<|Ax<|Aw<|Av<|Bb (Iv A) Au<|A9<|Eh Au Au<|Ax<|AF G Au (fun M G=>?_) (fun M G=>?_)
 refine Aw ?_
 obtain⟨N,aD⟩:=F.sub (bs':=[]) (.cons _ List.Sublist.slnil)
 clear Fa Fb Fc Fd
 clear F
 refine Av<|Bb (Iv A) Au<|Bn (Iv A) Au<|Ax<|AV<|⟨_,DX,[Iv A],⟨Au,trivial⟩,N.ext,?_⟩
 exact Vr.eq (a:=(vI .i64)) (x:=A) ⟨Au,Ra⟩ (oi G)
 refine AG<|Aw<|Aw<|Av<|Bb (Sl Ad choices Cd) Au<|A9<|AZ Try.underlying31 Au ?_
 replace Fd:=Fd.step J
 have aB:=AX Fd
 refine A9<|AQ 2 B4 Au Cz Au Au<|A9<|AP 0 Cz F Au Au Au<|A9<|AZ Try.underlying24 Au ?_
 replace Fc:=Fc.step J
 have aC:=AX Fc
 refine A9<|Eh Au Au<|Ax<|AF G Au (fun U G=>?_) (fun U G=>?_)
 refine Aw ?_
 obtain⟨W,aE⟩:=F.sub (bs':=[]) (.cons _ List.Sublist.slnil)
 clear Fa Fb Fc Fd
 clear F
 refine Av<|Bn (Iv 270) Au<|Ax<|AV<|⟨_,DX,[Iv 270],⟨Au,trivial⟩,W.ext,?_⟩
 exact Vr.eq (a:=(vI .i64)) (x:=270) ⟨Au,(show Cx .i64 270 from by decide)⟩ (oi G)
 refine AG<|Aw ?_
 obtain⟨X,aF⟩:=F.sub (bs':=[]) (.cons _ List.Sublist.slnil)
 clear Fa Fb Fc Fd
 clear F
 refine Av<|Bn (Iv 0) Au<|Ax<|AV<|⟨_,DX,[Iv 0],⟨Au,trivial⟩,X.ext,?_⟩
 exact Vr.eq (a:=(vI .i64)) (x:=0) ⟨Au,E1⟩ (oi G)

abbrev Wh:List Nat:=[9,39,40,41,42,43,44,45,46,47,48]

abbrev TP:List Nat:=[7,9,24,25,26,27,28,29,30,31,32,33,34,35,36,37,38,39,40,41,42,43,44,45,46,47,48,49]

abbrev RE:List Nat:=[4,5,7,9,12,13,14,15,16,17,18,19,20,21,22,23,24,25,26,27,28,29,30,31,32,33,34,35,36,37,38,39,40,41,42,43,44,45,46,47,48,49,50]

def Es (G:List Int) (F:A8) (A:Int) (J:Int) (M:Int→Option (List (Int × Bp))) (N:Int→Option (List (Int × Bp))) (I:Int):Option (List (Int × Bp)):=
 bif (decide (I<(((((F.variables.getD A.toNat default).choices).getD (G.getD A.toNat default).toNat default).uses).length:Int))) then
  ck ((0:Int)≤I∧I<(((((F.variables.getD A.toNat default).choices).getD (G.getD A.toNat default).toNat default).uses).length:Int))<|
  yl (((F.variables.getD A.toNat default).leaves).getD J.toNat default,(⟨(((((F.variables.getD A.toNat default).choices).getD (G.getD A.toNat default).toNat default).uses).getD I.toNat default).cell,(((((F.variables.getD A.toNat default).choices).getD (G.getD A.toNat default).toNat default).uses).getD I.toNat default).places⟩:Bp)) (
  N (IntKind.wrap .i64 (I+1)))
 else
  M (IntKind.wrap .i64 (J+1))

def Et (G:List Int) (F:A8) (A:Int) (J:Int→Option (List (Int × Bp))) (M:Int→Option (List (Int × Bp))) (I:Int):Option (List (Int × Bp)):=
 bif (decide (I<(((F.variables.getD A.toNat default).leaves).length:Int))) then
  ck ((0:Int)≤I∧I<(((F.variables.getD A.toNat default).leaves).length:Int))<|
  ck ((0:Int)≤A∧A<(F.variables.length:Int))<|
  ck ((0:Int)≤(G.getD A.toNat default)∧(G.getD A.toNat default)<(((F.variables.getD A.toNat default).choices).length:Int))<|
  B0 (Es G F A I M) (((((((F.variables.getD A.toNat default).choices).getD (G.getD A.toNat default).toNat default).uses).length:Int) - 0).toNat+1) 0
 else
  J (IntKind.wrap .i64 (A+1))

def Eu (F:List Int) (G:A8) (I:Int→Option (List (Int × Bp))) (A:Int):Option (List (Int × Bp)):=
 bif (decide (A<(F.length:Int))) then
  ck ((0:Int)≤A∧A<(F.length:Int))<|
  ck ((0:Int)≤A∧A<(G.variables.length:Int))<|
  B0 (Et F G A I) (((((G.variables.getD A.toNat default).leaves).length:Int) - 0).toNat+1) 0
 else
  some ([]:List (Int × Bp))

def Gh (A:List Int) (F:A8):Option (List (Int × Bp)):=
 B0 (Eu A F) (((A.length:Int) - 0).toNat+1) 0

theorem Lg {w:World} {O:List Nat} {F:List Int} {G:A8} {aK:Addr} {U:Addr} (hO:∀k∈O,k<w.heap.size) (Fa:Ia (BG (AL .i64)) w O aK F) (Fb:Ia FY w O U G) {L:List (Int × Bp)} (I:Gh F G=some L):
 MX Try.prog w O 100 [Value.pointer (some aK),Value.pointer (some U)] (Iu (vI .i64) (vA Ed)) L:=by
 unfold Gh at I
 obtain⟨x,I,hL⟩:∃x,_=some x∧L=[]++x:=⟨L,I,Au⟩
 intro w1 O1 a3 cG l J Jx hJ hJx hY h0
 refine Br (n:=51) (xs:=[]) Try.func100 Au Try.ntmps100 Try.results100 Au ?_
 have hs:=St.start cG
 have hI:=LM.start h0
 refine Aw<|Av ?_
 replace Fa:=Fa.step a3
 refine A9<|AR Bl Au Fa Au ?_
 intro v1 h2
 obtain⟨Aa,Ca,rfl,Fc⟩:=B9 h2
 refine A9<|AZ Try.underlying31 Au ?_
 have c5:=AX Fc
 refine Bb (Iv 0) Au<|Ax<|AC<|Wr [] [(0,Value.func (.yield l) #[] #[]),(2,Value.pointer (some U)),(10,Sl Aa F Ca),(11,Iv (F.length:Int)),(12,Iv 0)] fun a4=>Bf RE (fun m fr w'=>∃(A:Int) (a0 aL:List (Int × Bp)) (a1:World) (a2 Oz10:List Nat) (X:Be),X=[]∧fr [] [(12,Iv A)]∧hs.S (ks X Oz10) w'∧St ⟨a1,a2,[]⟩ Oz10 w' X∧Cx .i64 A∧LM J aL ⟨a1,a2,[]⟩ Oz10∧L=aL++a0∧B0 (Eu F G) m A=some a0) (((F.length:Int) - 0).toNat+1) ⟨0,x,([]:List _),w1,[],O1,_,Au,BB.of ⟨Au,trivial⟩,AA.refl _ _,hs,E1,hI,hL,I⟩ ?_ ?_
 rintro _ _ ⟨_,_,_,_,_,_,_,_,_,_,_,_,_,_,I⟩;exact CF I
 rintro c6 c7 bQ cQ c8 ⟨A,a0,aL,a1,a2,Oz10,_,rfl,aR,aE,aS,Ra,a5,aT,I⟩
 obtain⟨bR,bG,I⟩:=CG I;unfold Eu at I
 rw [aR.eq];clear aR
 have aU:=aE
 refine Aw ?_
 clear Fa
 refine Av<|A9<|By Au Au<|Ax<|Aw<|AF I Au (fun bS I=>?_) (fun bS I=>?_)
 refine AG<|Aw<|AC<|Aw<|Av<|Bb (Iv A) Au ?_
 obtain⟨a6,I⟩:=AE I
 replace Fc:=Fc.step aE
 refine A9<|AB (q:=(AL .i64)) Bl B6 Au Au Fc Au a6.1 a6.2 ?_
 intro c9 bT
 refine A9<|AR B6 Au bT Au ?_
 intro dA cH
 obtain⟨rfl,Rb⟩:=BK cH
 refine Bn (Iv A) Au<|Bn (Iv (gt F A)) Au<|Ax<|Aw ?_
 clear bT
 refine Av<|A9<|B5 B4 Au Cz (by decide) Au Au ?_
 replace Fb:=Fb.step (a3.trans aE)
 have bU:=Fb.via.snd.snd
 refine A9<|AR Cz Au bU Au ?_
 intro dB cI
 obtain⟨Ab,Cb,rfl,Fd⟩:=B9 cI
 refine Bb (Iv A) Au ?_
 obtain⟨a7,I⟩:=AE I
 refine A9<|AB (q:=AS) Cz Dq Au Au Fd Au a7.1 a7.2 ?_
 intro dC bV
 refine A9<|B5 Dq Au Bl (by decide) Au Au ?_
 have bW:=bV.via.snd.snd.fst
 refine A9<|AR Bl Au bW Au ?_
 intro dD cJ
 obtain⟨Ac,Cc,rfl,Fe⟩:=B9 cJ
 refine A9<|AZ Try.underlying31 Au ?_
 have cR:=AX Fe
 refine Bb (Iv 0) Au<|Ax<|AC<|Ic RE [] (CO ⟨a4,[]⟩ [(0,Value.func (.yield l) #[] #[]),(2,Value.pointer (some U)),(10,Sl Aa F Ca),(11,Iv (F.length:Int)),(12,Iv 0)]) [(4,Iv A),(5,Iv (gt F A)),(12,Iv A),(22,Sl Ac ((gt G.variables A).leaves) Cc),(23,Iv (((gt G.variables A).leaves).length:Int)),(24,Iv 0)] fun bX=>Bf TP (fun m fr w'=>∃(W:Int) (aB Y:List (Int × Bp)) (aC:World) (aD Oz48:List Nat) (X:Be),X=[]∧fr [] [(24,Iv W)]∧aS.S (ks X Oz48) w'∧St ⟨aC,aD,[]⟩ Oz48 w' X∧Cx .i64 W∧LM J Y ⟨aC,aD,[]⟩ Oz48∧L=Y++aB∧B0 (Et F G A bR) m W=some aB) (((((gt G.variables A).leaves).length:Int) - 0).toNat+1) ⟨0,a0,aL,a1,a2,Oz10,_,Au,BB.of ⟨Au,trivial⟩,AA.refl _ _,aS,E1,a5,aT,I⟩ ?_ ?_
 rintro _ _ ⟨_,_,_,_,_,_,_,_,_,_,_,_,_,_,I⟩;exact CF I
 rintro dE dF bY cS dG ⟨W,aB,Y,aC,aD,Oz48,_,rfl,aV,Z,aW,Rc,a8,a9,I⟩
 obtain⟨bZ,bH,I⟩:=CG I;unfold Et at I
 rw [aV.eq];clear aV
 have aX:=Z
 refine Aw ?_
 clear bU Fd bV bW
 refine Av<|A9<|By Au Au<|Ax<|Aw<|AF I Au (fun b0 I=>?_) (fun b0 I=>?_)
 refine AG<|Aw<|AC<|Aw<|Av ?_
 obtain⟨bA,I⟩:=AE I
 replace Fe:=Fe.step Z
 refine A9<|AB (q:=(AL .i64)) Bl B6 Au Au Fe Au bA.1 bA.2 ?_
 intro dH b1
 refine A9<|AR B6 Au b1 Au ?_
 intro dI cK
 obtain⟨rfl,Rd⟩:=BK cK
 refine Bn (Iv (gt ((gt G.variables A).leaves) W)) Au<|Ax<|Aw ?_
 clear b1
 refine Av<|A9<|B5 B4 Au Cz (by decide) Au Au ?_
 replace Fb:=Fb.step Z
 have b2:=Fb.via.snd.snd
 refine A9<|AR Cz Au b2 Au ?_
 intro dJ cL
 obtain⟨Ad,Cd,rfl,Ff⟩:=B9 cL
 refine Bb (Iv A) Au ?_
 obtain⟨bB,I⟩:=AE I
 refine A9<|AB (q:=AS) Cz Dq Au Au Ff Au bB.1 bB.2 ?_
 intro dK b3
 refine A9<|B5 Dq Au FJ (by decide) Au Au ?_
 have b4:=b3.via.snd.snd.snd
 refine A9<|AR FJ Au b4 Au ?_
 intro dL cM
 obtain⟨Ae,Ce,rfl,Fg⟩:=B9 cM
 refine Bb (Iv (gt F A)) Au ?_
 obtain⟨bC,I⟩:=AE I
 refine A9<|AB (q:=Bt) FJ FT Au Au Fg Au bC.1 bC.2 ?_
 intro dM b5
 refine A9<|B5 FT Au Ho (by decide) Au Au ?_
 have b6:=b5.via.snd.snd.snd
 refine A9<|AR Ho Au b6 Au ?_
 intro dN cN
 obtain⟨Af,Cf,rfl,Fh⟩:=B9 cN
 refine A9<|AZ Try.underlying56 Au ?_
 have cT:=AX Fh
 refine Bb (Iv 0) Au<|Ax<|AC<|Ic TP [] (CO (JE RE [] bX (CO ⟨a4,[]⟩ [(0,Value.func (.yield l) #[] #[]),(2,Value.pointer (some U)),(10,Sl Aa F Ca),(11,Iv (F.length:Int)),(12,Iv 0)])) [(4,Iv A),(5,Iv (gt F A)),(12,Iv A),(22,Sl Ac ((gt G.variables A).leaves) Cc),(23,Iv (((gt G.variables A).leaves).length:Int)),(24,Iv 0)]) [(7,Iv (gt ((gt G.variables A).leaves) W)),(24,Iv W),(37,Sl Af ((gt ((gt G.variables A).choices) (gt F A)).uses) Cf),(38,Iv (((gt ((gt G.variables A).choices) (gt F A)).uses).length:Int)),(39,Iv 0)] fun cU=>Bf Wh (fun m fr w'=>∃(M:Int) (aM N:List (Int × Bp)) (aN:World) (aO Oz93:List Nat) (X:Be),X=[]∧fr [] [(39,Iv M)]∧aW.S (ks X Oz93) w'∧St ⟨aN,aO,[]⟩ Oz93 w' X∧Cx .i64 M∧LM J N ⟨aN,aO,[]⟩ Oz93∧L=N++aM∧B0 (Es F G A W bZ) m M=some aM) (((((gt ((gt G.variables A).choices) (gt F A)).uses).length:Int) - 0).toNat+1) ⟨0,aB,Y,aC,aD,Oz48,_,Au,BB.of ⟨Au,trivial⟩,AA.refl _ _,aW,E1,a8,a9,I⟩ ?_ ?_
 rintro _ _ ⟨_,_,_,_,_,_,_,_,_,_,_,_,_,_,I⟩;exact CF I
 rintro cV dO b7 cO cW ⟨M,aM,N,aN,aO,Oz93,_,rfl,aP,aA,aF,Re,bD,aQ,I⟩
 obtain⟨cX,bI,I⟩:=CG I;unfold Es at I
 rw [aP.eq];clear aP
 have aG:=aA
 refine Aw ?_
 clear b2 Ff b3 b4 Fg b5 b6
 refine Av<|A9<|By Au Au<|Ax<|Aw<|AF I Au (fun bJ I=>?_) (fun bJ I=>?_)
 refine AG<|Aw<|AC<|Aw<|Av ?_
 obtain⟨aY,I⟩:=AE I
 replace Fh:=Fh.step aA
 refine A9<|AB (q:=Ed) Ho Gc Au Au Fh Au aY.1 aY.2 ?_
 intro cY bE
 refine A9<|BE Gc Au bE Au ?_
 intro cP b8
 obtain⟨_,_,rfl,⟨_,_,rfl,rfl,⟨_,_,rfl,⟨rfl,Rf⟩,⟨rfl,Rg⟩⟩⟩,⟨rfl,Rh⟩⟩:=b8
 refine A9<|Bv Gc aF ?_
 intro b9 cZ _ cA aZ
 clear aF
 refine Bh<|C6 .z Gc aZ Au Au Au Au Au ?_
 intro c0 cB aH
 clear aZ
 refine Ax<|Aw ?_
 clear bE
 refine Av<|Bb (Value.func (.yield l) #[] #[]) Au<|Bb (Iv (gt ((gt G.variables A).leaves) W)) Au<|A9<|B1 0 Gc aH Au Au Au ?_
 obtain⟨aI,I,bK⟩:=Se I
 rw [bK] at aQ
 refine A9 (Qi (pre:=N) (a:=(gt ((gt G.variables A).leaves) W,(⟨(gt ((gt ((gt G.variables A).choices) (gt F A)).uses) M).cell,(gt ((gt ((gt G.variables A).choices) (gt F A)).uses) M).places⟩:Bp))) Au Au hY hJ bD aH ⟨aI,by rw [aQ];simp⟩ (show(Iu (vI .i64) (vA Ed)) _ _ _ _ from⟨_,_,Au,⟨Au,Rd⟩,JX (C2 (AW (C2 (AW GJ (AW (AU Rf) (AU Rg)))) (AU Rh)))⟩) ?_ ?_)
 intro cC O125 aJ cD bL
 clear aH
 have bM:L=(N++[(gt ((gt G.variables A).leaves) W,(⟨(gt ((gt ((gt G.variables A).choices) (gt F A)).uses) M).cell,(gt ((gt ((gt G.variables A).choices) (gt F A)).uses) M).places⟩:Bp))])++aI:=by rw [aQ];simp
 refine A9<|Do Au<|Ax<|GG Au<|AG<|Av<|A9<|Bg Au Au<|Bb (Iv (wq (M+1))) Au<|Ax ?_
 have bN:=aJ.drop 0
 have cE:=(aJ.dropS 0)
 clear aJ
 have cF:=(cA.trans (cB.trans (cD.trans cE)))
 replace aG:=aG.trans cF
 exact b7 _ _ ⟨(wq (M+1)),aI,N++[(gt ((gt G.variables A).leaves) W,(⟨(gt ((gt ((gt G.variables A).choices) (gt F A)).uses) M).cell,(gt ((gt ((gt G.variables A).choices) (gt F A)).uses) M).places⟩:Bp))],cC,List.filterMap Prod.fst [(some b9,Oc [Bo (((gt ((gt ((gt G.variables A).choices) (gt F A)).uses) M).cell).airport),Iv (((gt ((gt ((gt G.variables A).choices) (gt F A)).uses) M).cell).index),Iv (((gt ((gt ((gt G.variables A).choices) (gt F A)).uses) M).cell).minute),Iv ((gt ((gt ((gt G.variables A).choices) (gt F A)).uses) M).places)] 76)],O125,_,Au,BB.of ⟨Au,trivial⟩,aG,bN,(AT .i64 _),bL,bM,Dc bI I⟩
 intro c1 O134 bO bP
 exact A9<|Do Au<|Ax<|Hu Au<|AV<|⟨_,DX,[],trivial,_,.inr ⟨_,bP.fin hJx bO⟩⟩
 refine Bq ?_
 clear Fh
 refine Av<|A9<|Bg Au Au<|Bb (Iv (wq (W+1))) Au<|Ax ?_
 replace aX:=aX.trans aA
 exact bY _ _ ⟨(wq (W+1)),aM,N,aN,aO,Oz93,_,Au,BB.of ⟨Au,trivial⟩,aX,aF,(AT .i64 _),bD,aQ,Dc bH I⟩
 refine Bq ?_
 clear Fe
 refine Av<|A9<|Bg Au Au<|Bb (Iv (wq (A+1))) Au<|Ax ?_
 replace aU:=aU.trans Z
 exact bQ _ _ ⟨(wq (A+1)),aB,Y,aC,aD,Oz48,_,Au,BB.of ⟨Au,trivial⟩,aU,aW,(AT .i64 _),a8,a9,Dc bG I⟩
 refine Bq ?_
 have bF:=a5.fin hJ aS
 rw [← Option.some.inj I,List.append_nil] at aT;rw [← aT] at bF
 exact⟨_,DX,[],trivial,_,.inl bF⟩

def GN (p:A8) (b:List Int):Option (List (Int × Bp)):=
 (Gh b p).bind fun A=>
 some A

theorem MG {w:World} {O:List Nat} {p:A8} {b:List Int} {Aa:Option Addr} {Ca:Nat} {Ab:Option Addr} {Cb:Nat} {Ac:Option Addr} {Cc:Nat} {Ad:Option Addr} {Cd:Nat} (hO:∀k∈O,k<w.heap.size) (Fa:CA Bx w O Aa Ca p.cells) (Fb:CA (BG (AL .i64)) w O Ab Cb p.capacity) (Fc:CA AS w O Ac Cc p.variables) (Fd:CA (AL .i64) w O Ad Cd b) {x:(List (Int × Bp))} (Z:GN p b=some x):
 Ok Try.prog 84 [Value.agg (BS p Aa Ca Ab Cb Ac Cc).toArray,Sl Ad b Cd] w O (Vj Try.prog (Iu (vI .i64) (vA Ed))) x:=by
 unfold GN at Z
 refine Br (n:=6) (xs:=[.tmp 4]) Try.func84 Au Try.ntmps84 Try.results84 Au ?_
 have hs:=St.start hO
 refine Aw<|Av<|A9<|BT (cs:=(BS p Aa Ca Ab Cb Ac Cc)) hs Au Au ?_
 intro J w2 _ p3 M
 refine A9<|BT (cs:=[Sl Ad b Cd]) M Au Au ?_
 intro N w7 _ p8 U
 clear M
 refine Bn (Value.nilFunc) Au<|Ax<|Aw<|Av ?_
 have W:=(p3.trans p8)
 replace Fd:=Fd.step W
 obtain⟨F,aA,G⟩:=St.publishP (p:=BG (AL .i64)) (i:=0) (x:=b) U Au (B8 Fd)
 clear U
 have I:=(W.trans aA)
 replace Fb:=Fb.step I;replace Fa:=Fa.step I;replace Fc:=Fc.step I
 obtain⟨A,aB,aC⟩:=St.publishP (p:=FY) (i:=0) (x:=p) F Au (C2 (AW (B8 Fa) (AW (B8 Fb) (B8 Fc))))
 clear F
 refine A9<|Gl (a':=[]) (c':=[Value.pointer (some (⟨N,0,none⟩:Addr)),Value.pointer (some (⟨J,0,none⟩:Addr))]) Au Au ?_
 obtain⟨X,Y,Z⟩:=bd Z
 replace G:=G.step aB
 have F20:U0 Try.prog (Iu (vI .i64) (vA Ed)) w7 (ks [] O) (Value.func (.func 100) #[] #[Value.pointer (some (⟨N,0,none⟩:Addr)),Value.pointer (some (⟨J,0,none⟩:Addr))]) X:=⟨100,[Value.pointer (some (⟨N,0,none⟩:Addr)),Value.pointer (some (⟨J,0,none⟩:Addr))],Au,Try.call100,Lg A.ltw G aC Y⟩
 refine Bn (Value.func (.func 100) #[] #[Value.pointer (some (⟨N,0,none⟩:Addr)),Value.pointer (some (⟨J,0,none⟩:Addr))]) Au<|Ax<|AV ?_
 have hz:=G5 A
 refine⟨_,DX,[Value.func (.func 100) #[] #[Value.pointer (some (⟨N,0,none⟩:Addr)),Value.pointer (some (⟨J,0,none⟩:Addr))]],⟨Au,trivial⟩,A.ext,?_⟩
 replace F20:=F20.step hz
 exact Vr.eq (a:=Vj Try.prog (Iu (vI .i64) (vA Ed))) (x:=X) F20 (oi Z)

abbrev Yi:List Nat:=[6,7,16,17,18,19,20,21,22,23,24]

abbrev Yj:List Nat:=[9,31,32,33,34,35,36,37,38,39,40,41]

def FB (G:List (AK × Int)) (I:(List (List Int))→Option (List (List Int))) (A:Int × Bp) (F:List (List Int)):Option (List (List Int)):=
 ck ((0:Int)≤A.1∧A.1<(F.length:Int))<|
 ck ((0:Int)≤((Bu G A.2.cell).getD 0)∧((Bu G A.2.cell).getD 0)<((F.getD A.1.toNat default).length:Int))<|
 ck ((0:Int)≤((Bu G A.2.cell).getD 0)∧((Bu G A.2.cell).getD 0)<((F.getD A.1.toNat default).length:Int))<|
 I (F.set A.1.toNat ((F.getD A.1.toNat default).set ((Bu G A.2.cell).getD 0).toNat (IntKind.wrap .i64 (((F.getD A.1.toNat default).getD ((Bu G A.2.cell).getD 0).toNat default)+A.2.places))))

def Ea (p:A8) (b:List Int) (J:List (AK × Int)) (M:Int→(List (List Int))→Option (List (List Int))) (F:Int) (A:List (List Int)):Option (List (List Int)):=
 bif (decide (F<((List.replicate p.capacity.length ([]:List Int)).length:Int))) then
  ck ((0:Int)≤(p.cells.length:Int)∧(p.cells.length:Int)≤(p.cells.length:Int)∧(8:Int)*(p.cells.length:Int)≤281474976710656∧(p.cells.length:Int)≤281474976710656)<|
  ck ((0:Int)≤F∧F<(A.length:Int))<|
  M (IntKind.wrap .i64 (F+1)) (A.set F.toNat (List.replicate p.cells.length (0:Int)))
 else
  (GN p b).bind fun G=>
  jn (fun(I:List (List Int))=>
   some I)
  (fun N=>
   IU (FB J) N G A)

def EA (p:A8) (b:List Int) (G:Int→(List (AK × Int))→Option (List (List Int))) (A:Int) (F:List (AK × Int)):Option (List (List Int)):=
 bif (decide (A<(p.cells.length:Int))) then
  ck ((0:Int)≤A∧A<(p.cells.length:Int))<|
  G (IntKind.wrap .i64 (A+1)) (Dp F (p.cells.getD A.toNat default) A)
 else
  ck ((0:Int)≤(p.capacity.length:Int)∧(p.capacity.length:Int)≤(p.capacity.length:Int)∧(24:Int)*(p.capacity.length:Int)≤281474976710656∧(p.capacity.length:Int)≤281474976710656)<|
  BC (Ea p b F) ((((List.replicate p.capacity.length ([]:List Int)).length:Int) - 0).toNat+1) 0 (List.replicate p.capacity.length ([]:List Int))

def G0 (p:A8) (b:List Int):Option (List (List Int)):=
 BC (EA p b) (((p.cells.length:Int) - 0).toNat+1) 0 ([]:List (AK × Int))

theorem LE {w:World} {O:List Nat} {p:A8} {b:List Int} {Aa:Option Addr} {Ca:Nat} {Ab:Option Addr} {Cb:Nat} {Ac:Option Addr} {Cc:Nat} {Ad:Option Addr} {Cd:Nat} (hO:∀k∈O,k<w.heap.size) (Fa:CA Bx w O Aa Ca p.cells) (Fb:CA (BG (AL .i64)) w O Ab Cb p.capacity) (Fc:CA AS w O Ac Cc p.variables) (Fd:CA (AL .i64) w O Ad Cd b) {x:(List (List Int))} (hm:G0 p b=some x):
 Ok Try.prog 75 [Value.agg [Sl Aa p.cells Ca,Sl Ab p.capacity Cb,Sl Ac p.variables Cc].toArray,Sl Ad b Cd] w O (vC (BG (BG (AL .i64)))) x:=by
 unfold G0 at hm
 refine Br (n:=62) (xs:=[.tmp 4]) Try.func75 Au Try.ntmps75 Try.results75 Au ?_
 have hs:=St.start hO
 refine Aw<|Av<|A9<|BT (cs:=[Sl Aa p.cells Ca,Sl Ab p.capacity Cb,Sl Ac p.variables Cc]) hs Au Au ?_
 intro b1 w2 _ p3 d9
 refine Bn (Value.slice none 0 0) Au<|Ax<|Aw<|Av<|A9<|Hn d9 ?_
 intro b6 w7 p8 eA
 clear d9
 have e6:Mo HP (Hm .i64) (Obj.map #[] 0) ([]:List (AK × Int)):=Mo.nil_
 refine A9<|Bv Sr eA ?_
 intro aA gP _ e7 c0
 clear eA
 refine Bh<|F1 (Value.map (some b6)) .z Sr c0 Au Au Au Au ?_
 intro gQ e8 bT
 clear c0
 refine Ax<|Aw<|Aw<|Av<|A9<|AQ 0 B4 Au EX Au Au<|A9<|AP 2 EX bT Au Au Au<|A9<|AZ Try.underlying22 Au ?_
 have eB:=(p3.trans (p8.trans (e7.trans e8)))
 replace Fa:=Fa.step eB
 have fU:=AX Fa
 refine Bb (Iv 0) Au<|Ax<|AC<|Wr [] [(1,Sl Ad b Cd),(2,Pt b1 0),(4,Value.slice none 0 0),(5,Pt aA 0),(14,Sl Aa p.cells Ca),(15,Iv (p.cells.length:Int)),(16,Iv 0)] fun fV=>Bf Yi (fun m fr w'=>∃(aP:Int) (X:List (AK × Int)) (M:Obj) (a0:Be),a0=((some aA,Oc [Value.map (some b6)] 113)::(some b6,M)::(some b1,Oc [Sl Aa p.cells Ca,Sl Ab p.capacity Cb,Sl Ac p.variables Cc] 26)::([]:Be))∧fr [] [(16,Iv aP)]∧bT.S (ks a0 O) w'∧St ⟨w,[],[]⟩ O w' a0∧Cx .i64 aP∧Mo HP (Hm .i64) M X∧BC (EA p b) m aP X=some x) (((p.cells.length:Int) - 0).toNat+1) ⟨0,([]:List (AK × Int)),Obj.map #[] 0,_,Au,BB.of ⟨Au,trivial⟩,AA.refl _ _,bT,E1,e6,hm⟩ ?_ ?_
 rintro _ _ ⟨_,_,_,_,_,_,_,_,_,_,hm⟩;exact DI hm
 rintro gR gS eC fW gT ⟨aP,X,M,_,rfl,bU,a1,a8,Ra,bV,hm⟩
 obtain⟨fX,dJ,hm⟩:=DJ hm;unfold EA at hm
 rw [bU.eq];clear bU
 have bW:=a1
 refine Aw<|Av<|A9<|By Au Au<|Ax<|Aw<|AF hm Au (fun eD hm=>?_) (fun eD hm=>?_)
 refine AG<|Aw<|AC<|Aw<|Av<|Bb (Iv aP) Au ?_
 obtain⟨c1,hm⟩:=AE hm
 replace Fa:=Fa.step a1
 refine A9<|AB (q:=Bx) EX Du Au Au Fa Au c1.1 c1.2 ?_
 intro gU eE
 refine A9<|BE Du Au eE Au ?_
 intro fY e9
 obtain⟨_,_,rfl,rfl,⟨_,_,rfl,⟨rfl,Rb⟩,⟨rfl,Rc⟩⟩⟩:=e9
 refine A9<|Bv Du a8 ?_
 intro gV gW _ fA c2
 clear a8
 refine Bn (Iv aP) Au<|Bh<|C6 .z Du c2 Au Au Au Au Au ?_
 intro gX fB bN
 clear c2
 refine Ax ?_
 clear eE
 refine Av<|A9<|AP 1 Sr bN Au Au Au<|A9<|B1 0 Du bN Au Au Au<|Bb (Iv aP) Au<|Bh<|GP (q:=HP) (m:=(Hm .i64)) (n:=gt p.cells aP) (v:=aP) (i:=2) Try.underlying113 OV bN Au bV Au Au Au Au (And.intro Rb Rc) Ra ?_
 intro fC gY fD bX fE
 clear bN
 refine Ax<|Av<|A9<|Bg Au Au<|Bb (Iv (wq (aP+1))) Au<|Ax ?_
 have eF:=bX.drop 0
 have fF:=(bX.dropS 0)
 clear bX
 have fG:=(fA.trans (fB.trans (fD.trans fF)))
 replace bW:=bW.trans fG
 exact eC _ _ ⟨(wq (aP+1)),Dp X (gt p.cells aP) aP,fC,_,Au,BB.of ⟨Au,trivial⟩,bW,eF,(AT .i64 _),fE,GV dJ hm⟩
 refine Bq<|Aw<|Av<|A9<|AQ 1 B4 Au Db Au Au<|A9<|AP 2 Db a8 Au Au Au<|A9<|AZ Try.underlying23 Au ?_
 have eG:=(eB.trans a1)
 replace Fb:=Fb.step eG
 have fZ:=AX Fb
 obtain⟨eH,hm⟩:=AE hm
 refine A9<|GC (q:=QR) (v:=Value.slice none 0 0) (x0:=((none,0,0):Hd)) Db Bl a8 Au Au eH Au (fun _ _=>rfl) ?_
 intro bE cQ eI dK c3 bY;clear eI
 clear a8
 obtain⟨c4,cR⟩:St ⟨w,[],[]⟩ O cQ ((some bE,Obj.cells (List.replicate p.capacity.length (Value.slice none 0 0)).toArray 31)::(some aA,Oc [Value.map (some b6)] 113)::(some b6,M)::(some b1,Oc [Sl Aa p.cells Ca,Sl Ab p.capacity Cb,Sl Ac p.variables Cc] 26)::(List.replicate p.capacity.length ((none:Option Nat),Obj.cells #[] 3)))∧AA (ks ((some bE,Obj.cells (List.replicate p.capacity.length (Value.slice none 0 0)).toArray 31)::(some aA,Oc [Value.map (some b6)] 113)::(some b6,M)::(some b1,Oc [Sl Aa p.cells Ca,Sl Ab p.capacity Cb,Sl Ac p.variables Cc] 26)::([]:Be)) O) cQ (ks ((some bE,Obj.cells (List.replicate p.capacity.length (Value.slice none 0 0)).toArray 31)::(some aA,Oc [Value.map (some b6)] 113)::(some b6,M)::(some b1,Oc [Sl Aa p.cells Ca,Sl Ab p.capacity Cb,Sl Ac p.variables Cc] 26)::(List.replicate p.capacity.length ((none:Option Nat),Obj.cells #[] 3))) O) cQ:=St.nones2 c3 p.capacity.length
 clear c3
 have a9:Rows (AL .i64) 3 cQ (ks ((some bE,Obj.cells (List.replicate p.capacity.length (Value.slice none 0 0)).toArray 31)::(some aA,Oc [Value.map (some b6)] 113)::(some b6,M)::(some b1,Oc [Sl Aa p.cells Ca,Sl Ab p.capacity Cb,Sl Ac p.variables Cc] 26)::(List.replicate p.capacity.length ((none:Option Nat),Obj.cells #[] 3))) O) (List.replicate p.capacity.length ((none,0,0):Hd)) (List.replicate p.capacity.length ((none:Option Nat),Obj.cells #[] 3)) (List.replicate p.capacity.length ([]:List Int)):=Rows.nils _ _
 have bZ:(List.replicate p.capacity.length ((none,0,0):Hd)).length=(List.replicate p.capacity.length ([]:List Int)).length:=(Rows.lens a9).1
 refine A9<|Bv Db c4 ?_
 intro aD gZ _ b0 c5
 clear c4
 refine Bh<|F1 (Value.slice (some ⟨bE,0,none⟩) (List.replicate p.capacity.length ((none,0,0):Hd)).length p.capacity.length) .z Db c5 Au Au Au Au ?_
 intro g1 b2 b3
 clear c5
 refine Ax<|Aw<|Aw<|Av<|A9<|AP 0 Db b3 Au Au Au<|A9<|AZ Try.underlying23 (Ib Au bZ) ?_
 replace bY:=bY.step (cR.trans (b0.trans b2))
 have f0:Cx .i64 (((List.replicate p.capacity.length ([]:List Int)).length:Nat):Int):=by rw [← bZ];exact HK bY
 refine Bb (Iv 0) Au<|Ax<|AC<|Wr [] [(1,Sl Ad b Cd),(2,Pt b1 0),(4,Value.slice none 0 0),(5,Pt aA 0),(8,Pt aD 0),(30,Iv ((List.replicate p.capacity.length ([]:List Int)).length:Int)),(31,Iv 0)] fun f1=>?_
 replace a9:=a9.step (b0.trans b2)
 refine Bf Yj (fun m fr w'=>∃(aE:Int) (Z:List (List Int)) (Ae:Option Addr) (Ce:Nat) (aM:Option Nat) (aN:Obj) (I:List Hd) (aC:Be) (a0:Be),a0=((some aD,Oc [Value.slice Ae I.length Ce] 23)::(aM,aN)::(some aA,Oc [Value.map (some b6)] 113)::(some b6,M)::(some b1,Oc [Sl Aa p.cells Ca,Sl Ab p.capacity Cb,Sl Ac p.variables Cc] 26)::aC)∧fr [] [(31,Iv aE)]∧b3.S (ks a0 O) w'∧St ⟨w,[],[]⟩ O w' a0∧Cx .i64 aE∧Gs QR 31 w' (ks a0 O) Ae Ce I aM aN∧Rows (AL .i64) 3 w' (ks a0 O) I aC Z∧I.length=Z.length∧BC (Ea p b X) m aE Z=some x) ((((List.replicate p.capacity.length ([]:List Int)).length:Int) - 0).toNat+1) ⟨0,List.replicate p.capacity.length ([]:List Int),some ⟨bE,0,none⟩,p.capacity.length,some bE,Obj.cells (List.replicate p.capacity.length (Value.slice none 0 0)).toArray 31,List.replicate p.capacity.length ((none,0,0):Hd),List.replicate p.capacity.length ((none:Option Nat),Obj.cells #[] 3),_,Au,BB.of ⟨Au,trivial⟩,AA.refl _ _,b3,E1,bY,a9,bZ,hm⟩ ?_ ?_
 rintro _ _ ⟨_,_,_,_,_,_,_,_,_,_,_,_,_,_,_,_,_,hm⟩;exact DI hm
 rintro g2 g3 eJ f2 g4 ⟨aE,Z,Ae,Ce,aM,aN,I,aC,_,rfl,b4,a2,aU,Rd,Fe,aG,aO,hm⟩
 obtain⟨f3,dL,hm⟩:=DJ hm;unfold Ea at hm
 rw [b4.eq];clear b4
 have b5:=a2
 refine Aw ?_
 clear bY a9
 refine Av<|A9<|By Au Au<|Ax<|Aw<|AF hm Au (fun eK hm=>?_) (fun eK hm=>?_)
 refine AG<|Aw<|AC<|Aw<|Av<|Bb (Iv aE) Au<|Bn (Iv aE) Au<|Ax<|B7 (g0:=[]) (m:=6) (fl:=[]) (CQ aU) Au (.inl Au) Au (by decide+kernel) ?_  -- 11
 refine Bc (Value.slice Ae I.length Ce) (fun _ _ _ hi ht=>AP 0 Db (AA.nx hi).1 (ht 8 Au) Au Au<|Gz hi)<|Bc (Iv aE) (fun _ _ _ hi ht=>AD (v:=Iv aE) (ht 9 Au)<|Gz hi)<|Bc (Pt b1 0) (fun _ _ _ hi ht=>AQ 0 B4 Au EX (ht 2 Au) Au<|Gz hi)<|Bc (Sl Aa p.cells Ca) (fun _ _ _ hi ht=>AP 4 EX (AA.nx hi).1 (ht 36 Au) Au Au<|Gz hi)<|Bc (Iv (p.cells.length:Int)) (fun _ _ _ hi ht=>AZ Try.underlying22 (ht 37 Au)<|Gz hi) ?_
 obtain⟨dM,hm⟩:=AE hm
 refine Bd (Vn O ((some aD,Oc [Value.slice Ae I.length Ce] 23)::(aM,aN)::(some aA,Oc [Value.map (some b6)] 113)::(some b6,M)::(some b1,Oc [Sl Aa p.cells Ca,Sl Ab p.capacity Cb,Sl Ac p.variables Cc] 26)::aC) 5 (AL .i64) 3 (List.replicate p.cells.length (0:Int))) Vn.stab (fun fH f4 g bS hi ht=>?_) ?_
 refine Ay<|GC (q:=(AL .i64)) (v:=Iv 0) (x0:=(0:Int)) Bl B6 hi (ht 38 Au) (ht 38 Au) dM Au (fun _ _=>(AU E1)) ?_
 intro f5 f6 dN eL dO eM
 exact GoesG.new dN eL dO eM
 refine BD fun f7 f8 dP dQ=>?_
 obtain⟨-,cS,-⟩:=dP
 rintro _ ⟨aV,aW,aR,aS,rfl,dR,bA⟩ _ rfl _ rfl _ rfl _ rfl _ rfl
 obtain⟨bF,c6⟩:=AA.nxK1 dQ dR
 have c7:=aU.to bF (cS.trans c6)
 replace bA:=bA.step c6;clear aU
 obtain⟨aX,hm⟩:=AE hm
 replace Fe:=Fe.step c7
 obtain⟨aI,rfl,rfl⟩:=Fe.at_ (by have h1:I.length=Z.length:=aO;omega)
 refine A9 (BA Db Bl Au Au Fe ⟨aX.1,by have h1:I.length=Z.length:=aO;have h2:=aX.2;omega⟩ ?_)
 rintro _ ⟨⟩ -
 refine Bh (FH (p:=QR) (vs:=[Sl aV (List.replicate p.cells.length (0:Int)) aW]) (yv:=((aV,(List.replicate p.cells.length (0:Int)).length,aW):Hd)) (i:=2) (m:=aE) Bl Au bF Au Au Au Au Fe ⟨aX.1,by have h1:I.length=Z.length:=aO;have h2:=aX.2;omega⟩ Au ?_)
 intro bB aY c8 b7 b8
 clear bF
 replace bA:=bA.step c8
 have c9:=(c7.trans c8)
 replace aG:=aG.step c9
 have a3:Rows (AL .i64) 3 bB (ks ((aR,aS)::(some aD,Oc [Value.slice (some ⟨aI,0,none⟩) I.length Ce] 23)::(some aI,aY)::(some aA,Oc [Value.map (some b6)] 113)::(some b6,M)::(some b1,Oc [Sl Aa p.cells Ca,Sl Ab p.capacity Cb,Sl Ac p.variables Cc] 26)::aC) O) (I.set aE.toNat ((aV,(List.replicate p.cells.length (0:Int)).length,aW):Hd)) (aC.set aE.toNat (aR,aS)) (Z.set aE.toNat (List.replicate p.cells.length (0:Int))):=Rows.set aE.toNat aG bA Au
 have b9:(I.set aE.toNat ((aV,(List.replicate p.cells.length (0:Int)).length,aW):Hd)).length=(Z.set aE.toNat (List.replicate p.cells.length (0:Int))).length:=(Rows.lens a3).1
 have dS:=(Rows.lens aG).2
 obtain⟨cA,dA⟩:St ⟨w,[],[]⟩ O bB ((some aD,Oc [Value.slice (some ⟨aI,0,none⟩) I.length Ce] 23)::(some aI,aY)::(some aA,Oc [Value.map (some b6)] 113)::(some b6,M)::(some b1,Oc [Sl Aa p.cells Ca,Sl Ab p.capacity Cb,Sl Ac p.variables Cc] 26)::(aC.set aE.toNat (aR,aS)))∧AA (ks ((aR,aS)::(some aD,Oc [Value.slice (some ⟨aI,0,none⟩) I.length Ce] 23)::(some aI,aY)::(some aA,Oc [Value.map (some b6)] 113)::(some b6,M)::(some b1,Oc [Sl Aa p.cells Ca,Sl Ab p.capacity Cb,Sl Ac p.variables Cc] 26)::aC) O) bB (ks ((some aD,Oc [Value.slice (some ⟨aI,0,none⟩) I.length Ce] 23)::(some aI,aY)::(some aA,Oc [Value.map (some b6)] 113)::(some b6,M)::(some b1,Oc [Sl Aa p.cells Ca,Sl Ab p.capacity Cb,Sl Ac p.variables Cc] 26)::(aC.set aE.toNat (aR,aS))) O) bB:=St.intoR (bs:=[(aR,aS),(some aD,Oc [Value.slice (some ⟨aI,0,none⟩) I.length Ce] 23),(some aI,aY),(some aA,Oc [Value.map (some b6)] 113),(some b6,M),(some b1,Oc [Sl Aa p.cells Ca,Sl Ab p.capacity Cb,Sl Ac p.variables Cc] 26)]) (R:=aC) (j:=0) (i:=aE.toNat) b7 Au (by have:=aX;omega)
 clear b7
 clear dS
 have dT:I.length=(Z.set aE.toNat (List.replicate p.cells.length (0:Int))).length:=by have h1:I.length=Z.length:=aO;rw [List.length_set];exact h1
 refine Ax<|Av<|A9<|Bg Au Au<|Bb (Iv (wq (aE+1))) Au<|Ax ?_
 have eN:I.length=(I.set aE.toNat ((aV,(List.replicate p.cells.length (0:Int)).length,aW):Hd)).length:=dT.trans (Eq.symm b9)
 have cB:St ⟨w,[],[]⟩ O bB ((some aD,Oc [Value.slice (some ⟨aI,0,none⟩) (I.set aE.toNat ((aV,(List.replicate p.cells.length (0:Int)).length,aW):Hd)).length Ce] 23)::(some aI,aY)::(some aA,Oc [Value.map (some b6)] 113)::(some b6,M)::(some b1,Oc [Sl Aa p.cells Ca,Sl Ab p.capacity Cb,Sl Ac p.variables Cc] 26)::(aC.set aE.toNat (aR,aS))):=by unfold Sl;rw [← eN];exact cA
 have dB:=St.stepR cB
 clear cA
 replace b5:=b5.trans (c9.trans (dA.trans dB))
 have dC:=(dA.trans dB)
 replace b8:=b8.step dC;replace a3:=a3.step dC
 exact eJ _ _ ⟨(wq (aE+1)),Z.set aE.toNat (List.replicate p.cells.length (0:Int)),some ⟨aI,0,none⟩,Ce,some aI,aY,I.set aE.toNat ((aV,(List.replicate p.cells.length (0:Int)).length,aW):Hd),aC.set aE.toNat (aR,aS),_,Au,BB.of ⟨Au,trivial⟩,b5,cB,(AT .i64 _),b8,a3,b9,GV dL hm⟩
 refine Bq<|Aw<|Aw<|Av<|A9<|B1 4 B4 aU Au Au Au<|Bb (Sl Ad b Cd) Au ?_
 obtain⟨cU,dU,hm⟩:=bd hm
 have dD:=(eG.trans (dK.trans (cR.trans (b0.trans (b2.trans a2)))))
 replace Fd:=Fd.step dD
 have eO:=(dK.trans (cR.trans (b0.trans (b2.trans a2))))
 replace Fb:=Fb.step eO
 replace Fa:=Fa.step (a1.trans (dK.trans (cR.trans (b0.trans (b2.trans a2)))));replace Fc:=Fc.step dD
 refine A9<|Bi aU Try.call84 (MG (p:=p) (b:=b) aU.ltw Fa Fb Fc Fd dU) Au ?_
 rintro eP dE dF cC eQ
 clear aU
 have F_y167:U0 Try.prog (Iu (vI .i64) (vA Ed)) _ _ eP cU:=eQ
 refine Ax<|AC ?_
 obtain⟨dG,dV,hm⟩:=Cy hm
 have a4:=F_y167;obtain⟨fJ,fK,cV,cW,a4⟩:=a4
 replace aG:=aG.step dF;replace Fe:=Fe.step dF
 refine IK (σ:=(List (List Int)) × (Option Addr) × Nat × (Option Nat) × Obj × (List Hd) × Be) (ps:=[45,46]) cC (rfl.trans cV) cW a4 Au Qg KT (fun s=>match s with |(G,Af,Cf,W,J,A,U)=>((some aD,Oc [Value.slice Af A.length Cf] 23)::(W,J)::(some aA,Oc [Value.map (some b6)] 113)::(some b6,M)::(some b1,Oc [Sl Aa p.cells Ca,Sl Ab p.capacity Cb,Sl Ac p.variables Cc] 26)::U)) (fun s w O=>match s with |(G,Af,Cf,W,J,A,U)=>Gs QR 31 w O Af Cf A W J∧Rows (AL .i64) 3 w O A U G∧A.length=G.length) (fun s w O w' O' p h=>by obtain⟨G,Af,Cf,W,J,A,U⟩:=s;have h:Gs QR 31 w O Af Cf A W J∧Rows (AL .i64) 3 w O A U G∧A.length=G.length:=h;obtain⟨Ff,N,Y⟩:=h;exact⟨Ff.step p,N.step p,Y⟩) (fun s l=>match s with |(G,Af,Cf,W,J,A,U)=>IU (FB X) dG l G=some x) [] (fun _ _=>False) (Z,Ae,Ce,aM,aN,I,aC) Au ⟨Fe,aG,aO⟩ hm ?_ ?_ ?_
 rintro f9 E177 ⟨G,Af,Cf,W,J,A,U⟩ F cD bC dW eR fL a5 bO ⟨Ff,N,Y⟩ hm bG
 replace a5:St eR (E177++O) bC ((some aD,Oc [Value.slice Af A.length Cf] 23)::(W,J)::(some aA,Oc [Value.map (some b6)] 113)::(some b6,M)::(some b1,Oc [Sl Aa p.cells Ca,Sl Ab p.capacity Cb,Sl Ac p.variables Cc] 26)::U):=a5
 have bH:AA (ks ((some aD,Oc [Value.slice Ae I.length Ce] 23)::(aM,aN)::(some aA,Oc [Value.map (some b6)] 113)::(some b6,M)::(some b1,Oc [Sl Aa p.cells Ca,Sl Ab p.capacity Cb,Sl Ac p.variables Cc] 26)::aC) O) dE (ks ((some aD,Oc [Value.slice Af A.length Cf] 23)::(W,J)::(some aA,Oc [Value.map (some b6)] 113)::(some b6,M)::(some b1,Oc [Sl Aa p.cells Ca,Sl Ab p.capacity Cb,Sl Ac p.variables Cc] 26)::U) (E177++O)) bC:=bO;clear bO
 replace Ff:Gs QR 31 bC (ks ((some aD,Oc [Value.slice Af A.length Cf] 23)::(W,J)::(some aA,Oc [Value.map (some b6)] 113)::(some b6,M)::(some b1,Oc [Sl Aa p.cells Ca,Sl Ab p.capacity Cb,Sl Ac p.variables Cc] 26)::U) (E177++O)) Af Cf A W J:=Ff
 replace N:Rows (AL .i64) 3 bC (ks ((some aD,Oc [Value.slice Af A.length Cf] 23)::(W,J)::(some aA,Oc [Value.map (some b6)] 113)::(some b6,M)::(some b1,Oc [Sl Aa p.cells Ca,Sl Ab p.capacity Cb,Sl Ac p.variables Cc] 26)::U) (E177++O)) A U G:=N
 replace Y:A.length=G.length:=Y
 have dX:=R4 (show IU _ _ (F::cD) G=some _ from hm);clear hm;obtain⟨fM,cX,hm⟩:=dX
 unfold FB at hm
 replace bG:(Iu (vI .i64) (vA Ed)) F bC (ks ((some aD,Oc [Value.slice Af A.length Cf] 23)::(W,J)::(some aA,Oc [Value.map (some b6)] 113)::(some b6,M)::(some b1,Oc [Sl Aa p.cells Ca,Sl Ab p.capacity Cb,Sl Ac p.variables Cc] 26)::U) (E177++O)) dW:=bG
 obtain⟨gA,gB,rfl,eS,eT⟩:=bG
 obtain⟨rfl,Re⟩:=eS
 obtain⟨_,rfl,⟨_,_,rfl,⟨_,_,rfl,rfl,⟨_,_,rfl,⟨rfl,Rf⟩,⟨rfl,Rg⟩⟩⟩,⟨rfl,Rh⟩⟩⟩:=eT
 refine Aw<|Av<|Bn (Iv F.1) Au<|Ax<|Av<|A9<|Bv Gc a5 ?_
 intro aT gC _ eU cE
 clear a5
 refine Bh<|C6 .z Gc cE Au Au Au Au Au ?_
 intro gD eV cF
 clear cE
 refine Ax<|Exists.intro _<|And.intro cF ?_
 intro gE eW RQ207 fN bI eX dY fO
 clear cF
 refine AC ?_
 clear Fd Fe aG
 refine B7 (g0:=[]) (m:=12) (fl:=[]) (CQ bI) Au (.inr Au) Au (by decide+kernel) ?_  -- 16
 refine Bc (Value.slice Af A.length Cf) (fun _ _ _ hi ht=>AP 1 Db (AA.nx hi).1 (ht 8 Au) Au Au<|Gz hi)<|Bc (Iv F.1) (fun _ _ _ hi ht=>AD (v:=Iv F.1) (ht 10 Au)<|Gz hi) ?_
 obtain⟨aK,hm⟩:=AE hm
 have cG:=(eU.trans (eV.trans eX))
 replace Ff:=Ff.step cG
 obtain⟨aH,rfl,rfl⟩:=Ff.at_ (by have h1:A.length=G.length:=Y;omega)
 refine BN (Value.pointer (some ⟨aH,F.1.toNat*1,none⟩)) (fun fP gF g bS hi ht=>?_) ?_
 obtain⟨-,cH,-⟩:=bS
 replace Ff:=Ff.step cH
 refine Ay (BA Db Bl (ht 47 Au) (ht 48 Au) Ff ⟨aK.1,by have h1:A.length=G.length:=Y;have h2:=aK.2;omega⟩ ?_)
 rintro _ ⟨⟩ -
 exact Gz hi
 refine BN (Value.slice (gt A F.1).1 (gt A F.1).2.1 (gt A F.1).2.2) (fun fQ gG g bS hi ht=>?_) ?_
 obtain⟨-,cH,-⟩:=bS
 replace Ff:=Ff.step cH
 have dZ:=(AA.nx hi).1
 refine Ay (F0 (p:=QR) (m:=F.1) (i:=2) Bl Au dZ Au (ht 49 Au) Ff ⟨aK.1,by have h1:A.length=G.length:=Y;have h2:=aK.2;omega⟩ ?_)
 intro gH eY;obtain rfl:=Vm eY
 exact Gz hi
 refine Bc (Value.map (some b6)) (fun _ _ _ hi ht=>AP 3 Sr (AA.nx hi).1 (ht 5 Au) Au Au<|Gz hi)<|Bc (Pt aT 0) (fun _ _ _ hi ht=>AQ 0 Gc Au Du (ht 11 Au) Au<|Gz hi)<|Bc (Value.agg [Bo F.2.cell.airport,Iv F.2.cell.index,Iv F.2.cell.minute].toArray) (fun _ _ _ hi ht=>G4 (vs:=[Bo F.2.cell.airport,Iv F.2.cell.index,Iv F.2.cell.minute]) (i:=0) Du (AA.nx hi).1 (ht 52 Au) Au Au Au<|Gz hi)<|Bc (Iv ((Bu X F.2.cell).getD 0)) (fun _ _ _ hi ht=>He (q:=HP) (m:=(Hm .i64)) (n:=F.2.cell) (z:=0) Try.underlying113 OV Try.zeroValue3 ((AA.nx hi).1.get (i:=4) Au) bV (And.intro Rf Rg) (ht 51 Au) (ht 53 Au)<|Gz hi) ?_
 replace N:=N.step cG
 obtain⟨fR,d0,d1⟩:=N.at_ (i:=F.1.toNat) (by have:=aK;omega)
 obtain⟨bJ,hm⟩:=AE hm
 obtain⟨dH,cI⟩:=d1 (by have:=bJ;omega)
 refine Bc (Value.pointer (some ⟨dH,((Bu X F.2.cell).getD 0).toNat*1,none⟩)) (fun _ _ _ hi ht=>KF (H:=gt A F.1) (row:=gt G F.1) (bl:=dH) Bl B6 (ht 50 Au) (ht 54 Au) cI d0 bJ<|Gz hi)<|Bd (VD _ _ (vI .i64) (gt (gt G F.1) ((Bu X F.2.cell).getD 0))) (VD.stab _ _) (fun fS gI g bS hi ht=>?_) ?_
 obtain⟨-,cH,-⟩:=bS
 replace N:=N.step cH
 have dZ:=(AA.nx hi).1
 refine Ay (R9 (m:=(Bu X F.2.cell).getD 0) (i:=F.1.toNat) [(some aT,Oc [Bo F.2.cell.airport,Iv F.2.cell.index,Iv F.2.cell.minute,Iv F.2.places] 76),(some aD,Oc [Value.slice (some ⟨aH,0,none⟩) A.length Cf] 23),(some aH,J),(some aA,Oc [Value.map (some b6)] 113),(some b6,M),(some b1,Oc [Sl Aa p.cells Ca,Sl Ab p.capacity Cb,Sl Ac p.variables Cc] 26)] U B6 Au dZ N (by have:=aK;omega) cI (ht 55 Au) bJ ?_)
 intro gJ eZ
 obtain⟨rfl,Ri⟩:=BK eZ
 exact Bs.same hi (show Vr.vd (vI .i64) _ _ _ _ from⟨Au,Ri⟩)
 refine Bc (Pt aT 3) (fun _ _ _ hi ht=>AQ 3 Gc Au B6 (ht 11 Au) Au<|Gz hi)<|Bc (Iv F.2.places) (fun _ _ _ hi ht=>AP 0 B6 (AA.nx hi).1 (ht 57 Au) Au Au<|Gz hi)<|BD fun e0 gK d2 d3=>?_
 obtain⟨-,cY,-⟩:=d2
 obtain⟨bK,e1⟩:=AA.nx d3
 rintro _ rfl _ rfl gL cJ
 replace cJ:Vr.vd (vI .i64) _ _ _ _:=cJ
 obtain⟨rfl,Rj⟩:=cJ
 rintro _ rfl _ rfl _ rfl _ rfl _ rfl _ rfl _ rfl _ rfl _ rfl
 have cK:=bI.to bK (cY.trans e1)
 clear bI
 refine A9<|Bg Au Au ?_
 replace N:=N.step cK
 obtain⟨d4,d5,d6⟩:=N.at_ (i:=F.1.toNat) (by have:=aK;omega)
 obtain⟨bL,hm⟩:=AE hm
 obtain⟨e2,cL⟩:=d6 (by have:=bL;omega)
 refine A9<|KF (H:=gt A F.1) (row:=gt G F.1) (bl:=e2) Bl B6 Au Au cL d5 bL ?_
 refine Bh (Nb (bs:=[(some aT,Oc [Bo F.2.cell.airport,Iv F.2.cell.index,Iv F.2.cell.minute,Iv F.2.places] 76),(some aD,Oc [Value.slice (some ⟨aH,0,none⟩) A.length Cf] 23),(some aH,J),(some aA,Oc [Value.map (some b6)] 113),(some b6,M),(some b1,Oc [Sl Aa p.cells Ca,Sl Ab p.capacity Cb,Sl Ac p.variables Cc] 26)]) (R:=U) (vs:=[Iv (wq ((gt (gt G F.1) ((Bu X F.2.cell).getD 0))+F.2.places))]) (m:=(Bu X F.2.cell).getD 0) (i:=F.1.toNat) (hd:=gt A F.1) B6 Au bK N (by have:=aK;omega) d4 cL Au Au Au bL (AU (AT .i64 _)) ?_)
 intro cM bD bP aZ aQ
 replace aZ:St eW (E177++O) cM ((some aT,Oc [Bo F.2.cell.airport,Iv F.2.cell.index,Iv F.2.cell.minute,Iv F.2.places] 76)::(some aD,Oc [Value.slice (some ⟨aH,0,none⟩) A.length Cf] 23)::(some aH,J)::(some aA,Oc [Value.map (some b6)] 113)::(some b6,M)::(some b1,Oc [Sl Aa p.cells Ca,Sl Ab p.capacity Cb,Sl Ac p.variables Cc] 26)::bD):=aZ
 replace bP:AA (ks ((some aT,Oc [Bo F.2.cell.airport,Iv F.2.cell.index,Iv F.2.cell.minute,Iv F.2.places] 76)::(some aD,Oc [Value.slice (some ⟨aH,0,none⟩) A.length Cf] 23)::(some aH,J)::(some aA,Oc [Value.map (some b6)] 113)::(some b6,M)::(some b1,Oc [Sl Aa p.cells Ca,Sl Ab p.capacity Cb,Sl Ac p.variables Cc] 26)::U) (E177++O)) e0 (ks ((some aT,Oc [Bo F.2.cell.airport,Iv F.2.cell.index,Iv F.2.cell.minute,Iv F.2.places] 76)::(some aD,Oc [Value.slice (some ⟨aH,0,none⟩) A.length Cf] 23)::(some aH,J)::(some aA,Oc [Value.map (some b6)] 113)::(some b6,M)::(some b1,Oc [Sl Aa p.cells Ca,Sl Ab p.capacity Cb,Sl Ac p.variables Cc] 26)::bD) (E177++O)) cM:=bP
 replace aQ:Rows (AL .i64) 3 cM (ks ((some aT,Oc [Bo F.2.cell.airport,Iv F.2.cell.index,Iv F.2.cell.minute,Iv F.2.places] 76)::(some aD,Oc [Value.slice (some ⟨aH,0,none⟩) A.length Cf] 23)::(some aH,J)::(some aA,Oc [Value.map (some b6)] 113)::(some b6,M)::(some b1,Oc [Sl Aa p.cells Ca,Sl Ab p.capacity Cb,Sl Ac p.variables Cc] 26)::bD) (E177++O)) A bD (G.set F.1.toNat ((gt G F.1).set ((Bu X F.2.cell).getD 0).toNat (wq ((gt (gt G F.1) ((Bu X F.2.cell).getD 0))+F.2.places)))):=aQ
 clear bK
 have d7:A.length=(G.set F.1.toNat ((gt G F.1).set ((Bu X F.2.cell).getD 0).toNat (wq ((gt (gt G F.1) ((Bu X F.2.cell).getD 0))+F.2.places)))).length:=(Rows.lens aQ).1
 have fT:A.length=(G.set F.1.toNat ((gt G F.1).set ((Bu X F.2.cell).getD 0).toNat (wq ((gt (gt G F.1) ((Bu X F.2.cell).getD 0))+F.2.places)))).length:=by have h1:A.length=G.length:=Y;rw [List.length_set];exact h1
 refine Ax ?_
 have d8:=aZ.drop 0
 have cN:=(aZ.dropS 0)
 clear aZ
 replace bH:=bH.trans (cG.trans (cK.trans (bP.trans cN)));replace aQ:=aQ.step cN
 replace Ff:=Ff.step (cK.trans (bP.trans cN))
 exact dY (G.set F.1.toNat ((gt G F.1).set ((Bu X F.2.cell).getD 0).toNat (wq ((gt (gt G F.1) ((Bu X F.2.cell).getD 0))+F.2.places))),some ⟨aH,0,none⟩,Cf,some aH,J,A,bD) _ _ d8 bH ⟨Ff,aQ,d7⟩ (Dc cX hm)
 rintro D293 ⟨G,Af,Cf,W,J,A,U⟩ bQ a6 bR ⟨Ff,N,Y⟩ hm
 replace a6:St ⟨w,[],D293::[]⟩ (D293::O) bQ ((some aD,Oc [Value.slice Af A.length Cf] 23)::(W,J)::(some aA,Oc [Value.map (some b6)] 113)::(some b6,M)::(some b1,Oc [Sl Aa p.cells Ca,Sl Ab p.capacity Cb,Sl Ac p.variables Cc] 26)::U):=a6
 replace bR:AA (ks ((some aD,Oc [Value.slice Ae I.length Ce] 23)::(aM,aN)::(some aA,Oc [Value.map (some b6)] 113)::(some b6,M)::(some b1,Oc [Sl Aa p.cells Ca,Sl Ab p.capacity Cb,Sl Ac p.variables Cc] 26)::aC) O) dE (ks ((some aD,Oc [Value.slice Af A.length Cf] 23)::(W,J)::(some aA,Oc [Value.map (some b6)] 113)::(some b6,M)::(some b1,Oc [Sl Aa p.cells Ca,Sl Ab p.capacity Cb,Sl Ac p.variables Cc] 26)::U) (D293::O)) bQ:=bR
 replace Ff:Gs QR 31 bQ (ks ((some aD,Oc [Value.slice Af A.length Cf] 23)::(W,J)::(some aA,Oc [Value.map (some b6)] 113)::(some b6,M)::(some b1,Oc [Sl Aa p.cells Ca,Sl Ab p.capacity Cb,Sl Ac p.variables Cc] 26)::U) (D293::O)) Af Cf A W J:=Ff
 replace N:Rows (AL .i64) 3 bQ (ks ((some aD,Oc [Value.slice Af A.length Cf] 23)::(W,J)::(some aA,Oc [Value.map (some b6)] 113)::(some b6,M)::(some b1,Oc [Sl Aa p.cells Ca,Sl Ab p.capacity Cb,Sl Ac p.variables Cc] 26)::U) (D293::O)) A U G:=N
 replace Y:A.length=G.length:=Y
 replace hm:=R3 (show IU _ _ [] G=some _ from hm)
 replace hm:=Dc dV (show dG G=some _ from hm)
 clear cC
 refine Aw ?_
 obtain⟨bM,e3⟩:=a6.sub (bs':=(some aD,Oc [Value.slice Af A.length Cf] 23)::(W,J)::U) (.cons_cons _ (.cons_cons _ (.cons _ (.cons _ (.cons _ (List.Sublist.refl _))))))
 clear Fa Fb Fc Fd Fe aG F_y167
 clear a6
 refine Av<|A9<|AP 0 Db bM Au Au Au<|A9<|Mx (v:=Value.slice Af G.length Cf) (Ib Au Y)<|Ax<|AV ?_
 obtain⟨e4,cZ,cO,e5⟩:=St.close bM
 clear bM
 have dI:=(e3.trans e5)
 replace N:=N.step dI;replace Ff:=Ff.step dI
 obtain⟨a7,gM,cP⟩:=Rows.publish (bs:=[(some aD,Oc [Value.slice Af A.length Cf] 23),(W,J)]) (R:=U) (j:=1) cO N Au Ff
 replace a7:St _ (D293::O) e4 [(some aD,Oc [Value.slice Af A.length Cf] 23)]:=a7
 clear cO
 have hz:=(G5 a7).trans (AA.sub (O':=O) (fun k hk=>by simp [hk]))
 refine⟨_,cZ,[Sl Af G Cf],⟨Au,trivial⟩,a7.ext,?_⟩
 replace cP:=cP.step hz
 exact Vr.eq (a:=vC (BG (BG (AL .i64)))) (x:=G) (Jy (B8 cP)) (oi hm)
 intro _ _ _ _ h;simp at h

abbrev TR:List Nat:=[6,7,8,20,21,22,23,24,25,26,27,28,29,30,31,32,33,34,35,36,37,38,39,40,41,42,43,44,45,46]

abbrev Sw:List Nat:=[4,5,6,7,8,13,14,15,16,17,18,19,20,21,22,23,24,25,26,27,28,29,30,31,32,33,34,35,36,37,38,39,40,41,42,43,44,45,46,47]

def D2 (I:A8) (A:(List (List Int))) (G:Int) (M:Int→Option (List (Az × Int))) (J:Int→Option (List (Az × Int))) (F:Int):Option (List (Az × Int)):=
 bif (decide (F<((A.getD G.toNat default).length:Int))) then
  ck ((0:Int)≤F∧F<((A.getD G.toNat default).length:Int))<|
  ck ((0:Int)≤G∧G<(I.capacity.length:Int))<|
  ck ((0:Int)≤F∧F<((I.capacity.getD G.toNat default).length:Int))<|
  bif (decide (0<(IntKind.wrap .i64 (((A.getD G.toNat default).getD F.toNat default) - ((I.capacity.getD G.toNat default).getD F.toNat default))))) then
   yl ((⟨G,F⟩:Az),(IntKind.wrap .i64 (((A.getD G.toNat default).getD F.toNat default) - ((I.capacity.getD G.toNat default).getD F.toNat default)))) (
   J (IntKind.wrap .i64 (F+1)))
  else
   J (IntKind.wrap .i64 (F+1))
 else
  M (IntKind.wrap .i64 (G+1))

def D3 (G:A8) (A:(List (List Int))) (I:Int→Option (List (Az × Int))) (F:Int):Option (List (Az × Int)):=
 bif (decide (F<(A.length:Int))) then
  ck ((0:Int)≤F∧F<(A.length:Int))<|
  B0 (D2 G A F I) ((((A.getD F.toNat default).length:Int) - 0).toNat+1) 0
 else
  some ([]:List (Az × Int))

def ES (F:A8) (G:List Int):Option (List (Az × Int)):=
 (G0 F G).bind fun A=>
 B0 (D3 F A) (((A.length:Int) - 0).toNat+1) 0

theorem JN {w:World} {O:List Nat} {M:A8} {aK:List Int} {U:Addr} {aE:Addr} (hO:∀k∈O,k<w.heap.size) (Fa:Ia FY w O U M) (Fb:Ia (BG (AL .i64)) w O aE aK) {L:List (Az × Int)} (I:ES M aK=some L):
 MX Try.prog w O 74 [Value.pointer (some U),Value.pointer (some aE)] (Iu (vA AO) (vI .i64)) L:=by
 unfold ES at I
 obtain⟨x,I,hL⟩:∃x,_=some x∧L=[]++x:=⟨L,I,Au⟩
 intro w1 O1 aU bL l J Jx hJ hJx hY h0
 refine Br (n:=48) (xs:=[]) Try.func74 Au Try.ntmps74 Try.results74 Au ?_
 have hs:=St.start bL
 have hI:=LM.start h0
 refine Aw<|Av ?_
 replace Fa:=Fa.step aU
 refine A9<|BE B4 Au Fa Au ?_
 intro b5 h2
 obtain⟨_,_,rfl,⟨Aa,Ca,rfl,Fc⟩,⟨_,_,rfl,⟨Ab,Cb,rfl,Fd⟩,⟨Ac,Cc,rfl,Fe⟩⟩⟩:=h2
 replace Fb:=Fb.step aU
 refine A9<|AR Bl Au Fb Au ?_
 intro v4 h5
 obtain⟨Ad,Cd,rfl,Ff⟩:=B9 h5
 obtain⟨A,bM,I⟩:=bd I
 refine A9<|Bi hs Try.call75 (LE (p:=M) (b:=aK) hs.ltw Fc Fd Fe Ff bM) Au ?_
 rintro v8 w9 bN aV bO
 obtain⟨Ae,Ce,rfl,Fg⟩:=B9 bO
 refine A9<|AZ Try.underlying23 Au ?_
 have bX:=AX Fg
 refine Bb (Iv 0) Au<|Ax<|AC<|Wr [] [(0,Value.func (.yield l) #[] #[]),(1,Value.pointer (some U)),(11,Sl Ae A Ce),(12,Iv (A.length:Int)),(13,Iv 0)] fun aL=>Bf Sw (fun m fr w'=>∃(F:Int) (aF W:List (Az × Int)) (aG:World) (aH Oz21:List Nat) (aC:Be),aC=[]∧fr [] [(13,Iv F)]∧aV.S (ks aC Oz21) w'∧St ⟨aG,aH,[]⟩ Oz21 w' aC∧Cx .i64 F∧LM J W ⟨aG,aH,[]⟩ Oz21∧L=W++aF∧B0 (D3 M A) m F=some aF) (((A.length:Int) - 0).toNat+1) ⟨0,x,([]:List _),w1,[],O1,_,Au,BB.of ⟨Au,trivial⟩,AA.refl _ _,aV,E1,hI,hL,I⟩ ?_ ?_
 rintro _ _ ⟨_,_,_,_,_,_,_,_,_,_,_,_,_,_,I⟩;exact CF I
 rintro b8 b9 a5 bY cA ⟨F,aF,W,aG,aH,Oz21,_,rfl,aM,aD,aN,Ra,aW,aO,I⟩
 obtain⟨a6,a4,I⟩:=CG I;unfold D3 at I
 rw [aM.eq];clear aM
 have aP:=aD
 refine Aw ?_
 clear Fb Fc Fd Fe Ff
 refine Av<|A9<|By Au Au<|Ax<|Aw<|AF I Au (fun a7 I=>?_) (fun a7 I=>?_)
 refine AG<|Aw<|AC<|Aw<|Av<|Bb (Iv F) Au ?_
 obtain⟨aX,I⟩:=AE I
 replace Fg:=Fg.step aD
 refine A9<|AB (q:=BG (AL .i64)) Db Bl Au Au Fg Au aX.1 aX.2 ?_
 intro cB a8
 refine A9<|AR Bl Au a8 Au ?_
 intro cC bP
 obtain⟨Af,Cf,rfl,Fh⟩:=B9 bP
 refine Bn (Iv F) Au<|Bn (Sl Af (gt A F) Cf) Au<|Ax<|Aw ?_
 clear a8
 refine Av<|Bb (Sl Af (gt A F) Cf) Au<|A9<|AZ Try.underlying31 Au ?_
 have bZ:=AX Fh
 refine Bb (Iv 0) Au<|Ax<|AC<|Ic Sw [] (CO ⟨aL,[]⟩ [(0,Value.func (.yield l) #[] #[]),(1,Value.pointer (some U)),(11,Sl Ae A Ce),(12,Iv (A.length:Int)),(13,Iv 0)]) [(4,Iv F),(13,Iv F),(18,Sl Af (gt A F) Cf),(19,Iv ((gt A F).length:Int)),(20,Iv 0)] fun aY=>Bf TR (fun m fr w'=>∃(G:Int) (Y N:List (Az × Int)) (Z:World) (aA Oz48:List Nat) (aC:Be),aC=[]∧fr [] [(20,Iv G)]∧aN.S (ks aC Oz48) w'∧St ⟨Z,aA,[]⟩ Oz48 w' aC∧Cx .i64 G∧LM J N ⟨Z,aA,[]⟩ Oz48∧L=N++Y∧B0 (D2 M A F a6) m G=some Y) ((((gt A F).length:Int) - 0).toNat+1) ⟨0,aF,W,aG,aH,Oz21,_,Au,BB.of ⟨Au,trivial⟩,AA.refl _ _,aN,E1,aW,aO,I⟩ ?_ ?_
 rintro _ _ ⟨_,_,_,_,_,_,_,_,_,_,_,_,_,_,I⟩;exact CF I
 rintro cD cE aZ b0 cF ⟨G,Y,N,Z,aA,Oz48,_,rfl,aQ,X,aI,Rb,aR,aB,I⟩
 obtain⟨b1,aS,I⟩:=CG I;unfold D2 at I
 rw [aQ.eq];clear aQ
 have aJ:=X
 refine Aw<|Av<|A9<|By Au Au<|Ax<|Aw<|AF I Au (fun a9 I=>?_) (fun a9 I=>?_)
 refine AG<|Aw<|AC<|Aw<|Av<|Bb (Iv G) Au ?_
 obtain⟨a0,I⟩:=AE I
 replace Fh:=Fh.step X
 refine A9<|AB (q:=(AL .i64)) Bl B6 Au Au Fh Au a0.1 a0.2 ?_
 intro cG bA
 refine A9<|AR B6 Au bA Au ?_
 intro cH bQ
 obtain⟨rfl,Rc⟩:=BK bQ
 refine Bn (Iv G) Au<|Bn (Iv (gt (gt A F) G)) Au<|Ax<|Aw ?_
 clear bA
 refine Av<|Bb (Iv (gt (gt A F) G)) Au<|A9<|B5 B4 Au Db (by decide) Au Au ?_
 replace Fa:=Fa.step (bN.trans (aD.trans X))
 have bB:=Fa.via.snd.fst
 refine A9<|AR Db Au bB Au ?_
 intro cI bR
 obtain⟨Ag,Cg,rfl,Fi⟩:=B9 bR
 refine Bb (Iv F) Au ?_
 obtain⟨a1,I⟩:=AE I
 refine A9<|AB (q:=BG (AL .i64)) Db Bl Au Au Fi Au a1.1 a1.2 ?_
 intro cJ bC
 refine A9<|AR Bl Au bC Au ?_
 intro cK bS
 obtain⟨Ah,Ch,rfl,Fj⟩:=B9 bS
 refine Bb (Iv G) Au ?_
 obtain⟨a2,I⟩:=AE I
 refine A9<|AB (q:=(AL .i64)) Bl B6 Au Au Fj Au a2.1 a2.2 ?_
 intro cL bD
 refine A9<|AR B6 Au bD Au ?_
 intro cM bT
 obtain⟨rfl,Rd⟩:=BK bT
 refine A9<|FN Au Au<|Bn (Iv (wq ((gt (gt A F) G) - (gt (gt M.capacity F) G)))) Au<|Ax<|Aw ?_
 clear bB Fi bC Fj bD
 refine Av<|Bb (Iv (wq ((gt (gt A F) G) - (gt (gt M.capacity F) G)))) Au<|A9<|EB Au Au<|Bb (Bo (decide (0<(wq ((gt (gt A F) G) - (gt (gt M.capacity F) G)))))) Au<|Bz I (fun bE I=>?_) (fun bE I=>?_)
 refine BO Au Au<|AD (v:=Value.func (.yield l) #[] #[]) Au<|BO Au Au<|AD (v:=Iv F) Au<|BO Au Au<|AD (v:=Iv G) Au<|BO Au Au<|DM (vs:=[Iv F,Iv G]) (parts:=[(0,.tmp 39),(1,.tmp 40)]) C5 US Au<|BO Au Au<|AD (v:=Iv (wq ((gt (gt A F) G) - (gt (gt M.capacity F) G)))) Au ?_
 obtain⟨aT,I,bF⟩:=Se I
 rw [bF] at aB
 refine BO Au Au (Qi (pre:=N) (a:=((⟨F,G⟩:Az),(wq ((gt (gt A F) G) - (gt (gt M.capacity F) G))))) Au Au hY hJ aR aI ⟨aT,by rw [aB];simp⟩ (show(Iu (vA AO) (vI .i64)) _ _ _ _ from⟨_,_,Au,JX (C2 (AW (AU Ra) (AU Rb))),⟨Au,(AT .i64 _)⟩⟩) ?_ ?_)
 intro bU O89 bG bV bH
 clear aI
 have bI:L=(N++[((⟨F,G⟩:Az),(wq ((gt (gt A F) G) - (gt (gt M.capacity F) G))))])++aT:=by rw [aB];simp
 refine BO Au Au<|Do Au<|FM (Bo false) Au Au<|Ax<|GG Au<|AG<|Ic TR [] (CO (JE Sw [] aY (CO ⟨aL,[]⟩ [(0,Value.func (.yield l) #[] #[]),(1,Value.pointer (some U)),(11,Sl Ae A Ce),(12,Iv (A.length:Int)),(13,Iv 0)])) [(4,Iv F),(13,Iv F),(18,Sl Af (gt A F) Cf),(19,Iv ((gt A F).length:Int)),(20,Iv 0)]) [(20,Iv G),(38,Value.func (.yield l) #[] #[]),(39,Iv F),(40,Iv G),(41,Value.agg [Iv F,Iv G].toArray),(42,Iv (wq ((gt (gt A F) G) - (gt (gt M.capacity F) G)))),(43,Bo true),(44,Bo false)] fun b2=>Av<|A9<|Bg Au Au<|Bb (Iv (wq (G+1))) Au<|Ax ?_
 replace aJ:=aJ.trans bV
 exact aZ _ _ ⟨(wq (G+1)),aT,N++[((⟨F,G⟩:Az),(wq ((gt (gt A F) G) - (gt (gt M.capacity F) G))))],bU,List.filterMap Prod.fst [],O89,_,Au,BB.of ⟨Au,trivial⟩,aJ,bG,(AT .i64 _),bH,bI,Dc aS I⟩
 intro cN O96 bJ bK
 exact BO Au Au<|Do Au<|FM (Bo true) Au Au<|Ax<|Hu Au<|AV<|⟨_,DX,[],trivial,_,.inr ⟨_,bK.fin hJx bJ⟩⟩
 iterate 7 refine AI Au (AJ Au Au) Au ?_
 exact F8 (Bo false) Au Au<|Ax<|GG Au<|AG<|Ic TR [] (CO (JE Sw [] aY (CO ⟨aL,[]⟩ [(0,Value.func (.yield l) #[] #[]),(1,Value.pointer (some U)),(11,Sl Ae A Ce),(12,Iv (A.length:Int)),(13,Iv 0)])) [(4,Iv F),(13,Iv F),(18,Sl Af (gt A F) Cf),(19,Iv ((gt A F).length:Int)),(20,Iv 0)]) [(20,Iv G)] fun bW=>Av<|A9<|Bg Au Au<|Bb (Iv (wq (G+1))) Au<|Ax<|aZ _ _ ⟨(wq (G+1)),Y,N,Z,aA,Oz48,_,Au,BB.of ⟨Au,trivial⟩,aJ,aI,(AT .i64 _),aR,aB,Dc aS I⟩
 refine Bq ?_
 clear Fh
 refine Av<|A9<|Bg Au Au<|Bb (Iv (wq (F+1))) Au<|Ax ?_
 replace aP:=aP.trans X
 exact a5 _ _ ⟨(wq (F+1)),Y,N,Z,aA,Oz48,_,Au,BB.of ⟨Au,trivial⟩,aP,aI,(AT .i64 _),aR,aB,Dc a4 I⟩
 refine Bq ?_
 have a3:=aW.fin hJ aN
 rw [← Option.some.inj I,List.append_nil] at aO;rw [← aO] at a3
 exact⟨_,DX,[],trivial,_,.inl a3⟩

def FC (p:A8) (b:List Int):Option (List (Az × Int)):=
 (ES p b).bind fun A=>
 some A

theorem Kw {w:World} {O:List Nat} {p:A8} {b:List Int} {Aa:Option Addr} {Ca:Nat} {Ab:Option Addr} {Cb:Nat} {Ac:Option Addr} {Cc:Nat} {Ad:Option Addr} {Cd:Nat} (hO:∀k∈O,k<w.heap.size) (Fa:CA Bx w O Aa Ca p.cells) (Fb:CA (BG (AL .i64)) w O Ab Cb p.capacity) (Fc:CA AS w O Ac Cc p.variables) (Fd:CA (AL .i64) w O Ad Cd b) {x:(List (Az × Int))} (Y:FC p b=some x):
 Ok Try.prog 48 [Value.agg (BS p Aa Ca Ab Cb Ac Cc).toArray,Sl Ad b Cd] w O (Vj Try.prog (Iu (vA AO) (vI .i64))) x:=by
 unfold FC at Y
 refine Br (n:=6) (xs:=[.tmp 4]) Try.func48 Au Try.ntmps48 Try.results48 Au ?_
 have hs:=St.start hO
 refine Aw<|Av<|A9<|BT (cs:=(BS p Aa Ca Ab Cb Ac Cc)) hs Au Au ?_
 intro J w2 _ p3 M
 refine A9<|BT (cs:=[Sl Ad b Cd]) M Au Au ?_
 intro N w7 _ p8 U
 clear M
 refine Bn (Value.nilFunc) Au<|Ax<|Aw<|Av ?_
 have F:=(p3.trans p8)
 replace Fb:=Fb.step F;replace Fa:=Fa.step F;replace Fc:=Fc.step F
 obtain⟨G,Z,I⟩:=St.publishP (p:=FY) (i:=1) (x:=p) U Au (C2 (AW (B8 Fa) (AW (B8 Fb) (B8 Fc))))
 clear U
 replace Fd:=Fd.step (F.trans Z)
 obtain⟨A,aA,aB⟩:=St.publishP (p:=BG (AL .i64)) (i:=0) (x:=b) G Au (B8 Fd)
 clear G
 refine A9<|Gl (a':=[]) (c':=[Value.pointer (some (⟨J,0,none⟩:Addr)),Value.pointer (some (⟨N,0,none⟩:Addr))]) Au Au ?_
 obtain⟨W,X,Y⟩:=bd Y
 replace I:=I.step aA
 have F19:U0 Try.prog (Iu (vA AO) (vI .i64)) w7 (ks [] O) (Value.func (.func 74) #[] #[Value.pointer (some (⟨J,0,none⟩:Addr)),Value.pointer (some (⟨N,0,none⟩:Addr))]) W:=⟨74,[Value.pointer (some (⟨J,0,none⟩:Addr)),Value.pointer (some (⟨N,0,none⟩:Addr))],Au,Try.call74,JN A.ltw I aB X⟩
 refine Bn (Value.func (.func 74) #[] #[Value.pointer (some (⟨J,0,none⟩:Addr)),Value.pointer (some (⟨N,0,none⟩:Addr))]) Au<|Ax<|AV ?_
 have hz:=G5 A
 refine⟨_,DX,[Value.func (.func 74) #[] #[Value.pointer (some (⟨J,0,none⟩:Addr)),Value.pointer (some (⟨N,0,none⟩:Addr))]],⟨Au,trivial⟩,A.ext,?_⟩
 replace F19:=F19.step hz
 exact Vr.eq (a:=Vj Try.prog (Iu (vA AO) (vI .i64))) (x:=W) F19 (oi Y)

abbrev VH:List Nat:=[9,10,11,12,31,32,33,34,35,36,37,38,39,40,41,42,43,44,45,46,47,48,49,50,51,52,53,54,55,56,57,58,59,60,61,62,63,64,65,66,67,68,69,70,71,72,73,74,93]

def FV (F:(List Int)→Option ((List Int) × Int)) (G:Az × Int) (A:List Int):Option ((List Int) × Int):=
 ck ((0:Int)≤(0:Int)∧(0:Int)<(A.length:Int))<|
 ck ((0:Int)≤(0:Int)∧(0:Int)<(A.length:Int))<|
 F (A.set 0 (IntKind.wrap .i64 ((A.getD 0 default)+G.2)))

def DD (p:A8) (choices:List Int) (G:Int→(List Int)→Option ((List Int) × Int)) (F:Int) (A:List Int):Option ((List Int) × Int):=
 bif (decide (F<(choices.length:Int))) then
  ck ((0:Int)≤F∧F<(choices.length:Int))<|
  ck ((0:Int)≤F∧F<(p.variables.length:Int))<|
  ck ((0:Int)≤(choices.getD F.toNat default)∧(choices.getD F.toNat default)<(((p.variables.getD F.toNat default).choices).length:Int))<|
  ck ((0:Int)≤F∧F<(p.variables.length:Int))<|
  ck ((0:Int)≤(1:Int)∧(1:Int)<(A.length:Int))<|
  ck ((0:Int)≤(1:Int)∧(1:Int)<(A.length:Int))<|
  ck ((0:Int)≤(2:Int)∧(2:Int)<((A.set 1 (max (A.getD 1 default) ((((p.variables.getD F.toNat default).choices).getD (choices.getD F.toNat default).toNat default).delay))).length:Int))<|
  ck ((0:Int)≤(2:Int)∧(2:Int)<((A.set 1 (max (A.getD 1 default) ((((p.variables.getD F.toNat default).choices).getD (choices.getD F.toNat default).toNat default).delay))).length:Int))<|
  ck ((0:Int)≤(3:Int)∧(3:Int)<(((A.set 1 (max (A.getD 1 default) ((((p.variables.getD F.toNat default).choices).getD (choices.getD F.toNat default).toNat default).delay))).set 2 (IntKind.wrap .i64 (((A.set 1 (max (A.getD 1 default) ((((p.variables.getD F.toNat default).choices).getD (choices.getD F.toNat default).toNat default).delay))).getD 2 default)+(IntKind.wrap .i64 (((((p.variables.getD F.toNat default).choices).getD (choices.getD F.toNat default).toNat default).cost)*(((p.variables.getD F.toNat default).leaves).length:Int)))))).length:Int))<|
  ck ((0:Int)≤(3:Int)∧(3:Int)<(((A.set 1 (max (A.getD 1 default) ((((p.variables.getD F.toNat default).choices).getD (choices.getD F.toNat default).toNat default).delay))).set 2 (IntKind.wrap .i64 (((A.set 1 (max (A.getD 1 default) ((((p.variables.getD F.toNat default).choices).getD (choices.getD F.toNat default).toNat default).delay))).getD 2 default)+(IntKind.wrap .i64 (((((p.variables.getD F.toNat default).choices).getD (choices.getD F.toNat default).toNat default).cost)*(((p.variables.getD F.toNat default).leaves).length:Int)))))).length:Int))<|
  G (IntKind.wrap .i64 (F+1)) (((A.set 1 (max (A.getD 1 default) ((((p.variables.getD F.toNat default).choices).getD (choices.getD F.toNat default).toNat default).delay))).set 2 (IntKind.wrap .i64 (((A.set 1 (max (A.getD 1 default) ((((p.variables.getD F.toNat default).choices).getD (choices.getD F.toNat default).toNat default).delay))).getD 2 default)+(IntKind.wrap .i64 (((((p.variables.getD F.toNat default).choices).getD (choices.getD F.toNat default).toNat default).cost)*(((p.variables.getD F.toNat default).leaves).length:Int)))))).set 3 (IntKind.wrap .i64 ((((A.set 1 (max (A.getD 1 default) ((((p.variables.getD F.toNat default).choices).getD (choices.getD F.toNat default).toNat default).delay))).set 2 (IntKind.wrap .i64 (((A.set 1 (max (A.getD 1 default) ((((p.variables.getD F.toNat default).choices).getD (choices.getD F.toNat default).toNat default).delay))).getD 2 default)+(IntKind.wrap .i64 (((((p.variables.getD F.toNat default).choices).getD (choices.getD F.toNat default).toNat default).cost)*(((p.variables.getD F.toNat default).leaves).length:Int)))))).getD 3 default)+(IntKind.wrap .i64 (((((p.variables.getD F.toNat default).choices).getD (choices.getD F.toNat default).toNat default).changes)*(((p.variables.getD F.toNat default).leaves).length:Int))))))
 else
  ck (A.length=4)<|
  some (A,0)

def GA (p:A8) (choices:List Int):Option ((List Int) × Int):=
 (G9 p choices).bind fun F=>
 bif (decide (F≠0)) then
  some (([]:List Int),F)
 else
  (FC p choices).bind fun A=>
  jn (fun(G:List Int)=>
   BC (DD p choices) (((choices.length:Int) - 0).toNat+1) 0 G)
  (fun I=>
   IU FV I A ([0,0,0,0]:List Int))

theorem Mb {w:World} {O:List Nat} {p:A8} {choices:List Int} {Aa:Option Addr} {Ca:Nat} {Ab:Option Addr} {Cb:Nat} {Ac:Option Addr} {Cc:Nat} {Ad:Option Addr} {Cd:Nat} (hO:∀k∈O,k<w.heap.size) (Fa:CA Bx w O Aa Ca p.cells) (Fb:CA (BG (AL .i64)) w O Ab Cb p.capacity) (Fc:CA AS w O Ac Cc p.variables) (Fd:CA (AL .i64) w O Ad Cd choices) {x:(List Int) × Int} (N:GA p choices=some x):
 OkF Try.prog 14 [Value.agg (BS p Aa Ca Ab Cb Ac Cc).toArray,Sl Ad choices Cd] w O (Ns (vC (BG (AL .i64))) (vI .i64)) x:=by
 unfold GA at N
 refine Br (n:=76) (xs:=[.tmp 4,.tmp 5]) Try.func14 Au Try.ntmps14 Try.results14 Au ?_
 have hs:=St.start hO
 refine Aw<|Av<|A9<|BT (cs:=(BS p Aa Ca Ab Cb Ac Cc)) hs Au Au ?_
 intro b1 w2 _ p3 bQ
 refine Bn (Value.slice none 0 0) Au<|Bn (Iv 0) Au<|Ax<|Aw<|Aw<|Av<|A9<|B1 0 B4 bQ Au Au Au<|Bb (Sl Ad choices Cd) Au ?_
 obtain⟨U,d1,N⟩:=bd N
 replace Fd:=Fd.step p3;replace Fb:=Fb.step p3;replace Fa:=Fa.step p3;replace Fc:=Fc.step p3
 refine A9<|Bi bQ Try.call47 (Ma (p:=p) (choices:=choices) bQ.ltw Fa Fb Fc Fd d1) Au ?_
 rintro v7 w8 d2 aQ d3
 clear bQ
 obtain⟨rfl,Ra⟩:=d3
 refine Bn (Iv U) Au<|Ax<|Aw<|Av<|Bb (Iv U) Au<|A9<|Eh Au Au<|Ax<|AF N Au (fun cH N=>?_) (fun cH N=>?_)
 refine Aw ?_
 obtain⟨cI,gM⟩:=aQ.sub (bs':=[]) (.cons _ List.Sublist.slnil)
 clear Fa Fb Fc Fd
 clear aQ
 refine Av<|Bb (Iv U) Au<|Bn (Value.slice none 0 0) Au<|Bn (Iv U) Au<|Ax<|AV ?_
 have cJ:=St.fresh (O:=O) cI (fun k hk=>hk)
 refine⟨_,DX,[Value.slice none 0 0,Iv U],⟨Au,Au,trivial⟩,cJ.ext,?_⟩
 exact Vr.eq (a:=Ns (vC (BG (AL .i64))) (vI .i64)) (x:=(([]:List Int),U)) (Ly (Jy (B8 CA.nil_)) ⟨Au,Ra⟩) (oi N)
 refine AG<|Aw<|Av<|A9<|Bv Oz aQ ?_
 intro M d4 _ d5 aR
 clear aQ
 have aU:=Gs.of_cells (p:=(AL .i64)) (e:=93) (bl:=M) (c:=4) (w:=d4) (O:=ks [(some M,Obj.cells [Iv 0,Iv 0,Iv 0,Iv 0].toArray 93),(some b1,Oc (BS p Aa Ca Ab Cb Ac Cc) 26)] O) (show E0 (AL .i64) _ _ [Iv 0,Iv 0,Iv 0,Iv 0] ([0,0,0,0]:List Int) from⟨_,_,Au,AU E1,⟨_,_,Au,AU E1,⟨_,_,Au,AU E1,⟨_,_,Au,AU E1,E0.nil⟩⟩⟩⟩) Au (BQ Au)
 refine Ax<|Aw<|Aw<|Av<|A9<|B1 1 B4 aR Au Au Au<|Bb (Sl Ad choices Cd) Au ?_
 obtain⟨aE,cK,N⟩:=bd N
 have bR:=(d2.trans d5)
 replace Fd:=Fd.step bR;replace Fb:=Fb.step bR;replace Fa:=Fa.step bR;replace Fc:=Fc.step bR
 refine A9<|Bi aR Try.call48 (Kw (p:=p) (b:=choices) aR.ltw Fa Fb Fc Fd cK) Au ?_
 rintro d6 cL cM bX d7
 clear aR
 have F_y32:U0 Try.prog (Iu (vA AO) (vI .i64)) _ _ d6 aE:=d7
 refine Ax<|AC ?_
 obtain⟨cN,cO,N⟩:=Cy N
 have aK:=F_y32;obtain⟨eZ,e0,b4,b5,aK⟩:=aK
 replace aU:=aU.step cM
 refine IK (σ:=(List Int) × Obj) (ps:=[22,23]) bX (rfl.trans b4) b5 aK Au Qg KT (fun s=>match s with |(G,I)=>[(some M,I),(some b1,Oc (BS p Aa Ca Ab Cb Ac Cc) 26)]) (fun s w O=>match s with |(G,I)=>Gs (AL .i64) 93 w O (some ⟨M,0,none⟩) 4 G (some M) I) (fun s w O w' O' p h=>by obtain⟨G,I⟩:=s;have h:Gs (AL .i64) 93 w O (some ⟨M,0,none⟩) 4 G (some M) I:=h;have Fe:=h;exact Fe.step p) (fun s l=>match s with |(G,I)=>IU FV cN l G=some x) [] (fun _ _=>False) (([0,0,0,0]:List Int),Obj.cells [Iv 0,Iv 0,Iv 0,Iv 0].toArray 93) Au aU N ?_ ?_ ?_
 rintro gN E42 ⟨G,I⟩ aA bS bT cP d8 e1 aS aV Fe N aW
 replace aS:St d8 (E42++O) bT [(some M,I),(some b1,Oc (BS p Aa Ca Ab Cb Ac Cc) 26)]:=aS
 have aX:AA (ks [(some M,Obj.cells [Iv 0,Iv 0,Iv 0,Iv 0].toArray 93),(some b1,Oc (BS p Aa Ca Ab Cb Ac Cc) 26)] O) cL (ks [(some M,I),(some b1,Oc (BS p Aa Ca Ab Cb Ac Cc) 26)] (E42++O)) bT:=aV;clear aV
 replace Fe:Gs (AL .i64) 93 bT (ks [(some M,I),(some b1,Oc (BS p Aa Ca Ab Cb Ac Cc) 26)] (E42++O)) (some ⟨M,0,none⟩) 4 G (some M) I:=Fe
 have cQ:=R4 (show IU _ _ (aA::bS) G=some _ from N);clear N;obtain⟨e2,b6,N⟩:=cQ
 unfold FV at N
 replace aW:(Iu (vA AO) (vI .i64)) aA bT (ks [(some M,I),(some b1,Oc (BS p Aa Ca Ab Cb Ac Cc) 26)] (E42++O)) cP:=aW
 obtain⟨gO,gP,rfl,d9,eA⟩:=aW
 obtain⟨_,rfl,⟨_,_,rfl,⟨rfl,Rb⟩,⟨rfl,Rc⟩⟩⟩:=d9
 obtain⟨rfl,Rd⟩:=eA
 refine Av<|Bn (Iv aA.2) Au<|Ax<|Exists.intro _<|And.intro aS ?_
 intro gQ gR RQ64 e3 aY cR cS e4
 clear aS
 refine AC ?_
 clear aU
 refine Av ?_
 obtain⟨bY,N⟩:=AE N
 replace Fe:=Fe.step cR
 refine A9<|FR Oz B6 Au Au Fe bY<|A9<|F0 (m:=0) (i:=0) B6 Au aY Au Au Fe bY ?_
 intro gS eB
 obtain⟨rfl,Re⟩:=BK eB
 refine Bb (Iv aA.2) Au<|A9<|Bg Au Au ?_
 obtain⟨bZ,N⟩:=AE N
 refine A9<|FR Oz B6 Au Au Fe bZ<|Bh<|FH (vs:=[Iv (wq ((G.getD 0 default)+aA.2))]) (i:=0) (m:=0) B6 Au aY Au Au Au Au Fe bZ (AU (AT .i64 _)) ?_
 intro gT eC eD cT b7
 replace b7:Gs _ _ _ _ _ _ (G.set 0 (wq ((G.getD 0 default)+aA.2))) _ _:=b7
 clear aY
 refine Ax ?_
 replace aX:=aX.trans (cR.trans eD)
 exact cS (G.set 0 (wq ((G.getD 0 default)+aA.2)),eC) _ _ cT aX b7 (Dc b6 N)
 rintro D80 ⟨G,I⟩ b8 aT aL Fe N
 replace aT:St ⟨w,[],D80::[]⟩ (D80::O) b8 [(some M,I),(some b1,Oc (BS p Aa Ca Ab Cb Ac Cc) 26)]:=aT
 replace aL:AA (ks [(some M,Obj.cells [Iv 0,Iv 0,Iv 0,Iv 0].toArray 93),(some b1,Oc (BS p Aa Ca Ab Cb Ac Cc) 26)] O) cL (ks [(some M,I),(some b1,Oc (BS p Aa Ca Ab Cb Ac Cc) 26)] (D80::O)) b8:=aL
 replace Fe:Gs (AL .i64) 93 b8 (ks [(some M,I),(some b1,Oc (BS p Aa Ca Ab Cb Ac Cc) 26)] (D80::O)) (some ⟨M,0,none⟩) 4 G (some M) I:=Fe
 replace N:=R3 (show IU _ _ [] G=some _ from N)
 replace N:=Dc cO (show cN G=some _ from N)
 clear bX
 refine Aw<|Aw ?_
 clear aU F_y32
 refine Av<|Bb (Sl Ad choices Cd) Au<|A9<|AZ Try.underlying31 Au ?_
 have cU:=(cM.trans aL)
 replace Fd:=Fd.step cU
 have e5:=AX Fd
 refine Bb (Iv 0) Au<|Ax<|AC<|Wr (D80::[]) [(2,Pt b1 0),(6,Pt M 0),(29,Sl Ad choices Cd),(30,Iv (choices.length:Int)),(31,Iv 0)] fun cV=>Bf VH (fun m fr w'=>∃(A:Int) (F:List Int) (Z:Obj) (bU:Be),bU=[(some M,Z),(some b1,Oc (BS p Aa Ca Ab Cb Ac Cc) 26)]∧fr (D80::[]) [(31,Iv A)]∧aT.S (ks bU (D80::O)) w'∧St ⟨w,[],D80::[]⟩ (D80::O) w' bU∧Cx .i64 A∧Gs (AL .i64) 93 w' (ks bU (D80::O)) (some ⟨M,0,none⟩) 4 F (some M) Z∧BC (DD p choices) m A F=some x) (((choices.length:Int) - 0).toNat+1) ⟨0,G,I,_,Au,BB.of ⟨Au,trivial⟩,AA.refl _ _,aT,E1,Fe,N⟩ ?_ ?_
 rintro _ _ ⟨_,_,_,_,_,_,_,_,_,_,N⟩;exact DI N
 rintro gU gV cW e6 gW ⟨A,F,Z,_,rfl,aZ,aM,aI,Rf,Ff,N⟩
 obtain⟨e7,b9,N⟩:=DJ N;unfold DD at N
 rw [aZ.eq];clear aZ
 have a0:=aM
 refine Aw ?_
 clear Fe
 refine Av<|A9<|By Au Au<|Ax<|Aw<|AF N Au (fun cA N=>?_) (fun cA N=>?_)
 refine AG<|Aw<|AC<|Aw<|Av<|Bb (Iv A) Au ?_
 obtain⟨a1,N⟩:=AE N
 replace Fd:=Fd.step aM
 refine A9<|AB (q:=(AL .i64)) Bl B6 Au Au Fd Au a1.1 a1.2 ?_
 intro e8 b0
 refine A9<|AR B6 Au b0 Au ?_
 intro e9 cX
 obtain⟨rfl,Rg⟩:=BK cX
 refine Bn (Iv A) Au<|Bn (Iv (gt choices A)) Au<|Ax<|Aw ?_
 clear b0
 refine SN (T:=TQ (Obj.cells [Iv 0,Iv 0,Iv 0,Value.slice none 0 0].toArray 58) ⟨w,[],D80::[]⟩ (D80::O) [(some M,Z),(some b1,Oc (BS p Aa Ca Ab Cb Ac Cc) 26)] 16 17) (g0:=([],none)) (m:=18) (Wa aI) Au Au (by decide+kernel) ?_  -- 11
 refine BN (Pt b1 2) (fun eE fA g W hi X=>?_) ?_
 obtain⟨hi,J⟩:=hi
 exact Ay<|AQ 2 B4 Au Cz (X 2 Au) Au<|GoesQ.same hi J Au
 refine BN (Sl Ac p.variables Cc) (fun eF fB g W hi X=>?_) ?_
 obtain⟨hi,J⟩:=hi
 have cB:=(AA.nxQ hi).1
 exact Ay<|AP 1 Cz cB (X 36 Au) Au Au<|GoesQ.same hi J Au
 refine BN (Iv A) (fun eG fC g W hi X=>?_) ?_
 obtain⟨hi,J⟩:=hi
 exact Ay<|AD (v:=Iv A) (X 9 Au)<|GoesQ.same hi J Au
 obtain⟨a2,N⟩:=AE N
 have cY:=(cU.trans aM)
 replace Fc:=Fc.step cY
 refine Gk (QP _ _ AS (gt p.variables A)) (QP.stab _ _) (fun eH fD g W hi hk X=>?_) ?_
 obtain⟨-,cC,-⟩:=W
 obtain⟨hi,J⟩:=hi
 replace Fc:=Fc.step cC
 refine Ay<|AB (q:=AS) Cz Dq (X 37 Au) (X 38 Au) Fc Au a2.1 a2.2 ?_
 intro fE cZ
 exact GoesQ.same hi J ⟨_,Au,cZ⟩
 refine Gk (QP _ _ (BG Bt) ((gt p.variables A).choices)) (QP.stab _ _) (fun eI fF g W hi hk X=>?_) ?_
 obtain⟨hi,J⟩:=hi
 obtain⟨fG,c0,c1⟩:=X 39 Au
 refine Ay<|B5 Dq Au FJ (by decide) c0 Au ?_
 have c2:=c1.via.snd.snd.snd
 exact GoesQ.same hi J ⟨_,Au,c2⟩
 refine Gk (QD _ _ (vC (BG Bt)) ((gt p.variables A).choices)) (QD.stab _ _) (fun eJ fH g W hi hk X=>?_) ?_
 obtain⟨hi,J⟩:=hi
 obtain⟨fI,c3,c4⟩:=X 40 Au
 refine Ay<|AR FJ c3 c4 Au ?_
 intro fJ c5
 obtain⟨Ae,Ce,rfl,Fg⟩:=B9 c5
 exact GoesQ.same hi J (show Vr.vd (vC (BG Bt)) _ _ _ _ from(Jy (B8 Fg)))
 refine BN (Iv (gt choices A)) (fun eK fK g W hi X=>?_) ?_
 obtain⟨hi,J⟩:=hi
 exact Ay<|AD (v:=Iv (gt choices A)) (X 10 Au)<|GoesQ.same hi J Au
 obtain⟨a3,N⟩:=AE N
 refine Gk (QP _ _ Bt (gt ((gt p.variables A).choices) (gt choices A))) (QP.stab _ _) (fun eL fL g W hi hk X=>?_) ?_
 obtain⟨hi,J⟩:=hi
 have c6:Vr.vd (vC (BG Bt)) _ _ _ _:=X 41 Au
 obtain⟨Af,Cf,c7,Fh⟩:=B9 c6
 refine Ay<|AB (q:=Bt) FJ FT c7 (X 42 Au) Fh Au a3.1 a3.2 ?_
 intro fM c8
 exact GoesQ.same hi J ⟨_,Au,c8⟩
 refine Gk (QD _ _ (vA Bt) (gt ((gt p.variables A).choices) (gt choices A))) (QD.stab _ _) (fun eM fN g W hi hk X=>?_) ?_
 obtain⟨hi,J⟩:=hi
 obtain⟨fO,c9,dA⟩:=X 43 Au
 refine Ay<|BE FT c9 dA Au ?_
 intro eN dB
 obtain⟨_,_,rfl,⟨rfl,Rh⟩,⟨_,_,rfl,⟨rfl,Ri⟩,⟨_,_,rfl,⟨rfl,Rj⟩,⟨Ag,Cg,rfl,Fi⟩⟩⟩⟩:=dB
 exact GoesQ.same hi J (show Vr.vd (vA Bt) _ _ _ _ from(JX (C2 (AW (AU Rh) (AW (AU Ri) (AW (AU Rj) (B8 Fi)))))))
 refine BN (Pt b1 2) (fun eO fP g W hi X=>?_) ?_
 obtain⟨hi,J⟩:=hi
 exact Ay<|AQ 2 B4 Au Cz (X 2 Au) Au<|GoesQ.same hi J Au
 refine BN (Sl Ac p.variables Cc) (fun eP fQ g W hi X=>?_) ?_
 obtain⟨hi,J⟩:=hi
 have cB:=(AA.nxQ hi).1
 exact Ay<|AP 1 Cz cB (X 45 Au) Au Au<|GoesQ.same hi J Au
 refine BN (Iv A) (fun eQ fR g W hi X=>?_) ?_
 obtain⟨hi,J⟩:=hi
 exact Ay<|AD (v:=Iv A) (X 9 Au)<|GoesQ.same hi J Au
 obtain⟨a4,N⟩:=AE N
 refine Gk (QP _ _ AS (gt p.variables A)) (QP.stab _ _) (fun eR fS g W hi hk X=>?_) ?_
 obtain⟨-,cC,-⟩:=W
 obtain⟨hi,J⟩:=hi
 replace Fc:=Fc.step cC
 refine Ay<|AB (q:=AS) Cz Dq (X 46 Au) (X 47 Au) Fc Au a4.1 a4.2 ?_
 intro fT dC
 exact GoesQ.same hi J ⟨_,Au,dC⟩
 refine Gk (QP _ _ (BG (AL .i64)) ((gt p.variables A).leaves)) (QP.stab _ _) (fun eS fU g W hi hk X=>?_) ?_
 obtain⟨hi,J⟩:=hi
 obtain⟨fV,dD,dE⟩:=X 48 Au
 refine Ay<|B5 Dq Au Bl (by decide) dD Au ?_
 have dF:=dE.via.snd.snd.fst
 exact GoesQ.same hi J ⟨_,Au,dF⟩
 refine Gk (QD _ _ (vC (BG (AL .i64))) ((gt p.variables A).leaves)) (QD.stab _ _) (fun eT fW g W hi hk X=>?_) ?_
 obtain⟨hi,J⟩:=hi
 obtain⟨fX,dG,dH⟩:=X 49 Au
 refine Ay<|AR Bl dG dH Au ?_
 intro fY dI
 obtain⟨Ah,Ch,rfl,Fj⟩:=B9 dI
 exact GoesQ.same hi J (show Vr.vd (vC (BG (AL .i64))) _ _ _ _ from(Jy (B8 Fj)))
 refine Gk (QD _ _ (vI .i64) (((gt p.variables A).leaves).length:Int)) (QD.stab _ _) (fun eU fZ g W hi hk X=>?_) ?_
 obtain⟨hi,J⟩:=hi
 have dJ:Vr.vd (vC (BG (AL .i64))) _ _ _ _:=X 50 Au
 obtain⟨Ai,Ci,dK,Fk⟩:=B9 dJ
 exact Ay<|AZ Try.underlying31 dK<|GoesQ.same hi J (show Vr.vd (vI .i64) _ _ _ _ from⟨Au,AX Fk⟩)
 refine Gk QA QA.stab (fun eV f0 g W hi hk X=>?_) ?_
 obtain⟨hi,J⟩:=hi
 exact Ay (SO FT ⟨hi,J⟩ hk)
 refine Gk (QS (D80::O) [(some M,Z),(some b1,Oc (BS p Aa Ca Ab Cb Ac Cc) 26)] Bt 58 (gt ((gt p.variables A).choices) (gt choices A))) QS.stab (fun eW dL g W hi hk X=>?_) ?_
 obtain⟨hi,J⟩:=hi
 have dM:Vr.vd (vA Bt) _ _ _ _:=X 44 Au
 obtain⟨_,f1,⟨_,_,rfl,⟨rfl,Rk⟩,⟨_,_,rfl,⟨rfl,Rl⟩,⟨_,_,rfl,⟨rfl,Rm⟩,⟨Aj,Cj,rfl,Fl⟩⟩⟩⟩⟩:=dM
 exact Ay (SP (q:=Bt) FT Au Au ⟨hi,J⟩ hk (show QA _ dL _ from X 11 Au) (show Vr.vd (vA Bt) _ _ _ _ from X 44 Au))
 refine BD fun f2 f3 cD aN=>?_
 obtain⟨-,bV,-⟩:=cD
 obtain⟨aN,_⟩:=aN
 rintro _ ⟨dN,eX,a5,aO⟩
 rintro _ ⟨_,_,_,rfl,a6⟩;rw [a5] at a6;cases a6
 rintro f4 a7
 replace a7:Vr.vd (vI .i64) _ _ _ _:=a7
 obtain⟨rfl,Rn⟩:=a7
 rintro f5 a8
 replace a8:Vr.vd (vC (BG (AL .i64))) _ _ _ _:=a8
 obtain⟨Ak,Ck,rfl,Fm⟩:=B9 a8
 rintro _ ⟨f6,rfl,a9⟩ _ ⟨f7,rfl,bA⟩ _ rfl _ rfl _ rfl f8 bB
 replace bB:Vr.vd (vA Bt) _ _ _ _:=bB
 obtain⟨_,rfl,⟨_,_,rfl,⟨rfl,Ro⟩,⟨_,_,rfl,⟨rfl,Rq⟩,⟨_,_,rfl,⟨rfl,Rr⟩,⟨Al,Cl,rfl,Fn⟩⟩⟩⟩⟩:=bB
 rintro _ ⟨f9,rfl,bC⟩ _ rfl gA bD
 replace bD:Vr.vd (vC (BG Bt)) _ _ _ _:=bD
 obtain⟨Am,Cm,rfl,Fo⟩:=B9 bD
 rintro _ ⟨gB,rfl,bE⟩ _ ⟨gC,rfl,bF⟩ _ rfl _ rfl _ rfl
 obtain⟨aB,Y⟩:=AA.nxQ1 aN a5
 have b2:=aI.to aB (bV.trans Y)
 replace Fm:=Fm.step Y;replace a9:=a9.step Y;replace bA:=bA.step Y;replace Fn:=Fn.step Y;replace bC:=bC.step Y;replace Fo:=Fo.step Y;replace bE:=bE.step Y;replace bF:=bF.step Y
 replace aO:=Rp.step Bt Y aO;clear aI
 obtain⟨_,_,rfl,⟨rfl,Rs⟩,⟨_,_,rfl,⟨rfl,Rt⟩,⟨_,_,rfl,⟨rfl,Ru⟩,⟨An,Cn,rfl,Fp⟩⟩⟩⟩:=aO
 refine Bn (Iv (((gt p.variables A).leaves).length:Int)) Au<|Ax<|Aw ?_
 clear Fm a9 bA Fn bC Fo bE bF
 refine Ic VH (D80::[]) (CO ⟨cV,D80::[]⟩ [(2,Pt b1 0),(6,Pt M 0),(29,Sl Ad choices Cd),(30,Iv (choices.length:Int)),(31,Iv 0)]) [(11,Pt dN 0),(12,Iv (((gt p.variables A).leaves).length:Int)),(31,Iv A)] fun eY=>Av ?_
 obtain⟨bG,N⟩:=AE N
 replace Ff:=Ff.step b2
 refine A9<|FR Oz B6 Au Au Ff bG<|A9<|F0 (m:=1) (i:=1) B6 Au aB Au Au Ff bG ?_
 intro gD dO
 obtain⟨rfl,Rv⟩:=BK dO
 refine A9<|AQ 0 FT Au B6 Au Au<|A9<|AP 0 B6 aB Au Au Au<|A9<|Pv Au Au ?_
 obtain⟨bH,N⟩:=AE N
 refine A9<|FR Oz B6 Au Au Ff bH<|Bh<|FH (vs:=[Iv (max (F.getD 1 default) ((gt ((gt p.variables A).choices) (gt choices A)).delay))]) (i:=1) (m:=1) B6 Au aB Au Au Au Au Ff bH (AU (Sd Rv Rs)) ?_
 intro gE gF dP aF aC
 replace aC:Gs _ _ _ _ _ _ (F.set 1 (max (F.getD 1 default) ((gt ((gt p.variables A).choices) (gt choices A)).delay))) _ _:=aC
 clear aB
 refine Ax<|Aw<|Av ?_
 obtain⟨bI,N⟩:=AE N
 refine A9<|FR Oz B6 Au Au aC bI<|A9<|F0 (m:=2) (i:=1) B6 Au aF Au Au aC bI ?_
 intro gG dQ
 obtain⟨rfl,Rw⟩:=BK dQ
 refine A9<|AQ 1 FT Au B6 Au Au<|A9<|AP 0 B6 aF Au Au Au<|Bb (Iv (((gt p.variables A).leaves).length:Int)) Au<|A9<|Io Au Au<|A9<|Bg Au Au ?_
 obtain⟨bJ,N⟩:=AE N
 refine A9<|FR Oz B6 Au Au aC bJ<|Bh<|FH (vs:=[Iv (wq (((F.set 1 (max (F.getD 1 default) ((gt ((gt p.variables A).choices) (gt choices A)).delay))).getD 2 default)+(wq (((gt ((gt p.variables A).choices) (gt choices A)).cost)*(((gt p.variables A).leaves).length:Int)))))]) (i:=1) (m:=2) B6 Au aF Au Au Au Au aC bJ (AU (AT .i64 _)) ?_
 intro gH gI dR aG aD
 replace aD:Gs _ _ _ _ _ _ ((F.set 1 (max (F.getD 1 default) ((gt ((gt p.variables A).choices) (gt choices A)).delay))).set 2 (wq (((F.set 1 (max (F.getD 1 default) ((gt ((gt p.variables A).choices) (gt choices A)).delay))).getD 2 default)+(wq (((gt ((gt p.variables A).choices) (gt choices A)).cost)*(((gt p.variables A).leaves).length:Int)))))) _ _:=aD
 clear aF
 refine Ax<|Av ?_
 obtain⟨bK,N⟩:=AE N
 refine A9<|FR Oz B6 Au Au aD bK<|A9<|F0 (m:=3) (i:=1) B6 Au aG Au Au aD bK ?_
 intro gJ dS
 obtain⟨rfl,Rx⟩:=BK dS
 refine A9<|AQ 2 FT Au B6 Au Au<|A9<|AP 0 B6 aG Au Au Au<|Bb (Iv (((gt p.variables A).leaves).length:Int)) Au<|A9<|Io Au Au<|A9<|Bg Au Au ?_
 obtain⟨bL,N⟩:=AE N
 refine A9<|FR Oz B6 Au Au aD bL<|Bh<|FH (vs:=[Iv (wq ((((F.set 1 (max (F.getD 1 default) ((gt ((gt p.variables A).choices) (gt choices A)).delay))).set 2 (wq (((F.set 1 (max (F.getD 1 default) ((gt ((gt p.variables A).choices) (gt choices A)).delay))).getD 2 default)+(wq (((gt ((gt p.variables A).choices) (gt choices A)).cost)*(((gt p.variables A).leaves).length:Int)))))).getD 3 default)+(wq (((gt ((gt p.variables A).choices) (gt choices A)).changes)*(((gt p.variables A).leaves).length:Int)))))]) (i:=1) (m:=3) B6 Au aG Au Au Au Au aD bL (AU (AT .i64 _)) ?_
 intro gK dT dU aP aJ
 replace aJ:Gs _ _ _ _ _ _ (((F.set 1 (max (F.getD 1 default) ((gt ((gt p.variables A).choices) (gt choices A)).delay))).set 2 (wq (((F.set 1 (max (F.getD 1 default) ((gt ((gt p.variables A).choices) (gt choices A)).delay))).getD 2 default)+(wq (((gt ((gt p.variables A).choices) (gt choices A)).cost)*(((gt p.variables A).leaves).length:Int)))))).set 3 (wq ((((F.set 1 (max (F.getD 1 default) ((gt ((gt p.variables A).choices) (gt choices A)).delay))).set 2 (wq (((F.set 1 (max (F.getD 1 default) ((gt ((gt p.variables A).choices) (gt choices A)).delay))).getD 2 default)+(wq (((gt ((gt p.variables A).choices) (gt choices A)).cost)*(((gt p.variables A).leaves).length:Int)))))).getD 3 default)+(wq (((gt ((gt p.variables A).choices) (gt choices A)).changes)*(((gt p.variables A).leaves).length:Int)))))) _ _:=aJ
 clear aG
 refine Ax<|Av<|A9<|Bg Au Au<|Bb (Iv (wq (A+1))) Au<|Ax ?_
 have cE:=aP.drop 0
 have b3:=(aP.dropS 0)
 clear aP
 have dV:=(b2.trans (dP.trans (dR.trans (dU.trans b3))))
 replace a0:=a0.trans dV;replace aJ:=aJ.step b3
 exact cW _ _ ⟨(wq (A+1)),((F.set 1 (max (F.getD 1 default) ((gt ((gt p.variables A).choices) (gt choices A)).delay))).set 2 (wq (((F.set 1 (max (F.getD 1 default) ((gt ((gt p.variables A).choices) (gt choices A)).delay))).getD 2 default)+(wq (((gt ((gt p.variables A).choices) (gt choices A)).cost)*(((gt p.variables A).leaves).length:Int)))))).set 3 (wq ((((F.set 1 (max (F.getD 1 default) ((gt ((gt p.variables A).choices) (gt choices A)).delay))).set 2 (wq (((F.set 1 (max (F.getD 1 default) ((gt ((gt p.variables A).choices) (gt choices A)).delay))).getD 2 default)+(wq (((gt ((gt p.variables A).choices) (gt choices A)).cost)*(((gt p.variables A).leaves).length:Int)))))).getD 3 default)+(wq (((gt ((gt p.variables A).choices) (gt choices A)).changes)*(((gt p.variables A).leaves).length:Int))))),dT,_,Au,BB.of ⟨Au,trivial⟩,a0,cE,(AT .i64 _),aJ,GV b9 N⟩
 refine Bq<|Aw ?_
 obtain⟨bM,dW⟩:=aI.sub (bs':=[(some M,Z)]) (.cons_cons _ (.cons _ List.Sublist.slnil))
 clear Fa Fb Fc Fd
 clear aI
 refine Av ?_
 obtain⟨cF,N⟩:=AE N
 refine A9<|SD (l:=0) (h:=4) (m:=4) Oz B6 Au Au Au Au (by decide) (by omega) (by omega) (Nat.le_refl _)<|A9<|Mx (v:=Sl (some ⟨M,0,none⟩) F 4) (Ib Au cF.symm)<|Bn (Iv 0) Au<|Ax<|AV ?_
 obtain⟨dX,bW,cG,dY⟩:=St.close bM
 clear bM
 have bN:=St.fresh (O:=O) cG (fun k hk=>by simp [hk])
 have dZ:=(dW.trans dY)
 replace Ff:=Ff.step dZ
 replace Ff:=Gs.flat PA.int Ff dX (ks [(some M,Z)] (List.range w.heap.size++O))
 obtain⟨bO,gL,bP⟩:=Gs.publish (i:=0) bN Au Ff
 clear bN
 have hz:=G5 bO
 refine⟨_,bW,[Sl (some ⟨M,0,none⟩) F 4,Iv 0],⟨Au,Au,trivial⟩,bO.ext,?_⟩
 replace bP:=bP.step hz
 exact Vr.eq (a:=Ns (vC (BG (AL .i64))) (vI .i64)) (x:=(F,0)) (Ly (Jy (B8 bP)) ⟨Au,E1⟩) (oi N)
 intro _ _ _ _ h;simp at h
abbrev Yk:List Nat:=[13,15,40,41,42,43,44,45,46,47,48,49,50,51]

abbrev Yl:List Nat:=[66,67,68,69,70,71,72,73,74,75,76,77]

abbrev VI:List Nat:=[9,17,62,63,64,65,66,67,68,69,70,71,72,73,74,75,76,77,78,79,80,81,82]

abbrev Sy:List Nat:=[9,11,12,13,15,17,28,29,30,31,32,33,34,35,36,37,38,39,40,41,42,43,44,45,46,47,48,49,50,51,52,53,54,55,56,57,58,59,60,61,62,63,64,65,66,67,68,69,70,71,72,73,74,75,76,77,78,79,80,81,82,83]

abbrev Qz:List Nat:=[6,8,9,11,12,13,15,17,21,22,23,24,25,26,27,28,29,30,31,32,33,34,35,36,37,38,39,40,41,42,43,44,45,46,47,48,49,50,51,52,53,54,55,56,57,58,59,60,61,62,63,64,65,66,67,68,69,70,71,72,73,74,75,76,77,78,79,80,81,82,83,84,85,86,87,88,89,90,91,92,93,94,95,96]

def CV (p:A8) (r_:Ba) (choices:List Int) (J:Int) (A:Int) (N:Int→Int→Option Bool) (U:Bool) (G:Int→Int→Option Bool) (M:Int) (F:Int):Option Bool:=
 bif (decide (F<(((((p.variables.getD (r_.variables.getD A.toNat default).toNat default).choices).getD (choices.getD (r_.variables.getD A.toNat default).toNat default).toNat default).uses).length:Int))) then
  ck ((0:Int)≤F∧F<(((((p.variables.getD (r_.variables.getD A.toNat default).toNat default).choices).getD (choices.getD (r_.variables.getD A.toNat default).toNat default).toNat default).uses).length:Int))<|
  jn (fun(W:Bool)=>
   bif W then
    G (IntKind.wrap .i64 (M+((((((p.variables.getD (r_.variables.getD A.toNat default).toNat default).choices).getD (choices.getD (r_.variables.getD A.toNat default).toNat default).toNat default).uses).getD F.toNat default).places))) (IntKind.wrap .i64 (F+1))
   else
    G M (IntKind.wrap .i64 (F+1)))
  (fun I=>
   bif U then
    ck ((0:Int)≤((r_.places.getD J.toNat default).cell)∧((r_.places.getD J.toNat default).cell)<(p.cells.length:Int))<|
    I (decide (((((((p.variables.getD (r_.variables.getD A.toNat default).toNat default).choices).getD (choices.getD (r_.variables.getD A.toNat default).toNat default).toNat default).uses).getD F.toNat default).cell)=(p.cells.getD ((r_.places.getD J.toNat default).cell).toNat default)))
   else
    I false)
 else
  N M (IntKind.wrap .i64 (A+1))

def CW (p:A8) (r_:Ba) (choices:List Int) (J:Int) (N:Int) (A:Int) (M:Int→Int→Option Bool) (G:Bool→Int→Option Bool) (I:Bool) (F:Int):Option Bool:=
 bif (decide (F<(((p.variables.getD (r_.variables.getD A.toNat default).toNat default).leaves).length:Int))) then
  ck ((0:Int)≤F∧F<(((p.variables.getD (r_.variables.getD A.toNat default).toNat default).leaves).length:Int))<|
  bif I then
   G true (IntKind.wrap .i64 (F+1))
  else
   G (decide ((((p.variables.getD (r_.variables.getD A.toNat default).toNat default).leaves).getD F.toNat default)=((r_.places.getD J.toNat default).leaf))) (IntKind.wrap .i64 (F+1))
 else
  ck ((0:Int)≤(r_.variables.getD A.toNat default)∧(r_.variables.getD A.toNat default)<(choices.length:Int))<|
  ck ((0:Int)≤(choices.getD (r_.variables.getD A.toNat default).toNat default)∧(choices.getD (r_.variables.getD A.toNat default).toNat default)<(((p.variables.getD (r_.variables.getD A.toNat default).toNat default).choices).length:Int))<|
  BC (CV p r_ choices J A M I) (((((((p.variables.getD (r_.variables.getD A.toNat default).toNat default).choices).getD (choices.getD (r_.variables.getD A.toNat default).toNat default).toNat default).uses).length:Int) - 0).toNat+1) N 0

def D4 (p:A8) (r_:Ba) (choices:List Int) (A:Int) (G:Int→Option Bool) (I:Int→Int→Option Bool) (J:Int) (F:Int):Option Bool:=
 bif (decide (F<(r_.variables.length:Int))) then
  ck ((0:Int)≤F∧F<(r_.variables.length:Int))<|
  ck ((0:Int)≤(r_.variables.getD F.toNat default)∧(r_.variables.getD F.toNat default)<(p.variables.length:Int))<|
  BC (CW p r_ choices A J F I) (((((p.variables.getD (r_.variables.getD F.toNat default).toNat default).leaves).length:Int) - 0).toNat+1) false 0
 else
  ck ((0:Int)≤((r_.places.getD A.toNat default).leaf)∧((r_.places.getD A.toNat default).leaf)<(p.capacity.length:Int))<|
  ck ((0:Int)≤((r_.places.getD A.toNat default).cell)∧((r_.places.getD A.toNat default).cell)<((p.capacity.getD ((r_.places.getD A.toNat default).leaf).toNat default).length:Int))<|
  bif (decide (((p.capacity.getD ((r_.places.getD A.toNat default).leaf).toNat default).getD ((r_.places.getD A.toNat default).cell).toNat default)<J)) then
   some true
  else
   G (IntKind.wrap .i64 (A+1))

def D5 (p:A8) (r_:Ba) (choices:List Int) (F:Int→Option Bool) (A:Int):Option Bool:=
 bif (decide (A<(r_.places.length:Int))) then
  ck ((0:Int)≤A∧A<(r_.places.length:Int))<|
  BC (D4 p r_ choices A F) (((r_.variables.length:Int) - 0).toNat+1) 0 0
 else
  some false

def D6 (p:A8) (r_:Ba) (choices:List Int):Option Bool:=
 B0 (D5 p r_ choices) (((r_.places.length:Int) - 0).toNat+1) 0

theorem JO {w:World} {O:List Nat} {p:A8} {r_:Ba} {choices:List Int} {Aa:Option Addr} {Ca:Nat} {Ab:Option Addr} {Cb:Nat} {Ac:Option Addr} {Cc:Nat} {Ad:Option Addr} {Cd:Nat} {Ae:Option Addr} {Ce:Nat} {Af:Option Addr} {Cf:Nat} (hO:∀k∈O,k<w.heap.size) (Fa:CA Bx w O Aa Ca p.cells) (Fb:CA (BG (AL .i64)) w O Ab Cb p.capacity) (Fc:CA AS w O Ac Cc p.variables) (Fd:CA (AL .i64) w O Ad Cd r_.variables) (Fe:CA AO w O Ae Ce r_.places) (Ff:CA (AL .i64) w O Af Cf choices) {x:Bool} (F:D6 p r_ choices=some x):
 Ok Try.prog 15 [Value.agg (BS p Aa Ca Ab Cb Ac Cc).toArray,Value.agg [Sl Ad r_.variables Cd,Sl Ae r_.places Ce].toArray,Sl Af choices Cf] w O vB x:=by
 unfold D6 at F
 refine Br (n:=97) (xs:=[.tmp 6]) Try.func15 Au Try.ntmps15 Try.results15 Au ?_
 have hs:=St.start hO
 refine Aw<|Av<|A9<|BT (cs:=(BS p Aa Ca Ab Cb Ac Cc)) hs Au Au ?_
 intro b1 w2 _ p3 c5
 refine A9<|BT (cs:=[Sl Ad r_.variables Cd,Sl Ae r_.places Ce]) c5 Au Au ?_
 intro b6 w7 _ p8 cI
 clear c5
 refine Bn (Bo false) Au<|Ax<|Aw<|Aw<|Av<|A9<|AQ 1 DT Au Eo Au Au<|A9<|AP 0 Eo cI Au Au Au<|A9<|AZ Try.underlying32 Au ?_
 have c6:=(p3.trans p8)
 replace Fe:=Fe.step c6
 have fC:=AX Fe
 refine Bb (Iv 0) Au<|Ax<|AC<|Wr [] [(2,Sl Af choices Cf),(3,Pt b1 0),(4,Pt b6 0),(19,Sl Ae r_.places Ce),(20,Iv (r_.places.length:Int)),(21,Iv 0)] fun aQ=>Bf Qz (fun m fr w'=>∃(G:Int) (M:Be),M=[(some b6,Oc [Sl Ad r_.variables Cd,Sl Ae r_.places Ce] 34),(some b1,Oc (BS p Aa Ca Ab Cb Ac Cc) 26)]∧fr [] [(21,Iv G)]∧cI.S (ks M O) w'∧St ⟨w,[],[]⟩ O w' M∧Cx .i64 G∧B0 (D5 p r_ choices) m G=some x) (((r_.places.length:Int) - 0).toNat+1) ⟨0,_,Au,BB.of ⟨Au,trivial⟩,AA.refl _ _,cI,E1,F⟩ ?_ ?_
 rintro _ _ ⟨_,_,_,_,_,_,_,F⟩;exact CF F
 rintro g4 g5 c7 fD g6 ⟨G,_,rfl,aZ,aL,aR,Ra,F⟩
 obtain⟨c8,cJ,F⟩:=CG F;unfold D5 at F
 rw [aZ.eq];clear aZ
 have a0:=aL
 refine Aw<|Av<|A9<|By Au Au<|Ax<|Aw<|AF F Au (fun c9 F=>?_) (fun c9 F=>?_)
 refine AG<|Aw<|AC<|Aw<|Av ?_
 obtain⟨b3,F⟩:=AE F
 replace Fe:=Fe.step aL
 refine A9<|AB (q:=AO) Eo C5 Au Au Fe Au b3.1 b3.2 ?_
 intro g7 dA
 refine A9<|BE C5 Au dA Au ?_
 intro fE eS
 obtain⟨_,_,rfl,⟨rfl,Rb⟩,⟨rfl,Rc⟩⟩:=eS
 refine A9<|Bv C5 aR ?_
 intro aB g8 _ dB b4
 clear aR
 refine Bh<|C6 .z C5 b4 Au Au Au Au Au ?_
 intro g9 dC a1
 clear b4
 refine Ax<|Aw ?_
 clear dA
 refine Av<|Bn (Iv 0) Au<|Ax<|Aw<|Aw<|Av<|A9<|AQ 0 DT Au Bl Au Au<|A9<|AP 1 Bl a1 Au Au Au<|A9<|AZ Try.underlying31 Au ?_
 have cK:=(c6.trans (aL.trans (dB.trans dC)))
 replace Fd:=Fd.step cK
 have fF:=AX Fd
 refine Bb (Iv 0) Au<|Ax<|AC<|Ic Qz [] (CO ⟨aQ,[]⟩ [(2,Sl Af choices Cf),(3,Pt b1 0),(4,Pt b6 0),(19,Sl Ae r_.places Ce),(20,Iv (r_.places.length:Int)),(21,Iv 0)]) [(8,Pt aB 0),(9,Iv 0),(21,Iv G),(26,Sl Ad r_.variables Cd),(27,Iv (r_.variables.length:Int)),(28,Iv 0)] fun a2=>Bf Sy (fun m fr w'=>∃(aC:Int) (A:Int) (M:Be),M=[(some aB,Oc [Iv ((gt r_.places G).leaf),Iv ((gt r_.places G).cell)] 45),(some b6,Oc [Sl Ad r_.variables Cd,Sl Ae r_.places Ce] 34),(some b1,Oc (BS p Aa Ca Ab Cb Ac Cc) 26)]∧fr [] [(9,Iv aC),(28,Iv A)]∧a1.S (ks M O) w'∧St ⟨w,[],[]⟩ O w' M∧Cx .i64 aC∧Cx .i64 A∧BC (D4 p r_ choices G c8) m aC A=some x) (((r_.variables.length:Int) - 0).toNat+1) ⟨0,0,_,Au,BB.of ⟨Au,Au,trivial⟩,AA.refl _ _,a1,E1,E1,F⟩ ?_ ?_
 rintro _ _ ⟨_,_,_,_,_,_,_,_,_,F⟩;exact DI F
 rintro hA hB dD fG hC ⟨aC,A,_,rfl,a3,aD,aH,Rd,Re,F⟩
 obtain⟨b5,cL,F⟩:=DJ F;unfold D4 at F
 rw [a3.eq];clear a3
 have a4:=aD
 refine Aw<|Av<|A9<|By Au Au<|Ax<|Aw<|AF F Au (fun dE F=>?_) (fun dE F=>?_)
 refine AG<|Aw<|AC<|Aw<|Av ?_
 obtain⟨b7,F⟩:=AE F
 replace Fd:=Fd.step aD
 refine A9<|AB (q:=(AL .i64)) Bl B6 Au Au Fd Au b7.1 b7.2 ?_
 intro hD dF
 refine A9<|AR B6 Au dF Au ?_
 intro hE eT
 obtain⟨rfl,Rf⟩:=BK eT
 refine Bn (Iv (gt r_.variables A)) Au<|Ax<|Aw ?_
 clear dF
 refine Av<|A9<|AQ 2 B4 Au Cz Au Au<|A9<|AP 2 Cz aH Au Au Au<|Bb (Iv (gt r_.variables A)) Au ?_
 obtain⟨b8,F⟩:=AE F
 have dG:=(cK.trans aD)
 replace Fc:=Fc.step dG
 refine A9<|AB (q:=AS) Cz Dq Au Au Fc Au b8.1 b8.2 ?_
 intro hF dH
 refine A9<|BE Dq Au dH Au ?_
 intro fH eU
 obtain⟨_,_,rfl,⟨rfl,Rg⟩,⟨_,_,rfl,⟨rfl,Rh⟩,⟨_,_,rfl,⟨Ag,Cg,rfl,Fg⟩,⟨Ah,Ch,rfl,Fh⟩⟩⟩⟩:=eU
 refine A9<|Bv Dq aH ?_
 intro a5 hG _ dI b9
 clear aH
 refine Bh<|C6 .z Dq b9 Au Au Au Au Au ?_
 intro hH dJ a6
 clear b9
 refine Ax<|Aw ?_
 clear dH
 refine Av<|Bn (Bo false) Au<|Ax<|Aw<|Aw<|Av<|A9<|AQ 2 Dq Au Bl Au Au<|A9<|AP 0 Bl a6 Au Au Au<|A9<|AZ Try.underlying31 Au ?_
 have dK:=(dI.trans dJ)
 replace Fg:=Fg.step dK
 have fI:=AX Fg
 refine Bb (Iv 0) Au<|Ax<|AC<|Ic Sy [] (CO (JE Qz [] a2 (CO ⟨aQ,[]⟩ [(2,Sl Af choices Cf),(3,Pt b1 0),(4,Pt b6 0),(19,Sl Ae r_.places Ce),(20,Iv (r_.places.length:Int)),(21,Iv 0)])) [(8,Pt aB 0),(9,Iv 0),(21,Iv G),(26,Sl Ad r_.variables Cd),(27,Iv (r_.variables.length:Int)),(28,Iv 0)]) [(9,Iv aC),(11,Iv (gt r_.variables A)),(12,Pt a5 0),(13,Bo false),(28,Iv A),(38,Sl Ag ((gt p.variables (gt r_.variables A)).leaves) Cg),(39,Iv (((gt p.variables (gt r_.variables A)).leaves).length:Int)),(40,Iv 0)] fun fJ=>Bf Yk (fun m fr w'=>∃(N:Bool) (W:Int) (M:Be),M=[(some a5,Oc [Iv ((gt p.variables (gt r_.variables A)).flight),Iv ((gt p.variables (gt r_.variables A)).node),Sl Ag ((gt p.variables (gt r_.variables A)).leaves) Cg,Sl Ah ((gt p.variables (gt r_.variables A)).choices) Ch] 61),(some aB,Oc [Iv ((gt r_.places G).leaf),Iv ((gt r_.places G).cell)] 45),(some b6,Oc [Sl Ad r_.variables Cd,Sl Ae r_.places Ce] 34),(some b1,Oc (BS p Aa Ca Ab Cb Ac Cc) 26)]∧fr [] [(13,Bo N),(40,Iv W)]∧a6.S (ks M O) w'∧St ⟨w,[],[]⟩ O w' M∧Cx .i64 W∧BC (CW p r_ choices G aC A b5) m N W=some x) (((((gt p.variables (gt r_.variables A)).leaves).length:Int) - 0).toNat+1) ⟨false,0,_,Au,BB.of ⟨Au,Au,trivial⟩,AA.refl _ _,a6,E1,F⟩ ?_ ?_
 rintro _ _ ⟨_,_,_,_,_,_,_,_,F⟩;exact DI F
 rintro hI hJ cA fK hK ⟨N,W,_,rfl,a7,aJ,aI,Ri,F⟩
 obtain⟨fL,a8,F⟩:=DJ F;unfold CW at F
 rw [a7.eq];clear a7
 have cB:=aJ
 refine Aw<|Av<|A9<|By Au Au<|Ax<|Aw<|AF F Au (fun dL F=>?_) (fun dL F=>?_)
 refine AG<|Aw<|AC<|Aw<|Av ?_
 obtain⟨cC,F⟩:=AE F
 replace Fg:=Fg.step aJ
 refine A9<|AB (q:=(AL .i64)) Bl B6 Au Au Fg Au cC.1 cC.2 ?_
 intro hL dM
 refine A9<|AR B6 Au dM Au ?_
 intro hM eV
 obtain⟨rfl,Rj⟩:=BK eV
 refine Bn (Iv (gt ((gt p.variables (gt r_.variables A)).leaves) W)) Au<|Ax ?_
 clear dM
 refine Av<|Bb (Bo N) Au<|Bb (Bo N) Au<|Bz F (fun dN F=>?_) (fun dN F=>?_)
 iterate 4 refine AI Au (AJ Au Au) Au ?_
 exact FM (Bo true) Au Au<|Bn (Bo true) Au<|Ax<|Av<|A9<|Bg Au Au<|Bb (Iv (wq (W+1))) Au<|Ax<|cA _ _ ⟨true,(wq (W+1)),_,Au,BB.of ⟨Au,Au,trivial⟩,cB,aI,(AT .i64 _),GV a8 F⟩
 exact BO Au Au<|AD (v:=Iv (gt ((gt p.variables (gt r_.variables A)).leaves) W)) Au<|BO Au Au<|AQ 0 C5 Au B6 Au Au<|BO Au Au<|AP 1 B6 aI Au Au Au<|BO Au Au<|HI Au Au<|F8 (Bo (decide ((gt ((gt p.variables (gt r_.variables A)).leaves) W)=((gt r_.places G).leaf)))) Au Au<|Bn (Bo (decide ((gt ((gt p.variables (gt r_.variables A)).leaves) W)=((gt r_.places G).leaf)))) Au<|Ax<|Av<|A9<|Bg Au Au<|Bb (Iv (wq (W+1))) Au<|Ax<|cA _ _ ⟨decide ((gt ((gt p.variables (gt r_.variables A)).leaves) W)=((gt r_.places G).leaf)),(wq (W+1)),_,Au,BB.of ⟨Au,Au,trivial⟩,cB,aI,(AT .i64 _),GV a8 F⟩
 refine Bq<|Aw<|B7 (g0:=[]) (m:=11) (fl:=[]) (CQ aI) Au (.inl Au) Au (by decide+kernel) ?_  -- 15
 refine Bc (Pt a5 3) (fun _ _ _ hi I=>AQ 3 Dq Au FJ (I 12 Au) Au<|Gz hi)<|Bc (Sl Ah ((gt p.variables (gt r_.variables A)).choices) Ch) (fun _ _ _ hi I=>AP 0 FJ (AA.nx hi).1 (I 52 Au) Au Au<|Gz hi)<|Bc (Sl Af choices Cf) (fun _ _ _ hi I=>AD (v:=Sl Af choices Cf) (I 2 Au)<|Gz hi)<|Bc (Iv (gt r_.variables A)) (fun _ _ _ hi I=>AD (v:=Iv (gt r_.variables A)) (I 11 Au)<|Gz hi) ?_
 obtain⟨a9,F⟩:=AE F
 have cD:=(dG.trans (dI.trans (dJ.trans aJ)))
 replace Ff:=Ff.step cD
 refine Bd (VP _ _ (AL .i64) (gt choices (gt r_.variables A))) (VP.stab _ _) (fun eW fM g X hi I=>?_) ?_
 obtain⟨-,aM,-⟩:=X
 replace Ff:=Ff.step aM
 refine Ay<|AB (q:=(AL .i64)) Bl B6 (I 54 Au) (I 55 Au) Ff Au a9.1 a9.2 ?_
 intro fN dO
 exact Bs.same hi ⟨_,Au,dO⟩
 refine Bd (VD _ _ (vI .i64) (gt choices (gt r_.variables A))) (VD.stab _ _) (fun eX fO g X hi I=>?_) ?_
 obtain⟨fP,dP,dQ⟩:=I 56 Au
 refine Ay<|AR B6 dP dQ Au ?_
 intro fQ dR
 obtain⟨rfl,Rk⟩:=BK dR
 exact Bs.same hi (show Vr.vd (vI .i64) _ _ _ _ from⟨Au,Rk⟩)
 obtain⟨bA,F⟩:=AE F
 have cE:=(dK.trans aJ)
 replace Fh:=Fh.step cE
 refine Bd (VP _ _ Bt (gt ((gt p.variables (gt r_.variables A)).choices) (gt choices (gt r_.variables A)))) (VP.stab _ _) (fun eY fR g X hi I=>?_) ?_
 obtain⟨-,aM,-⟩:=X
 replace Fh:=Fh.step aM
 have dS:Vr.vd (vI .i64) _ _ _ _:=I 57 Au
 obtain⟨dT,Rl⟩:=dS
 refine Ay<|AB (q:=Bt) FJ FT (I 53 Au) dT Fh Au bA.1 bA.2 ?_
 intro fS dU
 exact Bs.same hi ⟨_,Au,dU⟩
 refine Bd (VP _ _ (BG Ed) ((gt ((gt p.variables (gt r_.variables A)).choices) (gt choices (gt r_.variables A))).uses)) (VP.stab _ _) (fun eZ fT g X hi I=>?_) ?_
 obtain⟨fU,dV,dW⟩:=I 58 Au
 refine Ay<|B5 FT Au Ho (by decide) dV Au ?_
 have dX:=dW.via.snd.snd.snd
 exact Bs.same hi ⟨_,Au,dX⟩
 refine Bd (VD _ _ (vC (BG Ed)) ((gt ((gt p.variables (gt r_.variables A)).choices) (gt choices (gt r_.variables A))).uses)) (VD.stab _ _) (fun e0 fV g X hi I=>?_) ?_
 obtain⟨fW,dY,dZ⟩:=I 59 Au
 refine Ay<|AR Ho dY dZ Au ?_
 intro fX d0
 obtain⟨Ai,Ci,rfl,Fi⟩:=B9 d0
 exact Bs.same hi (show Vr.vd (vC (BG Ed)) _ _ _ _ from(Jy (B8 Fi)))
 refine Bd (VD _ _ (vI .i64) (((gt ((gt p.variables (gt r_.variables A)).choices) (gt choices (gt r_.variables A))).uses).length:Int)) (VD.stab _ _) (fun e1 fY g X hi I=>?_) ?_
 have d1:Vr.vd (vC (BG Ed)) _ _ _ _:=I 60 Au
 obtain⟨Aj,Cj,d2,Fj⟩:=B9 d1
 exact Ay<|AZ Try.underlying56 d2<|Bs.same hi (show Vr.vd (vI .i64) _ _ _ _ from⟨Au,AX Fj⟩)
 refine Bc (Iv 0) (fun _ _ _ hi _=>AD (v:=Iv 0) Au<|Gz hi)<|BD fun fZ f0 cM cN=>?_
 obtain⟨-,bY,-⟩:=cM
 obtain⟨aN,aK⟩:=AA.nx cN
 rintro _ rfl f1 bB
 replace bB:Vr.vd (vI .i64) _ _ _ _:=bB
 obtain⟨rfl,Rm⟩:=bB
 rintro f2 bC
 replace bC:Vr.vd (vC (BG Ed)) _ _ _ _:=bC
 obtain⟨Ak,Ck,rfl,Fk⟩:=B9 bC
 rintro _ ⟨f3,rfl,bD⟩ _ ⟨f4,rfl,bE⟩ f5 bF
 replace bF:Vr.vd (vI .i64) _ _ _ _:=bF
 obtain⟨rfl,Rn⟩:=bF
 rintro _ ⟨f6,rfl,bG⟩ _ rfl _ rfl _ rfl _ rfl
 have cF:=aI.to aN (bY.trans aK)
 replace Fk:=Fk.step aK;replace bD:=bD.step aK;replace bE:=bE.step aK;replace bG:=bG.step aK;clear aI
 refine Ax<|AC<|Ic Sy [] (CO (JE Qz [] a2 (CO ⟨aQ,[]⟩ [(2,Sl Af choices Cf),(3,Pt b1 0),(4,Pt b6 0),(19,Sl Ae r_.places Ce),(20,Iv (r_.places.length:Int)),(21,Iv 0)])) [(8,Pt aB 0),(9,Iv 0),(21,Iv G),(26,Sl Ad r_.variables Cd),(27,Iv (r_.variables.length:Int)),(28,Iv 0)]) [(9,Iv aC),(13,Bo N),(28,Iv A),(60,Sl Ak ((gt ((gt p.variables (gt r_.variables A)).choices) (gt choices (gt r_.variables A))).uses) Ck),(61,Iv (((gt ((gt p.variables (gt r_.variables A)).choices) (gt choices (gt r_.variables A))).uses).length:Int)),(62,Iv 0)] fun cO=>Bf VI (fun m fr w'=>∃(aG:Int) (J:Int) (M:Be),M=[(some a5,Oc [Iv ((gt p.variables (gt r_.variables A)).flight),Iv ((gt p.variables (gt r_.variables A)).node),Sl Ag ((gt p.variables (gt r_.variables A)).leaves) Cg,Sl Ah ((gt p.variables (gt r_.variables A)).choices) Ch] 61),(some aB,Oc [Iv ((gt r_.places G).leaf),Iv ((gt r_.places G).cell)] 45),(some b6,Oc [Sl Ad r_.variables Cd,Sl Ae r_.places Ce] 34),(some b1,Oc (BS p Aa Ca Ab Cb Ac Cc) 26)]∧fr [] [(9,Iv aG),(62,Iv J)]∧aN.S (ks M O) w'∧St ⟨w,[],[]⟩ O w' M∧Cx .i64 aG∧Cx .i64 J∧BC (CV p r_ choices G A b5 N) m aG J=some x) (((((gt ((gt p.variables (gt r_.variables A)).choices) (gt choices (gt r_.variables A))).uses).length:Int) - 0).toNat+1) ⟨aC,0,_,Au,BB.of ⟨Au,Au,trivial⟩,AA.refl _ _,aN,Rd,E1,F⟩ ?_ ?_
 rintro _ _ ⟨_,_,_,_,_,_,_,_,_,F⟩;exact DI F
 rintro f7 f8 bH e2 f9 ⟨aG,J,_,rfl,aS,aA,aO,Ro,Rp,F⟩
 obtain⟨e3,aT,F⟩:=DJ F;unfold CV at F
 rw [aS.eq];clear aS
 have Y:=aA
 refine Aw ?_
 clear bD bE bG
 refine Av<|A9<|By Au Au<|Ax<|Aw<|AF F Au (fun cP F=>?_) (fun cP F=>?_)
 refine AG<|Aw<|AC<|Aw<|Av ?_
 obtain⟨bI,F⟩:=AE F
 replace Fk:=Fk.step aA
 refine A9<|AB (q:=Ed) Ho Gc Au Au Fk Au bI.1 bI.2 ?_
 intro gA aU
 refine A9<|BE Gc Au aU Au ?_
 intro e4 d3
 obtain⟨_,_,rfl,⟨_,_,rfl,rfl,⟨_,_,rfl,⟨rfl,Rq⟩,⟨rfl,Rr⟩⟩⟩,⟨rfl,Rs⟩⟩:=d3
 refine A9<|Bv Gc aO ?_
 intro bJ gB _ bK bL
 refine Bh<|C6 .z Gc bL Au Au Au Au Au ?_
 intro gC bM aE
 clear bL
 refine Ax<|Ic VI [] (CO (JE Sy [] cO (CO (JE Qz [] a2 (CO ⟨aQ,[]⟩ [(2,Sl Af choices Cf),(3,Pt b1 0),(4,Pt b6 0),(19,Sl Ae r_.places Ce),(20,Iv (r_.places.length:Int)),(21,Iv 0)])) [(8,Pt aB 0),(9,Iv 0),(21,Iv G),(26,Sl Ad r_.variables Cd),(27,Iv (r_.variables.length:Int)),(28,Iv 0)])) [(9,Iv aC),(13,Bo N),(28,Iv A),(60,Sl Ak ((gt ((gt p.variables (gt r_.variables A)).choices) (gt choices (gt r_.variables A))).uses) Ck),(61,Iv (((gt ((gt p.variables (gt r_.variables A)).choices) (gt choices (gt r_.variables A))).uses).length:Int)),(62,Iv 0)]) [(9,Iv aG),(17,Pt bJ 0),(62,Iv J)] fun e5=>?_
 obtain⟨d4,cQ,F⟩:=Cy F
 refine CE Yl (fun fr w'=>∃(cR:Bool) (M:Be),M=[(some bJ,Oc [Bo (((gt ((gt ((gt p.variables (gt r_.variables A)).choices) (gt choices (gt r_.variables A))).uses) J).cell).airport),Iv (((gt ((gt ((gt p.variables (gt r_.variables A)).choices) (gt choices (gt r_.variables A))).uses) J).cell).index),Iv (((gt ((gt ((gt p.variables (gt r_.variables A)).choices) (gt choices (gt r_.variables A))).uses) J).cell).minute),Iv ((gt ((gt ((gt p.variables (gt r_.variables A)).choices) (gt choices (gt r_.variables A))).uses) J).places)] 76),(some a5,Oc [Iv ((gt p.variables (gt r_.variables A)).flight),Iv ((gt p.variables (gt r_.variables A)).node),Sl Ag ((gt p.variables (gt r_.variables A)).leaves) Cg,Sl Ah ((gt p.variables (gt r_.variables A)).choices) Ch] 61),(some aB,Oc [Iv ((gt r_.places G).leaf),Iv ((gt r_.places G).cell)] 45),(some b6,Oc [Sl Ad r_.variables Cd,Sl Ae r_.places Ce] 34),(some b1,Oc (BS p Aa Ca Ab Cb Ac Cc) 26)]∧fr [] [(77,Bo cR)]∧aE.S (ks M O) w'∧St ⟨w,[],[]⟩ O w' M∧d4 cR=some x) ?_ ?_
 rintro e6 gD ⟨cR,_,rfl,aV,aW,U,F⟩
 replace F:=Dc cQ F
 rw [aV.eq];clear aV
 refine AF F Au (fun cS F=>?_) (fun cS F=>?_)
 clear aU
 refine Av<|Bb (Iv aG) Au<|A9<|AQ 3 Gc Au B6 Au Au<|A9<|AP 0 B6 U Au Au Au<|A9<|Bg Au Au<|Bn (Iv (wq (aG+((gt ((gt ((gt p.variables (gt r_.variables A)).choices) (gt choices (gt r_.variables A))).uses) J).places)))) Au<|Ax<|Av<|A9<|Bg Au Au<|Bb (Iv (wq (J+1))) Au<|Ax ?_
 have cT:=U.drop 0
 have d5:=(U.dropS 0)
 clear U
 have d6:=(bK.trans (bM.trans (aW.trans d5)))
 replace Y:=Y.trans d6
 exact bH _ _ ⟨(wq (aG+((gt ((gt ((gt p.variables (gt r_.variables A)).choices) (gt choices (gt r_.variables A))).uses) J).places))),(wq (J+1)),_,Au,BB.of ⟨Au,Au,trivial⟩,Y,cT,(AT .i64 _),(AT .i64 _),GV aT F⟩
 refine AG ?_
 clear aU
 refine Av<|A9<|Bg Au Au<|Bb (Iv (wq (J+1))) Au<|Ax ?_
 have cU:=U.drop 0
 have d7:=(U.dropS 0)
 clear U
 have d8:=(bK.trans (bM.trans (aW.trans d7)))
 replace Y:=Y.trans d8
 exact bH _ _ ⟨aG,(wq (J+1)),_,Au,BB.of ⟨Au,Au,trivial⟩,Y,cU,Ro,(AT .i64 _),GV aT F⟩
 intro gE bN
 have Z:=aE.stepR
 clear aU
 refine B7 (g0:=[]) (m:=10) (fl:=[]) (CQ aE) Au (.inl Au) Au (by decide+kernel) ?_  -- 18
 refine Bc (Bo N) (fun _ _ _ hi I=>AD (v:=Bo N) (I 13 Au)<|Gz hi)<|GI N (fun _ _ _ _ hi I=>Ay<|AD (v:=Bo N) (I 66 Au)<|Gz hi) (fun aP=>?_) (fun aP=>?_)
 replace F:=Hy F aP
 refine Dt (Pt bJ 0) Au Au (fun _ _ _ h=>h) (fun _ _ _ hi I=>AQ 0 Gc Au Du (I 17 Au) Au<|Gz hi)<|Dt (Value.agg [Bo (((gt ((gt ((gt p.variables (gt r_.variables A)).choices) (gt choices (gt r_.variables A))).uses) J).cell).airport),Iv (((gt ((gt ((gt p.variables (gt r_.variables A)).choices) (gt choices (gt r_.variables A))).uses) J).cell).index),Iv (((gt ((gt ((gt p.variables (gt r_.variables A)).choices) (gt choices (gt r_.variables A))).uses) J).cell).minute)].toArray) Au Au (fun _ _ _ h=>h) (fun _ _ _ hi I=>G4 (vs:=[Bo (((gt ((gt ((gt p.variables (gt r_.variables A)).choices) (gt choices (gt r_.variables A))).uses) J).cell).airport),Iv (((gt ((gt ((gt p.variables (gt r_.variables A)).choices) (gt choices (gt r_.variables A))).uses) J).cell).index),Iv (((gt ((gt ((gt p.variables (gt r_.variables A)).choices) (gt choices (gt r_.variables A))).uses) J).cell).minute)]) (i:=0) Du (AA.nx hi).1 (I 68 Au) Au Au Au<|Gz hi)<|Dt (Pt b1 0) Au Au (fun _ _ _ h=>h) (fun _ _ _ hi I=>AQ 0 B4 Au EX (I 3 Au) Au<|Gz hi)<|Dt (Sl Aa p.cells Ca) Au Au (fun _ _ _ h=>h) (fun _ _ _ hi I=>AP 4 EX (AA.nx hi).1 (I 70 Au) Au Au<|Gz hi)<|Dt (Pt aB 1) Au Au (fun _ _ _ h=>h) (fun _ _ _ hi I=>AQ 1 C5 Au B6 (I 8 Au) Au<|Gz hi)<|Dt (Iv ((gt r_.places G).cell)) Au Au (fun _ _ _ h=>h) (fun _ _ _ hi I=>AP 2 B6 (AA.nx hi).1 (I 72 Au) Au Au<|Gz hi) ?_
 obtain⟨bO,F⟩:=AE F
 have d9:=(cD.trans (cF.trans (aA.trans (bK.trans bM))))
 replace Fa:=Fa.step d9
 refine Bd (VP _ _ Bx (gt p.cells ((gt r_.places G).cell))) (VP.stab _ _) (fun e7 gF g X hi I=>?_) ?_
 obtain⟨-,aM,-⟩:=X
 replace Fa:=Fa.step aM
 refine BL Au (I 67 Au)<|AB (q:=Bx) EX Du (I 71 Au) (I 73 Au) Fa Au bO.1 bO.2 ?_
 intro gG eA
 exact Bs.same hi ⟨_,Au,eA⟩
 refine Bd (VD _ _ (vA Bx) (gt p.cells ((gt r_.places G).cell))) (VD.stab _ _) (fun e8 gH g X hi I=>?_) ?_
 obtain⟨gI,eB,eC⟩:=I 74 Au
 refine BL Au (I 67 Au)<|BE Du eB eC Au ?_
 intro e9 eD
 obtain⟨_,_,rfl,rfl,⟨_,_,rfl,⟨rfl,Rt⟩,⟨rfl,Ru⟩⟩⟩:=eD
 exact Bs.same hi (show Vr.vd (vA Bx) _ _ _ _ from(JX (C2 (AW GJ (AW (AU Rt) (AU Ru))))))
 refine BD fun gJ gK cV cW=>?_
 obtain⟨-,bZ,-⟩:=cV
 obtain⟨bP,cG⟩:=AA.nx cW
 rintro gL bQ
 replace bQ:Vr.vd (vA Bx) _ _ _ _:=bQ
 obtain⟨_,rfl,⟨_,_,rfl,rfl,⟨_,_,rfl,⟨rfl,Rv⟩,⟨rfl,Rw⟩⟩⟩⟩:=bQ
 rintro _ ⟨gM,rfl,cH⟩ _ rfl _ rfl _ rfl _ rfl _ rfl _ rfl _ rfl _ rfl
 have eE:=aE.to bP (bZ.trans cG)
 replace cH:=cH.step cG
 refine BO Au Au<|Sj (c:=decide (((gt ((gt ((gt p.variables (gt r_.variables A)).choices) (gt choices (gt r_.variables A))).uses) J).cell)=(gt p.cells ((gt r_.places G).cell)))) Au Au Vo (TH 9998 ((gt ((gt ((gt p.variables (gt r_.variables A)).choices) (gt choices (gt r_.variables A))).uses) J).cell) (gt p.cells ((gt r_.places G).cell)) _)<|FM (Bo (decide (((gt ((gt ((gt p.variables (gt r_.variables A)).choices) (gt choices (gt r_.variables A))).uses) J).cell)=(gt p.cells ((gt r_.places G).cell))))) Au Au<|Ax ?_
 replace Z:=Z.trans eE
 exact bN _ _ ⟨decide (((gt ((gt ((gt p.variables (gt r_.variables A)).choices) (gt choices (gt r_.variables A))).uses) J).cell)=(gt p.cells ((gt r_.places G).cell))),_,Au,BB.of ⟨Au,trivial⟩,Z,bP,F⟩
 replace F:=Hz F aP
 iterate 8 refine FX Au Au (fun _ _ _ h=>h) Au ?_
 refine BD fun gN gO cX cY=>?_
 obtain⟨-,b0,-⟩:=cX
 obtain⟨bR,eF⟩:=AA.nx cY
 rintro _ rfl _ rfl _ rfl _ rfl _ rfl _ rfl _ rfl _ rfl _ rfl _ rfl
 have eG:=aE.to bR (b0.trans eF)
 refine AI Au (AJ Au Au) Au<|F8 (Bo false) Au Au<|Ax ?_
 replace Z:=Z.trans eG
 exact bN _ _ ⟨false,_,Au,BB.of ⟨Au,trivial⟩,Z,bR,F⟩
 refine Bq ?_
 clear Fk
 refine Av<|A9<|Bg Au Au<|Bb (Iv (wq (A+1))) Au<|Ax ?_
 have cZ:=aO.drop 0
 have eH:=(aO.dropS 0)
 have eI:=(cE.trans (cF.trans (aA.trans eH)))
 replace a4:=a4.trans eI
 exact dD _ _ ⟨aG,(wq (A+1)),_,Au,BB.of ⟨Au,Au,trivial⟩,a4,cZ,Ro,(AT .i64 _),GV cL F⟩
 refine Bq<|Aw<|B7 (g0:=[]) (m:=9) (fl:=[0]) (CQ aH) Au (.inl Au) Au (by decide+kernel) ?_  -- 22
 refine Bc (Iv aC) (fun _ _ _ hi I=>AD (v:=Iv aC) (I 9 Au)<|Gz hi)<|Bc (Pt b1 1) (fun _ _ _ hi I=>AQ 1 B4 Au Db (I 3 Au) Au<|Gz hi)<|Bc (Sl Ab p.capacity Cb) (fun _ _ _ hi I=>AP 2 Db (AA.nx hi).1 (I 85 Au) Au Au<|Gz hi)<|Bc (Pt aB 0) (fun _ _ _ hi I=>AQ 0 C5 Au B6 (I 8 Au) Au<|Gz hi)<|Bc (Iv ((gt r_.places G).leaf)) (fun _ _ _ hi I=>AP 0 B6 (AA.nx hi).1 (I 87 Au) Au Au<|Gz hi) ?_
 obtain⟨bS,F⟩:=AE F
 have eJ:=(cK.trans aD)
 replace Fb:=Fb.step eJ
 refine Bd (VP _ _ (BG (AL .i64)) (gt p.capacity ((gt r_.places G).leaf))) (VP.stab _ _) (fun fA gP g X hi I=>?_) ?_
 obtain⟨-,aM,-⟩:=X
 replace Fb:=Fb.step aM
 refine Ay<|AB (q:=BG (AL .i64)) Db Bl (I 86 Au) (I 88 Au) Fb Au bS.1 bS.2 ?_
 intro gQ eK
 exact Bs.same hi ⟨_,Au,eK⟩
 refine Bd (VD _ _ (vC (BG (AL .i64))) (gt p.capacity ((gt r_.places G).leaf))) (VD.stab _ _) (fun fB gR g X hi I=>?_) ?_
 obtain⟨gS,eL,eM⟩:=I 89 Au
 refine Ay<|AR Bl eL eM Au ?_
 intro gT eN
 obtain⟨Al,Cl,rfl,Fl⟩:=B9 eN
 exact Bs.same hi (show Vr.vd (vC (BG (AL .i64))) _ _ _ _ from(Jy (B8 Fl)))
 refine Bc (Pt aB 1) (fun _ _ _ hi I=>AQ 1 C5 Au B6 (I 8 Au) Au<|Gz hi)<|Bc (Iv ((gt r_.places G).cell)) (fun _ _ _ hi I=>AP 0 B6 (AA.nx hi).1 (I 91 Au) Au Au<|Gz hi)<|BD fun gU gV c0 c1=>?_
 obtain⟨-,b2,-⟩:=c0
 obtain⟨aF,bT⟩:=AA.nx c1
 rintro _ rfl _ rfl gW bU
 replace bU:Vr.vd (vC (BG (AL .i64))) _ _ _ _:=bU
 obtain⟨Am,Cm,rfl,Fm⟩:=B9 bU
 rintro _ ⟨gX,rfl,aX⟩ _ rfl _ rfl _ rfl _ rfl _ rfl
 have eO:=aH.to aF (b2.trans bT)
 replace Fm:=Fm.step bT;replace aX:=aX.step bT;clear aH
 obtain⟨bV,F⟩:=AE F
 refine A9<|AB (q:=(AL .i64)) Bl B6 Au Au Fm Au bV.1 bV.2 ?_
 intro gY bW
 refine A9<|AR B6 Au bW Au ?_
 intro gZ eP
 obtain⟨rfl,Rx⟩:=BK eP
 refine A9<|EB Au Au<|Ax<|AF F Au (fun c2 F=>?_) (fun c2 F=>?_)
 refine Aw ?_
 clear Ff Fm aX bW
 refine Av<|Bn (Bo true) Au<|Ax<|AV<|⟨_,DX,[Bo true],⟨Au,trivial⟩,aF.ext,?_⟩
 exact Vr.eq (a:=vB) (x:=true) Au (oi F)
 refine AG ?_
 clear Fm aX bW
 refine Av<|A9<|Bg Au Au<|Bb (Iv (wq (G+1))) Au<|Ax ?_
 have c3:=aF.drop 0
 have eQ:=(aF.dropS 0)
 clear aF
 have eR:=(dB.trans (dC.trans (aD.trans (eO.trans eQ))))
 replace a0:=a0.trans eR
 exact c7 _ _ ⟨(wq (G+1)),_,Au,BB.of ⟨Au,trivial⟩,a0,c3,(AT .i64 _),Dc cJ F⟩
 refine Bq<|Aw ?_
 obtain⟨c4,g1⟩:=aR.sub (bs':=[]) (.cons _ (.cons _ List.Sublist.slnil))
 clear Fa Fb Fc Fd Fe Ff
 clear aR
 refine Av<|Bn (Bo false) Au<|Ax<|AV<|⟨_,DX,[Bo false],⟨Au,trivial⟩,c4.ext,?_⟩
 exact Vr.eq (a:=vB) (x:=false) Au (oi F)

abbrev Ym:List Nat:=[4,5,9,10,11,12,13,14,15,16,17,18,19,20,21,22,23,24,25,26,27,28,29,30,31,32,33]

def Dm (p:A8) (choices:List Int) (G:Int→(List Int)→Option (Bool × (List Int))) (A:Int) (F:List Int):Option (Bool × (List Int)):=
 bif (decide (0≤A)) then
  ck ((0:Int)≤A∧A<(choices.length:Int)∧A<(F.length:Int))<|
  ck ((0:Int)≤A∧A<(choices.length:Int)∧A<(F.length:Int))<|
  ck ((0:Int)≤A∧A<(choices.length:Int)∧A<((F.set A.toNat (IntKind.wrap .i64 ((F.getD A.toNat default)+1))).length:Int))<|
  ck ((0:Int)≤A∧A<(p.variables.length:Int))<|
  bif (decide (((F.set A.toNat (IntKind.wrap .i64 ((F.getD A.toNat default)+1))).getD A.toNat default)<(((p.variables.getD A.toNat default).choices).length:Int))) then
   some (true,F.set A.toNat (IntKind.wrap .i64 ((F.getD A.toNat default)+1)))
  else
   ck ((0:Int)≤A∧A<(choices.length:Int)∧A<((F.set A.toNat (IntKind.wrap .i64 ((F.getD A.toNat default)+1))).length:Int))<|
   G (IntKind.wrap .i64 (A - 1)) ((F.set A.toNat (IntKind.wrap .i64 ((F.getD A.toNat default)+1))).set A.toNat 0)
 else
  some (false,F)

def DW (p:A8) (choices:List Int):Option (Bool × (List Int)):=
 BC (Dm p choices) 1000000 (IntKind.wrap .i64 ((choices.length:Int) - 1)) choices

theorem J9 {w:World} {O:List Nat} {p:A8} {choices:List Int} {Aa:Option Addr} {Ca:Nat} {Ab:Option Addr} {Cb:Nat} {Ac:Option Addr} {Cc:Nat} {pre_choices post_choices:List Int} {bl_choices cc_choices cb_choices:Nat} {o_choices:Obj} {e_choices:TypeId} (bC:I8 w O [(some bl_choices,o_choices)]) (Fa:CA Bx w (ks [(some bl_choices,o_choices)] O) Aa Ca p.cells) (Fb:CA (BG (AL .i64)) w (ks [(some bl_choices,o_choices)] O) Ab Cb p.capacity) (Fc:CA AS w (ks [(some bl_choices,o_choices)] O) Ac Cc p.variables) (Fd:Gs (AL .i64) e_choices w (ks [(some bl_choices,o_choices)] O) (some ⟨bl_choices,0,none⟩) cb_choices (pre_choices++choices++post_choices) (some bl_choices) o_choices) {x0:Bool} {y_choices:List Int} (G:DW p choices=some (x0,y_choices)):
 WZ Try.prog 16 [Value.agg (BS p Aa Ca Ab Cb Ac Cc).toArray,Value.slice (some ⟨bl_choices,pre_choices.length,none⟩) choices.length cc_choices] w O [(some bl_choices,o_choices)] vB x0 (fun w' L'=>∃(I:Obj),L'=[(some bl_choices,I)]∧Gs (AL .i64) e_choices w' (ks L' O) (some ⟨bl_choices,0,none⟩) cb_choices (pre_choices++y_choices++post_choices) (some bl_choices) I):=by
 unfold DW at G
 refine Br (n:=34) (xs:=[.tmp 4]) Try.func16 Au Try.ntmps16 Try.results16 Au ?_
 obtain⟨x,hxm⟩:∃x,x=(x0,y_choices):=⟨_,Au⟩
 rw [← hxm] at G
 have hs:St ⟨w,List.filterMap Prod.fst [(some bl_choices,o_choices)],[]⟩ O w [(some bl_choices,o_choices)]:=bC
 have hO:=hs.lt0
 have hlw:=T0 Fd
 refine Aw<|Av<|A9<|BT (cs:=(BS p Aa Ca Ab Cb Ac Cc)) hs Au Au ?_
 intro b1 w2 _ p3 a0
 refine Bn (Bo false) Au<|Ax<|Aw<|Aw<|Av<|Bb (Value.slice (some ⟨bl_choices,pre_choices.length,none⟩) choices.length cc_choices) Au<|A9<|AZ Try.underlying31 Au<|A9<|FN Au Au<|Bn (Iv (wq ((choices.length:Int) - 1))) Au<|Ax<|AC<|Wr [] [(1,Value.slice (some ⟨bl_choices,pre_choices.length,none⟩) choices.length cc_choices),(2,Pt b1 0),(5,Iv (wq ((choices.length:Int) - 1)))] fun b3=>?_
 replace Fd:=Fd.step p3
 refine Bf Ym (fun m fr w'=>∃(A:Int) (F:List Int) (X:Obj) (aM:Be),aM=[(some b1,Oc (BS p Aa Ca Ab Cb Ac Cc) 26),(some bl_choices,X)]∧fr [] [(5,Iv A)]∧a0.S (ks aM O) w'∧St ⟨w,List.filterMap Prod.fst [(some bl_choices,o_choices)],[]⟩ O w' aM∧Cx .i64 A∧Gs (AL .i64) e_choices w' (ks aM O) (some ⟨bl_choices,0,none⟩) cb_choices (pre_choices++F++post_choices) (some bl_choices) X∧BC (Dm p choices) m A F=some x) 1000000 ⟨(wq ((choices.length:Int) - 1)),choices,o_choices,_,Au,BB.of ⟨Au,trivial⟩,AA.refl _ _,a0,(AT .i64 _),Fd,G⟩ ?_ ?_
 rintro _ _ ⟨_,_,_,_,_,_,_,_,_,_,G⟩;exact DI G
 rintro b4 b5 a1 bS b6 ⟨A,F,X,_,rfl,aE,aF,W,Ra,Fe,G⟩
 obtain⟨b7,aP,G⟩:=DJ G;unfold Dm at G
 rw [aE.eq];clear aE
 have aG:=aF
 refine Aw<|Aw ?_
 clear Fd
 refine Av<|Bb (Iv A) Au<|A9<|HH Au Au<|Ax<|AF G Au (fun a2 G=>?_) (fun a2 G=>?_)
 refine AG<|Aw<|AC<|Aw<|Av<|Bb (Value.slice (some ⟨bl_choices,pre_choices.length,none⟩) choices.length cc_choices) Au<|Bb (Iv A) Au ?_
 obtain⟨Y,G⟩:=AE G
 refine A9<|Hc Bl B6 Au Au Y.1 Y.2.1<|A9<|Qm (m:=A) (pre:=pre_choices) (xs:=F) (post:=post_choices) (i:=1) B6 Au W Au Au Fe ⟨Y.1,Y.2.2⟩ ?_
 intro b8 bE
 obtain⟨rfl,Rb⟩:=BK bE
 refine A9<|Bg Au Au ?_
 obtain⟨Z,G⟩:=AE G
 refine A9<|Hc Bl B6 Au Au Z.1 Z.2.1<|Bh<|OL (vs:=[Iv (wq ((gt F A)+1))]) (i:=1) (pre:=pre_choices) (post:=post_choices) (xs:=F) (m:=A) B6 Au W Au Au Au Au Fe ⟨Z.1,Z.2.2⟩ (AU (AT .i64 _)) ?_
 intro b9 cA a3 aH N
 clear W
 refine Ax<|Aw<|Aw<|B7 (g0:=[]) (m:=11) (fl:=[]) (CQ aH) Au (.inl Au) Au (by decide+kernel) ?_  -- 5
 refine Bc (Value.slice (some ⟨bl_choices,pre_choices.length,none⟩) choices.length cc_choices) (fun _ _ _ hi J=>AD (v:=Value.slice (some ⟨bl_choices,pre_choices.length,none⟩) choices.length cc_choices) (J 1 Au)<|Gz hi)<|Bc (Iv A) (fun _ _ _ hi J=>AD (v:=Iv A) (J 5 Au)<|Gz hi) ?_
 obtain⟨aA,G⟩:=AE G
 refine Bc (Value.pointer (some ⟨bl_choices,pre_choices.length+A.toNat*1,none⟩)) (fun _ _ _ hi J=>Hc Bl B6 (J 19 Au) (J 20 Au) aA.1 aA.2.1<|Gz hi)<|Bd (VD _ _ (vI .i64) (gt (F.set A.toNat (wq ((gt F A)+1))) A)) (VD.stab _ _) (fun bT cB g aD hi J=>?_) ?_
 obtain⟨-,aQ,-⟩:=aD
 replace N:=N.step aQ
 have bF:=(AA.nx hi).1
 refine Ay<|Qm (m:=A) (pre:=pre_choices) (xs:=F.set A.toNat (wq ((gt F A)+1))) (post:=post_choices) (i:=1) B6 Au bF Au (J 21 Au) N ⟨aA.1,aA.2.2⟩ ?_
 intro cC bG
 obtain⟨rfl,Rc⟩:=BK bG
 exact Bs.same hi (show Vr.vd (vI .i64) _ _ _ _ from⟨Au,Rc⟩)
 refine Bc (Pt b1 2) (fun _ _ _ hi J=>AQ 2 B4 Au Cz (J 2 Au) Au<|Gz hi)<|Bc (Sl Ac p.variables Cc) (fun _ _ _ hi J=>AP 0 Cz (AA.nx hi).1 (J 23 Au) Au Au<|Gz hi)<|Bc (Iv A) (fun _ _ _ hi J=>AD (v:=Iv A) (J 5 Au)<|Gz hi) ?_
 obtain⟨aO,G⟩:=AE G
 have bH:=(p3.trans (aF.trans a3))
 replace Fc:=Fc.step bH
 refine Bd (VP _ _ AS (gt p.variables A)) (VP.stab _ _) (fun bU cD g aD hi J=>?_) ?_
 obtain⟨-,aQ,-⟩:=aD
 replace Fc:=Fc.step aQ
 refine Ay<|AB (q:=AS) Cz Dq (J 24 Au) (J 25 Au) Fc Au aO.1 aO.2 ?_
 intro cE bI
 exact Bs.same hi ⟨_,Au,bI⟩
 refine Bd (VP _ _ (BG Bt) ((gt p.variables A).choices)) (VP.stab _ _) (fun bV cF g aD hi J=>?_) ?_
 obtain⟨cG,bJ,bK⟩:=J 26 Au
 refine Ay<|B5 Dq Au FJ (by decide) bJ Au ?_
 have bL:=bK.via.snd.snd.snd
 exact Bs.same hi ⟨_,Au,bL⟩
 refine Bd (VD _ _ (vC (BG Bt)) ((gt p.variables A).choices)) (VD.stab _ _) (fun bW cH g aD hi J=>?_) ?_
 obtain⟨cI,bM,bN⟩:=J 27 Au
 refine Ay<|AR FJ bM bN Au ?_
 intro cJ bO
 obtain⟨Ad,Cd,rfl,Ff⟩:=B9 bO
 exact Bs.same hi (show Vr.vd (vC (BG Bt)) _ _ _ _ from(Jy (B8 Ff)))
 refine Bd (VD _ _ (vI .i64) (((gt p.variables A).choices).length:Int)) (VD.stab _ _) (fun bX cK g aD hi J=>?_) ?_
 have bP:Vr.vd (vC (BG Bt)) _ _ _ _:=J 28 Au
 obtain⟨Ae,Ce,bQ,Fg⟩:=B9 bP
 exact Ay<|AZ Try.underlying59 bQ<|Bs.same hi (show Vr.vd (vI .i64) _ _ _ _ from⟨Au,AX Fg⟩)
 refine BD fun cL cM a4 a5=>?_
 obtain⟨-,aR,-⟩:=a4
 obtain⟨M,aN⟩:=AA.nx a5
 rintro cN aS
 replace aS:Vr.vd (vI .i64) _ _ _ _:=aS
 obtain⟨rfl,Rd⟩:=aS
 rintro cO aT
 replace aT:Vr.vd (vC (BG Bt)) _ _ _ _:=aT
 obtain⟨Af,Cf,rfl,Fh⟩:=B9 aT
 rintro _ ⟨bY,rfl,aB⟩ _ ⟨bZ,rfl,aC⟩ _ rfl _ rfl _ rfl b0 aI
 replace aI:Vr.vd (vI .i64) _ _ _ _:=aI
 obtain⟨rfl,Re⟩:=aI
 rintro _ rfl _ rfl _ rfl
 have aJ:=aH.to M (aR.trans aN)
 replace Fh:=Fh.step aN;replace aB:=aB.step aN;replace aC:=aC.step aN;clear aH
 refine A9<|By Au Au<|Ax<|AF G Au (fun aU G=>?_) (fun aU G=>?_)
 refine Aw ?_
 clear Fh aB aC
 refine Av<|Bn (Bo true) Au<|Ax<|AV ?_
 have aV:=M.drop 0
 have a6:=(M.dropS 0)
 clear M
 have aK:=(oi G).trans hxm;simp only [Prod.mk.injEq] at aK;obtain⟨aW,rfl⟩:=aK
 have a7:=(aJ.trans a6)
 replace N:=N.step a7
 refine⟨_,DX,[Bo true],⟨Au,trivial⟩,_,St.backB aV,⟨_,Au,N⟩,?_⟩
 exact Vr.eq (a:=vB) (x:=true) Au aW
 refine AG ?_
 clear Fh aB aC
 refine Av<|Bb (Value.slice (some ⟨bl_choices,pre_choices.length,none⟩) choices.length cc_choices) Au<|Bb (Iv A) Au ?_
 obtain⟨U,G⟩:=AE G
 refine A9<|Hc Bl B6 Au Au U.1 U.2.1 ?_
 replace N:=N.step aJ
 refine Bh<|OL (vs:=[Iv 0]) (i:=1) (pre:=pre_choices) (post:=post_choices) (xs:=F.set A.toNat (wq ((gt F A)+1))) (m:=A) B6 Au M Au Au Au Au N ⟨U.1,U.2.2⟩ (AU E1) ?_
 intro b2 a8 a9 aX bA
 clear M
 refine Ax<|Av<|Bb (Iv A) Au<|A9<|FN Au Au<|Bn (Iv (wq (A - 1))) Au<|Ax ?_
 replace aG:=aG.trans (a3.trans (aJ.trans a9))
 exact a1 _ _ ⟨(wq (A - 1)),(F.set A.toNat (wq ((gt F A)+1))).set A.toNat 0,a8,_,Au,BB.of ⟨Au,trivial⟩,aG,aX,(AT .i64 _),bA,GV aP G⟩
 refine Bq<|Aw ?_
 obtain⟨aY,bB⟩:=W.sub (bs':=[(some bl_choices,X)]) (.cons _ (.cons_cons _ List.Sublist.slnil))
 clear Fa Fb Fc
 clear W
 refine Av<|Bn (Bo false) Au<|Ax<|AV ?_
 have aL:=(oi G).trans hxm;simp only [Prod.mk.injEq] at aL;obtain⟨aZ,rfl⟩:=aL
 replace Fe:=Fe.step bB
 refine⟨_,DX,[Bo false],⟨Au,trivial⟩,_,St.backB aY,⟨_,Au,Fe⟩,?_⟩
 exact Vr.eq (a:=vB) (x:=false) Au aZ

abbrev q3_3:List Nat:=[78,79,80,81,82,83,84,85]

abbrev q3_2:List Nat:=[6,71,72,73,74,75,76,77]

abbrev Yn:List Nat:=[2,16,17,18,19,143,144,145,146,147,148,149,150,151,152,153,154,155,156,157,158,159,160,161,162,163,164,165,166,167,168,169,170,171,172]

abbrev Yo:List Nat:=[2,12,13,14,15,110,111,112,113,114,115,116,117,118,119,120,121,122,123,124,125,126,127,128,129,130,131,132,133,134,135,136,137,138,139]

abbrev q3_5:List Nat:=[101,102,103,104,105,106]

abbrev PG:List Nat:=[2,6,7,8,9,58,59,60,61,62,63,64,65,66,67,68,69,70,71,72,73,74,75,76,77,78,79,80,81,82,83,84,85,86,87,88,89]

abbrev q3_1:List Nat:=[36,37,38,39,40,41,42,43,44,45,46,47,48,49,50,51,52,53]

abbrev q3_0:List Nat:=[22,23,24,25,26,27,28,29]

def BW (p:A8) (A:Ba × Bool × Int) (J:Int→Option Bool) (F:Int):Option Bool:=
 bif (decide (F<(A.1.places.length:Int))) then
  ck ((0:Int)≤F∧F≤(A.1.places.length:Int))<|
  ck ((([]:List Az).length+((A.1.places.drop 0).take (F.toNat - 0)).length)*16≤140737488355328)<|
  ck ((0:Int)≤(IntKind.wrap .i64 (F+1))∧(IntKind.wrap .i64 (F+1))≤(A.1.places.length:Int))<|
  ck (((([]:List Az)++((A.1.places.drop 0).take (F.toNat - 0))).length+((A.1.places.drop (IntKind.wrap .i64 (F+1)).toNat).take (A.1.places.length - (IntKind.wrap .i64 (F+1)).toNat)).length)*16≤140737488355328)<|
  (CT p (⟨A.1.variables,(([]:List Az)++((A.1.places.drop 0).take (F.toNat - 0)))++((A.1.places.drop (IntKind.wrap .i64 (F+1)).toNat).take (A.1.places.length - (IntKind.wrap .i64 (F+1)).toNat))⟩:Ba)).bind fun G=>
  jn (fun(M:Bool)=>
   bif M then
    some false
   else
    J (IntKind.wrap .i64 (F+1)))
  (fun I=>
   bif G.1 then
    I true
   else
    I (decide (G.2≠0)))
 else
  some true

def BX (p:A8) (A:Ba × Bool × Int) (J:Int→Option Bool) (F:Int):Option Bool:=
 bif (decide (F<(A.1.variables.length:Int))) then
  ck ((0:Int)≤F∧F≤(A.1.variables.length:Int))<|
  ck ((([]:List Int).length+((A.1.variables.drop 0).take (F.toNat - 0)).length)*8≤140737488355328)<|
  ck ((0:Int)≤(IntKind.wrap .i64 (F+1))∧(IntKind.wrap .i64 (F+1))≤(A.1.variables.length:Int))<|
  ck (((([]:List Int)++((A.1.variables.drop 0).take (F.toNat - 0))).length+((A.1.variables.drop (IntKind.wrap .i64 (F+1)).toNat).take (A.1.variables.length - (IntKind.wrap .i64 (F+1)).toNat)).length)*8≤140737488355328)<|
  (CT p (⟨(([]:List Int)++((A.1.variables.drop 0).take (F.toNat - 0)))++((A.1.variables.drop (IntKind.wrap .i64 (F+1)).toNat).take (A.1.variables.length - (IntKind.wrap .i64 (F+1)).toNat)),A.1.places⟩:Ba)).bind fun G=>
  jn (fun(M:Bool)=>
   bif M then
    some false
   else
    J (IntKind.wrap .i64 (F+1)))
  (fun I=>
   bif G.1 then
    I true
   else
    I (decide (G.2≠0)))
 else
  B0 (BW p A) (((A.1.places.length:Int) - 0).toNat+1) 0

def C9 (p:A8) (G:Ba × Bool × Int) (Z:Bool→Option Bool) (W:Bool→(List Int)→Option Bool) (X:Bool) (A:List Int):Option Bool:=
 (GA p A).bind fun F=>
 jn (fun(aA:Bool)=>
  bif aA then
   some false
  else
   jn (fun(J:Bool)=>
    jn (fun(aB:Bool)=>
     bif aB then
      some false
     else
      (DW p A).bind fun I=>
      ck (A.length=I.2.length)<|
      ck (A.length=I.2.length)<|
      bif (!I.1) then
       Z J
      else
       W J I.2)
    (fun M=>
     bif G.2.1 then
      (D6 p G.1 A).bind fun Y=>
      M (!Y)
     else
      M false))
   (fun N=>
    bif X then
     ck ((0:Int)≤0∧0<(F.1.length:Int))<|
     N (decide (0<(F.1.getD 0 default)))
    else
     N false))
 (fun U=>
  bif (decide (F.2≠0)) then
   U true
  else
   U (decide ((F.1.length:Int)≠4)))

def DE (p:A8):Option Bool:=
 FP.bind fun J=>
 bif (!J) then
  some false
 else
  jn (fun(X:Bool)=>
   bif X then
    some true
   else
    (DY p).bind fun A=>
    jn (fun(Y:Bool)=>
     bif Y then
      some false
     else
      ck ((0:Int)≤(p.variables.length:Int)∧(p.variables.length:Int)≤(p.variables.length:Int)∧(8:Int)*(p.variables.length:Int)≤281474976710656∧(p.variables.length:Int)≤281474976710656)<|
      jn (fun(N:Bool)=>
       bif (!(N == A.2.1)) then
        some false
       else
        bif (!A.2.1) then
         some true
        else
         (CT p A.1).bind fun F=>
         jn (fun(Z:Bool)=>
          bif Z then
           some false
          else
           B0 (BX p A) (((A.1.variables.length:Int) - 0).toNat+1) 0)
         (fun M=>
          bif (!F.1) then
           M true
          else
           M (decide (F.2≠0))))
      (fun aA=>
       BC (C9 p A aA) 1000000 true (List.replicate p.variables.length (0:Int))))
    (fun U=>
     bif (decide (A.2.2≠0)) then
      U true
     else
      bif (!(A.2.1 == (decide (0<(A.1.variables.length:Int))))) then
       U true
      else
       U (!(A.2.1 == (decide (0<(A.1.places.length:Int)))))))
  (fun W=>
   (Ex p).bind fun G=>
   bif (!G) then
    W true
   else
    (E4 p).bind fun I=>
    W (decide (I≠0)))

theorem I1 {w:World} {O:List Nat} {p:A8} {Aa:Option Addr} {Ca:Nat} {Ab:Option Addr} {Cb:Nat} {Ac:Option Addr} {Cc:Nat} (hO:∀k∈O,k<w.heap.size) (Fa:CA Bx w O Aa Ca p.cells) (Fb:CA (BG (AL .i64)) w O Ab Cb p.capacity) (Fc:CA AS w O Ac Cc p.variables) {x:Bool} (F:DE p=some x):
 Ok Try.prog 3 [Value.agg (BS p Aa Ca Ab Cb Ac Cc).toArray] w O vB x:=by
 unfold DE at F
 refine Br (n:=173) (xs:=[.tmp 2]) Try.func3 Au Try.ntmps3 Try.results3 Au ?_
 have hs:=St.start hO
 refine Aw<|Av<|A9<|BT (cs:=(BS p Aa Ca Ab Cb Ac Cc)) hs Au Au ?_
 intro b1 w2 _ p3 d7
 refine Bn (Bo false) Au<|Ax<|Aw<|Aw<|Av ?_
 obtain⟨iV,iW,F⟩:=bd F
 refine A9<|Bi d7 Try.call10 (J7 d7.ltw iW) Au ?_
 rintro v7 w8 gF aT iX
 clear d7
 obtain rfl:=iX
 refine A9<|Do Au<|Ax<|AF F Au (fun gG F=>?_) (fun gG F=>?_)
 refine Aw ?_
 obtain⟨gH,nW⟩:=aT.sub (bs':=[]) (.cons _ List.Sublist.slnil)
 clear Fa Fb Fc
 clear aT
 refine Av<|Bn (Bo false) Au<|Ax<|AV<|⟨_,DX,[Bo false],⟨Au,trivial⟩,gH.ext,?_⟩
 exact Vr.eq (a:=vB) (x:=false) Au (oi F)
 refine AG<|Aw<|Wr [] [(1,Pt b1 0)] fun k0=>?_
 obtain⟨iY,gI,F⟩:=Cy F
 refine CE q3_0 (fun fr w'=>∃(d8:Bool) (M:Be),M=[(some b1,Oc (BS p Aa Ca Ab Cb Ac Cc) 26)]∧fr [] [(29,Bo d8)]∧aT.S (ks M O) w'∧St ⟨w,[],[]⟩ O w' M∧iY d8=some x) ?_ ?_
 rintro k1 nX ⟨d8,_,rfl,cG,d9,a3,F⟩
 replace F:=Dc gI F
 rw [cG.eq];clear cG
 refine AF F Au (fun gJ F=>?_) (fun gJ F=>?_)
 refine Aw ?_
 obtain⟨gK,nY⟩:=a3.sub (bs':=[]) (.cons _ List.Sublist.slnil)
 clear Fa Fb Fc
 clear a3
 refine Av<|Bn (Bo true) Au<|Ax<|AV<|⟨_,DX,[Bo true],⟨Au,trivial⟩,gK.ext,?_⟩
 exact Vr.eq (a:=vB) (x:=true) Au (oi F)
 refine AG<|Aw<|Av<|A9<|B1 0 B4 a3 Au Au Au ?_
 obtain⟨A,gL,F⟩:=bd F
 have eA:=(p3.trans (gF.trans d9))
 replace Fb:=Fb.step eA;replace Fa:=Fa.step eA;replace Fc:=Fc.step eA
 refine A9<|Bi a3 Try.call13 (GF (p:=p) a3.ltw Fa Fb Fc gL) Au ?_
 rintro nZ n0 iZ dS i0
 clear a3
 obtain⟨n1,n2,n3,rfl,i1,i2,i3⟩:=i0
 obtain⟨_,rfl,⟨_,_,rfl,⟨Ad,Cd,rfl,Fd⟩,⟨Ae,Ce,rfl,Fe⟩⟩⟩:=i1
 obtain rfl:=i2
 obtain⟨rfl,Ra⟩:=i3
 refine Bb (Value.tuple [Value.agg [Sl Ad A.1.variables Cd,Sl Ae A.1.places Ce].toArray,Bo A.2.1,Iv A.2.2].toArray) Au<|A9<|Bk (v:=Value.agg [Sl Ad A.1.variables Cd,Sl Ae A.1.places Ce].toArray) Au Au<|A9<|Bk (v:=Bo A.2.1) Au Au<|A9<|Bk (v:=Iv A.2.2) Au Au<|A9<|Bv DT dS ?_
 intro Z n4 _ dI dT
 clear dS
 refine Bh<|C6 .z DT dT Au Au Au Au Au ?_
 intro n5 dJ aU
 clear dT
 refine Bn (Bo A.2.1) Au<|Bn (Iv A.2.2) Au<|Ax<|Aw<|Wr [] [(1,Pt b1 0),(3,Pt Z 0),(4,Bo A.2.1),(5,Iv A.2.2)] fun k2=>?_
 obtain⟨i4,gM,F⟩:=Cy F
 refine CE q3_1 (fun fr w'=>∃(eB:Bool) (M:Be),M=[(some Z,Oc [Sl Ad A.1.variables Cd,Sl Ae A.1.places Ce] 34),(some b1,Oc (BS p Aa Ca Ab Cb Ac Cc) 26)]∧fr [] [(53,Bo eB)]∧aU.S (ks M O) w'∧St ⟨w,[],[]⟩ O w' M∧i4 eB=some x) ?_ ?_
 rintro k3 n6 ⟨eB,_,rfl,cH,bK,bC,F⟩
 replace F:=Dc gM F
 rw [cH.eq];clear cH
 refine AF F Au (fun gN F=>?_) (fun gN F=>?_)
 refine Aw ?_
 obtain⟨gO,n7⟩:=bC.sub (bs':=[]) (.cons _ (.cons _ List.Sublist.slnil))
 clear Fa Fb Fc Fd Fe
 clear bC
 refine Av<|Bn (Bo false) Au<|Ax<|AV<|⟨_,DX,[Bo false],⟨Au,trivial⟩,gO.ext,?_⟩
 exact Vr.eq (a:=vB) (x:=false) Au (oi F)
 refine AG<|Aw<|Av<|Bn (Bo true) Au<|Ax<|Aw<|Av<|A9<|AQ 2 B4 Au Cz Au Au<|A9<|AP 1 Cz bC Au Au Au<|A9<|AZ Try.underlying24 Au ?_
 have eC:=(iZ.trans (dI.trans (dJ.trans bK)))
 replace Fc:=Fc.step eC
 have k4:=AX Fc
 obtain⟨gP,F⟩:=AE F
 refine A9<|GC (q:=(AL .i64)) (v:=Iv 0) (x0:=(0:Int)) Bl B6 bC Au Au gP Au (fun _ _=>(AU E1)) ?_
 intro aB n8 k5 cF bX eD
 clear bC
 refine Bn (Sl (some ⟨aB,0,none⟩) (List.replicate p.variables.length (0:Int)) p.variables.length) Au<|Ax<|Wr [] [(1,Pt b1 0),(3,Pt Z 0),(4,Bo A.2.1),(6,Bo true),(7,Sl (some ⟨aB,0,none⟩) (List.replicate p.variables.length (0:Int)) p.variables.length)] fun bY=>?_
 obtain⟨gQ,gR,F⟩:=Cy F
 refine CE PG (fun fr w'=>∃(a4:Bool) (M:Be),M=[(some Z,Oc [Sl Ad A.1.variables Cd,Sl Ae A.1.places Ce] 34),(some b1,Oc (BS p Aa Ca Ab Cb Ac Cc) 26)]∧fr [] [(6,Bo a4)]∧bX.S (ks M O) w'∧St ⟨w,[],[]⟩ O w' M∧gQ a4=some x) ?_ ?_
 rintro k6 n9 ⟨a4,_,rfl,cI,bL,aH,F⟩
 replace F:=Dc gR F
 rw [cI.eq];clear cI
 refine Aw<|Aw ?_
 clear eD
 refine Av<|Bb (Bo a4) Au<|Bb (Bo A.2.1) Au<|A9<|LO Try.underlying4 Au Au<|Ax<|AF F Au (fun gS F=>?_) (fun gS F=>?_)
 refine Aw ?_
 obtain⟨gT,oA⟩:=aH.sub (bs':=[]) (.cons _ (.cons _ List.Sublist.slnil))
 clear Fa Fb Fc Fd Fe
 clear aH
 refine Av<|Bn (Bo false) Au<|Ax<|AV<|⟨_,DX,[Bo false],⟨Au,trivial⟩,gT.ext,?_⟩
 exact Vr.eq (a:=vB) (x:=false) Au (oi F)
 refine AG<|Aw<|Aw<|Av<|Bb (Bo A.2.1) Au<|A9<|Do Au<|Ax<|AF F Au (fun gU F=>?_) (fun gU F=>?_)
 refine Aw ?_
 obtain⟨gV,oB⟩:=aH.sub (bs':=[]) (.cons _ (.cons _ List.Sublist.slnil))
 clear Fa Fb Fc Fd Fe
 clear aH
 refine Av<|Bn (Bo true) Au<|Ax<|AV<|⟨_,DX,[Bo true],⟨Au,trivial⟩,gV.ext,?_⟩
 exact Vr.eq (a:=vB) (x:=true) Au (oi F)
 refine AG<|Aw<|Aw<|Av<|A9<|B1 1 B4 aH Au Au Au<|A9<|B1 0 DT aH Au Au Au ?_
 obtain⟨N,gW,F⟩:=bd F
 have dU:=(eC.trans (cF.trans bL))
 replace Fb:=Fb.step dU;replace Fa:=Fa.step dU
 replace Fc:=Fc.step (cF.trans bL)
 have dV:=(dI.trans (dJ.trans (bK.trans (cF.trans bL))))
 replace Fe:=Fe.step dV;replace Fd:=Fd.step dV
 refine A9<|Bi aH Try.call17 (Ga (p:=p) (r_:=A.1) aH.ltw Fa Fb Fc Fd Fe gW) Au ?_
 rintro oC oD gX bZ i5
 clear aH
 obtain⟨k7,k8,rfl,gY,gZ⟩:=i5
 obtain rfl:=gY
 obtain⟨rfl,Rb⟩:=gZ
 refine Bb (Value.tuple [Bo N.1,Iv N.2].toArray) Au<|A9<|Bk (v:=Bo N.1) Au Au<|A9<|Bk (v:=Iv N.2) Au Au<|Bn (Bo N.1) Au<|Bn (Iv N.2) Au<|Ax<|Wr [] [(1,Pt b1 0),(3,Pt Z 0),(10,Bo N.1),(11,Iv N.2)] fun i6=>?_
 obtain⟨g1,eE,F⟩:=Cy F
 refine CE q3_5 (fun fr w'=>∃(eF:Bool) (M:Be),M=[(some Z,Oc [Sl Ad A.1.variables Cd,Sl Ae A.1.places Ce] 34),(some b1,Oc (BS p Aa Ca Ab Cb Ac Cc) 26)]∧fr [] [(106,Bo eF)]∧bZ.S (ks M O) w'∧St ⟨w,[],[]⟩ O w' M∧g1 eF=some x) ?_ ?_
 rintro i7 k9 ⟨eF,_,rfl,b0,dK,a5,F⟩
 replace F:=Dc eE F
 rw [b0.eq];clear b0
 refine AF F Au (fun eG F=>?_) (fun eG F=>?_)
 refine Aw ?_
 obtain⟨eH,lA⟩:=a5.sub (bs':=[]) (.cons _ (.cons _ List.Sublist.slnil))
 clear Fa Fb Fc Fd Fe
 refine Av<|Bn (Bo false) Au<|Ax<|AV<|⟨_,DX,[Bo false],⟨Au,trivial⟩,eH.ext,?_⟩
 exact Vr.eq (a:=vB) (x:=false) Au (oi F)
 refine AG<|Aw<|Aw<|Av<|A9<|AQ 0 DT Au Bl Au Au<|A9<|AP 0 Bl a5 Au Au Au<|A9<|AZ Try.underlying31 Au ?_
 have cJ:=(gX.trans dK)
 replace Fd:=Fd.step cJ
 have i8:=AX Fd
 refine Bb (Iv 0) Au<|Ax<|AC<|Wr [] [(1,Pt b1 0),(3,Pt Z 0),(109,Iv (A.1.variables.length:Int)),(110,Iv 0)] fun eI=>Bf Yo (fun m fr w'=>∃(X:Int) (M:Be),M=[(some Z,Oc [Sl Ad A.1.variables Cd,Sl Ae A.1.places Ce] 34),(some b1,Oc (BS p Aa Ca Ab Cb Ac Cc) 26)]∧fr [] [(110,Iv X)]∧a5.S (ks M O) w'∧St ⟨w,[],[]⟩ O w' M∧Cx .i64 X∧B0 (BX p A) m X=some x) (((A.1.variables.length:Int) - 0).toNat+1) ⟨0,_,Au,BB.of ⟨Au,trivial⟩,AA.refl _ _,a5,E1,F⟩ ?_ ?_
 rintro _ _ ⟨_,_,_,_,_,_,_,F⟩;exact CF F
 rintro lB lC eJ i9 lD ⟨X,_,rfl,b2,aI,aM,Rc,F⟩
 obtain⟨jA,dL,F⟩:=CG F;unfold BX at F
 rw [b2.eq];clear b2
 have bM:=aI
 refine Aw<|Av<|A9<|By Au Au<|Ax<|Aw<|AF F Au (fun eK F=>?_) (fun eK F=>?_)
 refine AG<|Aw<|AC<|Aw<|Av<|Bb (Iv X) Au<|Bn (Iv X) Au<|Ax<|Aw<|B7 (g0:=([],[])) (m:=16) (fl:=[]) (R8 (eat:=(fun t:Nat=>if t=0 then 5 else if t=5 then 11 else if t=11 then 14 else 1000)) aM) Au (.inl Au) Au (by decide+kernel) ?_  -- 27
 refine Gk (XG O [(some Z,Oc [Sl Ad A.1.variables Cd,Sl Ae A.1.places Ce] 34),(some b1,Oc (BS p Aa Ca Ab Cb Ac Cc) 26)] (fun t:Nat=>if t=0 then 5 else if t=5 then 11 else if t=11 then 14 else 1000) 0 (AL .i64) 3 ([]:List Int)) (XG.stab _ _ _ _) (fun jB lE g aA hi hk ht=>?_) ?_
 obtain⟨hi,G⟩:=hi
 refine Ay (Bm (cs:=[]) (parts:=[]) Bl B6 hi (by decide) (by simp only [List.map];rfl) ?_)
 intro g2 lF jC g3 eL
 exact GoesX.own (xs:=([]:List Int)) G g3 eL (Gs.of_cells (p:=(AL .i64)) (e:=3) (bl:=g2) (c:=0) (show E0 (AL .i64) _ _ [] [] from E0.nil) Au (BQ Au)) Au
 refine BN (Pt Z 0) (fun jD lG g aA hi ht=>?_) ?_
 obtain⟨hi,G⟩:=hi
 exact Ay<|AQ 0 DT Au Bl (ht 3 Au) Au<|GoesX.same hi G Au
 refine BN (Sl Ad A.1.variables Cd) (fun jE lH g aA hi ht=>?_) ?_
 obtain⟨hi,G⟩:=hi
 have aV:=(AA.nxX hi).1
 exact Ay<|AP 0 Bl aV (ht 114 Au) Au Au<|GoesX.same hi G Au
 refine BN (Iv X) (fun jF lI g aA hi ht=>?_) ?_
 obtain⟨hi,G⟩:=hi
 exact Ay<|AD (v:=Iv X) (ht 12 Au)<|GoesX.same hi G Au
 obtain⟨jG,F⟩:=AE F
 replace Fd:=Fd.step aI
 refine Bd (XD _ _ (vC (BG (AL .i64))) ((A.1.variables.drop 0).take (X.toNat - 0))) (XD.stab _ _) (fun jH lJ g aA hi ht=>?_) ?_
 obtain⟨-,aW,-⟩:=aA
 obtain⟨hi,G⟩:=hi
 replace Fd:=Fd.step aW
 refine Ay (IT (q:=(AL .i64)) (l:=0) (h:=X.toNat) (m:=Cd) Bl B6 (ht 115 Au) Fd Au Au (Pw (ht 116 Au) (by omega)) Au (by decide) (by omega) (by omega) (by have h_:A.1.variables.length≤Cd:=Fd.le;omega) (by have h_:A.1.variables.length≤Cd:=Fd.le;omega) ?_)
 intro lK g4
 exact GoesX.same hi G (show Vr.vd (vC (BG (AL .i64))) _ _ _ _ from(Jy (B8 g4)))
 obtain⟨cK,F⟩:=AE F
 refine Gk (XG O [(some Z,Oc [Sl Ad A.1.variables Cd,Sl Ae A.1.places Ce] 34),(some b1,Oc (BS p Aa Ca Ab Cb Ac Cc) 26)] (fun t:Nat=>if t=0 then 5 else if t=5 then 11 else if t=11 then 14 else 1000) 5 (AL .i64) 3 (([]:List Int)++((A.1.variables.drop 0).take (X.toNat - 0)))) (XG.stab _ _ _ _) (fun jI lL g aA hi hk ht=>?_) ?_
 obtain⟨hi,G⟩:=hi
 have g5:Vr.vd (vC (BG (AL .i64))) _ _ _ _:=ht 117 Au
 obtain⟨Af,Cf,g6,Ff⟩:=B9 g5
 obtain⟨eM,eN,eO⟩:=Ff.src
 refine Ay (Ig (q:=(AL .i64)) (xs:=([]:List Int)) (ys:=(A.1.variables.drop 0).take (X.toNat - 0)) (news:=eM) (tag:=0) Bl B6 Au (by decide) hi G hk Au (BQ Au) (ht 113 Au) g6 eO eN cK (by have:=cK;simp only [maxLen];omega))
 refine BN (Pt Z 0) (fun jJ lM g aA hi ht=>?_) ?_
 obtain⟨hi,G⟩:=hi
 exact Ay<|AQ 0 DT Au Bl (ht 3 Au) Au<|GoesX.same hi G Au
 refine BN (Sl Ad A.1.variables Cd) (fun jK lN g aA hi ht=>?_) ?_
 obtain⟨hi,G⟩:=hi
 have aV:=(AA.nxX hi).1
 exact Ay<|AP 0 Bl aV (ht 119 Au) Au Au<|GoesX.same hi G Au
 refine BN (Iv X) (fun jL lO g aA hi ht=>?_) ?_
 obtain⟨hi,G⟩:=hi
 exact Ay<|AD (v:=Iv X) (ht 12 Au)<|GoesX.same hi G Au
 refine BN (Iv (IntKind.wrap .i64 (X+1))) (fun jM lP g aA hi ht=>?_) ?_
 obtain⟨hi,G⟩:=hi
 exact Ay<|Bg (ht 121 Au) Au<|GoesX.same hi G Au
 obtain⟨jN,F⟩:=AE F
 refine Bd (XD _ _ (vC (BG (AL .i64))) ((A.1.variables.drop (IntKind.wrap .i64 (X+1)).toNat).take (A.1.variables.length - (IntKind.wrap .i64 (X+1)).toNat))) (XD.stab _ _) (fun jO lQ g aA hi ht=>?_) ?_
 obtain⟨-,aW,-⟩:=aA
 obtain⟨hi,G⟩:=hi
 replace Fd:=Fd.step aW
 refine Ay (IT (q:=(AL .i64)) (l:=(IntKind.wrap .i64 (X+1)).toNat) (h:=A.1.variables.length) (m:=Cd) Bl B6 (ht 120 Au) Fd Au (Pw (ht 122 Au) (by omega)) Au Au (by decide) (by omega) (by omega) (by have h_:A.1.variables.length≤Cd:=Fd.le;omega) (by have h_:A.1.variables.length≤Cd:=Fd.le;omega) ?_)
 intro lR g7
 exact GoesX.same hi G (show Vr.vd (vC (BG (AL .i64))) _ _ _ _ from(Jy (B8 g7)))
 obtain⟨cL,F⟩:=AE F
 refine Gk (XG O [(some Z,Oc [Sl Ad A.1.variables Cd,Sl Ae A.1.places Ce] 34),(some b1,Oc (BS p Aa Ca Ab Cb Ac Cc) 26)] (fun t:Nat=>if t=0 then 5 else if t=5 then 11 else if t=11 then 14 else 1000) 11 (AL .i64) 3 ((([]:List Int)++((A.1.variables.drop 0).take (X.toNat - 0)))++((A.1.variables.drop (IntKind.wrap .i64 (X+1)).toNat).take (A.1.variables.length - (IntKind.wrap .i64 (X+1)).toNat)))) (XG.stab _ _ _ _) (fun jP lS g aA hi hk ht=>?_) ?_
 obtain⟨hi,G⟩:=hi
 have g8:Vr.vd (vC (BG (AL .i64))) _ _ _ _:=ht 123 Au
 obtain⟨Ag,Cg,g9,Fg⟩:=B9 g8
 obtain⟨eP,eQ,eR⟩:=Fg.src
 refine Ay (Ig (q:=(AL .i64)) (xs:=([]:List Int)++((A.1.variables.drop 0).take (X.toNat - 0))) (ys:=(A.1.variables.drop (IntKind.wrap .i64 (X+1)).toNat).take (A.1.variables.length - (IntKind.wrap .i64 (X+1)).toNat)) (news:=eP) (tag:=5) Bl B6 Au (by decide) hi G hk Au (BQ Au) (ht 118 Au) g9 eR eQ cL (by have:=cL;simp only [maxLen];omega))
 refine BN (Pt Z 1) (fun jQ lT g aA hi ht=>?_) ?_
 obtain⟨hi,G⟩:=hi
 exact Ay<|AQ 1 DT Au Eo (ht 3 Au) Au<|GoesX.same hi G Au
 refine BN (Sl Ae A.1.places Ce) (fun jR lU g aA hi ht=>?_) ?_
 obtain⟨hi,G⟩:=hi
 have aV:=(AA.nxX hi).1
 exact Ay<|AP 0 Eo aV (ht 125 Au) Au Au<|GoesX.same hi G Au
 have dW:=(cJ.trans aI)
 replace Fe:=Fe.step dW
 refine Gk (XD _ _ (vA G8) (⟨(([]:List Int)++((A.1.variables.drop 0).take (X.toNat - 0)))++((A.1.variables.drop (IntKind.wrap .i64 (X+1)).toNat).take (A.1.variables.length - (IntKind.wrap .i64 (X+1)).toNat)),A.1.places⟩:Ba)) (XD.stab _ _) (fun jS lV g aA hi hk ht=>?_) ?_
 obtain⟨-,aW,-⟩:=aA
 obtain⟨hi,G⟩:=hi
 replace Fe:=Fe.step aW
 obtain⟨hA,hB,g,hC,hi,G,hlx,hdx,hD⟩:=Vl (eat:=(fun t:Nat=>if t=0 then 5 else if t=5 then 11 else if t=11 then 14 else 1000)) (tag:=11) hi G hk Au (BQ Au) (ht 124 Au)
 have eS:=hlx.2.1
 replace Fe:=Fe.step eS
 refine Ay (DM (vs:=[Sl hA ((([]:List Int)++((A.1.variables.drop 0).take (X.toNat - 0)))++((A.1.variables.drop (IntKind.wrap .i64 (X+1)).toNat).take (A.1.variables.length - (IntKind.wrap .i64 (X+1)).toNat))) hB,Sl Ae A.1.places Ce]) (parts:=[(0,.tmp 124),(1,.tmp 126)]) DT RC (by simp only [List.map,(show ev _ (.tmp 124)=_ from hC),(show ev _ (.tmp 126)=_ from(ht 126 Au))];rfl) ?_)
 exact GoesX.take hlx hdx (GoesX.same hi G (show Vr.vd (vA G8) _ _ _ _ from(JX (C2 (AW (B8 hD) (B8 Fe))))))
 refine Bd (XN (fun t:Nat=>if t=0 then 5 else if t=5 then 11 else if t=11 then 14 else 1000) 15 (Obj.cells [Value.slice none 0 0,Value.slice none 0 0].toArray 34)) (XN.stab _ _) (fun jT lW g aA hi ht=>?_) ?_
 obtain⟨hi,G⟩:=hi
 refine Ay<|Bv DT hi ?_
 intro lX lY jU hE eT;exact GoesX.new G hE eT
 refine BD fun lZ l1 eU bN=>?_
 obtain⟨-,dM,-⟩:=eU
 obtain⟨bN,eV⟩:=bN
 rintro _ hF;obtain⟨hG,rfl,dX⟩:=hF.resolve_left (fun h=>absurd (eV _ h) (by decide))
 rintro l2 cM
 replace cM:Vr.vd (vA G8) _ _ _ _:=cM
 obtain⟨_,rfl,⟨_,_,rfl,⟨Ah,Ch,rfl,Fh⟩,⟨Ai,Ci,rfl,Fi⟩⟩⟩:=cM
 rintro _ rfl _ rfl _ - l3 cN
 replace cN:Vr.vd (vC (BG (AL .i64))) _ _ _ _:=cN
 obtain⟨Aj,Cj,rfl,Fj⟩:=B9 cN
 rintro _ rfl _ rfl _ rfl _ rfl _ - l4 cO
 replace cO:Vr.vd (vC (BG (AL .i64))) _ _ _ _:=cO
 obtain⟨Ak,Ck,rfl,Fk⟩:=B9 cO
 rintro _ rfl _ rfl _ rfl _ -
 obtain⟨bO,bD⟩:=AA.nxX1 bN dX;clear dX
 have dY:=aM.to bO (dM.trans bD)
 replace Fh:=Fh.step bD;replace Fi:=Fi.step bD;replace Fj:=Fj.step bD;replace Fk:=Fk.step bD;clear aM
 refine Bh<|C6 .z DT bO Au Au Au Au Au ?_
 intro l5 b3 aX
 clear bO
 refine Ax<|Aw ?_
 clear Fj Fk
 refine Av<|A9<|B1 2 B4 aX Au Au Au<|A9<|B1 0 DT aX Au Au Au ?_
 obtain⟨U,eW,F⟩:=bd F
 have cP:=(dW.trans (dY.trans b3))
 replace Fb:=Fb.step cP;replace Fa:=Fa.step cP;replace Fc:=Fc.step cP;replace Fi:=Fi.step b3;replace Fh:=Fh.step b3
 refine A9<|Bi aX Try.call17 (Ga (p:=p) (r_:=(⟨(([]:List Int)++((A.1.variables.drop 0).take (X.toNat - 0)))++((A.1.variables.drop (IntKind.wrap .i64 (X+1)).toNat).take (A.1.variables.length - (IntKind.wrap .i64 (X+1)).toNat)),A.1.places⟩:Ba)) aX.ltw Fa Fb Fc Fh Fi eW) Au ?_
 rintro l6 l7 hH a6 hI
 clear aX
 obtain⟨l8,l9,rfl,hJ,hK⟩:=hI
 obtain rfl:=hJ
 obtain⟨rfl,Rd⟩:=hK
 refine Bb (Value.tuple [Bo U.1,Iv U.2].toArray) Au<|A9<|Bk (v:=Bo U.1) Au Au<|A9<|Bk (v:=Iv U.2) Au Au<|Bn (Bo U.1) Au<|Bn (Iv U.2) Au<|Ax<|Ic Yo [] (CO ⟨eI,[]⟩ [(1,Pt b1 0),(3,Pt Z 0),(109,Iv (A.1.variables.length:Int)),(110,Iv 0)]) [(14,Bo U.1),(15,Iv U.2),(110,Iv X)] fun jV=>?_
 obtain⟨hL,eX,F⟩:=Cy F
 refine CE [134,135,136,137,138] (fun fr w'=>∃(eY:Bool) (M:Be),M=[(some hG,Oc [Sl Ah ((⟨(([]:List Int)++((A.1.variables.drop 0).take (X.toNat - 0)))++((A.1.variables.drop (IntKind.wrap .i64 (X+1)).toNat).take (A.1.variables.length - (IntKind.wrap .i64 (X+1)).toNat)),A.1.places⟩:Ba).variables) Ch,Sl Ai ((⟨(([]:List Int)++((A.1.variables.drop 0).take (X.toNat - 0)))++((A.1.variables.drop (IntKind.wrap .i64 (X+1)).toNat).take (A.1.variables.length - (IntKind.wrap .i64 (X+1)).toNat)),A.1.places⟩:Ba).places) Ci] 34),(some Z,Oc [Sl Ad A.1.variables Cd,Sl Ae A.1.places Ce] 34),(some b1,Oc (BS p Aa Ca Ab Cb Ac Cc) 26)]∧fr [] [(138,Bo eY)]∧a6.S (ks M O) w'∧St ⟨w,[],[]⟩ O w' M∧hL eY=some x) ?_ ?_
 rintro jW mA ⟨eY,_,rfl,b4,dN,a7,F⟩
 replace F:=Dc eX F
 rw [b4.eq];clear b4
 refine AF F Au (fun eZ F=>?_) (fun eZ F=>?_)
 refine Aw<|Av<|Bn (Bo false) Au<|Ax<|AV<|⟨_,DX,[Bo false],⟨Au,trivial⟩,a7.ext,?_⟩
 exact Vr.eq (a:=vB) (x:=false) Au (oi F)
 refine AG<|Av<|A9<|Bg Au Au<|Bb (Iv (IntKind.wrap .i64 (X+1))) Au<|Ax ?_
 have e0:=a7.drop 0
 have hM:=(a7.dropS 0)
 clear a7
 have hN:=(dY.trans (b3.trans (hH.trans (dN.trans hM))))
 replace bM:=bM.trans hN
 exact eJ _ _ ⟨(IntKind.wrap .i64 (X+1)),_,Au,BB.of ⟨Au,trivial⟩,bM,e0,(AT .i64 _),Dc dL F⟩
 intro mB cQ
 have cR:=a6.stepR
 refine Av<|Bb (Bo U.1) Au<|Bb (Bo U.1) Au<|Bz F (fun e1 F=>?_) (fun e1 F=>?_)
 exact AI Au (AJ Au Au) Au<|AI Au (AJ Au Au) Au<|FM (Bo true) Au Au<|Ax<|cQ _ _ ⟨true,_,Au,BB.of ⟨Au,trivial⟩,cR,a6,F⟩
 exact BO Au Au<|AD (v:=Iv U.2) Au<|BO Au Au<|Eh Au Au<|F8 (Bo (decide (U.2≠0))) Au Au<|Ax<|cQ _ _ ⟨decide (U.2≠0),_,Au,BB.of ⟨Au,trivial⟩,cR,a6,F⟩
 refine Bq<|Aw<|Aw<|Av<|A9<|AQ 1 DT Au Eo Au Au<|A9<|AP 0 Eo aM Au Au Au<|A9<|AZ Try.underlying32 Au ?_
 have dZ:=(cJ.trans aI)
 replace Fe:=Fe.step dZ
 have jX:=AX Fe
 refine Bb (Iv 0) Au<|Ax<|AC<|Wr [] [(1,Pt b1 0),(3,Pt Z 0),(142,Iv (A.1.places.length:Int)),(143,Iv 0)] fun e2=>Bf Yn (fun m fr w'=>∃(Y:Int) (M:Be),M=[(some Z,Oc [Sl Ad A.1.variables Cd,Sl Ae A.1.places Ce] 34),(some b1,Oc (BS p Aa Ca Ab Cb Ac Cc) 26)]∧fr [] [(143,Iv Y)]∧aM.S (ks M O) w'∧St ⟨w,[],[]⟩ O w' M∧Cx .i64 Y∧B0 (BW p A) m Y=some x) (((A.1.places.length:Int) - 0).toNat+1) ⟨0,_,Au,BB.of ⟨Au,trivial⟩,AA.refl _ _,aM,E1,F⟩ ?_ ?_
 rintro _ _ ⟨_,_,_,_,_,_,_,F⟩;exact CF F
 rintro mC mD e3 jY mE ⟨Y,_,rfl,b5,aR,aY,Re,F⟩
 obtain⟨jZ,dO,F⟩:=CG F;unfold BW at F
 rw [b5.eq];clear b5
 have bP:=aR
 refine Aw<|Av<|A9<|By Au Au<|Ax<|Aw<|AF F Au (fun e4 F=>?_) (fun e4 F=>?_)
 refine AG<|Aw<|AC<|Aw<|Av<|Bb (Iv Y) Au<|Bn (Iv Y) Au<|Ax<|Aw<|B7 (g0:=([],[])) (m:=16) (fl:=[]) (R8 (eat:=(fun t:Nat=>if t=2 then 7 else if t=7 then 13 else if t=13 then 14 else 1000)) aY) Au (.inl Au) Au (by decide+kernel) ?_  -- 35
 refine BN (Pt Z 0) (fun j0 mF g aA hi ht=>?_) ?_
 obtain⟨hi,G⟩:=hi
 exact Ay<|AQ 0 DT Au Bl (ht 3 Au) Au<|GoesX.same hi G Au
 refine BN (Sl Ad A.1.variables Cd) (fun j1 mG g aA hi ht=>?_) ?_
 obtain⟨hi,G⟩:=hi
 have aV:=(AA.nxX hi).1
 exact Ay<|AP 0 Bl aV (ht 146 Au) Au Au<|GoesX.same hi G Au
 refine Gk (XG O [(some Z,Oc [Sl Ad A.1.variables Cd,Sl Ae A.1.places Ce] 34),(some b1,Oc (BS p Aa Ca Ab Cb Ac Cc) 26)] (fun t:Nat=>if t=2 then 7 else if t=7 then 13 else if t=13 then 14 else 1000) 2 AO 45 ([]:List Az)) (XG.stab _ _ _ _) (fun j2 mH g aA hi hk ht=>?_) ?_
 obtain⟨hi,G⟩:=hi
 refine Ay (Bm (cs:=[]) (parts:=[]) Eo C5 hi (by decide) (by simp only [List.map];rfl) ?_)
 intro hP mI j3 hQ e5
 exact GoesX.own (xs:=([]:List Az)) G hQ e5 (Gs.of_cells (p:=AO) (e:=45) (bl:=hP) (c:=0) (show E0 AO _ _ [] [] from E0.nil) Au (BQ Au)) Au
 refine BN (Pt Z 1) (fun j4 mJ g aA hi ht=>?_) ?_
 obtain⟨hi,G⟩:=hi
 exact Ay<|AQ 1 DT Au Eo (ht 3 Au) Au<|GoesX.same hi G Au
 refine BN (Sl Ae A.1.places Ce) (fun j5 mK g aA hi ht=>?_) ?_
 obtain⟨hi,G⟩:=hi
 have aV:=(AA.nxX hi).1
 exact Ay<|AP 0 Eo aV (ht 149 Au) Au Au<|GoesX.same hi G Au
 refine BN (Iv Y) (fun j6 mL g aA hi ht=>?_) ?_
 obtain⟨hi,G⟩:=hi
 exact Ay<|AD (v:=Iv Y) (ht 16 Au)<|GoesX.same hi G Au
 obtain⟨j7,F⟩:=AE F
 replace Fe:=Fe.step aR
 refine Bd (XD _ _ (vC (BG AO)) ((A.1.places.drop 0).take (Y.toNat - 0))) (XD.stab _ _) (fun j8 mM g aA hi ht=>?_) ?_
 obtain⟨-,aW,-⟩:=aA
 obtain⟨hi,G⟩:=hi
 replace Fe:=Fe.step aW
 refine Ay (IT (q:=AO) (l:=0) (h:=Y.toNat) (m:=Ce) Eo C5 (ht 150 Au) Fe Au Au (Pw (ht 151 Au) (by omega)) Au (by decide) (by omega) (by omega) (by have h_:A.1.places.length≤Ce:=Fe.le;omega) (by have h_:A.1.places.length≤Ce:=Fe.le;omega) ?_)
 intro mN hR
 exact GoesX.same hi G (show Vr.vd (vC (BG AO)) _ _ _ _ from(Jy (B8 hR)))
 obtain⟨cS,F⟩:=AE F
 refine Gk (XG O [(some Z,Oc [Sl Ad A.1.variables Cd,Sl Ae A.1.places Ce] 34),(some b1,Oc (BS p Aa Ca Ab Cb Ac Cc) 26)] (fun t:Nat=>if t=2 then 7 else if t=7 then 13 else if t=13 then 14 else 1000) 7 AO 45 (([]:List Az)++((A.1.places.drop 0).take (Y.toNat - 0)))) (XG.stab _ _ _ _) (fun j9 mO g aA hi hk ht=>?_) ?_
 obtain⟨hi,G⟩:=hi
 have hS:Vr.vd (vC (BG AO)) _ _ _ _:=ht 152 Au
 obtain⟨Al,Cl,hT,Fl⟩:=B9 hS
 obtain⟨e6,e7,e8⟩:=Fl.src
 refine Ay (Ig (q:=AO) (xs:=([]:List Az)) (ys:=(A.1.places.drop 0).take (Y.toNat - 0)) (news:=e6) (tag:=2) Eo C5 Au (by decide) hi G hk Au (BQ Au) (ht 148 Au) hT e8 e7 cS (by have:=cS;simp only [maxLen];omega))
 refine BN (Pt Z 1) (fun kA mP g aA hi ht=>?_) ?_
 obtain⟨hi,G⟩:=hi
 exact Ay<|AQ 1 DT Au Eo (ht 3 Au) Au<|GoesX.same hi G Au
 refine BN (Sl Ae A.1.places Ce) (fun kB mQ g aA hi ht=>?_) ?_
 obtain⟨hi,G⟩:=hi
 have aV:=(AA.nxX hi).1
 exact Ay<|AP 0 Eo aV (ht 154 Au) Au Au<|GoesX.same hi G Au
 refine BN (Iv Y) (fun kC mR g aA hi ht=>?_) ?_
 obtain⟨hi,G⟩:=hi
 exact Ay<|AD (v:=Iv Y) (ht 16 Au)<|GoesX.same hi G Au
 refine BN (Iv (IntKind.wrap .i64 (Y+1))) (fun kD mS g aA hi ht=>?_) ?_
 obtain⟨hi,G⟩:=hi
 exact Ay<|Bg (ht 156 Au) Au<|GoesX.same hi G Au
 obtain⟨kE,F⟩:=AE F
 refine Bd (XD _ _ (vC (BG AO)) ((A.1.places.drop (IntKind.wrap .i64 (Y+1)).toNat).take (A.1.places.length - (IntKind.wrap .i64 (Y+1)).toNat))) (XD.stab _ _) (fun kF mT g aA hi ht=>?_) ?_
 obtain⟨-,aW,-⟩:=aA
 obtain⟨hi,G⟩:=hi
 replace Fe:=Fe.step aW
 refine Ay (IT (q:=AO) (l:=(IntKind.wrap .i64 (Y+1)).toNat) (h:=A.1.places.length) (m:=Ce) Eo C5 (ht 155 Au) Fe Au (Pw (ht 157 Au) (by omega)) Au Au (by decide) (by omega) (by omega) (by have h_:A.1.places.length≤Ce:=Fe.le;omega) (by have h_:A.1.places.length≤Ce:=Fe.le;omega) ?_)
 intro mU hU
 exact GoesX.same hi G (show Vr.vd (vC (BG AO)) _ _ _ _ from(Jy (B8 hU)))
 obtain⟨cT,F⟩:=AE F
 refine Gk (XG O [(some Z,Oc [Sl Ad A.1.variables Cd,Sl Ae A.1.places Ce] 34),(some b1,Oc (BS p Aa Ca Ab Cb Ac Cc) 26)] (fun t:Nat=>if t=2 then 7 else if t=7 then 13 else if t=13 then 14 else 1000) 13 AO 45 ((([]:List Az)++((A.1.places.drop 0).take (Y.toNat - 0)))++((A.1.places.drop (IntKind.wrap .i64 (Y+1)).toNat).take (A.1.places.length - (IntKind.wrap .i64 (Y+1)).toNat)))) (XG.stab _ _ _ _) (fun kG mV g aA hi hk ht=>?_) ?_
 obtain⟨hi,G⟩:=hi
 have hV:Vr.vd (vC (BG AO)) _ _ _ _:=ht 158 Au
 obtain⟨Am,Cm,hW,Fm⟩:=B9 hV
 obtain⟨e9,fA,fB⟩:=Fm.src
 refine Ay (Ig (q:=AO) (xs:=([]:List Az)++((A.1.places.drop 0).take (Y.toNat - 0))) (ys:=(A.1.places.drop (IntKind.wrap .i64 (Y+1)).toNat).take (A.1.places.length - (IntKind.wrap .i64 (Y+1)).toNat)) (news:=e9) (tag:=7) Eo C5 Au (by decide) hi G hk Au (BQ Au) (ht 153 Au) hW fB fA cT (by have:=cT;simp only [maxLen];omega))
 replace Fd:=Fd.step (aI.trans aR)
 refine Gk (XD _ _ (vA G8) (⟨A.1.variables,(([]:List Az)++((A.1.places.drop 0).take (Y.toNat - 0)))++((A.1.places.drop (IntKind.wrap .i64 (Y+1)).toNat).take (A.1.places.length - (IntKind.wrap .i64 (Y+1)).toNat))⟩:Ba)) (XD.stab _ _) (fun kH mW g aA hi hk ht=>?_) ?_
 obtain⟨-,aW,-⟩:=aA
 obtain⟨hi,G⟩:=hi
 replace Fd:=Fd.step aW
 obtain⟨hX,hY,g,hZ,hi,G,hlx,hdx,h0⟩:=Vl (eat:=(fun t:Nat=>if t=2 then 7 else if t=7 then 13 else if t=13 then 14 else 1000)) (tag:=13) hi G hk Au (BQ Au) (ht 159 Au)
 have fC:=hlx.2.1
 replace Fd:=Fd.step fC
 refine Ay (DM (vs:=[Sl Ad A.1.variables Cd,Sl hX ((([]:List Az)++((A.1.places.drop 0).take (Y.toNat - 0)))++((A.1.places.drop (IntKind.wrap .i64 (Y+1)).toNat).take (A.1.places.length - (IntKind.wrap .i64 (Y+1)).toNat))) hY]) (parts:=[(0,.tmp 147),(1,.tmp 159)]) DT RC (by simp only [List.map,(show ev _ (.tmp 147)=_ from(ht 147 Au)),(show ev _ (.tmp 159)=_ from hZ)];rfl) ?_)
 exact GoesX.take hlx hdx (GoesX.same hi G (show Vr.vd (vA G8) _ _ _ _ from(JX (C2 (AW (B8 Fd) (B8 h0))))))
 refine Bd (XN (fun t:Nat=>if t=2 then 7 else if t=7 then 13 else if t=13 then 14 else 1000) 15 (Obj.cells [Value.slice none 0 0,Value.slice none 0 0].toArray 34)) (XN.stab _ _) (fun kJ mX g aA hi ht=>?_) ?_
 obtain⟨hi,G⟩:=hi
 refine Ay<|Bv DT hi ?_
 intro mY mZ kK h1 fD;exact GoesX.new G h1 fD
 refine BD fun m0 m1 fE bQ=>?_
 obtain⟨-,dP,-⟩:=fE
 obtain⟨bQ,fF⟩:=bQ
 rintro _ h2;obtain⟨h3,rfl,d0⟩:=h2.resolve_left (fun h=>absurd (fF _ h) (by decide))
 rintro m2 cU
 replace cU:Vr.vd (vA G8) _ _ _ _:=cU
 obtain⟨_,rfl,⟨_,_,rfl,⟨An,Cn,rfl,Fn⟩,⟨Ao,Co,rfl,Fo⟩⟩⟩:=cU
 rintro _ - m3 cV
 replace cV:Vr.vd (vC (BG AO)) _ _ _ _:=cV
 obtain⟨Ap,Cp,rfl,Fp⟩:=B9 cV
 rintro _ rfl _ rfl _ rfl _ rfl _ - m4 cW
 replace cW:Vr.vd (vC (BG AO)) _ _ _ _:=cW
 obtain⟨Aq,Cq,rfl,Fq⟩:=B9 cW
 rintro _ rfl _ rfl _ rfl _ - _ rfl _ rfl
 obtain⟨bR,bE⟩:=AA.nxX1 bQ d0;clear d0
 have d1:=aY.to bR (dP.trans bE)
 replace Fn:=Fn.step bE;replace Fo:=Fo.step bE;replace Fp:=Fp.step bE;replace Fq:=Fq.step bE;clear aY
 refine Bh<|C6 .z DT bR Au Au Au Au Au ?_
 intro m5 b6 aZ
 clear bR
 refine Ax<|Aw ?_
 clear Fp Fq
 refine Av<|A9<|B1 2 B4 aZ Au Au Au<|A9<|B1 0 DT aZ Au Au Au ?_
 obtain⟨W,fG,F⟩:=bd F
 have cX:=(dZ.trans (aR.trans (d1.trans b6)))
 replace Fb:=Fb.step cX;replace Fa:=Fa.step cX;replace Fc:=Fc.step cX;replace Fo:=Fo.step b6;replace Fn:=Fn.step b6
 refine A9<|Bi aZ Try.call17 (Ga (p:=p) (r_:=(⟨A.1.variables,(([]:List Az)++((A.1.places.drop 0).take (Y.toNat - 0)))++((A.1.places.drop (IntKind.wrap .i64 (Y+1)).toNat).take (A.1.places.length - (IntKind.wrap .i64 (Y+1)).toNat))⟩:Ba)) aZ.ltw Fa Fb Fc Fn Fo fG) Au ?_
 rintro m6 m7 h4 a8 h5
 clear aZ
 obtain⟨m8,m9,rfl,h6,h7⟩:=h5
 obtain rfl:=h6
 obtain⟨rfl,Rf⟩:=h7
 refine Bb (Value.tuple [Bo W.1,Iv W.2].toArray) Au<|A9<|Bk (v:=Bo W.1) Au Au<|A9<|Bk (v:=Iv W.2) Au Au<|Bn (Bo W.1) Au<|Bn (Iv W.2) Au<|Ax<|Ic Yn [] (CO ⟨e2,[]⟩ [(1,Pt b1 0),(3,Pt Z 0),(142,Iv (A.1.places.length:Int)),(143,Iv 0)]) [(18,Bo W.1),(19,Iv W.2),(143,Iv Y)] fun kL=>?_
 obtain⟨h8,fH,F⟩:=Cy F
 refine CE [167,168,169,170,171] (fun fr w'=>∃(fI:Bool) (M:Be),M=[(some h3,Oc [Sl An ((⟨A.1.variables,(([]:List Az)++((A.1.places.drop 0).take (Y.toNat - 0)))++((A.1.places.drop (IntKind.wrap .i64 (Y+1)).toNat).take (A.1.places.length - (IntKind.wrap .i64 (Y+1)).toNat))⟩:Ba).variables) Cn,Sl Ao ((⟨A.1.variables,(([]:List Az)++((A.1.places.drop 0).take (Y.toNat - 0)))++((A.1.places.drop (IntKind.wrap .i64 (Y+1)).toNat).take (A.1.places.length - (IntKind.wrap .i64 (Y+1)).toNat))⟩:Ba).places) Co] 34),(some Z,Oc [Sl Ad A.1.variables Cd,Sl Ae A.1.places Ce] 34),(some b1,Oc (BS p Aa Ca Ab Cb Ac Cc) 26)]∧fr [] [(171,Bo fI)]∧a8.S (ks M O) w'∧St ⟨w,[],[]⟩ O w' M∧h8 fI=some x) ?_ ?_
 rintro kM nA ⟨fI,_,rfl,b7,dQ,a9,F⟩
 replace F:=Dc fH F
 rw [b7.eq];clear b7
 refine AF F Au (fun fJ F=>?_) (fun fJ F=>?_)
 refine Aw<|Av<|Bn (Bo false) Au<|Ax<|AV<|⟨_,DX,[Bo false],⟨Au,trivial⟩,a9.ext,?_⟩
 exact Vr.eq (a:=vB) (x:=false) Au (oi F)
 refine AG<|Av<|A9<|Bg Au Au<|Bb (Iv (IntKind.wrap .i64 (Y+1))) Au<|Ax ?_
 have fK:=a9.drop 0
 have h9:=(a9.dropS 0)
 clear a9
 have iA:=(d1.trans (b6.trans (h4.trans (dQ.trans h9))))
 replace bP:=bP.trans iA
 exact e3 _ _ ⟨(IntKind.wrap .i64 (Y+1)),_,Au,BB.of ⟨Au,trivial⟩,bP,fK,(AT .i64 _),Dc dO F⟩
 intro nB cY
 have cZ:=a8.stepR
 refine Av<|Bb (Bo W.1) Au<|Bb (Bo W.1) Au<|Bz F (fun fL F=>?_) (fun fL F=>?_)
 exact AI Au (AJ Au Au) Au<|AI Au (AJ Au Au) Au<|FM (Bo true) Au Au<|Ax<|cY _ _ ⟨true,_,Au,BB.of ⟨Au,trivial⟩,cZ,a8,F⟩
 exact BO Au Au<|AD (v:=Iv W.2) Au<|BO Au Au<|Eh Au Au<|F8 (Bo (decide (W.2≠0))) Au Au<|Ax<|cY _ _ ⟨decide (W.2≠0),_,Au,BB.of ⟨Au,trivial⟩,cZ,a8,F⟩
 refine Bq<|Aw ?_
 obtain⟨fM,nC⟩:=aY.sub (bs':=[]) (.cons _ (.cons _ List.Sublist.slnil))
 clear Fa Fb Fc Fd Fe
 clear aY
 refine Av<|Bn (Bo true) Au<|Ax<|AV<|⟨_,DX,[Bo true],⟨Au,trivial⟩,fM.ext,?_⟩
 exact Vr.eq (a:=vB) (x:=true) Au (oi F)
 intro nD c0
 have c1:=bZ.stepR
 refine Av<|Bb (Bo N.1) Au<|A9<|Do Au<|Bb (Bo (!N.1)) Au<|Bz F (fun fN F=>?_) (fun fN F=>?_)
 exact AI Au (AJ Au Au) Au<|AI Au (AJ Au Au) Au<|FM (Bo true) Au Au<|Ax<|c0 _ _ ⟨true,_,Au,BB.of ⟨Au,trivial⟩,c1,bZ,F⟩
 exact BO Au Au<|AD (v:=Iv N.2) Au<|BO Au Au<|Eh Au Au<|F8 (Bo (decide (N.2≠0))) Au Au<|Ax<|c0 _ _ ⟨decide (N.2≠0),_,Au,BB.of ⟨Au,trivial⟩,c1,bZ,F⟩
 intro oE iB
 have bS:=bX.stepR
 refine AC<|Ic PG [] (CO ⟨bY,[]⟩ [(1,Pt b1 0),(3,Pt Z 0),(4,Bo A.2.1),(6,Bo true),(7,Sl (some ⟨aB,0,none⟩) (List.replicate p.variables.length (0:Int)) p.variables.length)]) [(6,Bo true),(7,Sl (some ⟨aB,0,none⟩) (List.replicate p.variables.length (0:Int)) p.variables.length)] fun bT=>Bf PG (fun m fr w'=>∃(aF:Bool) (I:List Int) (aD:Obj) (M:Be),M=[(some aB,aD),(some Z,Oc [Sl Ad A.1.variables Cd,Sl Ae A.1.places Ce] 34),(some b1,Oc (BS p Aa Ca Ab Cb Ac Cc) 26)]∧fr [] [(6,Bo aF),(7,Sl (some ⟨aB,0,none⟩) I p.variables.length)]∧bX.S (ks M O) w'∧St ⟨w,[],[]⟩ O w' M∧Gs (AL .i64) 3 w' (ks M O) (some ⟨aB,0,none⟩) p.variables.length I (some aB) aD∧BC (C9 p A gQ) m aF I=some x) 1000000 ⟨true,List.replicate p.variables.length (0:Int),Obj.cells (List.replicate p.variables.length (Iv 0)).toArray 3,_,Au,BB.of ⟨Au,Au,trivial⟩,AA.refl _ _,bX,eD,F⟩ ?_ ?_
 rintro _ _ ⟨_,_,_,_,_,_,_,_,_,F⟩;exact DI F
 rintro nE nF fO kN nG ⟨aF,I,aD,_,rfl,b8,aJ,aN,Fr,F⟩
 obtain⟨kO,dR,F⟩:=DJ F;unfold C9 at F
 rw [b8.eq];clear b8
 have bU:=aJ
 refine AC<|Aw ?_
 clear eD
 refine Av<|A9<|B1 2 B4 aN Au Au Au<|Bb (Sl (some ⟨aB,0,none⟩) I p.variables.length) Au ?_
 obtain⟨fP,c2,iC⟩:=Gs.publish (i:=0) aN Au Fr
 obtain⟨J,fQ,F⟩:=bd F
 have d2:=(eC.trans (cF.trans aJ))
 replace Fb:=Fb.step d2;replace Fa:=Fa.step d2
 replace Fc:=Fc.step (cF.trans aJ)
 refine A9<|Gi Try.call14 (Mb (p:=p) (choices:=I) fP.ltw (Fa.step c2) (Fb.step c2) (Fc.step c2) iC fQ) Au ?_
 rintro iD iE ⟨bV,c3⟩
 replace c3:Vr.vd (Ns (vC (BG (AL .i64))) (vI .i64)) iE (ks [(some aB,aD),(some Z,Oc [Sl Ad A.1.variables Cd,Sl Ae A.1.places Ce] 34),(some b1,Oc (BS p Aa Ca Ab Cb Ac Cc) 26)] O) iD J:=Vr.step _ (AA.sub fun k hk=>List.mem_append_left _ (List.mem_range.2 (aN.ltw k hk))) c3
 have bA:=aN.call bV
 have b9:=aN.stepE bV
 clear bV
 clear aN
 obtain⟨nH,nI,rfl,iF,iG⟩:=c3
 obtain⟨Ar,Cr,rfl,Fs⟩:=B9 iF
 obtain⟨rfl,Rg⟩:=iG
 refine Bb (Value.tuple [Sl Ar J.1 Cr,Iv J.2].toArray) Au<|A9<|Bk (v:=Sl Ar J.1 Cr) Au Au<|A9<|Bk (v:=Iv J.2) Au Au<|Bn (Sl Ar J.1 Cr) Au<|Bn (Iv J.2) Au<|Ax<|Aw<|Ic PG [] (CO (JE PG [] bT (CO ⟨bY,[]⟩ [(1,Pt b1 0),(3,Pt Z 0),(4,Bo A.2.1),(6,Bo true),(7,Sl (some ⟨aB,0,none⟩) (List.replicate p.variables.length (0:Int)) p.variables.length)])) [(6,Bo true),(7,Sl (some ⟨aB,0,none⟩) (List.replicate p.variables.length (0:Int)) p.variables.length)]) [(6,Bo aF),(7,Sl (some ⟨aB,0,none⟩) I p.variables.length),(8,Sl Ar J.1 Cr),(9,Iv J.2)] fun kP=>?_
 obtain⟨iH,fR,F⟩:=Cy F
 refine CE [64,65,66,67,68,69,70] (fun fr w'=>∃(fS:Bool) (M:Be),M=[(some aB,aD),(some Z,Oc [Sl Ad A.1.variables Cd,Sl Ae A.1.places Ce] 34),(some b1,Oc (BS p Aa Ca Ab Cb Ac Cc) 26)]∧fr [] [(70,Bo fS)]∧bA.S (ks M O) w'∧St ⟨w,[],[]⟩ O w' M∧iH fS=some x) ?_ ?_
 rintro kQ nJ ⟨fS,_,rfl,cA,aK,a0,F⟩
 replace F:=Dc fR F
 rw [cA.eq];clear cA
 refine AF F Au (fun fT F=>?_) (fun fT F=>?_)
 refine Aw ?_
 clear Fr Fs
 refine Av<|Bn (Bo false) Au<|Ax<|AV<|⟨_,DX,[Bo false],⟨Au,trivial⟩,a0.ext,?_⟩
 exact Vr.eq (a:=vB) (x:=false) Au (oi F)
 refine AG<|Ic PG [] (CO (JE PG [] bT (CO ⟨bY,[]⟩ [(1,Pt b1 0),(3,Pt Z 0),(4,Bo A.2.1),(6,Bo true),(7,Sl (some ⟨aB,0,none⟩) (List.replicate p.variables.length (0:Int)) p.variables.length)])) [(6,Bo true),(7,Sl (some ⟨aB,0,none⟩) (List.replicate p.variables.length (0:Int)) p.variables.length)]) [(6,Bo aF),(7,Sl (some ⟨aB,0,none⟩) I p.variables.length),(8,Sl Ar J.1 Cr)] fun kR=>?_
 obtain⟨iI,fU,F⟩:=Cy F
 refine CE q3_2 (fun fr w'=>∃(aO:Bool) (M:Be),M=[(some aB,aD),(some Z,Oc [Sl Ad A.1.variables Cd,Sl Ae A.1.places Ce] 34),(some b1,Oc (BS p Aa Ca Ab Cb Ac Cc) 26)]∧fr [] [(6,Bo aO)]∧a0.S (ks M O) w'∧St ⟨w,[],[]⟩ O w' M∧iI aO=some x) ?_ ?_
 rintro kS nK ⟨aO,_,rfl,cB,aS,aG,F⟩
 replace F:=Dc fU F
 rw [cB.eq];clear cB
 refine Aw<|Ic PG [] (CO (JE PG [] bT (CO ⟨bY,[]⟩ [(1,Pt b1 0),(3,Pt Z 0),(4,Bo A.2.1),(6,Bo true),(7,Sl (some ⟨aB,0,none⟩) (List.replicate p.variables.length (0:Int)) p.variables.length)])) [(6,Bo true),(7,Sl (some ⟨aB,0,none⟩) (List.replicate p.variables.length (0:Int)) p.variables.length)]) [(6,Bo aO),(7,Sl (some ⟨aB,0,none⟩) I p.variables.length)] fun kT=>?_
 obtain⟨iJ,fV,F⟩:=Cy F
 refine CE q3_3 (fun fr w'=>∃(fW:Bool) (M:Be),M=[(some aB,aD),(some Z,Oc [Sl Ad A.1.variables Cd,Sl Ae A.1.places Ce] 34),(some b1,Oc (BS p Aa Ca Ab Cb Ac Cc) 26)]∧fr [] [(85,Bo fW)]∧aG.S (ks M O) w'∧St ⟨w,[],[]⟩ O w' M∧iJ fW=some x) ?_ ?_
 rintro kU iK ⟨fW,_,rfl,cC,cD,a1,F⟩
 replace F:=Dc fV F
 rw [cC.eq];clear cC
 refine AF F Au (fun fX F=>?_) (fun fX F=>?_)
 refine Aw ?_
 clear Fr Fs
 refine Av<|Bn (Bo false) Au<|Ax<|AV<|⟨_,DX,[Bo false],⟨Au,trivial⟩,a1.ext,?_⟩
 exact Vr.eq (a:=vB) (x:=false) Au (oi F)
 refine AG<|Aw ?_
 clear Fs
 refine Av<|A9<|B1 2 B4 a1 Au Au Au<|Bb (Sl (some ⟨aB,0,none⟩) I p.variables.length) Au ?_
 obtain⟨aL,fY,F⟩:=bd F
 have bF:=(b9.trans (aK.trans (aS.trans cD)))
 replace Fr:=Fr.step bF
 have c4:Gs (AL .i64) 3 iK (ks [(some aB,aD)] (ks [(some Z,Oc [Sl Ad A.1.variables Cd,Sl Ae A.1.places Ce] 34),(some b1,Oc (BS p Aa Ca Ab Cb Ac Cc) 26)] O)) (some ⟨aB,0,none⟩) p.variables.length ([]++I++[]) (some aB) aD:=by rw [List.nil_append,List.append_nil,← IW];exact Fr
 replace Fb:=Fb.step bF;replace Fa:=Fa.step bF;replace Fc:=Fc.step bF
 refine A9<|NI (rest:=[(some Z,Oc [Sl Ad A.1.variables Cd,Sl Ae A.1.places Ce] 34),(some b1,Oc (BS p Aa Ca Ab Cb Ac Cc) 26)]) Try.call16 [(some aB,aD)] a1 (J9 (p:=p) (choices:=I) (pre_choices:=[]) (post_choices:=[]) (x0:=aL.1) (y_choices:=aL.2) (St.lendL (L:=[(some aB,aD)]) (rest:=[(some Z,Oc [Sl Ad A.1.variables Cd,Sl Ae A.1.places Ce] 34),(some b1,Oc (BS p Aa Ca Ab Cb Ac Cc) 26)]) a1) Fa Fb Fc c4 fY) Au ?_
 intro iL c5 L513 d3 aP fZ c6;obtain⟨bG,rfl,c7⟩:=fZ;clear c4
 replace c7:Gs (AL .i64) 3 c5 (ks [(some aB,bG),(some Z,Oc [Sl Ad A.1.variables Cd,Sl Ae A.1.places Ce] 34),(some b1,Oc (BS p Aa Ca Ab Cb Ac Cc) 26)] O) (some ⟨aB,0,none⟩) p.variables.length aL.2 (some aB) bG:=by have h_:=c7;rw [List.nil_append,List.append_nil,← IW] at h_;exact h_
 replace aP:St ⟨w,[],[]⟩ O c5 [(some aB,bG),(some Z,Oc [Sl Ad A.1.variables Cd,Sl Ae A.1.places Ce] 34),(some b1,Oc (BS p Aa Ca Ab Cb Ac Cc) 26)]:=aP
 replace c6:Vr.vd vB c5 (ks [(some aB,bG),(some Z,Oc [Sl Ad A.1.variables Cd,Sl Ae A.1.places Ce] 34),(some b1,Oc (BS p Aa Ca Ab Cb Ac Cc) 26)] O) iL aL.1:=c6
 clear a1
 obtain⟨f0,F⟩:=AE F
 obtain⟨kV,F⟩:=AE F
 obtain rfl:=c6
 refine A9<|Do Au<|Ax<|AF F Au (fun f1 F=>?_) (fun f1 F=>?_)
 refine Bq ?_
 have f2:=aP.drop 0
 have iM:=(aP.dropS 0)
 clear aP
 replace bS:=bS.trans (aJ.trans (b9.trans (aK.trans (aS.trans (cD.trans (d3.trans iM))))))
 exact iB _ _ ⟨aO,_,Au,BB.of ⟨Au,trivial⟩,bS,f2,F⟩
 refine AG ?_
 replace bU:=bU.trans (bF.trans d3)
 exact fO _ _ ⟨aO,aL.2,bG,_,Au,BB.of ⟨Au,M4 f0,trivial⟩,bU,aP,c7,GV dR F⟩
 intro nL c8
 have bB:=aG.stepR
 clear Fs
 refine Av<|Bb (Bo A.2.1) Au<|Bb (Bo A.2.1) Au<|Bz F (fun f3 F=>?_) (fun f3 F=>?_)
 refine BO Au Au<|B1 2 B4 aG Au Au Au<|BO Au Au<|B1 1 DT aG Au Au Au<|BO Au Au<|AD (v:=Sl (some ⟨aB,0,none⟩) I p.variables.length) Au ?_
 have cE:=(b9.trans (aK.trans aS))
 replace Fr:=Fr.step cE
 obtain⟨f4,bH,iN⟩:=Gs.publish (i:=0) aG Au Fr
 obtain⟨c9,f5,F⟩:=bd F
 replace Fb:=Fb.step cE;replace Fa:=Fa.step cE;replace Fc:=Fc.step cE
 have d4:=(dI.trans (dJ.trans (bK.trans (cF.trans (aJ.trans (b9.trans (aK.trans aS)))))))
 replace Fe:=Fe.step d4;replace Fd:=Fd.step d4
 refine BO Au Au<|Bi aG Try.call15 (JO (p:=p) (r_:=A.1) (choices:=I) f4.ltw (Fa.step bH) (Fb.step bH) (Fc.step bH) (Fd.step bH) (Fe.step bH) iN f5) Au ?_
 rintro nM nN iO f6 iP
 obtain rfl:=iP
 refine BO Au Au<|Do Au<|FM (Bo (!c9)) Au Au<|Ax ?_
 replace bB:=bB.trans iO
 exact c8 _ _ ⟨!c9,_,Au,BB.of ⟨Au,trivial⟩,bB,f6,F⟩
 iterate 5 refine AI Au (AJ Au Au) Au ?_
 exact F8 (Bo false) Au Au<|Ax<|c8 _ _ ⟨false,_,Au,BB.of ⟨Au,trivial⟩,bB,aG,F⟩
 intro nO dA
 have dB:=a0.stepR
 refine Av<|Bb (Bo aF) Au<|Bb (Bo aF) Au<|Bz F (fun f7 F=>?_) (fun f7 F=>?_)
 refine BO Au Au<|AD (v:=Sl Ar J.1 Cr) Au ?_
 obtain⟨dC,F⟩:=AE F
 replace Fs:=Fs.step aK
 refine BO Au Au<|AB (q:=(AL .i64)) Bl B6 Au Au Fs Au dC.1 dC.2 ?_
 intro nP iQ
 refine BO Au Au<|AR B6 Au iQ Au ?_
 intro nQ iR
 obtain⟨rfl,Rh⟩:=BK iR
 exact BO Au Au<|EB Au Au<|FM (Bo (decide (0<(J.1.getD 0 default)))) Au Au<|Bn (Bo (decide (0<(J.1.getD 0 default)))) Au<|Ax<|dA _ _ ⟨decide (0<(J.1.getD 0 default)),_,Au,BB.of ⟨Au,trivial⟩,dB,a0,F⟩
 iterate 4 refine AI Au (AJ Au Au) Au ?_
 exact F8 (Bo false) Au Au<|Bn (Bo false) Au<|Ax<|dA _ _ ⟨false,_,Au,BB.of ⟨Au,trivial⟩,dB,a0,F⟩
 intro nR dD
 have dE:=bA.stepR
 refine Av<|Bb (Iv J.2) Au<|A9<|Eh Au Au<|Bb (Bo (decide (J.2≠0))) Au<|Bz F (fun f8 F=>?_) (fun f8 F=>?_)
 iterate 3 refine AI Au (AJ Au Au) Au ?_
 exact FM (Bo true) Au Au<|Ax<|dD _ _ ⟨true,_,Au,BB.of ⟨Au,trivial⟩,dE,bA,F⟩
 refine BO Au Au<|AD (v:=Sl Ar J.1 Cr) Au<|BO Au Au<|AZ Try.underlying31 Au ?_
 have kW:=AX Fs
 exact BO Au Au<|Eh Au Au<|F8 (Bo (decide ((J.1.length:Int)≠4))) Au Au<|Ax<|dD _ _ ⟨decide ((J.1.length:Int)≠4),_,Au,BB.of ⟨Au,trivial⟩,dE,bA,F⟩
 intro oF dF
 have bW:=aU.stepR
 refine Av<|Bb (Iv A.2.2) Au<|A9<|Eh Au Au<|Bb (Bo (decide (A.2.2≠0))) Au<|Bz F (fun f9 F=>?_) (fun f9 F=>?_)
 iterate 6 refine AI Au (AJ Au Au) Au ?_
 refine FM (Bo true) Au Au<|Bb (Bo true) Au ?_
 iterate 6 refine AI Au (AJ Au Au) Au ?_
 exact FM (Bo true) Au Au<|Ax<|dF _ _ ⟨true,_,Au,BB.of ⟨Au,trivial⟩,bW,aU,F⟩
 refine BO Au Au<|AD (v:=Bo A.2.1) Au<|BO Au Au<|AQ 0 DT Au Bl Au Au<|BO Au Au<|AP 0 Bl aU Au Au Au<|BO Au Au<|AZ Try.underlying31 Au ?_
 have d5:=(dI.trans dJ)
 replace Fd:=Fd.step d5
 have kX:=AX Fd
 refine BO Au Au<|EB Au Au<|BO Au Au<|LO Try.underlying4 Au Au<|F8 (Bo (!(A.2.1 == (decide (0<(A.1.variables.length:Int)))))) Au Au<|Bb (Bo (!(A.2.1 == (decide (0<(A.1.variables.length:Int)))))) Au<|Bz F (fun gA F=>?_) (fun gA F=>?_)
 iterate 6 refine AI Au (AJ Au Au) Au ?_
 exact FM (Bo true) Au Au<|Ax<|dF _ _ ⟨true,_,Au,BB.of ⟨Au,trivial⟩,bW,aU,F⟩
 refine BO Au Au<|AD (v:=Bo A.2.1) Au<|BO Au Au<|AQ 1 DT Au Eo Au Au<|BO Au Au<|AP 0 Eo aU Au Au Au<|BO Au Au<|AZ Try.underlying32 Au ?_
 replace Fe:=Fe.step d5
 have kY:=AX Fe
 exact BO Au Au<|EB Au Au<|BO Au Au<|LO Try.underlying4 Au Au<|F8 (Bo (!(A.2.1 == (decide (0<(A.1.places.length:Int)))))) Au Au<|Ax<|dF _ _ ⟨!(A.2.1 == (decide (0<(A.1.places.length:Int)))),_,Au,BB.of ⟨Au,trivial⟩,bW,aU,F⟩
 intro oG d6
 have aQ:=aT.stepR
 refine Av<|A9<|B1 0 B4 aT Au Au Au ?_
 obtain⟨dG,gB,F⟩:=bd F
 have dH:=(p3.trans gF)
 replace Fb:=Fb.step dH;replace Fa:=Fa.step dH;replace Fc:=Fc.step dH
 refine A9<|Bi aT Try.call11 (Jj (p:=p) aT.ltw Fa Fb Fc gB) Au ?_
 rintro nS nT bI a2 iS
 obtain rfl:=iS
 refine A9<|Do Au<|Bb (Bo (!dG)) Au<|Bz F (fun gC F=>?_) (fun gC F=>?_)
 iterate 3 refine AI Au (AJ Au Au) Au ?_
 refine FM (Bo true) Au Au<|Ax ?_
 replace aQ:=aQ.trans bI
 exact d6 _ _ ⟨true,_,Au,BB.of ⟨Au,trivial⟩,aQ,a2,F⟩
 refine BO Au Au<|B1 0 B4 a2 Au Au Au ?_
 obtain⟨bJ,gD,F⟩:=bd F
 replace Fb:=Fb.step bI;replace Fa:=Fa.step bI;replace Fc:=Fc.step bI
 refine BO Au Au<|Bi a2 Try.call12 (Hi (p:=p) a2.ltw Fa Fb Fc gD) Au ?_
 rintro nU nV iT gE iU
 clear a2
 obtain⟨rfl,Ri⟩:=iU
 refine BO Au Au<|Eh Au Au<|F8 (Bo (decide (bJ≠0))) Au Au<|Ax ?_
 replace aQ:=aQ.trans (bI.trans iT)
 exact d6 _ _ ⟨decide (bJ≠0),_,Au,BB.of ⟨Au,trivial⟩,aQ,gE,F⟩

end Go.Fx
set_option linter.unusedSimpArgs false
set_option linter.unusedVariables false
namespace Go.Fx
open Go Go.RowKit

section
variable {R α σ : Type}
@[simp] theorem F9 {κ:Type _} (k:κ) (f:κ→Option R):jn k f=f k:=rfl
theorem BF {c:Prop} [Decidable c] {m:Option R} (h:c):ck c m=m:=if_pos h
@[simp] theorem BI {m:Option R} :ck True m=m:=if_pos trivial
theorem wrapN {i:Nat} (h:i<9223372036854775808):IntKind.i64.wrap (i:Int)=(i:Int):=Eb (by omega) (by omega)
theorem KJ {i:Nat} (h:i+1<9223372036854775808):IntKind.i64.wrap ((i:Int)+1)=(i:Int)+1:=Eb (by omega) (by omega)
theorem VJ {i:Nat} (h:i<9223372036854775808):IntKind.i64.wrap (((i+1:Nat):Int) - 1)=(i:Int):=(Eb (by omega) (by omega)).trans (by omega)

theorem Lb {L:Nat→Int→σ→Option R} (I:Nat→σ→Prop) (F:Nat→List α→σ→Option R) (l:List α) (hl:l.length<9223372036854775807)
    (hE:∀n s,I l.length s→L (n+1) (l.length:Nat) s=F l.length [] s)
    (hS:∀n (i:Nat) s x t,i<l.length→l[i]?=some x→IntKind.i64.wrap ((i:Int)+1)=(i:Int)+1→I i s→
      (∀s,I (i+1) s→L n ((i:Int)+1) s=F (i+1) t s)→L (n+1) (i:Int) s=F i (x::t) s):
    ∀(fuel:Nat) s,l.length<fuel→I 0 s→L fuel 0 s=F 0 l s:=by
  have main:∀(t:List α) (i fuel:Nat) s,l.drop i=t→i≤l.length→l.length - i<fuel→I i s→L fuel (i:Int) s=F i t s:=by
    intro t
    induction t with
    |nil=>
      intro i fuel s hd hi hf hI
      have:i=l.length:=by have:=congrArg List.length hd;simp at this;omega
      subst this
      obtain⟨n,rfl⟩:∃n,fuel=n+1:=⟨fuel - 1,by omega⟩
      exact hE n s hI
    |cons x t ih=>
      intro i fuel s hd hi hf hI
      have hlt:i<l.length:=by have:=congrArg List.length hd;simp at this;omega
      obtain⟨n,rfl⟩:∃n,fuel=n+1:=⟨fuel - 1,by omega⟩
      have hx:l[i]?=some x:=by rw [← List.head?_drop,hd];rfl
      refine hS n i s x t hlt hx (KJ (by omega)) hI fun s' hI'=>(ih (i+1) n s' ?_ (by omega) (by omega) hI')
      rw [← List.drop_drop,hd];rfl
  intro fuel s hf hI
  exact main l 0 fuel s rfl (by omega) (by omega) hI

theorem AH {l:List α} {i:Nat} {x d:α} (h:l[i]?=some x):l.getD i d=x:=by simp [List.getD,h]

theorem GY {B:(Int→Option R)→Int→Option R} (F:List α→Option R) (l:List α) (hl:l.length<9223372036854775807)
    (hE:∀sf,B sf (l.length:Nat)=F [])
    (hS:∀sf (i:Nat) x t,i<l.length→l[i]?=some x→IntKind.i64.wrap ((i:Int)+1)=(i:Int)+1→
      sf ((i:Int)+1)=F t→B sf (i:Int)=F (x::t))
    {fuel:Nat} (hf:l.length<fuel):B0 B fuel 0=F l:=by
  refine Lb (L:=fun n i (_:Unit)=>B0 B n i) (fun _ _=>True) (fun _ t _=>F t) l hl ?_ ?_ fuel () hf trivial
  · intro n _ _;show B0 B (n+1) _=_;rw [FG];exact hE _
  · intro n i _ x t h1 h2 h3 _ ih;show B0 B (n+1) _=_;rw [FG];exact hS _ i x t h1 h2 h3 (ih () trivial)
theorem I2 {B:(Int→σ→Option R)→Int→σ→Option R} (I:Nat→σ→Prop) (F:Nat→List α→σ→Option R) (l:List α) (hl:l.length<9223372036854775807)
    (hE:∀sf s,I l.length s→B sf (l.length:Nat) s=F l.length [] s)
    (hS:∀sf (i:Nat) s x t,i<l.length→l[i]?=some x→IntKind.i64.wrap ((i:Int)+1)=(i:Int)+1→I i s→
      (∀s,I (i+1) s→sf ((i:Int)+1) s=F (i+1) t s)→B sf (i:Int) s=F i (x::t) s)
    {fuel:Nat} {s:σ} (hf:l.length<fuel) (hI:I 0 s):BC B fuel 0 s=F 0 l s:=by
  refine Lb (L:=fun n i s=>BC B n i s) I F l hl ?_ ?_ fuel s hf hI
  · intro n s h;show BC B (n+1) _ _=_;rw [Ds];exact hE _ _ h
  · intro n i s x t h1 h2 h3 h4 ih;show BC B (n+1) _ _=_;rw [Ds];exact hS _ i s x t h1 h2 h3 h4 ih
theorem HT {B:(σ→Int→Option R)→σ→Int→Option R} (I:Nat→σ→Prop) (F:Nat→List α→σ→Option R) (l:List α) (hl:l.length<9223372036854775807)
    (hE:∀sf s,I l.length s→B sf s (l.length:Nat)=F l.length [] s)
    (hS:∀sf (i:Nat) s x t,i<l.length→l[i]?=some x→IntKind.i64.wrap ((i:Int)+1)=(i:Int)+1→I i s→
      (∀s,I (i+1) s→sf s ((i:Int)+1)=F (i+1) t s)→B sf s (i:Int)=F i (x::t) s)
    {fuel:Nat} {s:σ} (hf:l.length<fuel) (hI:I 0 s):BC B fuel s 0=F 0 l s:=by
  refine Lb (L:=fun n i s=>BC B n s i) I F l hl ?_ ?_ fuel s hf hI
  · intro n s h;show BC B (n+1) _ _=_;rw [Ds];exact hE _ _ h
  · intro n i s x t h1 h2 h3 h4 ih;show BC B (n+1) _ _=_;rw [Ds];exact hS _ i s x t h1 h2 h3 h4 ih

theorem Mc {B:(Int→Option R)→Int→Option R} (F:Nat→List α→Option R) (l:List α) (hl:l.length<9223372036854775807)
    (hE:∀sf,B sf (l.length:Nat)=F l.length [])
    (hS:∀sf (i:Nat) x t,i<l.length→l[i]?=some x→IntKind.i64.wrap ((i:Int)+1)=(i:Int)+1→
      sf ((i:Int)+1)=F (i+1) t→B sf (i:Int)=F i (x::t))
    {fuel:Nat} (hf:l.length<fuel):B0 B fuel 0=F 0 l:=by
  refine Lb (L:=fun n i (_:Unit)=>B0 B n i) (fun _ _=>True) (fun i t _=>F i t) l hl ?_ ?_ fuel () hf trivial
  · intro n _ _;show B0 B (n+1) _=_;rw [FG];exact hE _
  · intro n i _ x t h1 h2 h3 _ ih;show B0 B (n+1) _=_;rw [FG];exact hS _ i x t h1 h2 h3 (ih () trivial)
end
end Go.Fx
namespace Go.Fx
open Go Go.RowKit
section
variable {R α σ : Type}
def JB (lt:α→α→Bool):List α→Bool
 |a::b::t=>lt a b&&JB lt (b::t)
 |_=>true
def O4 (ok:α→Bool) (lt:α→α→Bool):Option α→List α→Bool
 |_,[] =>true
 |o,x::t=>ok x&&(o.all fun y=>lt y x)&&O4 ok lt (some x) t
theorem OX {ok:α→Bool} {lt:α→α→Bool} :∀(t:List α) (a:α),O4 ok lt (some a) t=(t.all ok&&JB lt (a::t))
 |[],a=>by simp [O4,JB]
 |x::t,a=>by
  simp only [O4,JB,OX t x,List.all_cons,Option.all_some]
  cases ok x<;> cases lt a x<;> cases t.all ok<;> simp
theorem SV {ok:α→Bool} {lt:α→α→Bool} (l:List α):O4 ok lt none l=(l.all ok&&JB lt l):=by
 cases l with
 |nil=>simp [O4,JB]
 |cons x t=>simp only [O4,OX,List.all_cons,Option.all_none,Bool.and_true,Bool.and_assoc]
theorem NR {B:(Int→Option R)→Int→Option R} {l:List α} (ok:α→Bool) (lt:α→α→Bool) (bad fin:Option R) (hl:l.length<9223372036854775807)
  (hE:∀sf,B sf (l.length:Nat)=fin)
  (h0:∀sf x,0<l.length→l[0]?=some x→IntKind.i64.wrap ((0:Int)+1)=1→B sf 0=bif ok x then sf 1 else bad)
  (hS:∀sf (j:Nat) y x,j+1<l.length→l[j]?=some y→l[j+1]?=some x→IntKind.i64.wrap (((j+1:Nat):Int)+1)=((j+1:Nat):Int)+1→IntKind.i64.wrap (((j+1:Nat):Int) - 1)=(j:Int)→
   B sf ((j+1:Nat):Int)=bif (ok x&&lt y x) then sf (((j+1:Nat):Int)+1) else bad)
  {fuel:Nat} (hf:l.length<fuel):B0 B fuel 0=bif (l.all ok&&JB lt l) then fin else bad:=by
 refine(Mc (fun i t=>bif O4 ok lt (if i=0 then none else l[i - 1]?) t then fin else bad) l hl (fun sf=>by rw [hE];rfl) ?_ hf).trans ?_
 ·
  intro sf i x t h1 h2 h3 ih
  cases i with
  |zero=>
   have e:=h0 sf x h1 h2 (by simpa using h3)
   simp only [Nat.zero_add,Nat.succ_ne_zero,if_false,if_true,Nat.add_sub_cancel,h2,Int.natCast_zero,Int.zero_add] at ih ⊢
   show B sf 0=_
   rw [e,O4]
   cases ok x
   · simp
   · simp only [cond_true,Option.all_none,Bool.and_true,Bool.true_and];exact ih
  |succ j=>
   have hy:l[j]?=some l[j]:=List.getElem?_eq_getElem (by omega)
   have e:=hS sf j l[j] x h1 hy h2 h3 (VJ (by omega))
   simp only [Nat.succ_ne_zero,if_false,Nat.add_sub_cancel,h2] at ih ⊢
   rw [e,O4,hy]
   cases hc:(ok x&&lt l[j] x)
   · simp only [Option.all_some,hc,Bool.false_and,cond_false]
   · simp only [Option.all_some,hc,Bool.true_and,cond_true];exact ih
 · simp only [if_true,SV]
theorem Ik {B:(Int→Option R)→Int→Option R} {l:List α} (ok:α→Bool) (bad fin:Option R) (hl:l.length<9223372036854775807)
  (hE:∀sf,B sf (l.length:Nat)=fin)
  (hS:∀sf (i:Nat) x,i<l.length→l[i]?=some x→IntKind.i64.wrap ((i:Int)+1)=(i:Int)+1→B sf (i:Int)=bif ok x then sf ((i:Int)+1) else bad)
  {fuel:Nat} (hf:l.length<fuel):B0 B fuel 0=bif l.all ok then fin else bad:=by
 refine GY (fun t=>bif t.all ok then fin else bad) l hl (fun sf=>by rw [hE];rfl) ?_ hf
 intro sf i x t h1 h2 h3 ih
 rw [hS sf i x h1 h2 h3,List.all_cons]
 cases ok x
 · rfl
 · simp only [cond_true,Bool.true_and];exact ih
theorem PH {B:(Int→Option R)→Int→Option R} {l:List α} (lt:α→α→Bool) (bad fin:Option R) (hl:l.length<9223372036854775807)
  (hE:∀sf (i:Nat),l.length≤i→i≤l.length+1→B sf (i:Int)=fin)
  (hS:∀sf (j:Nat) y x,j+1<l.length→l[j]?=some y→l[j+1]?=some x→IntKind.i64.wrap (((j+1:Nat):Int)+1)=((j+1:Nat):Int)+1→IntKind.i64.wrap (((j+1:Nat):Int) - 1)=(j:Int)→
   B sf ((j+1:Nat):Int)=bif lt y x then sf (((j+1:Nat):Int)+1) else bad)
  {fuel:Nat} (hf:l.length - 1<fuel):B0 B fuel 1=bif JB lt l then fin else bad:=by
 have main:∀(fuel j:Nat) (y:α) (t:List α),l.drop j=y::t→l.length - (j+1)<fuel→B0 B fuel ((j+1:Nat):Int)=bif JB lt (y::t) then fin else bad:=by
  intro fuel
  induction fuel with
  |zero=>intro j y t _ h;omega
  |succ n ih=>
   intro j y t hd hf
   have hlen:l.length - j=t.length+1:=by have:=congrArg List.length hd;simpa using this
   have hy:l[j]?=some y:=by rw [← List.head?_drop,hd];rfl
   rw [FG]
   cases t with
   |nil=>rw [hE _ _ (by simp at hlen;omega) (by simp at hlen;omega)];rfl
   |cons x t=>
    simp only [List.length_cons] at hlen
    have hd2:l.drop (j+1)=x::t:=by rw [← List.drop_drop,hd];rfl
    have hx:l[j+1]?=some x:=by rw [← List.head?_drop,hd2];rfl
    rw [hS _ j y x (by omega) hy hx (KJ (by omega)) (VJ (by omega)),JB]
    cases lt y x
    · rfl
    · simp only [cond_true,Bool.true_and];exact ih (j+1) x t hd2 (by omega)
 cases l with
 |nil=>
  obtain⟨n,rfl⟩:∃n,fuel=n+1:=⟨fuel - 1,by simp at hf;omega⟩
  rw [FG];exact hE _ 1 (by simp) (by simp)
 |cons y t=>exact main fuel 0 y t rfl hf
theorem Ey {i n:Nat} (h:i<n):((0:Int)≤(i:Int)∧(i:Int)<(n:Int))=True:=by simp;omega
theorem EY {i n:Nat} (h:i<n):decide ((i:Int)<(n:Int))=true:=by simpa using h
theorem Jd {n:Nat} :decide ((n:Int)<(n:Int))=false:=by simp
end
def BY (n lo hi:Int):Bool:=decide (lo≤n)&&decide (n≤hi)
theorem MH (n lo hi:Int):CB n lo hi=some (BY n lo hi):=by
 unfold CB BY;cases decide (lo≤n)<;> rfl
theorem LF (n lo hi:Int):BH n lo hi=some (BY n lo hi):=by
 unfold BH BY;cases decide (lo≤n)<;> rfl
def MI (x y:Int):Int:=if x<y then -1 else if y<x then 1 else 0
theorem RF (x y:Int):CS x y=some (MI x y):=by
 unfold CS H6 MI
 by_cases h:x<y
 · simp [h]
 · by_cases h2:y<x<;> simp [h,h2]
theorem TT (x y:Int):Ih [x,y] =some (if x≠0 then x else y):=by
 unfold Ih
 rw [GY (B:=Hf [x,y]) (fun t=>some ((t.find? (fun z=>decide (z≠0))).getD 0)) [x,y] (by simp) ?_ ?_ (by simp)]
 ·
  by_cases hx:x=0
  · by_cases hy:y=0<;> simp [hx,hy]
  · simp [hx]
 · intro sf;unfold Hf;simp
 ·
  intro sf i z t h1 h2 h3 ih
  unfold Hf
  simp only [EY h1,Ey h1,BI,Int.toNat_natCast,AH h2,h3,ih,cond_true,List.find?_cons]
  cases decide (z≠0)<;> rfl
def cb (a b:AK):Bool:=if a.airport=b.airport then (if a.index=b.index then decide (a.minute<b.minute) else decide (a.index<b.index)) else b.airport
theorem TU (a b:AK):D0 a b=some (cb a b):=by
 unfold D0 cb
 by_cases h:a.airport=b.airport
 · by_cases h2:a.index=b.index<;> simp [h,h2]
 ·
  have h3:(a.airport == b.airport)=false:=by simpa using h
  simp [h,h3]
def UU (a b:AK):Int:=if a.airport=b.airport then (if MI a.index b.index≠0 then MI a.index b.index else MI a.minute b.minute) else if b.airport then -1 else 1
theorem TV (a b:AK):CH a b=some (UU a b):=by
 unfold CH UU
 by_cases h:a.airport=b.airport
 · simp only [h,beq_self_eq_true,Bool.not_true,cond_false,RF,TT,Option.bind_some,if_true]
 ·
  have:(a.airport == b.airport)=false:=by simpa using h
  simp only [this,h,Bool.not_false,cond_true,if_false]
  cases b.airport<;> rfl
theorem Sz (a b:AK):decide (0≤UU a b)=!(cb a b):=by
 unfold UU cb MI
 by_cases h:a.airport=b.airport
 ·
  simp only [h,if_true]
  by_cases h1:a.index=b.index
  ·
   simp only [h1,Int.lt_irrefl,if_false,ne_eq,not_true_eq_false,if_true]
   by_cases h2:a.minute<b.minute
   · simp [h2]
   · simp only [h2,if_false,decide_false,Bool.not_false,decide_eq_true_eq];split<;> omega
  ·
   simp only [h1,if_false]
   by_cases h2:a.index<b.index
   · simp [h2]
   ·
    have:b.index<a.index:=by omega
    simp [h2,this]
 ·
  simp only [h,if_false]
  cases b.airport<;> simp
theorem Wi (l:List AK) (hl:l.length<9223372036854775807):H5 l (fun x y=>CH x y)=some (JB cb l):=by
 unfold H5
 rw [PH (l:=l) cb (some false) (some true) hl ?_ ?_ (by omega)]
 · cases JB cb l<;> rfl
 ·
  intro sf i h1 h2;unfold GK
  have:decide ((i:Int)<(l.length:Int))=false:=by simp;omega
  rw [this];rfl
 ·
  intro sf j y x h1 h2 h3 h4 h5;unfold GK
  simp only [EY h1,h4,h5,Ey h1,Ey (show j<l.length by omega),BI,Int.toNat_natCast,AH h2,AH h3,TV,Option.bind_some,Sz,cond_true]
  cases cb y x<;> rfl
theorem Wj (l:List Int) (hl:l.length<9223372036854775807):F2 l (fun x y=>CS x y)=some (JB (fun x y=>decide (x<y)) l):=by
 unfold F2
 rw [PH (l:=l) (fun x y=>decide (x<y)) (some false) (some true) hl ?_ ?_ (by omega)]
 · cases JB _ l<;> rfl
 ·
  intro sf i h1 h2;unfold Ev
  have:decide ((i:Int)<(l.length:Int))=false:=by simp;omega
  rw [this];rfl
 ·
  intro sf j y x h1 h2 h3 h4 h5;unfold Ev
  simp only [EY h1,h4,h5,Ey h1,Ey (show j<l.length by omega),BI,Int.toNat_natCast,AH h2,AH h3,RF,Option.bind_some,cond_true]
  by_cases h:y<x
  · simp [MI,h]
  ·
   have:0≤MI y x:=by unfold MI;simp only [h,if_false];split<;> omega
   simp [h,this]
theorem Wk (l:List Bp) (hl:l.length<9223372036854775807):HQ l (fun x y=>Dr x y)=some (JB (fun x y=>cb x.cell y.cell) l):=by
 unfold HQ
 rw [PH (l:=l) (fun x y=>cb x.cell y.cell) (some false) (some true) hl ?_ ?_ (by omega)]
 · cases JB _ l<;> rfl
 ·
  intro sf i h1 h2;unfold GX
  have:decide ((i:Int)<(l.length:Int))=false:=by simp;omega
  rw [this];rfl
 ·
  intro sf j y x h1 h2 h3 h4 h5;unfold GX
  simp only [EY h1,h4,h5,Ey h1,Ey (show j<l.length by omega),BI,Int.toNat_natCast,AH h2,AH h3,Dr,TV,Option.bind_some,Sz,cond_true]
  cases cb y.cell x.cell<;> rfl
theorem Wl (s:List Int) (hl:s.length<9223372036854775807):Dn s (fun x=>CI x)=some (!(s.all fun n=>BY n 0 4096)):=by
 unfold Dn EF
 have key:∃i:Int,B0 (BZ s (fun x=>CI x)) (((s.length:Int) - 0).toNat+1) 0=some i∧decide (0≤i)=!(s.all fun n=>BY n 0 4096):=by
  rw [Mc (B:=BZ s (fun x=>CI x)) (fun i t=>some (match t.findIdx? (fun n=>!(BY n 0 4096)) with |none=>(-1:Int) |some k=>((i+k:Nat):Int))) s hl ?_ ?_ (by omega)]
  ·
   refine⟨_,rfl,?_⟩
   cases h:s.findIdx? (fun n=>!(BY n 0 4096)) with
   |none=>
    rw [List.findIdx?_eq_none_iff] at h
    have:(s.all fun n=>BY n 0 4096)=true:=by rw [List.all_eq_true];intro x hx;simpa using h x hx
    simp [this]
   |some k=>
    have:(s.all fun n=>BY n 0 4096)=false:=by
     rw [List.all_eq_false]
     obtain⟨hk,h1,_⟩:=List.findIdx?_eq_some_iff_getElem.1 h
     exact⟨s[k],List.getElem_mem hk,by simpa using h1⟩
    simp [this]
  · intro sf;unfold BZ;simp
  ·
   intro sf i x t h1 h2 h3 ih
   unfold BZ CI
   simp only [EY h1,Ey h1,BI,Int.toNat_natCast,AH h2,MH,Option.bind_some,h3,cond_true,List.findIdx?_cons]
   cases hw:BY x 0 4096
   · simp
   ·
    simp only [Bool.not_true,cond_false,Bool.false_eq_true,if_false]
    rw [ih]
    cases t.findIdx? (fun n=>!(BY n 0 4096)) with
    |none=>rfl
    |some k=>simp;omega
 obtain⟨i,h1,h2⟩:=key
 rw [h1,Option.bind_some,h2]
def JA (c:AK):Bool:=decide (0≤c.index)&&decide (0≤c.minute)
def Md (cells:List AK) (u:Bp):Bool:=decide (u.cell∈cells)&&BY u.places 1 8
def Hr (cells:List AK) (c:AN):Bool:=
 BY c.delay 0 1048576&&(BY c.cost 0 1048576&&(BY c.changes 0 1048576&&(c.uses.all (Md cells)&&JB (fun x y=>cb x.cell y.cell) c.uses)))
def IH (cells:List AK) (n:Nat) (v:AM):Bool:=
 !(decide (v.leaves.length=0))&&(BY v.choices.length 1 96&&(((v.leaves.all fun k=>BY k 0 ((n:Int) - 1))&&JB (fun x y=>decide (x<y)) v.leaves)&&v.choices.all (Hr cells)))
def Ks (n:Nat) (r:List Int):Bool:=decide (r.length=n)&&r.all fun k=>BY k 0 4096
def FA (p:A8):Bool:=
 decide (p.cells.length≤4096)&&(BY p.capacity.length 1 32&&(decide (p.variables.length≤64)&&((p.cells.all JA&&JB cb p.cells)&&(p.capacity.all (Ks p.cells.length)&&p.variables.all (IH p.cells p.capacity.length)))))
theorem TW {l:List Int} {n:Int} (h:JB (fun x y=>decide (x<y)) l=true) {x:Int} (hx:x∈l) (d:Int):l.getD 0 d≤x∧x≤l.getD (l.length - 1) d:=by
 induction l generalizing x with
 |nil=>cases hx
 |cons a t ih=>
  cases t with
  |nil=>simp at hx;simp [hx]
  |cons b t=>
   simp only [JB,Bool.and_eq_true,decide_eq_true_eq] at h
   have e:(a::b::t).getD ((a::b::t).length - 1) d=(b::t).getD ((b::t).length - 1) d:=by simp
   rw [e]
   rcases List.mem_cons.1 hx with rfl |hx
   ·
    have:=ih h.2 (List.mem_cons_self ..)
    simp only [List.getD_cons_zero] at this ⊢
    omega
   ·
    have:=ih h.2 hx
    simp only [List.getD_cons_zero] at this ⊢
    omega
theorem SW {l:List Int} {n:Nat} (h0:l.length≠0) (h:JB (fun x y=>decide (x<y)) l=true):
  (!(decide (l.getD 0 default<0))&&!(decide ((n:Int)≤l.getD (l.length - 1) default)))=l.all fun k=>BY k 0 ((n:Int) - 1):=by
 rw [Bool.eq_iff_iff]
 simp only [Bool.and_eq_true,Bool.not_eq_true',decide_eq_false_iff_not,List.all_eq_true,BY,decide_eq_true_eq]
 constructor
 ·
  intro ⟨h1,h2⟩ x hx
  have:=TW (n:=0) h hx default
  omega
 ·
  intro ha
  have m0:l.getD 0 default∈l:=by
   rw [AH (List.getElem?_eq_getElem (show 0<l.length by omega))];exact List.getElem_mem _
  have m1:l.getD (l.length - 1) default∈l:=by
   rw [AH (List.getElem?_eq_getElem (show l.length - 1<l.length by omega))];exact List.getElem_mem _
  have:=ha _ m0;have:=ha _ m1
  omega
theorem EG {α:Type} {S:α→Prop} {l:List α} (h:Py S l):l.length<9223372036854775807:=by have:=h.1;omega
theorem LG {α:Type} {l:List α} {i:Nat} {x:α} (h:l[i]?=some x):x∈l:=List.mem_of_getElem? h
theorem TY {p:A8} {map_1:List (AK × Bool)} {v:AM} {i:Nat} (hm:∀c,(Bu map_1 c).getD false=decide (c∈p.cells)) (hv:p.variables[i]?=some v) (hs:Iz v)
  (sf156:Int→Option Int) (hw:IntKind.i64.wrap ((i:Int)+1)=(i:Int)+1):
  B0 (EJ p map_1 (i:Int) sf156) (((((p.variables.getD (i:Int).toNat default).choices).length:Int) - 0).toNat+1) 0=bif v.choices.all (Hr p.cells) then sf156 ((i:Int)+1) else some 270:=by
 simp only [Int.toNat_natCast,AH hv]
 refine Ik (Hr p.cells) (some 270) (sf156 ((i:Int)+1)) (EG hs.2.2.2) ?_ ?_ (by omega)
 ·
  intro sf;unfold EJ
  simp only [Int.toNat_natCast,AH hv,Jd,cond_false,hw]
 ·
  intro sf j c h1 h2 h3
  have hc:=hs.2.2.2.2 c (LG h2)
  unfold EJ
  simp only [Int.toNat_natCast,AH hv,AH h2,EY h1,Ey h1,BI,cond_true,MH,Option.bind_some,F9,Wk _ (EG hc.2.2.2),Hr]
  rw [Ik (B:=EI p map_1 (i:Int) (j:Int) sf) (l:=c.uses) (Md p.cells) (some 270) (sf ((j:Int)+1)) (EG hc.2.2.2) ?_ ?_ (by omega)]
  · cases BY c.delay 0 1048576<;> cases BY c.cost 0 1048576<;> cases BY c.changes 0 1048576<;> cases JB (fun x y=>cb x.cell y.cell) c.uses<;> cases c.uses.all (Md p.cells)<;> rfl
  ·
   intro sf';unfold EI
   simp only [Int.toNat_natCast,AH hv,AH h2,Jd,cond_false,h3]
  ·
   intro sf' k u h4 h5 h6
   unfold EI
   simp only [Int.toNat_natCast,AH hv,AH h2,AH h5,EY h4,Ey h4,BI,cond_true,MH,Option.bind_some,F9,hm,Md,h6]
   cases decide (u.cell∈p.cells)<;> cases BY u.places 1 8<;> rfl
theorem PI {p:A8} (hp:C3 p):E4 p=some (bif FA p then 0 else 270):=by
 obtain⟨s1,s2,s3⟩:=hp
 unfold E4
 simp only [F9,MH,Option.bind_some,Wi _ (EG s1)]
 have vars:∀map_1:List (AK × Bool),(∀c,(Bu map_1 c).getD false=decide (c∈p.cells))→
   B0 (EK p map_1) (((p.variables.length:Int) - 0).toNat+1) 0=bif p.variables.all (IH p.cells p.capacity.length) then some 0 else some 270:=by
  intro map_1 hm
  refine Ik (IH p.cells p.capacity.length) (some 270) (some 0) (EG s3) ?_ ?_ (by omega)
  · intro sf;unfold EK;simp only [Jd,cond_false]
  ·
   intro sf i v h1 h2 h3
   have hv:=s3.2 v (LG h2)
   unfold EK
   rw [TY hm h2 hv sf h3]
   simp only [Int.toNat_natCast,AH h2,EY h1,Ey h1,BI,cond_true,MH,Option.bind_some,F9,Wj _ (EG hv.2.2.1),IH]
   by_cases h0:v.leaves.length=0
   · simp [h0]
   ·
    have e1:IntKind.i64.wrap ((v.leaves.length:Int) - 1)=((v.leaves.length - 1:Nat):Int):=by
     have:=EG hv.2.2.1
     exact(Eb (by omega) (by omega)).trans (by omega)
    have c1:((0:Int)≤0∧(0:Int)<(v.leaves.length:Int))=True:=by simp;omega
    have c2:((0:Int)≤((v.leaves.length - 1:Nat):Int)∧((v.leaves.length - 1:Nat):Int)<(v.leaves.length:Int))=True:=by simp;omega
    have c3:decide ((v.leaves.length:Int)=0)=false:=by simpa using h0
    simp only [e1,c1,c2,c3,BI,cond_false,h0,decide_false,Bool.not_false,Bool.true_and,Int.toNat_natCast]
    cases BY v.choices.length 1 96
    · rfl
    ·
     simp only [Bool.not_true,cond_false,Bool.true_and]
     cases ha:JB (fun x y=>decide (x<y)) v.leaves
     · simp
     ·
      rw [← SW h0 ha]
      simp only [Bool.not_true,cond_false,Bool.and_true]
      cases decide (v.leaves.getD 0 default<0)<;> cases decide ((p.capacity.length:Int)≤v.leaves.getD (v.leaves.length - 1) default)<;> cases v.choices.all (Hr p.cells)<;> rfl
 have caps:∀map_1:List (AK × Bool),(∀c,(Bu map_1 c).getD false=decide (c∈p.cells))→
   B0 (EL p map_1) (((p.capacity.length:Int) - 0).toNat+1) 0=bif p.capacity.all (Ks p.cells.length) then (bif p.variables.all (IH p.cells p.capacity.length) then some 0 else some 270) else some 270:=by
  intro map_1 hm
  refine Ik (Ks p.cells.length) (some 270) _ (EG s2) ?_ ?_ (by omega)
  · intro sf;unfold EL;rw [vars map_1 hm];simp only [Jd,cond_false]
  ·
   intro sf i r h1 h2 h3
   unfold EL
   simp only [Int.toNat_natCast,AH h2,EY h1,Ey h1,BI,cond_true,F9,Wl _ (EG (s2.2 r (LG h2))),Option.bind_some,Ks,h3]
   by_cases h:r.length=p.cells.length
   ·
    simp only [h,ne_eq,not_true_eq_false,decide_false,cond_false,decide_true,Bool.true_and]
    cases r.all fun k=>BY k 0 4096<;> rfl
   ·
    have:((r.length:Int)≠(p.cells.length:Int)):=by omega
    simp [h,this]
 have cells:BC (EM p) (((p.cells.length:Int) - 0).toNat+1) 0 ([]:List (AK × Bool))=bif p.cells.all JA then (bif p.capacity.all (Ks p.cells.length) then (bif p.variables.all (IH p.cells p.capacity.length) then some 0 else some 270) else some 270) else some 270:=by
  refine I2 (fun i s=>∀c,(Bu s c).getD false=decide (c∈p.cells.take i)) (fun _ t _=>bif t.all JA then _ else some 270) p.cells (EG s1) ?_ ?_ (by omega) (by simp [Bu])
  ·
   intro sf s hI
   unfold EM
   rw [List.take_length] at hI
   rw [caps s hI];simp only [Jd,cond_false,List.all_nil,cond_true]
  ·
   intro sf i s x t h1 h2 h3 hI ih
   unfold EM
   simp only [Int.toNat_natCast,AH h2,EY h1,Ey h1,BI,cond_true,F9,h3,List.all_cons,JA]
   have hn:∀c,(Bu (Dp s x true) c).getD false=decide (c∈p.cells.take (i+1)):=by
    intro c
    rw [G7,List.take_add_one,h2]
    by_cases hc:x=c
    · simp [hc]
    · rw [if_neg hc,hI c];simp [Ne.symm hc]
   rw [ih _ hn]
   by_cases h4:x.index<0
   ·
    have: ¬(0≤x.index):=by omega
    simp [h4,this]
   ·
    by_cases h5:x.minute<0
    ·
     have: ¬(0≤x.minute):=by omega
     simp [h4,h5,this]
    ·
     have a1:0≤x.index:=by omega
     have a2:0≤x.minute:=by omega
     simp [h4,h5,a1,a2]
 rw [cells]
 unfold FA
 by_cases h1:p.cells.length≤4096
 ·
  have e1: ¬((4096:Int)<(p.cells.length:Int)):=by omega
  by_cases h2:p.variables.length≤64
  ·
   have e2: ¬((64:Int)<(p.variables.length:Int)):=by omega
   simp only [h1,h2,e1,e2,decide_true,decide_false,cond_false,Bool.true_and]
   cases BY p.capacity.length 1 32<;> cases JB cb p.cells<;> cases p.cells.all JA<;> cases p.capacity.all (Ks p.cells.length)<;> cases p.variables.all (IH p.cells p.capacity.length)<;> rfl
  ·
   have e2:(64:Int)<(p.variables.length:Int):=by omega
   simp only [h1,h2,e1,e2,decide_true,decide_false,cond_false,cond_true,Bool.true_and,Bool.false_and,Bool.and_false]
   cases BY p.capacity.length 1 32<;> rfl
 ·
  have e1:(4096:Int)<(p.cells.length:Int):=by omega
  simp [h1,e1]
theorem RG (l:List AK) (c:AK) (hl:l.length<9223372036854775807):
  DL l c=some (match l.findIdx? (fun x=>decide (x=c)) with |none=>(-1:Int) |some k=>(k:Int)):=by
 unfold DL
 rw [Mc (B:=DG l c) (fun i t=>some (match t.findIdx? (fun x=>decide (x=c)) with |none=>(-1:Int) |some k=>((i+k:Nat):Int))) l hl ?_ ?_ (by omega)]
 · simp
 · intro sf;unfold DG;simp
 ·
  intro sf i x t h1 h2 h3 ih
  unfold DG
  simp only [EY h1,Ey h1,BI,Int.toNat_natCast,AH h2,h3,cond_true,List.findIdx?_cons]
  cases hw:decide (x=c)
  ·
   simp only [cond_false,Bool.false_eq_true,if_false]
   rw [ih]
   cases t.findIdx? (fun x=>decide (x=c)) with
   |none=>rfl
   |some k=>simp;omega
  · simp
theorem TZ (l:List AK) (c:AK):decide ((match l.findIdx? (fun x=>decide (x=c)) with |none=>(-1:Int) |some k=>(k:Int))<0)=!(decide (c∈l)):=by
 cases h:l.findIdx? (fun x=>decide (x=c)) with
 |none=>
  rw [List.findIdx?_eq_none_iff] at h
  have:c ∉ l:=fun hc=>by have:=h c hc;simp at this
  simp [this]
 |some k=>
  obtain⟨hk,h1,_⟩:=List.findIdx?_eq_some_iff_getElem.1 h
  have:c∈l:=by
   have h1:l[k] =c:=by simpa using h1
   rw [← h1];exact List.getElem_mem hk
  simp [this]
theorem Wm {p:A8} {v:AM} (h1:Py LZ p.cells) (h2:p.capacity.length<9223372036854775807) (hs:Iz v):
  DN p v=some (IH p.cells p.capacity.length v):=by
 unfold DN
 have chs:B0 (CK p v) (((v.choices.length:Int) - 0).toNat+1) 0=bif v.choices.all (Hr p.cells) then some true else some false:=by
  refine Ik (Hr p.cells) (some false) (some true) (EG hs.2.2.2) ?_ ?_ (by omega)
  · intro sf;unfold CK;simp only [Jd,cond_false]
  ·
   intro sf i c e1 e2 e3
   have hc:=hs.2.2.2.2 c (LG e2)
   unfold CK
   simp only [Int.toNat_natCast,AH e2,EY e1,Ey e1,BI,cond_true,LF,Option.bind_some,F9,Hr]
   rw [NR (B:=Cu p v (i:Int) sf) (l:=c.uses) (Md p.cells) (fun x y=>cb x.cell y.cell) (some false) (sf ((i:Int)+1)) (EG hc.2.2.2) ?_ ?_ ?_ (by omega)]
   · cases BY c.delay 0 1048576<;> cases BY c.cost 0 1048576<;> cases BY c.changes 0 1048576<;> cases JB (fun x y=>cb x.cell y.cell) c.uses<;> cases c.uses.all (Md p.cells)<;> rfl
   ·
    intro sf';unfold Cu
    simp only [Int.toNat_natCast,AH e2,Jd,cond_false,e3]
   ·
    intro sf' u h0 hu hw
    unfold Cu
    have c1:((0:Int)≤0∧(0:Int)<(c.uses.length:Int))=True:=by simp<;> omega
    have c2:decide ((0:Int)<(c.uses.length:Int))=true:=by simp<;> omega
    have hu':c.uses.getD (0:Int).toNat default=u:=AH hu
    simp only [Int.toNat_natCast,AH e2,hu',c1,c2,BI,cond_true,LF,RG _ _ (EG h1),Option.bind_some,TZ,F9,Md,hw,Int.lt_irrefl,decide_false,cond_false]
    cases decide (u.cell∈p.cells)<;> cases BY u.places 1 8<;> rfl
   ·
    intro sf' j y u h0 hy hu hw hw2
    unfold Cu
    have c3:decide ((0:Int)<((j+1:Nat):Int))=true:=by simp<;> omega
    simp only [Int.toNat_natCast,AH e2,AH hu,AH hy,EY h0,Ey h0,Ey (show j<c.uses.length by omega),c3,BI,cond_true,LF,TU,RG _ _ (EG h1),Option.bind_some,TZ,F9,Md,hw,hw2]
    cases decide (u.cell∈p.cells)<;> cases BY u.places 1 8<;> cases cb y.cell u.cell<;> rfl
 have e1:IntKind.i64.wrap ((p.capacity.length:Int) - 1)=(p.capacity.length:Int) - 1:=Eb (by omega) (by omega)
 rw [NR (B:=Cv p v) (l:=v.leaves) (fun k=>BY k 0 ((p.capacity.length:Int) - 1)) (fun x y=>decide (x<y)) (some false) (bif v.choices.all (Hr p.cells) then some true else some false) (EG hs.2.2.1) ?_ ?_ ?_ (by omega)]
 ·
  simp only [F9,IH]
  by_cases a:v.leaves.length=0
  · simp [a]
  ·
   have a1: ¬((v.leaves.length:Int)<1):=by omega
   simp only [a,a1,decide_false,cond_false,Bool.not_false,Bool.true_and]
   by_cases b:(v.choices.length:Int)<1
   ·
    have:BY v.choices.length 1 96=false:=by simp [BY];omega
    simp [b,this]
   ·
    by_cases b2:(96:Int)<(v.choices.length:Int)
    ·
     have:BY v.choices.length 1 96=false:=by simp [BY];omega
     simp [b,b2,this]
    ·
     have:BY v.choices.length 1 96=true:=by simp [BY];omega
     simp only [b,b2,this,decide_false,cond_false,Bool.true_and]
     cases (v.leaves.all fun k=>BY k 0 ((p.capacity.length:Int) - 1))<;> cases JB (fun x y=>decide (x<y)) v.leaves<;> cases v.choices.all (Hr p.cells)<;> rfl
 · intro sf;unfold Cv;rw [chs];simp only [Jd,cond_false]
 ·
  intro sf k h0 hk hw
  unfold Cv
  have c1:((0:Int)≤0∧(0:Int)<(v.leaves.length:Int))=True:=by simp<;> omega
  have c2:decide ((0:Int)<(v.leaves.length:Int))=true:=by simp<;> omega
  have hk':v.leaves.getD (0:Int).toNat default=k:=AH hk
  simp only [hk',c1,c2,BI,cond_true,LF,Option.bind_some,F9,hw,e1,Int.lt_irrefl,decide_false,cond_false]
  cases BY k 0 ((p.capacity.length:Int) - 1)<;> rfl
 ·
  intro sf j y k h0 hy hk hw hw2
  unfold Cv
  have c3:decide ((0:Int)<((j+1:Nat):Int))=true:=by simp<;> omega
  have c4:decide (k≤y)=!(decide (y<k)):=by by_cases h:y<k<;> simp [h]<;> omega
  simp only [Int.toNat_natCast,AH hk,AH hy,EY h0,Ey h0,Ey (show j<v.leaves.length by omega),c3,c4,BI,cond_true,LF,Option.bind_some,F9,hw,hw2,e1]
  cases BY k 0 ((p.capacity.length:Int) - 1)<;> cases decide (y<k)<;> rfl
theorem Ua {p:A8} (hp:C3 p):DH p=some (bif FA p then 0 else 270):=by
 obtain⟨s1,s2,s3⟩:=hp
 have vars:B0 (De p) (((p.variables.length:Int) - 0).toNat+1) 0=bif p.variables.all (IH p.cells p.capacity.length) then some 0 else some 270:=by
  refine Ik (IH p.cells p.capacity.length) (some 270) (some 0) (EG s3) ?_ ?_ (by omega)
  · intro sf;unfold De;simp only [Jd,cond_false]
  ·
   intro sf i v h1 h2 h3
   unfold De
   simp only [Int.toNat_natCast,AH h2,EY h1,Ey h1,BI,cond_true,Wm s1 (EG s2) (s3.2 v (LG h2)),Option.bind_some,h3]
   cases IH p.cells p.capacity.length v<;> rfl
 have caps:B0 (Df p) (((p.capacity.length:Int) - 0).toNat+1) 0=bif p.capacity.all (Ks p.cells.length) then (bif p.variables.all (IH p.cells p.capacity.length) then some 0 else some 270) else some 270:=by
  refine Ik (Ks p.cells.length) (some 270) _ (EG s2) ?_ ?_ (by omega)
  · intro sf;unfold Df;rw [vars];simp only [Jd,cond_false]
  ·
   intro sf i r h1 h2 h3
   unfold Df
   simp only [Int.toNat_natCast,AH h2,EY h1,Ey h1,BI,cond_true,Ks]
   by_cases h:r.length=p.cells.length
   ·
    simp only [h,ne_eq,not_true_eq_false,decide_false,cond_false,decide_true,Bool.true_and]
    rw [← h]
    refine Ik (B:=Dd p (i:Int) sf) (l:=r) (fun k=>BY k 0 4096) (some 270) (sf ((i:Int)+1)) (EG (s2.2 r (LG h2))) ?_ ?_ (by omega)
    · intro sf';unfold Dd;rw [h];simp only [Jd,cond_false,h3]
    ·
     intro sf' j k h4 h5 h6
     unfold Dd
     simp only [Int.toNat_natCast,AH h2,AH h5,← h,EY h4,Ey h4,Ey h1,BI,cond_true,LF,Option.bind_some,h6]
     cases BY k 0 4096<;> rfl
   ·
    have:((r.length:Int)≠(p.cells.length:Int)):=by omega
    simp [h,this]
 have cells:B0 (CC p) (((p.cells.length:Int) - 0).toNat+1) 0=bif (p.cells.all JA&&JB cb p.cells) then (bif p.capacity.all (Ks p.cells.length) then (bif p.variables.all (IH p.cells p.capacity.length) then some 0 else some 270) else some 270) else some 270:=by
  have oc:∀x:AK,JA x=(!(decide (x.index<0))&&!(decide (x.minute<0))):=by
   intro x;unfold JA;by_cases a:x.index<0<;> by_cases b:x.minute<0<;> simp [a,b]<;> omega
  refine NR JA cb (some 270) _ (EG s1) ?_ ?_ ?_ (by omega)
  · intro sf;unfold CC;rw [caps];simp only [Jd,cond_false]
  ·
   intro sf x h0 hx hw
   unfold CC
   have c1:((0:Int)≤0∧(0:Int)<(p.cells.length:Int))=True:=by simp<;> omega
   have c2:decide ((0:Int)<(p.cells.length:Int))=true:=by simp<;> omega
   have hk':p.cells.getD (0:Int).toNat default=x:=AH hx
   simp only [hk',c1,c2,BI,cond_true,F9,hw,oc,Int.lt_irrefl,decide_false,cond_false]
   cases decide (x.index<0)<;> cases decide (x.minute<0)<;> rfl
  ·
   intro sf j y x h0 hy hx hw hw2
   unfold CC
   have c3:decide ((0:Int)<((j+1:Nat):Int))=true:=by simp<;> omega
   simp only [Int.toNat_natCast,AH hx,AH hy,EY h0,Ey h0,Ey (show j<p.cells.length by omega),c3,BI,cond_true,TU,Option.bind_some,F9,hw,hw2,oc]
   cases decide (x.index<0)<;> cases decide (x.minute<0)<;> cases cb y x<;> rfl
 unfold DH
 rw [cells]
 simp only [F9]
 unfold FA
 by_cases h1:p.cells.length≤4096
 ·
  have e1: ¬((4096:Int)<(p.cells.length:Int)):=by omega
  simp only [h1,e1,decide_true,decide_false,cond_false,Bool.true_and]
  by_cases b:(p.capacity.length:Int)<1
  ·
   have:BY p.capacity.length 1 32=false:=by simp [BY];omega
   simp [b,this]
  ·
   by_cases b2:(32:Int)<(p.capacity.length:Int)
   ·
    have:BY p.capacity.length 1 32=false:=by simp [BY];omega
    simp [b,b2,this]
   ·
    have:BY p.capacity.length 1 32=true:=by simp [BY];omega
    simp only [b,b2,this,decide_false,cond_false,Bool.true_and]
    by_cases h2:p.variables.length≤64
    ·
     have e2: ¬((64:Int)<(p.variables.length:Int)):=by omega
     simp only [h2,e2,decide_true,decide_false,cond_false,Bool.true_and]
     cases JB cb p.cells<;> cases p.cells.all JA<;> cases p.capacity.all (Ks p.cells.length)<;> cases p.variables.all (IH p.cells p.capacity.length)<;> rfl
    ·
     have e2:(64:Int)<(p.variables.length:Int):=by omega
     simp [h2,e2]
 ·
  have e1:(4096:Int)<(p.cells.length:Int):=by omega
  simp [h1,e1]
/-! reasons -/
def Lr (n:Nat) (k:Int):Bool:=decide (0≤k)&&decide (k<(n:Int))
def IL (p:A8) (x:Az):Bool:=Lr p.capacity.length x.leaf&&Lr p.cells.length x.cell
def pb (a b:Az):Bool:=decide (a.leaf<b.leaf)||(decide (a.leaf=b.leaf)&&decide (a.cell<b.cell))
def I3 (p:A8) (r:Ba):Bool:=(r.variables.all (Lr p.variables.length)&&JB (fun x y=>decide (x<y)) r.variables)&&(r.places.all (IL p)&&JB pb r.places)
theorem Wn (a b:Az):En a b=some (pb a b):=by
 unfold En pb
 by_cases h:a.leaf<b.leaf
 · simp [h]
 · by_cases h2:a.leaf=b.leaf<;> simp [h,h2]
def Ub (a b:Az):Int:=if MI a.leaf b.leaf≠0 then MI a.leaf b.leaf else MI a.cell b.cell
theorem RH (a b:Az):Dv a b=some (Ub a b):=by
 unfold Dv Ub
 simp only [RF,TT,Option.bind_some]
theorem S0 (a b:Az):decide (0≤Ub a b)=!(pb a b):=by
 unfold Ub pb MI
 by_cases h:a.leaf<b.leaf
 · simp [h]
 ·
  by_cases h2:b.leaf<a.leaf
  ·
   have:a.leaf≠b.leaf:=by omega
   simp [h,h2,this]
  ·
   have:a.leaf=b.leaf:=by omega
   simp only [this,Int.lt_irrefl,if_false,ne_eq,not_true_eq_false,decide_false,Bool.false_or,decide_true,Bool.true_and]
   by_cases h3:a.cell<b.cell
   · simp [h3]
   · simp only [h3,if_false,decide_false,Bool.not_false,decide_eq_true_eq];split<;> omega
theorem S1 (n:Nat) (k:Int):Lr n k=(!(decide (k<0))&&!(decide ((n:Int)≤k))):=by
 unfold Lr;by_cases a:k<0<;> by_cases b:(n:Int)≤k<;> simp [a,b]<;> omega
theorem Wo {p:A8} {r:Ba} (hp:C3 p) (hr:ME r):FK p r=some (bif FA p then (bif I3 p r then 0 else 320) else 270):=by
 unfold FK
 rw [PI hp]
 have pl:B0 (E2 p r) (((r.places.length:Int) - 0).toNat+1) 0=bif (r.places.all (IL p)&&JB pb r.places) then some 0 else some 320:=by
  refine NR (IL p) pb (some 320) (some 0) (EG hr.2) ?_ ?_ ?_ (by omega)
  · intro sf;unfold E2;simp only [Jd,cond_false]
  ·
   intro sf x h0 hx hw
   unfold E2
   have c1:((0:Int)≤0∧(0:Int)<(r.places.length:Int))=True:=by simp<;> omega
   have c2:decide ((0:Int)<(r.places.length:Int))=true:=by simp<;> omega
   have hk':r.places.getD (0:Int).toNat default=x:=AH hx
   simp only [hk',c1,c2,BI,cond_true,F9,hw,IL,S1,Int.lt_irrefl,decide_false,cond_false]
   cases decide (x.leaf<0)<;> cases decide ((p.capacity.length:Int)≤x.leaf)<;> cases decide (x.cell<0)<;> cases decide ((p.cells.length:Int)≤x.cell)<;> rfl
  ·
   intro sf j y x h0 hy hx hw hw2
   unfold E2
   have c3:decide ((0:Int)<((j+1:Nat):Int))=true:=by simp<;> omega
   simp only [Int.toNat_natCast,AH hx,AH hy,EY h0,Ey h0,Ey (show j<r.places.length by omega),c3,BI,cond_true,RH,S0,Option.bind_some,F9,hw,hw2,IL,S1]
   cases decide (x.leaf<0)<;> cases decide ((p.capacity.length:Int)≤x.leaf)<;> cases decide (x.cell<0)<;> cases decide ((p.cells.length:Int)≤x.cell)<;> cases pb y x<;> rfl
 have vs:B0 (E3 p r) (((r.variables.length:Int) - 0).toNat+1) 0=bif (r.variables.all (Lr p.variables.length)&&JB (fun x y=>decide (x<y)) r.variables) then (bif (r.places.all (IL p)&&JB pb r.places) then some 0 else some 320) else some 320:=by
  refine NR (Lr p.variables.length) (fun x y=>decide (x<y)) (some 320) _ (EG hr.1) ?_ ?_ ?_ (by omega)
  · intro sf;unfold E3;rw [pl];simp only [Jd,cond_false]
  ·
   intro sf x h0 hx hw
   unfold E3
   have c1:((0:Int)≤0∧(0:Int)<(r.variables.length:Int))=True:=by simp<;> omega
   have c2:decide ((0:Int)<(r.variables.length:Int))=true:=by simp<;> omega
   have hk':r.variables.getD (0:Int).toNat default=x:=AH hx
   simp only [hk',c1,c2,BI,cond_true,F9,hw,S1,Int.lt_irrefl,decide_false,cond_false]
   cases decide (x<0)<;> cases decide ((p.variables.length:Int)≤x)<;> rfl
  ·
   intro sf j y x h0 hy hx hw hw2
   unfold E3
   have c3:decide ((0:Int)<((j+1:Nat):Int))=true:=by simp<;> omega
   have c4:decide (x≤y)=!(decide (y<x)):=by by_cases h:y<x<;> simp [h]<;> omega
   simp only [Int.toNat_natCast,AH hx,AH hy,EY h0,Ey h0,Ey (show j<r.variables.length by omega),c3,c4,BI,cond_true,F9,hw,hw2,S1]
   cases decide (x<0)<;> cases decide ((p.variables.length:Int)≤x)<;> cases decide (y<x)<;> rfl
 rw [vs]
 unfold I3
 cases FA p
 · rfl
 ·
  simp only [cond_true,Option.bind_some]
  cases (r.variables.all (Lr p.variables.length)&&JB (fun x y=>decide (x<y)) r.variables)<;> cases (r.places.all (IL p)&&JB pb r.places)<;> rfl
end Go.Fx
namespace Go.Fx
open Go Go.RowKit Go.Proofs
end Go.Fx
namespace Go.Fx
open Go Go.RowKit
theorem Wq:FP=some true:=by decide+kernel
theorem Q0 (p:A8) (lim:Int) (h:p.variables.length≤999):∃v,DV p lim=some v:=by
 unfold DV
 obtain⟨fu,hfu⟩:∃n:Nat,n=1000000:=⟨_,rfl⟩
 rw [← hfu]
 have main:∀(fuel i:Nat) (n:Int),i≤p.variables.length→p.variables.length - i<fuel→∃v,BC (Ef p lim) fuel n (i:Int)=some v:=by
  intro fuel
  induction fuel with
  |zero=>intro i n _ h;omega
  |succ m ih=>
   intro i n h1 h2
   rw [Ds]
   unfold Ef
   by_cases h3:i<p.variables.length
   ·
    simp only [EY h3,Ey h3,cond_true,F9,BI]
    cases decide (n<lim)
    · exact⟨_,rfl⟩
    ·
     simp only [cond_true]
     rw [KJ (i:=i) (by omega)]
     exact ih (i+1) _ (by omega) (by omega)
   ·
    have:decide ((i:Int)<(p.variables.length:Int))=false:=by simpa using h3
    simp only [this,cond_false,F9];exact⟨_,rfl⟩
 exact main fu 0 1 (by omega) (by omega)
structure Dg (p:A8):Prop where
 cells:p.cells.length≤12
 caps:p.capacity.length≤4
 vars:p.variables.length≤6
 row:∀r∈p.capacity,r.length≤16
 var:∀v∈p.variables,v.leaves.length≤8∧v.choices.length≤8∧∀c∈v.choices,c.uses.length≤12
theorem Ws {p:A8} (hp:C3 p):∃b,ER p=some b∧(b=true→Dg p):=by
 obtain⟨s1,s2,s3⟩:=hp
 unfold ER
 simp only [F9]
 by_cases a1:(12:Int)<(p.cells.length:Int)
 · exact⟨false,by simp [a1],by simp⟩
 by_cases a2:(4:Int)<(p.capacity.length:Int)
 · exact⟨false,by simp [a1,a2],by simp⟩
 by_cases a3:(6:Int)<(p.variables.length:Int)
 · exact⟨false,by simp [a1,a2,a3],by simp⟩
 simp only [a1,a2,a3,decide_false,cond_false]
 obtain⟨mn,hmn⟩:=Q0 p 2000 (by omega)
 have ok:∀v:AM,Bool:=fun v=>!(decide ((8:Int)<(v.leaves.length:Int)))&&(!(decide ((8:Int)<(v.choices.length:Int)))&&v.choices.all fun c=>!(decide ((12:Int)<(c.uses.length:Int))))
 have vars:B0 (Dy p) (((p.variables.length:Int) - 0).toNat+1) 0=bif (p.variables.all fun v=>!(decide ((8:Int)<(v.leaves.length:Int)))&&(!(decide ((8:Int)<(v.choices.length:Int)))&&v.choices.all fun c=>!(decide ((12:Int)<(c.uses.length:Int))))) then some (decide (mn<2000)) else some false:=by
  refine Ik _ (some false) _ (EG s3) ?_ ?_ (by omega)
  · intro sf;unfold Dy;simp only [Jd,cond_false,hmn,Option.bind_some]
  ·
   intro sf i v h1 h2 h3
   unfold Dy
   have hv:=s3.2 v (LG h2)
   simp only [Int.toNat_natCast,AH h2,EY h1,Ey h1,BI,cond_true,F9]
   rw [Ik (B:=Dx p (i:Int) sf) (l:=v.choices) (fun c=>!(decide ((12:Int)<(c.uses.length:Int)))) (some false) (sf ((i:Int)+1)) (EG hv.2.2.2) ?_ ?_ (by omega)]
   · cases decide ((8:Int)<(v.leaves.length:Int))<;> cases decide ((8:Int)<(v.choices.length:Int))<;> rfl
   · intro sf';unfold Dx;simp only [Int.toNat_natCast,AH h2,Jd,cond_false,h3]
   ·
    intro sf' j c h4 h5 h6
    unfold Dx
    simp only [Int.toNat_natCast,AH h2,AH h5,EY h4,Ey h4,BI,cond_true,h6]
    cases decide ((12:Int)<(c.uses.length:Int))<;> rfl
 rw [Ik (B:=Dz p) (l:=p.capacity) (fun r=>!(decide ((16:Int)<(r.length:Int)))) (some false) (bif (p.variables.all fun v=>!(decide ((8:Int)<(v.leaves.length:Int)))&&(!(decide ((8:Int)<(v.choices.length:Int)))&&v.choices.all fun c=>!(decide ((12:Int)<(c.uses.length:Int))))) then some (decide (mn<2000)) else some false) (EG s2) ?_ ?_ (by omega)]
 ·
  cases hc:(p.capacity.all fun r=>!(decide ((16:Int)<(r.length:Int))))
  · exact⟨false,rfl,by simp⟩
  cases hv:(p.variables.all fun v=>!(decide ((8:Int)<(v.leaves.length:Int)))&&(!(decide ((8:Int)<(v.choices.length:Int)))&&v.choices.all fun c=>!(decide ((12:Int)<(c.uses.length:Int)))))
  · exact⟨false,rfl,by simp⟩
  refine⟨_,rfl,fun _=>⟨by omega,by omega,by omega,fun r hr=>?_,fun v hw=>?_⟩⟩
  ·
   have:=List.all_eq_true.1 hc r hr
   simp at this;omega
  ·
   have:=List.all_eq_true.1 hv v hw
   simp only [Bool.and_eq_true,Bool.not_eq_true',decide_eq_false_iff_not,List.all_eq_true] at this
   exact⟨by omega,by omega,fun c hc=>by have:=this.2.2 c hc;omega⟩
 · intro sf;unfold Dz;rw [vars];simp only [Jd,cond_false]
 ·
  intro sf i r h1 h2 h3
  unfold Dz
  simp only [Int.toNat_natCast,AH h2,EY h1,Ey h1,BI,cond_true,h3]
  cases decide ((16:Int)<(r.length:Int))<;> rfl
/-! Part -/
def Wt (p:A8) (rows:List (List Int)) (y:Az):List (List Int):=
 rows.set y.leaf.toNat ((rows.getD y.leaf.toNat default).set y.cell.toNat ((p.capacity.getD y.leaf.toNat default).getD y.cell.toNat default))
def VK (p:A8):List (List Int):=List.replicate p.capacity.length (List.replicate p.cells.length 4096)
def NS (p:A8) (r:Ba):A8:=⟨p.cells,r.places.foldl (Wt p) (VK p),r.variables.map fun i=>p.variables.getD i.toNat default⟩
def PJ (n m:Nat) (rows:List (List Int)):Prop:=rows.length=n∧∀r∈rows,r.length=m
theorem PJ.put {p:A8} {n m:Nat} {rows:List (List Int)} (h:PJ n m rows) (y:Az):PJ n m (Wt p rows y):=by
 unfold Wt
 refine⟨by rw [List.length_set];exact h.1,fun r hr=>?_⟩
 by_cases hl:y.leaf.toNat<rows.length
 ·
  rcases List.mem_or_eq_of_mem_set hr with h1 |h1
  · exact h.2 r h1
  · rw [h1,List.length_set,AH (List.getElem?_eq_getElem hl)];exact h.2 _ (List.getElem_mem hl)
 · rw [List.set_eq_of_length_le (by omega)] at hr;exact h.2 r hr
theorem PJ.blank (p:A8):PJ p.capacity.length p.cells.length (VK p):=by
 refine⟨by simp [Fx.VK],fun r hr=>?_⟩
 rw [Fx.VK] at hr;rw [List.eq_of_mem_replicate hr];simp
theorem OY {n:Nat} {k:Int} :Lr n k=true ↔ 0≤k∧k<(n:Int):=by simp [Lr]
theorem RI {p:A8} {r:Ba} (h:I3 p r=true):(∀i∈r.variables,0≤i∧i<(p.variables.length:Int))∧JB (fun x y=>decide (x<y)) r.variables=true∧
  (∀x∈r.places,(0≤x.leaf∧x.leaf<(p.capacity.length:Int))∧0≤x.cell∧x.cell<(p.cells.length:Int))∧JB pb r.places=true:=by
 unfold I3 at h
 simp only [Bool.and_eq_true,List.all_eq_true,IL,OY] at h
 exact⟨h.1.1,h.1.2,h.2.1,h.2.2⟩
section
variable {R α σ : Type}
theorem Me [DecidableEq R] {b:(σ→Option R)→α→σ→Option R} {k:σ→Option R} (J:List α→σ→Prop) (R0:Option R) (hz:∀s,J [] s→k s=R0)
  (hs:∀r1 r2 p s sf,J (r1++p::r2) s→(∀s',J (r1++r2) s'→sf s'=R0)→b sf p s=R0):∀xs s,J xs s→NF b k xs s=R0:=by
 intro xs
 generalize hn:xs.length=n
 induction n generalizing xs with
 |zero=>intro s h;obtain rfl:=List.length_eq_zero_iff.1 hn;exact hz s h
 |succ n ih=>
  intro s h
  have key:∀u∈(IV xs).map (fun p=>b (JJ b k n p.2) p.1 s),u=R0:=by
   intro u hu
   obtain⟨p,hp,rfl⟩:=List.mem_map.1 hu
   obtain⟨r1,r2,e1,e2⟩:=JI.1 hp
   have hl:p.2.length=n:=by have:=M7 hp;omega
   rw [e1] at h
   refine hs r1 r2 p.1 s _ h fun s' h'=>?_
   rw [← e2] at h'
   have:=ih p.2 hl s' h'
   unfold NF at this;rw [hl] at this;exact this
  have hne:(IV xs).map (fun p=>b (JJ b k n p.2) p.1 s)≠[]:=by
   intro e2
   have e2:IV xs=[]:=List.map_eq_nil_iff.1 e2
   cases xs with
   |nil=>cases hn
   |cons x t=>simp [IV] at e2
  unfold NF
  rw [hn]
  show Kd ((IV xs).map fun p=>b (JJ b k n p.2) p.1 s)=_
  cases e:R0 with
  |some a=>rw [e] at key;exact Iw.2 ⟨hne,key⟩
  |none=>
   rw [e] at key
   cases e2:Kd ((IV xs).map fun p=>b (JJ b k n p.2) p.1 s) with
   |none=>rfl
   |some a=>
    have:=Iw.1 e2
    cases hL:(IV xs).map fun p=>b (JJ b k n p.2) p.1 s with
    |nil=>exact absurd hL this.1
    |cons u t=>
     have h1:=this.2 u (by rw [hL];simp)
     have h2:=key u (by rw [hL];simp)
     rw [h1] at h2;cases h2
end
abbrev PM:=List (Az × Int)
def vl (d:PM) (x:Az):Int:=(Bu d x).getD 0
theorem Wu (d:PM) (x y:Az) (n:Int):vl (Dp d x n) y=if x=y then n else vl d y:=by
 unfold vl;rw [G7];split<;> rfl
section
variable (cap : Az → Int)
def Hw (d:PM):List (Az × Bool):=(d.filter fun q=>decide (cap q.1<q.2)).map fun q=>(q.1,true)
theorem GZ {d:PM} (h:Hh d):Hh (Hw cap d):=by
 unfold Hw Hh
 rw [List.pairwise_map]
 exact List.Pairwise.filter _ h
theorem Ha (hc:∀x,0≤cap x) {d:PM} (h:Hh d) (x:Az):Bu (Hw cap d) x=if cap x<vl d x then some true else none:=by
 have hr:=GZ cap h
 by_cases hx:cap x<vl d x
 ·
  rw [if_pos hx]
  cases hg:Bu d x with
  |none=>have h0:=hc x;unfold vl at hx;rw [hg] at hx;simp at hx;omega
  |some n=>
   have hm:=FI hg
   have hv:vl d x=n:=by unfold vl;rw [hg];rfl
   refine Jo hr (List.mem_map.2 ⟨(x,n),List.mem_filter.2 ⟨hm,?_⟩,rfl⟩)
   rw [hv] at hx;simpa using hx
 ·
  rw [if_neg hx]
  cases hg:Bu (Hw cap d) x with
  |none=>rfl
  |some b=>
   obtain⟨q,hq,he⟩:=List.mem_map.1 (FI hg)
   obtain⟨hq1,hq2⟩:=List.mem_filter.1 hq
   obtain⟨e1,e2⟩:=Prod.mk.inj he
   have:Bu d x=some q.2:=by rw [← e1];exact Jo h (by simpa using hq1)
   have hv:vl d x=q.2:=by unfold vl;rw [this];rfl
   rw [← e1] at hx hv
   have:=of_decide_eq_true hq2
   omega
theorem Q1 (hc:∀x,0≤cap x) {d e:PM} (hd:Hh d) (he:Hh e) (h:∀x,vl d x=vl e x):Hw cap d=Hw cap e:=
 HM (GZ cap hd) (GZ cap he) fun x=>by rw [Ha cap hc hd,Ha cap hc he,h x]
end
def Nv (m:PM) (d:PM):PM:=m.foldl (fun e q=>Dp e q.1 (vl d q.1+q.2)) d
def PK (m:PM) (d:PM):PM:=m.foldl (fun e q=>Dp e q.1 (vl d q.1 - q.2)) d
theorem Mf (f:Az→Int→Int):∀(m:PM) (e:PM),Hh e→(m.Pairwise fun a b=>a.1≠b.1)→
  Hh (m.foldl (fun e q=>Dp e q.1 (f q.1 q.2)) e)∧∀x,Bu (m.foldl (fun e q=>Dp e q.1 (f q.1 q.2)) e) x=match Bu m x with |some n=>some (f x n) |none=>Bu e x:=by
 intro m
 induction m with
 |nil=>intro e he _;exact⟨he,fun x=>rfl⟩
 |cons q t ih=>
  intro e he hp
  rw [List.pairwise_cons] at hp
  obtain⟨h1,h2⟩:=ih (Dp e q.1 (f q.1 q.2)) (H4 he _ _) hp.2
  refine⟨h1,fun x=>?_⟩
  rw [List.foldl_cons,h2 x]
  obtain⟨k,n⟩:=q
  simp only [Bu]
  by_cases hk:k=x
  ·
   subst hk
   have:Bu t k=none:=by
    cases hg:Bu t k with
    |none=>rfl
    |some v=>exact absurd rfl (hp.1 (k,v) (FI hg))
   rw [this,if_pos rfl,G7,if_pos rfl]
  ·
   rw [if_neg hk]
   cases Bu t x with
   |some v=>rfl
   |none=>simp only [G7,if_neg hk]
theorem MJ {V:Type} {m:List (Az × V)} (h:Hh m):m.Pairwise fun a b=>a.1≠b.1:=
 h.imp fun {a b} hab e=>by rw [e] at hab;have:=Qj hab;rw [hab] at this;cases this
theorem Mg {m d:PM} (hm:Hh m) (hd:Hh d):Hh (Nv m d):=(Mf (fun x n=>vl d x+n) m d hd (MJ hm)).1
theorem NT {m d:PM} (hm:Hh m) (hd:Hh d):Hh (PK m d):=(Mf (fun x n=>vl d x - n) m d hd (MJ hm)).1
theorem Q2 {m d:PM} (hm:Hh m) (hd:Hh d) (x:Az):Bu (Nv m d) x=match Bu m x with |some n=>some (vl d x+n) |none=>Bu d x:=(Mf (fun x n=>vl d x+n) m d hd (MJ hm)).2 x
theorem Q3 {m d:PM} (hm:Hh m) (hd:Hh d) (x:Az):Bu (PK m d) x=match Bu m x with |some n=>some (vl d x - n) |none=>Bu d x:=(Mf (fun x n=>vl d x - n) m d hd (MJ hm)).2 x
theorem PL {m d:PM} (hm:Hh m) (hd:Hh d) (x:Az):vl (Nv m d) x=vl d x+vl m x:=by
 unfold vl;rw [Q2 hm hd];cases Bu m x<;> simp [vl]
theorem UV {m d:PM} (hm:Hh m) (hd:Hh d) (x:Az):vl (PK m d) x=vl d x - vl m x:=by
 unfold vl;rw [Q3 hm hd];cases Bu m x<;> simp [vl]
def Ez {α:Type} :List (List α)→List (List α)
 |[] =>[[]]
 |ms::t=>ms.flatMap fun m=>(Ez t).map (m::·)
def Kl {β σ:Type} (D:β→σ→Option (Bool × σ)):List β→σ→Option (Bool × σ)
 |[],s=>some (true,s)
 |b::t,s=>(D b s).bind fun r=>bif r.1 then Kl D t r.2 else some (false,r.2)
theorem Nh {β σ:Type} (D:β→σ→Option (Bool × σ)):∀(l m:List β) (s:σ),Kl D (l++m) s=(Kl D l s).bind fun r=>bif r.1 then Kl D m r.2 else some (false,r.2)
 |[],m,s=>rfl
 |b::t,m,s=>by
  simp only [List.cons_append,Kl]
  cases D b s with
  |none=>rfl
  |some r=>
   simp only [Option.bind_some]
   cases h:r.1
   · simp
   · simp only [cond_true];exact Nh D t m r.2
def HU (t:D7) (x:Az):Int:=(t.p.capacity.getD x.leaf.toNat default).getD x.cell.toNat default
structure NU (t:D7) (m:PM):Prop where
 ris:Hh m
 pl:∀q∈m,((0:Int)≤q.1.leaf∧q.1.leaf<(t.p.capacity.length:Int))∧((0:Int)≤q.1.cell∧q.1.cell<((t.p.capacity.getD q.1.leaf.toNat default).length:Int))
 sm:∀q∈m,0≤q.2∧q.2≤8
theorem NU.vl {t:D7} {m:PM} (h:NU t m) (x:Az):0≤vl m x∧vl m x≤8:=by
 unfold Fx.vl
 cases hg:Bu m x with
 |none=>simp
 |some n=>exact h.sm _ (FI hg)
def J1 (f:Az→Int→Int) (cap:Az→Int) (m d:PM) (rest:PM) (s:List (Az × Bool) × PM):Prop:=
 Hh s.2∧s.1=Hw cap s.2∧(rest.Pairwise fun a b=>a.1≠b.1)∧(∀q∈rest,q∈m)∧
 ∀x,Bu s.2 x=match Bu m x with |some n=>if x∈rest.map (·.1) then Bu d x else some (f x n) |none=>Bu d x
theorem J1.next {f:Az→Int→Int} {cap:Az→Int} {m d r1 r2:PM} {p:Az × Int} {s:List (Az × Bool) × PM} (hm:Hh m) (h:J1 f cap m d (r1++p::r2) s) {e:PM} {b:List (Az × Bool)}
  (he:Hh e) (hb:b=Hw cap e) (hg:∀y,Bu e y=if p.1=y then some (f p.1 p.2) else Bu s.2 y):J1 f cap m d (r1++r2) (b,e):=by
 obtain⟨h1,h2,h3,h4,h5⟩:=h
 have hsub:(r1++r2).Sublist (r1++p::r2):=List.Sublist.append (List.Sublist.refl _) (List.sublist_cons_self _ _)
 refine⟨he,hb,h3.sublist hsub,fun q hq=>h4 q (hsub.subset hq),fun x=>?_⟩
 have hp:Bu m p.1=some p.2:=Jo hm (h4 p (by simp))
 have hnot:p.1 ∉ (r1++r2).map (·.1):=by
  intro hc
  obtain⟨q,hq,e⟩:=List.mem_map.1 hc
  rw [List.pairwise_append] at h3
  rcases List.mem_append.1 hq with hq |hq
  · exact h3.2.2 q hq p (List.mem_cons_self ..) e
  · exact(List.pairwise_cons.1 h3.2.1).1 q hq e.symm
 show Bu e x=_
 rw [hg x]
 by_cases hx:p.1=x
 ·
  subst hx
  rw [if_pos rfl,hp];simp only [hnot,if_false]
 ·
  rw [if_neg hx,h5 x]
  have:x∈(r1++p::r2).map (·.1) ↔ x∈(r1++r2).map (·.1):=by
   simp only [List.map_append,List.map_cons,List.mem_append,List.mem_cons]
   constructor
   ·
    rintro(h |h |h)
    · exact .inl h
    · exact absurd h.symm hx
    · exact .inr h
   ·
    rintro(h |h)
    · exact .inl h
    · exact .inr (.inr h)
  simp only [this]
theorem J1.at {f:Az→Int→Int} {cap:Az→Int} {m d r1 r2:PM} {p:Az × Int} {s:List (Az × Bool) × PM} (hm:Hh m) (h:J1 f cap m d (r1++p::r2) s):vl s.2 p.1=vl d p.1:=by
 obtain⟨h1,h2,h3,h4,h5⟩:=h
 have hp:Bu m p.1=some p.2:=Jo hm (h4 p (by simp))
 have hmem:p.1∈(r1++p::r2).map (·.1):=by simp
 unfold vl
 rw [h5 p.1,hp];simp only [hmem,if_true]
section
variable {σ : Type} [DecidableEq σ] {t : D7} (hc : ∀ x, 0 ≤ HU t x)
include hc
theorem Wv {K:List (Az × Bool)→PM→Option (Bool × List (Az × Bool) × PM × σ)} {m d:PM} (hm:NU t m) (hd:Hh d) (hb:∀x,0≤vl d x∧vl d x≤1000000):
  Jq (DA t) K m (Hw (HU t) d) d=K (Hw (HU t) (Nv m d)) (Nv m d):=by
 unfold Jq
 refine Me (J1 (fun x n=>vl d x+n) (HU t) m d) _ ?_ ?_ m (Hw (HU t) d,d) ⟨hd,rfl,MJ hm.ris,fun q hq=>hq,fun x=>?_⟩
 ·
  rintro⟨b,e⟩ ⟨h1,h2,_,_,h5⟩
  have:e=Nv m d:=HM h1 (Mg hm.ris hd) fun x=>by
   rw [Q2 hm.ris hd];have h:=h5 x;cases hg:Bu m x with
   |none=>rw [hg] at h;exact h
   |some n=>rw [hg] at h;simpa using h
  simp only at h2
  rw [h2,this]
 ·
  rintro r1 r2 ⟨x0,n0⟩ ⟨b,e⟩ sf h ih
  have hv:vl e x0=vl d x0:=h.at hm.ris
  have hmem:(x0,n0)∈m:=h.2.2.2.1 _ (by simp)
  have hpl:=hm.pl _ hmem
  have hsm:=hm.sm _ hmem
  have hbd:=hb x0
  unfold DA
  have hv':(Bu e x0).getD 0=vl d x0:=hv
  have hw:IntKind.wrap .i64 (vl d x0+n0)=vl d x0+n0:=Eb (by simp only at hsm;omega) (by simp only at hsm;omega)
  simp only [hv',hw]
  rw [BF hpl.1,BF hpl.2]
  generalize hE:Dp (Dp e x0 (vl d x0)) x0 (vl d x0+n0)=E
  have hER:Hh E:=by rw [← hE];exact H4 (H4 h.1 _ _) _ _
  have hEg:∀y,Bu E y=if x0=y then some (vl d x0+n0) else Bu e y:=by
   intro y;rw [← hE,G7];split
   · rfl
   · rw [G7,if_neg ‹_›]
  have hEv:(Bu E x0).getD 0=vl d x0+n0:=by rw [hEg,if_pos rfl];rfl
  have hEv2:vl E x0=vl d x0+n0:=hEv
  rw [hEv]
  have hb0:b=Hw (HU t) e:=h.2.1
  cases hcp:decide ((t.p.capacity.getD x0.leaf.toNat default).getD x0.cell.toNat default<vl d x0+n0)
  ·
   rw [cond_false]
   have hcp: ¬(HU t x0<vl d x0+n0):=of_decide_eq_false hcp
   refine ih (b,E) (h.next hm.ris hER ?_ hEg)
   rw [hb0]
   refine HM (GZ _ h.1) (GZ _ hER) fun y=>?_
   rw [Ha _ hc h.1,Ha _ hc hER]
   by_cases hy:x0=y
   ·
    subst hy
    simp only at hsm
    rw [hEv2,if_neg hcp,if_neg (by rw [hv];omega)]
   ·
    have:vl E y=vl e y:=by unfold vl;rw [hEg,if_neg hy]
    rw [this]
  ·
   rw [cond_true]
   have hcp:HU t x0<vl d x0+n0:=of_decide_eq_true hcp
   refine ih (Dp b x0 true,E) (h.next hm.ris hER ?_ hEg)
   rw [hb0]
   refine HM (H4 (GZ _ h.1) _ _) (GZ _ hER) fun y=>?_
   rw [G7,Ha _ hc h.1,Ha _ hc hER]
   by_cases hy:x0=y
   ·
    subst hy
    rw [hEv2,if_pos rfl,if_pos hcp]
   ·
    have:vl E y=vl e y:=by unfold vl;rw [hEg,if_neg hy]
    rw [this,if_neg hy]
 ·
  show Bu d x=_
  cases hg:Bu m x with
  |none=>rfl
  |some n=>
   have:x∈m.map (·.1):=List.mem_map.2 ⟨(x,n),FI hg,rfl⟩
   simp only [this,if_true]
theorem Ww {K:List (Az × Bool)→PM→Option (Bool × List (Az × Bool) × PM × σ)} {m d:PM} (hm:NU t m) (hd:Hh d) (hb:∀x,0≤vl d x∧vl d x≤1000008):
  Jq (D9 t) K m (Hw (HU t) d) d=K (Hw (HU t) (PK m d)) (PK m d):=by
 unfold Jq
 refine Me (J1 (fun x n=>vl d x - n) (HU t) m d) _ ?_ ?_ m (Hw (HU t) d,d) ⟨hd,rfl,MJ hm.ris,fun q hq=>hq,fun x=>?_⟩
 ·
  rintro⟨b,e⟩ ⟨h1,h2,_,_,h5⟩
  have:e=PK m d:=HM h1 (NT hm.ris hd) fun x=>by
   rw [Q3 hm.ris hd];have h:=h5 x;cases hg:Bu m x with
   |none=>rw [hg] at h;exact h
   |some n=>rw [hg] at h;simpa using h
  simp only at h2
  rw [h2,this]
 ·
  rintro r1 r2 ⟨x0,n0⟩ ⟨b,e⟩ sf h ih
  have hv:vl e x0=vl d x0:=h.at hm.ris
  have hmem:(x0,n0)∈m:=h.2.2.2.1 _ (by simp)
  have hpl:=hm.pl _ hmem
  have hsm:=hm.sm _ hmem
  have hbd:=hb x0
  unfold D9
  have hv':(Bu e x0).getD 0=vl d x0:=hv
  have hw:IntKind.wrap .i64 (vl d x0 - n0)=vl d x0 - n0:=Eb (by simp only at hsm;omega) (by simp only at hsm;omega)
  simp only [hv',hw]
  rw [BF hpl.1,BF hpl.2]
  generalize hE:Dp (Dp e x0 (vl d x0)) x0 (vl d x0 - n0)=E
  have hER:Hh E:=by rw [← hE];exact H4 (H4 h.1 _ _) _ _
  have hEg:∀y,Bu E y=if x0=y then some (vl d x0 - n0) else Bu e y:=by
   intro y;rw [← hE,G7];split
   · rfl
   · rw [G7,if_neg ‹_›]
  have hEv:(Bu E x0).getD 0=vl d x0 - n0:=by rw [hEg,if_pos rfl];rfl
  have hEv2:vl E x0=vl d x0 - n0:=hEv
  rw [hEv]
  have hb0:b=Hw (HU t) e:=h.2.1
  cases hcp:decide (vl d x0 - n0≤(t.p.capacity.getD x0.leaf.toNat default).getD x0.cell.toNat default)
  ·
   rw [cond_false]
   have hcp: ¬(vl d x0 - n0≤HU t x0):=of_decide_eq_false hcp
   refine ih (b,E) (h.next hm.ris hER ?_ hEg)
   rw [hb0]
   refine HM (GZ _ h.1) (GZ _ hER) fun y=>?_
   rw [Ha _ hc h.1,Ha _ hc hER]
   by_cases hy:x0=y
   ·
    subst hy
    simp only at hsm
    rw [hEv2,hv,if_pos (show HU t x0<vl d x0 by omega),if_pos (show HU t x0<vl d x0 - n0 by omega)]
   ·
    have:vl E y=vl e y:=by unfold vl;rw [hEg,if_neg hy]
    rw [this]
  ·
   rw [cond_true]
   have hcp:vl d x0 - n0≤HU t x0:=of_decide_eq_true hcp
   refine ih (Nt b x0,E) (h.next hm.ris hER ?_ hEg)
   rw [hb0]
   refine HM (NC (GZ _ h.1) _) (GZ _ hER) fun y=>?_
   rw [Tz,Ha _ hc h.1,Ha _ hc hER]
   by_cases hy:x0=y
   ·
    subst hy
    rw [hEv2,if_pos rfl,if_neg (by omega)]
   ·
    have:vl E y=vl e y:=by unfold vl;rw [hEg,if_neg hy]
    rw [this,if_neg hy]
 ·
  show Bu d x=_
  cases hg:Bu m x with
  |none=>rfl
  |some n=>
   have:x∈m.map (·.1):=List.mem_map.2 ⟨(x,n),FI hg,rfl⟩
   simp only [this,if_true]
end
def O5 (w:List PM) (x:Az):Int:=(w.map fun m=>vl m x).sum
theorem OZ (m:PM) (w:List PM) (x:Az):O5 (m::w) x=vl m x+O5 w x:=by simp [O5]
section
variable {σ : Type} [DecidableEq σ] {t : D7} (hc : ∀ x, 0 ≤ HU t x)
abbrev UW (t:D7) (D:List (Az × Bool)→σ→Option (Bool × σ)):(List Int→List (Az × Bool)→PM→σ→Option (Bool × List (Az × Bool) × PM × σ))→List Int→List (Az × Bool)→PM→σ→Option (Bool × List (Az × Bool) × PM × σ):=
 fun fx63 x64 d65 d66 s67=>BU x64 D d65 t d66 fx63 s67
include hc
theorem brk (D:List (Az × Bool)→σ→Option (Bool × σ)) (hu:∀ms∈t.uses,ms.length<9223372036854775807∧∀m∈ms,NU t m):
  ∀(l:List Int) (fuel:Nat) (M:Int) (d:PM) (s0:σ) (g:List PM→List (Az × Bool)),l.length<fuel→l.length<9223372036854775807→(∀v∈l,0≤v∧v<(t.uses.length:Int))→Hh d→(∀x,0≤vl d x∧vl d x≤M)→M+8*(l.length:Int)≤1000000→
   (∀w∈Ez (l.map fun v=>t.uses.getD v.toNat default),∀e,Hh e→(∀x,vl e x=vl d x+O5 w x)→g w=Hw (HU t) e)→
   ∀r s',Kl D ((Ez (l.map fun v=>t.uses.getD v.toNat default)).map g) s0=some (r,s')→
    ∃d',Qr (UW t D) fuel l (Hw (HU t) d) d s0=some (r,Hw (HU t) d',d',s')∧Hh d'∧∀x,vl d' x=vl d x:=by
 intro l
 induction l with
 |nil=>
  intro fuel M d s0 g hf _ _ hd _ _ hg r s' hr
  obtain⟨n,rfl⟩:∃n,fuel=n+1:=⟨fuel - 1,by simp at hf;omega⟩
  refine⟨d,?_,hd,fun x=>rfl⟩
  have e:g [] =Hw (HU t) d:=hg [] (by simp [Ez]) d hd (fun x=>by simp [O5])
  simp only [List.map_nil,Ez,List.map_cons,Kl,e] at hr
  show BU [] D (Hw (HU t) d) t d _ s0=_
  unfold BU
  simp only [List.length_nil,Int.natCast_zero,decide_true,cond_true]
  cases hD:D (Hw (HU t) d) s0 with
  |none=>rw [hD] at hr;cases hr
  |some q=>
   rw [hD] at hr
   simp only [Option.bind_some] at hr ⊢
   obtain⟨a,b⟩:=q
   cases a
   · simp only [cond_false,Option.some.injEq,Prod.mk.injEq] at hr;obtain⟨rfl,rfl⟩:=hr;rfl
   · simp only [cond_true,Option.some.injEq,Prod.mk.injEq] at hr;obtain⟨rfl,rfl⟩:=hr;rfl
 |cons v l ih=>
  intro fuel M d s0 g hf hl64 hv hd hb hM hg r s' hr
  obtain⟨n,rfl⟩:∃n,fuel=n+1:=⟨fuel - 1,by simp at hf;omega⟩
  have hv0:=hv v (List.mem_cons_self ..)
  have hlt:v.toNat<t.uses.length:=by omega
  obtain⟨hmsl,hms⟩:=hu _ (List.getElem_mem hlt)
  have hget:t.uses.getD v.toNat default=t.uses[v.toNat]:=AH (List.getElem?_eq_getElem hlt)
  show ∃d',BU (v::l) D (Hw (HU t) d) t d (Qr (UW t D) n) s0=_∧_
  unfold BU
  have c0:decide (((v::l).length:Int)=0)=false:=by simp<;> omega
  rw [c0,cond_false]
  rw [BF (by simp<;> omega),BF (by simpa using hv0)]
  simp only [List.getD_cons_zero,hget]
  generalize hms0:t.uses[v.toNat] =ms at*
  simp only [List.map_cons,hget,Ez] at hr hg
  have hMl:M+8+8*(l.length:Int)≤1000000:=by simp at hM;omega
  have loop:∀(rest:List PM) (i fl:Nat) (e:PM) (s:σ),ms.drop i=rest→i≤ms.length→rest.length<fl→Hh e→(∀x,vl e x=vl d x)→
    Kl D ((rest.flatMap fun m=>(Ez (l.map fun v=>t.uses.getD v.toNat default)).map (m::·)).map g) s=some (r,s')→
    ∃d',KA (CX (v::l) t (Qr (UW t D) n)) fl (i:Int) (Hw (HU t) e) e s=some (r,Hw (HU t) d',d',s')∧Hh d'∧∀x,vl d' x=vl d x:=by
   intro rest
   induction rest with
   |nil=>
    intro i fl e s hdr hi hfl he hev hrun
    obtain⟨k,rfl⟩:∃k,fl=k+1:=⟨fl - 1,by simp at hfl;omega⟩
    have hil:i=ms.length:=by have:=congrArg List.length hdr;simp at this;omega
    simp only [List.flatMap_nil,List.map_nil,Kl,Option.some.injEq,Prod.mk.injEq] at hrun
    obtain⟨rfl,rfl⟩:=hrun
    refine⟨e,?_,he,hev⟩
    rw [Lz,CX]
    simp only [List.getD_cons_zero,hget,hms0,hil,Jd,cond_false]
   |cons m rest ihr=>
    intro i fl e s hdr hi hfl he hev hrun
    obtain⟨k,rfl⟩:∃k,fl=k+1:=⟨fl - 1,by simp at hfl;omega⟩
    have hil:i<ms.length:=by have:=congrArg List.length hdr;simp at this;omega
    have hmi:ms[i]?=some m:=by rw [← List.head?_drop,hdr];rfl
    have hdr2:ms.drop (i+1)=rest:=by rw [← List.drop_drop,hdr];rfl
    have hmm:m∈ms:=LG hmi
    have hgm:=hms m hmm
    rw [List.flatMap_cons,List.map_append,Nh] at hrun
    rw [Lz,CX]
    simp only [List.getD_cons_zero,hget,hms0,EY hil,Ey hil,BI,cond_true,Int.toNat_natCast,AH hmi]
    rw [Wv hc hgm he (fun x=>by rw [hev];have:=hb x;omega)]
    rw [E6,BF (by simp<;> omega)]
    simp only [List.getD_cons_zero,hget,hms0,Int.toNat_natCast,AH hmi]
    rw [show((v::l).drop 1).take ((v::l).length - 1)=l by simp]
    cases hq:Kl D (((Ez (l.map fun v=>t.uses.getD v.toNat default)).map (m::·)).map g) s with
    |none=>rw [hq] at hrun;cases hrun
    |some q=>
     obtain⟨r1,s1⟩:=q
     rw [hq] at hrun
     have hadd:=fun x=>PL hgm.ris he x
     obtain⟨d2,e1,e2,e3⟩:=ih n (M+8) (Nv m e) s (fun w=>g (m::w)) (by simp at hf;omega) (by simp at hl64;omega) (fun u hu=>hv u (List.mem_cons_of_mem _ hu)) (Mg hgm.ris he)
      (fun x=>by rw [hadd,hev];have:=hb x;have:=hgm.vl x;omega) (by omega)
      (fun w hw f hf1 hf2=>hg (m::w) (List.mem_flatMap.2 ⟨m,hmm,List.mem_map.2 ⟨w,hw,rfl⟩⟩) f hf1 fun x=>by rw [hf2,hadd,hev,OZ];omega) r1 s1 (by rw [← hq,List.map_map];rfl)
     rw [e1,Option.bind_some]
     simp only
     rw [Ww hc hgm e2 (fun x=>by rw [e3,hadd,hev];have:=hb x;have:=hgm.vl x;omega)]
     have hsub:∀x,vl (PK m d2) x=vl d x:=fun x=>by rw [UV hgm.ris e2,e3,hadd,hev];omega
     rw [E5]
     simp only [Option.bind_some] at hrun
     cases r1
     ·
      simp only [cond_false,Option.some.injEq,Prod.mk.injEq] at hrun
      obtain⟨rfl,rfl⟩:=hrun
      exact⟨PK m d2,rfl,NT hgm.ris e2,hsub⟩
     ·
      simp only [cond_true] at hrun
      simp only [Bool.not_true,cond_false]
      rw [KJ (by omega)]
      exact ihr (i+1) k (PK m d2) s1 hdr2 (by omega) (by simp at hfl;omega) (NT hgm.ris e2) hsub hrun
  have hfin:=loop ms 0 (((ms.length:Int) - 0).toNat+1) d s0 rfl (by omega) (by omega) hd (fun x=>rfl) hr
  exact hfin
theorem Wx (D:List (Az × Bool)→σ→Option (Bool × σ)) (hu:∀ms∈t.uses,ms.length<9223372036854775807∧∀m∈ms,NU t m) {l:List Int} (hl:l.length≤20) (hv:∀v∈l,0≤v∧v<(t.uses.length:Int)) {g:List PM→List (Az × Bool)}
  (hg:∀w∈Ez (l.map fun v=>t.uses.getD v.toNat default),∀e,Hh e→(∀x,vl e x=O5 w x)→g w=Hw (HU t) e) {s0 s':σ} {r:Bool}
  (hr:Kl D ((Ez (l.map fun v=>t.uses.getD v.toNat default)).map g) s0=some (r,s')):Dh t l D s0=some s':=by
 obtain⟨fu,hfu⟩:∃n:Nat,n=1000000:=⟨_,rfl⟩
 unfold Dh
 rw [← hfu]
 obtain⟨d',h1,h2,h3⟩:=brk hc D hu l fu 0 [] s0 g (by omega) (by omega) hv List.Pairwise.nil (fun x=>by simp [vl,Bu]) (by omega) (fun w hw e he hx=>hg w hw e he fun x=>by rw [hx];simp [vl,Bu]) r s' hr
 have e:Hw (HU t) [] =[]:=rfl
 rw [e] at h1
 show(Qr (UW t D) fu l [] [] s0).bind _=_
 rw [h1];rfl
end
theorem IM {α:Type} {lt:α→α→Bool} (ht:∀a b c,lt a b=true→lt b c=true→lt a c=true):∀{l:List α},JB lt l=true→l.Pairwise fun a b=>lt a b=true
 |[],_=>List.Pairwise.nil
 |[a],_=>List.pairwise_singleton ..
 |a::b::l,h=>by
  simp only [JB,Bool.and_eq_true] at h
  have ih:=IM ht h.2
  refine List.pairwise_cons.2 ⟨fun x hx=>?_,ih⟩
  rcases List.mem_cons.1 hx with rfl |hx
  · exact h.1
  · exact ht _ _ _ h.1 ((List.pairwise_cons.1 ih).1 x hx)
theorem Wy (a b:AK):cb a b=true ↔ (a.airport=b.airport∧(a.index<b.index∨(a.index=b.index∧a.minute<b.minute)))∨(a.airport=false∧b.airport=true):=by
 unfold cb
 by_cases e1:a.airport=b.airport
 ·
  rw [if_pos e1]
  by_cases f1:a.index=b.index
  ·
   rw [if_pos f1];simp only [decide_eq_true_eq,e1,f1,true_and,Int.lt_irrefl,false_or]
   constructor
   · exact fun h=>.inl h
   ·
    rintro(h |h)
    · exact h
    · rw [h.1] at h;cases h.2
  ·
   rw [if_neg f1];simp only [decide_eq_true_eq,e1,f1,true_and,false_and,or_false]
   constructor
   · exact fun h=>.inl h
   ·
    rintro(h |h)
    · exact h
    · rw [h.1] at h;cases h.2
 ·
  rw [if_neg e1];simp only [e1,false_and,false_or]
  cases ha:a.airport<;> cases hb:b.airport<;> simp_all
theorem Q4 (a b c:AK) (h1:cb a b=true) (h2:cb b c=true):cb a c=true:=by
 rw [Wy] at*
 rcases h1 with ⟨e1,h1⟩ |⟨e1,h1⟩<;> rcases h2 with ⟨e2,h2⟩ |⟨e2,h2⟩
 · exact .inl ⟨e1.trans e2,by omega⟩
 · exact .inr ⟨e1.trans e2,h2⟩
 · exact .inr ⟨e1,e2 ▸ h1⟩
 · rw [h1] at e2;cases e2
theorem SX (a:AK):cb a a=false:=by unfold cb;simp
theorem VL {a b:AK} (h:cb a b=true):a≠b:=fun e=>by rw [e,SX] at h;cases h
def ix (cells:List AK) (c:AK):Int:=match cells.findIdx? (fun x=>decide (x=c)) with |none=>(-1:Int) |some k=>(k:Int)
theorem Km {cells:List AK} {c:AK} (h:c∈cells):∃k:Nat,ix cells c=(k:Int)∧cells[k]?=some c:=by
 unfold ix
 cases hf:cells.findIdx? (fun x=>decide (x=c)) with
 |none=>
  rw [List.findIdx?_eq_none_iff] at hf
  have:=hf c h;simp at this
 |some k=>
  obtain⟨hk,h1,_⟩:=List.findIdx?_eq_some_iff_getElem.1 hf
  exact⟨k,rfl,by rw [List.getElem?_eq_getElem hk];simpa using h1⟩
theorem Uc {cells:List AK} {c d:AK} (hc:c∈cells) (hd:d∈cells) (h:ix cells c=ix cells d):c=d:=by
 obtain⟨k,e1,e2⟩:=Km hc
 obtain⟨j,e3,e4⟩:=Km hd
 have:k=j:=by omega
 subst this
 rw [e2] at e4;exact Option.some.inj e4
theorem Q5 {cells:List AK} (hn:cells.Nodup) {k:Nat} {c:AK} (h:cells[k]?=some c):ix cells c=(k:Int):=by
 obtain⟨j,e1,e2⟩:=Km (LG h)
 rw [e1]
 have h1:k<cells.length:=(List.getElem?_eq_some_iff.1 h).1
 have h2:j<cells.length:=(List.getElem?_eq_some_iff.1 e2).1
 have h3:cells[k] =c:=(List.getElem?_eq_some_iff.1 h).2
 have h4:cells[j] =c:=(List.getElem?_eq_some_iff.1 e2).2
 have hp:=List.pairwise_iff_getElem.1 hn
 rcases Nat.lt_trichotomy k j with hlt |he |hlt
 · exact absurd (h3.trans h4.symm) (hp k j h1 h2 hlt)
 · omega
 · exact absurd (h4.trans h3.symm) (hp j k h2 h1 hlt)
structure FD (p:A8):Prop where
 cells:p.cells.Nodup
 row:∀r∈p.capacity,r.length=p.cells.length∧∀k∈r,0≤k∧k≤4096
 leaf:∀v∈p.variables,∀k∈v.leaves,0≤k∧k<(p.capacity.length:Int)
 lnd:∀v∈p.variables,v.leaves.Nodup
 ch:∀v∈p.variables,1≤v.choices.length
 use:∀v∈p.variables,∀c∈v.choices,∀u∈c.uses,u.cell∈p.cells∧1≤u.places∧u.places≤8
 und:∀v∈p.variables,∀c∈v.choices,c.uses.Pairwise fun a b=>a.cell≠b.cell
 cap:1≤p.capacity.length
theorem FD.of {p:A8} (h:FA p=true):FD p:=by
 unfold FA at h
 simp only [Bool.and_eq_true,List.all_eq_true,Ks,IH,Hr,Md,BY,decide_eq_true_eq,Bool.not_eq_true',decide_eq_false_iff_not] at h
 obtain⟨h1,h2,h3,h4,h5,h6⟩:=h
 refine⟨?_,fun r hr=>⟨(h5 r hr).1,fun k hk=>(h5 r hr).2 k hk⟩,fun v hv k hk=>?_,fun v hv=>?_,fun v hv=>?_,fun v hv c hc u hu=>?_,fun v hv c hc=>?_,by omega⟩
 · exact(IM Q4 h4.2).imp fun h=>VL h
 · have:=(h6 v hv).2.2.1.1 k hk;omega
 · exact(IM (lt:=fun x y:Int=>decide (x<y)) (by intro a b c;simp;omega) (h6 v hv).2.2.1.2).imp fun h=>by simp at h;omega
 · have:=(h6 v hv).2.1;omega
 · have:=((h6 v hv).2.2.2 c hc).2.2.2.1 u hu;exact⟨this.1,this.2.1,this.2.2⟩
 · exact(IM (lt:=fun x y:Bp=>cb x.cell y.cell) (fun _ _ _ h1 h2=>Q4 _ _ _ h1 h2) ((h6 v hv).2.2.2 c hc).2.2.2.2).imp fun h=>VL h
def Kx (p:A8) (v:AM) (c:AN):PM:=c.uses.foldl (fun m u=>v.leaves.foldl (fun m k=>Dp m ⟨k,ix p.cells u.cell⟩ u.places) m) []
def Mh (p:A8):List (List PM):=p.variables.map fun v=>v.choices.map fun c=>Kx p v c
theorem Ud {p:A8} (hp:C3 p) (hs:Dg p) (hk:FD p):FZ p=some ⟨p,Mh p⟩:=by
 unfold FZ
 have vars:∀map_1:List (AK × Int),(∀c∈p.cells,(Bu map_1 c).getD 0=ix p.cells c)→
   BC (Ek p map_1) (((p.variables.length:Int) - 0).toNat+1) 0 ([]:List (List PM))=some ⟨p,Mh p⟩:=by
  intro map_1 hm
  refine(I2 (B:=Ek p map_1) (fuel:=((p.variables.length:Int) - 0).toNat+1) (s:=([]:List (List PM))) (fun i (s:List (List PM))=>s.length=i) (fun _ t s=>some (⟨p,s++t.map fun v=>v.choices.map fun c=>Kx p v c⟩:D7)) p.variables (EG hp.2.2) ?_ ?_ (by omega) rfl).trans (by simp [Mh])
  · intro sf s _;unfold Ek;simp
  ·
   intro sf i s v tv a1 a2 a3 a4 ih
   have hv:=LG a2
   have sv:=hs.var v hv
   unfold Ek
   simp only [Int.toNat_natCast,AH a2,EY a1,Ey a1,BI,cond_true]
   refine(HT (B:=EP p map_1 (i:Int) s sf) (fuel:=((v.choices.length:Int) - 0).toNat+1) (s:=([]:List PM)) (fun i (s:List PM)=>s.length=i) (fun _ t l=>some (⟨p,(s++[l++t.map fun c=>Kx p v c])++tv.map fun v=>v.choices.map fun c=>Kx p v c⟩:D7)) v.choices (by omega) ?_ ?_ (by omega) rfl).trans (by simp)
   ·
    intro sf2 l e
    unfold EP
    simp only [Int.toNat_natCast,AH a2,Jd,cond_false]
    rw [BF (by have:=hs.vars;simp;omega),a3,ih _ (by simp [a4])]
    simp
   ·
    intro sf2 j l c tc b1 b2 b3 b4 ih2
    have hc:=LG b2
    have sc:=sv.2.2 c hc
    unfold EP
    simp only [Int.toNat_natCast,AH a2,AH b2,EY b1,Ey b1,BI,cond_true]
    refine(I2 (B:=EO p map_1 (i:Int) l (j:Int) sf2) (fuel:=((c.uses.length:Int) - 0).toNat+1) (s:=([]:PM)) (fun _ _=>True) (fun _ t m=>some (⟨p,(s++[(l++[t.foldl (fun m u=>v.leaves.foldl (fun m k=>Dp m ⟨k,ix p.cells u.cell⟩ u.places) m) m])++tc.map fun c=>Kx p v c])++tv.map fun v=>v.choices.map fun c=>Kx p v c⟩:D7)) c.uses (by omega) ?_ ?_ (by omega) trivial).trans (by simp [Kx])
    ·
     intro sf3 m _
     unfold EO
     simp only [Int.toNat_natCast,AH a2,AH b2,Jd,cond_false]
     rw [BF (by simp;omega),b3,ih2 _ (by simp [b4])]
     simp
    ·
     intro sf3 k m u tu d1 d2 d3 _ ih3
     have hu:=hk.use v hv c hc u (LG d2)
     unfold EO
     simp only [Int.toNat_natCast,AH a2,AH b2,AH d2,EY d1,Ey d1,BI,cond_true]
     refine(I2 (B:=EN p map_1 (i:Int) (j:Int) (k:Int) sf3) (fuel:=((v.leaves.length:Int) - 0).toNat+1) (s:=m) (fun _ _=>True) (fun _ t m=>some (⟨p,(s++[(l++[tu.foldl (fun m u=>v.leaves.foldl (fun m k=>Dp m ⟨k,ix p.cells u.cell⟩ u.places) m) (t.foldl (fun m k=>Dp m ⟨k,ix p.cells u.cell⟩ u.places) m)])++tc.map fun c=>Kx p v c])++tv.map fun v=>v.choices.map fun c=>Kx p v c⟩:D7)) v.leaves (by omega) ?_ ?_ (by omega) trivial).trans (by simp)
     ·
      intro sf4 m' _
      unfold EN
      simp only [Int.toNat_natCast,AH a2,Jd,cond_false]
      rw [d3,ih3 _ trivial];rfl
     ·
      intro sf4 q m' lf tl f1 f2 f3 _ ih4
      unfold EN
      simp only [Int.toNat_natCast,AH a2,AH b2,AH d2,AH f2,EY f1,Ey f1,BI,cond_true,hm _ hu.1]
      rw [f3,ih4 _ trivial];rfl
 refine I2 (B:=EQ p) (fuel:=((p.cells.length:Int) - 0).toNat+1) (s:=([]:List (AK × Int))) (fun i s=>∀j c,j<i→p.cells[j]?=some c→Bu s c=some (j:Int)) (fun _ _ _=>some ⟨p,Mh p⟩) p.cells (EG hp.1) ?_ ?_ (by omega) (fun j c h=>by omega)
 ·
  intro sf s hI
  unfold EQ
  rw [vars s ?_]
  · simp only [Jd,cond_false]
  ·
   intro c hc
   obtain⟨k,e1,e2⟩:=Km hc
   rw [hI k c (List.getElem?_eq_some_iff.1 e2).1 e2,e1];rfl
 ·
  intro sf i s c t e1 e2 e3 hI ih
  unfold EQ
  simp only [Int.toNat_natCast,AH e2,EY e1,Ey e1,BI,cond_true]
  rw [e3]
  refine ih _ fun j c' hj hc'=>?_
  rw [G7]
  by_cases h:c=c'
  ·
   subst h
   rw [if_pos rfl]
   have:=Q5 hk.cells e2;have:=Q5 hk.cells hc'
   congr 1;omega
  ·
   rw [if_neg h]
   refine hI j c' ?_ hc'
   rcases Nat.lt_or_ge j i with hlt |hge
   · exact hlt
   ·
    have:j=i:=by omega
    subst this;rw [e2] at hc';exact absurd (Option.some.inj hc') h
end Go.Fx
namespace Go.Fx
open Go Go.RowKit Go.Proofs
end Go.Fx
namespace Go.Fx
open Go Go.RowKit
theorem SY {α:Type} {B:(Int→Option Bool)→Int→Option Bool} {l:List α} {R:Option Bool} (hl:l.length<9223372036854775807) (hE:∀sf,B sf (l.length:Nat)=R)
  (hS:∀sf (i:Nat) x,i<l.length→l[i]?=some x→IntKind.i64.wrap ((i:Int)+1)=(i:Int)+1→B sf (i:Int)=sf ((i:Int)+1)):
  B0 B (((l.length:Int) - 0).toNat+1) 0=R:=by
 rw [Ik (l:=l) (fun _=>true) R R hl hE (fun sf i x h1 h2 h3=>by rw [hS sf i x h1 h2 h3];rfl) (by omega)]
 cases (l.all fun _=>true)<;> rfl
theorem N0 {α:Type} [Inhabited α] {S:α→Prop} {l:List α} (h:∀x∈l,S x) (hd:S default) (i:Nat):S (l.getD i default):=by
 cases hx:l[i]? with
 |none=>rw [List.getD,hx];exact hd
 |some x=>rw [AH hx];exact h x (LG hx)
def Q6 (p:A8) (c:AN) (k:Int):Int:=(c.uses.map fun u=>if ix p.cells u.cell=k then u.places else 0).sum
def HV (p:A8) (x:Az) (vc:AM × AN):Int:=if x.leaf∈vc.1.leaves then Q6 p vc.2 x.cell else 0
def Hs (p:A8) (w:List (AM × AN)) (x:Az):Int:=(w.map (HV p x)).sum
def FL (p:A8) (x:Az):Int:=(p.capacity.getD x.leaf.toNat default).getD x.cell.toNat default
theorem Ni (q n:Int):∀(ls:List Int) (m:PM),Hh m→Hh (ls.foldl (fun m k=>Dp m (⟨k,q⟩:Az) n) m)∧
  (∀x:Az,vl (ls.foldl (fun m k=>Dp m (⟨k,q⟩:Az) n) m) x=if x.leaf∈ls∧x.cell=q then n else vl m x)∧
  ∀e∈ls.foldl (fun m k=>Dp m (⟨k,q⟩:Az) n) m,e∈m∨(e.1.leaf∈ls∧e.1.cell=q∧e.2=n)
 |[],m,h=>⟨h,fun x=>by simp,fun e he=>.inl he⟩
 |k::ls,m,h=>by
  obtain⟨h1,h2,h3⟩:=Ni q n ls (Dp m ⟨k,q⟩ n) (H4 h _ _)
  refine⟨h1,fun x=>?_,fun e he=>?_⟩
  ·
   rw [List.foldl_cons,h2 x,Wu]
   by_cases hq:x.cell=q
   ·
    by_cases hl:x.leaf∈ls
    · simp [hq,hl]
    ·
     by_cases hk:x.leaf=k
     ·
      have:(⟨k,q⟩:Az)=x:=by cases x;simp_all
      simp [hq,hl,hk,this]
     ·
      have:(⟨k,q⟩:Az)≠x:=fun e=>hk (by rw [← e])
      simp [hq,hl,hk,this]
   ·
    have:(⟨k,q⟩:Az)≠x:=fun e=>hq (by rw [← e])
    simp [hq,this]
  ·
   rw [List.foldl_cons] at he
   rcases h3 e he with h4 |⟨h4,h5,h6⟩
   ·
    rcases (LU h _ _ e).1 h4 with h5 |h5
    · right;subst h5;simp
    · exact .inl h5.1
   · exact .inr ⟨List.mem_cons_of_mem _ h4,h5,h6⟩
theorem Pa (p:A8) (ls:List Int):∀(us:List Bp) (m:PM),Hh m→(∀u∈us,u.cell∈p.cells)→(us.Pairwise fun a b=>a.cell≠b.cell)→(∀u∈us,∀k,vl m ⟨k,ix p.cells u.cell⟩=0)→
  Hh (us.foldl (fun m u=>ls.foldl (fun m k=>Dp m ⟨k,ix p.cells u.cell⟩ u.places) m) m)∧
  (∀x:Az,vl (us.foldl (fun m u=>ls.foldl (fun m k=>Dp m ⟨k,ix p.cells u.cell⟩ u.places) m) m) x=vl m x+if x.leaf∈ls then (us.map fun u=>if ix p.cells u.cell=x.cell then u.places else 0).sum else 0)∧
  ∀e∈us.foldl (fun m u=>ls.foldl (fun m k=>Dp m ⟨k,ix p.cells u.cell⟩ u.places) m) m,e∈m∨∃u∈us,e.1.leaf∈ls∧e.1.cell=ix p.cells u.cell∧e.2=u.places
 |[],m,h,_,_,_=>⟨h,fun x=>by simp,fun e he=>.inl he⟩
 |u::us,m,h,hc,hp,hz=>by
  obtain⟨g1,g2,g3⟩:=Ni (ix p.cells u.cell) u.places ls m h
  rw [List.pairwise_cons] at hp
  have hz':∀u'∈us,∀k,vl (ls.foldl (fun m k=>Dp m ⟨k,ix p.cells u.cell⟩ u.places) m) ⟨k,ix p.cells u'.cell⟩=0:=by
   intro u' hu' k
   rw [g2]
   have:ix p.cells u'.cell≠ix p.cells u.cell:=fun e=>hp.1 u' hu' (Uc (hc u' (List.mem_cons_of_mem _ hu')) (hc u (List.mem_cons_self ..)) e).symm
   simp only [this,and_false,if_false]
   exact hz u' (List.mem_cons_of_mem _ hu') k
  obtain⟨h1,h2,h3⟩:=Pa p ls us _ g1 (fun u hu=>hc u (List.mem_cons_of_mem _ hu)) hp.2 hz'
  refine⟨h1,fun x=>?_,fun e he=>?_⟩
  ·
   rw [List.foldl_cons,h2 x,g2 x,List.map_cons,List.sum_cons]
   by_cases hl:x.leaf∈ls
   ·
    by_cases hq:x.cell=ix p.cells u.cell
    ·
     have:vl m x=0:=by have:=hz u (List.mem_cons_self ..) x.leaf;rw [← hq] at this;exact this
     simp only [hl,hq,and_self,if_true,this];omega
    ·
     have: ¬(ix p.cells u.cell=x.cell):=fun e=>hq e.symm
     simp only [hl,hq,and_false,if_false,this,if_true];omega
   · simp only [hl,false_and,if_false]
  ·
   rw [List.foldl_cons] at he
   rcases h3 e he with h4 |⟨u',h4,h5⟩
   ·
    rcases g3 e h4 with h5 |h5
    · exact .inl h5
    · exact .inr ⟨u,List.mem_cons_self ..,h5⟩
   · exact .inr ⟨u',List.mem_cons_of_mem _ h4,h5⟩
theorem S2 {p:A8} (hk:FD p) {k:Int} (h0:0≤k) (h1:k<(p.capacity.length:Int)):(p.capacity.getD k.toNat default).length=p.cells.length:=by
 rw [AH (List.getElem?_eq_getElem (show k.toNat<p.capacity.length by omega))]
 exact(hk.row _ (List.getElem_mem _)).1
theorem Mi {p:A8} (hk:FD p) {v:AM} (hv:v∈p.variables) {c:AN} (hc:c∈v.choices) (U:List (List PM)):NU ⟨p,U⟩ (Kx p v c)∧∀x,vl (Kx p v c) x=HV p x (v,c):=by
 obtain⟨h1,h2,h3⟩:=Pa p v.leaves c.uses [] List.Pairwise.nil (fun u hu=>(hk.use v hv c hc u hu).1) (hk.und v hv c hc) (fun u hu k=>rfl)
 refine⟨⟨h1,fun q hq=>?_,fun q hq=>?_⟩,fun x=>?_⟩
 ·
  obtain h |⟨u,hu,e1,e2,e3⟩:=h3 q hq
  · cases h
  ·
   have hl:=hk.leaf v hv _ e1
   refine⟨hl,?_⟩
   show(0:Int)≤q.1.cell∧q.1.cell<((p.capacity.getD q.1.leaf.toNat default).length:Int)
   rw [S2 hk hl.1 hl.2,e2]
   obtain⟨k,f1,f2⟩:=Km (hk.use v hv c hc u hu).1
   have:=(List.getElem?_eq_some_iff.1 f2).1
   omega
 ·
  obtain h |⟨u,hu,e1,e2,e3⟩:=h3 q hq
  · cases h
  · have:=(hk.use v hv c hc u hu).2;omega
 ·
  rw [show vl (Kx p v c) x=_ from h2 x]
  simp [vl,Bu,HV,Q6]
theorem Q7 {α β:Type} (f:α→β):∀L:List (List α),Ez (L.map (List.map f))=(Ez L).map (List.map f)
 |[] =>rfl
 |l::L=>by
  simp only [List.map_cons,Ez,Q7 f L,List.flatMap_map,List.map_flatMap,List.map_map]
  rfl
theorem Q8 {α:Type} :∀{L:List (List α)} {w:List α},w∈Ez L→∀a∈w,∃l∈L,a∈l
 |[],w,h,a,ha=>by simp [Ez] at h;subst h;cases ha
 |l::L,w,h,a,ha=>by
  simp only [Ez,List.mem_flatMap,List.mem_map] at h
  obtain⟨m,hm,w',hw',rfl⟩:=h
  rcases List.mem_cons.1 ha with rfl |ha
  · exact⟨l,List.mem_cons_self ..,hm⟩
  ·
   obtain⟨l',h1,h2⟩:=Q8 hw' a ha
   exact⟨l',List.mem_cons_of_mem _ h1,h2⟩
def BP (p:A8) (l:List Int):List (List (AM × AN)):=l.map fun i=>(p.variables.getD i.toNat default).choices.map fun c=>(p.variables.getD i.toNat default,c)
theorem Il {p:A8} {l:List Int} (hl:∀i∈l,0≤i∧i<(p.variables.length:Int)) {w:List (AM × AN)} (hw:w∈Ez (BP p l)):∀vc∈w,vc.1∈p.variables∧vc.2∈vc.1.choices:=by
 intro vc hvc
 obtain⟨q,h1,h2⟩:=Q8 hw vc hvc
 obtain⟨i,hi,rfl⟩:=List.mem_map.1 h1
 obtain⟨c,hc,rfl⟩:=List.mem_map.1 h2
 have:=hl i hi
 refine⟨?_,hc⟩
 show p.variables.getD i.toNat default∈p.variables
 rw [AH (List.getElem?_eq_getElem (show i.toNat<p.variables.length by omega))]
 exact List.getElem_mem _
theorem Ue {p:A8} {l:List Int} (hl:∀i∈l,0≤i∧i<(p.variables.length:Int)):(l.map fun v=>(Mh p).getD v.toNat default)=(BP p l).map (List.map fun vc=>Kx p vc.1 vc.2):=by
 unfold BP
 rw [List.map_map]
 refine List.map_congr_left fun i hi=>?_
 have hlt:i.toNat<p.variables.length:=by have:=hl i hi;omega
 simp only [Function.comp,List.map_map]
 rw [AH (List.getElem?_eq_getElem hlt),Mh,AH (l:=p.variables.map _) (x:=p.variables[i.toNat].choices.map fun c=>Kx p p.variables[i.toNat] c) (by rw [List.getElem?_map,List.getElem?_eq_getElem hlt];rfl)]
 rfl
theorem GR {p:A8} (hk:FD p) (x:Az):0≤FL p x:=by
 unfold FL
 have:∀k∈p.capacity.getD x.leaf.toNat default,0≤k:=N0 (S:=fun r:List Int=>∀k∈r,0≤k) (fun r hr k hkk=>((hk.row r hr).2 k hkk).1) (by intro k h;cases h) _
 exact N0 (S:=fun k:Int=>0≤k) this (by show(0:Int)≤0;omega) _
theorem MK {σ:Type} [DecidableEq σ] {p:A8} (hk:FD p) (hs:Dg p) {l:List Int} (hl:l.length≤20) (hi:∀i∈l,0≤i∧i<(p.variables.length:Int)) (D:List (Az × Bool)→σ→Option (Bool × σ))
  {G:List (AM × AN)→List (Az × Bool)} (hG:∀w∈Ez (BP p l),∀e,Hh e→(∀x,vl e x=Hs p w x)→G w=Hw (FL p) e) {s0 s':σ} {r:Bool}
  (hr:Kl D ((Ez (BP p l)).map G) s0=some (r,s')):Dh ⟨p,Mh p⟩ l D s0=some s':=by
 have hadd:∀w:List PM,(∀m∈w,Hh m)→∀d,Hh d→Hh (w.foldl (fun d m=>Nv m d) d)∧∀x,vl (w.foldl (fun d m=>Nv m d) d) x=vl d x+O5 w x:=by
  intro w
  induction w with
  |nil=>intro _ d hd;exact⟨hd,fun x=>by simp [O5]⟩
  |cons m w ih=>
   intro hm d hd
   obtain⟨h1,h2⟩:=ih (fun m h=>hm m (List.mem_cons_of_mem _ h)) (Nv m d) (Mg (hm m (List.mem_cons_self ..)) hd)
   exact⟨h1,fun x=>by rw [List.foldl_cons,h2,PL (hm m (List.mem_cons_self ..)) hd,OZ];omega⟩
 have hsum:∀w∈Ez (BP p l),∀x,O5 (w.map fun vc=>Kx p vc.1 vc.2) x=Hs p w x:=by
  intro w hw x
  unfold O5 Hs
  rw [List.map_map]
  congr 1
  refine List.map_congr_left fun vc hvc=>?_
  obtain⟨h1,h2⟩:=Il hi hw vc hvc
  exact(Mi hk h1 h2 (Mh p)).2 x
 have hris:∀w∈Ez (BP p l),∀m∈w.map (fun vc=>Kx p vc.1 vc.2),Hh m:=by
  intro w hw m hm
  obtain⟨vc,hvc,rfl⟩:=List.mem_map.1 hm
  obtain⟨h1,h2⟩:=Il hi hw vc hvc
  exact(Mi hk h1 h2 (Mh p)).1.ris
 have hw:Ez (l.map fun v=>(Mh p).getD v.toNat default)=(Ez (BP p l)).map (List.map fun vc=>Kx p vc.1 vc.2):=by rw [Ue hi,Q7]
 refine Wx (t:=⟨p,Mh p⟩) (GR hk) D ?_ hl ?_ (g:=fun w=>Hw (FL p) (w.foldl (fun d m=>Nv m d) [])) ?_ (r:=r) ?_
 ·
  intro ms hms
  obtain⟨v,hv,rfl⟩:=List.mem_map.1 hms
  refine⟨by rw [List.length_map];have:=(hs.var v hv).2.1;omega,fun m hm=>?_⟩
  obtain⟨c,hc,rfl⟩:=List.mem_map.1 hm
  exact(Mi hk hv hc _).1
 · intro v hv;have:=hi v hv;simpa [Mh] using this
 ·
  intro w hww e he hx
  rw [hw] at hww
  obtain⟨w',hw',rfl⟩:=List.mem_map.1 hww
  obtain⟨h1,h2⟩:=hadd _ (hris w' hw') [] List.Pairwise.nil
  exact Q1 _ (GR hk) h1 he fun x=>by rw [h2,hx];simp [vl,Bu]
 ·
  rw [hw,List.map_map,← hr]
  congr 1
  refine List.map_congr_left fun w' hw'=>?_
  obtain⟨h1,h2⟩:=hadd _ (hris w' hw') [] List.Pairwise.nil
  exact(hG w' hw' _ h1 fun x=>by rw [h2,hsum w' hw'];simp [vl,Bu]).symm
theorem S3 (s:List Az) (hl:s.length<9223372036854775807) (f:Az→Option Bool) (h:Az→Bool) (hf:∀x∈s,f x=some (h x)):GL s f=some (s.any h):=by
 unfold GL HR
 have key:∃i:Int,B0 (F3 s f) (((s.length:Int) - 0).toNat+1) 0=some i∧decide (0≤i)=s.any h:=by
  rw [Mc (B:=F3 s f) (fun i t=>some (match t.findIdx? h with |none=>(-1:Int) |some k=>((i+k:Nat):Int))) s hl ?_ ?_ (by omega)]
  ·
   refine⟨_,rfl,?_⟩
   cases hc:s.findIdx? h with
   |none=>
    rw [List.findIdx?_eq_none_iff] at hc
    have:s.any h=false:=by rw [List.any_eq_false];intro x hx;simpa using hc x hx
    simp [this]
   |some k=>
    have:s.any h=true:=by
     rw [List.any_eq_true]
     obtain⟨hk,h1,_⟩:=List.findIdx?_eq_some_iff_getElem.1 hc
     exact⟨s[k],List.getElem_mem hk,by simpa using h1⟩
    simp [this]
  · intro sf;unfold F3;simp
  ·
   intro sf i x t h1 h2 h3 ih
   unfold F3
   simp only [EY h1,Ey h1,BI,Int.toNat_natCast,AH h2,hf x (LG h2),Option.bind_some,h3,cond_true,List.findIdx?_cons]
   cases hw:h x
   ·
    simp only [cond_false,Bool.false_eq_true,if_false]
    rw [ih]
    cases t.findIdx? h with
    |none=>rfl
    |some k=>simp;omega
   · simp
 obtain⟨i,h1,h2⟩:=key
 rw [h1,Option.bind_some,h2]
def C4 (p:A8) (r:Ba):Bool:=(Ez (BP p r.variables)).all fun w=>r.places.any fun x=>decide (FL p x<Hs p w x)
theorem Wz {p:A8} {r:Ba} (hp:C3 p) (hr:ME r) (hs:Dg p) (hv:r.variables.length≤20):
  CT p r=some (bif FA p then (bif I3 p r then (C4 p r,0) else (false,320)) else (false,270)):=by
 unfold CT
 rw [Wo hp hr]
 cases h1:FA p
 · rfl
 cases h2:I3 p r
 · rfl
 have hk:=FD.of h1
 obtain⟨i1,i2,i3,i4⟩:=RI h2
 simp only [cond_true,Option.bind_some,ne_eq,not_true_eq_false,decide_false,cond_false]
 rw [Ud hp hs hk,Option.bind_some]
 let P:List (AM × AN)→Bool:=fun w=>r.places.any fun x=>decide (FL p x<Hs p w x)
 have hD:∀w e,Hh e→(∀x,vl e x=Hs p w x)→∀s,DZ (Hw (FL p) e) r s=some (P w,P w):=by
  intro w e he hx s
  unfold DZ
  rw [S3 r.places (EG hr.2) _ (fun x=>decide (FL p x<Hs p w x)) (fun x _=>by
   unfold E8
   rw [Ha _ (GR hk) he,hx]
   by_cases hlt:FL p x<Hs p w x<;> simp [hlt])]
  rfl
 have hex:∀w∈Ez (BP p r.variables),∃e,Hh e∧∀x,vl e x=Hs p w x:=by
  intro w hw
  have:∀w':List (AM × AN),(∀vc∈w',vc.1∈p.variables∧vc.2∈vc.1.choices)→∃e,Hh e∧∀x,vl e x=Hs p w' x:=by
   intro w'
   induction w' with
   |nil=>intro _;exact⟨[],List.Pairwise.nil,fun x=>by simp [vl,Bu,Hs]⟩
   |cons vc w' ih=>
    intro h
    obtain⟨e,e1,e2⟩:=ih fun vc hvc=>h vc (List.mem_cons_of_mem _ hvc)
    obtain⟨a1,a2⟩:=h vc (List.mem_cons_self ..)
    obtain⟨g1,g2⟩:=Mi hk a1 a2 []
    refine⟨Nv (Kx p vc.1 vc.2) e,Mg g1.ris e1,fun x=>?_⟩
    rw [PL g1.ris e1,e2,g2,show(vc.1,vc.2)=vc from rfl]
    simp only [Hs,List.map_cons,List.sum_cons];omega
  exact this w (Il i1 hw)
 let G:List (AM × AN)→List (Az × Bool):=fun w=>if h:w∈Ez (BP p r.variables) then Hw (FL p) (hex w h).choose else []
 have hG:∀w∈Ez (BP p r.variables),∀e,Hh e→(∀x,vl e x=Hs p w x)→G w=Hw (FL p) e:=by
  intro w hw e he hx
  have:=(hex w hw).choose_spec
  show(if h:w∈Ez (BP p r.variables) then Hw (FL p) (hex w h).choose else [])=_
  rw [dif_pos hw]
  exact Q1 _ (GR hk) this.1 he fun x=>by rw [this.2,hx]
 have hrun:∀L:List (List (AM × AN)),(∀w∈L,w∈Ez (BP p r.variables))→Kl (fun xs s=>DZ xs r s) (L.map G) true=some (L.all P,L.all P):=by
  intro L
  induction L with
  |nil=>intro _;rfl
  |cons w L ih=>
   intro h
   obtain⟨e,e1,e2⟩:=hex w (h w (List.mem_cons_self ..))
   simp only [List.map_cons,Kl,hG w (h w (List.mem_cons_self ..)) e e1 e2,hD w e e1 e2,Option.bind_some,List.all_cons]
   cases P w
   · rfl
   · simp only [cond_true,Bool.true_and];exact ih fun w hw=>h w (List.mem_cons_of_mem _ hw)
 rw [MK hk hs hv i1 _ hG (hrun _ fun w hw=>hw)]
 rfl
def nr:List Int→List Int→Option (List Int)
 |n::ns,a::t=>if a+1<n then some ((a+1)::t) else (nr ns t).map (0::·)
 |_,_=>none
def Jk (n:Int):List Int:=(List.range n.toNat).map fun k:Nat=>(k:Int)
def LH:List Int→List (List Int)
 |[] =>[[]]
 |n::ns=>(LH ns).flatMap fun t=>(Jk n).map (·::t)
def PN {α:Type} (f:α→Option α):List α→Prop
 |[] =>True
 |[a] =>f a=none
 |a::b::t=>f a=some b∧PN f (b::t)
theorem Nj {α:Type} {f:α→Option α} :∀{l:List α} {b:α} {m:List α},(∀(h:l≠[]),f (l.getLast h)=some b)→(l≠[]→∀l1 x y l2,l=l1++x::y::l2→f x=some y)→PN f (b::m)→PN f (l++b::m)
 |[],b,m,_,_,h=>h
 |[a],b,m,h1,_,h=>⟨h1 (by simp),h⟩
 |a::c::t,b,m,h1,h2,h=>⟨h2 (by simp) [] a c t rfl,Nj (l:=c::t) (fun hn=>by have:=h1 (by simp);simpa using this) (fun _ l1 x y l2 e=>h2 (by simp) (a::l1) x y l2 (by rw [e];rfl)) h⟩
theorem Pb {α:Type} {f:α→Option α} :∀{l:List α},(∀(h:l≠[]),f (l.getLast h)=none)→(∀l1 x y l2,l=l1++x::y::l2→f x=some y)→PN f l
 |[],_,_=>trivial
 |[a],h,_=>h (by simp)
 |a::c::t,h1,h2=>⟨h2 [] a c t rfl,Pb (l:=c::t) (fun hn=>by have:=h1 (by simp);simpa using this) (fun l1 x y l2 e=>h2 (a::l1) x y l2 (by rw [e];rfl))⟩
theorem UX {n:Int} (h:1≤n):Jk n≠[]:=by
 unfold Jk;intro e;have:=congrArg List.length e;simp at this;omega
theorem Q9 {n a:Int} :a∈Jk n ↔ 0≤a∧a<n:=by
 unfold Jk
 simp only [List.mem_map,List.mem_range]
 constructor
 · rintro⟨k,hk,rfl⟩;omega
 · rintro⟨h1,h2⟩;exact⟨a.toNat,by omega,by omega⟩
theorem SZ {n:Int} (h:1≤n):(Jk n).getLast (UX h)=n - 1:=by
 rw [List.getLast_eq_getElem]
 simp only [Jk,List.getElem_map,List.getElem_range,List.length_map,List.length_range]
 omega
theorem Ta {n:Int} {l1 l2:List Int} {x y:Int} (h:Jk n=l1++x::y::l2):y=x+1∧y<n:=by
 have hx:(Jk n)[l1.length]?=some x:=by rw [h];simp
 have hy:(Jk n)[l1.length+1]?=some y:=by rw [h];simp [List.getElem?_append]
 unfold Jk at hx hy
 rw [List.getElem?_map] at hx hy
 have hlen:l1.length+1<n.toNat:=by
  rcases Nat.lt_or_ge (l1.length+1) n.toNat with h |h
  · exact h
  · rw [List.getElem?_eq_none (by simpa using h)] at hy;cases hy
 rw [List.getElem?_range (by omega)] at hx hy
 simp at hx hy
 omega
theorem Pc {n:Int} (h:1≤n):∃t,Jk n=0::t:=by
 unfold Jk
 obtain⟨k,hk⟩:∃k,n.toNat=k+1:=⟨n.toNat - 1,by omega⟩
 rw [hk,List.range_succ_eq_map];exact⟨_,rfl⟩
theorem ML:∀{ns:List Int},(∀n∈ns,1≤n)→PN (nr ns) (LH ns)∧∃t,LH ns=(ns.map fun _=>(0:Int))::t
 |[],_=>⟨rfl,[],rfl⟩
 |n::ns,h=>by
  obtain⟨h1,t,h2⟩:=ML (ns:=ns) fun m hm=>h m (List.mem_cons_of_mem _ hm)
  have hn:=h n (List.mem_cons_self ..)
  refine⟨?_,?_⟩
  ·
   have main:∀L:List (List Int),PN (nr ns) L→PN (nr (n::ns)) (L.flatMap fun t=>(Jk n).map (·::t)):=by
    intro L
    induction L with
    |nil=>intro _;trivial
    |cons a L ih=>
     intro hL
     have inner:∀l1 x y l2,(Jk n).map (·::a)=l1++x::y::l2→nr (n::ns) x=some y:=by
      intro l1 x y l2 e
      obtain⟨m1,m2,e1,rfl,e2⟩:=List.map_eq_append_iff.1 e
      obtain⟨u,m3,rfl,rfl,e3⟩:=List.map_eq_cons_iff.1 e2
      obtain⟨v,m4,rfl,rfl,rfl⟩:=List.map_eq_cons_iff.1 e3
      have:=Ta e1
      simp only [nr]
      rw [if_pos (by omega),this.1]
     have last:∀hne:(Jk n).map (·::a)≠[],nr (n::ns) (((Jk n).map (·::a)).getLast hne)=(nr ns a).map (0::·):=by
      intro hne
      rw [List.getLast_map,SZ hn]
      simp only [nr]
      rw [if_neg (by omega)]
     cases L with
     |nil=>
      rw [List.flatMap_cons,List.flatMap_nil,List.append_nil]
      refine Pb (fun hne=>?_) inner
      rw [last hne,show nr ns a=none from hL];rfl
     |cons b L=>
      have ih':=ih hL.2
      obtain⟨z,hz⟩:=Pc hn
      have e2:((b::L).flatMap fun t=>(Jk n).map (·::t))=(0::b)::(z.map (·::b)++L.flatMap fun t=>(Jk n).map (·::t)):=by
       rw [List.flatMap_cons,hz];rfl
      rw [List.flatMap_cons,e2]
      rw [e2] at ih'
      refine Nj (fun hne=>?_) (fun _=>inner) ih'
      rw [last hne,hL.1];rfl
   exact main _ h1
  ·
   obtain⟨z,hz⟩:=Pc hn
   rw [LH,h2,List.flatMap_cons,hz]
   exact⟨_,rfl⟩
def IQ:List Int→List Int→Prop
 |[],[] =>True
 |a::c,n::ns=>(0≤a∧a<n)∧IQ c ns
 |_,_=>False
theorem I4:∀{ns c:List Int},c∈LH ns ↔ IQ c ns
 |[],[] =>by simp [LH,IQ]
 |[],a::c=>by simp [LH,IQ]
 |n::ns,[] =>by simp [LH,IQ]
 |n::ns,a::c=>by
  simp only [LH,List.mem_flatMap,List.mem_map,IQ]
  constructor
  ·
   rintro⟨t,ht,b,hb,e⟩
   obtain⟨rfl,rfl⟩:=List.cons.inj e
   exact⟨Q9.1 hb,I4.1 ht⟩
  ·
   rintro⟨h1,h2⟩
   exact⟨c,I4.2 h2,a,Q9.2 h1,rfl⟩
theorem IQ.length:∀{c ns:List Int},IQ c ns→c.length=ns.length
 |[],[],_=>rfl
 |a::c,n::ns,h=>by simp [IQ.length h.2]
 |[],n::ns,h=>h.elim
 |a::c,[],h=>h.elim
def GO (p:A8) (i:Int):AM:=p.variables.getD i.toNat default
theorem JQ {p:A8} :∀{l:List Int} {w:List (AM × AN)},l.Nodup→(w∈Ez (BP p l) ↔ ∃f:Int→AN,(∀i∈l,f i∈(GO p i).choices)∧w=l.map fun i=>(GO p i,f i))
 |[],w,_=>by
  simp only [BP,List.map_nil,Ez,List.mem_singleton]
  constructor
  · rintro rfl;exact⟨fun _=>default,by simp,rfl⟩
  · rintro⟨f,_,rfl⟩;rfl
 |i::l,w,h=>by
  have hn:=List.nodup_cons.1 h
  simp only [BP,List.map_cons,Ez,List.mem_flatMap,List.mem_map]
  constructor
  ·
   rintro⟨_,⟨c,hc,rfl⟩,t,ht,rfl⟩
   obtain⟨f,h1,rfl⟩:=(JQ hn.2).1 (show t∈Ez (BP p l) from ht)
   refine⟨fun j=>if j=i then c else f j,fun j hj=>?_,?_⟩
   ·
    rcases List.mem_cons.1 hj with rfl |hj
    · show(if j=j then c else f j)∈_;rw [if_pos rfl];exact hc
    ·
     have:j≠i:=fun e=>hn.1 (e ▸ hj)
     simpa [this] using h1 j hj
   ·
    simp only [List.map_cons,if_true]
    congr 1
    refine List.map_congr_left fun j hj=>?_
    have:j≠i:=fun e=>hn.1 (e ▸ hj)
    simp [this]
  ·
   rintro⟨f,h1,e⟩
   refine⟨(GO p i,f i),⟨f i,h1 i (List.mem_cons_self ..),rfl⟩,l.map fun j=>(GO p j,f j),(JQ hn.2).2 ⟨f,fun j hj=>h1 j (List.mem_cons_of_mem _ hj),rfl⟩,by rw [e]⟩
def Jl (p:A8) (f:Int→AN) (l:List Int) (x:Az):Int:=(l.map fun i=>HV p x (GO p i,f i)).sum
theorem Mj (p:A8) (f:Int→AN) (l:List Int) (x:Az):Hs p (l.map fun i=>(GO p i,f i)) x=Jl p f l x:=by
 unfold Hs Jl;rw [List.map_map];rfl
theorem KK {p:A8} {r:Ba} (hn:r.variables.Nodup):C4 p r=true ↔ ∀f:Int→AN,(∀i∈r.variables,f i∈(GO p i).choices)→∃x∈r.places,FL p x<Jl p f r.variables x:=by
 unfold C4
 rw [List.all_eq_true]
 constructor
 ·
  intro h f hf
  have:=h _ ((JQ hn).2 ⟨f,hf,rfl⟩)
  obtain⟨x,hx,hd⟩:=List.any_eq_true.1 this
  exact⟨x,hx,by rw [← Mj];exact of_decide_eq_true hd⟩
 ·
  intro h w hw
  obtain⟨f,h1,rfl⟩:=(JQ hn).1 hw
  obtain⟨x,hx,hd⟩:=h f h1
  exact List.any_eq_true.2 ⟨x,hx,decide_eq_true (by rw [Mj];exact hd)⟩
theorem QB {p:A8} {f:Int→AN} {x:Az} :∀{l m:List Int},l.Sublist m→(∀i∈m,0≤HV p x (GO p i,f i))→Jl p f l x≤Jl p f m x:=by
 intro l m h
 induction h with
 |slnil=>intro _;exact Int.le_refl _
 |cons a h ih=>
  intro hm
  have:=ih fun i hi=>hm i (List.mem_cons_of_mem _ hi)
  have:=hm a (List.mem_cons_self ..)
  simp only [Jl,List.map_cons,List.sum_cons] at*;omega
 |cons_cons a h ih=>
  intro hm
  have:=ih fun i hi=>hm i (List.mem_cons_of_mem _ hi)
  simp only [Jl,List.map_cons,List.sum_cons] at*;omega
section
variable {α β : Type}
def ET:Nat→List α→List (List α)
 |0,_=>[[]]
 |_+1,[] =>[]
 |k+1,a::l=>(ET k l).map (a::·)++ET (k+1) l
theorem Im (l:List α):ET 0 l=[[]]:=by cases l<;> rfl
theorem G3:∀{k:Nat} {l t:List α},t∈ET k l ↔ t.Sublist l∧t.length=k
 |0,l,t=>by
  rw [Im,List.mem_singleton]
  constructor
  · rintro rfl;exact⟨List.nil_sublist _,rfl⟩
  · rintro⟨_,h⟩;exact List.length_eq_zero_iff.1 h
 |k+1,[],t=>by
  simp only [ET,List.not_mem_nil,List.sublist_nil,false_iff]
  rintro⟨rfl,h⟩;cases h
 |k+1,a::l,t=>by
  simp only [ET,List.mem_append,List.mem_map]
  constructor
  ·
   rintro(⟨u,hu,rfl⟩ |h)
   ·
    obtain⟨h1,h2⟩:=G3.1 hu
    exact⟨h1.cons_cons _,by simp [h2]⟩
   ·
    obtain⟨h1,h2⟩:=G3.1 h
    exact⟨h1.cons _,h2⟩
  ·
   rintro⟨h1,h2⟩
   cases h1 with
   |cons _ h=>exact .inr (G3.2 ⟨h,h2⟩)
   |cons_cons _ h=>exact .inl ⟨_,G3.2 ⟨h,by simpa using h2⟩,rfl⟩
theorem Kn (q:α→Bool):∀(k:Nat) (l:List α),ET k (l.filter q)=(ET k l).filter fun t=>t.all q
 |0,l=>by rw [Im,Im];rfl
 |k+1,[] =>rfl
 |k+1,a::l=>by
  have h1:=Kn q k l
  have h2:=Kn q (k+1) l
  have e:(ET (k+1) (a::l)).filter (fun t=>t.all q)=((ET k l).filter fun t=>q a&&t.all q).map (a::·)++(ET (k+1) l).filter fun t=>t.all q:=by
   rw [ET,List.filter_append,List.filter_map]
   rfl
  rw [e,← h2]
  cases hq:q a
  ·
   rw [List.filter_cons_of_neg (by simp [hq])]
   simp
  ·
   rw [List.filter_cons_of_pos hq,ET,h1]
   simp
theorem MM (f:α→β):∀(k:Nat) (l:List α),ET k (l.map f)=(ET k l).map (List.map f)
 |0,l=>by simp [Im]
 |k+1,[] =>rfl
 |k+1,a::l=>by
  rw [List.map_cons,ET,ET,MM f k l,MM f (k+1) l,List.map_append,List.map_map,List.map_map]
  rfl
theorem KL:∀{k:Nat} {l:List α},l.length<k→ET k l=[]
 |0,l,h=>by omega
 |k+1,[],_=>rfl
 |k+1,a::l,h=>by
  simp only [List.length_cons] at h
  rw [ET,KL (by omega),KL (by omega)];rfl
end
def II (a:Int):Nat→List Int
 |0=>[]
 |n+1=>a::II (a+1) n
theorem IN:∀(a:Int) (n:Nat),(II a n).length=n
 |_,0=>rfl
 |a,n+1=>by rw [II,List.length_cons,IN]
theorem Ko:∀{a x:Int} {n:Nat},x∈II a n ↔ a≤x∧x<a+n
 |a,x,0=>by simp only [II,List.not_mem_nil,false_iff];omega
 |a,x,n+1=>by rw [II,List.mem_cons,Ko];omega
theorem KM:∀(a:Int) (n:Nat),(II a n).Pairwise fun x y=>x<y
 |_,0=>List.Pairwise.nil
 |a,n+1=>List.pairwise_cons.2 ⟨fun x hx=>by have:=Ko.1 hx;omega,KM _ n⟩
end Go.Fx
namespace Go.Fx
open Go Go.RowKit Go.Proofs
end Go.Fx
namespace Go.Fx
open Go Go.RowKit
theorem Lc {α:Type} :∀(k:Nat) (l:List α),(ET k l).length≤2 ^ l.length
 |0,l=>by rw [Im];exact Nat.one_le_two_pow
 |k+1,[] =>by simp [ET]
 |k+1,a::l=>by
  have h1:=Lc k l
  have h2:=Lc (k+1) l
  rw [ET,List.length_append,List.length_map,List.length_cons,Nat.pow_succ];omega
theorem QC {k n:Nat} {b:Int} {t:List Int} (h:t∈ET k (II b n)):t.length=k∧∀x∈t,b≤x∧x<b+n:=by
 obtain⟨h1,h2⟩:=G3.1 h
 exact⟨h2,fun x hx=>Ko.1 (h1.subset hx)⟩
end Go.Fx
