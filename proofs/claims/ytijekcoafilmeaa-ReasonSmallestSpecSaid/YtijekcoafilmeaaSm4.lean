/- Part 4 of the proof: smallest agrees with the reference. -/
import Derived.Test.YtijekcoafilmeaaSm3
set_option linter.unusedVariables false
set_option linter.unusedSimpArgs false
set_option maxRecDepth 100000
set_option maxHeartbeats 0
namespace Go.Fx
open Go Go.RowKit Go.Proofs
abbrev WH:List Nat:=[63,64,65,66,67,68,69,70,71,72,73,74]

abbrev WI:List Nat:=[0,120,121,122,123,124,125,126,127,128,129,130,131,132,133,134,135,136,137,138,139,140,141,142,143,144,145,146,147,148,149,150,151,152,153,154,155,156,157,158,159,160,161,162,163,164,165,166,167,168,169,170,171,172,173,174,175,176,177,178]

abbrev WJ:List Nat:=[87,88,89,90,91,92,93,94,95,96,97,98,99,100,101,102,103,104,105,106,107,108,109,110,111,112,113,114,115,116,117,118,119]

def Gh (U:A9) (A:AS × Bool × Int) (J:Bool × Int) (M:Bool × Int) (N:Bool × Int) (G:AS × Bool × Int) (Y:Int→(List AL)→Option Bool) (aA:Int) (Z:List AL):Option Bool:=
 bif (decide (aA<17)) then
  ck ((Z.length+[(⟨0,0,[0],[(⟨0,0,0,([]:List Bv)⟩:AR)]⟩:AL)].length)*64≤140737488355328)<|
  Y (IntKind.wrap .i64 (aA+1)) (Z++[(⟨0,0,[0],[(⟨0,0,0,([]:List Bv)⟩:AR)]⟩:AL)])
 else
  (Ec (⟨([]:List AK),[([]:List Int)],Z⟩:A9)).bind fun Q=>
  (I2 U (⟨[1,2],[(⟨0,1⟩:A8)]⟩:AS)).bind fun Bq=>
  jn (fun(aB:Bool)=>
   bif aB then
    some false
   else
    jn (fun(aC:Bool)=>
     some aC)
    (fun F=>
     bif A.2.1 then
      (Dy A.1 (⟨[1,2],[(⟨0,1⟩:A8)]⟩:AS)).bind fun X=>
      bif X then
       bif J.1 then
        bif (!M.1) then
         bif (!N.1) then
          bif (!G.2.1) then
           bif (decide ((Bq.1.variables.length:Int)=2)) then
            bif (decide ((Bq.1.capacity.length:Int)=1)) then
             ck ((0:Int)≤0∧0<(Bq.1.capacity.length:Int))<|
             bif (decide (((Bq.1.capacity.getD 0 default).length:Int)=2)) then
              ck ((0:Int)≤0∧0<(Bq.1.capacity.length:Int))<|
              ck ((0:Int)≤0∧0<((Bq.1.capacity.getD 0 default).length:Int))<|
              bif (decide (((Bq.1.capacity.getD 0 default).getD 0 default)=4096)) then
               ck ((0:Int)≤0∧0<(Bq.1.capacity.length:Int))<|
               ck ((0:Int)≤1∧1<((Bq.1.capacity.getD 0 default).length:Int))<|
               F (decide (((Bq.1.capacity.getD 0 default).getD 1 default)=1))
              else
               F false
             else
              F false
            else
             F false
           else
            F false
          else
           F false
         else
          F false
        else
         F false
       else
        F false
      else
       F false
     else
      F false))
  (fun I=>
   bif (decide (A.2.2≠0)) then
    I true
   else
    bif (decide (J.2≠0)) then
     I true
    else
     bif (decide (M.2≠0)) then
      I true
     else
      bif (decide (N.2≠0)) then
       I true
      else
       bif (decide (G.2.2≠0)) then
        I true
       else
        bif (decide (Q.2.2≠2)) then
         I true
        else
         bif (decide (Bq.2≠0)) then
          I true
         else
          (G8 U (⟨[0,0],([]:List A8)⟩:AS)).bind fun W=>
          I (decide (W≠320)))

def FM:Option Bool:=
 G9.bind fun A=>
 (Ec A).bind fun F=>
 (Gu A (⟨[1,2],[(⟨0,1⟩:A8)]⟩:AS)).bind fun I=>
 (Gu A (⟨[0,1],[(⟨0,1⟩:A8)]⟩:AS)).bind fun J=>
 (Gu A (⟨[1,2],([]:List A8)⟩:AS)).bind fun M=>
 (Ec (⟨([]:List AK),[([]:List Int)],([]:List AL)⟩:A9)).bind fun G=>
 B8 (Gh A F I J M G) (((17:Int) - 0).toNat+1) 0 ([]:List AL)

theorem Ju {w:World} {O:List Nat} (hO:∀k∈O,k<w.heap.size) {x:Bool} (N:FM=some x):
 Ok Try.prog 10 [] w O vB x:=by
 unfold FM at N
 refine Bt (n:=179) (xs:=[.tmp 0]) Try.func10 Av Try.ntmps10 Try.results10 Av ?_
 have hs:=St.start hO
 refine Ax<|Aw<|Bn (Bo false) Av<|Ay<|Ax<|Aw ?_
 obtain⟨U,gX,N⟩:=bd N
 refine AA<|Bj hs Try.call29 (JA hs.ltw gX) Av ?_
 rintro v2 w3 p7 e8 h5
 obtain⟨_,rfl,⟨_,_,rfl,⟨Aa,Ca,rfl,Fa⟩,⟨_,_,rfl,⟨Ab,Cb,rfl,Fb⟩,⟨Ac,Cc,rfl,Fc⟩⟩⟩⟩:=h5
 refine AA<|Bx Bw e8 ?_
 intro b9 jK _ gY dF
 clear e8
 refine Bk<|Cx .z Bw dF Av Av Av Av Av ?_
 intro jL gZ bA
 clear dF
 refine Ay<|Ax<|Aw<|AA<|Bz 0 Bw bA Av Av Av ?_
 obtain⟨A,e9,N⟩:=bd N
 have d1:=(gY.trans gZ)
 replace Fb:=Fb.step d1;replace Fa:=Fa.step d1;replace Fc:=Fc.step d1
 refine AA<|Bj bA Try.call13 (G3 (p:=U) bA.ltw Fa Fb Fc e9) Av ?_
 rintro jM jN g1 dG g2
 clear bA
 obtain⟨jO,jP,jQ,rfl,g3,g4,g5⟩:=g2
 obtain⟨_,rfl,⟨_,_,rfl,⟨Ad,Cd,rfl,Fd⟩,⟨Ae,Ce,rfl,Fe⟩⟩⟩:=g3
 obtain rfl:=g4
 obtain⟨rfl,Ra⟩:=g5
 refine Be (Value.tuple [Value.agg [Sl Ad A.1.variables Cd,Sl Ae A.1.places Ce].toArray,Bo A.2.1,Iv A.2.2].toArray) Av<|AA<|Bg (v:=Value.agg [Sl Ad A.1.variables Cd,Sl Ae A.1.places Ce].toArray) Av Av<|AA<|Bg (v:=Bo A.2.1) Av Av<|AA<|Bg (v:=Iv A.2.2) Av Av<|AA<|Bx Dq dG ?_
 intro aA jR _ fA dH
 clear dG
 refine Bk<|Cx .z Dq dH Av Av Av Av Av ?_
 intro jS fB dI
 clear dH
 refine Bn (Bo A.2.1) Av<|Bn (Iv A.2.2) Av<|Ay<|Ax<|Aw<|AA<|Bf (cs:=[Iv 1,Iv 2]) (parts:=[(0,.const (.int .i64 1)),(1,.const (.int .i64 2))]) Bp BD dI (by decide) Av ?_
 intro aH jT hU fC dJ
 clear dI
 refine AA<|Dv (vs:=[Iv 0,Iv 1]) (parts:=[(1,.const (.int .i64 1))]) BW Ve Av<|AA<|Bf (cs:=[Iv 0,Iv 1]) (parts:=[(0,.tmp 29)]) Ep BW dJ (by decide) Av ?_
 intro aC fD hV fE dK
 clear dJ
 have d2:=Gs.of_cells (p:=(AM .i64)) (e:=3) (bl:=aH) (c:=2) (w:=fD) (O:=ks [(some aC,Oc [Iv 0,Iv 1] 45),(some aH,Oc [Iv 1,Iv 2] 3),(some aA,Oc [Sl Ad A.1.variables Cd,Sl Ae A.1.places Ce] 34),(some b9,Oc (C0 U Aa Ca Ab Cb Ac Cc) 26)] O) (show Ej (AM .i64) _ _ [Iv 1,Iv 2] [1,2] from⟨_,_,Av,AW MC,⟨_,_,Av,AW (show BR .i64 2 from by decide),Ej.nil⟩⟩) Av (BG Av)
 have d3:=Gs.of_cells (p:=AO) (e:=45) (bl:=aC) (c:=1) (w:=fD) (O:=ks [(some aC,Oc [Iv 0,Iv 1] 45),(some aH,Obj.cells [Iv 1,Iv 2].toArray 3),(some aA,Oc [Sl Ad A.1.variables Cd,Sl Ae A.1.places Ce] 34),(some b9,Oc (C0 U Aa Ca Ab Cb Ac Cc) 26)] O) (show Ej AO _ _ [Iv 0,Iv 1] [(⟨0,1⟩:A8)] from⟨_,_,Av,Cz (AU (AW EG) (AW MC)),Ej.nil⟩) Av (BG Av)
 refine AA<|Dv (vs:=[Sl (some ⟨aH,0,none⟩) [1,2] 2,Sl (some ⟨aC,0,none⟩) [(⟨0,1⟩:A8)] 1]) (parts:=[(0,.tmp 28),(1,.tmp 30)]) Dq NE Av<|AA<|Bx Dq dK ?_
 intro aD jU _ d4 dL
 clear dK
 refine Bk<|Cx .z Dq dL Av Av Av Av Av ?_
 intro jV d5 bB
 clear dL
 refine Ay<|Ax<|Aw<|AA<|Bz 4 Bw bB Av Av Av<|AA<|Bz 0 Dq bB Av Av Av ?_
 have fF:=(d4.trans d5)
 replace d2:=d2.step fF
 obtain⟨dM,d6,aS⟩:=Gs.publish (i:=2) bB Av d2
 clear bB
 replace d3:=d3.step (fF.trans d6)
 obtain⟨b0,d7,aN⟩:=Gs.publish (i:=1) dM Av d3
 clear dM
 obtain⟨G,fG,N⟩:=bd N
 replace aS:=aS.step d7
 have d8:=(g1.trans (fA.trans (fB.trans (fC.trans (fE.trans (d4.trans (d5.trans (d6.trans d7))))))))
 replace Fb:=Fb.step d8;replace Fa:=Fa.step d8;replace Fc:=Fc.step d8
 refine AA<|Bj b0 Try.call17 (HN (p:=U) (r_:=(⟨[1,2],[(⟨0,1⟩:A8)]⟩:AS)) b0.ltw Fa Fb Fc aS aN fG) Av ?_
 rintro jW jX fH b1 g6
 clear b0
 obtain⟨jY,jZ,rfl,g7,g8⟩:=g6
 obtain rfl:=g7
 obtain⟨rfl,Rb⟩:=g8
 refine Be (Value.tuple [Bo G.1,Iv G.2].toArray) Av<|AA<|Bg (v:=Bo G.1) Av Av<|AA<|Bg (v:=Iv G.2) Av Av<|Bn (Bo G.1) Av<|Bn (Iv G.2) Av<|Ay<|Ax<|Wr [] [(1,Pt b9 0),(2,Pt aA 0),(3,Bo A.2.1),(4,Iv A.2.2),(5,Pt aD 0),(6,Bo G.1),(7,Iv G.2)] fun hW=>Aw<|AA<|Bz 2 Bw b1 Av Av Av<|AA<|Bf (cs:=[Iv 0,Iv 1]) (parts:=[(0,.const (.int .i64 0)),(1,.const (.int .i64 1))]) Bp BD b1 (by decide) Av ?_
 intro d9 g9 hX fI b2
 clear b1
 refine AA<|AP 1 Dq Av Ep Av Av<|AA<|AQ 1 Ep b2 Av Av Av ?_
 have hA:=Gs.of_cells (p:=(AM .i64)) (e:=3) (bl:=d9) (c:=2) (w:=g9) (O:=ks [(some d9,Oc [Iv 0,Iv 1] 3),(some aD,Oc [Sl (some ⟨aH,0,none⟩) [1,2] 2,Sl (some ⟨aC,0,none⟩) [(⟨0,1⟩:A8)] 1] 34),(some aA,Oc [Sl Ad A.1.variables Cd,Sl Ae A.1.places Ce] 34),(some b9,Oc (C0 U Aa Ca Ab Cb Ac Cc) 26)] O) (show Ej (AM .i64) _ _ [Iv 0,Iv 1] [0,1] from⟨_,_,Av,AW EG,⟨_,_,Av,AW MC,Ej.nil⟩⟩) Av (BG Av)
 refine AA<|Dv (vs:=[Sl (some ⟨d9,0,none⟩) [0,1] 2,Sl (some ⟨aC,0,none⟩) [(⟨0,1⟩:A8)] 1]) (parts:=[(0,.tmp 40),(1,.tmp 42)]) Dq NE Av ?_
 obtain⟨b3,fJ,fK⟩:=Gs.publish (i:=0) b2 Av hA
 clear b2
 obtain⟨I,fL,N⟩:=bd N
 have aV:=(fH.trans (fI.trans fJ))
 replace aN:=aN.step aV;replace Fb:=Fb.step aV;replace Fa:=Fa.step aV;replace Fc:=Fc.step aV
 refine AA<|Bj b3 Try.call17 (HN (p:=U) (r_:=(⟨[0,1],[(⟨0,1⟩:A8)]⟩:AS)) b3.ltw Fa Fb Fc fK aN fL) Av ?_
 rintro j0 j1 b4 a2 fM
 clear b3
 obtain⟨hY,hZ,rfl,fN,fO⟩:=fM
 obtain rfl:=fN
 obtain⟨rfl,Rc⟩:=fO
 refine Be (Value.tuple [Bo I.1,Iv I.2].toArray) Av<|AA<|Bg (v:=Bo I.1) Av Av<|AA<|Bg (v:=Iv I.2) Av Av<|Bn (Bo I.1) Av<|Bn (Iv I.2) Av<|Ay<|Ax ?_
 clear fK
 refine Aw<|AA<|Bz 2 Bw a2 Av Av Av<|AA<|Bf (cs:=[Iv 1,Iv 2]) (parts:=[(0,.const (.int .i64 1)),(1,.const (.int .i64 2))]) Bp BD a2 (by decide) Av ?_
 intro b5 fP hB b6 b7
 clear a2
 have fQ:=Gs.of_cells (p:=(AM .i64)) (e:=3) (bl:=b5) (c:=2) (w:=fP) (O:=ks [(some b5,Oc [Iv 1,Iv 2] 3),(some aD,Oc [Sl (some ⟨aH,0,none⟩) [1,2] 2,Sl (some ⟨aC,0,none⟩) [(⟨0,1⟩:A8)] 1] 34),(some aA,Oc [Sl Ad A.1.variables Cd,Sl Ae A.1.places Ce] 34),(some b9,Oc (C0 U Aa Ca Ab Cb Ac Cc) 26)] O) (show Ej (AM .i64) _ _ [Iv 1,Iv 2] [1,2] from⟨_,_,Av,AW MC,⟨_,_,Av,AW (show BR .i64 2 from by decide),Ej.nil⟩⟩) Av (BG Av)
 refine AA<|Dv (vs:=[Sl (some ⟨b5,0,none⟩) [1,2] 2,Value.slice none 0 0]) (parts:=[(0,.tmp 49)]) Dq NE Av ?_
 obtain⟨a3,b8,dN⟩:=Gs.publish (i:=0) b7 Av fQ
 clear b7
 obtain⟨J,eA,N⟩:=bd N
 have bC:=(b4.trans (b6.trans b8))
 replace Fb:=Fb.step bC;replace Fa:=Fa.step bC;replace Fc:=Fc.step bC
 refine AA<|Bj a3 Try.call17 (HN (p:=U) (r_:=(⟨[1,2],([]:List A8)⟩:AS)) a3.ltw Fa Fb Fc dN CA.nil_ eA) Av ?_
 rintro h0 h1 bD cA fR
 clear a3
 obtain⟨h2,h3,rfl,fS,fT⟩:=fR
 obtain rfl:=fS
 obtain⟨rfl,Rd⟩:=fT
 refine Be (Value.tuple [Bo J.1,Iv J.2].toArray) Av<|AA<|Bg (v:=Bo J.1) Av Av<|AA<|Bg (v:=Iv J.2) Av Av<|Bn (Bo J.1) Av<|Bn (Iv J.2) Av<|Ay<|Ax ?_
 clear dN
 refine Aw<|AA<|Bf (cs:=[Value.slice none 0 0]) (parts:=[(0,.const (.slice none 0 0))]) CB Bp cA (by decide) Av ?_
 intro cB fU hC bE cC
 clear cA
 have fV:=Gs.of_cells (p:=BE (AM .i64)) (e:=31) (bl:=cB) (c:=1) (w:=fU) (O:=ks [(some cB,Oc [Value.slice none 0 0] 31),(some aD,Oc [Sl (some ⟨aH,0,none⟩) [1,2] 2,Sl (some ⟨aC,0,none⟩) [(⟨0,1⟩:A8)] 1] 34),(some aA,Oc [Sl Ad A.1.variables Cd,Sl Ae A.1.places Ce] 34),(some b9,Oc (C0 U Aa Ca Ab Cb Ac Cc) 26)] O) (show Ej (BE (AM .i64)) _ _ [Value.slice none 0 0] [([]:List Int)] from⟨_,_,Av,B5 CA.nil_,Ej.nil⟩) Av (BG Av)
 refine AA<|Dv (vs:=[Value.slice none 0 0,Sl (some ⟨cB,0,none⟩) [([]:List Int)] 1,Value.slice none 0 0]) (parts:=[(1,.tmp 55)]) Bw SM Av ?_
 obtain⟨a4,bF,dO⟩:=Gs.publish (i:=0) cC Av fV
 clear cC
 obtain⟨F,eB,N⟩:=bd N
 refine AA<|Bj a4 Try.call13 (G3 (p:=(⟨([]:List AK),[([]:List Int)],([]:List AL)⟩:A9)) a4.ltw CA.nil_ dO CA.nil_ eB) Av ?_
 rintro h4 h6 bG cD fW
 clear a4
 obtain⟨h7,h8,h9,rfl,fX,fY,fZ⟩:=fW
 obtain⟨_,rfl,⟨_,_,rfl,⟨Af,Cf,rfl,Ff⟩,⟨Ag,Cg,rfl,Fg⟩⟩⟩:=fX
 obtain rfl:=fY
 obtain⟨rfl,Re⟩:=fZ
 refine Be (Value.tuple [Value.agg [Sl Af F.1.variables Cf,Sl Ag F.1.places Cg].toArray,Bo F.2.1,Iv F.2.2].toArray) Av<|AA<|Bg (v:=Value.agg [Sl Af F.1.variables Cf,Sl Ag F.1.places Cg].toArray) Av Av<|AA<|Bg (v:=Bo F.2.1) Av Av<|AA<|Bg (v:=Iv F.2.2) Av Av<|AA<|Bx Dq cD ?_
 intro iA iB _ bH cE
 clear cD
 refine Bk<|Cx .z Dq cE Av Av Av Av Av ?_
 intro iC bI cF
 clear cE
 refine Bn (Bo F.2.1) Av<|Bn (Iv F.2.2) Av<|Ay<|Ax ?_
 obtain⟨cG,bJ⟩:=cF.sub (bs':=[(some aD,Oc [Sl (some ⟨aH,0,none⟩) [1,2] 2,Sl (some ⟨aC,0,none⟩) [(⟨0,1⟩:A8)] 1] 34),(some aA,Oc [Sl Ad A.1.variables Cd,Sl Ae A.1.places Ce] 34),(some b9,Oc (C0 U Aa Ca Ab Cb Ac Cc) 26)]) (.cons _ (.cons_cons _ (.cons_cons _ (.cons_cons _ List.Sublist.slnil))))
 clear dO Ff Fg
 clear cF
 refine Wr [] [(1,Pt b9 0),(2,Pt aA 0),(3,Bo A.2.1),(4,Iv A.2.2),(5,Pt aD 0),(6,Bo G.1),(7,Iv G.2),(8,Bo I.1),(9,Iv I.2),(10,Bo J.1),(11,Iv J.2),(13,Bo F.2.1),(14,Iv F.2.2)] fun hD=>Aw<|AA<|Bf (cs:=[Value.slice none 0 0]) (parts:=[(0,.const (.slice none 0 0))]) CB Bp cG (by decide) Av ?_
 intro aI f0 hE bK cH
 clear cG
 have cI:=Gs.of_cells (p:=BE (AM .i64)) (e:=31) (bl:=aI) (c:=1) (w:=f0) (O:=ks [(some aI,Oc [Value.slice none 0 0] 31),(some aD,Oc [Sl (some ⟨aH,0,none⟩) [1,2] 2,Sl (some ⟨aC,0,none⟩) [(⟨0,1⟩:A8)] 1] 34),(some aA,Oc [Sl Ad A.1.variables Cd,Sl Ae A.1.places Ce] 34),(some b9,Oc (C0 U Aa Ca Ab Cb Ac Cc) 26)] O) (show Ej (BE (AM .i64)) _ _ [Value.slice none 0 0] [([]:List Int)] from⟨_,_,Av,B5 CA.nil_,Ej.nil⟩) Av (BG Av)
 refine AA<|Dv (vs:=[Value.slice none 0 0,Sl (some ⟨aI,0,none⟩) [([]:List Int)] 1,Value.slice none 0 0]) (parts:=[(1,.tmp 61)]) Bw SM Av<|AA<|Bx Bw cH ?_
 intro bL iD _ aW cJ
 clear cH
 refine Bk<|Cx .z Bw cJ Av Av Av Av Av ?_
 intro iE aX eC
 clear cJ
 refine Ay<|Ax<|Ax<|Aw<|Be (Iv 0) Av<|Ay<|AE<|Wr [] [(1,Pt b9 0),(2,Pt aA 0),(3,Bo A.2.1),(4,Iv A.2.2),(5,Pt aD 0),(6,Bo G.1),(7,Iv G.2),(8,Bo I.1),(9,Iv I.2),(10,Bo J.1),(11,Iv J.2),(13,Bo F.2.1),(14,Iv F.2.2),(15,Pt bL 0),(63,Iv 0)] fun hF=>?_
 have cK:=eC.ghost (Obj.cells #[] 61)
 refine Bh WH (fun m fr w'=>∃(bZ:Int) (aO:List AL) (Ah:Option Addr) (Ch:Nat) (aJ:Option Nat) (aK:Obj) (aM:Bi),aM=[(aJ,aK),(some bL,Oc [Value.slice none 0 0,Sl (some ⟨aI,0,none⟩) [([]:List Int)] 1,Sl Ah aO Ch] 26),(some aI,Obj.cells [Value.slice none 0 0].toArray 31),(some aD,Oc [Sl (some ⟨aH,0,none⟩) [1,2] 2,Sl (some ⟨aC,0,none⟩) [(⟨0,1⟩:A8)] 1] 34),(some aA,Oc [Sl Ad A.1.variables Cd,Sl Ae A.1.places Ce] 34),(some b9,Oc (C0 U Aa Ca Ab Cb Ac Cc) 26)]∧fr [] [(63,Iv bZ)]∧cK.S (ks aM O) w'∧St ⟨w,[],[]⟩ O w' aM∧BR .i64 bZ∧Gs AT 61 w' (ks aM O) Ah Ch aO aJ aK∧B8 (Gh U A G I J F) m bZ aO=some x) (((17:Int) - 0).toNat+1) ⟨0,([]:List AL),none,0,none,Obj.cells #[] 61,_,Av,BB.of ⟨Av,trivial⟩,AB.refl _ _,cK,EG,Gs.nil_,N⟩ ?_ ?_
 rintro _ _ ⟨_,_,_,_,_,_,_,_,_,_,_,_,_,N⟩;exact D9 N
 rintro iF iG eD hG iH ⟨bZ,aO,Ah,Ch,aJ,aK,_,rfl,bM,aG,aL,Rf,Fh,N⟩
 obtain⟨hH,dE,N⟩:=DA N;unfold Gh at N
 rw [bM.eq];clear bM
 have a5:=aG
 refine Ax<|Aw<|AA<|Bu Av Av<|Ay<|Ax<|AF N Av (fun eE N=>?_) (fun eE N=>?_)
 refine AH<|Ax<|AE<|Aw<|AA<|AP 2 Bw Av CI Av Av<|AA<|AQ 1 CI aL Av Av Av<|AA<|Bf (cs:=[Iv 0]) (parts:=[(0,.const (.int .i64 0))]) Bp BD aL (by decide) Av ?_
 intro aP iI hI f1 cL
 clear aL
 refine AA<|Dv (vs:=[Iv 0,Iv 0,Iv 0,Value.slice none 0 0]) (parts:=[]) Gy Vd Av<|AA<|Bf (cs:=[Iv 0,Iv 0,Iv 0,Value.slice none 0 0]) (parts:=[(0,.tmp 68)]) G0 Gy cL (by decide) Av ?_
 intro aQ dP hJ f2 cM
 clear cL
 have f3:=Gs.of_cells (p:=(AM .i64)) (e:=3) (bl:=aP) (c:=1) (w:=dP) (O:=ks [(some aQ,Oc [Iv 0,Iv 0,Iv 0,Value.slice none 0 0] 58),(some aP,Oc [Iv 0] 3),(aJ,aK),(some bL,Oc [Value.slice none 0 0,Sl (some ⟨aI,0,none⟩) [([]:List Int)] 1,Sl Ah aO Ch] 26),(some aI,Obj.cells [Value.slice none 0 0].toArray 31),(some aD,Oc [Sl (some ⟨aH,0,none⟩) [1,2] 2,Sl (some ⟨aC,0,none⟩) [(⟨0,1⟩:A8)] 1] 34),(some aA,Oc [Sl Ad A.1.variables Cd,Sl Ae A.1.places Ce] 34),(some b9,Oc (C0 U Aa Ca Ab Cb Ac Cc) 26)] O) (show Ej (AM .i64) _ _ [Iv 0] [0] from⟨_,_,Av,AW EG,Ej.nil⟩) Av (BG Av)
 have cN:=Gs.of_cells (p:=BL) (e:=58) (bl:=aQ) (c:=1) (w:=dP) (O:=ks [(some aQ,Oc [Iv 0,Iv 0,Iv 0,Value.slice none 0 0] 58),(some aP,Obj.cells [Iv 0].toArray 3),(aJ,aK),(some bL,Oc [Value.slice none 0 0,Sl (some ⟨aI,0,none⟩) [([]:List Int)] 1,Sl Ah aO Ch] 26),(some aI,Obj.cells [Value.slice none 0 0].toArray 31),(some aD,Oc [Sl (some ⟨aH,0,none⟩) [1,2] 2,Sl (some ⟨aC,0,none⟩) [(⟨0,1⟩:A8)] 1] 34),(some aA,Oc [Sl Ad A.1.variables Cd,Sl Ae A.1.places Ce] 34),(some b9,Oc (C0 U Aa Ca Ab Cb Ac Cc) 26)] O) (show Ej BL _ _ [Iv 0,Iv 0,Iv 0,Value.slice none 0 0] [(⟨0,0,0,([]:List Bv)⟩:AR)] from⟨_,_,Av,Cz (AU (AW EG) (AU (AW EG) (AU (AW EG) (B5 CA.nil_)))),Ej.nil⟩) Av (BG Av)
 refine AA<|Dv (vs:=[Iv 0,Iv 0,Sl (some ⟨aP,0,none⟩) [0] 1,Sl (some ⟨aQ,0,none⟩) [(⟨0,0,0,([]:List Bv)⟩:AR)] 1]) (parts:=[(2,.tmp 67),(3,.tmp 69)]) Ex Wj Av ?_
 obtain⟨cO,dQ,bN⟩:=Gs.publish (i:=1) cM Av f3
 clear cM
 replace cN:=cN.step dQ
 obtain⟨cP,dR,bO⟩:=Gs.publish (i:=0) cO Av cN
 clear cO
 refine AA<|Bf (cs:=[Iv 0,Iv 0,Sl (some ⟨aP,0,none⟩) [0] 1,Sl (some ⟨aQ,0,none⟩) [(⟨0,0,0,([]:List Bv)⟩:AR)] 1]) (parts:=[(0,.tmp 70)]) CI Ex cP (by decide) Av ?_
 intro iJ iK hK cQ a6
 clear cP
 obtain⟨cR,N⟩:=AG N
 replace bN:=bN.step (dR.trans cQ);replace bO:=bO.step cQ
 have dS:=(f1.trans (f2.trans (dQ.trans (dR.trans cQ))))
 replace Fh:=Fh.step dS
 refine AA (DR (q:=AT) (i:=1) (xs:=aO) (ys:=[(⟨0,0,[0],[(⟨0,0,0,([]:List Bv)⟩:AR)]⟩:AL)]) (news:=[Iv 0,Iv 0,Sl (some ⟨aP,0,none⟩) [0] 1,Sl (some ⟨aQ,0,none⟩) [(⟨0,0,0,([]:List Bv)⟩:AR)] 1]) CI Ex Av (by decide) a6 Av Av Fh Av (Mm.owned' (len:=4) (a6.get (i:=0) Av) Av) (show Ej AT _ _ [Iv 0,Iv 0,Sl (some ⟨aP,0,none⟩) [0] 1,Sl (some ⟨aQ,0,none⟩) [(⟨0,0,0,([]:List Bv)⟩:AR)] 1] [(⟨0,0,[0],[(⟨0,0,0,([]:List Bv)⟩:AR)]⟩:AL)] from⟨_,_,Av,Cz (AU (AW EG) (AU (AW EG) (AU (B5 bN) (B5 bO)))),Ej.nil⟩) cR (by have:=cR;simp only [maxLen];omega) ?_)
 intro cS cT f4 f5 iL f6 a7 cU
 clear a6
 have cV:=a7.drop 0
 have dT:=(a7.dropS 0)
 clear a7
 refine AA<|AP 2 Bw Av CI Av Av<|Bk<|II (Sl cS (aO++[(⟨0,0,[0],[(⟨0,0,0,([]:List Bv)⟩:AR)]⟩:AL)]) cT) (cs':=[Value.slice none 0 0,Sl (some ⟨aI,0,none⟩) [([]:List Int)] 1,Sl cS (aO++[(⟨0,0,[0],[(⟨0,0,0,([]:List Bv)⟩:AR)]⟩:AL)]) cT]) HG.p1 CI cV Av Av Av (BG Av) Av Av ?_
 intro iM dU eF
 clear cV
 refine Ay ?_
 clear bN bO
 refine Aw<|AA<|Bm Av Av<|Be (Iv (wq (bZ+1))) Av<|Ay ?_
 replace a5:=a5.trans (dS.trans (f6.trans (dT.trans dU)))
 replace cU:=cU.step (dT.trans dU)
 exact eD _ _ ⟨(wq (bZ+1)),aO++[(⟨0,0,[0],[(⟨0,0,0,([]:List Bv)⟩:AR)]⟩:AL)],cS,cT,f4,f5,_,Av,BB.of ⟨Av,trivial⟩,a5,eF,(AZ .i64 _),cU,GD dE N⟩
 refine Br<|Ax<|Aw<|AA<|Bz 1 Bw aL Av Av Av ?_
 replace cI:=cI.step (aW.trans (aX.trans aG))
 obtain⟨cW,aY,bP⟩:=Gs.publish (i:=2) aL Av cI
 clear aL
 replace Fh:=Fh.step aY
 obtain⟨a8,aZ,dV⟩:=Gs.publish (i:=0) cW Av Fh
 clear cW
 obtain⟨M,eG,N⟩:=bd N
 replace bP:=bP.step aZ
 refine AA<|Bj a8 Try.call13 (G3 (p:=(⟨([]:List AK),[([]:List Int)],aO⟩:A9)) a8.ltw CA.nil_ bP dV eG) Av ?_
 rintro iN iO bQ cX f7
 clear a8
 obtain⟨iP,iQ,iR,rfl,f8,f9,gA⟩:=f7
 obtain⟨_,rfl,⟨_,_,rfl,⟨Ai,Ci,rfl,Fi⟩,⟨Aj,Cj,rfl,Fj⟩⟩⟩:=f8
 obtain rfl:=f9
 obtain⟨rfl,Rg⟩:=gA
 refine Be (Value.tuple [Value.agg [Sl Ai M.1.variables Ci,Sl Aj M.1.places Cj].toArray,Bo M.2.1,Iv M.2.2].toArray) Av<|AA<|Bg (v:=Value.agg [Sl Ai M.1.variables Ci,Sl Aj M.1.places Cj].toArray) Av Av<|AA<|Bg (v:=Bo M.2.1) Av Av<|AA<|Bg (v:=Iv M.2.2) Av Av<|AA<|Bx Dq cX ?_
 intro iS iT _ bR cY
 clear cX
 refine Bk<|Cx .z Dq cY Av Av Av Av Av ?_
 intro iU bS cZ
 clear cY
 refine Bn (Bo M.2.1) Av<|Bn (Iv M.2.2) Av<|Ay<|Ax ?_
 obtain⟨aR,bT⟩:=cZ.sub (bs':=[(some aD,Oc [Sl (some ⟨aH,0,none⟩) [1,2] 2,Sl (some ⟨aC,0,none⟩) [(⟨0,1⟩:A8)] 1] 34),(some aA,Oc [Sl Ad A.1.variables Cd,Sl Ae A.1.places Ce] 34),(some b9,Oc (C0 U Aa Ca Ab Cb Ac Cc) 26)]) (.cons _ (.cons _ (.cons_cons _ (.cons_cons _ (.cons_cons _ List.Sublist.slnil)))))
 clear bP dV Fi Fj
 clear cZ
 refine Aw<|AA<|Bz 2 Bw aR Av Av Av<|AA<|Bz 0 Dq aR Av Av Av ?_
 obtain⟨Bq,eH,N⟩:=bd N
 replace aS:=aS.step (aV.trans (b4.trans (b6.trans (b8.trans (bD.trans (bE.trans (bF.trans (bG.trans (bH.trans (bI.trans (bJ.trans (bK.trans (aW.trans (aX.trans (aG.trans (aY.trans (aZ.trans (bQ.trans (bR.trans (bS.trans bT))))))))))))))))))))
 replace aN:=aN.step (bC.trans (bD.trans (bE.trans (bF.trans (bG.trans (bH.trans (bI.trans (bJ.trans (bK.trans (aW.trans (aX.trans (aG.trans (aY.trans (aZ.trans (bQ.trans (bR.trans (bS.trans bT)))))))))))))))))
 have c0:=(bD.trans (bE.trans (bF.trans (bG.trans (bH.trans (bI.trans (bJ.trans (bK.trans (aW.trans (aX.trans (aG.trans (aY.trans (aZ.trans (bQ.trans (bR.trans (bS.trans bT))))))))))))))))
 replace Fb:=Fb.step c0;replace Fa:=Fa.step c0;replace Fc:=Fc.step c0
 refine AA<|Bj aR Try.call20 (M9 (p:=U) (r_:=(⟨[1,2],[(⟨0,1⟩:A8)]⟩:AS)) aR.ltw Fa Fb Fc aS aN eH) Av ?_
 rintro iV iW c1 c2 gB
 clear aR
 obtain⟨iX,iY,rfl,gC,gD⟩:=gB
 obtain⟨_,rfl,⟨_,_,rfl,⟨Ak,Ck,rfl,Fk⟩,⟨_,_,rfl,⟨Al,Cl,rfl,Fl⟩,⟨Am,Cm,rfl,Fm⟩⟩⟩⟩:=gC
 obtain⟨rfl,Rh⟩:=gD
 refine Be (Value.tuple [Value.agg [Sl Ak Bq.1.cells Ck,Sl Al Bq.1.capacity Cl,Sl Am Bq.1.variables Cm].toArray,Iv Bq.2].toArray) Av<|AA<|Bg (v:=Value.agg [Sl Ak Bq.1.cells Ck,Sl Al Bq.1.capacity Cl,Sl Am Bq.1.variables Cm].toArray) Av Av<|AA<|Bg (v:=Iv Bq.2) Av Av<|AA<|Bx Bw c2 ?_
 intro a0 iZ _ bU c3
 clear c2
 refine Bk<|Cx .z Bw c3 Av Av Av Av Av ?_
 intro i0 bV X
 clear c3
 refine Bn (Iv Bq.2) Av<|Ay<|Ax<|Wr [] [(1,Pt b9 0),(2,Pt aA 0),(3,Bo A.2.1),(4,Iv A.2.2),(5,Pt aD 0),(6,Bo G.1),(7,Iv G.2),(8,Bo I.1),(9,Iv I.2),(10,Bo J.1),(11,Iv J.2),(13,Bo F.2.1),(14,Iv F.2.2),(18,Iv M.2.2),(19,Pt a0 0),(20,Iv Bq.2)] fun hL=>?_
 obtain⟨gE,eI,N⟩:=Dp N
 refine D8 WJ (fun fr w'=>∃(eJ:Bool) (aM:Bi),aM=[(some a0,Oc [Sl Ak Bq.1.cells Ck,Sl Al Bq.1.capacity Cl,Sl Am Bq.1.variables Cm] 26),(some aD,Oc [Sl (some ⟨aH,0,none⟩) [1,2] 2,Sl (some ⟨aC,0,none⟩) [(⟨0,1⟩:A8)] 1] 34),(some aA,Oc [Sl Ad A.1.variables Cd,Sl Ae A.1.places Ce] 34),(some b9,Oc (C0 U Aa Ca Ab Cb Ac Cc) 26)]∧fr [] [(119,Bo eJ)]∧X.S (ks aM O) w'∧St ⟨w,[],[]⟩ O w' aM∧gE eJ=some x) ?_ ?_
 rintro hM i1 ⟨eJ,_,rfl,bW,aT,aB,N⟩
 replace N:=Ed eI N
 rw [bW.eq];clear bW
 refine AF N Av (fun eK N=>?_) (fun eK N=>?_)
 refine Ax ?_
 obtain⟨eL,i2⟩:=aB.sub (bs':=[]) (.cons _ (.cons _ (.cons _ (.cons _ List.Sublist.slnil))))
 clear Fa Fb Fc Fd Fe aS aN Fk Fl Fm
 clear aB
 refine Aw<|Bn (Bo false) Av<|Ay<|AY<|⟨_,En,[Bo false],⟨Av,trivial⟩,eL.ext,?_⟩
 exact Vr.eq (a:=vB) (x:=false) Av (oi N)
 refine AH<|Wr [] [(2,Pt aA 0),(3,Bo A.2.1),(5,Pt aD 0),(6,Bo G.1),(8,Bo I.1),(10,Bo J.1),(13,Bo F.2.1),(19,Pt a0 0)] fun hN=>?_
 obtain⟨gF,eM,N⟩:=Dp N
 refine D8 WI (fun fr w'=>∃(c4:Bool) (aM:Bi),aM=[(some a0,Oc [Sl Ak Bq.1.cells Ck,Sl Al Bq.1.capacity Cl,Sl Am Bq.1.variables Cm] 26),(some aD,Oc [Sl (some ⟨aH,0,none⟩) [1,2] 2,Sl (some ⟨aC,0,none⟩) [(⟨0,1⟩:A8)] 1] 34),(some aA,Oc [Sl Ad A.1.variables Cd,Sl Ae A.1.places Ce] 34),(some b9,Oc (C0 U Aa Ca Ab Cb Ac Cc) 26)]∧fr [] [(0,Bo c4)]∧aB.S (ks aM O) w'∧St ⟨w,[],[]⟩ O w' aM∧gF c4=some x) ?_ ?_
 rintro hP i3 ⟨c4,_,rfl,bX,gW,eN,N⟩
 replace N:=Ed eM N
 rw [bX.eq];clear bX
 refine AY<|⟨_,En,[Bo c4],⟨Av,trivial⟩,eN.ext,?_⟩
 exact Vr.eq (a:=vB) (x:=c4) Av (oi N)
 intro i4 Y
 have Q:=aB.stepR
 refine Aw<|Be (Bo A.2.1) Av<|Be (Bo A.2.1) Av<|B4 N (fun eO N=>?_) (fun eO N=>?_)
 refine BN Av Av<|Bz 2 Dq aB Av Av Av<|BN Av Av<|Bz 1 Dq aB Av Av Av ?_
 obtain⟨bY,eP,N⟩:=bd N
 have dW:=(c1.trans (bU.trans (bV.trans aT)))
 replace aS:=aS.step dW;replace aN:=aN.step dW
 have dX:=(fA.trans (fB.trans (fC.trans (fE.trans (d4.trans (d5.trans (d6.trans (d7.trans (fH.trans (fI.trans (fJ.trans (b4.trans (b6.trans (b8.trans (bD.trans (bE.trans (bF.trans (bG.trans (bH.trans (bI.trans (bJ.trans (bK.trans (aW.trans (aX.trans (aG.trans (aY.trans (aZ.trans (bQ.trans (bR.trans (bS.trans (bT.trans (c1.trans (bU.trans (bV.trans aT))))))))))))))))))))))))))))))))))
 replace Fe:=Fe.step dX;replace Fd:=Fd.step dX
 refine BN Av Av<|Bj aB Try.call27 (Hz (a:=A.1) (b:=(⟨[1,2],[(⟨0,1⟩:A8)]⟩:AS)) aB.ltw Fd Fe aS aN eP) Av ?_
 rintro i5 i6 aE W gG
 obtain rfl:=gG
 refine FR (Bo bY) Av Av<|Be (Bo bY) Av<|B4 N (fun eQ N=>?_) (fun eQ N=>?_)
 refine BN Av Av<|AD (v:=Bo G.1) Av<|FR (Bo G.1) Av Av<|Be (Bo G.1) Av<|B4 N (fun eR N=>?_) (fun eR N=>?_)
 refine BN Av Av<|AD (v:=Bo I.1) Av<|BN Av Av<|Es Av<|FR (Bo (!I.1)) Av Av<|Be (Bo (!I.1)) Av<|B4 N (fun eS N=>?_) (fun eS N=>?_)
 refine BN Av Av<|AD (v:=Bo J.1) Av<|BN Av Av<|Es Av<|FR (Bo (!J.1)) Av Av<|Be (Bo (!J.1)) Av<|B4 N (fun eT N=>?_) (fun eT N=>?_)
 refine BN Av Av<|AD (v:=Bo F.2.1) Av<|BN Av Av<|Es Av<|FR (Bo (!F.2.1)) Av Av<|Be (Bo (!F.2.1)) Av<|B4 N (fun eU N=>?_) (fun eU N=>?_)
 refine BN Av Av<|AP 2 Bw Av CI Av Av<|BN Av Av<|AQ 0 CI W Av Av Av<|BN Av Av<|Bd Try.underlying24 Av ?_
 have dY:=(bU.trans (bV.trans (aT.trans aE)))
 replace Fm:=Fm.step dY
 have hQ:=Bb Fm
 refine BN Av Av<|GV Av Av<|FR (Bo (decide ((Bq.1.variables.length:Int)=2))) Av Av<|Be (Bo (decide ((Bq.1.variables.length:Int)=2))) Av<|B4 N (fun eV N=>?_) (fun eV N=>?_)
 refine BN Av Av<|AP 1 Bw Av CB Av Av<|BN Av Av<|AQ 0 CB W Av Av Av<|BN Av Av<|Bd Try.underlying23 Av ?_
 replace Fl:=Fl.step dY
 have hR:=Bb Fl
 refine BN Av Av<|GV Av Av<|FR (Bo (decide ((Bq.1.capacity.length:Int)=1))) Av Av<|Be (Bo (decide ((Bq.1.capacity.length:Int)=1))) Av<|B4 N (fun eW N=>?_) (fun eW N=>?_)
 refine BN Av Av<|AP 1 Bw Av CB Av Av<|BN Av Av<|AQ 0 CB W Av Av Av ?_
 obtain⟨c5,N⟩:=AG N
 refine BN Av Av<|AC (q:=BE (AM .i64)) CB Bp Av Av Fl Av c5.1 c5.2 ?_
 intro i7 gH
 refine BN Av Av<|AX Bp Av gH Av ?_
 intro i8 gI
 obtain⟨An,Cn,rfl,Fn⟩:=BH gI
 refine BN Av Av<|Bd Try.underlying31 Av ?_
 have hS:=Bb Fn
 refine BN Av Av<|GV Av Av<|FR (Bo (decide (((Bq.1.capacity.getD 0 default).length:Int)=2))) Av Av<|Be (Bo (decide (((Bq.1.capacity.getD 0 default).length:Int)=2))) Av<|B4 N (fun eX N=>?_) (fun eX N=>?_)
 refine BN Av Av<|AP 1 Bw Av CB Av Av<|BN Av Av<|AQ 0 CB W Av Av Av ?_
 obtain⟨c6,N⟩:=AG N
 refine BN Av Av<|AC (q:=BE (AM .i64)) CB Bp Av Av Fl Av c6.1 c6.2 ?_
 intro i9 gJ
 refine BN Av Av<|AX Bp Av gJ Av ?_
 intro jA gK
 obtain⟨Ao,Co,rfl,Fo⟩:=BH gK
 obtain⟨c7,N⟩:=AG N
 refine BN Av Av<|AC (q:=(AM .i64)) Bp BD Av Av Fo Av c7.1 c7.2 ?_
 intro jB gL
 refine BN Av Av<|AX BD Av gL Av ?_
 intro jC gM
 obtain⟨rfl,Ri⟩:=C3 gM
 refine BN Av Av<|GV Av Av<|FR (Bo (decide (((Bq.1.capacity.getD 0 default).getD 0 default)=4096))) Av Av<|Be (Bo (decide (((Bq.1.capacity.getD 0 default).getD 0 default)=4096))) Av<|B4 N (fun eY N=>?_) (fun eY N=>?_)
 refine BN Av Av<|AP 1 Bw Av CB Av Av<|BN Av Av<|AQ 0 CB W Av Av Av ?_
 obtain⟨c8,N⟩:=AG N
 refine BN Av Av<|AC (q:=BE (AM .i64)) CB Bp Av Av Fl Av c8.1 c8.2 ?_
 intro jD gN
 refine BN Av Av<|AX Bp Av gN Av ?_
 intro jE gO
 obtain⟨Ap,Cp,rfl,Fp⟩:=BH gO
 obtain⟨c9,N⟩:=AG N
 refine BN Av Av<|AC (q:=(AM .i64)) Bp BD Av Av Fp Av c9.1 c9.2 ?_
 intro gP dA
 replace dA:Iy (AM .i64) _ _ gP ((Bq.1.capacity.getD 0 default).getD 1 default):=dA
 refine BN Av Av<|AX BD Av dA Av ?_
 intro jF gQ
 obtain⟨rfl,Rj⟩:=C3 gQ
 refine BN Av Av<|GV Av Av<|FR (Bo (decide (((Bq.1.capacity.getD 0 default).getD 1 default)=1))) Av Av<|Bn (Bo (decide (((Bq.1.capacity.getD 0 default).getD 1 default)=1))) Av<|Ay ?_
 replace Q:=Q.trans aE
 exact Y _ _ ⟨decide (((Bq.1.capacity.getD 0 default).getD 1 default)=1),_,Av,BB.of ⟨Av,trivial⟩,Q,W,N⟩
 iterate 7 refine AI Av (AJ Av Av) Av ?_
 refine FF (Bo false) Av Av<|Bn (Bo false) Av<|Ay ?_
 replace Q:=Q.trans aE
 exact Y _ _ ⟨false,_,Av,BB.of ⟨Av,trivial⟩,Q,W,N⟩
 iterate 7 refine AI Av (AJ Av Av) Av ?_
 refine FF (Bo false) Av Av<|Be (Bo false) Av ?_
 iterate 7 refine AI Av (AJ Av Av) Av ?_
 refine FF (Bo false) Av Av<|Bn (Bo false) Av<|Ay ?_
 replace Q:=Q.trans aE
 exact Y _ _ ⟨false,_,Av,BB.of ⟨Av,trivial⟩,Q,W,N⟩
 iterate 6 refine AI Av (AJ Av Av) Av ?_
 refine FF (Bo false) Av Av<|Be (Bo false) Av ?_
 iterate 7 refine AI Av (AJ Av Av) Av ?_
 refine FF (Bo false) Av Av<|Be (Bo false) Av ?_
 iterate 7 refine AI Av (AJ Av Av) Av ?_
 refine FF (Bo false) Av Av<|Bn (Bo false) Av<|Ay ?_
 replace Q:=Q.trans aE
 exact Y _ _ ⟨false,_,Av,BB.of ⟨Av,trivial⟩,Q,W,N⟩
 iterate 4 refine AI Av (AJ Av Av) Av ?_
 refine FF (Bo false) Av Av<|Be (Bo false) Av ?_
 iterate 6 refine AI Av (AJ Av Av) Av ?_
 refine FF (Bo false) Av Av<|Be (Bo false) Av ?_
 iterate 7 refine AI Av (AJ Av Av) Av ?_
 refine FF (Bo false) Av Av<|Be (Bo false) Av ?_
 iterate 7 refine AI Av (AJ Av Av) Av ?_
 refine FF (Bo false) Av Av<|Bn (Bo false) Av<|Ay ?_
 replace Q:=Q.trans aE
 exact Y _ _ ⟨false,_,Av,BB.of ⟨Av,trivial⟩,Q,W,N⟩
 iterate 4 refine AI Av (AJ Av Av) Av ?_
 refine FF (Bo false) Av Av<|Be (Bo false) Av ?_
 iterate 4 refine AI Av (AJ Av Av) Av ?_
 refine FF (Bo false) Av Av<|Be (Bo false) Av ?_
 iterate 6 refine AI Av (AJ Av Av) Av ?_
 refine FF (Bo false) Av Av<|Be (Bo false) Av ?_
 iterate 7 refine AI Av (AJ Av Av) Av ?_
 refine FF (Bo false) Av Av<|Be (Bo false) Av ?_
 iterate 7 refine AI Av (AJ Av Av) Av ?_
 refine FF (Bo false) Av Av<|Bn (Bo false) Av<|Ay ?_
 replace Q:=Q.trans aE
 exact Y _ _ ⟨false,_,Av,BB.of ⟨Av,trivial⟩,Q,W,N⟩
 refine AI Av (AJ Av Av) Av<|AI Av (AJ Av Av) Av<|FF (Bo false) Av Av<|Be (Bo false) Av ?_
 iterate 4 refine AI Av (AJ Av Av) Av ?_
 refine FF (Bo false) Av Av<|Be (Bo false) Av ?_
 iterate 4 refine AI Av (AJ Av Av) Av ?_
 refine FF (Bo false) Av Av<|Be (Bo false) Av ?_
 iterate 6 refine AI Av (AJ Av Av) Av ?_
 refine FF (Bo false) Av Av<|Be (Bo false) Av ?_
 iterate 7 refine AI Av (AJ Av Av) Av ?_
 refine FF (Bo false) Av Av<|Be (Bo false) Av ?_
 iterate 7 refine AI Av (AJ Av Av) Av ?_
 refine FF (Bo false) Av Av<|Bn (Bo false) Av<|Ay ?_
 replace Q:=Q.trans aE
 exact Y _ _ ⟨false,_,Av,BB.of ⟨Av,trivial⟩,Q,W,N⟩
 refine AI Av (AJ Av Av) Av<|AI Av (AJ Av Av) Av<|FF (Bo false) Av Av<|Be (Bo false) Av<|AI Av (AJ Av Av) Av<|AI Av (AJ Av Av) Av<|FF (Bo false) Av Av<|Be (Bo false) Av ?_
 iterate 4 refine AI Av (AJ Av Av) Av ?_
 refine FF (Bo false) Av Av<|Be (Bo false) Av ?_
 iterate 4 refine AI Av (AJ Av Av) Av ?_
 refine FF (Bo false) Av Av<|Be (Bo false) Av ?_
 iterate 6 refine AI Av (AJ Av Av) Av ?_
 refine FF (Bo false) Av Av<|Be (Bo false) Av ?_
 iterate 7 refine AI Av (AJ Av Av) Av ?_
 refine FF (Bo false) Av Av<|Be (Bo false) Av ?_
 iterate 7 refine AI Av (AJ Av Av) Av ?_
 refine FF (Bo false) Av Av<|Bn (Bo false) Av<|Ay ?_
 replace Q:=Q.trans aE
 exact Y _ _ ⟨false,_,Av,BB.of ⟨Av,trivial⟩,Q,W,N⟩
 refine AI Av (AJ Av Av) Av<|AI Av (AJ Av Av) Av<|FF (Bo false) Av Av<|Be (Bo false) Av<|AI Av (AJ Av Av) Av<|AI Av (AJ Av Av) Av<|FF (Bo false) Av Av<|Be (Bo false) Av<|AI Av (AJ Av Av) Av<|AI Av (AJ Av Av) Av<|FF (Bo false) Av Av<|Be (Bo false) Av ?_
 iterate 4 refine AI Av (AJ Av Av) Av ?_
 refine FF (Bo false) Av Av<|Be (Bo false) Av ?_
 iterate 4 refine AI Av (AJ Av Av) Av ?_
 refine FF (Bo false) Av Av<|Be (Bo false) Av ?_
 iterate 6 refine AI Av (AJ Av Av) Av ?_
 refine FF (Bo false) Av Av<|Be (Bo false) Av ?_
 iterate 7 refine AI Av (AJ Av Av) Av ?_
 refine FF (Bo false) Av Av<|Be (Bo false) Av ?_
 iterate 7 refine AI Av (AJ Av Av) Av ?_
 refine FF (Bo false) Av Av<|Bn (Bo false) Av<|Ay ?_
 replace Q:=Q.trans aE
 exact Y _ _ ⟨false,_,Av,BB.of ⟨Av,trivial⟩,Q,W,N⟩
 refine AI Av (AJ Av Av) Av<|FF (Bo false) Av Av<|Be (Bo false) Av<|AI Av (AJ Av Av) Av<|AI Av (AJ Av Av) Av<|FF (Bo false) Av Av<|Be (Bo false) Av<|AI Av (AJ Av Av) Av<|AI Av (AJ Av Av) Av<|FF (Bo false) Av Av<|Be (Bo false) Av<|AI Av (AJ Av Av) Av<|AI Av (AJ Av Av) Av<|FF (Bo false) Av Av<|Be (Bo false) Av ?_
 iterate 4 refine AI Av (AJ Av Av) Av ?_
 refine FF (Bo false) Av Av<|Be (Bo false) Av ?_
 iterate 4 refine AI Av (AJ Av Av) Av ?_
 refine FF (Bo false) Av Av<|Be (Bo false) Av ?_
 iterate 6 refine AI Av (AJ Av Av) Av ?_
 refine FF (Bo false) Av Av<|Be (Bo false) Av ?_
 iterate 7 refine AI Av (AJ Av Av) Av ?_
 refine FF (Bo false) Av Av<|Be (Bo false) Av ?_
 iterate 7 refine AI Av (AJ Av Av) Av ?_
 refine FF (Bo false) Av Av<|Bn (Bo false) Av<|Ay ?_
 replace Q:=Q.trans aE
 exact Y _ _ ⟨false,_,Av,BB.of ⟨Av,trivial⟩,Q,W,N⟩
 iterate 3 refine AI Av (AJ Av Av) Av ?_
 refine FF (Bo false) Av Av<|Be (Bo false) Av<|AI Av (AJ Av Av) Av<|FF (Bo false) Av Av<|Be (Bo false) Av<|AI Av (AJ Av Av) Av<|AI Av (AJ Av Av) Av<|FF (Bo false) Av Av<|Be (Bo false) Av<|AI Av (AJ Av Av) Av<|AI Av (AJ Av Av) Av<|FF (Bo false) Av Av<|Be (Bo false) Av<|AI Av (AJ Av Av) Av<|AI Av (AJ Av Av) Av<|FF (Bo false) Av Av<|Be (Bo false) Av ?_
 iterate 4 refine AI Av (AJ Av Av) Av ?_
 refine FF (Bo false) Av Av<|Be (Bo false) Av ?_
 iterate 4 refine AI Av (AJ Av Av) Av ?_
 refine FF (Bo false) Av Av<|Be (Bo false) Av ?_
 iterate 6 refine AI Av (AJ Av Av) Av ?_
 refine FF (Bo false) Av Av<|Be (Bo false) Av ?_
 iterate 7 refine AI Av (AJ Av Av) Av ?_
 refine FF (Bo false) Av Av<|Be (Bo false) Av ?_
 iterate 7 refine AI Av (AJ Av Av) Av ?_
 exact FF (Bo false) Av Av<|Bn (Bo false) Av<|Ay<|Y _ _ ⟨false,_,Av,BB.of ⟨Av,trivial⟩,Q,aB,N⟩
 intro jG aF
 have Z:=X.stepR
 refine Aw<|Be (Iv A.2.2) Av<|AA<|FB Av Av<|Be (Bo (decide (A.2.2≠0))) Av<|B4 N (fun eZ N=>?_) (fun eZ N=>?_)
 refine AI Av (AJ Av Av) Av<|AI Av (AJ Av Av) Av<|FR (Bo true) Av Av<|Be (Bo true) Av<|AI Av (AJ Av Av) Av<|AI Av (AJ Av Av) Av<|FR (Bo true) Av Av<|Be (Bo true) Av<|AI Av (AJ Av Av) Av<|AI Av (AJ Av Av) Av<|FR (Bo true) Av Av<|Be (Bo true) Av<|AI Av (AJ Av Av) Av<|AI Av (AJ Av Av) Av<|FR (Bo true) Av Av<|Be (Bo true) Av<|AI Av (AJ Av Av) Av<|AI Av (AJ Av Av) Av<|FR (Bo true) Av Av<|Be (Bo true) Av<|AI Av (AJ Av Av) Av<|AI Av (AJ Av Av) Av<|FR (Bo true) Av Av<|Be (Bo true) Av ?_
 iterate 5 refine AI Av (AJ Av Av) Av ?_
 exact FR (Bo true) Av Av<|Ay<|aF _ _ ⟨true,_,Av,BB.of ⟨Av,trivial⟩,Z,X,N⟩
 refine BN Av Av<|AD (v:=Iv G.2) Av<|BN Av Av<|FB Av Av<|FF (Bo (decide (G.2≠0))) Av Av<|Be (Bo (decide (G.2≠0))) Av<|B4 N (fun e0 N=>?_) (fun e0 N=>?_)
 refine AI Av (AJ Av Av) Av<|AI Av (AJ Av Av) Av<|FR (Bo true) Av Av<|Be (Bo true) Av<|AI Av (AJ Av Av) Av<|AI Av (AJ Av Av) Av<|FR (Bo true) Av Av<|Be (Bo true) Av<|AI Av (AJ Av Av) Av<|AI Av (AJ Av Av) Av<|FR (Bo true) Av Av<|Be (Bo true) Av<|AI Av (AJ Av Av) Av<|AI Av (AJ Av Av) Av<|FR (Bo true) Av Av<|Be (Bo true) Av<|AI Av (AJ Av Av) Av<|AI Av (AJ Av Av) Av<|FR (Bo true) Av Av<|Be (Bo true) Av ?_
 iterate 5 refine AI Av (AJ Av Av) Av ?_
 exact FR (Bo true) Av Av<|Ay<|aF _ _ ⟨true,_,Av,BB.of ⟨Av,trivial⟩,Z,X,N⟩
 refine BN Av Av<|AD (v:=Iv I.2) Av<|BN Av Av<|FB Av Av<|FF (Bo (decide (I.2≠0))) Av Av<|Be (Bo (decide (I.2≠0))) Av<|B4 N (fun e1 N=>?_) (fun e1 N=>?_)
 refine AI Av (AJ Av Av) Av<|AI Av (AJ Av Av) Av<|FR (Bo true) Av Av<|Be (Bo true) Av<|AI Av (AJ Av Av) Av<|AI Av (AJ Av Av) Av<|FR (Bo true) Av Av<|Be (Bo true) Av<|AI Av (AJ Av Av) Av<|AI Av (AJ Av Av) Av<|FR (Bo true) Av Av<|Be (Bo true) Av<|AI Av (AJ Av Av) Av<|AI Av (AJ Av Av) Av<|FR (Bo true) Av Av<|Be (Bo true) Av ?_
 iterate 5 refine AI Av (AJ Av Av) Av ?_
 exact FR (Bo true) Av Av<|Ay<|aF _ _ ⟨true,_,Av,BB.of ⟨Av,trivial⟩,Z,X,N⟩
 refine BN Av Av<|AD (v:=Iv J.2) Av<|BN Av Av<|FB Av Av<|FF (Bo (decide (J.2≠0))) Av Av<|Be (Bo (decide (J.2≠0))) Av<|B4 N (fun e2 N=>?_) (fun e2 N=>?_)
 refine AI Av (AJ Av Av) Av<|AI Av (AJ Av Av) Av<|FR (Bo true) Av Av<|Be (Bo true) Av<|AI Av (AJ Av Av) Av<|AI Av (AJ Av Av) Av<|FR (Bo true) Av Av<|Be (Bo true) Av<|AI Av (AJ Av Av) Av<|AI Av (AJ Av Av) Av<|FR (Bo true) Av Av<|Be (Bo true) Av ?_
 iterate 5 refine AI Av (AJ Av Av) Av ?_
 exact FR (Bo true) Av Av<|Ay<|aF _ _ ⟨true,_,Av,BB.of ⟨Av,trivial⟩,Z,X,N⟩
 refine BN Av Av<|AD (v:=Iv F.2.2) Av<|BN Av Av<|FB Av Av<|FF (Bo (decide (F.2.2≠0))) Av Av<|Be (Bo (decide (F.2.2≠0))) Av<|B4 N (fun e3 N=>?_) (fun e3 N=>?_)
 refine AI Av (AJ Av Av) Av<|AI Av (AJ Av Av) Av<|FR (Bo true) Av Av<|Be (Bo true) Av<|AI Av (AJ Av Av) Av<|AI Av (AJ Av Av) Av<|FR (Bo true) Av Av<|Be (Bo true) Av ?_
 iterate 5 refine AI Av (AJ Av Av) Av ?_
 exact FR (Bo true) Av Av<|Ay<|aF _ _ ⟨true,_,Av,BB.of ⟨Av,trivial⟩,Z,X,N⟩
 refine BN Av Av<|AD (v:=Iv M.2.2) Av<|BN Av Av<|FB Av Av<|FF (Bo (decide (M.2.2≠2))) Av Av<|Be (Bo (decide (M.2.2≠2))) Av<|B4 N (fun e4 N=>?_) (fun e4 N=>?_)
 refine AI Av (AJ Av Av) Av<|AI Av (AJ Av Av) Av<|FR (Bo true) Av Av<|Be (Bo true) Av ?_
 iterate 5 refine AI Av (AJ Av Av) Av ?_
 exact FR (Bo true) Av Av<|Ay<|aF _ _ ⟨true,_,Av,BB.of ⟨Av,trivial⟩,Z,X,N⟩
 refine BN Av Av<|AD (v:=Iv Bq.2) Av<|BN Av Av<|FB Av Av<|FF (Bo (decide (Bq.2≠0))) Av Av<|Be (Bo (decide (Bq.2≠0))) Av<|B4 N (fun e5 N=>?_) (fun e5 N=>?_)
 iterate 5 refine AI Av (AJ Av Av) Av ?_
 exact FR (Bo true) Av Av<|Ay<|aF _ _ ⟨true,_,Av,BB.of ⟨Av,trivial⟩,Z,X,N⟩
 refine BN Av Av<|Bz 3 Bw X Av Av Av<|BN Av Av<|Bf (cs:=[Iv 0,Iv 0]) (parts:=[(0,.const (.int .i64 0)),(1,.const (.int .i64 0))]) Bp BD X (by decide) Av ?_
 intro dB gR hT dZ dC
 have gS:=Gs.of_cells (p:=(AM .i64)) (e:=3) (bl:=dB) (c:=2) (w:=gR) (O:=ks [(some dB,Oc [Iv 0,Iv 0] 3),(some a0,Oc [Sl Ak Bq.1.cells Ck,Sl Al Bq.1.capacity Cl,Sl Am Bq.1.variables Cm] 26),(some aD,Oc [Sl (some ⟨aH,0,none⟩) [1,2] 2,Sl (some ⟨aC,0,none⟩) [(⟨0,1⟩:A8)] 1] 34),(some aA,Oc [Sl Ad A.1.variables Cd,Sl Ae A.1.places Ce] 34),(some b9,Oc (C0 U Aa Ca Ab Cb Ac Cc) 26)] O) (show Ej (AM .i64) _ _ [Iv 0,Iv 0] [0,0] from⟨_,_,Av,AW EG,⟨_,_,Av,AW EG,Ej.nil⟩⟩) Av (BG Av)
 refine BN Av Av<|Dv (vs:=[Sl (some ⟨dB,0,none⟩) [0,0] 2,Value.slice none 0 0]) (parts:=[(0,.tmp 115)]) Dq NE Av ?_
 obtain⟨a9,d0,gT⟩:=Gs.publish (i:=0) dC Av gS
 clear dC
 obtain⟨a1,e6,N⟩:=bd N
 have dD:=(c1.trans (bU.trans (bV.trans (dZ.trans d0))))
 replace Fb:=Fb.step dD;replace Fa:=Fa.step dD;replace Fc:=Fc.step dD
 refine BN Av Av<|Bj a9 Try.call23 (Ih (p:=U) (r_:=(⟨[0,0],([]:List A8)⟩:AS)) a9.ltw Fa Fb Fc gT CA.nil_ e6) Av ?_
 rintro jH jI gU e7 gV
 clear a9
 obtain⟨rfl,Rk⟩:=gV
 refine BN Av Av<|FB Av Av<|FF (Bo (decide (a1≠320))) Av Av<|Ay ?_
 replace Z:=Z.trans (dZ.trans (d0.trans gU))
 exact aF _ _ ⟨decide (a1≠320),_,Av,BB.of ⟨Av,trivial⟩,Z,e7,N⟩

abbrev WK:List Nat:=[7,8,9,10,11,12,13,14,15,16]

abbrev U3:List Nat:=[5,6,7,8,9,10,11,12,13,14,15,16,17,18,19,20,21,22,23,24,25,26,27,28]

def Ef (p:A9) (limit:Int) (I:Int→Int→Option Int) (F:Int) (A:Int):Option Int:=
 jn (fun(J:Bool)=>
  bif J then
   ck ((0:Int)≤A∧A<(p.variables.length:Int))<|
   I (IntKind.wrap .i64 (F*(max 1 (((p.variables.getD A.toNat default).choices).length:Int)))) (IntKind.wrap .i64 (A+1))
  else
   some (min F limit))
 (fun G=>
  bif (decide (A<(p.variables.length:Int))) then
   G (decide (F<limit))
  else
   G false)

def Eb (p:A9) (limit:Int):Option Int:=
 B8 (Ef p limit) 1000000 1 0

theorem H0 {w:World} {O:List Nat} {p:A9} {limit:Int} {Aa:Option Addr} {Ca:Nat} {Ab:Option Addr} {Cb:Nat} {Ac:Option Addr} {Cc:Nat} (hO:∀k∈O,k<w.heap.size) (Fa:CA B2 w O Aa Ca p.cells) (Fb:CA (BE (AM .i64)) w O Ab Cb p.capacity) (Fc:CA AT w O Ac Cc p.variables) (Ra:BR .i64 limit) {x:Int} (G:Eb p limit=some x):
 Ok Try.prog 30 [Value.agg (C0 p Aa Ca Ab Cb Ac Cc).toArray,Iv limit] w O (vI .i64) x:=by
 unfold Eb at G
 refine Bt (n:=32) (xs:=[.tmp 4]) Try.func30 Av Try.ntmps30 Try.results30 Av ?_
 have hs:=St.start hO
 refine Ax<|Aw<|AA<|BV (cs:=(C0 p Aa Ca Ab Cb Ac Cc)) hs Av Av ?_
 intro b1 w2 _ p3 aD
 refine Bn (Iv 0) Av<|Ay<|Ax<|Aw<|Bn (Iv 1) Av<|Ay<|Ax<|Ax<|Aw<|Bn (Iv 0) Av<|Ay<|AE<|Wr [] [(1,Iv limit),(2,Pt b1 0),(5,Iv 1),(6,Iv 0)] fun aM=>Bh U3 (fun m fr w'=>∃(A:Int) (F:Int) (J:Bi),J=[(some b1,Oc (C0 p Aa Ca Ab Cb Ac Cc) 26)]∧fr [] [(5,Iv A),(6,Iv F)]∧aD.S (ks J O) w'∧St ⟨w,[],[]⟩ O w' J∧BR .i64 A∧BR .i64 F∧B8 (Ef p limit) m A F=some x) 1000000 ⟨1,0,_,Av,BB.of ⟨Av,Av,trivial⟩,AB.refl _ _,aD,MC,EG,G⟩ ?_ ?_
 rintro _ _ ⟨_,_,_,_,_,_,_,_,_,G⟩;exact D9 G
 rintro aX aY aE aS aZ ⟨A,F,_,rfl,Q,M,I,Rb,Rc,G⟩
 obtain⟨a0,aB,G⟩:=DA G;unfold Ef at G
 rw [Q.eq];clear Q
 have U:=M
 refine Ax<|Ip U3 [] (CK ⟨aM,[]⟩ [(1,Iv limit),(2,Pt b1 0),(5,Iv 1),(6,Iv 0)]) [(5,Iv A),(6,Iv F)] fun aT=>?_
 obtain⟨aN,aF,G⟩:=Dp G
 refine D8 WK (fun fr w'=>∃(aC:Bool) (J:Bi),J=[(some b1,Oc (C0 p Aa Ca Ab Cb Ac Cc) 26)]∧fr [] [(16,Bo aC)]∧I.S (ks J O) w'∧St ⟨w,[],[]⟩ O w' J∧aN aC=some x) ?_ ?_
 rintro aU a1 ⟨aC,_,rfl,W,X,N,G⟩
 replace G:=Ed aF G
 rw [W.eq];clear W
 refine AF G Av (fun aG G=>?_) (fun aG G=>?_)
 refine AH<|Ax<|AE<|Aw<|Be (Iv A) Av<|AA<|AP 2 Bw Av CI Av Av<|AA<|AQ 0 CI N Av Av Av<|Be (Iv F) Av ?_
 obtain⟨Y,G⟩:=AG G
 have aO:=(p3.trans (M.trans X))
 replace Fc:=Fc.step aO
 refine AA<|AC (q:=AT) CI Ex Av Av Fc Av Y.1 Y.2 ?_
 intro a2 aH
 refine AA<|C2 Ex Av G0 (by decide) Av Av ?_
 have aI:=aH.via.snd.snd.snd
 refine AA<|AX G0 Av aI Av ?_
 intro a3 aP
 obtain⟨Ad,Cd,rfl,Fd⟩:=BH aP
 refine AA<|Bd Try.underlying59 Av ?_
 have aV:=Bb Fd
 refine AA<|Ql Av Av<|AA<|Jb Av Av<|Bn (Iv (wq (A*(max 1 (((gt p.variables F).choices).length:Int))))) Av<|Ay ?_
 clear aH aI Fd
 refine Aw<|Be (Iv F) Av<|AA<|Bm Av Av<|Bn (Iv (wq (F+1))) Av<|Ay ?_
 replace U:=U.trans X
 exact aE _ _ ⟨(wq (A*(max 1 (((gt p.variables F).choices).length:Int)))),(wq (F+1)),_,Av,BB.of ⟨Av,Av,trivial⟩,U,N,(AZ .i64 _),(AZ .i64 _),GD aB G⟩
 refine Br<|Ax ?_
 obtain⟨aJ,a4⟩:=N.sub (bs':=[]) (.cons _ List.Sublist.slnil)
 clear Fa Fb Fc
 clear N
 refine Aw<|Be (Iv A) Av<|Be (Iv limit) Av<|AA<|UQ Av Av<|Bn (Iv (min A limit)) Av<|Ay<|AY<|⟨_,En,[Iv (min A limit)],⟨Av,trivial⟩,aJ.ext,?_⟩
 exact Vr.eq (a:=(vI .i64)) (x:=min A limit) ⟨Av,TE Rb Ra⟩ (oi G)
 intro a5 Z
 have aA:=I.stepR
 refine Aw<|Be (Iv F) Av<|AA<|AP 2 Bw Av CI Av Av<|AA<|AQ 0 CI I Av Av Av<|AA<|Bd Try.underlying24 Av ?_
 have aQ:=(p3.trans M)
 replace Fc:=Fc.step aQ
 have aW:=Bb Fc
 refine AA<|Bu Av Av<|Be (Bo (decide (F<(p.variables.length:Int)))) Av<|B4 G (fun aK G=>?_) (fun aK G=>?_)
 exact BN Av Av<|AD (v:=Iv A) Av<|BN Av Av<|AD (v:=Iv limit) Av<|BN Av Av<|Bu Av Av<|FR (Bo (decide (A<limit))) Av Av<|Ay<|Z _ _ ⟨decide (A<limit),_,Av,BB.of ⟨Av,trivial⟩,aA,I,G⟩
 iterate 3 refine AI Av (AJ Av Av) Av ?_
 exact FF (Bo false) Av Av<|Ay<|Z _ _ ⟨false,_,Av,BB.of ⟨Av,trivial⟩,aA,I,G⟩

abbrev WL:List Nat:=[2,3,23,24,25,26,27,28,29,30,31,32,33,34,35,36]

abbrev WM:List Nat:=[2,6,59,60,61,62,63,64,65,66,67,68,69,70,71,72,73]

abbrev WN:List Nat:=[49,50,51,52,53,54,55,56,57,58]

abbrev SR:List Nat:=[2,4,5,6,37,38,39,40,41,42,43,44,45,46,47,48,49,50,51,52,53,54,55,56,57,58,59,60,61,62,63,64,65,66,67,68,69,70,71,72,73]

abbrev WO:List Nat:=[7,8,9,10,11,12,13,14,15,16,17,18,19,20,21,22]

def DD (p:A9) (F:Int) (G:Int→Option Bool) (I:Int→Option Bool) (A:Int):Option Bool:=
 bif (decide (A<(((p.variables.getD F.toNat default).choices).length:Int))) then
  ck ((0:Int)≤A∧A<(((p.variables.getD F.toNat default).choices).length:Int))<|
  bif (decide (12<(((((p.variables.getD F.toNat default).choices).getD A.toNat default).uses).length:Int))) then
   some false
  else
   I (IntKind.wrap .i64 (A+1))
 else
  G (IntKind.wrap .i64 (F+1))

def DE (p:A9) (G:Int→Option Bool) (A:Int):Option Bool:=
 bif (decide (A<(p.variables.length:Int))) then
  ck ((0:Int)≤A∧A<(p.variables.length:Int))<|
  jn (fun(J:Bool)=>
   bif J then
    some false
   else
    B1 (DD p A G) (((((p.variables.getD A.toNat default).choices).length:Int) - 0).toNat+1) 0)
  (fun I=>
   bif (decide (8<(((p.variables.getD A.toNat default).leaves).length:Int))) then
    I true
   else
    I (decide (8<(((p.variables.getD A.toNat default).choices).length:Int))))
 else
  (Eb p 2000).bind fun F=>
  some (decide (F<2000))

def DF (p:A9) (F:Int→Option Bool) (A:Int):Option Bool:=
 bif (decide (A<(p.capacity.length:Int))) then
  ck ((0:Int)≤A∧A<(p.capacity.length:Int))<|
  bif (decide (16<((p.capacity.getD A.toNat default).length:Int))) then
   some false
  else
   F (IntKind.wrap .i64 (A+1))
 else
  B1 (DE p) (((p.variables.length:Int) - 0).toNat+1) 0

def ER (p:A9):Option Bool:=
 jn (fun(A:Bool)=>
  bif A then
   some false
  else
   B1 (DF p) (((p.capacity.length:Int) - 0).toNat+1) 0)
 (fun F=>
  bif (decide (12<(p.cells.length:Int))) then
   F true
  else
   bif (decide (4<(p.capacity.length:Int))) then
    F true
   else
    F (decide (6<(p.variables.length:Int))))

theorem JB {w:World} {O:List Nat} {p:A9} {Aa:Option Addr} {Ca:Nat} {Ab:Option Addr} {Cb:Nat} {Ac:Option Addr} {Cc:Nat} (hO:∀k∈O,k<w.heap.size) (Fa:CA B2 w O Aa Ca p.cells) (Fb:CA (BE (AM .i64)) w O Ab Cb p.capacity) (Fc:CA AT w O Ac Cc p.variables) {x:Bool} (A:ER p=some x):
 Ok Try.prog 18 [Value.agg (C0 p Aa Ca Ab Cb Ac Cc).toArray] w O vB x:=by
 unfold ER at A
 refine Bt (n:=77) (xs:=[.tmp 2]) Try.func18 Av Try.ntmps18 Try.results18 Av ?_
 have hs:=St.start hO
 refine Ax<|Aw<|AA<|BV (cs:=(C0 p Aa Ca Ab Cb Ac Cc)) hs Av Av ?_
 intro b1 w2 _ p3 X
 refine Bn (Bo false) Av<|Ay<|Ax<|Wr [] [(1,Pt b1 0)] fun cV=>?_
 obtain⟨k8,b2,A⟩:=Dp A
 refine D8 WO (fun fr w'=>∃(aX:Bool) (G:Bi),G=[(some b1,Oc (C0 p Aa Ca Ab Cb Ac Cc) 26)]∧fr [] [(22,Bo aX)]∧X.S (ks G O) w'∧St ⟨w,[],[]⟩ O w' G∧k8 aX=some x) ?_ ?_
 rintro cC cX ⟨aX,_,rfl,aB,aY,aA,A⟩
 replace A:=Ed b2 A
 rw [aB.eq];clear aB
 refine AF A Av (fun bD A=>?_) (fun bD A=>?_)
 refine Ax ?_
 obtain⟨bE,cY⟩:=aA.sub (bs':=[]) (.cons _ List.Sublist.slnil)
 clear Fa Fb Fc
 clear aA
 refine Aw<|Bn (Bo false) Av<|Ay<|AY<|⟨_,En,[Bo false],⟨Av,trivial⟩,bE.ext,?_⟩
 exact Vr.eq (a:=vB) (x:=false) Av (oi A)
 refine AH<|Ax<|Ax<|Aw<|Bn (Iv 0) Av<|Ay<|AE<|Wr [] [(1,Pt b1 0),(3,Iv 0)] fun cD=>Bh WL (fun m fr w'=>∃(Q:Int) (G:Bi),G=[(some b1,Oc (C0 p Aa Ca Ab Cb Ac Cc) 26)]∧fr [] [(3,Iv Q)]∧aA.S (ks G O) w'∧St ⟨w,[],[]⟩ O w' G∧BR .i64 Q∧B1 (DF p) m Q=some x) (((p.capacity.length:Int) - 0).toNat+1) ⟨0,_,Av,BB.of ⟨Av,trivial⟩,AB.refl _ _,aA,EG,A⟩ ?_ ?_
 rintro _ _ ⟨_,_,_,_,_,_,_,A⟩;exact Dg A
 rintro cZ c0 bF cE c1 ⟨Q,_,rfl,aC,aD,M,Ra,A⟩
 obtain⟨cF,aZ,A⟩:=Dh A;unfold DF at A
 rw [aC.eq];clear aC
 have bG:=aD
 refine Ax<|Ax<|Aw<|Be (Iv Q) Av<|AA<|AP 1 Bw Av CB Av Av<|AA<|AQ 0 CB M Av Av Av<|AA<|Bd Try.underlying23 Av ?_
 have bH:=(p3.trans (aY.trans aD))
 replace Fb:=Fb.step bH
 have cG:=Bb Fb
 refine AA<|Bu Av Av<|Ay<|AF A Av (fun bI A=>?_) (fun bI A=>?_)
 refine AH<|Ax<|AE<|Ax<|Aw<|AA<|AP 1 Bw Av CB Av Av<|AA<|AQ 0 CB M Av Av Av<|Be (Iv Q) Av ?_
 obtain⟨aQ,A⟩:=AG A
 refine AA<|AC (q:=BE (AM .i64)) CB Bp Av Av Fb Av aQ.1 aQ.2 ?_
 intro c2 a0
 refine AA<|AX Bp Av a0 Av ?_
 intro c3 b3
 obtain⟨Ad,Cd,rfl,Fd⟩:=BH b3
 refine AA<|Bd Try.underlying31 Av ?_
 have cH:=Bb Fd
 refine AA<|EY Av Av<|Ay<|AF A Av (fun bJ A=>?_) (fun bJ A=>?_)
 refine Ax ?_
 clear a0 Fd
 refine Aw<|Bn (Bo false) Av<|Ay<|AY<|⟨_,En,[Bo false],⟨Av,trivial⟩,M.ext,?_⟩
 exact Vr.eq (a:=vB) (x:=false) Av (oi A)
 refine AH ?_
 clear a0 Fd
 exact Aw<|Be (Iv Q) Av<|AA<|Bm Av Av<|Bn (Iv (wq (Q+1))) Av<|Ay<|bF _ _ ⟨(wq (Q+1)),_,Av,BB.of ⟨Av,trivial⟩,bG,M,(AZ .i64 _),Ed aZ A⟩
 refine Br<|Ax<|Ax<|Aw<|Bn (Iv 0) Av<|Ay<|AE<|Wr [] [(1,Pt b1 0),(4,Iv 0)] fun aR=>Bh SR (fun m fr w'=>∃(F:Int) (G:Bi),G=[(some b1,Oc (C0 p Aa Ca Ab Cb Ac Cc) 26)]∧fr [] [(4,Iv F)]∧M.S (ks G O) w'∧St ⟨w,[],[]⟩ O w' G∧BR .i64 F∧B1 (DE p) m F=some x) (((p.variables.length:Int) - 0).toNat+1) ⟨0,_,Av,BB.of ⟨Av,trivial⟩,AB.refl _ _,M,EG,A⟩ ?_ ?_
 rintro _ _ ⟨_,_,_,_,_,_,_,A⟩;exact Dg A
 rintro c4 c5 bK cI c6 ⟨F,_,rfl,aE,Y,I,Rb,A⟩
 obtain⟨bL,a1,A⟩:=Dh A;unfold DE at A
 rw [aE.eq];clear aE
 have aF:=Y
 refine Ax<|Ax<|Aw<|Be (Iv F) Av<|AA<|AP 2 Bw Av CI Av Av<|AA<|AQ 0 CI I Av Av Av<|AA<|Bd Try.underlying24 Av ?_
 have bM:=(bH.trans Y)
 replace Fc:=Fc.step bM
 have cJ:=Bb Fc
 refine AA<|Bu Av Av<|Ay<|AF A Av (fun bN A=>?_) (fun bN A=>?_)
 refine AH<|Ax<|AE<|Ax<|Aw<|AA<|AP 2 Bw Av CI Av Av<|AA<|AQ 0 CI I Av Av Av<|Be (Iv F) Av ?_
 obtain⟨aS,A⟩:=AG A
 refine AA<|AC (q:=AT) CI Ex Av Av Fc Av aS.1 aS.2 ?_
 intro c7 aO
 refine AA<|BF Ex Av aO Av ?_
 intro cK b4
 obtain⟨_,_,rfl,⟨rfl,Rc⟩,⟨_,_,rfl,⟨rfl,Rd⟩,⟨_,_,rfl,⟨Ae,Ce,rfl,Fe⟩,⟨Af,Cf,rfl,Ff⟩⟩⟩⟩:=b4
 refine AA<|Bx Ex I ?_
 intro aP c8 _ bO aT
 clear I
 refine Bk<|Cx .z Ex aT Av Av Av Av Av ?_
 intro c9 bP N
 clear aT
 refine Ay<|Ax<|Ip SR [] (CK ⟨aR,[]⟩ [(1,Pt b1 0),(4,Iv 0)]) [(4,Iv F),(5,Pt aP 0)] fun cL=>?_
 obtain⟨b5,bQ,A⟩:=Dp A
 refine D8 WN (fun fr w'=>∃(a2:Bool) (G:Bi),G=[(some aP,Oc [Iv ((gt p.variables F).flight),Iv ((gt p.variables F).node),Sl Ae ((gt p.variables F).leaves) Ce,Sl Af ((gt p.variables F).choices) Cf] 61),(some b1,Oc (C0 p Aa Ca Ab Cb Ac Cc) 26)]∧fr [] [(58,Bo a2)]∧N.S (ks G O) w'∧St ⟨w,[],[]⟩ O w' G∧b5 a2=some x) ?_ ?_
 rintro cM dA ⟨a2,_,rfl,aG,a3,aH,A⟩
 replace A:=Ed bQ A
 rw [aG.eq];clear aG
 refine AF A Av (fun bR A=>?_) (fun bR A=>?_)
 refine Ax ?_
 clear aO
 refine Aw<|Bn (Bo false) Av<|Ay<|AY<|⟨_,En,[Bo false],⟨Av,trivial⟩,aH.ext,?_⟩
 exact Vr.eq (a:=vB) (x:=false) Av (oi A)
 refine AH<|Ax ?_
 clear aO
 refine Aw<|Bn (Iv 0) Av<|Ay<|AE<|Ip SR [] (CK ⟨aR,[]⟩ [(1,Pt b1 0),(4,Iv 0)]) [(4,Iv F),(5,Pt aP 0),(6,Iv 0)] fun cN=>Bh WM (fun m fr w'=>∃(U:Int) (G:Bi),G=[(some aP,Oc [Iv ((gt p.variables F).flight),Iv ((gt p.variables F).node),Sl Ae ((gt p.variables F).leaves) Ce,Sl Af ((gt p.variables F).choices) Cf] 61),(some b1,Oc (C0 p Aa Ca Ab Cb Ac Cc) 26)]∧fr [] [(6,Iv U)]∧aH.S (ks G O) w'∧St ⟨w,[],[]⟩ O w' G∧BR .i64 U∧B1 (DD p F bL) m U=some x) (((((gt p.variables F).choices).length:Int) - 0).toNat+1) ⟨0,_,Av,BB.of ⟨Av,trivial⟩,AB.refl _ _,aH,EG,A⟩ ?_ ?_
 rintro _ _ ⟨_,_,_,_,_,_,_,A⟩;exact Dg A
 rintro dB dC bS cO dD ⟨U,_,rfl,aI,aJ,J,Re,A⟩
 obtain⟨cP,a4,A⟩:=Dh A;unfold DD at A
 rw [aI.eq];clear aI
 have bT:=aJ
 refine Ax<|Ax<|Aw<|Be (Iv U) Av<|AA<|AP 3 Ex Av G0 Av Av<|AA<|AQ 0 G0 J Av Av Av<|AA<|Bd Try.underlying59 Av ?_
 have bU:=(bO.trans (bP.trans (a3.trans aJ)))
 replace Ff:=Ff.step bU
 have cQ:=Bb Ff
 refine AA<|Bu Av Av<|Ay<|AF A Av (fun bV A=>?_) (fun bV A=>?_)
 refine AH<|Ax<|AE<|Ax<|Aw<|AA<|AP 3 Ex Av G0 Av Av<|AA<|AQ 0 G0 J Av Av Av<|Be (Iv U) Av ?_
 obtain⟨aU,A⟩:=AG A
 refine AA<|AC (q:=BL) G0 Gy Av Av Ff Av aU.1 aU.2 ?_
 intro dE a5
 refine AA<|C2 Gy Av HK (by decide) Av Av ?_
 have aK:=a5.via.snd.snd.snd
 refine AA<|AX HK Av aK Av ?_
 intro cR bW
 obtain⟨Ag,Cg,rfl,Fg⟩:=BH bW
 refine AA<|Bd Try.underlying56 Av ?_
 have b6:=Bb Fg
 refine AA<|EY Av Av<|Ay<|AF A Av (fun a6 A=>?_) (fun a6 A=>?_)
 refine Ax ?_
 clear a5 aK Fg
 refine Aw<|Bn (Bo false) Av<|Ay<|AY<|⟨_,En,[Bo false],⟨Av,trivial⟩,J.ext,?_⟩
 exact Vr.eq (a:=vB) (x:=false) Av (oi A)
 refine AH ?_
 clear a5 aK Fg
 exact Aw<|Be (Iv U) Av<|AA<|Bm Av Av<|Bn (Iv (wq (U+1))) Av<|Ay<|bS _ _ ⟨(wq (U+1)),_,Av,BB.of ⟨Av,trivial⟩,bT,J,(AZ .i64 _),Ed a4 A⟩
 refine Br<|Aw<|Be (Iv F) Av<|AA<|Bm Av Av<|Bn (Iv (wq (F+1))) Av<|Ay ?_
 have a7:=J.drop 0
 have bX:=(J.dropS 0)
 clear J
 have bY:=(bU.trans bX)
 replace aF:=aF.trans bY
 exact bK _ _ ⟨(wq (F+1)),_,Av,BB.of ⟨Av,trivial⟩,aF,a7,(AZ .i64 _),Ed a1 A⟩
 intro dF aV
 have aL:=N.stepR
 clear aO
 refine Aw<|AA<|AP 2 Ex Av Bp Av Av<|AA<|AQ 0 Bp N Av Av Av<|AA<|Bd Try.underlying31 Av ?_
 have aW:=(bO.trans bP)
 replace Fe:=Fe.step aW
 have b7:=Bb Fe
 refine AA<|EY Av Av<|Be (Bo (decide (8<(((gt p.variables F).leaves).length:Int)))) Av<|B4 A (fun a8 A=>?_) (fun a8 A=>?_)
 iterate 4 refine AI Av (AJ Av Av) Av ?_
 exact FR (Bo true) Av Av<|Ay<|aV _ _ ⟨true,_,Av,BB.of ⟨Av,trivial⟩,aL,N,A⟩
 refine BN Av Av<|AP 3 Ex Av G0 Av Av<|BN Av Av<|AQ 0 G0 N Av Av Av<|BN Av Av<|Bd Try.underlying59 Av ?_
 replace Ff:=Ff.step aW
 have b8:=Bb Ff
 exact BN Av Av<|EY Av Av<|FF (Bo (decide (8<(((gt p.variables F).choices).length:Int)))) Av Av<|Ay<|aV _ _ ⟨decide (8<(((gt p.variables F).choices).length:Int)),_,Av,BB.of ⟨Av,trivial⟩,aL,N,A⟩
 refine Br<|Ax<|Aw<|AA<|Bz 0 Bw I Av Av Av ?_
 obtain⟨W,a9,A⟩:=bd A
 replace Fb:=Fb.step Y;replace Fa:=Fa.step bM
 refine AA<|Bj I Try.call30 (H0 (p:=p) (limit:=2000) I.ltw Fa Fb Fc (show BR .i64 2000 from by decide) a9) Av ?_
 rintro cS cT cU bA bZ
 clear I
 obtain⟨rfl,Rf⟩:=bZ
 refine AA<|Bu Av Av<|Bn (Bo (decide (W<2000))) Av<|Ay<|AY<|⟨_,En,[Bo (decide (W<2000))],⟨Av,trivial⟩,bA.ext,?_⟩
 exact Vr.eq (a:=vB) (x:=decide (W<2000)) Av (oi A)
 intro dG aM
 have Z:=X.stepR
 refine Aw<|AA<|AP 0 Bw Av F1 Av Av<|AA<|AQ 0 F1 X Av Av Av<|AA<|Bd Try.underlying22 Av ?_
 replace Fa:=Fa.step p3
 have b9:=Bb Fa
 refine AA<|EY Av Av<|Be (Bo (decide (12<(p.cells.length:Int)))) Av<|B4 A (fun bB A=>?_) (fun bB A=>?_)
 iterate 4 refine AI Av (AJ Av Av) Av ?_
 refine FR (Bo true) Av Av<|Be (Bo true) Av ?_
 iterate 4 refine AI Av (AJ Av Av) Av ?_
 exact FR (Bo true) Av Av<|Ay<|aM _ _ ⟨true,_,Av,BB.of ⟨Av,trivial⟩,Z,X,A⟩
 refine BN Av Av<|AP 1 Bw Av CB Av Av<|BN Av Av<|AQ 0 CB X Av Av Av<|BN Av Av<|Bd Try.underlying23 Av ?_
 replace Fb:=Fb.step p3
 have cA:=Bb Fb
 refine BN Av Av<|EY Av Av<|FF (Bo (decide (4<(p.capacity.length:Int)))) Av Av<|Be (Bo (decide (4<(p.capacity.length:Int)))) Av<|B4 A (fun bC A=>?_) (fun bC A=>?_)
 iterate 4 refine AI Av (AJ Av Av) Av ?_
 exact FR (Bo true) Av Av<|Ay<|aM _ _ ⟨true,_,Av,BB.of ⟨Av,trivial⟩,Z,X,A⟩
 refine BN Av Av<|AP 2 Bw Av CI Av Av<|BN Av Av<|AQ 0 CI X Av Av Av<|BN Av Av<|Bd Try.underlying24 Av ?_
 replace Fc:=Fc.step p3
 have cB:=Bb Fc
 exact BN Av Av<|EY Av Av<|FF (Bo (decide (6<(p.variables.length:Int)))) Av Av<|Ay<|aM _ _ ⟨decide (6<(p.variables.length:Int)),_,Av,BB.of ⟨Av,trivial⟩,Z,X,A⟩

def DG (a:AK) (b:AK):Option Bool:=
 bif (!(a.airport == b.airport)) then
  some b.airport
 else
  bif (decide (a.index≠b.index)) then
   some (decide (a.index<b.index))
  else
   some (decide (a.minute<b.minute))

theorem GX {w:World} {O:List Nat} {a:AK} {b:AK} (hO:∀k∈O,k<w.heap.size) (Ra:BR .i64 a.index) (Rb:BR .i64 a.minute) (Rc:BR .i64 b.index) (Rd:BR .i64 b.minute) {x:Bool} (F:DG a b=some x):
 Ok Try.prog 60 [Value.agg [Bo a.airport,Iv a.index,Iv a.minute].toArray,Value.agg [Bo b.airport,Iv b.index,Iv b.minute].toArray] w O vB x:=by
 unfold DG at F
 refine Bt (n:=27) (xs:=[.tmp 4]) Try.func60 Av Try.ntmps60 Try.results60 Av ?_
 have hs:=St.start hO
 refine Ax<|Aw<|AA<|BV (cs:=[Bo a.airport,Iv a.index,Iv a.minute]) hs Av Av ?_
 intro U W _ X I
 refine AA<|BV (cs:=[Bo b.airport,Iv b.index,Iv b.minute]) I Av Av ?_
 intro N Y _ Z A
 clear I
 refine Bn (Bo false) Av<|Ay<|Ax<|Ax<|Aw<|AA<|AP 0 Eo Av Ji Av Av<|AA<|AQ 1 Ji A Av Av Av<|AA<|AP 0 Eo Av Ji Av Av<|AA<|AQ 0 Ji A Av Av Av<|AA<|Q2 Try.underlying4 Av Av<|Ay<|AF F Av (fun J F=>?_) (fun J F=>?_)
 refine Ax ?_
 obtain⟨G,Q⟩:=A.sub (bs':=[(some N,Oc [Bo b.airport,Iv b.index,Iv b.minute] 67)]) (.cons_cons _ (.cons _ List.Sublist.slnil))
 clear A
 refine Aw<|AA<|AP 0 Eo Av Ji Av Av<|AA<|AQ 0 Ji G Av Av Av<|Bn (Bo b.airport) Av<|Ay<|AY<|⟨_,En,[Bo b.airport],⟨Av,trivial⟩,G.ext,?_⟩
 exact Vr.eq (a:=vB) (x:=b.airport) Av (oi F)
 refine AH<|Ax<|Ax<|Aw<|AA<|AP 1 Eo Av BD Av Av<|AA<|AQ 1 BD A Av Av Av<|AA<|AP 1 Eo Av BD Av Av<|AA<|AQ 0 BD A Av Av Av<|AA<|FB Av Av<|Ay<|AF F Av (fun M F=>?_) (fun M F=>?_)
 refine Ax<|Aw<|AA<|AP 1 Eo Av BD Av Av<|AA<|AQ 1 BD A Av Av Av<|AA<|AP 1 Eo Av BD Av Av<|AA<|AQ 0 BD A Av Av Av<|AA<|Bu Av Av<|Bn (Bo (decide (a.index<b.index))) Av<|Ay<|AY<|⟨_,En,[Bo (decide (a.index<b.index))],⟨Av,trivial⟩,A.ext,?_⟩
 exact Vr.eq (a:=vB) (x:=decide (a.index<b.index)) Av (oi F)
 refine AH<|Ax<|Aw<|AA<|AP 2 Eo Av BD Av Av<|AA<|AQ 1 BD A Av Av Av<|AA<|AP 2 Eo Av BD Av Av<|AA<|AQ 0 BD A Av Av Av<|AA<|Bu Av Av<|Bn (Bo (decide (a.minute<b.minute))) Av<|Ay<|AY<|⟨_,En,[Bo (decide (a.minute<b.minute))],⟨Av,trivial⟩,A.ext,?_⟩
 exact Vr.eq (a:=vB) (x:=decide (a.minute<b.minute)) Av (oi F)

def BC (n:Int) (lo:Int) (hi:Int):Option Bool:=
 bif (decide (lo≤n)) then
  some (decide (n≤hi))
 else
  some false

theorem De {w:World} {O:List Nat} {n:Int} {lo:Int} {hi:Int} (hO:∀k∈O,k<w.heap.size) (Ra:BR .i64 n) (Rb:BR .i64 lo) (Rc:BR .i64 hi) {x:Bool} (A:BC n lo hi=some x):
 Ok Try.prog 61 [Iv n,Iv lo,Iv hi] w O vB x:=by
 unfold BC at A
 refine Bt (n:=15) (xs:=[.tmp 6]) Try.func61 Av Try.ntmps61 Try.results61 Av ?_
 have hs:=St.start hO
 refine Ax<|Aw<|Bn (Bo false) Av<|Ay<|Ax<|Aw<|Be (Iv lo) Av<|Be (Iv n) Av<|AA<|HZ Av Av<|Be (Bo (decide (lo≤n))) Av<|B4 A (fun F A=>?_) (fun F A=>?_)
 refine BN Av Av<|AD (v:=Iv n) Av<|BN Av Av<|AD (v:=Iv hi) Av<|BN Av Av<|HZ Av Av<|FR (Bo (decide (n≤hi))) Av Av<|Bn (Bo (decide (n≤hi))) Av<|Ay<|AY<|⟨_,En,[Bo (decide (n≤hi))],⟨Av,trivial⟩,hs.ext,?_⟩
 exact Vr.eq (a:=vB) (x:=decide (n≤hi)) Av (oi A)
 iterate 3 refine AI Av (AJ Av Av) Av ?_
 refine FF (Bo false) Av Av<|Bn (Bo false) Av<|Ay<|AY<|⟨_,En,[Bo false],⟨Av,trivial⟩,hs.ext,?_⟩
 exact Vr.eq (a:=vB) (x:=false) Av (oi A)

abbrev WP:List Nat:=[4,5,6,7,8,9,10,11,12,13,14,15,16,17,18]

def DT (l:List AK) (c:AK) (F:Int→Option Int) (A:Int):Option Int:=
 bif (decide (A<(l.length:Int))) then
  ck ((0:Int)≤A∧A<(l.length:Int))<|
  bif (decide ((l.getD A.toNat default)=c)) then
   some A
  else
   F (IntKind.wrap .i64 (A+1))
 else
  some (-1)

def DW (l:List AK) (c:AK):Option Int:=
 B1 (DT l c) (((l.length:Int) - 0).toNat+1) 0

theorem HO {w:World} {O:List Nat} {l:List AK} {c:AK} {Aa:Option Addr} {Ca:Nat} (hO:∀k∈O,k<w.heap.size) (Fa:CA B2 w O Aa Ca l) (Ra:BR .i64 c.index) (Rb:BR .i64 c.minute) {x:Int} (F:DW l c=some x):
 Ok Try.prog 81 [Sl Aa l Ca,Value.agg [Bo c.airport,Iv c.index,Iv c.minute].toArray] w O (vI .i64) x:=by
 unfold DW at F
 refine Bt (n:=19) (xs:=[.tmp 4]) Try.func81 Av Try.ntmps81 Try.results81 Av ?_
 have hs:=St.start hO
 refine Ax<|Aw<|AA<|BV (cs:=[Bo c.airport,Iv c.index,Iv c.minute]) hs Av Av ?_
 intro b1 w2 _ p3 aA
 refine Bn (Iv 0) Av<|Ay<|Ax<|Ax<|Aw<|Bn (Iv 0) Av<|Ay<|AE<|Wr [] [(0,Sl Aa l Ca),(3,Pt b1 0),(5,Iv 0)] fun aX=>Bh WP (fun m fr w'=>∃(A:Int) (X:Bi),X=[(some b1,Oc [Bo c.airport,Iv c.index,Iv c.minute] 67)]∧fr [] [(5,Iv A)]∧aA.S (ks X O) w'∧St ⟨w,[],[]⟩ O w' X∧BR .i64 A∧B1 (DT l c) m A=some x) (((l.length:Int) - 0).toNat+1) ⟨0,_,Av,BB.of ⟨Av,trivial⟩,AB.refl _ _,aA,EG,F⟩ ?_ ?_
 rintro _ _ ⟨_,_,_,_,_,_,_,F⟩;exact Dg F
 rintro aY aZ aB aR a0 ⟨A,_,rfl,I,J,G,Rc,F⟩
 obtain⟨a1,aC,F⟩:=Dh F;unfold DT at F
 rw [I.eq];clear I
 have M:=J
 refine Ax<|Ax<|Aw<|Be (Iv A) Av<|Be (Sl Aa l Ca) Av<|AA<|Bd Try.underlying22 Av ?_
 replace Fa:=Fa.step (p3.trans J)
 have aS:=Bb Fa
 refine AA<|Bu Av Av<|Ay<|AF F Av (fun aD F=>?_) (fun aD F=>?_)
 refine AH<|Ax<|AE<|Ax<|B9 (g0:=[]) (m:=5) (fl:=[]) (Dc G) Av (.inl Av) Av (by decide+kernel) ?_  -- 4
 refine Ba (Sl Aa l Ca) (fun _ _ _ hi Q=>AD (v:=Sl Aa l Ca) (Q 0 Av)<|Gz hi)<|Ba (Iv A) (fun _ _ _ hi Q=>AD (v:=Iv A) (Q 5 Av)<|Gz hi) ?_
 obtain⟨W,F⟩:=AG F
 refine Bc (VP _ _ B2 (gt l A)) (VP.stab _ _) (fun aT a2 g aE hi Q=>?_) ?_
 obtain⟨-,aK,-⟩:=aE
 replace Fa:=Fa.step aK
 refine Az<|AC (q:=B2) F1 Eo (Q 12 Av) (Q 13 Av) Fa Av W.1 W.2 ?_
 intro a3 aL
 exact Bs.same hi ⟨_,Av,aL⟩
 refine Bc (VD _ _ (vA B2) (gt l A)) (VD.stab _ _) (fun aU a4 g aE hi Q=>?_) ?_
 obtain⟨a5,aM,aN⟩:=Q 14 Av
 refine Az<|BF Eo aM aN Av ?_
 intro aV aO
 obtain⟨_,_,rfl,rfl,⟨_,_,rfl,⟨rfl,Rd⟩,⟨rfl,Re⟩⟩⟩:=aO
 exact Bs.same hi (show Vr.vd (vA B2) _ _ _ _ from(Jn (Cz (AU GQ (AU (AW Rd) (AW Re))))))
 refine Ba (Value.agg [Bo c.airport,Iv c.index,Iv c.minute].toArray) (fun _ _ _ hi Q=>Bz 0 Eo (AB.nx hi).1 (Q 3 Av) Av Av<|Gz hi)<|BA fun a6 a7 aF aG=>?_
 obtain⟨-,Y,-⟩:=aF
 obtain⟨N,aH⟩:=AB.nx aG
 rintro _ rfl a8 Z
 replace Z:Vr.vd (vA B2) _ _ _ _:=Z
 obtain⟨_,rfl,⟨_,_,rfl,rfl,⟨_,_,rfl,⟨rfl,Rf⟩,⟨rfl,Rg⟩⟩⟩⟩:=Z
 rintro _ ⟨a9,rfl,U⟩ _ rfl _ rfl
 have aP:=G.to N (Y.trans aH)
 replace U:=U.step aH;clear G
 refine AA<|TO (c:=decide ((gt l A)=c)) Av Av Wk (Uq 9998 (gt l A) c _)<|Ay<|AF F Av (fun aI F=>?_) (fun aI F=>?_)
 refine Ax ?_
 clear Fa U
 refine Aw<|Be (Iv A) Av<|Bn (Iv A) Av<|Ay<|AY<|⟨_,En,[Iv A],⟨Av,trivial⟩,N.ext,?_⟩
 exact Vr.eq (a:=(vI .i64)) (x:=A) ⟨Av,Rc⟩ (oi F)
 refine AH ?_
 clear U
 refine Aw<|Be (Iv A) Av<|AA<|Bm Av Av<|Bn (Iv (wq (A+1))) Av<|Ay ?_
 replace M:=M.trans aP
 exact aB _ _ ⟨(wq (A+1)),_,Av,BB.of ⟨Av,trivial⟩,M,N,(AZ .i64 _),Ed aC F⟩
 refine Br<|Ax ?_
 obtain⟨aJ,bA⟩:=G.sub (bs':=[]) (.cons _ List.Sublist.slnil)
 clear Fa
 clear G
 refine Aw<|Bn (Iv (-1)) Av<|Ay<|AY<|⟨_,En,[Iv (-1)],⟨Av,trivial⟩,aJ.ext,?_⟩
 exact Vr.eq (a:=(vI .i64)) (x:=(-1)) ⟨Av,(show BR .i64 (-1) from by decide)⟩ (oi F)

abbrev WQ:List Nat:=[102,103,104,105,106,107,108,109,110,111,112,113,114,115,116,117,118,119,120,121,122,123,124,125,126,127,128,129,130]

abbrev U4:List Nat:=[4,8,9,90,91,92,93,94,95,96,97,98,99,100,101,102,103,104,105,106,107,108,109,110,111,112,113,114,115,116,117,118,119,120,121,122,123,124,125,126,127,128,129,130]

abbrev WR:List Nat:=[74,75,76,77,78,79,80,81,82,83,84,85,86,87,88,89]

abbrev QU:List Nat:=[4,6,7,8,9,62,63,64,65,66,67,68,69,70,71,72,73,74,75,76,77,78,79,80,81,82,83,84,85,86,87,88,89,90,91,92,93,94,95,96,97,98,99,100,101,102,103,104,105,106,107,108,109,110,111,112,113,114,115,116,117,118,119,120,121,122,123,124,125,126,127,128,129,130]

abbrev WS:List Nat:=[33,34,35,36,37,38,39,40,41,42,43,44,45,46,47,48,49,50,51,52,53,54,55,56,57,58,59,60,61]

abbrev U5:List Nat:=[4,5,26,27,28,29,30,31,32,33,34,35,36,37,38,39,40,41,42,43,44,45,46,47,48,49,50,51,52,53,54,55,56,57,58,59,60,61]

abbrev WT:List Nat:=[10,11,12,13,14,15,16,17,18,19,20,21,22,23,24,25]

def BY (p:A9) (v:AL) (F:Int) (M:Int→Option Bool) (N:Int→Option Bool) (A:Int):Option Bool:=
 bif (decide (A<(((v.choices.getD F.toNat default).uses).length:Int))) then
  ck ((0:Int)≤A∧A<(((v.choices.getD F.toNat default).uses).length:Int))<|
  jn (fun(U:Bool)=>
   bif U then
    some false
   else
    N (IntKind.wrap .i64 (A+1)))
  (fun G=>
   (DW p.cells ((((v.choices.getD F.toNat default).uses).getD A.toNat default).cell)).bind fun Q=>
   bif (decide (Q<0)) then
    G true
   else
    (BC ((((v.choices.getD F.toNat default).uses).getD A.toNat default).places) 1 8).bind fun I=>
    bif (!I) then
     G true
    else
     bif (decide (0<A)) then
      ck ((0:Int)≤(IntKind.wrap .i64 (A - 1))∧(IntKind.wrap .i64 (A - 1))<(((v.choices.getD F.toNat default).uses).length:Int))<|
      (DG ((((v.choices.getD F.toNat default).uses).getD (IntKind.wrap .i64 (A - 1)).toNat default).cell) ((((v.choices.getD F.toNat default).uses).getD A.toNat default).cell)).bind fun J=>
      G (!J)
     else
      G false)
 else
  M (IntKind.wrap .i64 (F+1))

def CN (p:A9) (v:AL) (M:Int→Option Bool) (A:Int):Option Bool:=
 bif (decide (A<(v.choices.length:Int))) then
  ck ((0:Int)≤A∧A<(v.choices.length:Int))<|
  jn (fun(N:Bool)=>
   bif N then
    some false
   else
    B1 (BY p v A M) (((((v.choices.getD A.toNat default).uses).length:Int) - 0).toNat+1) 0)
  (fun J=>
   (BC ((v.choices.getD A.toNat default).delay) 0 1048576).bind fun F=>
   bif (!F) then
    J true
   else
    (BC ((v.choices.getD A.toNat default).cost) 0 1048576).bind fun G=>
    bif (!G) then
     J true
    else
     (BC ((v.choices.getD A.toNat default).changes) 0 1048576).bind fun I=>
     J (!I))
 else
  some true

def BZ (p:A9) (v:AL) (I:Int→Option Bool) (A:Int):Option Bool:=
 bif (decide (A<(v.leaves.length:Int))) then
  jn (fun(J:Bool)=>
   bif J then
    some false
   else
    I (IntKind.wrap .i64 (A+1)))
  (fun G=>
   ck ((0:Int)≤A∧A<(v.leaves.length:Int))<|
   (BC (v.leaves.getD A.toNat default) 0 (IntKind.wrap .i64 ((p.capacity.length:Int) - 1))).bind fun F=>
   bif (!F) then
    G true
   else
    bif (decide (0<A)) then
     ck ((0:Int)≤(IntKind.wrap .i64 (A - 1))∧(IntKind.wrap .i64 (A - 1))<(v.leaves.length:Int))<|
     ck ((0:Int)≤A∧A<(v.leaves.length:Int))<|
     G (decide ((v.leaves.getD A.toNat default)≤(v.leaves.getD (IntKind.wrap .i64 (A - 1)).toNat default)))
    else
     G false)
 else
  B1 (CN p v) (((v.choices.length:Int) - 0).toNat+1) 0

def DX (p:A9) (v:AL):Option Bool:=
 jn (fun(F:Bool)=>
  bif F then
   some false
  else
   B1 (BZ p v) (((v.leaves.length:Int) - 0).toNat+1) 0)
 (fun A=>
  bif (decide ((v.leaves.length:Int)<1)) then
   A true
  else
   bif (decide ((v.choices.length:Int)<1)) then
    A true
   else
    A (decide (96<(v.choices.length:Int))))

theorem I3 {w:World} {O:List Nat} {p:A9} {v:AL} {Aa:Option Addr} {Ca:Nat} {Ab:Option Addr} {Cb:Nat} {Ac:Option Addr} {Cc:Nat} {Ad:Option Addr} {Cd:Nat} {Ae:Option Addr} {Ce:Nat} (hO:∀k∈O,k<w.heap.size) (Fa:CA B2 w O Aa Ca p.cells) (Fb:CA (BE (AM .i64)) w O Ab Cb p.capacity) (Fc:CA AT w O Ac Cc p.variables) (Ra:BR .i64 v.flight) (Rb:BR .i64 v.node) (Fd:CA (AM .i64) w O Ad Cd v.leaves) (Fe:CA BL w O Ae Ce v.choices) {x:Bool} (A:DX p v=some x):
 Ok Try.prog 62 [Value.agg (C0 p Aa Ca Ab Cb Ac Cc).toArray,Value.agg [Iv v.flight,Iv v.node,Sl Ad v.leaves Cd,Sl Ae v.choices Ce].toArray] w O vB x:=by
 unfold DX at A
 refine Bt (n:=131) (xs:=[.tmp 4]) Try.func62 Av Try.ntmps62 Try.results62 Av ?_
 have hs:=St.start hO
 refine Ax<|Aw<|AA<|BV (cs:=(C0 p Aa Ca Ab Cb Ac Cc)) hs Av Av ?_
 intro b1 w2 _ p3 eP
 refine AA<|BV (cs:=[Iv v.flight,Iv v.node,Sl Ad v.leaves Cd,Sl Ae v.choices Ce]) eP Av Av ?_
 intro b6 w7 _ p8 aS
 clear eP
 refine Bn (Bo false) Av<|Ay<|Ax<|Wr [] [(2,Pt b1 0),(3,Pt b6 0)] fun hI=>?_
 obtain⟨gF,eQ,A⟩:=Dp A
 refine D8 WT (fun fr w'=>∃(dD:Bool) (M:Bi),M=[(some b6,Oc [Iv v.flight,Iv v.node,Sl Ad v.leaves Cd,Sl Ae v.choices Ce] 61),(some b1,Oc (C0 p Aa Ca Ab Cb Ac Cc) 26)]∧fr [] [(25,Bo dD)]∧aS.S (ks M O) w'∧St ⟨w,[],[]⟩ O w' M∧gF dD=some x) ?_ ?_
 rintro hJ j9 ⟨dD,_,rfl,bG,dE,a4,A⟩
 replace A:=Ed eQ A
 rw [bG.eq];clear bG
 refine AF A Av (fun eR A=>?_) (fun eR A=>?_)
 refine Ax ?_
 obtain⟨eS,kA⟩:=a4.sub (bs':=[]) (.cons _ (.cons _ List.Sublist.slnil))
 clear Fa Fb Fc Fd Fe
 clear a4
 refine Aw<|Bn (Bo false) Av<|Ay<|AY<|⟨_,En,[Bo false],⟨Av,trivial⟩,eS.ext,?_⟩
 exact Vr.eq (a:=vB) (x:=false) Av (oi A)
 refine AH<|Ax<|Ax<|Aw<|Bn (Iv 0) Av<|Ay<|AE<|Wr [] [(2,Pt b1 0),(3,Pt b6 0),(5,Iv 0)] fun eT=>Bh U5 (fun m fr w'=>∃(J:Int) (M:Bi),M=[(some b6,Oc [Iv v.flight,Iv v.node,Sl Ad v.leaves Cd,Sl Ae v.choices Ce] 61),(some b1,Oc (C0 p Aa Ca Ab Cb Ac Cc) 26)]∧fr [] [(5,Iv J)]∧a4.S (ks M O) w'∧St ⟨w,[],[]⟩ O w' M∧BR .i64 J∧B1 (BZ p v) m J=some x) (((v.leaves.length:Int) - 0).toNat+1) ⟨0,_,Av,BB.of ⟨Av,trivial⟩,AB.refl _ _,a4,EG,A⟩ ?_ ?_
 rintro _ _ ⟨_,_,_,_,_,_,_,A⟩;exact Dg A
 rintro kB kC eU hK kD ⟨J,_,rfl,bH,bI,aA,Rc,A⟩
 obtain⟨hL,dF,A⟩:=Dh A;unfold BZ at A
 rw [bH.eq];clear bH
 have bJ:=bI
 refine Ax<|Ax<|Aw<|Be (Iv J) Av<|AA<|AP 2 Ex Av Bp Av Av<|AA<|AQ 0 Bp aA Av Av Av<|AA<|Bd Try.underlying31 Av ?_
 have eV:=(p3.trans (p8.trans (dE.trans bI)))
 replace Fd:=Fd.step eV
 have hM:=Bb Fd
 refine AA<|Bu Av Av<|Ay<|AF A Av (fun eW A=>?_) (fun eW A=>?_)
 refine AH<|Ax<|AE<|Ip U5 [] (CK ⟨eT,[]⟩ [(2,Pt b1 0),(3,Pt b6 0),(5,Iv 0)]) [(5,Iv J)] fun hN=>?_
 obtain⟨gG,eX,A⟩:=Dp A
 refine D8 WS (fun fr w'=>∃(dG:Bool) (M:Bi),M=[(some b6,Oc [Iv v.flight,Iv v.node,Sl Ad v.leaves Cd,Sl Ae v.choices Ce] 61),(some b1,Oc (C0 p Aa Ca Ab Cb Ac Cc) 26)]∧fr [] [(61,Bo dG)]∧aA.S (ks M O) w'∧St ⟨w,[],[]⟩ O w' M∧gG dG=some x) ?_ ?_
 rintro hP kE ⟨dG,_,rfl,bK,dH,cW,A⟩
 replace A:=Ed eX A
 rw [bK.eq];clear bK
 refine AF A Av (fun eY A=>?_) (fun eY A=>?_)
 refine Ax<|Aw<|Bn (Bo false) Av<|Ay<|AY<|⟨_,En,[Bo false],⟨Av,trivial⟩,cW.ext,?_⟩
 exact Vr.eq (a:=vB) (x:=false) Av (oi A)
 refine AH<|Aw<|Be (Iv J) Av<|AA<|Bm Av Av<|Bn (Iv (wq (J+1))) Av<|Ay ?_
 replace bJ:=bJ.trans dH
 exact eU _ _ ⟨(wq (J+1)),_,Av,BB.of ⟨Av,trivial⟩,bJ,cW,(AZ .i64 _),Ed dF A⟩
 intro kF bL
 have aB:=aA.stepR
 refine B9 (g0:=[]) (m:=26) (fl:=[]) (Dc aA) Av (.inl Av) Av (by decide+kernel) ?_  -- 6
 refine Ba (Pt b6 2) (fun _ _ _ hi G=>AP 2 Ex Av Bp (G 3 Av) Av<|Gz hi)<|Ba (Sl Ad v.leaves Cd) (fun _ _ _ hi G=>AQ 0 Bp (AB.nx hi).1 (G 33 Av) Av Av<|Gz hi)<|Ba (Iv J) (fun _ _ _ hi G=>AD (v:=Iv J) (G 5 Av)<|Gz hi) ?_
 obtain⟨cX,A⟩:=AG A
 refine Bc (VP _ _ (AM .i64) (gt v.leaves J)) (VP.stab _ _) (fun hQ kG g W hi G=>?_) ?_
 obtain⟨-,aN,-⟩:=W
 replace Fd:=Fd.step aN
 refine Az<|AC (q:=(AM .i64)) Bp BD (G 34 Av) (G 35 Av) Fd Av cX.1 cX.2 ?_
 intro kH gH
 exact Bs.same hi ⟨_,Av,gH⟩
 refine Bc (VD _ _ (vI .i64) (gt v.leaves J)) (VD.stab _ _) (fun hR kJ g W hi G=>?_) ?_
 obtain⟨kK,gI,gJ⟩:=G 36 Av
 refine Az<|AX BD gI gJ Av ?_
 intro kL gK
 obtain⟨rfl,Rd⟩:=C3 gK
 exact Bs.same hi (show Vr.vd (vI .i64) _ _ _ _ from⟨Av,Rd⟩)
 refine Ba (Pt b1 1) (fun _ _ _ hi G=>AP 1 Bw Av CB (G 2 Av) Av<|Gz hi)<|Ba (Sl Ab p.capacity Cb) (fun _ _ _ hi G=>AQ 1 CB (AB.nx hi).1 (G 38 Av) Av Av<|Gz hi)<|Ba (Iv (p.capacity.length:Int)) (fun _ _ _ hi G=>Bd Try.underlying23 (G 39 Av)<|Gz hi)<|Ba (Iv (wq ((p.capacity.length:Int) - 1))) (fun _ _ _ hi G=>FC (G 40 Av) Av<|Gz hi) ?_
 obtain⟨U,eZ,A⟩:=bd A
 refine Bc (VD _ _ vB U) (VD.stab _ _) (fun hS kM g W hi G=>?_) ?_
 have gL:Vr.vd (vI .i64) _ _ _ _:=G 37 Av
 obtain⟨gM,Re⟩:=gL
 refine Az (FT Try.call61 (De (O:=ks (Em g++[(some b6,Oc [Iv v.flight,Iv v.node,Sl Ad v.leaves Cd,Sl Ae v.choices Ce] 61),(some b1,Oc (C0 p Aa Ca Ab Cb Ac Cc) 26)]) O) (n:=gt v.leaves J) (lo:=0) (hi:=(wq ((p.capacity.length:Int) - 1))) hi.ltw Re EG (AZ .i64 _) eZ) (by simp only [List.map,Array.toList,(show ev _ (.tmp 37)=_ from gM),(show ev _ (.const (.int .i64 0))=.int .i64 0 from Av),(show ev _ (.tmp 41)=_ from(G 41 Av))]<;> rfl) ?_)
 rintro kN kO ⟨e0,gN⟩
 exact Bs.call hi e0 gN
 refine Do (Bo (!U)) (fun hT hU g W hi G=>?_) ?_
 have e1:Vr.vd vB _ _ _ _:=G 42 Av
 have e2:_=(Bo U):=e1
 exact Az<|Es e2<|Gz hi
 refine Gf (!U) (fun _ _ _ _ hi G=>Az<|AD (v:=Bo (!U)) (G 43 Av)<|Gz hi) (fun aT=>?_) (fun aT=>?_)
 replace A:=GA A aT
 iterate 14 refine E7 Av Av (fun _ _ _ h=>h) Av ?_
 refine BA fun hV hW dI dJ=>?_
 obtain⟨-,cM,-⟩:=dI
 obtain⟨bM,cY⟩:=AB.nx dJ
 rintro _ rfl _ rfl _ rfl _ rfl _ rfl _ rfl _ rfl _ rfl _ rfl _ rfl _ rfl _ rfl _ rfl _ rfl _ rfl _ rfl hX bN
 replace bN:Vr.vd vB _ _ _ _:=bN
 obtain rfl:=bN
 rintro _ rfl _ rfl _ rfl _ rfl hY bO
 replace bO:Vr.vd (vI .i64) _ _ _ _:=bO
 obtain⟨rfl,Rf⟩:=bO
 rintro _ ⟨hZ,rfl,cZ⟩ _ rfl _ rfl _ rfl
 have e3:=aA.to bM (cM.trans cY)
 replace cZ:=cZ.step cY
 refine AI Av (AJ Av Av) Av<|AI Av (AJ Av Av) Av<|FR (Bo true) Av Av<|Ay ?_
 replace aB:=aB.trans e3
 exact bL _ _ ⟨true,_,Av,BB.of ⟨Av,trivial⟩,aB,bM,A⟩
 replace A:=GB A aT
 refine CV (Iv J) Av Av (fun _ _ _ h=>h) (fun _ _ _ hi G=>AD (v:=Iv J) (G 5 Av)<|Gz hi)<|CV (Bo (decide (0<J))) Av Av (fun _ _ _ h=>h) (fun _ _ _ hi G=>EY (G 45 Av) Av<|Gz hi)<|Gf (decide (0<J)) (fun _ _ _ _ hi G=>BI Av (G 44 Av)<|AD (v:=Bo (decide (0<J))) (G 46 Av)<|Gz hi) (fun aU=>?_) (fun aU=>?_)
 replace A:=GA A aU
 refine CV (Pt b6 2) Av Av (fun _ _ _ h=>h) (fun _ _ _ hi G=>AP 2 Ex Av Bp (G 3 Av) Av<|Gz hi)<|CV (Sl Ad v.leaves Cd) Av Av (fun _ _ _ h=>h) (fun _ _ _ hi G=>AQ 0 Bp (AB.nx hi).1 (G 48 Av) Av Av<|Gz hi)<|CV (Iv J) Av Av (fun _ _ _ h=>h) (fun _ _ _ hi G=>AD (v:=Iv J) (G 5 Av)<|Gz hi)<|CV (Iv (wq (J - 1))) Av Av (fun _ _ _ h=>h) (fun _ _ _ hi G=>FC (G 50 Av) Av<|Gz hi) ?_
 obtain⟨bP,A⟩:=AG A
 refine Bc (VP _ _ (AM .i64) (gt v.leaves (wq (J - 1)))) (VP.stab _ _) (fun gO h0 g W hi G=>?_) ?_
 obtain⟨-,aN,-⟩:=W
 replace Fd:=Fd.step aN
 refine BI Av (G 47 Av)<|AC (q:=(AM .i64)) Bp BD (G 49 Av) (G 51 Av) Fd Av bP.1 bP.2 ?_
 intro h1 e4
 exact Bs.same hi ⟨_,Av,e4⟩
 refine Bc (VD _ _ (vI .i64) (gt v.leaves (wq (J - 1)))) (VD.stab _ _) (fun gP h2 g W hi G=>?_) ?_
 obtain⟨h3,e5,e6⟩:=G 52 Av
 refine BI Av (G 47 Av)<|AX BD e5 e6 Av ?_
 intro h4 e7
 obtain⟨rfl,Rg⟩:=C3 e7
 exact Bs.same hi (show Vr.vd (vI .i64) _ _ _ _ from⟨Av,Rg⟩)
 refine CV (Pt b6 2) Av Av (fun _ _ _ h=>h) (fun _ _ _ hi G=>AP 2 Ex Av Bp (G 3 Av) Av<|Gz hi)<|CV (Sl Ad v.leaves Cd) Av Av (fun _ _ _ h=>h) (fun _ _ _ hi G=>AQ 0 Bp (AB.nx hi).1 (G 54 Av) Av Av<|Gz hi)<|CV (Iv J) Av Av (fun _ _ _ h=>h) (fun _ _ _ hi G=>AD (v:=Iv J) (G 5 Av)<|Gz hi) ?_
 obtain⟨bQ,A⟩:=AG A
 refine Bc (VP _ _ (AM .i64) (gt v.leaves J)) (VP.stab _ _) (fun gQ h5 g W hi G=>?_) ?_
 obtain⟨-,aN,-⟩:=W
 replace Fd:=Fd.step aN
 refine BI Av (G 47 Av)<|AC (q:=(AM .i64)) Bp BD (G 55 Av) (G 56 Av) Fd Av bQ.1 bQ.2 ?_
 intro h6 e8
 exact Bs.same hi ⟨_,Av,e8⟩
 refine Bc (VD _ _ (vI .i64) (gt v.leaves J)) (VD.stab _ _) (fun gR h7 g W hi G=>?_) ?_
 obtain⟨h8,e9,fA⟩:=G 57 Av
 refine BI Av (G 47 Av)<|AX BD e9 fA Av ?_
 intro h9 fB
 obtain⟨rfl,Rh⟩:=C3 fB
 exact Bs.same hi (show Vr.vd (vI .i64) _ _ _ _ from⟨Av,Rh⟩)
 refine BA fun iA iB dK dL=>?_
 obtain⟨-,cN,-⟩:=dK
 obtain⟨bR,a5⟩:=AB.nx dL
 rintro iC bS
 replace bS:Vr.vd (vI .i64) _ _ _ _:=bS
 obtain⟨rfl,Ri⟩:=bS
 rintro _ ⟨iD,rfl,c0⟩ _ rfl _ rfl _ rfl iE bT
 replace bT:Vr.vd (vI .i64) _ _ _ _:=bT
 obtain⟨rfl,Rj⟩:=bT
 rintro _ ⟨iF,rfl,c1⟩ _ rfl _ rfl _ rfl _ rfl _ rfl _ rfl _ rfl _ rfl _ rfl iG bU
 replace bU:Vr.vd vB _ _ _ _:=bU
 obtain rfl:=bU
 rintro _ rfl _ rfl _ rfl _ rfl iH bV
 replace bV:Vr.vd (vI .i64) _ _ _ _:=bV
 obtain⟨rfl,Rk⟩:=bV
 rintro _ ⟨iI,rfl,c2⟩ _ rfl _ rfl _ rfl
 have fC:=aA.to bR (cN.trans a5)
 replace c0:=c0.step a5;replace c1:=c1.step a5;replace c2:=c2.step a5
 refine BN Av Av<|Hk Av Av<|BN Av Av<|C6 (v:=Bo (decide ((gt v.leaves J)≤(gt v.leaves (wq (J - 1)))))) Av Av<|FF (Bo (decide ((gt v.leaves J)≤(gt v.leaves (wq (J - 1)))))) Av Av<|Ay ?_
 replace aB:=aB.trans fC
 exact bL _ _ ⟨decide ((gt v.leaves J)≤(gt v.leaves (wq (J - 1)))),_,Av,BB.of ⟨Av,trivial⟩,aB,bR,A⟩
 replace A:=GB A aU
 iterate 11 refine E7 Av Av (fun _ _ _ h=>h) Av ?_
 refine BA fun iJ iK dM dN=>?_
 obtain⟨-,cO,-⟩:=dM
 obtain⟨bW,c3⟩:=AB.nx dN
 rintro _ rfl _ rfl _ rfl _ rfl _ rfl _ rfl _ rfl _ rfl _ rfl _ rfl _ rfl _ rfl _ rfl _ rfl _ rfl _ rfl iL bX
 replace bX:Vr.vd vB _ _ _ _:=bX
 obtain rfl:=bX
 rintro _ rfl _ rfl _ rfl _ rfl iM bY
 replace bY:Vr.vd (vI .i64) _ _ _ _:=bY
 obtain⟨rfl,Rl⟩:=bY
 rintro _ ⟨iN,rfl,c4⟩ _ rfl _ rfl _ rfl
 have fD:=aA.to bW (cO.trans c3)
 replace c4:=c4.step c3
 refine AI Av (AJ Av Av) Av<|BN Av Av<|Ek (v:=Bo false) Av Av<|FF (Bo false) Av Av<|Ay ?_
 replace aB:=aB.trans fD
 exact bL _ _ ⟨false,_,Av,BB.of ⟨Av,trivial⟩,aB,bW,A⟩
 refine Br<|Ax<|Ax<|Aw<|Bn (Iv 0) Av<|Ay<|AE<|Wr [] [(2,Pt b1 0),(3,Pt b6 0),(6,Iv 0)] fun aV=>Bh QU (fun m fr w'=>∃(F:Int) (M:Bi),M=[(some b6,Oc [Iv v.flight,Iv v.node,Sl Ad v.leaves Cd,Sl Ae v.choices Ce] 61),(some b1,Oc (C0 p Aa Ca Ab Cb Ac Cc) 26)]∧fr [] [(6,Iv F)]∧aA.S (ks M O) w'∧St ⟨w,[],[]⟩ O w' M∧BR .i64 F∧B1 (CN p v) m F=some x) (((v.choices.length:Int) - 0).toNat+1) ⟨0,_,Av,BB.of ⟨Av,trivial⟩,AB.refl _ _,aA,EG,A⟩ ?_ ?_
 rintro _ _ ⟨_,_,_,_,_,_,_,A⟩;exact Dg A
 rintro iO iP dO gS iQ ⟨F,_,rfl,a6,a7,aD,Rm,A⟩
 obtain⟨dP,cP,A⟩:=Dh A;unfold CN at A
 rw [a6.eq];clear a6
 have aW:=a7
 refine Ax<|Ax<|Aw<|Be (Iv F) Av<|AA<|AP 3 Ex Av G0 Av Av<|AA<|AQ 0 G0 aD Av Av Av<|AA<|Bd Try.underlying59 Av ?_
 have c5:=(eV.trans a7)
 replace Fe:=Fe.step c5
 have gT:=Bb Fe
 refine AA<|Bu Av Av<|Ay<|AF A Av (fun dQ A=>?_) (fun dQ A=>?_)
 refine AH<|Ax<|AE<|Ax<|Aw<|AA<|AP 3 Ex Av G0 Av Av<|AA<|AQ 0 G0 aD Av Av Av<|Be (Iv F) Av ?_
 obtain⟨bZ,A⟩:=AG A
 refine AA<|AC (q:=BL) G0 Gy Av Av Fe Av bZ.1 bZ.2 ?_
 intro iR a8
 refine AA<|BF Gy Av a8 Av ?_
 intro gU fE
 obtain⟨_,_,rfl,⟨rfl,Rn⟩,⟨_,_,rfl,⟨rfl,Ro⟩,⟨_,_,rfl,⟨rfl,Rp⟩,⟨Af,Cf,rfl,Ff⟩⟩⟩⟩:=fE
 refine AA<|Bx Gy aD ?_
 intro aC iS _ c6 b0
 clear aD
 refine Bk<|Cx .z Gy b0 Av Av Av Av Av ?_
 intro iT c7 aF
 clear b0
 refine Ay<|Ax<|Ip QU [] (CK ⟨aV,[]⟩ [(2,Pt b1 0),(3,Pt b6 0),(6,Iv 0)]) [(6,Iv F),(7,Pt aC 0)] fun gV=>?_
 obtain⟨fF,dR,A⟩:=Dp A
 refine D8 WR (fun fr w'=>∃(dS:Bool) (M:Bi),M=[(some aC,Oc [Iv ((gt v.choices F).delay),Iv ((gt v.choices F).cost),Iv ((gt v.choices F).changes),Sl Af ((gt v.choices F).uses) Cf] 58),(some b6,Oc [Iv v.flight,Iv v.node,Sl Ad v.leaves Cd,Sl Ae v.choices Ce] 61),(some b1,Oc (C0 p Aa Ca Ab Cb Ac Cc) 26)]∧fr [] [(89,Bo dS)]∧aF.S (ks M O) w'∧St ⟨w,[],[]⟩ O w' M∧fF dS=some x) ?_ ?_
 rintro gW iU ⟨dS,_,rfl,a9,bA,aX,A⟩
 replace A:=Ed dR A
 rw [a9.eq];clear a9
 refine AF A Av (fun dT A=>?_) (fun dT A=>?_)
 refine Ax ?_
 clear a8
 refine Aw<|Bn (Bo false) Av<|Ay<|AY<|⟨_,En,[Bo false],⟨Av,trivial⟩,aX.ext,?_⟩
 exact Vr.eq (a:=vB) (x:=false) Av (oi A)
 refine AH<|Ax ?_
 clear a8
 refine Aw<|Bn (Iv 0) Av<|Ay<|AE<|Ip QU [] (CK ⟨aV,[]⟩ [(2,Pt b1 0),(3,Pt b6 0),(6,Iv 0)]) [(6,Iv F),(7,Pt aC 0),(8,Iv 0)] fun dU=>Bh U4 (fun m fr w'=>∃(I:Int) (M:Bi),M=[(some aC,Oc [Iv ((gt v.choices F).delay),Iv ((gt v.choices F).cost),Iv ((gt v.choices F).changes),Sl Af ((gt v.choices F).uses) Cf] 58),(some b6,Oc [Iv v.flight,Iv v.node,Sl Ad v.leaves Cd,Sl Ae v.choices Ce] 61),(some b1,Oc (C0 p Aa Ca Ab Cb Ac Cc) 26)]∧fr [] [(8,Iv I)]∧aX.S (ks M O) w'∧St ⟨w,[],[]⟩ O w' M∧BR .i64 I∧B1 (BY p v F dP) m I=some x) (((((gt v.choices F).uses).length:Int) - 0).toNat+1) ⟨0,_,Av,BB.of ⟨Av,trivial⟩,AB.refl _ _,aX,EG,A⟩ ?_ ?_
 rintro _ _ ⟨_,_,_,_,_,_,_,A⟩;exact Dg A
 rintro iV iW dV gX iX ⟨I,_,rfl,bB,aO,Y,Rq,A⟩
 obtain⟨gY,cQ,A⟩:=Dh A;unfold BY at A
 rw [bB.eq];clear bB
 have aY:=aO
 refine Ax<|Ax<|Aw<|Be (Iv I) Av<|AA<|AP 3 Gy Av HK Av Av<|AA<|AQ 0 HK Y Av Av Av<|AA<|Bd Try.underlying56 Av ?_
 have c8:=(c6.trans (c7.trans (bA.trans aO)))
 replace Ff:=Ff.step c8
 have gZ:=Bb Ff
 refine AA<|Bu Av Av<|Ay<|AF A Av (fun dW A=>?_) (fun dW A=>?_)
 refine AH<|Ax<|AE<|Ax<|Aw<|AA<|AP 3 Gy Av HK Av Av<|AA<|AQ 0 HK Y Av Av Av<|Be (Iv I) Av ?_
 obtain⟨b2,A⟩:=AG A
 refine AA<|AC (q:=FO) HK GU Av Av Ff Av b2.1 b2.2 ?_
 intro iY bC
 refine AA<|BF GU Av bC Av ?_
 intro g1 fG
 obtain⟨_,_,rfl,⟨_,_,rfl,rfl,⟨_,_,rfl,⟨rfl,Rr⟩,⟨rfl,Rs⟩⟩⟩,⟨rfl,Rt⟩⟩:=fG
 refine AA<|Bx GU Y ?_
 intro aG iZ _ b3 b4
 clear Y
 refine Bk<|Cx .z GU b4 Av Av Av Av Av ?_
 intro i0 b5 Z
 clear b4
 refine Ay<|Ip U4 [] (CK (IT QU [] dU (CK ⟨aV,[]⟩ [(2,Pt b1 0),(3,Pt b6 0),(6,Iv 0)])) [(6,Iv F),(7,Pt aC 0),(8,Iv 0)]) [(8,Iv I),(9,Pt aG 0)] fun g2=>?_
 obtain⟨fH,dX,A⟩:=Dp A
 refine D8 WQ (fun fr w'=>∃(dY:Bool) (M:Bi),M=[(some aG,Oc [Bo (((gt ((gt v.choices F).uses) I).cell).airport),Iv (((gt ((gt v.choices F).uses) I).cell).index),Iv (((gt ((gt v.choices F).uses) I).cell).minute),Iv ((gt ((gt v.choices F).uses) I).places)] 76),(some aC,Oc [Iv ((gt v.choices F).delay),Iv ((gt v.choices F).cost),Iv ((gt v.choices F).changes),Sl Af ((gt v.choices F).uses) Cf] 58),(some b6,Oc [Iv v.flight,Iv v.node,Sl Ad v.leaves Cd,Sl Ae v.choices Ce] 61),(some b1,Oc (C0 p Aa Ca Ab Cb Ac Cc) 26)]∧fr [] [(130,Bo dY)]∧Z.S (ks M O) w'∧St ⟨w,[],[]⟩ O w' M∧fH dY=some x) ?_ ?_
 rintro g3 i1 ⟨dY,_,rfl,bD,cR,aP,A⟩
 replace A:=Ed dX A
 rw [bD.eq];clear bD
 refine AF A Av (fun dZ A=>?_) (fun dZ A=>?_)
 refine Ax ?_
 clear bC
 refine Aw<|Bn (Bo false) Av<|Ay<|AY<|⟨_,En,[Bo false],⟨Av,trivial⟩,aP.ext,?_⟩
 exact Vr.eq (a:=vB) (x:=false) Av (oi A)
 refine AH ?_
 clear bC
 refine Aw<|Be (Iv I) Av<|AA<|Bm Av Av<|Bn (Iv (wq (I+1))) Av<|Ay ?_
 have d0:=aP.drop 0
 have fI:=(aP.dropS 0)
 clear aP
 have fJ:=(b3.trans (b5.trans (cR.trans fI)))
 replace aY:=aY.trans fJ
 exact dV _ _ ⟨(wq (I+1)),_,Av,BB.of ⟨Av,trivial⟩,aY,d0,(AZ .i64 _),Ed cQ A⟩
 intro i2 aQ
 have Q:=Z.stepR
 clear bC
 refine B9 (g0:=[]) (m:=25) (fl:=[]) (Dc Z) Av (.inl Av) Av (by decide+kernel) ?_  -- 18
 refine Ba (Pt b1 0) (fun _ _ _ hi G=>AP 0 Bw Av F1 (G 2 Av) Av<|Gz hi)<|Ba (Sl Aa p.cells Ca) (fun _ _ _ hi G=>AQ 3 F1 (AB.nx hi).1 (G 102 Av) Av Av<|Gz hi)<|Ba (Pt aG 0) (fun _ _ _ hi G=>AP 0 GU Av Eo (G 9 Av) Av<|Gz hi)<|Ba (Value.agg [Bo (((gt ((gt v.choices F).uses) I).cell).airport),Iv (((gt ((gt v.choices F).uses) I).cell).index),Iv (((gt ((gt v.choices F).uses) I).cell).minute)].toArray) (fun _ _ _ hi G=>GI (vs:=[Bo (((gt ((gt v.choices F).uses) I).cell).airport),Iv (((gt ((gt v.choices F).uses) I).cell).index),Iv (((gt ((gt v.choices F).uses) I).cell).minute)]) (i:=0) Eo (AB.nx hi).1 (G 104 Av) Av Av Av<|Gz hi) ?_
 obtain⟨bE,d1,A⟩:=bd A
 have fK:=(c5.trans (c6.trans (c7.trans (bA.trans (aO.trans (b3.trans b5))))))
 replace Fa:=Fa.step fK
 refine Bc (VD _ _ (vI .i64) bE) (VD.stab _ _) (fun g4 i3 g W hi G=>?_) ?_
 obtain⟨-,aN,-⟩:=W
 replace Fa:=Fa.step aN
 refine Az (FT Try.call81 (HO (O:=ks (Em g++[(some aG,Oc [Bo (((gt ((gt v.choices F).uses) I).cell).airport),Iv (((gt ((gt v.choices F).uses) I).cell).index),Iv (((gt ((gt v.choices F).uses) I).cell).minute),Iv ((gt ((gt v.choices F).uses) I).places)] 76),(some aC,Oc [Iv ((gt v.choices F).delay),Iv ((gt v.choices F).cost),Iv ((gt v.choices F).changes),Sl Af ((gt v.choices F).uses) Cf] 58),(some b6,Oc [Iv v.flight,Iv v.node,Sl Ad v.leaves Cd,Sl Ae v.choices Ce] 61),(some b1,Oc (C0 p Aa Ca Ab Cb Ac Cc) 26)]) O) (l:=p.cells) (c:=(gt ((gt v.choices F).uses) I).cell) hi.ltw Fa Rr Rs d1) (by simp only [List.map,Array.toList,(show ev _ (.tmp 103)=_ from(G 103 Av)),(show ev _ (.tmp 105)=_ from(G 105 Av))]<;> rfl) ?_)
 rintro i4 i5 ⟨d2,fL⟩
 exact Bs.call hi d2 fL
 refine Do (Bo (decide (bE<0))) (fun g5 i6 g W hi G=>?_) ?_
 have fM:Vr.vd (vI .i64) _ _ _ _:=G 106 Av
 obtain⟨fN,Ru⟩:=fM
 exact Az<|Bu fN Av<|Gz hi
 refine Gf (decide (bE<0)) (fun _ _ _ _ hi G=>Az<|AD (v:=Bo (decide (bE<0))) (G 107 Av)<|Gz hi) (fun aZ=>?_) (fun aZ=>?_)
 replace A:=GA A aZ
 iterate 4 refine E7 Av Av (fun _ _ _ h=>h) Av ?_
 refine Ba (Bo true) (fun _ _ _ hi G=>C6 (v:=Bo true) (G 108 Av) Av<|Gz hi)<|Ba (Bo true) (fun _ _ _ hi G=>AD (v:=Bo true) (G 113 Av)<|Gz hi) ?_
 iterate 12 refine E7 Av Av (fun _ _ _ h=>h) Av ?_
 refine BA fun i7 i8 d3 d4=>?_
 obtain⟨-,cS,-⟩:=d3
 obtain⟨b7,fO⟩:=AB.nx d4
 rintro _ rfl _ rfl _ rfl _ rfl _ rfl _ rfl _ rfl _ rfl _ rfl _ rfl _ rfl _ rfl _ rfl _ rfl _ rfl _ rfl _ rfl _ rfl _ rfl _ rfl i9 b8
 replace b8:Vr.vd (vI .i64) _ _ _ _:=b8
 obtain⟨rfl,Rv⟩:=b8
 rintro _ rfl _ rfl _ rfl _ rfl
 have fP:=Z.to b7 (cS.trans fO)
 iterate 3 refine AI Av (AJ Av Av) Av ?_
 refine FR (Bo true) Av Av<|Ay ?_
 replace Q:=Q.trans fP
 exact aQ _ _ ⟨true,_,Av,BB.of ⟨Av,trivial⟩,Q,b7,A⟩
 replace A:=GB A aZ
 refine CV (Pt aG 3) Av Av (fun _ _ _ h=>h) (fun _ _ _ hi G=>AP 3 GU Av BD (G 9 Av) Av<|Gz hi)<|CV (Iv ((gt ((gt v.choices F).uses) I).places)) Av Av (fun _ _ _ h=>h) (fun _ _ _ hi G=>AQ 0 BD (AB.nx hi).1 (G 109 Av) Av Av<|Gz hi) ?_
 obtain⟨N,d5,A⟩:=bd A
 refine Bc (VD _ _ vB N) (VD.stab _ _) (fun g6 jA g W hi G=>?_) ?_
 refine BI Av (G 108 Av) (FT Try.call61 (De (O:=ks (Em g++[(some aG,Oc [Bo (((gt ((gt v.choices F).uses) I).cell).airport),Iv (((gt ((gt v.choices F).uses) I).cell).index),Iv (((gt ((gt v.choices F).uses) I).cell).minute),Iv ((gt ((gt v.choices F).uses) I).places)] 76),(some aC,Oc [Iv ((gt v.choices F).delay),Iv ((gt v.choices F).cost),Iv ((gt v.choices F).changes),Sl Af ((gt v.choices F).uses) Cf] 58),(some b6,Oc [Iv v.flight,Iv v.node,Sl Ad v.leaves Cd,Sl Ae v.choices Ce] 61),(some b1,Oc (C0 p Aa Ca Ab Cb Ac Cc) 26)]) O) (n:=(gt ((gt v.choices F).uses) I).places) (lo:=1) (hi:=8) hi.ltw Rt MC (show BR .i64 8 from by decide) d5) (by simp only [List.map,Array.toList,(show ev _ (.tmp 110)=_ from(G 110 Av)),(show ev _ (.const (.int .i64 1))=.int .i64 1 from Av),(show ev _ (.const (.int .i64 8))=.int .i64 8 from Av)]<;> rfl) ?_)
 rintro jB jC ⟨d6,fQ⟩
 exact Bs.call hi d6 fQ
 refine Do (Bo (!N)) (fun g7 jD g W hi G=>?_) ?_
 have fR:Vr.vd vB _ _ _ _:=G 111 Av
 have fS:_=(Bo N):=fR
 exact BI Av (G 108 Av)<|Es fS<|Gz hi
 refine Ba (Bo (!N)) (fun _ _ _ hi G=>Ek (v:=Bo (!N)) (G 108 Av) (G 112 Av)<|Gz hi)<|Gf (!N) (fun _ _ _ _ hi G=>Az<|AD (v:=Bo (!N)) (G 113 Av)<|Gz hi) (fun a0=>?_) (fun a0=>?_)
 replace A:=GA A a0
 iterate 12 refine E7 Av Av (fun _ _ _ h=>h) Av ?_
 refine BA fun jE jF d7 d8=>?_
 obtain⟨-,cT,-⟩:=d7
 obtain⟨b9,fT⟩:=AB.nx d8
 rintro _ rfl _ rfl _ rfl _ rfl _ rfl _ rfl _ rfl _ rfl _ rfl _ rfl _ rfl _ rfl _ rfl _ rfl _ rfl jG cA
 replace cA:Vr.vd vB _ _ _ _:=cA
 obtain rfl:=cA
 rintro _ rfl _ rfl _ rfl _ rfl jH cB
 replace cB:Vr.vd (vI .i64) _ _ _ _:=cB
 obtain⟨rfl,Rw⟩:=cB
 rintro _ rfl _ rfl _ rfl _ rfl
 have fU:=Z.to b9 (cT.trans fT)
 iterate 3 refine AI Av (AJ Av Av) Av ?_
 refine FR (Bo true) Av Av<|Ay ?_
 replace Q:=Q.trans fU
 exact aQ _ _ ⟨true,_,Av,BB.of ⟨Av,trivial⟩,Q,b9,A⟩
 replace A:=GB A a0
 refine CV (Iv I) Av Av (fun _ _ _ h=>h) (fun _ _ _ hi G=>AD (v:=Iv I) (G 8 Av)<|Gz hi)<|CV (Bo (decide (0<I))) Av Av (fun _ _ _ h=>h) (fun _ _ _ hi G=>EY (G 115 Av) Av<|Gz hi)<|Gf (decide (0<I)) (fun _ _ _ _ hi G=>BI Av (G 114 Av)<|AD (v:=Bo (decide (0<I))) (G 116 Av)<|Gz hi) (fun a1=>?_) (fun a1=>?_)
 replace A:=GA A a1
 refine CV (Pt aC 3) Av Av (fun _ _ _ h=>h) (fun _ _ _ hi G=>AP 3 Gy Av HK (G 7 Av) Av<|Gz hi)<|CV (Sl Af ((gt v.choices F).uses) Cf) Av Av (fun _ _ _ h=>h) (fun _ _ _ hi G=>AQ 1 HK (AB.nx hi).1 (G 118 Av) Av Av<|Gz hi)<|CV (Iv I) Av Av (fun _ _ _ h=>h) (fun _ _ _ hi G=>AD (v:=Iv I) (G 8 Av)<|Gz hi)<|CV (Iv (wq (I - 1))) Av Av (fun _ _ _ h=>h) (fun _ _ _ hi G=>FC (G 120 Av) Av<|Gz hi) ?_
 obtain⟨cC,A⟩:=AG A
 have fV:=(b3.trans b5)
 replace Ff:=Ff.step fV
 refine Bc (VP _ _ FO (gt ((gt v.choices F).uses) (wq (I - 1)))) (VP.stab _ _) (fun g8 jI g W hi G=>?_) ?_
 obtain⟨-,aN,-⟩:=W
 replace Ff:=Ff.step aN
 refine BI Av (G 117 Av)<|AC (q:=FO) HK GU (G 119 Av) (G 121 Av) Ff Av cC.1 cC.2 ?_
 intro jJ fW
 exact Bs.same hi ⟨_,Av,fW⟩
 refine Bc (VP _ _ B2 ((gt ((gt v.choices F).uses) (wq (I - 1))).cell)) (VP.stab _ _) (fun g9 jK g W hi G=>?_) ?_
 obtain⟨jL,fX,fY⟩:=G 122 Av
 refine BI Av (G 117 Av)<|C2 GU Av Eo (by decide) fX Av ?_
 have fZ:=fY.via.fst
 exact Bs.same hi ⟨_,Av,fZ⟩
 refine Bc (VD _ _ (vA B2) ((gt ((gt v.choices F).uses) (wq (I - 1))).cell)) (VD.stab _ _) (fun hA jM g W hi G=>?_) ?_
 obtain⟨jN,f0,f1⟩:=G 123 Av
 refine BI Av (G 117 Av)<|BF Eo f0 f1 Av ?_
 intro hB f2
 obtain⟨_,_,rfl,rfl,⟨_,_,rfl,⟨rfl,Rx⟩,⟨rfl,Ry⟩⟩⟩:=f2
 exact Bs.same hi (show Vr.vd (vA B2) _ _ _ _ from(Jn (Cz (AU GQ (AU (AW Rx) (AW Ry))))))
 refine CV (Pt aG 0) Av Av (fun _ _ _ h=>h) (fun _ _ _ hi G=>AP 0 GU Av Eo (G 9 Av) Av<|Gz hi)<|CV (Value.agg [Bo (((gt ((gt v.choices F).uses) I).cell).airport),Iv (((gt ((gt v.choices F).uses) I).cell).index),Iv (((gt ((gt v.choices F).uses) I).cell).minute)].toArray) Av Av (fun _ _ _ h=>h) (fun _ _ _ hi G=>GI (vs:=[Bo (((gt ((gt v.choices F).uses) I).cell).airport),Iv (((gt ((gt v.choices F).uses) I).cell).index),Iv (((gt ((gt v.choices F).uses) I).cell).minute)]) (i:=0) Eo (AB.nx hi).1 (G 125 Av) Av Av Av<|Gz hi)<|BA fun jO jP d9 eA=>?_
 obtain⟨-,cU,-⟩:=d9
 obtain⟨aR,cD⟩:=AB.nx eA
 rintro _ rfl _ rfl jQ cE
 replace cE:Vr.vd (vA B2) _ _ _ _:=cE
 obtain⟨_,rfl,⟨_,_,rfl,rfl,⟨_,_,rfl,⟨rfl,Rz⟩,⟨rfl,hC⟩⟩⟩⟩:=cE
 rintro _ ⟨jR,rfl,c9⟩ _ ⟨jS,rfl,dA⟩ _ rfl _ rfl _ rfl _ rfl _ rfl _ rfl _ rfl _ rfl _ rfl _ rfl jT cF
 replace cF:Vr.vd vB _ _ _ _:=cF
 obtain rfl:=cF
 rintro _ rfl _ rfl _ rfl _ rfl jU cG
 replace cG:Vr.vd (vI .i64) _ _ _ _:=cG
 obtain⟨rfl,kP⟩:=cG
 rintro _ rfl _ rfl _ rfl _ rfl
 have f3:=Z.to aR (cU.trans cD)
 replace c9:=c9.step cD;replace dA:=dA.step cD
 obtain⟨aE,eB,A⟩:=bd A
 refine BN Av Av<|Bj aR Try.call60 (GX (a:=(gt ((gt v.choices F).uses) (wq (I - 1))).cell) (b:=(gt ((gt v.choices F).uses) I).cell) aR.ltw Rz hC Rr Rs eB) Av ?_
 rintro jV jW f4 eC f5
 clear aR
 obtain rfl:=f5
 refine BN Av Av<|Es Av<|BN Av Av<|C6 (v:=Bo (!aE)) Av Av<|FF (Bo (!aE)) Av Av<|Ay ?_
 have f6:=(f3.trans f4)
 replace Q:=Q.trans f6
 exact aQ _ _ ⟨!aE,_,Av,BB.of ⟨Av,trivial⟩,Q,eC,A⟩
 replace A:=GB A a1
 iterate 9 refine E7 Av Av (fun _ _ _ h=>h) Av ?_
 refine BA fun jX jY eD eE=>?_
 obtain⟨-,cV,-⟩:=eD
 obtain⟨cH,f7⟩:=AB.nx eE
 rintro _ rfl _ rfl _ rfl _ rfl _ rfl _ rfl _ rfl _ rfl _ rfl _ rfl _ rfl _ rfl _ rfl _ rfl _ rfl jZ cI
 replace cI:Vr.vd vB _ _ _ _:=cI
 obtain rfl:=cI
 rintro _ rfl _ rfl _ rfl _ rfl j0 cJ
 replace cJ:Vr.vd (vI .i64) _ _ _ _:=cJ
 obtain⟨rfl,kQ⟩:=cJ
 rintro _ rfl _ rfl _ rfl _ rfl
 have f8:=Z.to cH (cV.trans f7)
 refine AI Av (AJ Av Av) Av<|AI Av (AJ Av Av) Av<|BN Av Av<|Ek (v:=Bo false) Av Av<|FF (Bo false) Av Av<|Ay ?_
 replace Q:=Q.trans f8
 exact aQ _ _ ⟨false,_,Av,BB.of ⟨Av,trivial⟩,Q,cH,A⟩
 refine Br<|Aw<|Be (Iv F) Av<|AA<|Bm Av Av<|Bn (Iv (wq (F+1))) Av<|Ay ?_
 have eF:=Y.drop 0
 have f9:=(Y.dropS 0)
 clear Y
 have gA:=(c8.trans f9)
 replace aW:=aW.trans gA
 exact dO _ _ ⟨(wq (F+1)),_,Av,BB.of ⟨Av,trivial⟩,aW,eF,(AZ .i64 _),Ed cP A⟩
 intro j1 a2
 have X:=aF.stepR
 clear a8
 refine Aw<|AA<|AP 0 Gy Av BD Av Av<|AA<|AQ 0 BD aF Av Av Av ?_
 obtain⟨bF,eG,A⟩:=bd A
 refine AA<|Bj aF Try.call61 (De (n:=(gt v.choices F).delay) (lo:=0) (hi:=1048576) aF.ltw Rn EG (show BR .i64 1048576 from by decide) eG) Av ?_
 rintro j2 j3 cK aH gB
 obtain rfl:=gB
 refine AA<|Es Av<|Be (Bo (!bF)) Av<|B4 A (fun eH A=>?_) (fun eH A=>?_)
 iterate 4 refine AI Av (AJ Av Av) Av ?_
 refine FR (Bo true) Av Av<|Be (Bo true) Av ?_
 iterate 4 refine AI Av (AJ Av Av) Av ?_
 refine FR (Bo true) Av Av<|Ay ?_
 replace X:=X.trans cK
 exact a2 _ _ ⟨true,_,Av,BB.of ⟨Av,trivial⟩,X,aH,A⟩
 refine BN Av Av<|AP 1 Gy Av BD Av Av<|BN Av Av<|AQ 0 BD aH Av Av Av ?_
 obtain⟨aK,eI,A⟩:=bd A
 refine BN Av Av<|Bj aH Try.call61 (De (n:=(gt v.choices F).cost) (lo:=0) (hi:=1048576) aH.ltw Ro EG (show BR .i64 1048576 from by decide) eI) Av ?_
 rintro j4 j5 dB aI gC
 clear aH
 obtain rfl:=gC
 refine BN Av Av<|Es Av<|FF (Bo (!aK)) Av Av<|Be (Bo (!aK)) Av<|B4 A (fun eJ A=>?_) (fun eJ A=>?_)
 iterate 4 refine AI Av (AJ Av Av) Av ?_
 refine FR (Bo true) Av Av<|Ay ?_
 replace X:=X.trans (cK.trans dB)
 exact a2 _ _ ⟨true,_,Av,BB.of ⟨Av,trivial⟩,X,aI,A⟩
 refine BN Av Av<|AP 2 Gy Av BD Av Av<|BN Av Av<|AQ 0 BD aI Av Av Av ?_
 obtain⟨aL,eK,A⟩:=bd A
 refine BN Av Av<|Bj aI Try.call61 (De (n:=(gt v.choices F).changes) (lo:=0) (hi:=1048576) aI.ltw Rp EG (show BR .i64 1048576 from by decide) eK) Av ?_
 rintro j6 j7 gD eL gE
 clear aI
 obtain rfl:=gE
 refine BN Av Av<|Es Av<|FF (Bo (!aL)) Av Av<|Ay ?_
 replace X:=X.trans (cK.trans (dB.trans gD))
 exact a2 _ _ ⟨!aL,_,Av,BB.of ⟨Av,trivial⟩,X,eL,A⟩
 refine Br<|Ax ?_
 obtain⟨eM,j8⟩:=aD.sub (bs':=[]) (.cons _ (.cons _ List.Sublist.slnil))
 clear Fa Fb Fc Fd Fe
 clear aD
 refine Aw<|Bn (Bo true) Av<|Ay<|AY<|⟨_,En,[Bo true],⟨Av,trivial⟩,eM.ext,?_⟩
 exact Vr.eq (a:=vB) (x:=true) Av (oi A)
 intro kR cL
 have a3:=aS.stepR
 refine Aw<|AA<|AP 2 Ex Av Bp Av Av<|AA<|AQ 0 Bp aS Av Av Av<|AA<|Bd Try.underlying31 Av ?_
 have dC:=(p3.trans p8)
 replace Fd:=Fd.step dC
 have hD:=Bb Fd
 refine AA<|Bu Av Av<|Be (Bo (decide ((v.leaves.length:Int)<1))) Av<|B4 A (fun eN A=>?_) (fun eN A=>?_)
 iterate 4 refine AI Av (AJ Av Av) Av ?_
 refine FR (Bo true) Av Av<|Be (Bo true) Av ?_
 iterate 4 refine AI Av (AJ Av Av) Av ?_
 exact FR (Bo true) Av Av<|Ay<|cL _ _ ⟨true,_,Av,BB.of ⟨Av,trivial⟩,a3,aS,A⟩
 refine BN Av Av<|AP 3 Ex Av G0 Av Av<|BN Av Av<|AQ 0 G0 aS Av Av Av<|BN Av Av<|Bd Try.underlying59 Av ?_
 replace Fe:=Fe.step dC
 have hE:=Bb Fe
 refine BN Av Av<|Bu Av Av<|FF (Bo (decide ((v.choices.length:Int)<1))) Av Av<|Be (Bo (decide ((v.choices.length:Int)<1))) Av<|B4 A (fun eO A=>?_) (fun eO A=>?_)
 iterate 4 refine AI Av (AJ Av Av) Av ?_
 exact FR (Bo true) Av Av<|Ay<|cL _ _ ⟨true,_,Av,BB.of ⟨Av,trivial⟩,a3,aS,A⟩
 refine BN Av Av<|AP 3 Ex Av G0 Av Av<|BN Av Av<|AQ 0 G0 aS Av Av Av<|BN Av Av<|Bd Try.underlying59 Av ?_
 have hF:=Bb Fe
 exact BN Av Av<|EY Av Av<|FF (Bo (decide (96<(v.choices.length:Int)))) Av Av<|Ay<|cL _ _ ⟨decide (96<(v.choices.length:Int)),_,Av,BB.of ⟨Av,trivial⟩,a3,aS,A⟩

abbrev WU:List Nat:=[2,6,105,106,107,108,109,110,111,112,113,114,115,116,117,118,119]

abbrev WV:List Nat:=[2,5,88,89,90,91,92,93,94,95,96,97,98,99,100,101,102,103,104]

abbrev U6:List Nat:=[2,4,5,71,72,73,74,75,76,77,78,79,80,81,82,83,84,85,86,87,88,89,90,91,92,93,94,95,96,97,98,99,100,101,102,103,104]

abbrev WW:List Nat:=[36,37,38,39,40,41,42,43,44,45,46,47,48,49,50,51,52,53,54,55,56,57,58,59,60,61,62,63,64,65,66,67,68,69,70]

abbrev U7:List Nat:=[2,3,29,30,31,32,33,34,35,36,37,38,39,40,41,42,43,44,45,46,47,48,49,50,51,52,53,54,55,56,57,58,59,60,61,62,63,64,65,66,67,68,69,70]

abbrev WX:List Nat:=[7,8,9,10,11,12,13,14,15,16,17,18,19,20,21,22,23,24,25,26,27,28]

def Dr (p:A9) (F:Int) (I:Int→Option Int) (J:Int→Option Int) (G:Int):Option Int:=
 bif (decide (G<(p.cells.length:Int))) then
  ck ((0:Int)≤F∧F<(p.capacity.length:Int))<|
  ck ((0:Int)≤G∧G<((p.capacity.getD F.toNat default).length:Int))<|
  (BC ((p.capacity.getD F.toNat default).getD G.toNat default) 0 4096).bind fun A=>
  bif (!A) then
   some 270
  else
   J (IntKind.wrap .i64 (G+1))
 else
  I (IntKind.wrap .i64 (F+1))

def Ds (p:A9) (G:Int→Option Int) (F:Int):Option Int:=
 bif (decide (F<(p.variables.length:Int))) then
  ck ((0:Int)≤F∧F<(p.variables.length:Int))<|
  (DX p (p.variables.getD F.toNat default)).bind fun A=>
  bif (!A) then
   some 270
  else
   G (IntKind.wrap .i64 (F+1))
 else
  some 0

def Dt (p:A9) (F:Int→Option Int) (A:Int):Option Int:=
 bif (decide (A<(p.capacity.length:Int))) then
  ck ((0:Int)≤A∧A<(p.capacity.length:Int))<|
  bif (decide (((p.capacity.getD A.toNat default).length:Int)≠(p.cells.length:Int))) then
   some 270
  else
   B1 (Dr p A F) (((p.cells.length:Int) - 0).toNat+1) 0
 else
  B1 (Ds p) (((p.variables.length:Int) - 0).toNat+1) 0

def CD (p:A9) (I:Int→Option Int) (A:Int):Option Int:=
 bif (decide (A<(p.cells.length:Int))) then
  jn (fun(J:Bool)=>
   bif J then
    some 270
   else
    I (IntKind.wrap .i64 (A+1)))
  (fun G=>
   ck ((0:Int)≤A∧A<(p.cells.length:Int))<|
   bif (decide (((p.cells.getD A.toNat default).index)<0)) then
    G true
   else
    ck ((0:Int)≤A∧A<(p.cells.length:Int))<|
    bif (decide (((p.cells.getD A.toNat default).minute)<0)) then
     G true
    else
     bif (decide (0<A)) then
      ck ((0:Int)≤(IntKind.wrap .i64 (A - 1))∧(IntKind.wrap .i64 (A - 1))<(p.cells.length:Int))<|
      ck ((0:Int)≤A∧A<(p.cells.length:Int))<|
      (DG (p.cells.getD (IntKind.wrap .i64 (A - 1)).toNat default) (p.cells.getD A.toNat default)).bind fun F=>
      G (!F)
     else
      G false)
 else
  B1 (Dt p) (((p.capacity.length:Int) - 0).toNat+1) 0

def CH (p:A9):Option Int:=
 jn (fun(F:Bool)=>
  bif F then
   some 270
  else
   B1 (CD p) (((p.cells.length:Int) - 0).toNat+1) 0)
 (fun A=>
  bif (decide (4096<(p.cells.length:Int))) then
   A true
  else
   bif (decide ((p.capacity.length:Int)<1)) then
    A true
   else
    bif (decide (32<(p.capacity.length:Int))) then
     A true
    else
     A (decide (64<(p.variables.length:Int))))

theorem FD {w:World} {O:List Nat} {p:A9} {Aa:Option Addr} {Ca:Nat} {Ab:Option Addr} {Cb:Nat} {Ac:Option Addr} {Cc:Nat} (hO:∀k∈O,k<w.heap.size) (Fa:CA B2 w O Aa Ca p.cells) (Fb:CA (BE (AM .i64)) w O Ab Cb p.capacity) (Fc:CA AT w O Ac Cc p.variables) {x:Int} (A:CH p=some x):
 Ok Try.prog 31 [Value.agg (C0 p Aa Ca Ab Cb Ac Cc).toArray] w O (vI .i64) x:=by
 unfold CH at A
 refine Bt (n:=120) (xs:=[.tmp 2]) Try.func31 Av Try.ntmps31 Try.results31 Av ?_
 have hs:=St.start hO
 refine Ax<|Aw<|AA<|BV (cs:=(C0 p Aa Ca Ab Cb Ac Cc)) hs Av Av ?_
 intro b1 w2 _ p3 aF
 refine Bn (Iv 0) Av<|Ay<|Ax<|Wr [] [(1,Pt b1 0)] fun jD=>?_
 obtain⟨k8,fF,A⟩:=Dp A
 refine D8 WX (fun fr w'=>∃(cW:Bool) (I:Bi),I=[(some b1,Oc (C0 p Aa Ca Ab Cb Ac Cc) 26)]∧fr [] [(28,Bo cW)]∧aF.S (ks I O) w'∧St ⟨w,[],[]⟩ O w' I∧k8 cW=some x) ?_ ?_
 rintro gN jF ⟨cW,_,rfl,a3,cX,aT,A⟩
 replace A:=Ed fF A
 rw [a3.eq];clear a3
 refine AF A Av (fun dW A=>?_) (fun dW A=>?_)
 refine Ax ?_
 obtain⟨dX,jG⟩:=aT.sub (bs':=[]) (.cons _ List.Sublist.slnil)
 clear Fa Fb Fc
 clear aT
 refine Aw<|Bn (Iv 270) Av<|Ay<|AY<|⟨_,En,[Iv 270],⟨Av,trivial⟩,dX.ext,?_⟩
 exact Vr.eq (a:=(vI .i64)) (x:=270) ⟨Av,(show BR .i64 270 from by decide)⟩ (oi A)
 refine AH<|Ax<|Ax<|Aw<|Bn (Iv 0) Av<|Ay<|AE<|Wr [] [(1,Pt b1 0),(3,Iv 0)] fun dY=>Bh U7 (fun m fr w'=>∃(G:Int) (I:Bi),I=[(some b1,Oc (C0 p Aa Ca Ab Cb Ac Cc) 26)]∧fr [] [(3,Iv G)]∧aT.S (ks I O) w'∧St ⟨w,[],[]⟩ O w' I∧BR .i64 G∧B1 (CD p) m G=some x) (((p.cells.length:Int) - 0).toNat+1) ⟨0,_,Av,BB.of ⟨Av,trivial⟩,AB.refl _ _,aT,EG,A⟩ ?_ ?_
 rintro _ _ ⟨_,_,_,_,_,_,_,A⟩;exact Dg A
 rintro jH jI dZ gO jJ ⟨G,_,rfl,a4,a5,Q,Ra,A⟩
 obtain⟨gP,cY,A⟩:=Dh A;unfold CD at A
 rw [a4.eq];clear a4
 have a6:=a5
 refine Ax<|Ax<|Aw<|Be (Iv G) Av<|AA<|AP 0 Bw Av F1 Av Av<|AA<|AQ 0 F1 Q Av Av Av<|AA<|Bd Try.underlying22 Av ?_
 have d0:=(p3.trans (cX.trans a5))
 replace Fa:=Fa.step d0
 have gQ:=Bb Fa
 refine AA<|Bu Av Av<|Ay<|AF A Av (fun d1 A=>?_) (fun d1 A=>?_)
 refine AH<|Ax<|AE<|Ip U7 [] (CK ⟨dY,[]⟩ [(1,Pt b1 0),(3,Iv 0)]) [(3,Iv G)] fun gR=>?_
 obtain⟨fG,d2,A⟩:=Dp A
 refine D8 WW (fun fr w'=>∃(cZ:Bool) (I:Bi),I=[(some b1,Oc (C0 p Aa Ca Ab Cb Ac Cc) 26)]∧fr [] [(70,Bo cZ)]∧Q.S (ks I O) w'∧St ⟨w,[],[]⟩ O w' I∧fG cZ=some x) ?_ ?_
 rintro gS jK ⟨cZ,_,rfl,a7,c0,cC,A⟩
 replace A:=Ed d2 A
 rw [a7.eq];clear a7
 refine AF A Av (fun d3 A=>?_) (fun d3 A=>?_)
 refine Ax<|Aw<|Bn (Iv 270) Av<|Ay<|AY<|⟨_,En,[Iv 270],⟨Av,trivial⟩,cC.ext,?_⟩
 exact Vr.eq (a:=(vI .i64)) (x:=270) ⟨Av,(show BR .i64 270 from by decide)⟩ (oi A)
 refine AH<|Aw<|Be (Iv G) Av<|AA<|Bm Av Av<|Bn (Iv (wq (G+1))) Av<|Ay ?_
 replace a6:=a6.trans c0
 exact dZ _ _ ⟨(wq (G+1)),_,Av,BB.of ⟨Av,trivial⟩,a6,cC,(AZ .i64 _),Ed cY A⟩
 intro jL aU
 have M:=Q.stepR
 refine B9 (g0:=[]) (m:=31) (fl:=[]) (Dc Q) Av (.inl Av) Av (by decide+kernel) ?_  -- 6
 refine Ba (Pt b1 0) (fun _ _ _ hi F=>AP 0 Bw Av F1 (F 1 Av) Av<|Gz hi)<|Ba (Sl Aa p.cells Ca) (fun _ _ _ hi F=>AQ 0 F1 (AB.nx hi).1 (F 36 Av) Av Av<|Gz hi)<|Ba (Iv G) (fun _ _ _ hi F=>AD (v:=Iv G) (F 3 Av)<|Gz hi) ?_
 obtain⟨cD,A⟩:=AG A
 refine Bc (VP _ _ B2 (gt p.cells G)) (VP.stab _ _) (fun gT jM g J hi F=>?_) ?_
 obtain⟨-,aD,-⟩:=J
 replace Fa:=Fa.step aD
 refine Az<|AC (q:=B2) F1 Eo (F 37 Av) (F 38 Av) Fa Av cD.1 cD.2 ?_
 intro jN fH
 exact Bs.same hi ⟨_,Av,fH⟩
 refine Bc (VP _ _ (AM .i64) ((gt p.cells G).index)) (VP.stab _ _) (fun gU jO g J hi F=>?_) ?_
 obtain⟨jP,fI,fJ⟩:=F 39 Av
 refine Az<|C2 Eo Av BD (by decide) fI Av ?_
 have fK:=fJ.via.snd.fst
 exact Bs.same hi ⟨_,Av,fK⟩
 refine Bc (VD _ _ (vI .i64) ((gt p.cells G).index)) (VD.stab _ _) (fun gV jQ g J hi F=>?_) ?_
 obtain⟨jR,fL,fM⟩:=F 40 Av
 refine Az<|AX BD fL fM Av ?_
 intro jS fN
 obtain⟨rfl,Rb⟩:=C3 fN
 exact Bs.same hi (show Vr.vd (vI .i64) _ _ _ _ from⟨Av,Rb⟩)
 refine Do (Bo (decide (((gt p.cells G).index)<0))) (fun gW jT g J hi F=>?_) ?_
 have fO:Vr.vd (vI .i64) _ _ _ _:=F 41 Av
 obtain⟨fP,Rc⟩:=fO
 exact Az<|Bu fP Av<|Gz hi
 refine Gf (decide (((gt p.cells G).index)<0)) (fun _ _ _ _ hi F=>Az<|AD (v:=Bo (decide (((gt p.cells G).index)<0))) (F 42 Av)<|Gz hi) (fun a8=>?_) (fun a8=>?_)
 replace A:=GA A a8
 iterate 7 refine E7 Av Av (fun _ _ _ h=>h) Av ?_
 refine Ba (Bo true) (fun _ _ _ hi F=>C6 (v:=Bo true) (F 43 Av) Av<|Gz hi)<|Ba (Bo true) (fun _ _ _ hi F=>AD (v:=Bo true) (F 51 Av)<|Gz hi) ?_
 iterate 14 refine E7 Av Av (fun _ _ _ h=>h) Av ?_
 refine BA fun jU jV d4 c1=>?_
 obtain⟨-,b3,-⟩:=d4
 obtain⟨a9,bA⟩:=AB.nx c1
 rintro _ rfl _ rfl _ rfl _ rfl _ rfl _ rfl _ rfl _ rfl _ rfl _ rfl _ rfl _ rfl _ rfl _ rfl _ rfl _ rfl _ rfl _ rfl _ rfl _ rfl _ rfl _ rfl _ rfl _ rfl _ rfl gX bB
 replace bB:Vr.vd (vI .i64) _ _ _ _:=bB
 obtain⟨rfl,Rd⟩:=bB
 rintro _ ⟨gY,rfl,cE⟩ _ ⟨gZ,rfl,cF⟩ _ rfl _ rfl _ rfl
 have d5:=Q.to a9 (b3.trans bA)
 replace cE:=cE.step bA;replace cF:=cF.step bA
 iterate 3 refine AI Av (AJ Av Av) Av ?_
 refine FR (Bo true) Av Av<|Ay ?_
 replace M:=M.trans d5
 exact aU _ _ ⟨true,_,Av,BB.of ⟨Av,trivial⟩,M,a9,A⟩
 replace A:=GB A a8
 refine CV (Pt b1 0) Av Av (fun _ _ _ h=>h) (fun _ _ _ hi F=>AP 0 Bw Av F1 (F 1 Av) Av<|Gz hi)<|CV (Sl Aa p.cells Ca) Av Av (fun _ _ _ h=>h) (fun _ _ _ hi F=>AQ 0 F1 (AB.nx hi).1 (F 44 Av) Av Av<|Gz hi)<|CV (Iv G) Av Av (fun _ _ _ h=>h) (fun _ _ _ hi F=>AD (v:=Iv G) (F 3 Av)<|Gz hi) ?_
 obtain⟨bC,A⟩:=AG A
 refine Bc (VP _ _ B2 (gt p.cells G)) (VP.stab _ _) (fun fQ g1 g J hi F=>?_) ?_
 obtain⟨-,aD,-⟩:=J
 replace Fa:=Fa.step aD
 refine BI Av (F 43 Av)<|AC (q:=B2) F1 Eo (F 45 Av) (F 46 Av) Fa Av bC.1 bC.2 ?_
 intro g2 d6
 exact Bs.same hi ⟨_,Av,d6⟩
 refine Bc (VP _ _ (AM .i64) ((gt p.cells G).minute)) (VP.stab _ _) (fun fR g3 g J hi F=>?_) ?_
 obtain⟨g4,d7,d8⟩:=F 47 Av
 refine BI Av (F 43 Av)<|C2 Eo Av BD (by decide) d7 Av ?_
 have d9:=d8.via.snd.snd
 exact Bs.same hi ⟨_,Av,d9⟩
 refine Bc (VD _ _ (vI .i64) ((gt p.cells G).minute)) (VD.stab _ _) (fun fS g5 g J hi F=>?_) ?_
 obtain⟨g6,eA,eB⟩:=F 48 Av
 refine BI Av (F 43 Av)<|AX BD eA eB Av ?_
 intro g7 eC
 obtain⟨rfl,Re⟩:=C3 eC
 exact Bs.same hi (show Vr.vd (vI .i64) _ _ _ _ from⟨Av,Re⟩)
 refine Do (Bo (decide (((gt p.cells G).minute)<0))) (fun fT g8 g J hi F=>?_) ?_
 have eD:Vr.vd (vI .i64) _ _ _ _:=F 49 Av
 obtain⟨eE,Rf⟩:=eD
 exact BI Av (F 43 Av)<|Bu eE Av<|Gz hi
 refine Ba (Bo (decide (((gt p.cells G).minute)<0))) (fun _ _ _ hi F=>Ek (v:=Bo (decide (((gt p.cells G).minute)<0))) (F 43 Av) (F 50 Av)<|Gz hi)<|Gf (decide (((gt p.cells G).minute)<0)) (fun _ _ _ _ hi F=>Az<|AD (v:=Bo (decide (((gt p.cells G).minute)<0))) (F 51 Av)<|Gz hi) (fun aO=>?_) (fun aO=>?_)
 replace A:=GA A aO
 iterate 14 refine E7 Av Av (fun _ _ _ h=>h) Av ?_
 refine BA fun g9 hA c2 c3=>?_
 obtain⟨-,b4,-⟩:=c2
 obtain⟨bD,aM⟩:=AB.nx c3
 rintro _ rfl _ rfl _ rfl _ rfl _ rfl _ rfl _ rfl _ rfl _ rfl _ rfl _ rfl _ rfl _ rfl _ rfl _ rfl _ rfl _ rfl hB bE
 replace bE:Vr.vd (vI .i64) _ _ _ _:=bE
 obtain⟨rfl,Rg⟩:=bE
 rintro _ ⟨hC,rfl,cG⟩ _ ⟨hD,rfl,cH⟩ _ rfl _ rfl _ rfl _ rfl _ rfl hE bF
 replace bF:Vr.vd (vI .i64) _ _ _ _:=bF
 obtain⟨rfl,Rh⟩:=bF
 rintro _ ⟨hF,rfl,cI⟩ _ ⟨hG,rfl,cJ⟩ _ rfl _ rfl _ rfl
 have eF:=Q.to bD (b4.trans aM)
 replace cG:=cG.step aM;replace cH:=cH.step aM;replace cI:=cI.step aM;replace cJ:=cJ.step aM
 iterate 3 refine AI Av (AJ Av Av) Av ?_
 refine FR (Bo true) Av Av<|Ay ?_
 replace M:=M.trans eF
 exact aU _ _ ⟨true,_,Av,BB.of ⟨Av,trivial⟩,M,bD,A⟩
 replace A:=GB A aO
 refine CV (Iv G) Av Av (fun _ _ _ h=>h) (fun _ _ _ hi F=>AD (v:=Iv G) (F 3 Av)<|Gz hi)<|CV (Bo (decide (0<G))) Av Av (fun _ _ _ h=>h) (fun _ _ _ hi F=>EY (F 53 Av) Av<|Gz hi)<|Gf (decide (0<G)) (fun _ _ _ _ hi F=>BI Av (F 52 Av)<|AD (v:=Bo (decide (0<G))) (F 54 Av)<|Gz hi) (fun aP=>?_) (fun aP=>?_)
 replace A:=GA A aP
 refine CV (Pt b1 0) Av Av (fun _ _ _ h=>h) (fun _ _ _ hi F=>AP 0 Bw Av F1 (F 1 Av) Av<|Gz hi)<|CV (Sl Aa p.cells Ca) Av Av (fun _ _ _ h=>h) (fun _ _ _ hi F=>AQ 0 F1 (AB.nx hi).1 (F 56 Av) Av Av<|Gz hi)<|CV (Iv G) Av Av (fun _ _ _ h=>h) (fun _ _ _ hi F=>AD (v:=Iv G) (F 3 Av)<|Gz hi)<|CV (Iv (wq (G - 1))) Av Av (fun _ _ _ h=>h) (fun _ _ _ hi F=>FC (F 58 Av) Av<|Gz hi) ?_
 obtain⟨bG,A⟩:=AG A
 refine Bc (VP _ _ B2 (gt p.cells (wq (G - 1)))) (VP.stab _ _) (fun fU hH g J hi F=>?_) ?_
 obtain⟨-,aD,-⟩:=J
 replace Fa:=Fa.step aD
 refine BI Av (F 55 Av)<|AC (q:=B2) F1 Eo (F 57 Av) (F 59 Av) Fa Av bG.1 bG.2 ?_
 intro hI eG
 exact Bs.same hi ⟨_,Av,eG⟩
 refine Bc (VD _ _ (vA B2) (gt p.cells (wq (G - 1)))) (VD.stab _ _) (fun fV hJ g J hi F=>?_) ?_
 obtain⟨hK,eH,eI⟩:=F 60 Av
 refine BI Av (F 55 Av)<|BF Eo eH eI Av ?_
 intro fW eJ
 obtain⟨_,_,rfl,rfl,⟨_,_,rfl,⟨rfl,Ri⟩,⟨rfl,Rj⟩⟩⟩:=eJ
 exact Bs.same hi (show Vr.vd (vA B2) _ _ _ _ from(Jn (Cz (AU GQ (AU (AW Ri) (AW Rj))))))
 refine CV (Pt b1 0) Av Av (fun _ _ _ h=>h) (fun _ _ _ hi F=>AP 0 Bw Av F1 (F 1 Av) Av<|Gz hi)<|CV (Sl Aa p.cells Ca) Av Av (fun _ _ _ h=>h) (fun _ _ _ hi F=>AQ 0 F1 (AB.nx hi).1 (F 62 Av) Av Av<|Gz hi)<|CV (Iv G) Av Av (fun _ _ _ h=>h) (fun _ _ _ hi F=>AD (v:=Iv G) (F 3 Av)<|Gz hi) ?_
 obtain⟨bH,A⟩:=AG A
 refine Bc (VP _ _ B2 (gt p.cells G)) (VP.stab _ _) (fun fX hL g J hi F=>?_) ?_
 obtain⟨-,aD,-⟩:=J
 replace Fa:=Fa.step aD
 refine BI Av (F 55 Av)<|AC (q:=B2) F1 Eo (F 63 Av) (F 64 Av) Fa Av bH.1 bH.2 ?_
 intro hM eK
 exact Bs.same hi ⟨_,Av,eK⟩
 refine Bc (VD _ _ (vA B2) (gt p.cells G)) (VD.stab _ _) (fun fY hN g J hi F=>?_) ?_
 obtain⟨hP,eL,eM⟩:=F 65 Av
 refine BI Av (F 55 Av)<|BF Eo eL eM Av ?_
 intro fZ eN
 obtain⟨_,_,rfl,rfl,⟨_,_,rfl,⟨rfl,Rk⟩,⟨rfl,Rl⟩⟩⟩:=eN
 exact Bs.same hi (show Vr.vd (vA B2) _ _ _ _ from(Jn (Cz (AU GQ (AU (AW Rk) (AW Rl))))))
 refine BA fun hQ hR c4 c5=>?_
 obtain⟨-,b5,-⟩:=c4
 obtain⟨aI,aE⟩:=AB.nx c5
 rintro hS bI
 replace bI:Vr.vd (vA B2) _ _ _ _:=bI
 obtain⟨_,rfl,⟨_,_,rfl,rfl,⟨_,_,rfl,⟨rfl,Rm⟩,⟨rfl,Rn⟩⟩⟩⟩:=bI
 rintro _ ⟨hT,rfl,cK⟩ _ rfl _ rfl _ rfl hU bJ
 replace bJ:Vr.vd (vA B2) _ _ _ _:=bJ
 obtain⟨_,rfl,⟨_,_,rfl,rfl,⟨_,_,rfl,⟨rfl,Ro⟩,⟨rfl,Rp⟩⟩⟩⟩:=bJ
 rintro _ ⟨hV,rfl,cL⟩ _ rfl _ rfl _ rfl _ rfl _ rfl _ rfl _ rfl _ rfl _ rfl _ rfl hW bK
 replace bK:Vr.vd (vI .i64) _ _ _ _:=bK
 obtain⟨rfl,Rq⟩:=bK
 rintro _ ⟨hX,rfl,cM⟩ _ ⟨hY,rfl,cN⟩ _ rfl _ rfl _ rfl _ rfl _ rfl hZ bL
 replace bL:Vr.vd (vI .i64) _ _ _ _:=bL
 obtain⟨rfl,Rr⟩:=bL
 rintro _ ⟨h0,rfl,cO⟩ _ ⟨h1,rfl,cP⟩ _ rfl _ rfl _ rfl
 have eO:=Q.to aI (b5.trans aE)
 replace cK:=cK.step aE;replace cL:=cL.step aE;replace cM:=cM.step aE;replace cN:=cN.step aE;replace cO:=cO.step aE;replace cP:=cP.step aE
 obtain⟨U,c6,A⟩:=bd A
 refine BN Av Av<|Bj aI Try.call60 (GX (a:=gt p.cells (wq (G - 1))) (b:=gt p.cells G) aI.ltw Ro Rp Rm Rn c6) Av ?_
 rintro h2 h3 eP c7 eQ
 clear aI
 obtain rfl:=eQ
 refine BN Av Av<|Es Av<|BN Av Av<|C6 (v:=Bo (!U)) Av Av<|FF (Bo (!U)) Av Av<|Ay ?_
 have eR:=(eO.trans eP)
 replace M:=M.trans eR
 exact aU _ _ ⟨!U,_,Av,BB.of ⟨Av,trivial⟩,M,c7,A⟩
 replace A:=GB A aP
 iterate 11 refine E7 Av Av (fun _ _ _ h=>h) Av ?_
 refine BA fun h4 h5 c8 c9=>?_
 obtain⟨-,b6,-⟩:=c8
 obtain⟨bM,aN⟩:=AB.nx c9
 rintro _ rfl _ rfl _ rfl _ rfl _ rfl _ rfl _ rfl _ rfl _ rfl _ rfl _ rfl _ rfl _ rfl _ rfl _ rfl _ rfl _ rfl h6 bN
 replace bN:Vr.vd (vI .i64) _ _ _ _:=bN
 obtain⟨rfl,Rs⟩:=bN
 rintro _ ⟨h7,rfl,cQ⟩ _ ⟨h8,rfl,cR⟩ _ rfl _ rfl _ rfl _ rfl _ rfl h9 bO
 replace bO:Vr.vd (vI .i64) _ _ _ _:=bO
 obtain⟨rfl,Rt⟩:=bO
 rintro _ ⟨iA,rfl,cS⟩ _ ⟨iB,rfl,cT⟩ _ rfl _ rfl _ rfl
 have eS:=Q.to bM (b6.trans aN)
 replace cQ:=cQ.step aN;replace cR:=cR.step aN;replace cS:=cS.step aN;replace cT:=cT.step aN
 refine AI Av (AJ Av Av) Av<|AI Av (AJ Av Av) Av<|BN Av Av<|Ek (v:=Bo false) Av Av<|FF (Bo false) Av Av<|Ay ?_
 replace M:=M.trans eS
 exact aU _ _ ⟨false,_,Av,BB.of ⟨Av,trivial⟩,M,bM,A⟩
 refine Br<|Ax<|Ax<|Aw<|Bn (Iv 0) Av<|Ay<|AE<|Wr [] [(1,Pt b1 0),(4,Iv 0)] fun dA=>Bh U6 (fun m fr w'=>∃(N:Int) (I:Bi),I=[(some b1,Oc (C0 p Aa Ca Ab Cb Ac Cc) 26)]∧fr [] [(4,Iv N)]∧Q.S (ks I O) w'∧St ⟨w,[],[]⟩ O w' I∧BR .i64 N∧B1 (Dt p) m N=some x) (((p.capacity.length:Int) - 0).toNat+1) ⟨0,_,Av,BB.of ⟨Av,trivial⟩,AB.refl _ _,Q,EG,A⟩ ?_ ?_
 rintro _ _ ⟨_,_,_,_,_,_,_,A⟩;exact Dg A
 rintro iC iD dB f0 iE ⟨N,_,rfl,aV,aA,W,Ru,A⟩
 obtain⟨dC,b7,A⟩:=Dh A;unfold Dt at A
 rw [aV.eq];clear aV
 have aQ:=aA
 refine Ax<|Ax<|Aw<|Be (Iv N) Av<|AA<|AP 1 Bw Av CB Av Av<|AA<|AQ 0 CB W Av Av Av<|AA<|Bd Try.underlying23 Av ?_
 have cU:=(d0.trans aA)
 replace Fb:=Fb.step cU
 have f1:=Bb Fb
 refine AA<|Bu Av Av<|Ay<|AF A Av (fun dD A=>?_) (fun dD A=>?_)
 refine AH<|Ax<|AE<|Ax<|Ax<|B9 (g0:=[]) (m:=9) (fl:=[]) (Dc W) Av (.inl Av) Av (by decide+kernel) ?_  -- 11
 refine Ba (Pt b1 1) (fun _ _ _ hi F=>AP 1 Bw Av CB (F 1 Av) Av<|Gz hi)<|Ba (Sl Ab p.capacity Cb) (fun _ _ _ hi F=>AQ 0 CB (AB.nx hi).1 (F 78 Av) Av Av<|Gz hi)<|Ba (Iv N) (fun _ _ _ hi F=>AD (v:=Iv N) (F 4 Av)<|Gz hi) ?_
 obtain⟨bP,A⟩:=AG A
 refine Bc (VP _ _ (BE (AM .i64)) (gt p.capacity N)) (VP.stab _ _) (fun f2 iF g J hi F=>?_) ?_
 obtain⟨-,aD,-⟩:=J
 replace Fb:=Fb.step aD
 refine Az<|AC (q:=BE (AM .i64)) CB Bp (F 79 Av) (F 80 Av) Fb Av bP.1 bP.2 ?_
 intro iG eT
 exact Bs.same hi ⟨_,Av,eT⟩
 refine Bc (VD _ _ (vC (BE (AM .i64))) (gt p.capacity N)) (VD.stab _ _) (fun f3 iH g J hi F=>?_) ?_
 obtain⟨iI,eU,eV⟩:=F 81 Av
 refine Az<|AX Bp eU eV Av ?_
 intro iJ eW
 obtain⟨Ad,Cd,rfl,Fd⟩:=BH eW
 exact Bs.same hi (show Vr.vd (vC (BE (AM .i64))) _ _ _ _ from(Ke (B5 Fd)))
 refine Bc (VD _ _ (vI .i64) ((gt p.capacity N).length:Int)) (VD.stab _ _) (fun f4 iK g J hi F=>?_) ?_
 have eX:Vr.vd (vC (BE (AM .i64))) _ _ _ _:=F 82 Av
 obtain⟨Ae,Ce,eY,Fe⟩:=BH eX
 exact Az<|Bd Try.underlying31 eY<|Bs.same hi (show Vr.vd (vI .i64) _ _ _ _ from⟨Av,Bb Fe⟩)
 refine Ba (Pt b1 0) (fun _ _ _ hi F=>AP 0 Bw Av F1 (F 1 Av) Av<|Gz hi)<|Ba (Sl Aa p.cells Ca) (fun _ _ _ hi F=>AQ 0 F1 (AB.nx hi).1 (F 84 Av) Av Av<|Gz hi)<|Ba (Iv (p.cells.length:Int)) (fun _ _ _ hi F=>Bd Try.underlying22 (F 85 Av)<|Gz hi)<|BA fun iL iM dE dF=>?_
 obtain⟨-,b8,-⟩:=dE
 obtain⟨aJ,bQ⟩:=AB.nx dF
 rintro _ rfl _ rfl _ rfl iN bR
 replace bR:Vr.vd (vI .i64) _ _ _ _:=bR
 obtain⟨rfl,Rv⟩:=bR
 rintro iO bS
 replace bS:Vr.vd (vC (BE (AM .i64))) _ _ _ _:=bS
 obtain⟨Af,Cf,rfl,Ff⟩:=BH bS
 rintro _ ⟨iP,rfl,aW⟩ _ rfl _ rfl _ rfl
 have bT:=W.to aJ (b8.trans bQ)
 replace Ff:=Ff.step bQ;replace aW:=aW.step bQ;clear W
 refine AA<|FB Av Av<|Ay<|AF A Av (fun dG A=>?_) (fun dG A=>?_)
 refine Ax ?_
 clear Ff aW
 refine Aw<|Bn (Iv 270) Av<|Ay<|AY<|⟨_,En,[Iv 270],⟨Av,trivial⟩,aJ.ext,?_⟩
 exact Vr.eq (a:=(vI .i64)) (x:=270) ⟨Av,(show BR .i64 270 from by decide)⟩ (oi A)
 refine AH<|Ax ?_
 clear Ff aW
 refine Aw<|Bn (Iv 0) Av<|Ay<|AE<|Ip U6 [] (CK ⟨dA,[]⟩ [(1,Pt b1 0),(4,Iv 0)]) [(4,Iv N),(5,Iv 0)] fun f5=>Bh WV (fun m fr w'=>∃(aG:Int) (I:Bi),I=[(some b1,Oc (C0 p Aa Ca Ab Cb Ac Cc) 26)]∧fr [] [(5,Iv aG)]∧aJ.S (ks I O) w'∧St ⟨w,[],[]⟩ O w' I∧BR .i64 aG∧B1 (Dr p N dC) m aG=some x) (((p.cells.length:Int) - 0).toNat+1) ⟨0,_,Av,BB.of ⟨Av,trivial⟩,AB.refl _ _,aJ,EG,A⟩ ?_ ?_
 rintro _ _ ⟨_,_,_,_,_,_,_,A⟩;exact Dg A
 rintro iQ iR dH f6 iS ⟨aG,_,rfl,aX,aB,X,Rw,A⟩
 obtain⟨f7,b9,A⟩:=Dh A;unfold Dr at A
 rw [aX.eq];clear aX
 have aR:=aB
 refine Ax<|Ax<|Aw<|Be (Iv aG) Av<|AA<|AP 0 Bw Av F1 Av Av<|AA<|AQ 0 F1 X Av Av Av<|AA<|Bd Try.underlying22 Av ?_
 have eZ:=(aA.trans (bT.trans aB))
 replace Fa:=Fa.step eZ
 have f8:=Bb Fa
 refine AA<|Bu Av Av<|Ay<|AF A Av (fun dI A=>?_) (fun dI A=>?_)
 refine AH<|Ax<|AE<|Ax<|Aw<|AA<|AP 1 Bw Av CB Av Av<|AA<|AQ 0 CB X Av Av Av<|Be (Iv N) Av ?_
 obtain⟨bU,A⟩:=AG A
 have e0:=(bT.trans aB)
 replace Fb:=Fb.step e0
 refine AA<|AC (q:=BE (AM .i64)) CB Bp Av Av Fb Av bU.1 bU.2 ?_
 intro iT bV
 refine AA<|AX Bp Av bV Av ?_
 intro iU e1
 obtain⟨Ag,Cg,rfl,Fg⟩:=BH e1
 refine Be (Iv aG) Av ?_
 obtain⟨bW,A⟩:=AG A
 refine AA<|AC (q:=(AM .i64)) Bp BD Av Av Fg Av bW.1 bW.2 ?_
 intro iV bX
 refine AA<|AX BD Av bX Av ?_
 intro iW e2
 obtain⟨rfl,Rx⟩:=C3 e2
 obtain⟨dV,dJ,A⟩:=bd A
 refine AA<|Bj X Try.call61 (De (n:=gt (gt p.capacity N) aG) (lo:=0) (hi:=4096) X.ltw Rx EG (show BR .i64 4096 from by decide) dJ) Av ?_
 rintro iX iY e3 bY e4
 clear X
 obtain rfl:=e4
 refine AA<|Es Av<|Ay<|AF A Av (fun dK A=>?_) (fun dK A=>?_)
 refine Ax ?_
 clear bV Fg bX
 refine Aw<|Bn (Iv 270) Av<|Ay<|AY<|⟨_,En,[Iv 270],⟨Av,trivial⟩,bY.ext,?_⟩
 exact Vr.eq (a:=(vI .i64)) (x:=270) ⟨Av,(show BR .i64 270 from by decide)⟩ (oi A)
 refine AH ?_
 clear bV Fg bX
 refine Aw<|Be (Iv aG) Av<|AA<|Bm Av Av<|Bn (Iv (wq (aG+1))) Av<|Ay ?_
 replace aR:=aR.trans e3
 exact dH _ _ ⟨(wq (aG+1)),_,Av,BB.of ⟨Av,trivial⟩,aR,bY,(AZ .i64 _),Ed b9 A⟩
 refine Br<|Aw<|Be (Iv N) Av<|AA<|Bm Av Av<|Bn (Iv (wq (N+1))) Av<|Ay ?_
 have e5:=(bT.trans aB)
 replace aQ:=aQ.trans e5
 exact dB _ _ ⟨(wq (N+1)),_,Av,BB.of ⟨Av,trivial⟩,aQ,X,(AZ .i64 _),Ed b7 A⟩
 refine Br<|Ax<|Ax<|Aw<|Bn (Iv 0) Av<|Ay<|AE<|Wr [] [(1,Pt b1 0),(6,Iv 0)] fun f9=>Bh WU (fun m fr w'=>∃(Y:Int) (I:Bi),I=[(some b1,Oc (C0 p Aa Ca Ab Cb Ac Cc) 26)]∧fr [] [(6,Iv Y)]∧W.S (ks I O) w'∧St ⟨w,[],[]⟩ O w' I∧BR .i64 Y∧B1 (Ds p) m Y=some x) (((p.variables.length:Int) - 0).toNat+1) ⟨0,_,Av,BB.of ⟨Av,trivial⟩,AB.refl _ _,W,EG,A⟩ ?_ ?_
 rintro _ _ ⟨_,_,_,_,_,_,_,A⟩;exact Dg A
 rintro iZ i0 dL gA i1 ⟨Y,_,rfl,aY,aC,Z,Ry,A⟩
 obtain⟨gB,cA,A⟩:=Dh A;unfold Ds at A
 rw [aY.eq];clear aY
 have aS:=aC
 refine Ax<|Ax<|Aw<|Be (Iv Y) Av<|AA<|AP 2 Bw Av CI Av Av<|AA<|AQ 0 CI Z Av Av Av<|AA<|Bd Try.underlying24 Av ?_
 replace Fc:=Fc.step (cU.trans aC)
 have gC:=Bb Fc
 refine AA<|Bu Av Av<|Ay<|AF A Av (fun dM A=>?_) (fun dM A=>?_)
 refine AH<|Ax<|AE<|Ax<|B9 (g0:=[]) (m:=6) (fl:=[]) (Dc Z) Av (.inl Av) Av (by decide+kernel) ?_  -- 21
 refine Ba (Value.agg (C0 p Aa Ca Ab Cb Ac Cc).toArray) (fun _ _ _ hi F=>Bz 0 Bw (AB.nx hi).1 (F 1 Av) Av Av<|Gz hi)<|Ba (Pt b1 2) (fun _ _ _ hi F=>AP 2 Bw Av CI (F 1 Av) Av<|Gz hi)<|Ba (Sl Ac p.variables Cc) (fun _ _ _ hi F=>AQ 0 CI (AB.nx hi).1 (F 113 Av) Av Av<|Gz hi)<|Ba (Iv Y) (fun _ _ _ hi F=>AD (v:=Iv Y) (F 6 Av)<|Gz hi) ?_
 obtain⟨bZ,A⟩:=AG A
 refine Bc (VP _ _ AT (gt p.variables Y)) (VP.stab _ _) (fun gD i2 g J hi F=>?_) ?_
 obtain⟨-,aD,-⟩:=J
 replace Fc:=Fc.step aD
 refine Az<|AC (q:=AT) CI Ex (F 114 Av) (F 115 Av) Fc Av bZ.1 bZ.2 ?_
 intro i3 e6
 exact Bs.same hi ⟨_,Av,e6⟩
 refine Bc (VD _ _ (vA AT) (gt p.variables Y)) (VD.stab _ _) (fun gE i4 g J hi F=>?_) ?_
 obtain⟨i5,e7,e8⟩:=F 116 Av
 refine Az<|BF Ex e7 e8 Av ?_
 intro gF e9
 obtain⟨_,_,rfl,⟨rfl,Rz⟩,⟨_,_,rfl,⟨rfl,gG⟩,⟨_,_,rfl,⟨Ah,Ch,rfl,Fh⟩,⟨Ai,Ci,rfl,Fi⟩⟩⟩⟩:=e9
 exact Bs.same hi (show Vr.vd (vA AT) _ _ _ _ from(Jn (Cz (AU (AW Rz) (AU (AW gG) (AU (B5 Fh) (B5 Fi)))))))
 refine BA fun i6 i7 dN dO=>?_
 obtain⟨-,cB,-⟩:=dN
 obtain⟨aK,aZ⟩:=AB.nx dO
 rintro i8 b0
 replace b0:Vr.vd (vA AT) _ _ _ _:=b0
 obtain⟨_,rfl,⟨_,_,rfl,⟨rfl,gH⟩,⟨_,_,rfl,⟨rfl,gI⟩,⟨_,_,rfl,⟨Aj,Cj,rfl,Fj⟩,⟨Ak,Ck,rfl,Fk⟩⟩⟩⟩⟩:=b0
 rintro _ ⟨i9,rfl,a0⟩ _ rfl _ rfl _ rfl _ rfl
 have a1:=Z.to aK (cB.trans aZ)
 replace Fj:=Fj.step aZ;replace Fk:=Fk.step aZ;replace a0:=a0.step aZ;clear Z
 obtain⟨cV,dP,A⟩:=bd A
 have fA:=(aC.trans a1)
 replace Fb:=Fb.step fA
 have fB:=(aA.trans (aC.trans a1))
 replace Fa:=Fa.step fB;replace Fc:=Fc.step a1
 refine AA<|Bj aK Try.call62 (I3 (p:=p) (v:=gt p.variables Y) aK.ltw Fa Fb Fc gH gI Fj Fk dP) Av ?_
 rintro jA jB fC b2 fD
 clear aK
 obtain rfl:=fD
 refine AA<|Es Av<|Ay<|AF A Av (fun dQ A=>?_) (fun dQ A=>?_)
 refine Ax ?_
 clear Fj Fk a0
 refine Aw<|Bn (Iv 270) Av<|Ay<|AY<|⟨_,En,[Iv 270],⟨Av,trivial⟩,b2.ext,?_⟩
 exact Vr.eq (a:=(vI .i64)) (x:=270) ⟨Av,(show BR .i64 270 from by decide)⟩ (oi A)
 refine AH ?_
 clear Fj Fk a0
 refine Aw<|Be (Iv Y) Av<|AA<|Bm Av Av<|Bn (Iv (wq (Y+1))) Av<|Ay ?_
 replace aS:=aS.trans (a1.trans fC)
 exact dL _ _ ⟨(wq (Y+1)),_,Av,BB.of ⟨Av,trivial⟩,aS,b2,(AZ .i64 _),Ed cA A⟩
 refine Br<|Ax ?_
 obtain⟨dR,jC⟩:=Z.sub (bs':=[]) (.cons _ List.Sublist.slnil)
 clear Fa Fb Fc
 clear Z
 refine Aw<|Bn (Iv 0) Av<|Ay<|AY<|⟨_,En,[Iv 0],⟨Av,trivial⟩,dR.ext,?_⟩
 exact Vr.eq (a:=(vI .i64)) (x:=0) ⟨Av,EG⟩ (oi A)
 intro jW a2
 have aL:=aF.stepR
 refine Aw<|AA<|AP 0 Bw Av F1 Av Av<|AA<|AQ 0 F1 aF Av Av Av<|AA<|Bd Try.underlying22 Av ?_
 replace Fa:=Fa.step p3
 have gJ:=Bb Fa
 refine AA<|EY Av Av<|Be (Bo (decide (4096<(p.cells.length:Int)))) Av<|B4 A (fun dS A=>?_) (fun dS A=>?_)
 iterate 4 refine AI Av (AJ Av Av) Av ?_
 refine FR (Bo true) Av Av<|Be (Bo true) Av ?_
 iterate 4 refine AI Av (AJ Av Av) Av ?_
 refine FR (Bo true) Av Av<|Be (Bo true) Av ?_
 iterate 4 refine AI Av (AJ Av Av) Av ?_
 exact FR (Bo true) Av Av<|Ay<|a2 _ _ ⟨true,_,Av,BB.of ⟨Av,trivial⟩,aL,aF,A⟩
 refine BN Av Av<|AP 1 Bw Av CB Av Av<|BN Av Av<|AQ 0 CB aF Av Av Av<|BN Av Av<|Bd Try.underlying23 Av ?_
 replace Fb:=Fb.step p3
 have gK:=Bb Fb
 refine BN Av Av<|Bu Av Av<|FF (Bo (decide ((p.capacity.length:Int)<1))) Av Av<|Be (Bo (decide ((p.capacity.length:Int)<1))) Av<|B4 A (fun dT A=>?_) (fun dT A=>?_)
 iterate 4 refine AI Av (AJ Av Av) Av ?_
 refine FR (Bo true) Av Av<|Be (Bo true) Av ?_
 iterate 4 refine AI Av (AJ Av Av) Av ?_
 exact FR (Bo true) Av Av<|Ay<|a2 _ _ ⟨true,_,Av,BB.of ⟨Av,trivial⟩,aL,aF,A⟩
 refine BN Av Av<|AP 1 Bw Av CB Av Av<|BN Av Av<|AQ 0 CB aF Av Av Av<|BN Av Av<|Bd Try.underlying23 Av ?_
 have gL:=Bb Fb
 refine BN Av Av<|EY Av Av<|FF (Bo (decide (32<(p.capacity.length:Int)))) Av Av<|Be (Bo (decide (32<(p.capacity.length:Int)))) Av<|B4 A (fun dU A=>?_) (fun dU A=>?_)
 iterate 4 refine AI Av (AJ Av Av) Av ?_
 exact FR (Bo true) Av Av<|Ay<|a2 _ _ ⟨true,_,Av,BB.of ⟨Av,trivial⟩,aL,aF,A⟩
 refine BN Av Av<|AP 2 Bw Av CI Av Av<|BN Av Av<|AQ 0 CI aF Av Av Av<|BN Av Av<|Bd Try.underlying24 Av ?_
 replace Fc:=Fc.step p3
 have gM:=Bb Fc
 exact BN Av Av<|EY Av Av<|FF (Bo (decide (64<(p.variables.length:Int)))) Av Av<|Ay<|a2 _ _ ⟨decide (64<(p.variables.length:Int)),_,Av,BB.of ⟨Av,trivial⟩,aL,aF,A⟩

abbrev WY:List Nat:=[4,5,12,13,14,15,16,17,18,19,20,21,22,23,24,25,26,27,28,29,30,31]

def DP (p:A9) (b:List Int) (G:Int→Option Bool) (A:Int):Option Bool:=
 bif (decide (A<(b.length:Int))) then
  ck ((0:Int)≤A∧A<(b.length:Int))<|
  ck ((0:Int)≤A∧A<(p.variables.length:Int))<|
  (BC (b.getD A.toNat default) 0 (IntKind.wrap .i64 ((((p.variables.getD A.toNat default).choices).length:Int) - 1))).bind fun F=>
  bif (!F) then
   some false
  else
   G (IntKind.wrap .i64 (A+1))
 else
  some true

def Ev (p:A9) (b:List Int):Option Bool:=
 bif (decide ((p.variables.length:Int)<(b.length:Int))) then
  some false
 else
  B1 (DP p b) (((b.length:Int) - 0).toNat+1) 0

theorem IN {w:World} {O:List Nat} {p:A9} {b:List Int} {Aa:Option Addr} {Ca:Nat} {Ab:Option Addr} {Cb:Nat} {Ac:Option Addr} {Cc:Nat} {Ad:Option Addr} {Cd:Nat} (hO:∀k∈O,k<w.heap.size) (Fa:CA B2 w O Aa Ca p.cells) (Fb:CA (BE (AM .i64)) w O Ab Cb p.capacity) (Fc:CA AT w O Ac Cc p.variables) (Fd:CA (AM .i64) w O Ad Cd b) {x:Bool} (F:Ev p b=some x):
 Ok Try.prog 87 [Value.agg (C0 p Aa Ca Ab Cb Ac Cc).toArray,Sl Ad b Cd] w O vB x:=by
 unfold Ev at F
 refine Bt (n:=32) (xs:=[.tmp 4]) Try.func87 Av Try.ntmps87 Try.results87 Av ?_
 have hs:=St.start hO
 refine Ax<|Aw<|AA<|BV (cs:=(C0 p Aa Ca Ab Cb Ac Cc)) hs Av Av ?_
 intro b1 w2 _ p3 X
 refine Bn (Bo false) Av<|Ay<|Ax<|Ax<|Aw<|Be (Sl Ad b Cd) Av<|AA<|Bd Try.underlying31 Av ?_
 replace Fd:=Fd.step p3
 have b0:=Bb Fd
 refine AA<|AP 2 Bw Av CI Av Av<|AA<|AQ 0 CI X Av Av Av<|AA<|Bd Try.underlying24 Av ?_
 replace Fc:=Fc.step p3
 have b2:=Bb Fc
 refine AA<|EY Av Av<|Ay<|AF F Av (fun aY F=>?_) (fun aY F=>?_)
 refine Ax ?_
 obtain⟨aZ,b3⟩:=X.sub (bs':=[]) (.cons _ List.Sublist.slnil)
 clear Fa Fb Fc Fd
 clear X
 refine Aw<|Bn (Bo false) Av<|Ay<|AY<|⟨_,En,[Bo false],⟨Av,trivial⟩,aZ.ext,?_⟩
 exact Vr.eq (a:=vB) (x:=false) Av (oi F)
 refine AH<|Ax<|Ax<|Aw<|Bn (Iv 0) Av<|Ay<|AE<|Wr [] [(1,Sl Ad b Cd),(2,Pt b1 0),(5,Iv 0)] fun bG=>Bh WY (fun m fr w'=>∃(A:Int) (aH:Bi),aH=[(some b1,Oc (C0 p Aa Ca Ab Cb Ac Cc) 26)]∧fr [] [(5,Iv A)]∧X.S (ks aH O) w'∧St ⟨w,[],[]⟩ O w' aH∧BR .i64 A∧B1 (DP p b) m A=some x) (((b.length:Int) - 0).toNat+1) ⟨0,_,Av,BB.of ⟨Av,trivial⟩,AB.refl _ _,X,EG,F⟩ ?_ ?_
 rintro _ _ ⟨_,_,_,_,_,_,_,F⟩;exact Dg F
 rintro b4 b5 aP bH b6 ⟨A,_,rfl,Y,M,I,Ra,F⟩
 obtain⟨bI,aI,F⟩:=Dh F;unfold DP at F
 rw [Y.eq];clear Y
 have Z:=M
 refine Ax<|Ax<|Aw<|Be (Iv A) Av<|Be (Sl Ad b Cd) Av<|AA<|Bd Try.underlying31 Av ?_
 replace Fd:=Fd.step M
 have bJ:=Bb Fd
 refine AA<|Bu Av Av<|Ay<|AF F Av (fun aQ F=>?_) (fun aQ F=>?_)
 refine AH<|Ax<|AE<|Ax<|B9 (g0:=[]) (m:=12) (fl:=[]) (Dc I) Av (.inl Av) Av (by decide+kernel) ?_  -- 6
 refine Ba (Sl Ad b Cd) (fun _ _ _ hi G=>AD (v:=Sl Ad b Cd) (G 1 Av)<|Gz hi)<|Ba (Iv A) (fun _ _ _ hi G=>AD (v:=Iv A) (G 5 Av)<|Gz hi) ?_
 obtain⟨aF,F⟩:=AG F
 refine Bc (VP _ _ (AM .i64) (gt b A)) (VP.stab _ _) (fun bK b7 g J hi G=>?_) ?_
 obtain⟨-,aJ,-⟩:=J
 replace Fd:=Fd.step aJ
 refine Az<|AC (q:=(AM .i64)) Bp BD (G 18 Av) (G 19 Av) Fd Av aF.1 aF.2 ?_
 intro b8 a0
 exact Bs.same hi ⟨_,Av,a0⟩
 refine Bc (VD _ _ (vI .i64) (gt b A)) (VD.stab _ _) (fun bL b9 g J hi G=>?_) ?_
 obtain⟨cA,a1,a2⟩:=G 20 Av
 refine Az<|AX BD a1 a2 Av ?_
 intro cB a3
 obtain⟨rfl,Rb⟩:=C3 a3
 exact Bs.same hi (show Vr.vd (vI .i64) _ _ _ _ from⟨Av,Rb⟩)
 refine Ba (Pt b1 2) (fun _ _ _ hi G=>AP 2 Bw Av CI (G 2 Av) Av<|Gz hi)<|Ba (Sl Ac p.variables Cc) (fun _ _ _ hi G=>AQ 0 CI (AB.nx hi).1 (G 22 Av) Av Av<|Gz hi)<|Ba (Iv A) (fun _ _ _ hi G=>AD (v:=Iv A) (G 5 Av)<|Gz hi) ?_
 obtain⟨aG,F⟩:=AG F
 replace Fc:=Fc.step M
 refine Bc (VP _ _ AT (gt p.variables A)) (VP.stab _ _) (fun bM cC g J hi G=>?_) ?_
 obtain⟨-,aJ,-⟩:=J
 replace Fc:=Fc.step aJ
 refine Az<|AC (q:=AT) CI Ex (G 23 Av) (G 24 Av) Fc Av aG.1 aG.2 ?_
 intro cD a4
 exact Bs.same hi ⟨_,Av,a4⟩
 refine Bc (VP _ _ (BE BL) ((gt p.variables A).choices)) (VP.stab _ _) (fun bN cE g J hi G=>?_) ?_
 obtain⟨cF,a5,a6⟩:=G 25 Av
 refine Az<|C2 Ex Av G0 (by decide) a5 Av ?_
 have a7:=a6.via.snd.snd.snd
 exact Bs.same hi ⟨_,Av,a7⟩
 refine Bc (VD _ _ (vC (BE BL)) ((gt p.variables A).choices)) (VD.stab _ _) (fun bO cG g J hi G=>?_) ?_
 obtain⟨cH,a8,a9⟩:=G 26 Av
 refine Az<|AX G0 a8 a9 Av ?_
 intro cI bA
 obtain⟨Ae,Ce,rfl,Fe⟩:=BH bA
 exact Bs.same hi (show Vr.vd (vC (BE BL)) _ _ _ _ from(Ke (B5 Fe)))
 refine Bc (VD _ _ (vI .i64) (((gt p.variables A).choices).length:Int)) (VD.stab _ _) (fun bP cJ g J hi G=>?_) ?_
 have bB:Vr.vd (vC (BE BL)) _ _ _ _:=G 27 Av
 obtain⟨Af,Cf,bC,Ff⟩:=BH bB
 exact Az<|Bd Try.underlying59 bC<|Bs.same hi (show Vr.vd (vI .i64) _ _ _ _ from⟨Av,Bb Ff⟩)
 refine Do (Iv (wq ((((gt p.variables A).choices).length:Int) - 1))) (fun bQ cK g J hi G=>?_) ?_
 have bD:Vr.vd (vI .i64) _ _ _ _:=G 28 Av
 obtain⟨bE,Rc⟩:=bD
 exact Az<|FC bE Av<|Gz hi
 refine BA fun cL cM aR aS=>?_
 obtain⟨-,aK,-⟩:=aR
 obtain⟨N,aA⟩:=AB.nx aS
 rintro _ rfl bR aB
 replace aB:Vr.vd (vI .i64) _ _ _ _:=aB
 obtain⟨rfl,Rd⟩:=aB
 rintro bS aC
 replace aC:Vr.vd (vC (BE BL)) _ _ _ _:=aC
 obtain⟨Ag,Cg,rfl,Fg⟩:=BH aC
 rintro _ ⟨bT,rfl,Q⟩ _ ⟨bU,rfl,U⟩ _ rfl _ rfl _ rfl bV aD
 replace aD:Vr.vd (vI .i64) _ _ _ _:=aD
 obtain⟨rfl,Re⟩:=aD
 rintro _ ⟨bW,rfl,W⟩ _ rfl _ rfl
 have aT:=I.to N (aK.trans aA)
 replace Fg:=Fg.step aA;replace Q:=Q.step aA;replace U:=U.step aA;replace W:=W.step aA;clear I
 obtain⟨aO,aL,F⟩:=bd F
 refine AA<|Bj N Try.call61 (De (n:=gt b A) (lo:=0) (hi:=(wq ((((gt p.variables A).choices).length:Int) - 1))) N.ltw Re EG (AZ .i64 _) aL) Av ?_
 rintro bX bY aU aE aV
 clear N
 obtain rfl:=aV
 refine AA<|Es Av<|Ay<|AF F Av (fun aM F=>?_) (fun aM F=>?_)
 refine Ax ?_
 clear Fd Fg Q U W
 refine Aw<|Bn (Bo false) Av<|Ay<|AY<|⟨_,En,[Bo false],⟨Av,trivial⟩,aE.ext,?_⟩
 exact Vr.eq (a:=vB) (x:=false) Av (oi F)
 refine AH ?_
 clear Fg Q U W
 refine Aw<|Be (Iv A) Av<|AA<|Bm Av Av<|Bn (Iv (wq (A+1))) Av<|Ay ?_
 have aW:=(aT.trans aU)
 replace Z:=Z.trans aW
 exact aP _ _ ⟨(wq (A+1)),_,Av,BB.of ⟨Av,trivial⟩,Z,aE,(AZ .i64 _),Ed aI F⟩
 refine Br<|Ax ?_
 obtain⟨aN,bZ⟩:=I.sub (bs':=[]) (.cons _ List.Sublist.slnil)
 clear Fa Fb Fc Fd
 clear I
 refine Aw<|Bn (Bo true) Av<|Ay<|AY<|⟨_,En,[Bo true],⟨Av,trivial⟩,aN.ext,?_⟩
 exact Vr.eq (a:=vB) (x:=true) Av (oi F)

abbrev WZ:List Nat:=[4,5,6,7,8,9,10,11,12,13,14,15,16,17,18,19]

def Dj (v:AL) (leaf:Int) (F:Int→Option Bool) (A:Int):Option Bool:=
 bif (decide (A<(v.leaves.length:Int))) then
  ck ((0:Int)≤A∧A<(v.leaves.length:Int))<|
  bif (decide ((v.leaves.getD A.toNat default)=leaf)) then
   some true
  else
   F (IntKind.wrap .i64 (A+1))
 else
  some false

def Ew (v:AL) (leaf:Int):Option Bool:=
 B1 (Dj v leaf) (((v.leaves.length:Int) - 0).toNat+1) 0

theorem IP {w:World} {O:List Nat} {v:AL} {leaf:Int} {Aa:Option Addr} {Ca:Nat} {Ab:Option Addr} {Cb:Nat} (hO:∀k∈O,k<w.heap.size) (Ra:BR .i64 v.flight) (Rb:BR .i64 v.node) (Fa:CA (AM .i64) w O Aa Ca v.leaves) (Fb:CA BL w O Ab Cb v.choices) (Rc:BR .i64 leaf) {x:Bool} (F:Ew v leaf=some x):
 Ok Try.prog 89 [Value.agg [Iv v.flight,Iv v.node,Sl Aa v.leaves Ca,Sl Ab v.choices Cb].toArray,Iv leaf] w O vB x:=by
 unfold Ew at F
 refine Bt (n:=20) (xs:=[.tmp 4]) Try.func89 Av Try.ntmps89 Try.results89 Av ?_
 have hs:=St.start hO
 refine Ax<|Aw<|AA<|BV (cs:=[Iv v.flight,Iv v.node,Sl Aa v.leaves Ca,Sl Ab v.choices Cb]) hs Av Av ?_
 intro b1 w2 _ p3 U
 refine Bn (Bo false) Av<|Ay<|Ax<|Ax<|Aw<|Bn (Iv 0) Av<|Ay<|AE<|Wr [] [(1,Iv leaf),(2,Pt b1 0),(5,Iv 0)] fun aI=>Bh WZ (fun m fr w'=>∃(G:Int) (N:Bi),N=[(some b1,Oc [Iv v.flight,Iv v.node,Sl Aa v.leaves Ca,Sl Ab v.choices Cb] 61)]∧fr [] [(5,Iv G)]∧U.S (ks N O) w'∧St ⟨w,[],[]⟩ O w' N∧BR .i64 G∧B1 (Dj v leaf) m G=some x) (((v.leaves.length:Int) - 0).toNat+1) ⟨0,_,Av,BB.of ⟨Av,trivial⟩,AB.refl _ _,U,EG,F⟩ ?_ ?_
 rintro _ _ ⟨_,_,_,_,_,_,_,F⟩;exact Dg F
 rintro aJ aK W aF aL ⟨G,_,rfl,I,J,A,Rd,F⟩
 obtain⟨aM,X,F⟩:=Dh F;unfold Dj at F
 rw [I.eq];clear I
 have Y:=J
 refine Ax<|Ax<|Aw<|Be (Iv G) Av<|AA<|AP 2 Ex Av Bp Av Av<|AA<|AQ 0 Bp A Av Av Av<|AA<|Bd Try.underlying31 Av ?_
 have aC:=(p3.trans J)
 replace Fa:=Fa.step aC
 have aG:=Bb Fa
 refine AA<|Bu Av Av<|Ay<|AF F Av (fun Z F=>?_) (fun Z F=>?_)
 refine AH<|Ax<|AE<|Ax<|Aw<|AA<|AP 2 Ex Av Bp Av Av<|AA<|AQ 0 Bp A Av Av Av<|Be (Iv G) Av ?_
 obtain⟨M,F⟩:=AG F
 refine AA<|AC (q:=(AM .i64)) Bp BD Av Av Fa Av M.1 M.2 ?_
 intro aN Q
 refine AA<|AX BD Av Q Av ?_
 intro aO aD
 obtain⟨rfl,Re⟩:=C3 aD
 refine Be (Iv leaf) Av<|AA<|GV Av Av<|Ay<|AF F Av (fun aA F=>?_) (fun aA F=>?_)
 refine Ax ?_
 clear Q
 refine Aw<|Bn (Bo true) Av<|Ay<|AY<|⟨_,En,[Bo true],⟨Av,trivial⟩,A.ext,?_⟩
 exact Vr.eq (a:=vB) (x:=true) Av (oi F)
 refine AH ?_
 clear Q
 exact Aw<|Be (Iv G) Av<|AA<|Bm Av Av<|Bn (Iv (wq (G+1))) Av<|Ay<|W _ _ ⟨(wq (G+1)),_,Av,BB.of ⟨Av,trivial⟩,Y,A,(AZ .i64 _),Ed X F⟩
 refine Br<|Ax ?_
 obtain⟨aB,aP⟩:=A.sub (bs':=[]) (.cons _ List.Sublist.slnil)
 clear Fa Fb
 clear A
 refine Aw<|Bn (Bo false) Av<|Ay<|AY<|⟨_,En,[Bo false],⟨Av,trivial⟩,aB.ext,?_⟩
 exact Vr.eq (a:=vB) (x:=false) Av (oi F)

abbrev Xa:List Nat:=[7,10,11,43,44,45,46,47,48,49,50,51,52,53,54,55,56,57,58,59,60,61,62,63,64,65,66,67,68,69]

abbrev U8:List Nat:=[7,9,10,11,22,23,24,25,26,27,28,29,30,31,32,33,34,35,36,37,38,39,40,41,42,43,44,45,46,47,48,49,50,51,52,53,54,55,56,57,58,59,60,61,62,63,64,65,66,67,68,69]

abbrev SS:List Nat:=[7,8,9,10,11,16,17,18,19,20,21,22,23,24,25,26,27,28,29,30,31,32,33,34,35,36,37,38,39,40,41,42,43,44,45,46,47,48,49,50,51,52,53,54,55,56,57,58,59,60,61,62,63,64,65,66,67,68,69]

def Dk (p:A9) (b:List Int) (A:Int) (M:(List Int)→Option (List Int)) (J:(List Int)→Int→Option (List Int)) (I:List Int) (G:Int):Option (List Int):=
 bif (decide (G<(((((p.variables.getD A.toNat default).choices).getD (b.getD A.toNat default).toNat default).uses).length:Int))) then
  ck ((0:Int)≤G∧G<(((((p.variables.getD A.toNat default).choices).getD (b.getD A.toNat default).toNat default).uses).length:Int))<|
  (DW p.cells ((((((p.variables.getD A.toNat default).choices).getD (b.getD A.toNat default).toNat default).uses).getD G.toNat default).cell)).bind fun F=>
  ck ((0:Int)≤F∧F<(I.length:Int))<|
  ck ((0:Int)≤G∧G<(((((p.variables.getD A.toNat default).choices).getD (b.getD A.toNat default).toNat default).uses).length:Int))<|
  ck ((0:Int)≤F∧F<(I.length:Int))<|
  J (I.set F.toNat (IntKind.wrap .i64 ((I.getD F.toNat default)+((((((p.variables.getD A.toNat default).choices).getD (b.getD A.toNat default).toNat default).uses).getD G.toNat default).places)))) (IntKind.wrap .i64 (G+1))
 else
  M I

def Dm (p:A9) (b:List Int) (leaf:Int) (I:(List Int)→Int→Option (List Int)) (G:List Int) (A:Int):Option (List Int):=
 bif (decide (A<(b.length:Int))) then
  jn (fun(M:List Int)=>
   I M (IntKind.wrap .i64 (A+1)))
  (fun J=>
   ck ((0:Int)≤A∧A<(p.variables.length:Int))<|
   (Ew (p.variables.getD A.toNat default) leaf).bind fun F=>
   bif (!F) then
    J G
   else
    ck ((0:Int)≤A∧A<(p.variables.length:Int))<|
    ck ((0:Int)≤A∧A<(b.length:Int))<|
    ck ((0:Int)≤(b.getD A.toNat default)∧(b.getD A.toNat default)<(((p.variables.getD A.toNat default).choices).length:Int))<|
    B8 (Dk p b A J) (((((((p.variables.getD A.toNat default).choices).getD (b.getD A.toNat default).toNat default).uses).length:Int) - 0).toNat+1) G 0)
 else
  some G

def DH (p:A9) (b:List Int) (leaf:Int):Option (List Int):=
 ck ((0:Int)≤(p.cells.length:Int)∧(p.cells.length:Int)≤(p.cells.length:Int)∧(8:Int)*(p.cells.length:Int)≤281474976710656∧(p.cells.length:Int)≤281474976710656)<|
 B8 (Dm p b leaf) (((b.length:Int) - 0).toNat+1) (List.replicate p.cells.length (0:Int)) 0

theorem GY {w:World} {O:List Nat} {p:A9} {b:List Int} {leaf:Int} {Aa:Option Addr} {Ca:Nat} {Ab:Option Addr} {Cb:Nat} {Ac:Option Addr} {Cc:Nat} {Ad:Option Addr} {Cd:Nat} (hO:∀k∈O,k<w.heap.size) (Fa:CA B2 w O Aa Ca p.cells) (Fb:CA (BE (AM .i64)) w O Ab Cb p.capacity) (Fc:CA AT w O Ac Cc p.variables) (Fd:CA (AM .i64) w O Ad Cd b) (Ra:BR .i64 leaf) {x:(List Int)} (G:DH p b leaf=some x):
 OI Try.prog 80 [Value.agg (C0 p Aa Ca Ab Cb Ac Cc).toArray,Sl Ad b Cd,Iv leaf] w O (AM .i64) 3 x:=by
 unfold DH at G
 refine Bt (n:=71) (xs:=[.tmp 6]) Try.func80 Av Try.ntmps80 Try.results80 Av ?_
 have hs:=St.start hO
 refine Ax<|Aw<|AA<|BV (cs:=(C0 p Aa Ca Ab Cb Ac Cc)) hs Av Av ?_
 intro b1 w2 _ p3 bY
 refine Bn (Value.slice none 0 0) Av<|Ay<|Ax<|Aw<|AA<|AP 0 Bw Av F1 Av Av<|AA<|AQ 0 F1 bY Av Av Av<|AA<|Bd Try.underlying22 Av ?_
 replace Fa:=Fa.step p3
 have fR:=Bb Fa
 obtain⟨dH,G⟩:=AG G
 refine AA<|Ht (q:=(AM .i64)) (v:=Iv 0) (x0:=(0:Int)) Bp BD bY Av Av dH Av (fun _ _=>(AW EG)) ?_
 intro b8 w9 d8 cF bM cG
 clear bY
 refine Bn (Sl (some ⟨b8,0,none⟩) (List.replicate p.cells.length (0:Int)) p.cells.length) Av<|Ay<|Ax<|Ax<|Aw<|Bn (Iv 0) Av<|Ay<|AE<|Wr [] [(1,Sl Ad b Cd),(2,Iv leaf),(3,Pt b1 0),(7,Sl (some ⟨b8,0,none⟩) (List.replicate p.cells.length (0:Int)) p.cells.length),(8,Iv 0)] fun bN=>Bh SS (fun m fr w'=>∃(X:List Int) (A:Int) (Ae:Option Addr) (Ce:Nat) (U:Option Nat) (W:Obj) (Q:Bi),Q=[(U,W),(some b1,Oc (C0 p Aa Ca Ab Cb Ac Cc) 26)]∧fr [] [(7,Sl Ae X Ce),(8,Iv A)]∧bM.S (ks Q O) w'∧St ⟨w,[],[]⟩ O w' Q∧Gs (AM .i64) 3 w' (ks Q O) Ae Ce X U W∧BR .i64 A∧B8 (Dm p b leaf) m X A=some x) (((b.length:Int) - 0).toNat+1) ⟨List.replicate p.cells.length (0:Int),0,some ⟨b8,0,none⟩,p.cells.length,some b8,Obj.cells (List.replicate p.cells.length (Iv 0)).toArray 3,_,Av,BB.of ⟨Av,Av,trivial⟩,AB.refl _ _,bM,cG,EG,G⟩ ?_ ?_
 rintro _ _ ⟨_,_,_,_,_,_,_,_,_,_,_,_,_,G⟩;exact D9 G
 rintro fS fT cH d9 fU ⟨X,A,Ae,Ce,U,W,_,rfl,aR,aJ,aC,Fe,Rb,G⟩
 obtain⟨eA,bZ,G⟩:=DA G;unfold Dm at G
 rw [aR.eq];clear aR
 have aS:=aJ
 refine Ax<|Ax ?_
 clear cG
 refine Aw<|Be (Iv A) Av<|Be (Sl Ad b Cd) Av<|AA<|Bd Try.underlying31 Av ?_
 have cI:=(p3.trans (cF.trans aJ))
 replace Fd:=Fd.step cI
 have eB:=Bb Fd
 refine AA<|Bu Av Av<|Ay<|AF G Av (fun cJ G=>?_) (fun cJ G=>?_)
 refine AH<|Ip SS [] (CK ⟨bN,[]⟩ [(1,Sl Ad b Cd),(2,Iv leaf),(3,Pt b1 0),(7,Sl (some ⟨b8,0,none⟩) (List.replicate p.cells.length (0:Int)) p.cells.length),(8,Iv 0)]) [(7,Sl Ae X Ce),(8,Iv A)] fun cK=>?_
 obtain⟨cL,cM,G⟩:=Dp G
 refine D8 U8 (fun fr w'=>∃(aT:List Int) (Af:Option Addr) (Cf:Nat) (aE:Option Nat) (aF:Obj) (Q:Bi),Q=[(aE,aF),(some b1,Oc (C0 p Aa Ca Ab Cb Ac Cc) 26)]∧fr [] [(7,Sl Af aT Cf)]∧aC.S (ks Q O) w'∧St ⟨w,[],[]⟩ O w' Q∧Gs (AM .i64) 3 w' (ks Q O) Af Cf aT aE aF∧cL aT=some x) ?_ ?_
 rintro eC fV ⟨aT,Af,Cf,aE,aF,_,rfl,aU,b0,cN,Ff,G⟩
 replace G:=Ed cM G
 rw [aU.eq];clear aU
 clear Fe
 refine Aw<|Be (Iv A) Av<|AA<|Bm Av Av<|Bn (Iv (wq (A+1))) Av<|Ay ?_
 replace aS:=aS.trans b0
 exact cH _ _ ⟨aT,(wq (A+1)),Af,Cf,aE,aF,_,Av,BB.of ⟨Av,Av,trivial⟩,aS,cN,Ff,(AZ .i64 _),GD bZ G⟩
 intro fW bO
 have aD:=aC.stepR
 refine AE<|Ax<|Ax<|Aw<|AA<|AP 2 Bw Av CI Av Av<|AA<|AQ 1 CI aC Av Av Av<|Be (Iv A) Av ?_
 obtain⟨bP,G⟩:=AG G
 replace Fc:=Fc.step cI
 refine AA<|AC (q:=AT) CI Ex Av Av Fc Av bP.1 bP.2 ?_
 intro fX cO
 refine AA<|BF Ex Av cO Av ?_
 intro eD dI
 obtain⟨_,_,rfl,⟨rfl,Rc⟩,⟨_,_,rfl,⟨rfl,Rd⟩,⟨_,_,rfl,⟨Ag,Cg,rfl,Fg⟩,⟨Ah,Ch,rfl,Fh⟩⟩⟩⟩:=dI
 refine Be (Iv leaf) Av ?_
 obtain⟨cE,cP,G⟩:=bd G
 refine AA<|Bj aC Try.call89 (IP (v:=gt p.variables A) (leaf:=leaf) aC.ltw Rc Rd Fg Fh Ra cP) Av ?_
 rintro fY fZ aQ aO dJ
 obtain rfl:=dJ
 refine AA<|Es Av<|Ay<|AF G Av (fun cQ G=>?_) (fun cQ G=>?_)
 refine Br ?_
 replace aD:=aD.trans aQ;replace Fe:=Fe.step aQ
 exact bO _ _ ⟨X,Ae,Ce,U,W,_,Av,BB.of ⟨Av,trivial⟩,aD,aO,Fe,G⟩
 refine AH<|Ax ?_
 clear cO Fg Fh
 refine B9 (g0:=[]) (m:=10) (fl:=[]) (Dc aO) Av (.inl Av) Av (by decide+kernel) ?_  -- 6
 refine Ba (Pt b1 2) (fun _ _ _ hi F=>AP 2 Bw Av CI (F 3 Av) Av<|Gz hi)<|Ba (Sl Ac p.variables Cc) (fun _ _ _ hi F=>AQ 1 CI (AB.nx hi).1 (F 30 Av) Av Av<|Gz hi)<|Ba (Iv A) (fun _ _ _ hi F=>AD (v:=Iv A) (F 8 Av)<|Gz hi) ?_
 obtain⟨bQ,G⟩:=AG G
 replace Fc:=Fc.step aQ
 refine Bc (VP _ _ AT (gt p.variables A)) (VP.stab _ _) (fun eE f0 g M hi F=>?_) ?_
 obtain⟨-,aB,-⟩:=M
 replace Fc:=Fc.step aB
 refine Az<|AC (q:=AT) CI Ex (F 31 Av) (F 32 Av) Fc Av bQ.1 bQ.2 ?_
 intro f1 dK
 exact Bs.same hi ⟨_,Av,dK⟩
 refine Bc (VP _ _ (BE BL) ((gt p.variables A).choices)) (VP.stab _ _) (fun eF f2 g M hi F=>?_) ?_
 obtain⟨f3,dL,dM⟩:=F 33 Av
 refine Az<|C2 Ex Av G0 (by decide) dL Av ?_
 have dN:=dM.via.snd.snd.snd
 exact Bs.same hi ⟨_,Av,dN⟩
 refine Bc (VD _ _ (vC (BE BL)) ((gt p.variables A).choices)) (VD.stab _ _) (fun eG f4 g M hi F=>?_) ?_
 obtain⟨f5,dO,dP⟩:=F 34 Av
 refine Az<|AX G0 dO dP Av ?_
 intro f6 dQ
 obtain⟨Ai,Ci,rfl,Fi⟩:=BH dQ
 exact Bs.same hi (show Vr.vd (vC (BE BL)) _ _ _ _ from(Ke (B5 Fi)))
 refine Ba (Sl Ad b Cd) (fun _ _ _ hi F=>AD (v:=Sl Ad b Cd) (F 1 Av)<|Gz hi)<|Ba (Iv A) (fun _ _ _ hi F=>AD (v:=Iv A) (F 8 Av)<|Gz hi) ?_
 obtain⟨bR,G⟩:=AG G
 replace Fd:=Fd.step aQ
 refine Bc (VP _ _ (AM .i64) (gt b A)) (VP.stab _ _) (fun eH f7 g M hi F=>?_) ?_
 obtain⟨-,aB,-⟩:=M
 replace Fd:=Fd.step aB
 refine Az<|AC (q:=(AM .i64)) Bp BD (F 36 Av) (F 37 Av) Fd Av bR.1 bR.2 ?_
 intro f8 dR
 exact Bs.same hi ⟨_,Av,dR⟩
 refine Bc (VD _ _ (vI .i64) (gt b A)) (VD.stab _ _) (fun dS eI g M hi F=>?_) ?_
 obtain⟨eJ,cR,cS⟩:=F 38 Av
 refine Az<|AX BD cR cS Av ?_
 intro eK cT
 obtain⟨rfl,Re⟩:=C3 cT
 exact Bs.same hi (show Vr.vd (vI .i64) _ _ _ _ from⟨Av,Re⟩)
 refine BA fun eL eM b2 b3=>?_
 obtain⟨-,bH,-⟩:=b2
 obtain⟨aK,aI⟩:=AB.nx b3
 rintro eN aV
 replace aV:Vr.vd (vI .i64) _ _ _ _:=aV
 obtain⟨rfl,Rf⟩:=aV
 rintro _ ⟨eO,rfl,aW⟩ _ rfl _ rfl eP aX
 replace aX:Vr.vd (vC (BE BL)) _ _ _ _:=aX
 obtain⟨Aj,Cj,rfl,Fj⟩:=BH aX
 rintro _ ⟨eQ,rfl,aY⟩ _ ⟨eR,rfl,aZ⟩ _ rfl _ rfl _ rfl
 have bS:=aO.to aK (bH.trans aI)
 replace aW:=aW.step aI;replace Fj:=Fj.step aI;replace aY:=aY.step aI;replace aZ:=aZ.step aI;clear aO
 obtain⟨a0,G⟩:=AG G
 refine AA<|AC (q:=BL) G0 Gy Av Av Fj Av a0.1 a0.2 ?_
 intro eS bT
 refine AA<|C2 Gy Av HK (by decide) Av Av ?_
 have bU:=bT.via.snd.snd.snd
 refine AA<|AX HK Av bU Av ?_
 intro eT cU
 obtain⟨Ak,Ck,rfl,Fk⟩:=BH cU
 refine Bn (Sl Ak ((gt ((gt p.variables A).choices) (gt b A)).uses) Ck) Av<|Ay<|Ax ?_
 clear aW Fj aY aZ bT bU
 refine Aw<|Bn (Iv 0) Av<|Ay<|AE<|Ip U8 [] (CK (IT SS [] cK (CK ⟨bN,[]⟩ [(1,Sl Ad b Cd),(2,Iv leaf),(3,Pt b1 0),(7,Sl (some ⟨b8,0,none⟩) (List.replicate p.cells.length (0:Int)) p.cells.length),(8,Iv 0)])) [(7,Sl Ae X Ce),(8,Iv A)]) [(7,Sl Ae X Ce),(9,Sl Ak ((gt ((gt p.variables A).choices) (gt b A)).uses) Ck),(10,Iv 0)] fun dT=>?_
 have bV:=(aQ.trans bS)
 replace Fe:=Fe.step bV
 refine Bh Xa (fun m fr w'=>∃(N:List Int) (I:Int) (Al:Option Addr) (Cl:Nat) (Y:Option Nat) (Z:Obj) (Q:Bi),Q=[(Y,Z),(some b1,Oc (C0 p Aa Ca Ab Cb Ac Cc) 26)]∧fr [] [(7,Sl Al N Cl),(10,Iv I)]∧aK.S (ks Q O) w'∧St ⟨w,[],[]⟩ O w' Q∧Gs (AM .i64) 3 w' (ks Q O) Al Cl N Y Z∧BR .i64 I∧B8 (Dk p b A cL) m N I=some x) (((((gt ((gt p.variables A).choices) (gt b A)).uses).length:Int) - 0).toNat+1) ⟨X,0,Ae,Ce,U,W,_,Av,BB.of ⟨Av,Av,trivial⟩,AB.refl _ _,aK,Fe,EG,G⟩ ?_ ?_
 rintro _ _ ⟨_,_,_,_,_,_,_,_,_,_,_,_,_,G⟩;exact D9 G
 rintro eU eV b4 dU eW ⟨N,I,Al,Cl,Y,Z,_,rfl,aP,aA,aG,Fl,Rg,G⟩
 obtain⟨dV,bI,G⟩:=DA G;unfold Dk at G
 rw [aP.eq];clear aP
 have aL:=aA
 refine Ax<|Ax ?_
 clear Fe
 refine Aw<|Be (Iv I) Av<|Be (Sl Ak ((gt ((gt p.variables A).choices) (gt b A)).uses) Ck) Av<|AA<|Bd Try.underlying56 Av ?_
 replace Fk:=Fk.step aA
 have dW:=Bb Fk
 refine AA<|Bu Av Av<|Ay<|AF G Av (fun b5 G=>?_) (fun b5 G=>?_)
 refine AH<|Ax<|AE<|Ax<|B9 (g0:=[]) (m:=7) (fl:=[]) (Dc aG) Av (.inl Av) Av (by decide+kernel) ?_  -- 10
 refine Ba (Pt b1 0) (fun _ _ _ hi F=>AP 0 Bw Av F1 (F 3 Av) Av<|Gz hi)<|Ba (Sl Aa p.cells Ca) (fun _ _ _ hi F=>AQ 1 F1 (AB.nx hi).1 (F 49 Av) Av Av<|Gz hi)<|Ba (Sl Ak ((gt ((gt p.variables A).choices) (gt b A)).uses) Ck) (fun _ _ _ hi F=>AD (v:=Sl Ak ((gt ((gt p.variables A).choices) (gt b A)).uses) Ck) (F 9 Av)<|Gz hi)<|Ba (Iv I) (fun _ _ _ hi F=>AD (v:=Iv I) (F 10 Av)<|Gz hi) ?_
 obtain⟨a1,G⟩:=AG G
 refine Bc (VP _ _ FO (gt ((gt ((gt p.variables A).choices) (gt b A)).uses) I)) (VP.stab _ _) (fun dX eX g M hi F=>?_) ?_
 obtain⟨-,aB,-⟩:=M
 replace Fk:=Fk.step aB
 refine Az<|AC (q:=FO) HK GU (F 51 Av) (F 52 Av) Fk Av a1.1 a1.2 ?_
 intro eY cV
 exact Bs.same hi ⟨_,Av,cV⟩
 refine Bc (VP _ _ B2 ((gt ((gt ((gt p.variables A).choices) (gt b A)).uses) I).cell)) (VP.stab _ _) (fun dY eZ g M hi F=>?_) ?_
 obtain⟨e0,cW,cX⟩:=F 53 Av
 refine Az<|C2 GU Av Eo (by decide) cW Av ?_
 have cY:=cX.via.fst
 exact Bs.same hi ⟨_,Av,cY⟩
 refine Bc (VD _ _ (vA B2) ((gt ((gt ((gt p.variables A).choices) (gt b A)).uses) I).cell)) (VD.stab _ _) (fun dZ e1 g M hi F=>?_) ?_
 obtain⟨e2,cZ,c0⟩:=F 54 Av
 refine Az<|BF Eo cZ c0 Av ?_
 intro d0 c1
 obtain⟨_,_,rfl,rfl,⟨_,_,rfl,⟨rfl,Rh⟩,⟨rfl,Ri⟩⟩⟩:=c1
 exact Bs.same hi (show Vr.vd (vA B2) _ _ _ _ from(Jn (Cz (AU GQ (AU (AW Rh) (AW Ri))))))
 refine BA fun e3 e4 b6 b7=>?_
 obtain⟨-,bJ,-⟩:=b6
 obtain⟨aH,a2⟩:=AB.nx b7
 rintro e5 a3
 replace a3:Vr.vd (vA B2) _ _ _ _:=a3
 obtain⟨_,rfl,⟨_,_,rfl,rfl,⟨_,_,rfl,⟨rfl,Rj⟩,⟨rfl,Rk⟩⟩⟩⟩:=a3
 rintro _ ⟨e6,rfl,a4⟩ _ ⟨e7,rfl,a5⟩ _ rfl _ rfl _ rfl _ rfl
 have bW:=aG.to aH (bJ.trans a2)
 replace a4:=a4.step a2;replace a5:=a5.step a2;clear aG
 obtain⟨J,b9,G⟩:=bd G
 replace Fa:=Fa.step (cF.trans (aJ.trans (aQ.trans (bS.trans (aA.trans bW)))))
 refine AA<|Bj aH Try.call81 (HO (l:=p.cells) (c:=(gt ((gt ((gt p.variables A).choices) (gt b A)).uses) I).cell) aH.ltw Fa Rj Rk b9) Av ?_
 rintro e8 e9 c2 aM c3
 clear aH
 obtain⟨rfl,Rl⟩:=c3
 refine Bn (Iv J) Av<|Ay ?_
 clear a4 a5
 refine B9 (g0:=[]) (m:=11) (fl:=[0,1]) (Dc aM) Av (.inl Av) Av (by decide+kernel) ?_  -- 11
 refine Ba (Sl Al N Cl) (fun _ _ _ hi F=>AD (v:=Sl Al N Cl) (F 7 Av)<|Gz hi)<|Ba (Iv J) (fun _ _ _ hi F=>AD (v:=Iv J) (F 11 Av)<|Gz hi)<|Ba (Sl Al N Cl) (fun _ _ _ hi F=>AD (v:=Sl Al N Cl) (F 7 Av)<|Gz hi)<|Ba (Iv J) (fun _ _ _ hi F=>AD (v:=Iv J) (F 11 Av)<|Gz hi) ?_
 obtain⟨a6,G⟩:=AG G
 have a7:=(bW.trans c2)
 replace Fl:=Fl.step a7
 obtain⟨a8,rfl,rfl⟩:=Fl.at_ (by omega)
 refine Do (Value.pointer (some ⟨a8,J.toNat*1,none⟩)) (fun d1 fA g M hi F=>?_) ?_
 obtain⟨-,aB,-⟩:=M
 replace Fl:=Fl.step aB
 refine Az<|B7 Bp BD (F 59 Av) (F 60 Av) Fl a6 ?_
 rintro _ ⟨⟩ -
 exact Gz hi
 refine Bc (VD _ _ (vI .i64) (gt N J)) (VD.stab _ _) (fun d2 fB g M hi F=>?_) ?_
 obtain⟨-,aB,-⟩:=M
 replace Fl:=Fl.step aB
 have d3:=(AB.nx hi).1
 refine Az<|Gr (m:=J) (i:=0) BD Av d3 Av (F 61 Av) Fl a6 ?_
 intro fC c4
 obtain⟨rfl,Rm⟩:=C3 c4
 exact Bs.same hi (show Vr.vd (vI .i64) _ _ _ _ from⟨Av,Rm⟩)
 refine Ba (Sl Ak ((gt ((gt p.variables A).choices) (gt b A)).uses) Ck) (fun _ _ _ hi F=>AD (v:=Sl Ak ((gt ((gt p.variables A).choices) (gt b A)).uses) Ck) (F 9 Av)<|Gz hi)<|Ba (Iv I) (fun _ _ _ hi F=>AD (v:=Iv I) (F 10 Av)<|Gz hi) ?_
 obtain⟨a9,G⟩:=AG G
 replace Fk:=Fk.step a7
 refine Bc (VP _ _ FO (gt ((gt ((gt p.variables A).choices) (gt b A)).uses) I)) (VP.stab _ _) (fun d4 fD g M hi F=>?_) ?_
 obtain⟨-,aB,-⟩:=M
 replace Fk:=Fk.step aB
 refine Az<|AC (q:=FO) HK GU (F 63 Av) (F 64 Av) Fk Av a9.1 a9.2 ?_
 intro fE c5
 exact Bs.same hi ⟨_,Av,c5⟩
 refine Bc (VP _ _ (AM .i64) ((gt ((gt ((gt p.variables A).choices) (gt b A)).uses) I).places)) (VP.stab _ _) (fun d5 fF g M hi F=>?_) ?_
 obtain⟨fG,c6,c7⟩:=F 65 Av
 refine Az<|C2 GU Av BD (by decide) c6 Av ?_
 have c8:=c7.via.snd
 exact Bs.same hi ⟨_,Av,c8⟩
 refine Bc (VD _ _ (vI .i64) ((gt ((gt ((gt p.variables A).choices) (gt b A)).uses) I).places)) (VD.stab _ _) (fun d6 fH g M hi F=>?_) ?_
 obtain⟨fI,c9,dA⟩:=F 66 Av
 refine Az<|AX BD c9 dA Av ?_
 intro fJ dB
 obtain⟨rfl,Rn⟩:=C3 dB
 exact Bs.same hi (show Vr.vd (vI .i64) _ _ _ _ from⟨Av,Rn⟩)
 refine BA fun fK fL cA cB=>?_
 obtain⟨-,bK,-⟩:=cA
 obtain⟨aN,bA⟩:=AB.nx cB
 rintro fM bB
 replace bB:Vr.vd (vI .i64) _ _ _ _:=bB
 obtain⟨rfl,Ro⟩:=bB
 rintro _ ⟨fN,rfl,bC⟩ _ ⟨fO,rfl,bD⟩ _ rfl _ rfl fP bE
 replace bE:Vr.vd (vI .i64) _ _ _ _:=bE
 obtain⟨rfl,Rp⟩:=bE
 rintro _ rfl _ rfl _ rfl _ rfl _ rfl
 have bX:=aM.to aN (bK.trans bA)
 replace bC:=bC.step bA;replace bD:=bD.step bA;clear aM
 refine AA<|Bm Av Av ?_
 obtain⟨bF,G⟩:=AG G
 replace Fl:=Fl.step bX
 refine AA<|B7 Bp BD Av Av Fl bF ?_
 rintro _ ⟨⟩ -
 refine Bk<|Hf (vs:=[Iv (wq ((gt N J)+((gt ((gt ((gt p.variables A).choices) (gt b A)).uses) I).places)))]) (i:=0) (m:=J) BD Av aN Av Av Av Av Fl bF (AW (AZ .i64 _)) ?_
 intro fQ dC dD cC dE
 clear aN
 refine Ay ?_
 clear bC bD
 refine Aw<|Be (Iv I) Av<|AA<|Bm Av Av<|Bn (Iv (wq (I+1))) Av<|Ay ?_
 replace aL:=aL.trans (a7.trans (bX.trans dD))
 exact b4 _ _ ⟨N.set J.toNat (wq ((gt N J)+((gt ((gt ((gt p.variables A).choices) (gt b A)).uses) I).places))),(wq (I+1)),some ⟨a8,0,none⟩,Cl,some a8,dC,_,Av,BB.of ⟨MP (show N.length=(N.set J.toNat (wq ((gt N J)+((gt ((gt ((gt p.variables A).choices) (gt b A)).uses) I).places)))).length from by first |(simp;done) |(simp;omega)),Av,trivial⟩,aL,cC,dE,(AZ .i64 _),GD bI G⟩
 refine Br ?_
 have dF:=(bV.trans aA)
 replace aD:=aD.trans dF
 exact bO _ _ ⟨N,Al,Cl,Y,Z,_,Av,BB.of ⟨Av,trivial⟩,aD,aG,Fl,G⟩
 refine Br<|Ax ?_
 obtain⟨bG,dG⟩:=aC.sub (bs':=[(U,W)]) (.cons_cons _ (.cons _ List.Sublist.slnil))
 clear Fa Fb Fc Fd
 refine Aw<|Be (Sl Ae X Ce) Av<|Bn (Sl Ae X Ce) Av<|Ay<|AY<|⟨_,En,[Sl Ae X Ce],⟨Av,trivial⟩,bG.ext,?_⟩
 replace Fe:=Fe.step dG
 exact OI.mk (i:=0) bG Av Fe (oi G)
abbrev Xb:List Nat:=[5,8,20,21,22,23,24,25,26,27,28,29,30,31,32,33,34,35,36,37,38,39,40,41]

abbrev U9:List Nat:=[5,6,7,8,9,10,11,12,13,14,15,16,17,18,19,20,21,22,23,24,25,26,27,28,29,30,31,32,33,34,35,36,37,38,39,40,41]

def CO (p:A9) (A:Int) (M:Int→Int→Option Int) (F:(List Int)) (J:Int→Int→Option Int) (I:Int) (G:Int):Option Int:=
 bif (decide (G<(F.length:Int))) then
  ck ((0:Int)≤G∧G<(F.length:Int))<|
  ck ((0:Int)≤A∧A<(p.capacity.length:Int))<|
  ck ((0:Int)≤G∧G<((p.capacity.getD A.toNat default).length:Int))<|
  J (IntKind.wrap .i64 (I+(max 0 (IntKind.wrap .i64 ((F.getD G.toNat default) - ((p.capacity.getD A.toNat default).getD G.toNat default)))))) (IntKind.wrap .i64 (G+1))
 else
  M I (IntKind.wrap .i64 (A+1))

def CP (p:A9) (b:List Int) (I:Int→Int→Option Int) (G:Int) (F:Int):Option Int:=
 bif (decide (F<(p.capacity.length:Int))) then
  (DH p b F).bind fun A=>
  B8 (CO p F I A) (((A.length:Int) - 0).toNat+1) G 0
 else
  some G

def DY (p:A9) (b:List Int):Option Int:=
 B8 (CP p b) (((p.capacity.length:Int) - 0).toNat+1) 0 0

theorem I4 {w:World} {O:List Nat} {p:A9} {b:List Int} {Aa:Option Addr} {Ca:Nat} {Ab:Option Addr} {Cb:Nat} {Ac:Option Addr} {Cc:Nat} {Ad:Option Addr} {Cd:Nat} (hO:∀k∈O,k<w.heap.size) (Fa:CA B2 w O Aa Ca p.cells) (Fb:CA (BE (AM .i64)) w O Ab Cb p.capacity) (Fc:CA AT w O Ac Cc p.variables) (Fd:CA (AM .i64) w O Ad Cd b) {x:Int} (M:DY p b=some x):
 Ok Try.prog 88 [Value.agg (C0 p Aa Ca Ab Cb Ac Cc).toArray,Sl Ad b Cd] w O (vI .i64) x:=by
 unfold DY at M
 refine Bt (n:=43) (xs:=[.tmp 4]) Try.func88 Av Try.ntmps88 Try.results88 Av ?_
 have hs:=St.start hO
 refine Ax<|Aw<|AA<|BV (cs:=(C0 p Aa Ca Ab Cb Ac Cc)) hs Av Av ?_
 intro b1 w2 _ p3 a3
 refine Bn (Iv 0) Av<|Ay<|Ax<|Aw<|Bn (Iv 0) Av<|Ay<|Ax<|Ax<|Aw<|Bn (Iv 0) Av<|Ay<|AE<|Wr [] [(1,Sl Ad b Cd),(2,Pt b1 0),(5,Iv 0),(6,Iv 0)] fun bL=>Bh U9 (fun m fr w'=>∃(G:Int) (A:Int) (Z:Bi),Z=[(some b1,Oc (C0 p Aa Ca Ab Cb Ac Cc) 26)]∧fr [] [(5,Iv G),(6,Iv A)]∧a3.S (ks Z O) w'∧St ⟨w,[],[]⟩ O w' Z∧BR .i64 G∧BR .i64 A∧B8 (CP p b) m G A=some x) (((p.capacity.length:Int) - 0).toNat+1) ⟨0,0,_,Av,BB.of ⟨Av,Av,trivial⟩,AB.refl _ _,a3,EG,EG,M⟩ ?_ ?_
 rintro _ _ ⟨_,_,_,_,_,_,_,_,_,M⟩;exact D9 M
 rintro cN cO a4 bX cP ⟨G,A,_,rfl,aB,aC,U,Ra,Rb,M⟩
 obtain⟨bM,aV,M⟩:=DA M;unfold CP at M
 rw [aB.eq];clear aB
 have aD:=aC
 refine Ax<|Ax<|Aw<|Be (Iv A) Av<|AA<|AP 1 Bw Av CB Av Av<|AA<|AQ 0 CB U Av Av Av<|AA<|Bd Try.underlying23 Av ?_
 have aQ:=(p3.trans aC)
 replace Fb:=Fb.step aQ
 have bY:=Bb Fb
 refine AA<|Bu Av Av<|Ay<|AF M Av (fun a5 M=>?_) (fun a5 M=>?_)
 refine AH<|Ax<|AE<|Ax<|Aw<|AA<|Bz 0 Bw U Av Av Av<|Be (Sl Ad b Cd) Av<|Be (Iv A) Av ?_
 obtain⟨F,a6,M⟩:=bd M
 replace Fd:=Fd.step aQ;replace Fa:=Fa.step aQ;replace Fc:=Fc.step aQ
 refine AA<|FT Try.call80 (GY (p:=p) (b:=b) (leaf:=A) U.ltw Fa Fb Fc Fd Rb a6) Av ?_
 rintro _ cQ ⟨a7,aE,aF,bN,aW,rfl,a8,Q⟩
 obtain⟨aS,a9⟩:=U.callG (o:=aW) a7 a8
 rw [← Jd (o:=aW)] at Q
 clear U
 refine Bn (Sl aE F aF) Av<|Ay<|Ax<|Aw<|Bn (Iv 0) Av<|Ay<|AE<|Ip U9 [] (CK ⟨bL,[]⟩ [(1,Sl Ad b Cd),(2,Pt b1 0),(5,Iv 0),(6,Iv 0)]) [(5,Iv G),(6,Iv A),(7,Sl aE F aF),(8,Iv 0)] fun bZ=>Bh Xb (fun m fr w'=>∃(J:Int) (I:Int) (Z:Bi),Z=[(bN,aW),(some b1,Oc (C0 p Aa Ca Ab Cb Ac Cc) 26)]∧fr [] [(5,Iv J),(8,Iv I)]∧aS.S (ks Z O) w'∧St ⟨w,[],[]⟩ O w' Z∧BR .i64 J∧BR .i64 I∧B8 (CO p A bM F) m J I=some x) (((F.length:Int) - 0).toNat+1) ⟨G,0,_,Av,BB.of ⟨Av,Av,trivial⟩,AB.refl _ _,aS,Ra,EG,M⟩ ?_ ?_
 rintro _ _ ⟨_,_,_,_,_,_,_,_,_,M⟩;exact D9 M
 rintro cR cS bA b0 cT ⟨J,I,_,rfl,aG,X,W,Rc,Rd,M⟩
 obtain⟨b2,aX,M⟩:=DA M;unfold CO at M
 rw [aG.eq];clear aG
 have aH:=X
 refine Ax<|Ax<|Aw<|Be (Iv I) Av<|Be (Sl aE F aF) Av<|AA<|Bd Try.underlying31 Av ?_
 replace Q:=Q.step X
 have b3:=Hs Q
 refine AA<|Bu Av Av<|Ay<|AF M Av (fun bB M=>?_) (fun bB M=>?_)
 refine AH<|Ax<|AE<|B9 (g0:=[]) (m:=13) (fl:=[0]) (Dc W) Av (.inl Av) Av (by decide+kernel) ?_  -- 9
 refine Ba (Iv J) (fun _ _ _ hi N=>AD (v:=Iv J) (N 5 Av)<|Gz hi)<|Ba (Sl aE F aF) (fun _ _ _ hi N=>AD (v:=Sl aE F aF) (N 7 Av)<|Gz hi)<|Ba (Iv I) (fun _ _ _ hi N=>AD (v:=Iv I) (N 8 Av)<|Gz hi) ?_
 obtain⟨aT,M⟩:=AG M
 obtain⟨bO,rfl,rfl⟩:=Q.at_ (by omega)
 refine Do (Value.pointer (some ⟨bO,I.toNat*1,none⟩)) (fun b4 cU g Y hi N=>?_) ?_
 obtain⟨-,aI,-⟩:=Y
 replace Q:=Q.step aI
 refine Az<|B7 Bp BD (N 27 Av) (N 28 Av) Q aT ?_
 rintro _ ⟨⟩ -
 exact Gz hi
 refine Bc (VD _ _ (vI .i64) (gt F I)) (VD.stab _ _) (fun b5 cV g Y hi N=>?_) ?_
 obtain⟨-,aI,-⟩:=Y
 replace Q:=Q.step aI
 have bP:=(AB.nx hi).1
 refine Az<|Gr (m:=I) (i:=0) BD Av bP Av (N 29 Av) Q aT ?_
 intro cW bQ
 obtain⟨rfl,Re⟩:=C3 bQ
 exact Bs.same hi (show Vr.vd (vI .i64) _ _ _ _ from⟨Av,Re⟩)
 refine Ba (Pt b1 1) (fun _ _ _ hi N=>AP 1 Bw Av CB (N 2 Av) Av<|Gz hi)<|Ba (Sl Ab p.capacity Cb) (fun _ _ _ hi N=>AQ 1 CB (AB.nx hi).1 (N 31 Av) Av Av<|Gz hi)<|Ba (Iv A) (fun _ _ _ hi N=>AD (v:=Iv A) (N 6 Av)<|Gz hi) ?_
 obtain⟨aU,M⟩:=AG M
 have bR:=(a9.trans X)
 replace Fb:=Fb.step bR
 refine Bc (VP _ _ (BE (AM .i64)) (gt p.capacity A)) (VP.stab _ _) (fun b6 cX g Y hi N=>?_) ?_
 obtain⟨-,aI,-⟩:=Y
 replace Fb:=Fb.step aI
 refine Az<|AC (q:=BE (AM .i64)) CB Bp (N 32 Av) (N 33 Av) Fb Av aU.1 aU.2 ?_
 intro cY bS
 exact Bs.same hi ⟨_,Av,bS⟩
 refine Bc (VD _ _ (vC (BE (AM .i64))) (gt p.capacity A)) (VD.stab _ _) (fun b7 cZ g Y hi N=>?_) ?_
 obtain⟨c0,bT,bU⟩:=N 34 Av
 refine Az<|AX Bp bT bU Av ?_
 intro c1 bV
 obtain⟨Ae,Ce,rfl,Fe⟩:=BH bV
 exact Bs.same hi (show Vr.vd (vC (BE (AM .i64))) _ _ _ _ from(Ke (B5 Fe)))
 refine Ba (Iv I) (fun _ _ _ hi N=>AD (v:=Iv I) (N 8 Av)<|Gz hi) ?_
 obtain⟨aJ,M⟩:=AG M
 refine Bc (VP _ _ (AM .i64) (gt (gt p.capacity A) I)) (VP.stab _ _) (fun b8 b9 g Y hi N=>?_) ?_
 have bC:Vr.vd (vC (BE (AM .i64))) _ _ _ _:=N 35 Av
 obtain⟨Af,Cf,bD,Ff⟩:=BH bC
 refine Az<|AC (q:=(AM .i64)) Bp BD bD (N 36 Av) Ff Av aJ.1 aJ.2 ?_
 intro cA bE
 exact Bs.same hi ⟨_,Av,bE⟩
 refine Bc (VD _ _ (vI .i64) (gt (gt p.capacity A) I)) (VD.stab _ _) (fun bW cB g Y hi N=>?_) ?_
 obtain⟨cC,bF,bG⟩:=N 37 Av
 refine Az<|AX BD bF bG Av ?_
 intro cD bH
 obtain⟨rfl,Rf⟩:=C3 bH
 exact Bs.same hi (show Vr.vd (vI .i64) _ _ _ _ from⟨Av,Rf⟩)
 refine BA fun cE cF aY aZ=>?_
 obtain⟨-,aR,-⟩:=aY
 obtain⟨aK,aA⟩:=AB.nx aZ
 rintro cG aL
 replace aL:Vr.vd (vI .i64) _ _ _ _:=aL
 obtain⟨rfl,Rg⟩:=aL
 rintro _ ⟨cH,rfl,aM⟩ _ rfl cI aN
 replace aN:Vr.vd (vC (BE (AM .i64))) _ _ _ _:=aN
 obtain⟨Ag,Cg,rfl,Fg⟩:=BH aN
 rintro _ ⟨cJ,rfl,aO⟩ _ rfl _ rfl _ rfl cK aP
 replace aP:Vr.vd (vI .i64) _ _ _ _:=aP
 obtain⟨rfl,Rh⟩:=aP
 rintro _ rfl _ rfl _ rfl _ rfl
 have bI:=W.to aK (aR.trans aA)
 replace aM:=aM.step aA;replace Fg:=Fg.step aA;replace aO:=aO.step aA;clear W
 refine AA<|FC Av Av<|AA<|Ql Av Av<|AA<|Bm Av Av<|Bn (Iv (wq (J+(max 0 (wq ((gt F I) - (gt (gt p.capacity A) I))))))) Av<|Ay ?_
 clear aM Fg aO
 refine Aw<|Be (Iv I) Av<|AA<|Bm Av Av<|Bn (Iv (wq (I+1))) Av<|Ay ?_
 replace aH:=aH.trans bI
 exact bA _ _ ⟨(wq (J+(max 0 (wq ((gt F I) - (gt (gt p.capacity A) I)))))),(wq (I+1)),_,Av,BB.of ⟨Av,Av,trivial⟩,aH,aK,(AZ .i64 _),(AZ .i64 _),GD aX M⟩
 refine Br ?_
 clear Q
 refine Aw<|Be (Iv A) Av<|AA<|Bm Av Av<|Bn (Iv (wq (A+1))) Av<|Ay ?_
 have a0:=W.drop 0
 have bJ:=(W.dropS 0)
 clear W
 have bK:=(a9.trans (X.trans bJ))
 replace aD:=aD.trans bK
 exact a4 _ _ ⟨J,(wq (A+1)),_,Av,BB.of ⟨Av,Av,trivial⟩,aD,a0,Rc,(AZ .i64 _),GD aV M⟩
 refine Br<|Ax ?_
 obtain⟨a1,cL⟩:=U.sub (bs':=[]) (.cons _ List.Sublist.slnil)
 clear Fa Fb Fc Fd
 clear U
 refine Aw<|Be (Iv G) Av<|Bn (Iv G) Av<|Ay<|AY<|⟨_,En,[Iv G],⟨Av,trivial⟩,a1.ext,?_⟩
 exact Vr.eq (a:=(vI .i64)) (x:=G) ⟨Av,Ra⟩ (oi M)

abbrev UA:List Nat:=[7,8,9,10,32,33,34,35,36,37,38,39,40,41,42,43,44,45,46,47,48,49,50,51,52,53,54,55,56,57,58,59,60,61,62,63,64,65,66,67,68,69,70,71,72,73,74,75,76,77,78,79,80,81,82,83,84]

abbrev Xc:List Nat:=[16,17,18,19,20,21,22,23,24,25,26,27]

def CE (p:A9) (choices:List Int) (G:(List Int)→Int→Option ((List Int) × Int)) (F:List Int) (A:Int):Option ((List Int) × Int):=
 bif (decide (A<(choices.length:Int))) then
  ck ((0:Int)≤A∧A<(p.variables.length:Int))<|
  ck ((0:Int)≤A∧A<(choices.length:Int))<|
  ck ((0:Int)≤(choices.getD A.toNat default)∧(choices.getD A.toNat default)<(((p.variables.getD A.toNat default).choices).length:Int))<|
  ck ((0:Int)≤A∧A<(p.variables.length:Int))<|
  ck ((0:Int)≤1∧1<(F.length:Int))<|
  ck ((0:Int)≤1∧1<(F.length:Int))<|
  ck ((0:Int)≤2∧2<((F.set 1 (max (F.getD 1 default) ((((p.variables.getD A.toNat default).choices).getD (choices.getD A.toNat default).toNat default).delay))).length:Int))<|
  ck ((0:Int)≤2∧2<((F.set 1 (max (F.getD 1 default) ((((p.variables.getD A.toNat default).choices).getD (choices.getD A.toNat default).toNat default).delay))).length:Int))<|
  ck ((0:Int)≤3∧3<(((F.set 1 (max (F.getD 1 default) ((((p.variables.getD A.toNat default).choices).getD (choices.getD A.toNat default).toNat default).delay))).set 2 (IntKind.wrap .i64 (((F.set 1 (max (F.getD 1 default) ((((p.variables.getD A.toNat default).choices).getD (choices.getD A.toNat default).toNat default).delay))).getD 2 default)+(IntKind.wrap .i64 (((((p.variables.getD A.toNat default).choices).getD (choices.getD A.toNat default).toNat default).cost)*(((p.variables.getD A.toNat default).leaves).length:Int)))))).length:Int))<|
  ck ((0:Int)≤3∧3<(((F.set 1 (max (F.getD 1 default) ((((p.variables.getD A.toNat default).choices).getD (choices.getD A.toNat default).toNat default).delay))).set 2 (IntKind.wrap .i64 (((F.set 1 (max (F.getD 1 default) ((((p.variables.getD A.toNat default).choices).getD (choices.getD A.toNat default).toNat default).delay))).getD 2 default)+(IntKind.wrap .i64 (((((p.variables.getD A.toNat default).choices).getD (choices.getD A.toNat default).toNat default).cost)*(((p.variables.getD A.toNat default).leaves).length:Int)))))).length:Int))<|
  G (((F.set 1 (max (F.getD 1 default) ((((p.variables.getD A.toNat default).choices).getD (choices.getD A.toNat default).toNat default).delay))).set 2 (IntKind.wrap .i64 (((F.set 1 (max (F.getD 1 default) ((((p.variables.getD A.toNat default).choices).getD (choices.getD A.toNat default).toNat default).delay))).getD 2 default)+(IntKind.wrap .i64 (((((p.variables.getD A.toNat default).choices).getD (choices.getD A.toNat default).toNat default).cost)*(((p.variables.getD A.toNat default).leaves).length:Int)))))).set 3 (IntKind.wrap .i64 ((((F.set 1 (max (F.getD 1 default) ((((p.variables.getD A.toNat default).choices).getD (choices.getD A.toNat default).toNat default).delay))).set 2 (IntKind.wrap .i64 (((F.set 1 (max (F.getD 1 default) ((((p.variables.getD A.toNat default).choices).getD (choices.getD A.toNat default).toNat default).delay))).getD 2 default)+(IntKind.wrap .i64 (((((p.variables.getD A.toNat default).choices).getD (choices.getD A.toNat default).toNat default).cost)*(((p.variables.getD A.toNat default).leaves).length:Int)))))).getD 3 default)+(IntKind.wrap .i64 (((((p.variables.getD A.toNat default).choices).getD (choices.getD A.toNat default).toNat default).changes)*(((p.variables.getD A.toNat default).leaves).length:Int)))))) (IntKind.wrap .i64 (A+1))
 else
  some (F,0)

def E2 (p:A9) (choices:List Int):Option ((List Int) × Int):=
 (CH p).bind fun A=>
 bif (decide (A≠0)) then
  some (([]:List Int),A)
 else
  jn (fun(J:Bool)=>
   bif J then
    some (([]:List Int),270)
   else
    (DY p choices).bind fun F=>
    B8 (CE p choices) (((choices.length:Int) - 0).toNat+1) [F,0,0,0] 0)
  (fun I=>
   (Ev p choices).bind fun G=>
   bif (!G) then
    I true
   else
    I (decide ((choices.length:Int)≠(p.variables.length:Int))))

theorem IV {w:World} {O:List Nat} {p:A9} {choices:List Int} {Aa:Option Addr} {Ca:Nat} {Ab:Option Addr} {Cb:Nat} {Ac:Option Addr} {Cc:Nat} {Ad:Option Addr} {Cd:Nat} (hO:∀k∈O,k<w.heap.size) (Fa:CA B2 w O Aa Ca p.cells) (Fb:CA (BE (AM .i64)) w O Ab Cb p.capacity) (Fc:CA AT w O Ac Cc p.variables) (Fd:CA (AM .i64) w O Ad Cd choices) {x:(List Int) × Int} (J:E2 p choices=some x):
 Ok Try.prog 79 [Value.agg (C0 p Aa Ca Ab Cb Ac Cc).toArray,Sl Ad choices Cd] w O (Kr (vC (BE (AM .i64))) (vI .i64)) x:=by
 unfold E2 at J
 refine Bt (n:=86) (xs:=[.tmp 4,.tmp 5]) Try.func79 Av Try.ntmps79 Try.results79 Av ?_
 have hs:=St.start hO
 refine Ax<|Aw<|AA<|BV (cs:=(C0 p Aa Ca Ab Cb Ac Cc)) hs Av Av ?_
 intro b1 w2 _ p3 bO
 refine Bn (Value.slice none 0 0) Av<|Bn (Iv 0) Av<|Ay<|Ax<|Aw<|AA<|Bz 0 Bw bO Av Av Av ?_
 obtain⟨N,dR,J⟩:=bd J
 replace Fb:=Fb.step p3;replace Fa:=Fa.step p3;replace Fc:=Fc.step p3
 refine AA<|Bj bO Try.call31 (FD (p:=p) bO.ltw Fa Fb Fc dR) Av ?_
 rintro v7 w8 aS Z dS
 clear bO
 obtain⟨rfl,Ra⟩:=dS
 refine Bn (Iv N) Av<|Ay<|Ax<|Ax<|Aw<|Be (Iv N) Av<|AA<|FB Av Av<|Ay<|AF J Av (fun cM J=>?_) (fun cM J=>?_)
 refine Ax ?_
 obtain⟨cN,gG⟩:=Z.sub (bs':=[]) (.cons _ List.Sublist.slnil)
 clear Fa Fb Fc Fd
 clear Z
 refine Aw<|Be (Iv N) Av<|Bn (Value.slice none 0 0) Av<|Bn (Iv N) Av<|Ay<|AY<|⟨_,En,[Value.slice none 0 0,Iv N],⟨Av,Av,trivial⟩,cN.ext,?_⟩
 exact Vr.eq (a:=Kr (vC (BE (AM .i64))) (vI .i64)) (x:=(([]:List Int),N)) (Kh (Ke (B5 CA.nil_)) ⟨Av,Ra⟩) (oi J)
 refine AH<|Ax<|Wr [] [(1,Sl Ad choices Cd),(2,Pt b1 0)] fun eO=>?_
 obtain⟨dT,cO,J⟩:=Dp J
 refine D8 Xc (fun fr w'=>∃(b5:Bool) (aF:Bi),aF=[(some b1,Oc (C0 p Aa Ca Ab Cb Ac Cc) 26)]∧fr [] [(27,Bo b5)]∧Z.S (ks aF O) w'∧St ⟨w,[],[]⟩ O w' aF∧dT b5=some x) ?_ ?_
 rintro eP gH ⟨b5,_,rfl,aU,aV,aB,J⟩
 replace J:=Ed cO J
 rw [aU.eq];clear aU
 refine AF J Av (fun cP J=>?_) (fun cP J=>?_)
 refine Ax ?_
 obtain⟨cQ,gI⟩:=aB.sub (bs':=[]) (.cons _ List.Sublist.slnil)
 clear Fa Fb Fc Fd
 clear aB
 refine Aw<|Bn (Value.slice none 0 0) Av<|Bn (Iv 270) Av<|Ay<|AY<|⟨_,En,[Value.slice none 0 0,Iv 270],⟨Av,Av,trivial⟩,cQ.ext,?_⟩
 exact Vr.eq (a:=Kr (vC (BE (AM .i64))) (vI .i64)) (x:=(([]:List Int),270)) (Kh (Ke (B5 CA.nil_)) ⟨Av,(show BR .i64 270 from by decide)⟩) (oi J)
 refine AH<|Ax<|Aw<|AA<|Bz 0 Bw aB Av Av Av<|Be (Sl Ad choices Cd) Av ?_
 obtain⟨G,cR,J⟩:=bd J
 replace Fd:=Fd.step (p3.trans (aS.trans aV))
 have b6:=(aS.trans aV)
 replace Fb:=Fb.step b6;replace Fa:=Fa.step b6;replace Fc:=Fc.step b6
 refine AA<|Bj aB Try.call88 (I4 (p:=p) (b:=choices) aB.ltw Fa Fb Fc Fd cR) Av ?_
 rintro gJ gK dU bT dV
 clear aB
 obtain⟨rfl,Rb⟩:=dV
 refine AA<|Bf (cs:=[Iv G,Iv 0,Iv 0,Iv 0]) (parts:=[(0,.tmp 30),(1,.const (.int .i64 0)),(2,.const (.int .i64 0)),(3,.const (.int .i64 0))]) Bp BD bT (by decide) Av ?_
 intro aH dW eQ dX bU
 clear bT
 have cS:=Gs.of_cells (p:=(AM .i64)) (e:=3) (bl:=aH) (c:=4) (w:=dW) (O:=ks [(some aH,Oc [Iv G,Iv 0,Iv 0,Iv 0] 3),(some b1,Oc (C0 p Aa Ca Ab Cb Ac Cc) 26)] O) (show Ej (AM .i64) _ _ [Iv G,Iv 0,Iv 0,Iv 0] [G,0,0,0] from⟨_,_,Av,AW Rb,⟨_,_,Av,AW EG,⟨_,_,Av,AW EG,⟨_,_,Av,AW EG,Ej.nil⟩⟩⟩⟩) Av (BG Av)
 refine Bn (Sl (some ⟨aH,0,none⟩) [G,0,0,0] 4) Av<|Ay<|Ax<|Ax<|Aw<|Bn (Iv 0) Av<|Ay<|AE<|Wr [] [(1,Sl Ad choices Cd),(2,Pt b1 0),(7,Sl (some ⟨aH,0,none⟩) [G,0,0,0] 4),(8,Iv 0)] fun cT=>Bh UA (fun m fr w'=>∃(F:List Int) (A:Int) (Ae:Option Addr) (Ce:Nat) (aC:Option Nat) (aD:Obj) (aF:Bi),aF=[(aC,aD),(some b1,Oc (C0 p Aa Ca Ab Cb Ac Cc) 26)]∧fr [] [(7,Sl Ae F Ce),(8,Iv A)]∧bU.S (ks aF O) w'∧St ⟨w,[],[]⟩ O w' aF∧Gs (AM .i64) 3 w' (ks aF O) Ae Ce F aC aD∧BR .i64 A∧B8 (CE p choices) m F A=some x) (((choices.length:Int) - 0).toNat+1) ⟨[G,0,0,0],0,some ⟨aH,0,none⟩,4,some aH,Obj.cells [Iv G,Iv 0,Iv 0,Iv 0].toArray 3,_,Av,BB.of ⟨Av,Av,trivial⟩,AB.refl _ _,bU,cS,EG,J⟩ ?_ ?_
 rintro _ _ ⟨_,_,_,_,_,_,_,_,_,_,_,_,_,J⟩;exact D9 J
 rintro gL gM cU eR gN ⟨F,A,Ae,Ce,aC,aD,_,rfl,aW,aX,aG,Fe,Rc,J⟩
 obtain⟨eS,b7,J⟩:=DA J;unfold CE at J
 rw [aW.eq];clear aW
 have aY:=aX
 refine Ax<|Ax ?_
 clear cS
 refine Aw<|Be (Iv A) Av<|Be (Sl Ad choices Cd) Av<|AA<|Bd Try.underlying31 Av ?_
 have cV:=(dU.trans (dX.trans aX))
 replace Fd:=Fd.step cV
 have eT:=Bb Fd
 refine AA<|Bu Av Av<|Ay<|AF J Av (fun cW J=>?_) (fun cW J=>?_)
 refine AH<|Ax<|AE<|Ax<|B9 (g0:=[]) (m:=13) (fl:=[]) (Dc aG) Av (.inl Av) Av (by decide+kernel) ?_  -- 10
 refine Ba (Pt b1 2) (fun _ _ _ hi I=>AP 2 Bw Av CI (I 2 Av) Av<|Gz hi)<|Ba (Sl Ac p.variables Cc) (fun _ _ _ hi I=>AQ 1 CI (AB.nx hi).1 (I 38 Av) Av Av<|Gz hi)<|Ba (Iv A) (fun _ _ _ hi I=>AD (v:=Iv A) (I 8 Av)<|Gz hi) ?_
 obtain⟨bV,J⟩:=AG J
 replace Fc:=Fc.step cV
 refine Bc (VP _ _ AT (gt p.variables A)) (VP.stab _ _) (fun eU gO g M hi I=>?_) ?_
 obtain⟨-,X,-⟩:=M
 replace Fc:=Fc.step X
 refine Az<|AC (q:=AT) CI Ex (I 39 Av) (I 40 Av) Fc Av bV.1 bV.2 ?_
 intro gP dY
 exact Bs.same hi ⟨_,Av,dY⟩
 refine Bc (VP _ _ (BE BL) ((gt p.variables A).choices)) (VP.stab _ _) (fun eV gQ g M hi I=>?_) ?_
 obtain⟨gR,dZ,d0⟩:=I 41 Av
 refine Az<|C2 Ex Av G0 (by decide) dZ Av ?_
 have d1:=d0.via.snd.snd.snd
 exact Bs.same hi ⟨_,Av,d1⟩
 refine Bc (VD _ _ (vC (BE BL)) ((gt p.variables A).choices)) (VD.stab _ _) (fun eW gS g M hi I=>?_) ?_
 obtain⟨gT,d2,d3⟩:=I 42 Av
 refine Az<|AX G0 d2 d3 Av ?_
 intro gU d4
 obtain⟨Af,Cf,rfl,Ff⟩:=BH d4
 exact Bs.same hi (show Vr.vd (vC (BE BL)) _ _ _ _ from(Ke (B5 Ff)))
 refine Ba (Sl Ad choices Cd) (fun _ _ _ hi I=>AD (v:=Sl Ad choices Cd) (I 1 Av)<|Gz hi)<|Ba (Iv A) (fun _ _ _ hi I=>AD (v:=Iv A) (I 8 Av)<|Gz hi) ?_
 obtain⟨aZ,J⟩:=AG J
 refine Bc (VP _ _ (AM .i64) (gt choices A)) (VP.stab _ _) (fun eX eY g M hi I=>?_) ?_
 obtain⟨-,X,-⟩:=M
 replace Fd:=Fd.step X
 refine Az<|AC (q:=(AM .i64)) Bp BD (I 44 Av) (I 45 Av) Fd Av aZ.1 aZ.2 ?_
 intro eZ cX
 exact Bs.same hi ⟨_,Av,cX⟩
 refine Bc (VD _ _ (vI .i64) (gt choices A)) (VD.stab _ _) (fun d5 e0 g M hi I=>?_) ?_
 obtain⟨e1,cY,cZ⟩:=I 46 Av
 refine Az<|AX BD cY cZ Av ?_
 intro e2 c0
 obtain⟨rfl,Rd⟩:=C3 c0
 exact Bs.same hi (show Vr.vd (vI .i64) _ _ _ _ from⟨Av,Rd⟩)
 obtain⟨a0,J⟩:=AG J
 refine Bc (VP _ _ BL (gt ((gt p.variables A).choices) (gt choices A))) (VP.stab _ _) (fun d6 e3 g M hi I=>?_) ?_
 have c1:Vr.vd (vC (BE BL)) _ _ _ _:=I 43 Av
 obtain⟨Ag,Cg,c2,Fg⟩:=BH c1
 have c3:Vr.vd (vI .i64) _ _ _ _:=I 47 Av
 obtain⟨c4,Re⟩:=c3
 refine Az<|AC (q:=BL) G0 Gy c2 c4 Fg Av a0.1 a0.2 ?_
 intro e4 c5
 exact Bs.same hi ⟨_,Av,c5⟩
 refine Bc (VD _ _ (vA BL) (gt ((gt p.variables A).choices) (gt choices A))) (VD.stab _ _) (fun d7 e5 g M hi I=>?_) ?_
 obtain⟨e6,c6,c7⟩:=I 48 Av
 refine Az<|BF Gy c6 c7 Av ?_
 intro d8 c8
 obtain⟨_,_,rfl,⟨rfl,Rf⟩,⟨_,_,rfl,⟨rfl,Rg⟩,⟨_,_,rfl,⟨rfl,Rh⟩,⟨Ah,Ch,rfl,Fh⟩⟩⟩⟩:=c8
 exact Bs.same hi (show Vr.vd (vA BL) _ _ _ _ from(Jn (Cz (AU (AW Rf) (AU (AW Rg) (AU (AW Rh) (B5 Fh)))))))
 refine Bc (VN 9 (Obj.cells [Iv 0,Iv 0,Iv 0,Value.slice none 0 0].toArray 58)) (VN.stab _ _) (fun d9 e7 g M hi I=>?_) ?_
 refine Az<|Bx Gy hi ?_
 intro e8 e9 b8 c9 b9;exact Bs.new hi c9 b9 b8
 refine BA fun fA fB cA cB=>?_
 obtain⟨-,bP,-⟩:=cA
 rintro _ ⟨aQ,rfl,dA⟩ fC a1
 replace a1:Vr.vd (vA BL) _ _ _ _:=a1
 obtain⟨_,rfl,⟨_,_,rfl,⟨rfl,Ri⟩,⟨_,_,rfl,⟨rfl,Rj⟩,⟨_,_,rfl,⟨rfl,Rk⟩,⟨Ai,Ci,rfl,Fi⟩⟩⟩⟩⟩:=a1
 rintro _ ⟨fD,rfl,a2⟩ fE a3
 replace a3:Vr.vd (vI .i64) _ _ _ _:=a3
 obtain⟨rfl,Rl⟩:=a3
 rintro _ ⟨fF,rfl,a4⟩ _ rfl _ rfl fG a5
 replace a5:Vr.vd (vC (BE BL)) _ _ _ _:=a5
 obtain⟨Aj,Cj,rfl,Fj⟩:=BH a5
 rintro _ ⟨fH,rfl,a6⟩ _ ⟨fI,rfl,a7⟩ _ rfl _ rfl _ rfl
 obtain⟨aI,aA⟩:=AB.nx1 cB dA
 have dB:=aG.to aI (bP.trans aA)
 replace Fi:=Fi.step aA;replace a2:=a2.step aA;replace a4:=a4.step aA;replace Fj:=Fj.step aA;replace a6:=a6.step aA;replace a7:=a7.step aA;clear aG
 refine Bk<|Cx .z Gy aI Av Av Av Av Av ?_
 intro fJ dC aE
 clear aI
 refine Ay<|Ax ?_
 clear a2 a4 Fj a6 a7
 refine Aw<|AA<|AP 2 Bw Av CI Av Av<|AA<|AQ 2 CI aE Av Av Av<|Be (Iv A) Av ?_
 obtain⟨a8,J⟩:=AG J
 have a9:=(dB.trans dC)
 replace Fc:=Fc.step a9
 refine AA<|AC (q:=AT) CI Ex Av Av Fc Av a8.1 a8.2 ?_
 intro fK bW
 refine AA<|C2 Ex Av Bp (by decide) Av Av ?_
 have bX:=bW.via.snd.snd.fst
 refine AA<|AX Bp Av bX Av ?_
 intro fL dD
 obtain⟨Ak,Ck,rfl,Fk⟩:=BH dD
 refine AA<|Bd Try.underlying31 Av ?_
 have eA:=Bb Fk
 refine Bn (Iv (((gt p.variables A).leaves).length:Int)) Av<|Ay<|Ax ?_
 clear bW bX Fk
 refine Ip UA [] (CK ⟨cT,[]⟩ [(1,Sl Ad choices Cd),(2,Pt b1 0),(7,Sl (some ⟨aH,0,none⟩) [G,0,0,0] 4),(8,Iv 0)]) [(7,Sl Ae F Ce),(8,Iv A),(9,Pt aQ 0),(10,Iv (((gt p.variables A).leaves).length:Int))] fun eB=>B9 (g0:=[]) (m:=6) (fl:=[0]) (Dc aE) Av (.inl Av) Av (by decide+kernel) ?_  -- 12
 refine Ba (Sl Ae F Ce) (fun _ _ _ hi I=>AD (v:=Sl Ae F Ce) (I 7 Av)<|Gz hi)<|Ba (Sl Ae F Ce) (fun _ _ _ hi I=>AD (v:=Sl Ae F Ce) (I 7 Av)<|Gz hi) ?_
 obtain⟨bA,J⟩:=AG J
 replace Fe:=Fe.step a9
 obtain⟨Q,rfl,rfl⟩:=Fe.at_ (by omega)
 refine Do (Value.pointer (some ⟨Q,1*1,none⟩)) (fun eC fM g M hi I=>?_) ?_
 obtain⟨-,X,-⟩:=M
 replace Fe:=Fe.step X
 refine Az<|B7 Bp BD (I 58 Av) Av Fe bA ?_
 rintro _ ⟨⟩ -
 exact Gz hi
 refine Bc (VD _ _ (vI .i64) (F.getD 1 default)) (VD.stab _ _) (fun eD fN g M hi I=>?_) ?_
 obtain⟨-,X,-⟩:=M
 replace Fe:=Fe.step X
 have bB:=(AB.nx hi).1
 refine Az<|Gr (m:=1) (i:=1) BD Av bB Av (I 59 Av) Fe bA ?_
 intro fO dE
 obtain⟨rfl,Rm⟩:=C3 dE
 exact Bs.same hi (show Vr.vd (vI .i64) _ _ _ _ from⟨Av,Rm⟩)
 refine Ba (Pt aQ 0) (fun _ _ _ hi I=>AP 0 Gy Av BD (I 9 Av) Av<|Gz hi)<|Ba (Iv ((gt ((gt p.variables A).choices) (gt choices A)).delay)) (fun _ _ _ hi I=>AQ 0 BD (AB.nx hi).1 (I 61 Av) Av Av<|Gz hi)<|BA fun fP fQ cC cD=>?_
 obtain⟨-,bQ,-⟩:=cC
 obtain⟨aJ,dF⟩:=AB.nx cD
 rintro _ rfl _ rfl fR bC
 replace bC:Vr.vd (vI .i64) _ _ _ _:=bC
 obtain⟨rfl,Rn⟩:=bC
 rintro _ rfl _ rfl _ rfl
 have bY:=aE.to aJ (bQ.trans dF)
 clear aE
 refine AA<|Ql Av Av ?_
 obtain⟨bD,J⟩:=AG J
 replace Fe:=Fe.step bY
 refine AA<|B7 Bp BD Av Av Fe bD ?_
 rintro _ ⟨⟩ -
 refine Bk<|Hf (vs:=[Iv (max (F.getD 1 default) ((gt ((gt p.variables A).choices) (gt choices A)).delay))]) (i:=1) (m:=1) BD Av aJ Av Av Av Av Fe bD (AW (TD Rn Ri)) ?_
 intro fS fT dG aK U
 clear aJ
 refine Ay<|Ax<|B9 (g0:=[]) (m:=8) (fl:=[0]) (Dc aK) Av (.inl Av) Av (by decide+kernel) ?_  -- 13
 refine Do (Sl (some ⟨Q,0,none⟩) (F.set 1 (max (F.getD 1 default) ((gt ((gt p.variables A).choices) (gt choices A)).delay))) Ce) (fun eE fU g M hi I=>?_) ?_
 refine Az (AD (v:=Sl (some ⟨Q,0,none⟩) (F.set 1 (max (F.getD 1 default) ((gt ((gt p.variables A).choices) (gt choices A)).delay))) Ce) (IH (I 7 Av) (show F.length=(F.set 1 (max (F.getD 1 default) ((gt ((gt p.variables A).choices) (gt choices A)).delay))).length from by first |(simp;done) |(simp;omega))) ?_)
 exact Gz hi
 refine Do (Sl (some ⟨Q,0,none⟩) (F.set 1 (max (F.getD 1 default) ((gt ((gt p.variables A).choices) (gt choices A)).delay))) Ce) (fun eF fV g M hi I=>?_) ?_
 refine Az (AD (v:=Sl (some ⟨Q,0,none⟩) (F.set 1 (max (F.getD 1 default) ((gt ((gt p.variables A).choices) (gt choices A)).delay))) Ce) (IH (I 7 Av) (show F.length=(F.set 1 (max (F.getD 1 default) ((gt ((gt p.variables A).choices) (gt choices A)).delay))).length from by first |(simp;done) |(simp;omega))) ?_)
 exact Gz hi
 obtain⟨bE,J⟩:=AG J
 refine Do (Value.pointer (some ⟨Q,2*1,none⟩)) (fun eG fW g M hi I=>?_) ?_
 obtain⟨-,X,-⟩:=M
 replace U:=U.step X
 refine Az<|B7 Bp BD (I 66 Av) Av U bE ?_
 rintro _ ⟨⟩ -
 exact Gz hi
 refine Bc (VD _ _ (vI .i64) ((F.set 1 (max (F.getD 1 default) ((gt ((gt p.variables A).choices) (gt choices A)).delay))).getD 2 default)) (VD.stab _ _) (fun eH fX g M hi I=>?_) ?_
 obtain⟨-,X,-⟩:=M
 replace U:=U.step X
 have bB:=(AB.nx hi).1
 refine Az<|Gr (m:=2) (i:=1) BD Av bB Av (I 67 Av) U bE ?_
 intro fY dH
 obtain⟨rfl,Ro⟩:=C3 dH
 exact Bs.same hi (show Vr.vd (vI .i64) _ _ _ _ from⟨Av,Ro⟩)
 refine Ba (Pt aQ 1) (fun _ _ _ hi I=>AP 1 Gy Av BD (I 9 Av) Av<|Gz hi)<|Ba (Iv ((gt ((gt p.variables A).choices) (gt choices A)).cost)) (fun _ _ _ hi I=>AQ 0 BD (AB.nx hi).1 (I 69 Av) Av Av<|Gz hi)<|Ba (Iv (((gt p.variables A).leaves).length:Int)) (fun _ _ _ hi I=>AD (v:=Iv (((gt p.variables A).leaves).length:Int)) (I 10 Av)<|Gz hi)<|Ba (Iv (wq (((gt ((gt p.variables A).choices) (gt choices A)).cost)*(((gt p.variables A).leaves).length:Int)))) (fun _ _ _ hi I=>Jb (I 70 Av) (I 71 Av)<|Gz hi)<|BA fun fZ f0 cE cF=>?_
 obtain⟨-,bR,-⟩:=cE
 obtain⟨aL,dI⟩:=AB.nx cF
 rintro _ rfl _ rfl _ rfl _ rfl f1 bF
 replace bF:Vr.vd (vI .i64) _ _ _ _:=bF
 obtain⟨rfl,Rp⟩:=bF
 rintro _ rfl _ rfl _ rfl
 have bZ:=aK.to aL (bR.trans dI)
 clear aK
 refine AA<|Bm Av Av ?_
 obtain⟨bG,J⟩:=AG J
 replace U:=U.step bZ
 refine AA<|B7 Bp BD Av Av U bG ?_
 rintro _ ⟨⟩ -
 refine Bk<|Hf (vs:=[Iv (wq (((F.set 1 (max (F.getD 1 default) ((gt ((gt p.variables A).choices) (gt choices A)).delay))).getD 2 default)+(wq (((gt ((gt p.variables A).choices) (gt choices A)).cost)*(((gt p.variables A).leaves).length:Int)))))]) (i:=1) (m:=2) BD Av aL Av Av Av Av U bG (AW (AZ .i64 _)) ?_
 intro f2 f3 dJ aM W
 clear aL
 refine Ay<|B9 (g0:=[]) (m:=8) (fl:=[0]) (Dc aM) Av (.inl Av) Av (by decide+kernel) ?_  -- 14
 refine Do (Sl (some ⟨Q,0,none⟩) ((F.set 1 (max (F.getD 1 default) ((gt ((gt p.variables A).choices) (gt choices A)).delay))).set 2 (wq (((F.set 1 (max (F.getD 1 default) ((gt ((gt p.variables A).choices) (gt choices A)).delay))).getD 2 default)+(wq (((gt ((gt p.variables A).choices) (gt choices A)).cost)*(((gt p.variables A).leaves).length:Int)))))) Ce) (fun eI f4 g M hi I=>?_) ?_
 refine Az (AD (v:=Sl (some ⟨Q,0,none⟩) ((F.set 1 (max (F.getD 1 default) ((gt ((gt p.variables A).choices) (gt choices A)).delay))).set 2 (wq (((F.set 1 (max (F.getD 1 default) ((gt ((gt p.variables A).choices) (gt choices A)).delay))).getD 2 default)+(wq (((gt ((gt p.variables A).choices) (gt choices A)).cost)*(((gt p.variables A).leaves).length:Int)))))) Ce) (IH (I 7 Av) (show F.length=((F.set 1 (max (F.getD 1 default) ((gt ((gt p.variables A).choices) (gt choices A)).delay))).set 2 (wq (((F.set 1 (max (F.getD 1 default) ((gt ((gt p.variables A).choices) (gt choices A)).delay))).getD 2 default)+(wq (((gt ((gt p.variables A).choices) (gt choices A)).cost)*(((gt p.variables A).leaves).length:Int)))))).length from by first |(simp;done) |(simp;omega))) ?_)
 exact Gz hi
 refine Do (Sl (some ⟨Q,0,none⟩) ((F.set 1 (max (F.getD 1 default) ((gt ((gt p.variables A).choices) (gt choices A)).delay))).set 2 (wq (((F.set 1 (max (F.getD 1 default) ((gt ((gt p.variables A).choices) (gt choices A)).delay))).getD 2 default)+(wq (((gt ((gt p.variables A).choices) (gt choices A)).cost)*(((gt p.variables A).leaves).length:Int)))))) Ce) (fun eJ f5 g M hi I=>?_) ?_
 refine Az (AD (v:=Sl (some ⟨Q,0,none⟩) ((F.set 1 (max (F.getD 1 default) ((gt ((gt p.variables A).choices) (gt choices A)).delay))).set 2 (wq (((F.set 1 (max (F.getD 1 default) ((gt ((gt p.variables A).choices) (gt choices A)).delay))).getD 2 default)+(wq (((gt ((gt p.variables A).choices) (gt choices A)).cost)*(((gt p.variables A).leaves).length:Int)))))) Ce) (IH (I 7 Av) (show F.length=((F.set 1 (max (F.getD 1 default) ((gt ((gt p.variables A).choices) (gt choices A)).delay))).set 2 (wq (((F.set 1 (max (F.getD 1 default) ((gt ((gt p.variables A).choices) (gt choices A)).delay))).getD 2 default)+(wq (((gt ((gt p.variables A).choices) (gt choices A)).cost)*(((gt p.variables A).leaves).length:Int)))))).length from by first |(simp;done) |(simp;omega))) ?_)
 exact Gz hi
 obtain⟨bH,J⟩:=AG J
 refine Do (Value.pointer (some ⟨Q,3*1,none⟩)) (fun eK f6 g M hi I=>?_) ?_
 obtain⟨-,X,-⟩:=M
 replace W:=W.step X
 refine Az<|B7 Bp BD (I 76 Av) Av W bH ?_
 rintro _ ⟨⟩ -
 exact Gz hi
 refine Bc (VD _ _ (vI .i64) (((F.set 1 (max (F.getD 1 default) ((gt ((gt p.variables A).choices) (gt choices A)).delay))).set 2 (wq (((F.set 1 (max (F.getD 1 default) ((gt ((gt p.variables A).choices) (gt choices A)).delay))).getD 2 default)+(wq (((gt ((gt p.variables A).choices) (gt choices A)).cost)*(((gt p.variables A).leaves).length:Int)))))).getD 3 default)) (VD.stab _ _) (fun eL f7 g M hi I=>?_) ?_
 obtain⟨-,X,-⟩:=M
 replace W:=W.step X
 have bB:=(AB.nx hi).1
 refine Az<|Gr (m:=3) (i:=1) BD Av bB Av (I 77 Av) W bH ?_
 intro f8 dK
 obtain⟨rfl,Rq⟩:=C3 dK
 exact Bs.same hi (show Vr.vd (vI .i64) _ _ _ _ from⟨Av,Rq⟩)
 refine Ba (Pt aQ 2) (fun _ _ _ hi I=>AP 2 Gy Av BD (I 9 Av) Av<|Gz hi)<|Ba (Iv ((gt ((gt p.variables A).choices) (gt choices A)).changes)) (fun _ _ _ hi I=>AQ 0 BD (AB.nx hi).1 (I 79 Av) Av Av<|Gz hi)<|Ba (Iv (((gt p.variables A).leaves).length:Int)) (fun _ _ _ hi I=>AD (v:=Iv (((gt p.variables A).leaves).length:Int)) (I 10 Av)<|Gz hi)<|Ba (Iv (wq (((gt ((gt p.variables A).choices) (gt choices A)).changes)*(((gt p.variables A).leaves).length:Int)))) (fun _ _ _ hi I=>Jb (I 80 Av) (I 81 Av)<|Gz hi)<|BA fun f9 gA cG cH=>?_
 obtain⟨-,bS,-⟩:=cG
 obtain⟨aN,dL⟩:=AB.nx cH
 rintro _ rfl _ rfl _ rfl _ rfl gB bI
 replace bI:Vr.vd (vI .i64) _ _ _ _:=bI
 obtain⟨rfl,Rr⟩:=bI
 rintro _ rfl _ rfl _ rfl
 have b0:=aM.to aN (bS.trans dL)
 clear aM
 refine AA<|Bm Av Av ?_
 obtain⟨bJ,J⟩:=AG J
 replace W:=W.step b0
 refine AA<|B7 Bp BD Av Av W bJ ?_
 rintro _ ⟨⟩ -
 refine Bk<|Hf (vs:=[Iv (wq ((((F.set 1 (max (F.getD 1 default) ((gt ((gt p.variables A).choices) (gt choices A)).delay))).set 2 (wq (((F.set 1 (max (F.getD 1 default) ((gt ((gt p.variables A).choices) (gt choices A)).delay))).getD 2 default)+(wq (((gt ((gt p.variables A).choices) (gt choices A)).cost)*(((gt p.variables A).leaves).length:Int)))))).getD 3 default)+(wq (((gt ((gt p.variables A).choices) (gt choices A)).changes)*(((gt p.variables A).leaves).length:Int)))))]) (i:=1) (m:=3) BD Av aN Av Av Av Av W bJ (AW (AZ .i64 _)) ?_
 intro gC dM dN aO bK
 clear aN
 refine Ay<|Aw<|Be (Iv A) Av<|AA<|Bm Av Av<|Bn (Iv (wq (A+1))) Av<|Ay ?_
 have cI:=aO.drop 0
 have b2:=(aO.dropS 0)
 clear aO
 have dO:=(a9.trans (bY.trans (dG.trans (bZ.trans (dJ.trans (b0.trans (dN.trans b2)))))))
 replace aY:=aY.trans dO;replace bK:=bK.step b2
 exact cU _ _ ⟨((F.set 1 (max (F.getD 1 default) ((gt ((gt p.variables A).choices) (gt choices A)).delay))).set 2 (wq (((F.set 1 (max (F.getD 1 default) ((gt ((gt p.variables A).choices) (gt choices A)).delay))).getD 2 default)+(wq (((gt ((gt p.variables A).choices) (gt choices A)).cost)*(((gt p.variables A).leaves).length:Int)))))).set 3 (wq ((((F.set 1 (max (F.getD 1 default) ((gt ((gt p.variables A).choices) (gt choices A)).delay))).set 2 (wq (((F.set 1 (max (F.getD 1 default) ((gt ((gt p.variables A).choices) (gt choices A)).delay))).getD 2 default)+(wq (((gt ((gt p.variables A).choices) (gt choices A)).cost)*(((gt p.variables A).leaves).length:Int)))))).getD 3 default)+(wq (((gt ((gt p.variables A).choices) (gt choices A)).changes)*(((gt p.variables A).leaves).length:Int))))),(wq (A+1)),some ⟨Q,0,none⟩,Ce,some Q,dM,_,Av,BB.of ⟨MP (show F.length=(((F.set 1 (max (F.getD 1 default) ((gt ((gt p.variables A).choices) (gt choices A)).delay))).set 2 (wq (((F.set 1 (max (F.getD 1 default) ((gt ((gt p.variables A).choices) (gt choices A)).delay))).getD 2 default)+(wq (((gt ((gt p.variables A).choices) (gt choices A)).cost)*(((gt p.variables A).leaves).length:Int)))))).set 3 (wq ((((F.set 1 (max (F.getD 1 default) ((gt ((gt p.variables A).choices) (gt choices A)).delay))).set 2 (wq (((F.set 1 (max (F.getD 1 default) ((gt ((gt p.variables A).choices) (gt choices A)).delay))).getD 2 default)+(wq (((gt ((gt p.variables A).choices) (gt choices A)).cost)*(((gt p.variables A).leaves).length:Int)))))).getD 3 default)+(wq (((gt ((gt p.variables A).choices) (gt choices A)).changes)*(((gt p.variables A).leaves).length:Int)))))).length from by first |(simp;done) |(simp;omega)),Av,trivial⟩,aY,cI,bK,(AZ .i64 _),GD b7 J⟩
 refine Br<|Ax ?_
 obtain⟨bL,dP⟩:=aG.sub (bs':=[(aC,aD)]) (.cons_cons _ (.cons _ List.Sublist.slnil))
 clear Fa Fb Fc Fd
 clear aG
 refine Aw<|Be (Sl Ae F Ce) Av<|Bn (Sl Ae F Ce) Av<|Bn (Iv 0) Av<|Ay<|AY ?_
 replace Fe:=Fe.step dP
 obtain⟨bM,gD,bN⟩:=Gs.publish (i:=0) bL Av Fe
 clear bL
 have hz:=Gp bM
 refine⟨_,En,[Sl Ae F Ce,Iv 0],⟨Av,Av,trivial⟩,bM.ext,?_⟩
 replace bN:=bN.step hz
 exact Vr.eq (a:=Kr (vC (BE (AM .i64))) (vI .i64)) (x:=(F,0)) (Kh (Ke (B5 bN)) ⟨Av,EG⟩) (oi J)
 intro gV b3
 have Y:=Z.stepR
 refine Aw<|AA<|Bz 0 Bw Z Av Av Av<|Be (Sl Ad choices Cd) Av ?_
 obtain⟨aT,cJ,J⟩:=bd J
 replace Fd:=Fd.step (p3.trans aS);replace Fb:=Fb.step aS;replace Fa:=Fa.step aS;replace Fc:=Fc.step aS
 refine AA<|Bj Z Try.call87 (IN (p:=p) (b:=choices) Z.ltw Fa Fb Fc Fd cJ) Av ?_
 rintro gE gF aR aP dQ
 obtain rfl:=dQ
 refine AA<|Es Av<|Be (Bo (!aT)) Av<|B4 J (fun cK J=>?_) (fun cK J=>?_)
 iterate 6 refine AI Av (AJ Av Av) Av ?_
 refine FR (Bo true) Av Av<|Ay ?_
 replace Y:=Y.trans aR
 exact b3 _ _ ⟨true,_,Av,BB.of ⟨Av,trivial⟩,Y,aP,J⟩
 refine BN Av Av<|AD (v:=Sl Ad choices Cd) Av<|BN Av Av<|Bd Try.underlying31 Av ?_
 replace Fd:=Fd.step aR
 have eM:=Bb Fd
 refine BN Av Av<|AP 2 Bw Av CI Av Av<|BN Av Av<|AQ 0 CI aP Av Av Av<|BN Av Av<|Bd Try.underlying24 Av ?_
 replace Fc:=Fc.step aR
 have eN:=Bb Fc
 refine BN Av Av<|FB Av Av<|FF (Bo (decide ((choices.length:Int)≠(p.variables.length:Int)))) Av Av<|Ay ?_
 replace Y:=Y.trans aR
 exact b3 _ _ ⟨decide ((choices.length:Int)≠(p.variables.length:Int)),_,Av,BB.of ⟨Av,trivial⟩,Y,aP,J⟩

abbrev Xd:List Nat:=[8,11,33,34,35,36,37,38,39,40,41,42,43,44,45,46,47,48,49,50,51,52,53,54,55,56,57]

abbrev UB:List Nat:=[8,9,10,11,22,23,24,25,26,27,28,29,30,31,32,33,34,35,36,37,38,39,40,41,42,43,44,45,46,47,48,49,50,51,52,53,54,55,56,57]

def C7 (p:A9) (A:Int) (M:(List A8)→Int→Option ((List A8) × Int)) (F:(List Int)) (J:(List A8)→Int→Option ((List A8) × Int)) (I:List A8) (G:Int):Option ((List A8) × Int):=
 bif (decide (G<(F.length:Int))) then
  ck ((0:Int)≤G∧G<(F.length:Int))<|
  ck ((0:Int)≤A∧A<(p.capacity.length:Int))<|
  ck ((0:Int)≤G∧G<((p.capacity.getD A.toNat default).length:Int))<|
  bif (decide (((p.capacity.getD A.toNat default).getD G.toNat default)<(F.getD G.toNat default))) then
   ck ((I.length+[(⟨A,G⟩:A8)].length)*16≤140737488355328)<|
   J (I++[(⟨A,G⟩:A8)]) (IntKind.wrap .i64 (G+1))
  else
   J I (IntKind.wrap .i64 (G+1))
 else
  M I (IntKind.wrap .i64 (A+1))

def C8 (p:A9) (choices:List Int) (G:(List A8)→Int→Option ((List A8) × Int)) (I:List A8) (F:Int):Option ((List A8) × Int):=
 bif (decide (F<(p.capacity.length:Int))) then
  (DH p choices F).bind fun A=>
  B8 (C7 p F G A) (((A.length:Int) - 0).toNat+1) I 0
 else
  some (I,0)

def Dn (p:A9) (choices:List Int):Option ((List A8) × Int):=
 (E2 p choices).bind fun A=>
 bif (decide (A.2≠0)) then
  some (([]:List A8),A.2)
 else
  B8 (C8 p choices) (((p.capacity.length:Int) - 0).toNat+1) [] 0

theorem GC {w:World} {O:List Nat} {p:A9} {choices:List Int} {Aa:Option Addr} {Ca:Nat} {Ab:Option Addr} {Cb:Nat} {Ac:Option Addr} {Cc:Nat} {Ad:Option Addr} {Cd:Nat} (hO:∀k∈O,k<w.heap.size) (Fa:CA B2 w O Aa Ca p.cells) (Fb:CA (BE (AM .i64)) w O Ab Cb p.capacity) (Fc:CA AT w O Ac Cc p.variables) (Fd:CA (AM .i64) w O Ad Cd choices) {x:(List A8) × Int} (J:Dn p choices=some x):
 Ok Try.prog 57 [Value.agg (C0 p Aa Ca Ab Cb Ac Cc).toArray,Sl Ad choices Cd] w O (Kr (vC (BE AO)) (vI .i64)) x:=by
 unfold Dn at J
 refine Bt (n:=59) (xs:=[.tmp 4,.tmp 5]) Try.func57 Av Try.ntmps57 Try.results57 Av ?_
 have hs:=St.start hO
 refine Ax<|Aw<|AA<|BV (cs:=(C0 p Aa Ca Ab Cb Ac Cc)) hs Av Av ?_
 intro b1 w2 _ p3 a7
 refine Bn (Value.slice none 0 0) Av<|Bn (Iv 0) Av<|Ay<|Ax<|Aw<|AA<|Bz 0 Bw a7 Av Av Av<|Be (Sl Ad choices Cd) Av ?_
 obtain⟨F,cN,J⟩:=bd J
 replace Fd:=Fd.step p3;replace Fb:=Fb.step p3;replace Fa:=Fa.step p3;replace Fc:=Fc.step p3
 refine AA<|Bj a7 Try.call79 (IV (p:=p) (choices:=choices) a7.ltw Fa Fb Fc Fd cN) Av ?_
 rintro v7 w8 cO aK cP
 clear a7
 obtain⟨dX,dY,rfl,cQ,cR⟩:=cP
 obtain⟨Ae,Ce,rfl,Fe⟩:=BH cQ
 obtain⟨rfl,Ra⟩:=cR
 refine Be (Value.tuple [Sl Ae F.1 Ce,Iv F.2].toArray) Av<|AA<|Bg (v:=Sl Ae F.1 Ce) Av Av<|AA<|Bg (v:=Iv F.2) Av Av<|Bn (Sl Ae F.1 Ce) Av<|Bn (Iv F.2) Av<|Ay<|Ax<|Ax ?_
 clear Fe
 refine Aw<|Be (Iv F.2) Av<|AA<|FB Av Av<|Ay<|AF J Av (fun bS J=>?_) (fun bS J=>?_)
 refine Ax ?_
 obtain⟨bT,dZ⟩:=aK.sub (bs':=[]) (.cons _ List.Sublist.slnil)
 clear Fa Fb Fc Fd
 clear aK
 refine Aw<|Be (Iv F.2) Av<|Bn (Value.slice none 0 0) Av<|Bn (Iv F.2) Av<|Ay<|AY<|⟨_,En,[Value.slice none 0 0,Iv F.2],⟨Av,Av,trivial⟩,bT.ext,?_⟩
 exact Vr.eq (a:=Kr (vC (BE AO)) (vI .i64)) (x:=(([]:List A8),F.2)) (Kh (Ke (B5 CA.nil_)) ⟨Av,Ra⟩) (oi J)
 refine AH<|Ax<|Aw<|AA<|Bf (cs:=[]) (parts:=[]) Ep BW aK (by decide) Av ?_
 intro aH cS c3 cT bA
 clear aK
 refine Bn (Value.slice (some ⟨aH,0,none⟩) 0 0) Av<|Ay<|Ax<|Ax<|Aw<|Bn (Iv 0) Av<|Ay<|AE<|Wr [] [(1,Sl Ad choices Cd),(2,Pt b1 0),(8,Value.slice (some ⟨aH,0,none⟩) 0 0),(9,Iv 0)] fun bU=>?_
 have bV:=Gs.of_cells (p:=AO) (e:=45) (bl:=aH) (c:=0) (w:=cS) (O:=ks [(some aH,Oc [] 45),(some b1,Oc (C0 p Aa Ca Ab Cb Ac Cc) 26)] O) (show Ej AO _ _ [] [] from Ej.nil) Av (BG Av)
 refine Bh UB (fun m fr w'=>∃(Z:List A8) (A:Int) (Af:Option Addr) (Cf:Nat) (Q:Option Nat) (U:Obj) (aD:Bi),aD=[(Q,U),(some b1,Oc (C0 p Aa Ca Ab Cb Ac Cc) 26)]∧fr [] [(8,Sl Af Z Cf),(9,Iv A)]∧bA.S (ks aD O) w'∧St ⟨w,[],[]⟩ O w' aD∧Gs AO 45 w' (ks aD O) Af Cf Z Q U∧BR .i64 A∧B8 (C8 p choices) m Z A=some x) (((p.capacity.length:Int) - 0).toNat+1) ⟨[],0,some ⟨aH,0,none⟩,0,some aH,Obj.cells [].toArray 45,_,Av,BB.of ⟨Av,Av,trivial⟩,AB.refl _ _,bA,bV,EG,J⟩ ?_ ?_
 rintro _ _ ⟨_,_,_,_,_,_,_,_,_,_,_,_,_,J⟩;exact D9 J
 rintro d0 d1 bW c4 d2 ⟨Z,A,Af,Cf,Q,U,_,rfl,aO,aP,W,Ff,Rb,J⟩
 obtain⟨bX,bJ,J⟩:=DA J;unfold C8 at J
 rw [aO.eq];clear aO
 have aQ:=aP
 refine Ax<|Ax ?_
 clear bV
 refine Aw<|Be (Iv A) Av<|AA<|AP 1 Bw Av CB Av Av<|AA<|AQ 1 CB W Av Av Av<|AA<|Bd Try.underlying23 Av ?_
 have a8:=(cO.trans (cT.trans aP))
 replace Fb:=Fb.step a8
 have c5:=Bb Fb
 refine AA<|Bu Av Av<|Ay<|AF J Av (fun bY J=>?_) (fun bY J=>?_)
 refine AH<|Ax<|AE<|Ax<|Aw<|AA<|Bz 1 Bw W Av Av Av<|Be (Sl Ad choices Cd) Av<|Be (Iv A) Av ?_
 obtain⟨G,bZ,J⟩:=bd J
 replace Fd:=Fd.step a8;replace Fa:=Fa.step a8;replace Fc:=Fc.step a8
 refine AA<|FT Try.call80 (GY (p:=p) (b:=choices) (leaf:=A) W.ltw Fa Fb Fc Fd Rb bZ) Av ?_
 rintro _ d3 ⟨b0,aR,aS,cU,bK,rfl,b2,N⟩
 obtain⟨bB,bL⟩:=W.callG (o:=bK) b0 b2
 rw [← Jd (o:=bK)] at N
 clear W
 refine Bn (Sl aR G aS) Av<|Ay<|Ax<|Aw<|Bn (Iv 0) Av<|Ay<|AE<|Ip UB [] (CK ⟨bU,[]⟩ [(1,Sl Ad choices Cd),(2,Pt b1 0),(8,Value.slice (some ⟨aH,0,none⟩) 0 0),(9,Iv 0)]) [(8,Sl Af Z Cf),(9,Iv A),(10,Sl aR G aS),(11,Iv 0)] fun c6=>?_
 replace Ff:=Ff.step bL
 refine Bh Xd (fun m fr w'=>∃(aA:List A8) (I:Int) (Ag:Option Addr) (Cg:Nat) (X:Option Nat) (Y:Obj) (aD:Bi),aD=[(cU,bK),(X,Y),(some b1,Oc (C0 p Aa Ca Ab Cb Ac Cc) 26)]∧fr [] [(8,Sl Ag aA Cg),(11,Iv I)]∧bB.S (ks aD O) w'∧St ⟨w,[],[]⟩ O w' aD∧Gs AO 45 w' (ks aD O) Ag Cg aA X Y∧BR .i64 I∧B8 (C7 p A bX G) m aA I=some x) (((G.length:Int) - 0).toNat+1) ⟨Z,0,Af,Cf,Q,U,_,Av,BB.of ⟨Av,Av,trivial⟩,AB.refl _ _,bB,Ff,EG,J⟩ ?_ ?_
 rintro _ _ ⟨_,_,_,_,_,_,_,_,_,_,_,_,_,J⟩;exact D9 J
 rintro d4 d5 bC c7 d6 ⟨aA,I,Ag,Cg,X,Y,_,rfl,aT,aE,aB,Fg,Rc,J⟩
 obtain⟨c8,aU,J⟩:=DA J;unfold C7 at J
 rw [aT.eq];clear aT
 have aC:=aE
 refine Ax<|Ax ?_
 clear Ff
 refine Aw<|Be (Iv I) Av<|Be (Sl aR G aS) Av<|AA<|Bd Try.underlying31 Av ?_
 replace N:=N.step aE
 have c9:=Hs N
 refine AA<|Bu Av Av<|Ay<|AF J Av (fun b3 J=>?_) (fun b3 J=>?_)
 refine AH<|Ax<|AE<|Ax<|B9 (g0:=[]) (m:=12) (fl:=[]) (Dc aB) Av (.inl Av) Av (by decide+kernel) ?_  -- 12
 refine Ba (Sl aR G aS) (fun _ _ _ hi M=>AD (v:=Sl aR G aS) (M 10 Av)<|Gz hi)<|Ba (Iv I) (fun _ _ _ hi M=>AD (v:=Iv I) (M 11 Av)<|Gz hi) ?_
 obtain⟨bD,J⟩:=AG J
 obtain⟨cV,rfl,rfl⟩:=N.at_ (by omega)
 refine Do (Value.pointer (some ⟨cV,I.toNat*1,none⟩)) (fun dA d7 g aG hi M=>?_) ?_
 obtain⟨-,aV,-⟩:=aG
 replace N:=N.step aV
 refine Az<|B7 Bp BD (M 39 Av) (M 40 Av) N bD ?_
 rintro _ ⟨⟩ -
 exact Gz hi
 refine Bc (VD _ _ (vI .i64) (gt G I)) (VD.stab _ _) (fun dB d8 g aG hi M=>?_) ?_
 obtain⟨-,aV,-⟩:=aG
 replace N:=N.step aV
 have cW:=(AB.nx hi).1
 refine Az<|Gr (m:=I) (i:=0) BD Av cW Av (M 41 Av) N bD ?_
 intro d9 cX
 obtain⟨rfl,Rd⟩:=C3 cX
 exact Bs.same hi (show Vr.vd (vI .i64) _ _ _ _ from⟨Av,Rd⟩)
 refine Ba (Pt b1 1) (fun _ _ _ hi M=>AP 1 Bw Av CB (M 2 Av) Av<|Gz hi)<|Ba (Sl Ab p.capacity Cb) (fun _ _ _ hi M=>AQ 2 CB (AB.nx hi).1 (M 43 Av) Av Av<|Gz hi)<|Ba (Iv A) (fun _ _ _ hi M=>AD (v:=Iv A) (M 9 Av)<|Gz hi) ?_
 obtain⟨aW,J⟩:=AG J
 have b4:=(bL.trans aE)
 replace Fb:=Fb.step b4
 refine Bc (VP _ _ (BE (AM .i64)) (gt p.capacity A)) (VP.stab _ _) (fun cY dC g aG hi M=>?_) ?_
 obtain⟨-,aV,-⟩:=aG
 replace Fb:=Fb.step aV
 refine Az<|AC (q:=BE (AM .i64)) CB Bp (M 44 Av) (M 45 Av) Fb Av aW.1 aW.2 ?_
 intro dD b5
 exact Bs.same hi ⟨_,Av,b5⟩
 refine Bc (VD _ _ (vC (BE (AM .i64))) (gt p.capacity A)) (VD.stab _ _) (fun cZ dE g aG hi M=>?_) ?_
 obtain⟨dF,b6,b7⟩:=M 46 Av
 refine Az<|AX Bp b6 b7 Av ?_
 intro dG b8
 obtain⟨Ah,Ch,rfl,Fh⟩:=BH b8
 exact Bs.same hi (show Vr.vd (vC (BE (AM .i64))) _ _ _ _ from(Ke (B5 Fh)))
 refine Ba (Iv I) (fun _ _ _ hi M=>AD (v:=Iv I) (M 11 Av)<|Gz hi) ?_
 obtain⟨aX,J⟩:=AG J
 refine Bc (VP _ _ (AM .i64) (gt (gt p.capacity A) I)) (VP.stab _ _) (fun c0 dH g aG hi M=>?_) ?_
 have b9:Vr.vd (vC (BE (AM .i64))) _ _ _ _:=M 47 Av
 obtain⟨Ai,Ci,cA,Fi⟩:=BH b9
 refine Az<|AC (q:=(AM .i64)) Bp BD cA (M 48 Av) Fi Av aX.1 aX.2 ?_
 intro dI cB
 exact Bs.same hi ⟨_,Av,cB⟩
 refine Bc (VD _ _ (vI .i64) (gt (gt p.capacity A) I)) (VD.stab _ _) (fun c1 dJ g aG hi M=>?_) ?_
 obtain⟨dK,cC,cD⟩:=M 49 Av
 refine Az<|AX BD cC cD Av ?_
 intro dL cE
 obtain⟨rfl,Re⟩:=C3 cE
 exact Bs.same hi (show Vr.vd (vI .i64) _ _ _ _ from⟨Av,Re⟩)
 refine BA fun dM dN bM bN=>?_
 obtain⟨-,a9,-⟩:=bM
 obtain⟨aF,aL⟩:=AB.nx bN
 rintro dO aY
 replace aY:Vr.vd (vI .i64) _ _ _ _:=aY
 obtain⟨rfl,Rf⟩:=aY
 rintro _ ⟨dP,rfl,aM⟩ _ rfl dQ aZ
 replace aZ:Vr.vd (vC (BE (AM .i64))) _ _ _ _:=aZ
 obtain⟨Aj,Cj,rfl,Fj⟩:=BH aZ
 rintro _ ⟨dR,rfl,aN⟩ _ rfl _ rfl _ rfl dS a0
 replace a0:Vr.vd (vI .i64) _ _ _ _:=a0
 obtain⟨rfl,Rg⟩:=a0
 rintro _ rfl _ rfl _ rfl
 have a1:=aB.to aF (a9.trans aL)
 replace aM:=aM.step aL;replace Fj:=Fj.step aL;replace aN:=aN.step aL;clear aB
 refine AA<|EY Av Av<|Ay<|AF J Av (fun bO J=>?_) (fun bO J=>?_)
 clear aM Fj aN
 refine Aw<|Be (Sl Ag aA Cg) Av<|Be (Iv A) Av<|Be (Iv I) Av<|AA<|Dv (vs:=[Iv A,Iv I]) (parts:=[(0,.tmp 53),(1,.tmp 54)]) BW Ve Av<|AA<|Bf (cs:=[Iv A,Iv I]) (parts:=[(0,.tmp 55)]) Ep BW aF (by decide) Av ?_
 intro dT dU c2 cF aI
 clear aF
 obtain⟨a2,J⟩:=AG J
 have bE:=(a1.trans cF)
 replace Fg:=Fg.step bE
 refine AA (DR (q:=AO) (i:=2) (xs:=aA) (ys:=[(⟨A,I⟩:A8)]) (news:=[Iv A,Iv I]) Ep BW Av (by decide) aI Av Av Fg Av (Mm.owned' (len:=2) (aI.get (i:=0) Av) Av) (show Ej AO _ _ [Iv A,Iv I] [(⟨A,I⟩:A8)] from⟨_,_,Av,Cz (AU (AW Rb) (AW Rc)),Ej.nil⟩) a2 (by have:=a2;simp only [maxLen,gt];omega) ?_)
 intro bF bG cG cH dV cI aJ a3
 clear aI
 have bP:=aJ.drop 0
 have bH:=(aJ.dropS 0)
 clear aJ
 refine Bn (Sl bF (aA++[(⟨A,I⟩:A8)]) bG) Av<|Ay<|Aw<|Be (Iv I) Av<|AA<|Bm Av Av<|Bn (Iv (wq (I+1))) Av<|Ay ?_
 have cJ:=(bE.trans (cI.trans bH))
 replace aC:=aC.trans cJ;replace a3:=a3.step bH
 exact bC _ _ ⟨aA++[(⟨A,I⟩:A8)],(wq (I+1)),bF,bG,cG,cH,_,Av,BB.of ⟨Av,Av,trivial⟩,aC,bP,a3,(AZ .i64 _),GD aU J⟩
 refine AH ?_
 clear aM Fj aN
 refine Aw<|Be (Iv I) Av<|AA<|Bm Av Av<|Bn (Iv (wq (I+1))) Av<|Ay ?_
 replace aC:=aC.trans a1;replace Fg:=Fg.step a1
 exact bC _ _ ⟨aA,(wq (I+1)),Ag,Cg,X,Y,_,Av,BB.of ⟨Av,Av,trivial⟩,aC,aF,Fg,(AZ .i64 _),GD aU J⟩
 refine Br ?_
 clear N
 refine Aw<|Be (Iv A) Av<|AA<|Bm Av Av<|Bn (Iv (wq (A+1))) Av<|Ay ?_
 have bQ:=aB.drop 0
 have bI:=(aB.dropS 0)
 clear aB
 have cK:=(bL.trans (aE.trans bI))
 replace aQ:=aQ.trans cK;replace Fg:=Fg.step bI
 exact bW _ _ ⟨aA,(wq (A+1)),Ag,Cg,X,Y,_,Av,BB.of ⟨Av,Av,trivial⟩,aQ,bQ,Fg,(AZ .i64 _),GD bJ J⟩
 refine Br<|Ax ?_
 obtain⟨a4,cL⟩:=W.sub (bs':=[(Q,U)]) (.cons_cons _ (.cons _ List.Sublist.slnil))
 clear Fa Fb Fc Fd
 clear W
 refine Aw<|Be (Sl Af Z Cf) Av<|Bn (Sl Af Z Cf) Av<|Bn (Iv 0) Av<|Ay<|AY ?_
 replace Ff:=Ff.step cL
 obtain⟨a5,dW,a6⟩:=Gs.publish (i:=0) a4 Av Ff
 clear a4
 have hz:=Gp a5
 refine⟨_,En,[Sl Af Z Cf,Iv 0],⟨Av,Av,trivial⟩,a5.ext,?_⟩
 replace a6:=a6.step hz
 exact Vr.eq (a:=Kr (vC (BE AO)) (vI .i64)) (x:=(Z,0)) (Kh (Ke (B5 a6)) ⟨Av,EG⟩) (oi J)

abbrev Xe:List Nat:=[4,5,6,7,14,15,16,17,18,19,20,21,22,23,24,25,26,27,28,29,30,31,32,33,34,35,36,37,38,39]

def D2 (p:A9) (choices:List Int) (G:(List Int)→Int→Option ((List Int) × Bool)) (F:List Int) (A:Int):Option ((List Int) × Bool):=
 bif (decide (0≤A)) then
  ck ((0:Int)≤A∧A<(F.length:Int))<|
  ck ((0:Int)≤A∧A<(F.length:Int))<|
  ck ((0:Int)≤A∧A<((F.set A.toNat (IntKind.wrap .i64 ((F.getD A.toNat default)+1))).length:Int))<|
  ck ((0:Int)≤A∧A<(p.variables.length:Int))<|
  bif (decide (((F.set A.toNat (IntKind.wrap .i64 ((F.getD A.toNat default)+1))).getD A.toNat default)<(((p.variables.getD A.toNat default).choices).length:Int))) then
   some (F.set A.toNat (IntKind.wrap .i64 ((F.getD A.toNat default)+1)),true)
  else
   ck ((0:Int)≤A∧A<((F.set A.toNat (IntKind.wrap .i64 ((F.getD A.toNat default)+1))).length:Int))<|
   G ((F.set A.toNat (IntKind.wrap .i64 ((F.getD A.toNat default)+1))).set A.toNat 0) (IntKind.wrap .i64 (A - 1))
 else
  some (F,false)

def CY (p:A9) (choices:List Int):Option ((List Int) × Bool):=
 ck ((([]:List Int).length+choices.length)*8≤140737488355328)<|
 B8 (D2 p choices) 1000000 (([]:List Int)++choices) (IntKind.wrap .i64 (((([]:List Int)++choices).length:Int) - 1))

theorem H1 {w:World} {O:List Nat} {p:A9} {choices:List Int} {Aa:Option Addr} {Ca:Nat} {Ab:Option Addr} {Cb:Nat} {Ac:Option Addr} {Cc:Nat} {Ad:Option Addr} {Cd:Nat} (hO:∀k∈O,k<w.heap.size) (Fa:CA B2 w O Aa Ca p.cells) (Fb:CA (BE (AM .i64)) w O Ab Cb p.capacity) (Fc:CA AT w O Ac Cc p.variables) (Fd:CA (AM .i64) w O Ad Cd choices) {x:(List Int) × Bool} (G:CY p choices=some x):
 Ok Try.prog 58 [Value.agg (C0 p Aa Ca Ab Cb Ac Cc).toArray,Sl Ad choices Cd] w O (Kr (vC (BE (AM .i64))) vB) x:=by
 unfold CY at G
 refine Bt (n:=41) (xs:=[.tmp 4,.tmp 5]) Try.func58 Av Try.ntmps58 Try.results58 Av ?_
 have hs:=St.start hO
 refine Ax<|Aw<|AA<|BV (cs:=(C0 p Aa Ca Ab Cb Ac Cc)) hs Av Av ?_
 intro b1 w2 _ p3 a6
 refine Bn (Value.slice none 0 0) Av<|Bn (Bo false) Av<|Ay<|Ax<|Aw<|AA<|Bf (cs:=[]) (parts:=[]) Bp BD a6 (by decide) Av ?_
 intro b6 w7 b4 p8 a7
 clear a6
 refine Be (Sl Ad choices Cd) Av ?_
 have bN:=Gs.of_cells (p:=(AM .i64)) (e:=3) (bl:=b6) (c:=0) (w:=w7) (O:=ks [(some b6,Oc [] 3),(some b1,Oc (C0 p Aa Ca Ab Cb Ac Cc) 26)] O) (show Ej (AM .i64) _ _ [] [] from Ej.nil) Av (BG Av)
 obtain⟨aU,G⟩:=AG G
 have a8:=(p3.trans p8)
 replace Fd:=Fd.step a8
 obtain⟨a9,bA,bB⟩:=Fd.src
 refine AA (DR (q:=(AM .i64)) (i:=0) (xs:=([]:List Int)) (ys:=choices) (news:=a9) Bp BD Av (by decide) a7 Av Av bN Av bB bA aU (by have:=aU;simp only [maxLen,gt];omega) ?_)
 intro aQ aR bO bP cU bQ aV a0
 clear a7
 refine Bn (Sl aQ (([]:List Int)++choices) aR) Av<|Ay<|Ax<|Ax ?_
 clear Fd
 refine Aw<|Be (Sl aQ (([]:List Int)++choices) aR) Av<|AA<|Bd Try.underlying31 Av ?_
 have b5:=Hs a0
 refine AA<|FC Av Av<|Bn (Iv (wq (((([]:List Int)++choices).length:Int) - 1))) Av<|Ay<|AE<|Wr [] [(2,Pt b1 0),(6,Sl aQ (([]:List Int)++choices) aR),(7,Iv (wq (((([]:List Int)++choices).length:Int) - 1)))] fun b7=>Bh Xe (fun m fr w'=>∃(F:List Int) (A:Int) (Ae:Option Addr) (Ce:Nat) (N:Option Nat) (Q:Obj) (aS:Bi),aS=[(N,Q),(some b1,Oc (C0 p Aa Ca Ab Cb Ac Cc) 26)]∧fr [] [(6,Sl Ae F Ce),(7,Iv A)]∧aV.S (ks aS O) w'∧St ⟨w,[],[]⟩ O w' aS∧Gs (AM .i64) 3 w' (ks aS O) Ae Ce F N Q∧BR .i64 A∧B8 (D2 p choices) m F A=some x) 1000000 ⟨([]:List Int)++choices,(wq (((([]:List Int)++choices).length:Int) - 1)),aQ,aR,bO,bP,_,Av,BB.of ⟨Av,Av,trivial⟩,AB.refl _ _,aV,a0,(AZ .i64 _),G⟩ ?_ ?_
 rintro _ _ ⟨_,_,_,_,_,_,_,_,_,_,_,_,_,G⟩;exact D9 G
 rintro cV cW bC b8 cX ⟨F,A,Ae,Ce,N,Q,_,rfl,aB,aC,X,Fe,Ra,G⟩
 obtain⟨b9,a1,G⟩:=DA G;unfold D2 at G
 rw [aB.eq];clear aB
 have aD:=aC
 refine Ax<|Ax ?_
 clear a0
 refine Aw<|Be (Iv A) Av<|AA<|Hk Av Av<|Ay<|AF G Av (fun bD G=>?_) (fun bD G=>?_)
 refine AH<|Ax<|AE<|Ax<|Aw<|Be (Sl Ae F Ce) Av<|Be (Iv A) Av ?_
 obtain⟨aW,G⟩:=AG G
 refine AA<|B7 Bp BD Av Av Fe aW ?_
 rintro U rfl rfl
 refine AA<|Gr (m:=A) (i:=0) BD Av X Av Av Fe aW ?_
 intro cY bR
 obtain⟨rfl,Rb⟩:=C3 bR
 refine AA<|Bm Av Av ?_
 obtain⟨aX,G⟩:=AG G
 refine AA<|B7 Bp BD Av Av Fe aX ?_
 rintro _ ⟨⟩ -
 refine Bk<|Hf (vs:=[Iv (wq ((gt F A)+1))]) (i:=0) (m:=A) BD Av X Av Av Av Av Fe aX (AW (AZ .i64 _)) ?_
 intro cZ c0 bE aE I
 clear X
 refine Ay<|Ax<|Ax<|B9 (g0:=[]) (m:=11) (fl:=[]) (Dc aE) Av (.inl Av) Av (by decide+kernel) ?_  -- 6
 refine Do (Sl (some ⟨U,0,none⟩) (F.set A.toNat (wq ((gt F A)+1))) Ce) (fun cA c1 g W hi J=>?_) ?_
 refine Az (AD (v:=Sl (some ⟨U,0,none⟩) (F.set A.toNat (wq ((gt F A)+1))) Ce) (IH (J 6 Av) (show F.length=(F.set A.toNat (wq ((gt F A)+1))).length from by first |(simp;done) |(simp;omega))) ?_)
 exact Gz hi
 refine Ba (Iv A) (fun _ _ _ hi J=>AD (v:=Iv A) (J 7 Av)<|Gz hi) ?_
 obtain⟨aY,G⟩:=AG G
 refine Do (Value.pointer (some ⟨U,A.toNat*1,none⟩)) (fun cB c2 g W hi J=>?_) ?_
 obtain⟨-,aF,-⟩:=W
 replace I:=I.step aF
 refine Az<|B7 Bp BD (J 24 Av) (J 25 Av) I aY ?_
 rintro _ ⟨⟩ -
 exact Gz hi
 refine Bc (VD _ _ (vI .i64) (gt (F.set A.toNat (wq ((gt F A)+1))) A)) (VD.stab _ _) (fun cC c3 g W hi J=>?_) ?_
 obtain⟨-,aF,-⟩:=W
 replace I:=I.step aF
 have bS:=(AB.nx hi).1
 refine Az<|Gr (m:=A) (i:=0) BD Av bS Av (J 26 Av) I aY ?_
 intro c4 bT
 obtain⟨rfl,Rc⟩:=C3 bT
 exact Bs.same hi (show Vr.vd (vI .i64) _ _ _ _ from⟨Av,Rc⟩)
 refine Ba (Pt b1 2) (fun _ _ _ hi J=>AP 2 Bw Av CI (J 2 Av) Av<|Gz hi)<|Ba (Sl Ac p.variables Cc) (fun _ _ _ hi J=>AQ 1 CI (AB.nx hi).1 (J 28 Av) Av Av<|Gz hi)<|Ba (Iv A) (fun _ _ _ hi J=>AD (v:=Iv A) (J 7 Av)<|Gz hi) ?_
 obtain⟨aZ,G⟩:=AG G
 have bU:=(a8.trans (bQ.trans (aC.trans bE)))
 replace Fc:=Fc.step bU
 refine Bc (VP _ _ AT (gt p.variables A)) (VP.stab _ _) (fun cD c5 g W hi J=>?_) ?_
 obtain⟨-,aF,-⟩:=W
 replace Fc:=Fc.step aF
 refine Az<|AC (q:=AT) CI Ex (J 29 Av) (J 30 Av) Fc Av aZ.1 aZ.2 ?_
 intro c6 bV
 exact Bs.same hi ⟨_,Av,bV⟩
 refine Bc (VP _ _ (BE BL) ((gt p.variables A).choices)) (VP.stab _ _) (fun cE c7 g W hi J=>?_) ?_
 obtain⟨c8,bW,bX⟩:=J 31 Av
 refine Az<|C2 Ex Av G0 (by decide) bW Av ?_
 have bY:=bX.via.snd.snd.snd
 exact Bs.same hi ⟨_,Av,bY⟩
 refine Bc (VD _ _ (vC (BE BL)) ((gt p.variables A).choices)) (VD.stab _ _) (fun cF c9 g W hi J=>?_) ?_
 obtain⟨dA,bZ,b0⟩:=J 32 Av
 refine Az<|AX G0 bZ b0 Av ?_
 intro dB bF
 obtain⟨Af,Cf,rfl,Ff⟩:=BH bF
 exact Bs.same hi (show Vr.vd (vC (BE BL)) _ _ _ _ from(Ke (B5 Ff)))
 refine Bc (VD _ _ (vI .i64) (((gt p.variables A).choices).length:Int)) (VD.stab _ _) (fun b2 cG g W hi J=>?_) ?_
 have bG:Vr.vd (vC (BE BL)) _ _ _ _:=J 33 Av
 obtain⟨Ag,Cg,bH,Fg⟩:=BH bG
 exact Az<|Bd Try.underlying59 bH<|Bs.same hi (show Vr.vd (vI .i64) _ _ _ _ from⟨Av,Bb Fg⟩)
 refine BA fun cH cI a2 a3=>?_
 obtain⟨-,aT,-⟩:=a2
 obtain⟨M,Y⟩:=AB.nx a3
 rintro cJ aG
 replace aG:Vr.vd (vI .i64) _ _ _ _:=aG
 obtain⟨rfl,Rd⟩:=aG
 rintro cK aH
 replace aH:Vr.vd (vC (BE BL)) _ _ _ _:=aH
 obtain⟨Ah,Ch,rfl,Fh⟩:=BH aH
 rintro _ ⟨cL,rfl,Z⟩ _ ⟨cM,rfl,aA⟩ _ rfl _ rfl _ rfl cN aI
 replace aI:Vr.vd (vI .i64) _ _ _ _:=aI
 obtain⟨rfl,Re⟩:=aI
 rintro _ rfl _ rfl _ rfl
 have aJ:=aE.to M (aT.trans Y)
 replace Fh:=Fh.step Y;replace Z:=Z.step Y;replace aA:=aA.step Y;clear aE
 refine AA<|Bu Av Av<|Ay<|AF G Av (fun a4 G=>?_) (fun a4 G=>?_)
 refine Ax ?_
 clear Fh Z aA
 refine Aw ?_
 refine AA (AD (v:=Sl (some ⟨U,0,none⟩) (F.set A.toNat (wq ((gt F A)+1))) Ce) (IH Av (show F.length=(F.set A.toNat (wq ((gt F A)+1))).length from by first |(simp;done) |(simp;omega))) ?_)
 refine Bn (Sl (some ⟨U,0,none⟩) (F.set A.toNat (wq ((gt F A)+1))) Ce) Av<|Bn (Bo true) Av<|Ay<|AY ?_
 replace I:=I.step aJ
 obtain⟨aK,cO,aL⟩:=Gs.publish (i:=0) M Av I
 clear M
 have hz:=Gp aK
 refine⟨_,En,[Sl (some ⟨U,0,none⟩) (F.set A.toNat (wq ((gt F A)+1))) Ce,Bo true],⟨Av,Av,trivial⟩,aK.ext,?_⟩
 replace aL:=aL.step hz
 exact Vr.eq (a:=Kr (vC (BE (AM .i64))) vB) (x:=(F.set A.toNat (wq ((gt F A)+1)),true)) (Kh (Ke (B5 aL)) Av) (oi G)
 refine AH ?_
 clear Fh Z aA
 refine Aw ?_
 refine AA (AD (v:=Sl (some ⟨U,0,none⟩) (F.set A.toNat (wq ((gt F A)+1))) Ce) (IH Av (show F.length=(F.set A.toNat (wq ((gt F A)+1))).length from by first |(simp;done) |(simp;omega))) ?_)
 refine Be (Iv A) Av ?_
 obtain⟨aM,G⟩:=AG G
 replace I:=I.step aJ
 refine AA<|B7 Bp BD Av Av I aM ?_
 rintro _ ⟨⟩ -
 refine Bk<|Hf (vs:=[Iv 0]) (i:=0) (m:=A) BD Av M Av Av Av Av I aM (AW EG) ?_
 intro cP bI bJ a5 bK
 clear M
 refine Ay<|Aw<|Be (Iv A) Av<|AA<|FC Av Av<|Bn (Iv (wq (A - 1))) Av<|Ay ?_
 replace aD:=aD.trans (bE.trans (aJ.trans bJ))
 exact bC _ _ ⟨(F.set A.toNat (wq ((gt F A)+1))).set A.toNat 0,(wq (A - 1)),some ⟨U,0,none⟩,Ce,some U,bI,_,Av,BB.of ⟨MP (show F.length=((F.set A.toNat (wq ((gt F A)+1))).set A.toNat 0).length from by first |(simp;done) |(simp;omega)),Av,trivial⟩,aD,a5,bK,(AZ .i64 _),GD a1 G⟩
 refine Br<|Ax ?_
 obtain⟨aN,bL⟩:=X.sub (bs':=[(N,Q)]) (.cons_cons _ (.cons _ List.Sublist.slnil))
 clear Fa Fb Fc
 clear X
 refine Aw<|Be (Sl Ae F Ce) Av<|Bn (Sl Ae F Ce) Av<|Bn (Bo false) Av<|Ay<|AY ?_
 replace Fe:=Fe.step bL
 obtain⟨aO,cQ,aP⟩:=Gs.publish (i:=0) aN Av Fe
 clear aN
 have hz:=Gp aO
 refine⟨_,En,[Sl Ae F Ce,Bo false],⟨Av,Av,trivial⟩,aO.ext,?_⟩
 replace aP:=aP.step hz
 exact Vr.eq (a:=Kr (vC (BE (AM .i64))) vB) (x:=(F,false)) (Kh (Ke (B5 aP)) Av) (oi G)

def DI (a:A8) (b:A8):Option Bool:=
 bif (decide (a.leaf<b.leaf)) then
  some true
 else
  bif (decide (a.leaf=b.leaf)) then
   some (decide (a.cell<b.cell))
  else
   some false

theorem GZ {w:World} {O:List Nat} {a:A8} {b:A8} (hO:∀k∈O,k<w.heap.size) (Ra:BR .i64 a.leaf) (Rb:BR .i64 a.cell) (Rc:BR .i64 b.leaf) (Rd:BR .i64 b.cell) {x:Bool} (F:DI a b=some x):
 Ok Try.prog 63 [Value.agg [Iv a.leaf,Iv a.cell].toArray,Value.agg [Iv b.leaf,Iv b.cell].toArray] w O vB x:=by
 unfold DI at F
 refine Bt (n:=24) (xs:=[.tmp 4]) Try.func63 Av Try.ntmps63 Try.results63 Av ?_
 have hs:=St.start hO
 refine Ax<|Aw<|AA<|BV (cs:=[Iv a.leaf,Iv a.cell]) hs Av Av ?_
 intro M N _ Q G
 refine AA<|BV (cs:=[Iv b.leaf,Iv b.cell]) G Av Av ?_
 intro U W _ X A
 clear G
 refine Bn (Bo false) Av<|Ay<|Ax<|Aw<|AA<|AP 0 BW Av BD Av Av<|AA<|AQ 1 BD A Av Av Av<|AA<|AP 0 BW Av BD Av Av<|AA<|AQ 0 BD A Av Av Av<|AA<|Bu Av Av<|Be (Bo (decide (a.leaf<b.leaf))) Av<|B4 F (fun I F=>?_) (fun I F=>?_)
 iterate 12 refine AI Av (AJ Av Av) Av ?_
 refine FR (Bo true) Av Av<|Bn (Bo true) Av<|Ay<|AY<|⟨_,En,[Bo true],⟨Av,trivial⟩,A.ext,?_⟩
 exact Vr.eq (a:=vB) (x:=true) Av (oi F)
 refine BN Av Av<|AP 0 BW Av BD Av Av<|BN Av Av<|AQ 1 BD A Av Av Av<|BN Av Av<|AP 0 BW Av BD Av Av<|BN Av Av<|AQ 0 BD A Av Av Av<|BN Av Av<|GV Av Av<|BN Av Av<|AD (v:=Bo (decide (a.leaf=b.leaf))) Av<|B4 F (fun J F=>?_) (fun J F=>?_)
 refine BN Av Av<|AP 1 BW Av BD Av Av<|BN Av Av<|AQ 1 BD A Av Av Av<|BN Av Av<|AP 1 BW Av BD Av Av<|BN Av Av<|AQ 0 BD A Av Av Av<|BN Av Av<|Bu Av Av<|BN Av Av<|C6 (v:=Bo (decide (a.cell<b.cell))) Av Av<|FF (Bo (decide (a.cell<b.cell))) Av Av<|Bn (Bo (decide (a.cell<b.cell))) Av<|Ay<|AY<|⟨_,En,[Bo (decide (a.cell<b.cell))],⟨Av,trivial⟩,A.ext,?_⟩
 exact Vr.eq (a:=vB) (x:=decide (a.cell<b.cell)) Av (oi F)
 iterate 5 refine AI Av (AJ Av Av) Av ?_
 refine BN Av Av<|Ek (v:=Bo false) Av Av<|FF (Bo false) Av Av<|Bn (Bo false) Av<|Ay<|AY<|⟨_,En,[Bo false],⟨Av,trivial⟩,A.ext,?_⟩
 exact Vr.eq (a:=vB) (x:=false) Av (oi F)

abbrev Xf:List Nat:=[27,28,29,30,31,32,33,34,35,36,37,38,39,40,41]

abbrev Xg:List Nat:=[44,45,46,47,48,49,50,51,52,53,54,55,56,57,58]

abbrev PC:List Nat:=[9,27,28,29,30,31,32,33,34,35,36,37,38,39,40,41,42,43]

abbrev PD:List Nat:=[3,9,27,28,29,30,31,32,33,34,35,36,37,38,39,40,41,42,43,44,45,46,47,48,49,50,51,52,53,54,55,56,57,58,59,60,61,62,63,64,65,66,67,68,69,70,71,72,73]

abbrev Oh:List Nat:=[3,8,9,21,22,23,24,25,26,27,28,29,30,31,32,33,34,35,36,37,38,39,40,41,42,43,44,45,46,47,48,49,50,51,52,53,54,55,56,57,58,59,60,61,62,63,64,65,66,67,68,69,70,71,72,73]

abbrev Nj:List Nat:=[3,4,5,6,7,8,9,14,15,16,17,18,19,20,21,22,23,24,25,26,27,28,29,30,31,32,33,34,35,36,37,38,39,40,41,42,43,44,45,46,47,48,49,50,51,52,53,54,55,56,57,58,59,60,61,62,63,64,65,66,67,68,69,70,71,72,73,74,75,76,77,78,79]

def CQ (A:(List A8) × Int) (J:List A8) (M:Int) (Q:Int→Option (List A8)) (N:Int→Option (List A8)) (F:Int):Option (List A8):=
 jn (fun(U:Bool)=>
  bif U then
   N (IntKind.wrap .i64 (F+1))
  else
   Q F)
 (fun I=>
  bif (decide (F<(J.length:Int))) then
   ck ((0:Int)≤F∧F<(J.length:Int))<|
   ck ((0:Int)≤M∧M<(A.1.length:Int))<|
   (DI (J.getD F.toNat default) (A.1.getD M.toNat default)).bind fun G=>
   I G
  else
   I false)

def BK (p:A9) (J:List Int) (N:(List A8)→(List Int)→Bool→Option (List A8)) (A:(List A8) × Int) (Q:(List A8)→Int→Option (List A8)) (G:List A8) (I:Int):Option (List A8):=
 bif (decide (I<(A.1.length:Int))) then
  jn (fun(X:List A8)=>
   Q X (IntKind.wrap .i64 (I+1)))
  (fun U=>
   jn (fun(F:Int)=>
    jn (fun(Y:Bool)=>
     bif Y then
      ck ((0:Int)≤F∧F≤(G.length:Int))<|
      ck ((([]:List A8).length+((G.drop 0).take (F.toNat - 0)).length)*16≤140737488355328)<|
      ck ((0:Int)≤I∧I<(A.1.length:Int))<|
      ck (((([]:List A8)++((G.drop 0).take (F.toNat - 0))).length+[A.1.getD I.toNat default].length)*16≤140737488355328)<|
      ck ((0:Int)≤F∧F≤(G.length:Int))<|
      ck ((((([]:List A8)++((G.drop 0).take (F.toNat - 0)))++[A.1.getD I.toNat default]).length+((G.drop F.toNat).take (G.length - F.toNat)).length)*16≤140737488355328)<|
      U (((([]:List A8)++((G.drop 0).take (F.toNat - 0)))++[A.1.getD I.toNat default])++((G.drop F.toNat).take (G.length - F.toNat)))
     else
      U G)
    (fun W=>
     bif (decide (F=(G.length:Int))) then
      W true
     else
      ck ((0:Int)≤F∧F<(G.length:Int))<|
      ck ((0:Int)≤I∧I<(A.1.length:Int))<|
      W (!(decide ((G.getD F.toNat default)=(A.1.getD I.toNat default))))))
   (fun Z=>
    B1 (CQ A G I Z) 1000000 0))
 else
  (CY p J).bind fun M=>
  N G M.1 M.2

def Cv (p:A9) (I:(List A8)→(List Int)→Bool→Option (List A8)) (J:List A8) (F:List Int) (G:Bool):Option (List A8):=
 bif G then
  (Dn p F).bind fun A=>
  B8 (BK p F I A) (((A.1.length:Int) - 0).toNat+1) J 0
 else
  some J

def Du (p:A9):Option (List A8):=
 ck ((0:Int)≤(p.variables.length:Int)∧(p.variables.length:Int)≤(p.variables.length:Int)∧(8:Int)*(p.variables.length:Int)≤281474976710656∧(p.variables.length:Int)≤281474976710656)<|
 In (Cv p) 1000000 ([]:List A8) (List.replicate p.variables.length (0:Int)) true

theorem GK {w:World} {O:List Nat} {p:A9} {Aa:Option Addr} {Ca:Nat} {Ab:Option Addr} {Cb:Nat} {Ac:Option Addr} {Cc:Nat} (hO:∀k∈O,k<w.heap.size) (Fa:CA B2 w O Aa Ca p.cells) (Fb:CA (BE (AM .i64)) w O Ab Cb p.capacity) (Fc:CA AT w O Ac Cc p.variables) {x:(List A8)} (J:Du p=some x):
 OI Try.prog 32 [Value.agg (C0 p Aa Ca Ab Cb Ac Cc).toArray] w O AO 45 x:=by
 unfold Du at J
 refine Bt (n:=81) (xs:=[.tmp 2]) Try.func32 Av Try.ntmps32 Try.results32 Av ?_
 have hs:=St.start hO
 refine Ax<|Aw<|AA<|BV (cs:=(C0 p Aa Ca Ab Cb Ac Cc)) hs Av Av ?_
 intro b1 w2 _ p3 c0
 refine Bn (Value.slice none 0 0) Av<|Ay<|Ax<|Aw<|Bn (Value.slice none 0 0) Av<|Ay<|Ax<|Aw<|AA<|AP 2 Bw Av CI Av Av<|AA<|AQ 0 CI c0 Av Av Av<|AA<|Bd Try.underlying24 Av ?_
 replace Fc:=Fc.step p3
 have jH:=Bb Fc
 obtain⟨f1,J⟩:=AG J
 refine AA<|Ht (q:=(AM .i64)) (v:=Iv 0) (x0:=(0:Int)) Bp BD c0 Av Av f1 Av (fun _ _=>(AW EG)) ?_
 intro b8 w9 g8 d3 cJ f2
 clear c0
 refine Bn (Sl (some ⟨b8,0,none⟩) (List.replicate p.variables.length (0:Int)) p.variables.length) Av<|Ay<|Ax<|Aw<|Bn (Bo true) Av<|Ay<|Ax<|AE<|Wr [] [(1,Pt b1 0),(3,Value.slice none 0 0),(4,Sl (some ⟨b8,0,none⟩) (List.replicate p.variables.length (0:Int)) p.variables.length),(5,Bo true)] fun aM=>?_
 obtain⟨d4,d5,d6⟩:=Gs.publish (i:=0) cJ Av f2
 clear cJ
 have cK:=d4.ghost (Obj.cells #[] 45)
 refine Bh Nj (fun m fr w'=>∃(aC:List A8) (G:List Int) (aG:Bool) (Ad:Option Addr) (Cd:Nat) (aI:Option Nat) (aJ:Obj) (Ae:Option Addr) (Ce:Nat) (Q:Bi),Q=[(aI,aJ),(some b1,Oc (C0 p Aa Ca Ab Cb Ac Cc) 26)]∧fr [] [(3,Sl Ad aC Cd),(4,Sl Ae G Ce),(5,Bo aG)]∧cK.S (ks Q O) w'∧St ⟨w,[],[]⟩ O w' Q∧Gs AO 45 w' (ks Q O) Ad Cd aC aI aJ∧CA (AM .i64) w' (ks Q O) Ae Ce G∧In (Cv p) m aC G aG=some x) 1000000 ⟨([]:List A8),List.replicate p.variables.length (0:Int),true,none,0,none,Obj.cells #[] 45,some ⟨b8,0,none⟩,p.variables.length,_,Av,BB.of ⟨Av,Av,Av,trivial⟩,AB.refl _ _,cK,Gs.nil_,d6,J⟩ ?_ ?_
 rintro _ _ ⟨_,_,_,_,_,_,_,_,_,_,_,_,_,_,_,_,J⟩;exact QC J
 rintro jI jJ d7 g9 jK ⟨aC,G,aG,Ad,Cd,aI,aJ,Ae,Ce,_,rfl,bD,a0,aN,Fd,Fe,J⟩
 obtain⟨d8,c1,J⟩:=QE J;unfold Cv at J
 rw [bD.eq];clear bD
 have bE:=a0
 refine Ax<|Ax ?_
 clear d6
 refine Aw<|Be (Bo aG) Av<|Ay<|AF J Av (fun d9 J=>?_) (fun d9 J=>?_)
 refine AH<|AE<|Ax<|Aw<|AA<|Bz 1 Bw aN Av Av Av<|Be (Sl Ae G Ce) Av ?_
 obtain⟨A,eA,J⟩:=bd J
 have eB:=(p3.trans (d3.trans (d5.trans a0)))
 replace Fb:=Fb.step eB;replace Fa:=Fa.step eB
 replace Fc:=Fc.step (d3.trans (d5.trans a0))
 refine AA<|Bj aN Try.call57 (GC (p:=p) (choices:=G) aN.ltw Fa Fb Fc Fe eA) Av ?_
 rintro jL jM eC cL f3
 clear aN
 obtain⟨jN,jO,rfl,f4,f5⟩:=f3
 obtain⟨Af,Cf,rfl,Ff⟩:=BH f4
 obtain⟨rfl,Ra⟩:=f5
 refine Be (Value.tuple [Sl Af A.1 Cf,Iv A.2].toArray) Av<|AA<|Bg (v:=Sl Af A.1 Cf) Av Av<|AA<|Bg (v:=Iv A.2) Av Av<|Bn (Sl Af A.1 Cf) Av<|Bn (Iv A.2) Av<|Ay<|Ax<|Ax<|Aw<|Bn (Iv 0) Av<|Ay<|AE<|Ip Nj [] (CK ⟨aM,[]⟩ [(1,Pt b1 0),(3,Value.slice none 0 0),(4,Sl (some ⟨b8,0,none⟩) (List.replicate p.variables.length (0:Int)) p.variables.length),(5,Bo true)]) [(3,Sl Ad aC Cd),(4,Sl Ae G Ce),(6,Sl Af A.1 Cf),(8,Iv 0)] fun aX=>?_
 replace Fd:=Fd.step eC
 refine Bh Oh (fun m fr w'=>∃(F:List A8) (N:Int) (Ag:Option Addr) (Cg:Nat) (Z:Option Nat) (aA:Obj) (Q:Bi),Q=[(Z,aA),(some b1,Oc (C0 p Aa Ca Ab Cb Ac Cc) 26)]∧fr [] [(3,Sl Ag F Cg),(8,Iv N)]∧cL.S (ks Q O) w'∧St ⟨w,[],[]⟩ O w' Q∧Gs AO 45 w' (ks Q O) Ag Cg F Z aA∧BR .i64 N∧B8 (BK p G d8 A) m F N=some x) (((A.1.length:Int) - 0).toNat+1) ⟨aC,0,Ad,Cd,aI,aJ,_,Av,BB.of ⟨Av,Av,trivial⟩,AB.refl _ _,cL,Fd,EG,J⟩ ?_ ?_
 rintro _ _ ⟨_,_,_,_,_,_,_,_,_,_,_,_,_,J⟩;exact D9 J
 rintro jP jQ eD hA jR ⟨F,N,Ag,Cg,Z,aA,_,rfl,bF,a1,aD,Fg,Rb,J⟩
 obtain⟨hB,c2,J⟩:=DA J;unfold BK at J
 rw [bF.eq];clear bF
 have bG:=a1
 refine Ax<|Ax ?_
 clear Fd
 refine Aw<|Be (Iv N) Av<|Be (Sl Af A.1 Cf) Av<|AA<|Bd Try.underlying32 Av ?_
 replace Ff:=Ff.step a1
 have hC:=Bb Ff
 refine AA<|Bu Av Av<|Ay<|AF J Av (fun eE J=>?_) (fun eE J=>?_)
 refine AH<|Ip Oh [] (CK (IT Nj [] aX (CK ⟨aM,[]⟩ [(1,Pt b1 0),(3,Value.slice none 0 0),(4,Sl (some ⟨b8,0,none⟩) (List.replicate p.variables.length (0:Int)) p.variables.length),(5,Bo true)])) [(3,Sl Ad aC Cd),(4,Sl Ae G Ce),(6,Sl Af A.1 Cf),(8,Iv 0)]) [(3,Sl Ag F Cg),(8,Iv N)] fun a9=>?_
 obtain⟨f6,eF,J⟩:=Dp J
 refine D8 PD (fun fr w'=>∃(bH:List A8) (Ah:Option Addr) (Ch:Nat) (aR:Option Nat) (aS:Obj) (Q:Bi),Q=[(aR,aS),(some b1,Oc (C0 p Aa Ca Ab Cb Ac Cc) 26)]∧fr [] [(3,Sl Ah bH Ch)]∧aD.S (ks Q O) w'∧St ⟨w,[],[]⟩ O w' Q∧Gs AO 45 w' (ks Q O) Ah Ch bH aR aS∧f6 bH=some x) ?_ ?_
 rintro hD jS ⟨bH,Ah,Ch,aR,aS,_,rfl,bI,c3,eG,Fh,J⟩
 replace J:=Ed eF J
 rw [bI.eq];clear bI
 clear Fg
 refine Aw<|Be (Iv N) Av<|AA<|Bm Av Av<|Bn (Iv (wq (N+1))) Av<|Ay ?_
 replace bG:=bG.trans c3
 exact eD _ _ ⟨bH,(wq (N+1)),Ah,Ch,aR,aS,_,Av,BB.of ⟨Av,Av,trivial⟩,bG,eG,Fh,(AZ .i64 _),GD c2 J⟩
 intro jT cM
 have aO:=aD.stepR
 refine AE<|Ax<|Aw<|Bn (Iv 0) Av<|Ay<|Ip PD [] (CK (IT Oh [] a9 (CK (IT Nj [] aX (CK ⟨aM,[]⟩ [(1,Pt b1 0),(3,Value.slice none 0 0),(4,Sl (some ⟨b8,0,none⟩) (List.replicate p.variables.length (0:Int)) p.variables.length),(5,Bo true)])) [(3,Sl Ad aC Cd),(4,Sl Ae G Ce),(6,Sl Af A.1 Cf),(8,Iv 0)])) [(3,Sl Ag F Cg),(8,Iv N)]) [(3,Sl Ag F Cg),(9,Iv 0)] fun cN=>?_
 obtain⟨eH,eI,J⟩:=Dp J
 refine D8 PC (fun fr w'=>∃(I:Int) (Q:Bi),Q=[(Z,aA),(some b1,Oc (C0 p Aa Ca Ab Cb Ac Cc) 26)]∧fr [] [(9,Iv I)]∧aD.S (ks Q O) w'∧St ⟨w,[],[]⟩ O w' Q∧BR .i64 I∧eH I=some x) ?_ ?_
 rintro hE jU ⟨I,_,rfl,bJ,aT,aY,Rc,J⟩
 replace J:=Ed eI J
 rw [bJ.eq];clear bJ
 refine Ip PD [] (CK (IT Oh [] a9 (CK (IT Nj [] aX (CK ⟨aM,[]⟩ [(1,Pt b1 0),(3,Value.slice none 0 0),(4,Sl (some ⟨b8,0,none⟩) (List.replicate p.variables.length (0:Int)) p.variables.length),(5,Bo true)])) [(3,Sl Ad aC Cd),(4,Sl Ae G Ce),(6,Sl Af A.1 Cf),(8,Iv 0)])) [(3,Sl Ag F Cg),(8,Iv N)]) [(3,Sl Ag F Cg),(9,Iv I)] fun hF=>?_
 obtain⟨f7,eJ,J⟩:=Dp J
 refine D8 Xg (fun fr w'=>∃(c4:Bool) (Q:Bi),Q=[(Z,aA),(some b1,Oc (C0 p Aa Ca Ab Cb Ac Cc) 26)]∧fr [] [(58,Bo c4)]∧aY.S (ks Q O) w'∧St ⟨w,[],[]⟩ O w' Q∧f7 c4=some x) ?_ ?_
 rintro hG jV ⟨c4,_,rfl,bK,bL,bM,J⟩
 replace J:=Ed eJ J
 rw [bK.eq];clear bK
 refine AF J Av (fun eK J=>?_) (fun eK J=>?_)
 have cO:=(aT.trans bL)
 replace Fg:=Fg.step cO
 obtain⟨a2,eL,aL⟩:=Gs.publish (i:=0) bM Av Fg
 clear bM
 refine B9 (g0:=([],[])) (m:=14) (fl:=[]) (UY (eat:=(fun t:Nat=>if t=0 then 4 else if t=4 then 10 else 1000)) a2) Av (.inl Av) Av (by decide+kernel) ?_  -- 13
 refine ML (XG O [(some b1,Oc (C0 p Aa Ca Ab Cb Ac Cc) 26)] (fun t:Nat=>if t=0 then 4 else if t=4 then 10 else 1000) 0 AO 45 ([]:List A8)) (XG.stab _ _ _ _) (fun f8 hH g U hi hk M=>?_) ?_
 obtain⟨hi,X⟩:=hi
 refine Az (Bf (cs:=[]) (parts:=[]) Ep BW hi (by decide) (by simp only [List.map];rfl) ?_)
 intro eM hI f9 eN c5
 exact GoesX.own (xs:=([]:List A8)) X eN c5 (Gs.of_cells (p:=AO) (e:=45) (bl:=eM) (c:=0) (show Ej AO _ _ [] [] from Ej.nil) Av (BG Av)) Av
 refine Do (Sl Ag F Cg) (fun gA hJ g U hi M=>?_) ?_
 obtain⟨hi,X⟩:=hi
 exact Az<|AD (v:=Sl Ag F Cg) (M 3 Av)<|GoesX.same hi X Av
 refine Do (Iv I) (fun gB hK g U hi M=>?_) ?_
 obtain⟨hi,X⟩:=hi
 exact Az<|AD (v:=Iv I) (M 9 Av)<|GoesX.same hi X Av
 obtain⟨gC,J⟩:=AG J
 refine Bc (XD _ _ (vC (BE AO)) ((F.drop 0).take (I.toNat - 0))) (XD.stab _ _) (fun gD hL g U hi M=>?_) ?_
 obtain⟨-,aB,-⟩:=U
 obtain⟨hi,X⟩:=hi
 replace aL:=aL.step aB
 refine Az (MG (q:=AO) (l:=0) (h:=I.toNat) (m:=Cg) Ep BW (M 60 Av) aL Av Av (Sw (M 61 Av) (by omega)) Av (by decide) (by omega) (by omega) (by have h_:F.length≤Cg:=aL.le;omega) (by have h_:F.length≤Cg:=aL.le;omega) ?_)
 intro hM eO
 exact GoesX.same hi X (show Vr.vd (vC (BE AO)) _ _ _ _ from(Ke (B5 eO)))
 obtain⟨bN,J⟩:=AG J
 refine ML (XG O [(some b1,Oc (C0 p Aa Ca Ab Cb Ac Cc) 26)] (fun t:Nat=>if t=0 then 4 else if t=4 then 10 else 1000) 4 AO 45 (([]:List A8)++((F.drop 0).take (I.toNat - 0)))) (XG.stab _ _ _ _) (fun gE hN g U hi hk M=>?_) ?_
 obtain⟨hi,X⟩:=hi
 have eP:Vr.vd (vC (BE AO)) _ _ _ _:=M 62 Av
 obtain⟨Ai,Ci,eQ,Fi⟩:=BH eP
 obtain⟨c6,c7,c8⟩:=Fi.src
 refine Az (Na (q:=AO) (xs:=([]:List A8)) (ys:=(F.drop 0).take (I.toNat - 0)) (news:=c6) (tag:=0) Ep BW Av (by decide) hi X hk Av (BG Av) (M 59 Av) eQ c8 c7 bN (by have:=bN;simp only [maxLen,gt];omega))
 refine Do (Sl Af A.1 Cf) (fun gF hP g U hi M=>?_) ?_
 obtain⟨hi,X⟩:=hi
 exact Az<|AD (v:=Sl Af A.1 Cf) (M 6 Av)<|GoesX.same hi X Av
 refine Do (Iv N) (fun gG hQ g U hi M=>?_) ?_
 obtain⟨hi,X⟩:=hi
 exact Az<|AD (v:=Iv N) (M 8 Av)<|GoesX.same hi X Av
 obtain⟨bO,J⟩:=AG J
 have cP:=(cO.trans eL)
 replace Ff:=Ff.step cP
 refine Bc (XP _ _ AO (gt A.1 N)) (XP.stab _ _) (fun gH hR g U hi M=>?_) ?_
 obtain⟨-,aB,-⟩:=U
 obtain⟨hi,X⟩:=hi
 replace Ff:=Ff.step aB
 refine Az<|AC (q:=AO) Ep BW (M 64 Av) (M 65 Av) Ff Av bO.1 bO.2 ?_
 intro hS eR
 exact GoesX.same hi X ⟨_,Av,eR⟩
 refine Bc (XD _ _ (vA AO) (gt A.1 N)) (XD.stab _ _) (fun gI hT g U hi M=>?_) ?_
 obtain⟨hi,X⟩:=hi
 obtain⟨hU,eS,eT⟩:=M 66 Av
 refine Az<|BF BW eS eT Av ?_
 intro gJ eU
 obtain⟨_,_,rfl,⟨rfl,Rd⟩,⟨rfl,Re⟩⟩:=eU
 exact GoesX.same hi X (show Vr.vd (vA AO) _ _ _ _ from(Jn (Cz (AU (AW Rd) (AW Re)))))
 refine Bc (XD _ _ (vC (BE AO)) [gt A.1 N]) (XD.stab _ _) (fun gK hV g U hi M=>?_) ?_
 obtain⟨hi,X⟩:=hi
 have eV:Vr.vd (vA AO) _ _ _ _:=M 67 Av
 obtain⟨_,eW,⟨_,_,rfl,⟨rfl,Rf⟩,⟨rfl,Rg⟩⟩⟩:=eV
 refine Az (Bf (cs:=[Iv ((gt A.1 N).leaf),Iv ((gt A.1 N).cell)]) (parts:=[(0,.tmp 67)]) Ep BW hi (by decide) (by simp only [List.map,(show ev _ (.tmp 67)=_ from eW)];rfl) ?_)
 intro hW hX c9 eX dA
 obtain⟨dB,eY,eZ⟩:=St.publish (q:=AO) (i:=0) (o:=0) (c:=1) (xs:=[gt A.1 N]) dA Av (show Ej AO _ _ [Iv ((gt A.1 N).leaf),Iv ((gt A.1 N).cell)] [gt A.1 N] from⟨_,_,Av,Cz (AU (AW Rf) (AW Rg)),Ej.nil⟩) (BG Av) (BG Av) (BG Av)
 exact GoesX.pub hi X dB (AB.trans eX eY) c9 (show Vr.vd (vC (BE AO)) _ _ _ _ from Ke (B5 eZ))
 obtain⟨bP,J⟩:=AG J
 refine ML (XG O [(some b1,Oc (C0 p Aa Ca Ab Cb Ac Cc) 26)] (fun t:Nat=>if t=0 then 4 else if t=4 then 10 else 1000) 10 AO 45 ((([]:List A8)++((F.drop 0).take (I.toNat - 0)))++[gt A.1 N])) (XG.stab _ _ _ _) (fun gL hY g U hi hk M=>?_) ?_
 obtain⟨hi,X⟩:=hi
 have e0:Vr.vd (vC (BE AO)) _ _ _ _:=M 68 Av
 obtain⟨Aj,Cj,e1,Fj⟩:=BH e0
 obtain⟨dC,dD,dE⟩:=Fj.src
 refine Az (Na (q:=AO) (xs:=([]:List A8)++((F.drop 0).take (I.toNat - 0))) (ys:=[gt A.1 N]) (news:=dC) (tag:=4) Ep BW Av (by decide) hi X hk Av (BG Av) (M 63 Av) e1 dE dD bP (by have:=bP;simp only [maxLen,gt];omega))
 refine Do (Sl Ag F Cg) (fun gM hZ g U hi M=>?_) ?_
 obtain⟨hi,X⟩:=hi
 exact Az<|AD (v:=Sl Ag F Cg) (M 3 Av)<|GoesX.same hi X Av
 refine Do (Iv I) (fun gN h0 g U hi M=>?_) ?_
 obtain⟨hi,X⟩:=hi
 exact Az<|AD (v:=Iv I) (M 9 Av)<|GoesX.same hi X Av
 obtain⟨gO,J⟩:=AG J
 refine Bc (XD _ _ (vC (BE AO)) ((F.drop I.toNat).take (F.length - I.toNat))) (XD.stab _ _) (fun gP h1 g U hi M=>?_) ?_
 obtain⟨-,aB,-⟩:=U
 obtain⟨hi,X⟩:=hi
 replace aL:=aL.step aB
 refine Az (MG (q:=AO) (l:=I.toNat) (h:=F.length) (m:=Cg) Ep BW (M 70 Av) aL Av (Sw (M 71 Av) (by omega)) Av Av (by decide) (by omega) (by omega) (by have h_:F.length≤Cg:=aL.le;omega) (by have h_:F.length≤Cg:=aL.le;omega) ?_)
 intro h2 e2
 exact GoesX.same hi X (show Vr.vd (vC (BE AO)) _ _ _ _ from(Ke (B5 e2)))
 refine BA fun h3 h4 dF a3=>?_
 obtain⟨-,cD,-⟩:=dF
 obtain⟨a3,dG⟩:=a3
 rintro h5 bQ
 replace bQ:Vr.vd (vC (BE AO)) _ _ _ _:=bQ
 obtain⟨Ak,Ck,rfl,Fk⟩:=BH bQ
 rintro _ rfl _ rfl h6 aU
 obtain⟨h7,h8,h9,iA,rfl,aU,bR⟩:=aU.resolve_left (fun h=>absurd (dG _ h) (by decide))
 rintro iB bS
 replace bS:Vr.vd (vC (BE AO)) _ _ _ _:=bS
 obtain⟨Al,Cl,rfl,Fl⟩:=BH bS
 rintro iC bT
 replace bT:Vr.vd (vA AO) _ _ _ _:=bT
 obtain⟨_,rfl,⟨_,_,rfl,⟨rfl,Rh⟩,⟨rfl,Ri⟩⟩⟩:=bT
 rintro _ ⟨iD,rfl,cQ⟩ _ rfl _ rfl _ - iE bU
 replace bU:Vr.vd (vC (BE AO)) _ _ _ _:=bU
 obtain⟨Am,Cm,rfl,Fm⟩:=BH bU
 rintro _ rfl _ rfl _ -
 obtain⟨a4,aP⟩:=AB.nxX1 a3 aU;clear aU
 have e3:=a2.to a4 (cD.trans aP)
 replace Fk:=Fk.step aP;replace bR:=bR.step aP;replace Fl:=Fl.step aP;replace cQ:=cQ.step aP;replace Fm:=Fm.step aP;clear a2
 obtain⟨bV,J⟩:=AG J
 obtain⟨dH,dI,dJ⟩:=Fk.src
 refine AA (DR (q:=AO) (i:=0) (xs:=(([]:List A8)++((F.drop 0).take (I.toNat - 0)))++[gt A.1 N]) (ys:=(F.drop I.toNat).take (F.length - I.toNat)) (news:=dH) Ep BW Av (by decide) a4 Av Av bR Av dJ dI bV (by have:=bV;simp only [maxLen,gt];omega) ?_)
 intro cR cS e4 e5 iF e6 dK e7
 clear a4
 refine Bn (Sl cR (((([]:List A8)++((F.drop 0).take (I.toNat - 0)))++[gt A.1 N])++((F.drop I.toNat).take (F.length - I.toNat))) cS) Av<|Ay ?_
 have e8:=(cP.trans (e3.trans e6))
 replace aO:=aO.trans e8
 exact cM _ _ ⟨((([]:List A8)++((F.drop 0).take (I.toNat - 0)))++[gt A.1 N])++((F.drop I.toNat).take (F.length - I.toNat)),cR,cS,e4,e5,_,Av,BB.of ⟨Av,trivial⟩,aO,dK,e7,J⟩
 refine AH ?_
 have cT:=(aT.trans bL)
 replace aO:=aO.trans cT;replace Fg:=Fg.step cT
 exact cM _ _ ⟨F,Ag,Cg,Z,aA,_,Av,BB.of ⟨Av,trivial⟩,aO,bM,Fg,J⟩
 intro jW cU
 have aE:=aY.stepR
 refine B9 (g0:=[]) (m:=13) (fl:=[]) (Dc aY) Av (.inl Av) Av (by decide+kernel) ?_  -- 12
 refine Ba (Iv I) (fun _ _ _ hi M=>AD (v:=Iv I) (M 9 Av)<|Gz hi)<|Ba (Sl Ag F Cg) (fun _ _ _ hi M=>AD (v:=Sl Ag F Cg) (M 3 Av)<|Gz hi)<|Ba (Iv (F.length:Int)) (fun _ _ _ hi M=>Bd Try.underlying32 (M 45 Av)<|Gz hi)<|Ba (Bo (decide (I=(F.length:Int)))) (fun _ _ _ hi M=>GV (M 44 Av) (M 46 Av)<|Gz hi)<|Gf (decide (I=(F.length:Int))) (fun _ _ _ _ hi M=>Az<|AD (v:=Bo (decide (I=(F.length:Int)))) (M 47 Av)<|Gz hi) (fun a5=>?_) (fun a5=>?_)
 replace J:=GA J a5
 iterate 8 refine E7 Av Av (fun _ _ _ h=>h) Av ?_
 refine BA fun iG iH dL dM=>?_
 obtain⟨-,cE,-⟩:=dL
 obtain⟨bW,e9⟩:=AB.nx dM
 rintro _ rfl _ rfl _ rfl _ rfl _ rfl _ rfl _ rfl _ rfl _ rfl _ rfl _ rfl _ rfl _ rfl
 have fA:=aY.to bW (cE.trans e9)
 refine AI Av (AJ Av Av) Av<|FR (Bo true) Av Av<|Ay ?_
 replace aE:=aE.trans fA
 exact cU _ _ ⟨true,_,Av,BB.of ⟨Av,trivial⟩,aE,bW,J⟩
 replace J:=GB J a5
 refine CV (Sl Ag F Cg) Av Av (fun _ _ _ h=>h) (fun _ _ _ hi M=>AD (v:=Sl Ag F Cg) (M 3 Av)<|Gz hi)<|CV (Iv I) Av Av (fun _ _ _ h=>h) (fun _ _ _ hi M=>AD (v:=Iv I) (M 9 Av)<|Gz hi) ?_
 obtain⟨bX,J⟩:=AG J
 replace Fg:=Fg.step aT
 obtain⟨fB,rfl,rfl⟩:=Fg.at_ (by omega)
 refine Do (Value.pointer (some ⟨fB,I.toNat*2,none⟩)) (fun gQ iI g U hi M=>?_) ?_
 obtain⟨-,aB,-⟩:=U
 replace Fg:=Fg.step aB
 refine BI Av (M 48 Av)<|B7 Ep BW (M 49 Av) (M 50 Av) Fg bX ?_
 rintro _ ⟨⟩ -
 exact Gz hi
 refine Bc (VD _ _ (vA AO) (gt F I)) (VD.stab _ _) (fun gR iJ g U hi M=>?_) ?_
 obtain⟨-,aB,-⟩:=U
 replace Fg:=Fg.step aB
 have dN:=(AB.nx hi).1
 refine BI Av (M 48 Av)<|KB (i:=0) BW Av dN Av (M 51 Av) Fg bX ?_
 intro gS fC
 obtain⟨_,_,rfl,⟨rfl,Rj⟩,⟨rfl,Rk⟩⟩:=fC
 exact Bs.same hi (show Vr.vd (vA AO) _ _ _ _ from(Jn (Cz (AU (AW Rj) (AW Rk)))))
 refine CV (Sl Af A.1 Cf) Av Av (fun _ _ _ h=>h) (fun _ _ _ hi M=>AD (v:=Sl Af A.1 Cf) (M 6 Av)<|Gz hi)<|CV (Iv N) Av Av (fun _ _ _ h=>h) (fun _ _ _ hi M=>AD (v:=Iv N) (M 8 Av)<|Gz hi) ?_
 obtain⟨bY,J⟩:=AG J
 replace Ff:=Ff.step aT
 refine Bc (VP _ _ AO (gt A.1 N)) (VP.stab _ _) (fun gT iK g U hi M=>?_) ?_
 obtain⟨-,aB,-⟩:=U
 replace Ff:=Ff.step aB
 refine BI Av (M 48 Av)<|AC (q:=AO) Ep BW (M 53 Av) (M 54 Av) Ff Av bY.1 bY.2 ?_
 intro iL fD
 exact Bs.same hi ⟨_,Av,fD⟩
 refine Bc (VD _ _ (vA AO) (gt A.1 N)) (VD.stab _ _) (fun gU iM g U hi M=>?_) ?_
 obtain⟨iN,fE,fF⟩:=M 55 Av
 refine BI Av (M 48 Av)<|BF BW fE fF Av ?_
 intro gV fG
 obtain⟨_,_,rfl,⟨rfl,Rl⟩,⟨rfl,Rm⟩⟩:=fG
 exact Bs.same hi (show Vr.vd (vA AO) _ _ _ _ from(Jn (Cz (AU (AW Rl) (AW Rm)))))
 refine BA fun iO iP dO dP=>?_
 obtain⟨-,cF,-⟩:=dO
 obtain⟨bZ,cV⟩:=AB.nx dP
 rintro iQ b0
 replace b0:Vr.vd (vA AO) _ _ _ _:=b0
 obtain⟨_,rfl,⟨_,_,rfl,⟨rfl,Rn⟩,⟨rfl,Ro⟩⟩⟩:=b0
 rintro _ ⟨iR,rfl,cW⟩ _ rfl _ rfl iS b2
 replace b2:Vr.vd (vA AO) _ _ _ _:=b2
 obtain⟨_,rfl,⟨_,_,rfl,⟨rfl,Rp⟩,⟨rfl,Rq⟩⟩⟩:=b2
 rintro _ rfl _ rfl _ rfl _ rfl _ rfl _ rfl _ rfl _ rfl
 have fH:=aY.to bZ (cF.trans cV)
 replace cW:=cW.step cV
 refine BN Av Av<|QK (c:=decide ((gt F I)=(gt A.1 N))) Av Av Ur (SN 9998 (gt F I) (gt A.1 N) _)<|FF (Bo (!(decide ((gt F I)=(gt A.1 N))))) Av Av<|Ay ?_
 replace aE:=aE.trans fH
 exact cU _ _ ⟨!(decide ((gt F I)=(gt A.1 N))),_,Av,BB.of ⟨Av,trivial⟩,aE,bZ,J⟩
 intro jX fI
 have a6:=aD.stepR
 refine AE<|Ip PC [] (CK (IT PD [] cN (CK (IT Oh [] a9 (CK (IT Nj [] aX (CK ⟨aM,[]⟩ [(1,Pt b1 0),(3,Value.slice none 0 0),(4,Sl (some ⟨b8,0,none⟩) (List.replicate p.variables.length (0:Int)) p.variables.length),(5,Bo true)])) [(3,Sl Ad aC Cd),(4,Sl Ae G Ce),(6,Sl Af A.1 Cf),(8,Iv 0)])) [(3,Sl Ag F Cg),(8,Iv N)])) [(3,Sl Ag F Cg),(9,Iv 0)]) [(9,Iv 0)] fun dQ=>Bh PC (fun m fr w'=>∃(W:Int) (Q:Bi),Q=[(Z,aA),(some b1,Oc (C0 p Aa Ca Ab Cb Ac Cc) 26)]∧fr [] [(9,Iv W)]∧aD.S (ks Q O) w'∧St ⟨w,[],[]⟩ O w' Q∧BR .i64 W∧B1 (CQ A F N eH) m W=some x) 1000000 ⟨0,_,Av,BB.of ⟨Av,trivial⟩,AB.refl _ _,aD,EG,J⟩ ?_ ?_
 rintro _ _ ⟨_,_,_,_,_,_,_,J⟩;exact Dg J
 rintro iT iU dR gW iV ⟨W,_,rfl,bA,aH,aK,Rr,J⟩
 obtain⟨gX,cG,J⟩:=Dh J;unfold CQ at J
 rw [bA.eq];clear bA
 have a7:=aH
 refine Ax<|Ip PC [] (CK (IT PC [] dQ (CK (IT PD [] cN (CK (IT Oh [] a9 (CK (IT Nj [] aX (CK ⟨aM,[]⟩ [(1,Pt b1 0),(3,Value.slice none 0 0),(4,Sl (some ⟨b8,0,none⟩) (List.replicate p.variables.length (0:Int)) p.variables.length),(5,Bo true)])) [(3,Sl Ad aC Cd),(4,Sl Ae G Ce),(6,Sl Af A.1 Cf),(8,Iv 0)])) [(3,Sl Ag F Cg),(8,Iv N)])) [(3,Sl Ag F Cg),(9,Iv 0)])) [(9,Iv 0)]) [(9,Iv W)] fun gY=>?_
 obtain⟨fJ,dS,J⟩:=Dp J
 refine D8 Xf (fun fr w'=>∃(dT:Bool) (Q:Bi),Q=[(Z,aA),(some b1,Oc (C0 p Aa Ca Ab Cb Ac Cc) 26)]∧fr [] [(41,Bo dT)]∧aK.S (ks Q O) w'∧St ⟨w,[],[]⟩ O w' Q∧fJ dT=some x) ?_ ?_
 rintro gZ iW ⟨dT,_,rfl,bB,bC,b3,J⟩
 replace J:=Ed dS J
 rw [bB.eq];clear bB
 refine AF J Av (fun dU J=>?_) (fun dU J=>?_)
 refine AH<|AE<|Aw<|Be (Iv W) Av<|AA<|Bm Av Av<|Bn (Iv (wq (W+1))) Av<|Ay ?_
 replace a7:=a7.trans bC
 exact dR _ _ ⟨(wq (W+1)),_,Av,BB.of ⟨Av,trivial⟩,a7,b3,(AZ .i64 _),Ed cG J⟩
 refine Br ?_
 have fK:=(aH.trans bC)
 replace a6:=a6.trans fK
 exact fI _ _ ⟨W,_,Av,BB.of ⟨Av,trivial⟩,a6,b3,Rr,J⟩
 intro iX b4
 have aF:=aK.stepR
 refine B9 (g0:=[]) (m:=13) (fl:=[]) (Dc aK) Av (.inl Av) Av (by decide+kernel) ?_  -- 10
 refine Ba (Iv W) (fun _ _ _ hi M=>AD (v:=Iv W) (M 9 Av)<|Gz hi)<|Ba (Sl Ag F Cg) (fun _ _ _ hi M=>AD (v:=Sl Ag F Cg) (M 3 Av)<|Gz hi)<|Ba (Iv (F.length:Int)) (fun _ _ _ hi M=>Bd Try.underlying32 (M 28 Av)<|Gz hi)<|Ba (Bo (decide (W<(F.length:Int)))) (fun _ _ _ hi M=>Bu (M 27 Av) (M 29 Av)<|Gz hi)<|Gf (decide (W<(F.length:Int))) (fun _ _ _ _ hi M=>Az<|AD (v:=Bo (decide (W<(F.length:Int)))) (M 30 Av)<|Gz hi) (fun a8=>?_) (fun a8=>?_)
 replace J:=GA J a8
 refine CV (Sl Ag F Cg) Av Av (fun _ _ _ h=>h) (fun _ _ _ hi M=>AD (v:=Sl Ag F Cg) (M 3 Av)<|Gz hi)<|CV (Iv W) Av Av (fun _ _ _ h=>h) (fun _ _ _ hi M=>AD (v:=Iv W) (M 9 Av)<|Gz hi) ?_
 obtain⟨b5,J⟩:=AG J
 replace Fg:=Fg.step aH
 obtain⟨fL,rfl,rfl⟩:=Fg.at_ (by omega)
 refine Do (Value.pointer (some ⟨fL,W.toNat*2,none⟩)) (fun g1 iY g U hi M=>?_) ?_
 obtain⟨-,aB,-⟩:=U
 replace Fg:=Fg.step aB
 refine BI Av (M 31 Av)<|B7 Ep BW (M 32 Av) (M 33 Av) Fg b5 ?_
 rintro _ ⟨⟩ -
 exact Gz hi
 refine Bc (VD _ _ (vA AO) (gt F W)) (VD.stab _ _) (fun g2 iZ g U hi M=>?_) ?_
 obtain⟨-,aB,-⟩:=U
 replace Fg:=Fg.step aB
 have dN:=(AB.nx hi).1
 refine BI Av (M 31 Av)<|KB (i:=0) BW Av dN Av (M 34 Av) Fg b5 ?_
 intro g3 fM
 obtain⟨_,_,rfl,⟨rfl,Rs⟩,⟨rfl,Rt⟩⟩:=fM
 exact Bs.same hi (show Vr.vd (vA AO) _ _ _ _ from(Jn (Cz (AU (AW Rs) (AW Rt)))))
 refine CV (Sl Af A.1 Cf) Av Av (fun _ _ _ h=>h) (fun _ _ _ hi M=>AD (v:=Sl Af A.1 Cf) (M 6 Av)<|Gz hi)<|CV (Iv N) Av Av (fun _ _ _ h=>h) (fun _ _ _ hi M=>AD (v:=Iv N) (M 8 Av)<|Gz hi) ?_
 obtain⟨b6,J⟩:=AG J
 replace Ff:=Ff.step aH
 refine Bc (VP _ _ AO (gt A.1 N)) (VP.stab _ _) (fun g4 i0 g U hi M=>?_) ?_
 obtain⟨-,aB,-⟩:=U
 replace Ff:=Ff.step aB
 refine BI Av (M 31 Av)<|AC (q:=AO) Ep BW (M 36 Av) (M 37 Av) Ff Av b6.1 b6.2 ?_
 intro i1 fN
 exact Bs.same hi ⟨_,Av,fN⟩
 refine Bc (VD _ _ (vA AO) (gt A.1 N)) (VD.stab _ _) (fun g5 i2 g U hi M=>?_) ?_
 obtain⟨i3,fO,fP⟩:=M 38 Av
 refine BI Av (M 31 Av)<|BF BW fO fP Av ?_
 intro g6 fQ
 obtain⟨_,_,rfl,⟨rfl,Ru⟩,⟨rfl,Rv⟩⟩:=fQ
 exact Bs.same hi (show Vr.vd (vA AO) _ _ _ _ from(Jn (Cz (AU (AW Ru) (AW Rv)))))
 refine BA fun i4 i5 dV dW=>?_
 obtain⟨-,cH,-⟩:=dV
 obtain⟨aV,cX⟩:=AB.nx dW
 rintro i6 b7
 replace b7:Vr.vd (vA AO) _ _ _ _:=b7
 obtain⟨_,rfl,⟨_,_,rfl,⟨rfl,Rw⟩,⟨rfl,Rx⟩⟩⟩:=b7
 rintro _ ⟨i7,rfl,cY⟩ _ rfl _ rfl i8 b9
 replace b9:Vr.vd (vA AO) _ _ _ _:=b9
 obtain⟨_,rfl,⟨_,_,rfl,⟨rfl,Ry⟩,⟨rfl,Rz⟩⟩⟩:=b9
 rintro _ rfl _ rfl _ rfl _ rfl _ rfl _ rfl _ rfl _ rfl
 have fR:=aK.to aV (cH.trans cX)
 replace cY:=cY.step cX
 obtain⟨aQ,dX,J⟩:=bd J
 refine BN Av Av<|Bj aV Try.call63 (GZ (a:=gt F W) (b:=gt A.1 N) aV.ltw Ry Rz Rw Rx dX) Av ?_
 rintro i9 jA fS dY fT
 clear aV
 obtain rfl:=fT
 refine FR (Bo aQ) Av Av<|Ay ?_
 have fU:=(fR.trans fS)
 replace aF:=aF.trans fU
 exact b4 _ _ ⟨aQ,_,Av,BB.of ⟨Av,trivial⟩,aF,dY,J⟩
 replace J:=GB J a8
 iterate 8 refine E7 Av Av (fun _ _ _ h=>h) Av ?_
 refine BA fun jB jC dZ d0=>?_
 obtain⟨-,cI,-⟩:=dZ
 obtain⟨cA,fV⟩:=AB.nx d0
 rintro _ rfl _ rfl _ rfl _ rfl _ rfl _ rfl _ rfl _ rfl _ rfl _ rfl _ rfl _ rfl _ rfl
 have fW:=aK.to cA (cI.trans fV)
 refine AI Av (AJ Av Av) Av<|FF (Bo false) Av Av<|Ay ?_
 replace aF:=aF.trans fW
 exact b4 _ _ ⟨false,_,Av,BB.of ⟨Av,trivial⟩,aF,cA,J⟩
 refine Br ?_
 clear Ff
 refine Aw<|AA<|Bz 1 Bw aD Av Av Av<|Be (Sl Ae G Ce) Av ?_
 obtain⟨Y,d1,J⟩:=bd J
 have aZ:=(eC.trans a1)
 replace Fb:=Fb.step aZ;replace Fa:=Fa.step aZ;replace Fc:=Fc.step aZ;replace Fe:=Fe.step aZ
 refine AA<|Bj aD Try.call58 (H1 (p:=p) (choices:=G) aD.ltw Fa Fb Fc Fe d1) Av ?_
 rintro jD jE cZ d2 fX
 obtain⟨jF,jG,rfl,fY,fZ⟩:=fX
 obtain⟨An,Cn,rfl,Fn⟩:=BH fY
 obtain rfl:=fZ
 refine Be (Value.tuple [Sl An Y.1 Cn,Bo Y.2].toArray) Av<|AA<|Bg (v:=Sl An Y.1 Cn) Av Av<|AA<|Bg (v:=Bo Y.2) Av Av<|Bn (Sl An Y.1 Cn) Av<|Bn (Bo Y.2) Av<|Ay ?_
 replace bE:=bE.trans (aZ.trans cZ);replace Fg:=Fg.step cZ
 exact d7 _ _ ⟨F,Y.1,Y.2,Ag,Cg,Z,aA,An,Cn,_,Av,BB.of ⟨Av,Av,Av,trivial⟩,bE,d2,Fg,Fn,VV c1 J⟩
 refine Br<|Ax ?_
 obtain⟨cB,f0⟩:=aN.sub (bs':=[(aI,aJ)]) (.cons_cons _ (.cons _ List.Sublist.slnil))
 clear Fa Fb Fc Fe
 clear aN
 refine Aw<|Be (Sl Ad aC Cd) Av<|Bn (Sl Ad aC Cd) Av<|Ay<|AY<|⟨_,En,[Sl Ad aC Cd],⟨Av,trivial⟩,cB.ext,?_⟩
 replace Fd:=Fd.step f0
 exact OI.mk (i:=0) cB Av Fd (oi J)
def E3 (p:A9):Option Bool:=
 jn (fun(J:Bool)=>
  bif J then
   some false
  else
   (CH p).bind fun F=>
   bif (decide (F≠0)) then
    some true
   else
    (Du p).bind fun A=>
    some (decide ((A.length:Int)≤6)))
 (fun M=>
  (ER p).bind fun I=>
  bif (!I) then
   M true
  else
   (Eb p 150).bind fun G=>
   M (decide (150≤G)))

theorem IW {w:World} {O:List Nat} {p:A9} {Aa:Option Addr} {Ca:Nat} {Ab:Option Addr} {Cb:Nat} {Ac:Option Addr} {Cc:Nat} (hO:∀k∈O,k<w.heap.size) (Fa:CA B2 w O Aa Ca p.cells) (Fb:CA (BE (AM .i64)) w O Ab Cb p.capacity) (Fc:CA AT w O Ac Cc p.variables) {x:Bool} (F:E3 p=some x):
 Ok Try.prog 11 [Value.agg (C0 p Aa Ca Ab Cb Ac Cc).toArray] w O vB x:=by
 unfold E3 at F
 refine Bt (n:=20) (xs:=[.tmp 2]) Try.func11 Av Try.ntmps11 Try.results11 Av ?_
 have hs:=St.start hO
 refine Ax<|Aw<|AA<|BV (cs:=(C0 p Aa Ca Ab Cb Ac Cc)) hs Av Av ?_
 intro b1 w2 _ p3 Q
 refine Bn (Bo false) Av<|Ay<|Ax<|Wr [] [(1,Pt b1 0)] fun a2=>?_
 obtain⟨k8,aU,F⟩:=Dp F
 refine D8 [3,4,5,6,7,8,9,10] (fun fr w'=>∃(Z:Bool) (aA:Bi),aA=[(some b1,Oc (C0 p Aa Ca Ab Cb Ac Cc) 26)]∧fr [] [(10,Bo Z)]∧Q.S (ks aA O) w'∧St ⟨w,[],[]⟩ O w' aA∧k8 Z=some x) ?_ ?_
 rintro a0 a4 ⟨Z,_,rfl,U,aB,G,F⟩
 replace F:=Ed aU F
 rw [U.eq];clear U
 refine AF F Av (fun aF F=>?_) (fun aF F=>?_)
 refine Ax ?_
 obtain⟨aG,a5⟩:=G.sub (bs':=[]) (.cons _ List.Sublist.slnil)
 clear Fa Fb Fc
 clear G
 refine Aw<|Bn (Bo false) Av<|Ay<|AY<|⟨_,En,[Bo false],⟨Av,trivial⟩,aG.ext,?_⟩
 exact Vr.eq (a:=vB) (x:=false) Av (oi F)
 refine AH<|Ax<|Aw<|AA<|Bz 0 Bw G Av Av Av ?_
 obtain⟨W,aH,F⟩:=bd F
 have aC:=(p3.trans aB)
 replace Fb:=Fb.step aC;replace Fa:=Fa.step aC;replace Fc:=Fc.step aC
 refine AA<|Bj G Try.call31 (FD (p:=p) G.ltw Fa Fb Fc aH) Av ?_
 rintro a6 a7 aD J aV
 clear G
 obtain⟨rfl,Ra⟩:=aV
 refine AA<|FB Av Av<|Be (Bo (decide (W≠0))) Av<|B4 F (fun aI F=>?_) (fun aI F=>?_)
 iterate 4 refine AI Av (AJ Av Av) Av ?_
 refine FR (Bo true) Av Av<|Bn (Bo true) Av<|Ay<|AY<|⟨_,En,[Bo true],⟨Av,trivial⟩,J.ext,?_⟩
 exact Vr.eq (a:=vB) (x:=true) Av (oi F)
 refine BN Av Av<|Bz 0 Bw J Av Av Av ?_
 obtain⟨A,aJ,F⟩:=bd F
 replace Fb:=Fb.step aD;replace Fa:=Fa.step aD;replace Fc:=Fc.step aD
 refine BN Av Av<|FT Try.call32 (GK (p:=p) J.ltw Fa Fb Fc aJ) Av ?_
 rintro _ a8 ⟨aK,a9,bA,bB,aL,rfl,aM,aN⟩
 obtain⟨aO,bC⟩:=J.callG (o:=aL) aK aM
 rw [← Jd (o:=aL)] at aN
 clear J
 refine BN Av Av<|Bd Try.underlying32 Av ?_
 have a1:=Hs aN
 refine BN Av Av<|HZ Av Av<|FF (Bo (decide ((A.length:Int)≤6))) Av Av<|Bn (Bo (decide ((A.length:Int)≤6))) Av<|Ay<|AY<|⟨_,En,[Bo (decide ((A.length:Int)≤6))],⟨Av,trivial⟩,aO.ext,?_⟩
 exact Vr.eq (a:=vB) (x:=decide ((A.length:Int)≤6)) Av (oi F)
 intro bD Y
 have I:=Q.stepR
 refine Aw<|AA<|Bz 0 Bw Q Av Av Av ?_
 obtain⟨aE,aP,F⟩:=bd F
 replace Fb:=Fb.step p3;replace Fa:=Fa.step p3;replace Fc:=Fc.step p3
 refine AA<|Bj Q Try.call18 (JB (p:=p) Q.ltw Fa Fb Fc aP) Av ?_
 rintro bE bF X M aW
 obtain rfl:=aW
 refine AA<|Es Av<|Be (Bo (!aE)) Av<|B4 F (fun aQ F=>?_) (fun aQ F=>?_)
 iterate 3 refine AI Av (AJ Av Av) Av ?_
 refine FR (Bo true) Av Av<|Ay ?_
 replace I:=I.trans X
 exact Y _ _ ⟨true,_,Av,BB.of ⟨Av,trivial⟩,I,M,F⟩
 refine BN Av Av<|Bz 0 Bw M Av Av Av ?_
 obtain⟨N,aR,F⟩:=bd F
 replace Fb:=Fb.step X;replace Fa:=Fa.step X;replace Fc:=Fc.step X
 refine BN Av Av<|Bj M Try.call30 (H0 (p:=p) (limit:=150) M.ltw Fa Fb Fc (show BR .i64 150 from by decide) aR) Av ?_
 rintro bG bH aX aS aY
 clear M
 obtain⟨rfl,Rb⟩:=aY
 refine BN Av Av<|Hk Av Av<|FF (Bo (decide (150≤N))) Av Av<|Ay ?_
 replace I:=I.trans (X.trans aX)
 exact Y _ _ ⟨decide (150≤N),_,Av,BB.of ⟨Av,trivial⟩,I,aS,F⟩

abbrev Xh:List Nat:=[56,57,58,59,60,61,62,63,64,65,66,67,68,69,70,71,72,73,74,75,76,77,78,79,80,81,82,83,84,85,86,87,88,89,90,91,92,93,94]

abbrev UC:List Nat:=[4,7,8,44,45,46,47,48,49,50,51,52,53,54,55,56,57,58,59,60,61,62,63,64,65,66,67,68,69,70,71,72,73,74,75,76,77,78,79,80,81,82,83,84,85,86,87,88,89,90,91,92,93,94]

abbrev Xi:List Nat:=[21,22,23,24,25,26,27,28,29,30,31,32,33,34,35,36,37,38,39,40,41,42,43]

abbrev UD:List Nat:=[4,5,6,9,10,11,12,13,14,15,16,17,18,19,20,21,22,23,24,25,26,27,28,29,30,31,32,33,34,35,36,37,38,39,40,41,42,43]

def CF (p:A9) (r_:AS) (I:Int→Option Bool) (A:Int):Option Bool:=
 bif (decide (A<(r_.places.length:Int))) then
  ck ((0:Int)≤A∧A<(r_.places.length:Int))<|
  jn (fun(J:Bool)=>
   bif J then
    some false
   else
    I (IntKind.wrap .i64 (A+1)))
  (fun F=>
   bif (decide (((r_.places.getD A.toNat default).leaf)<0)) then
    F true
   else
    bif (decide ((p.capacity.length:Int)≤((r_.places.getD A.toNat default).leaf))) then
     F true
    else
     bif (decide (((r_.places.getD A.toNat default).cell)<0)) then
      F true
     else
      bif (decide ((p.cells.length:Int)≤((r_.places.getD A.toNat default).cell))) then
       F true
      else
       bif (decide (0<A)) then
        ck ((0:Int)≤(IntKind.wrap .i64 (A - 1))∧(IntKind.wrap .i64 (A - 1))<(r_.places.length:Int))<|
        (DI (r_.places.getD (IntKind.wrap .i64 (A - 1)).toNat default) (r_.places.getD A.toNat default)).bind fun G=>
        F (!G)
       else
        F false)
 else
  some true

def CG (p:A9) (r_:AS) (G:Int→Option Bool) (A:Int):Option Bool:=
 bif (decide (A<(r_.variables.length:Int))) then
  ck ((0:Int)≤A∧A<(r_.variables.length:Int))<|
  jn (fun(I:Bool)=>
   bif I then
    some false
   else
    G (IntKind.wrap .i64 (A+1)))
  (fun F=>
   bif (decide ((r_.variables.getD A.toNat default)<0)) then
    F true
   else
    bif (decide ((p.variables.length:Int)≤(r_.variables.getD A.toNat default))) then
     F true
    else
     bif (decide (0<A)) then
      ck ((0:Int)≤(IntKind.wrap .i64 (A - 1))∧(IntKind.wrap .i64 (A - 1))<(r_.variables.length:Int))<|
      F (decide ((r_.variables.getD A.toNat default)≤(r_.variables.getD (IntKind.wrap .i64 (A - 1)).toNat default)))
     else
      F false)
 else
  B1 (CF p r_) (((r_.places.length:Int) - 0).toNat+1) 0

def FE (p:A9) (r_:AS):Option Bool:=
 B1 (CG p r_) (((r_.variables.length:Int) - 0).toNat+1) 0

theorem IX {w:World} {O:List Nat} {p:A9} {r_:AS} {Aa:Option Addr} {Ca:Nat} {Ab:Option Addr} {Cb:Nat} {Ac:Option Addr} {Cc:Nat} {Ad:Option Addr} {Cd:Nat} {Ae:Option Addr} {Ce:Nat} (hO:∀k∈O,k<w.heap.size) (Fa:CA B2 w O Aa Ca p.cells) (Fb:CA (BE (AM .i64)) w O Ab Cb p.capacity) (Fc:CA AT w O Ac Cc p.variables) (Fd:CA (AM .i64) w O Ad Cd r_.variables) (Fe:CA AO w O Ae Ce r_.places) {x:Bool} (G:FE p r_=some x):
 Ok Try.prog 56 [Value.agg (C0 p Aa Ca Ab Cb Ac Cc).toArray,Value.agg [Sl Ad r_.variables Cd,Sl Ae r_.places Ce].toArray] w O vB x:=by
 unfold FE at G
 refine Bt (n:=95) (xs:=[.tmp 4]) Try.func56 Av Try.ntmps56 Try.results56 Av ?_
 have hs:=St.start hO
 refine Ax<|Aw<|AA<|BV (cs:=(C0 p Aa Ca Ab Cb Ac Cc)) hs Av Av ?_
 intro b1 w2 _ p3 b0
 refine AA<|BV (cs:=[Sl Ad r_.variables Cd,Sl Ae r_.places Ce]) b0 Av Av ?_
 intro b6 w7 _ p8 b2
 clear b0
 refine Bn (Bo false) Av<|Ay<|Ax<|Ax<|Aw<|Bn (Iv 0) Av<|Ay<|AE<|Wr [] [(2,Pt b1 0),(3,Pt b6 0),(5,Iv 0)] fun b3=>Bh UD (fun m fr w'=>∃(J:Int) (N:Bi),N=[(some b6,Oc [Sl Ad r_.variables Cd,Sl Ae r_.places Ce] 34),(some b1,Oc (C0 p Aa Ca Ab Cb Ac Cc) 26)]∧fr [] [(5,Iv J)]∧b2.S (ks N O) w'∧St ⟨w,[],[]⟩ O w' N∧BR .i64 J∧B1 (CG p r_) m J=some x) (((r_.variables.length:Int) - 0).toNat+1) ⟨0,_,Av,BB.of ⟨Av,trivial⟩,AB.refl _ _,b2,EG,G⟩ ?_ ?_
 rintro _ _ ⟨_,_,_,_,_,_,_,G⟩;exact Dg G
 rintro eG eH b4 dH eI ⟨J,_,rfl,aI,aJ,M,Ra,G⟩
 obtain⟨dI,bE,G⟩:=Dh G;unfold CG at G
 rw [aI.eq];clear aI
 have aK:=aJ
 refine Ax<|Ax<|Aw<|Be (Iv J) Av<|AA<|AP 0 Dq Av Bp Av Av<|AA<|AQ 0 Bp M Av Av Av<|AA<|Bd Try.underlying31 Av ?_
 have bF:=(p3.trans (p8.trans aJ))
 replace Fd:=Fd.step bF
 have dJ:=Bb Fd
 refine AA<|Bu Av Av<|Ay<|AF G Av (fun b5 G=>?_) (fun b5 G=>?_)
 refine AH<|Ax<|AE<|Ax<|Aw<|AA<|AP 0 Dq Av Bp Av Av<|AA<|AQ 0 Bp M Av Av Av<|Be (Iv J) Av ?_
 obtain⟨a7,G⟩:=AG G
 refine AA<|AC (q:=(AM .i64)) Bp BD Av Av Fd Av a7.1 a7.2 ?_
 intro eJ aZ
 refine AA<|AX BD Av aZ Av ?_
 intro eK c4
 obtain⟨rfl,Rb⟩:=C3 c4
 refine Bn (Iv (gt r_.variables J)) Av<|Ay<|Ip UD [] (CK ⟨b3,[]⟩ [(2,Pt b1 0),(3,Pt b6 0),(5,Iv 0)]) [(5,Iv J),(6,Iv (gt r_.variables J))] fun dK=>?_
 obtain⟨c5,b7,G⟩:=Dp G
 refine D8 Xi (fun fr w'=>∃(bG:Bool) (N:Bi),N=[(some b6,Oc [Sl Ad r_.variables Cd,Sl Ae r_.places Ce] 34),(some b1,Oc (C0 p Aa Ca Ab Cb Ac Cc) 26)]∧fr [] [(43,Bo bG)]∧M.S (ks N O) w'∧St ⟨w,[],[]⟩ O w' N∧c5 bG=some x) ?_ ?_
 rintro dL eL ⟨bG,_,rfl,aL,bH,a8,G⟩
 replace G:=Ed b7 G
 rw [aL.eq];clear aL
 refine AF G Av (fun b8 G=>?_) (fun b8 G=>?_)
 refine Ax ?_
 clear aZ
 refine Aw<|Bn (Bo false) Av<|Ay<|AY<|⟨_,En,[Bo false],⟨Av,trivial⟩,a8.ext,?_⟩
 exact Vr.eq (a:=vB) (x:=false) Av (oi G)
 refine AH ?_
 clear aZ
 refine Aw<|Be (Iv J) Av<|AA<|Bm Av Av<|Bn (Iv (wq (J+1))) Av<|Ay ?_
 replace aK:=aK.trans bH
 exact b4 _ _ ⟨(wq (J+1)),_,Av,BB.of ⟨Av,trivial⟩,aK,a8,(AZ .i64 _),Ed bE G⟩
 intro eM aE
 have aF:=M.stepR
 clear aZ
 refine Aw<|Be (Iv (gt r_.variables J)) Av<|AA<|Bu Av Av<|Be (Bo (decide ((gt r_.variables J)<0))) Av<|B4 G (fun b9 G=>?_) (fun b9 G=>?_)
 iterate 5 refine AI Av (AJ Av Av) Av ?_
 refine FR (Bo true) Av Av<|Be (Bo true) Av ?_
 iterate 12 refine AI Av (AJ Av Av) Av ?_
 exact FR (Bo true) Av Av<|Ay<|aE _ _ ⟨true,_,Av,BB.of ⟨Av,trivial⟩,aF,M,G⟩
 refine BN Av Av<|AD (v:=Iv (gt r_.variables J)) Av<|BN Av Av<|AP 2 Bw Av CI Av Av<|BN Av Av<|AQ 1 CI M Av Av Av<|BN Av Av<|Bd Try.underlying24 Av ?_
 replace Fc:=Fc.step bF
 have dM:=Bb Fc
 refine BN Av Av<|Hk Av Av<|FF (Bo (decide ((p.variables.length:Int)≤(gt r_.variables J)))) Av Av<|Be (Bo (decide ((p.variables.length:Int)≤(gt r_.variables J)))) Av<|B4 G (fun cA G=>?_) (fun cA G=>?_)
 iterate 12 refine AI Av (AJ Av Av) Av ?_
 exact FR (Bo true) Av Av<|Ay<|aE _ _ ⟨true,_,Av,BB.of ⟨Av,trivial⟩,aF,M,G⟩
 refine BN Av Av<|AD (v:=Iv J) Av<|BN Av Av<|EY Av Av<|BN Av Av<|AD (v:=Bo (decide (0<J))) Av<|B4 G (fun cB G=>?_) (fun cB G=>?_)
 refine BN Av Av<|AD (v:=Iv (gt r_.variables J)) Av<|BN Av Av<|AP 0 Dq Av Bp Av Av<|BN Av Av<|AQ 0 Bp M Av Av Av<|BN Av Av<|AD (v:=Iv J) Av<|BN Av Av<|FC Av Av ?_
 obtain⟨a9,G⟩:=AG G
 refine BN Av Av<|AC (q:=(AM .i64)) Bp BD Av Av Fd Av a9.1 a9.2 ?_
 intro eN c6
 refine BN Av Av<|AX BD Av c6 Av ?_
 intro eO c7
 obtain⟨rfl,Rc⟩:=C3 c7
 exact BN Av Av<|HZ Av Av<|BN Av Av<|C6 (v:=Bo (decide ((gt r_.variables J)≤(gt r_.variables (wq (J - 1)))))) Av Av<|FF (Bo (decide ((gt r_.variables J)≤(gt r_.variables (wq (J - 1)))))) Av Av<|Ay<|aE _ _ ⟨decide ((gt r_.variables J)≤(gt r_.variables (wq (J - 1)))),_,Av,BB.of ⟨Av,trivial⟩,aF,M,G⟩
 iterate 8 refine AI Av (AJ Av Av) Av ?_
 exact BN Av Av<|Ek (v:=Bo false) Av Av<|FF (Bo false) Av Av<|Ay<|aE _ _ ⟨false,_,Av,BB.of ⟨Av,trivial⟩,aF,M,G⟩
 refine Br<|Ax<|Ax<|Aw<|Bn (Iv 0) Av<|Ay<|AE<|Wr [] [(2,Pt b1 0),(3,Pt b6 0),(7,Iv 0)] fun cC=>Bh UC (fun m fr w'=>∃(F:Int) (N:Bi),N=[(some b6,Oc [Sl Ad r_.variables Cd,Sl Ae r_.places Ce] 34),(some b1,Oc (C0 p Aa Ca Ab Cb Ac Cc) 26)]∧fr [] [(7,Iv F)]∧M.S (ks N O) w'∧St ⟨w,[],[]⟩ O w' N∧BR .i64 F∧B1 (CF p r_) m F=some x) (((r_.places.length:Int) - 0).toNat+1) ⟨0,_,Av,BB.of ⟨Av,trivial⟩,AB.refl _ _,M,EG,G⟩ ?_ ?_
 rintro _ _ ⟨_,_,_,_,_,_,_,G⟩;exact Dg G
 rintro eP eQ cD dN eR ⟨F,_,rfl,aM,aN,W,Rd,G⟩
 obtain⟨dO,bI,G⟩:=Dh G;unfold CF at G
 rw [aM.eq];clear aM
 have aO:=aN
 refine Ax<|Ax<|Aw<|Be (Iv F) Av<|AA<|AP 1 Dq Av Ep Av Av<|AA<|AQ 0 Ep W Av Av Av<|AA<|Bd Try.underlying32 Av ?_
 have c8:=(bF.trans aN)
 replace Fe:=Fe.step c8
 have dP:=Bb Fe
 refine AA<|Bu Av Av<|Ay<|AF G Av (fun cE G=>?_) (fun cE G=>?_)
 refine AH<|Ax<|AE<|Ax<|Aw<|AA<|AP 1 Dq Av Ep Av Av<|AA<|AQ 0 Ep W Av Av Av<|Be (Iv F) Av ?_
 obtain⟨bA,G⟩:=AG G
 refine AA<|AC (q:=AO) Ep BW Av Av Fe Av bA.1 bA.2 ?_
 intro eS a0
 refine AA<|BF BW Av a0 Av ?_
 intro dQ c9
 obtain⟨_,_,rfl,⟨rfl,Re⟩,⟨rfl,Rf⟩⟩:=c9
 refine AA<|Bx BW W ?_
 intro aH eT _ cF bB
 clear W
 refine Bk<|Cx .z BW bB Av Av Av Av Av ?_
 intro eU cG Q
 clear bB
 refine Ay<|Ip UC [] (CK ⟨cC,[]⟩ [(2,Pt b1 0),(3,Pt b6 0),(7,Iv 0)]) [(7,Iv F),(8,Pt aH 0)] fun dR=>?_
 obtain⟨dA,cH,G⟩:=Dp G
 refine D8 Xh (fun fr w'=>∃(bJ:Bool) (N:Bi),N=[(some aH,Oc [Iv ((gt r_.places F).leaf),Iv ((gt r_.places F).cell)] 45),(some b6,Oc [Sl Ad r_.variables Cd,Sl Ae r_.places Ce] 34),(some b1,Oc (C0 p Aa Ca Ab Cb Ac Cc) 26)]∧fr [] [(94,Bo bJ)]∧Q.S (ks N O) w'∧St ⟨w,[],[]⟩ O w' N∧dA bJ=some x) ?_ ?_
 rintro dS eV ⟨bJ,_,rfl,aP,bK,aG,G⟩
 replace G:=Ed cH G
 rw [aP.eq];clear aP
 refine AF G Av (fun cI G=>?_) (fun cI G=>?_)
 refine Ax ?_
 clear a0
 refine Aw<|Bn (Bo false) Av<|Ay<|AY<|⟨_,En,[Bo false],⟨Av,trivial⟩,aG.ext,?_⟩
 exact Vr.eq (a:=vB) (x:=false) Av (oi G)
 refine AH ?_
 clear a0
 refine Aw<|Be (Iv F) Av<|AA<|Bm Av Av<|Bn (Iv (wq (F+1))) Av<|Ay ?_
 have cJ:=aG.drop 0
 have dB:=(aG.dropS 0)
 clear aG
 have dC:=(cF.trans (cG.trans (bK.trans dB)))
 replace aO:=aO.trans dC
 exact cD _ _ ⟨(wq (F+1)),_,Av,BB.of ⟨Av,trivial⟩,aO,cJ,(AZ .i64 _),Ed bI G⟩
 intro eW X
 have I:=Q.stepR
 clear a0
 refine B9 (g0:=[]) (m:=35) (fl:=[]) (Dc Q) Av (.inl Av) Av (by decide+kernel) ?_  -- 11
 refine Ba (Pt aH 0) (fun _ _ _ hi A=>AP 0 BW Av BD (A 8 Av) Av<|Gz hi)<|Ba (Iv ((gt r_.places F).leaf)) (fun _ _ _ hi A=>AQ 0 BD (AB.nx hi).1 (A 56 Av) Av Av<|Gz hi)<|Ba (Bo (decide (((gt r_.places F).leaf)<0))) (fun _ _ _ hi A=>Bu (A 57 Av) Av<|Gz hi)<|Gf (decide (((gt r_.places F).leaf)<0)) (fun _ _ _ _ hi A=>Az<|AD (v:=Bo (decide (((gt r_.places F).leaf)<0))) (A 58 Av)<|Gz hi) (fun Z=>?_) (fun Z=>?_)
 replace G:=GA G Z
 iterate 6 refine E7 Av Av (fun _ _ _ h=>h) Av ?_
 refine Ba (Bo true) (fun _ _ _ hi A=>C6 (v:=Bo true) (A 59 Av) Av<|Gz hi)<|Ba (Bo true) (fun _ _ _ hi A=>AD (v:=Bo true) (A 66 Av)<|Gz hi) ?_
 iterate 3 refine E7 Av Av (fun _ _ _ h=>h) Av ?_
 refine Ba (Bo true) (fun _ _ _ hi A=>C6 (v:=Bo true) (A 67 Av) Av<|Gz hi)<|Ba (Bo true) (fun _ _ _ hi A=>AD (v:=Bo true) (A 71 Av)<|Gz hi) ?_
 iterate 6 refine E7 Av Av (fun _ _ _ h=>h) Av ?_
 refine Ba (Bo true) (fun _ _ _ hi A=>C6 (v:=Bo true) (A 72 Av) Av<|Gz hi)<|Ba (Bo true) (fun _ _ _ hi A=>AD (v:=Bo true) (A 79 Av)<|Gz hi) ?_
 iterate 10 refine E7 Av Av (fun _ _ _ h=>h) Av ?_
 refine BA fun dT dU bL bM=>?_
 obtain⟨-,a1,-⟩:=bL
 obtain⟨aQ,cK⟩:=AB.nx bM
 rintro _ rfl _ rfl _ rfl _ rfl _ rfl _ rfl _ rfl _ rfl _ rfl _ rfl _ rfl _ rfl _ rfl _ rfl _ rfl _ rfl _ rfl _ rfl _ rfl _ rfl _ rfl _ rfl _ rfl _ rfl _ rfl _ rfl _ rfl _ rfl _ rfl _ rfl _ rfl _ rfl _ rfl _ rfl _ rfl
 have cL:=Q.to aQ (a1.trans cK)
 iterate 3 refine AI Av (AJ Av Av) Av ?_
 refine FR (Bo true) Av Av<|Ay ?_
 replace I:=I.trans cL
 exact X _ _ ⟨true,_,Av,BB.of ⟨Av,trivial⟩,I,aQ,G⟩
 replace G:=GB G Z
 refine CV (Pt aH 0) Av Av (fun _ _ _ h=>h) (fun _ _ _ hi A=>AP 0 BW Av BD (A 8 Av) Av<|Gz hi)<|CV (Iv ((gt r_.places F).leaf)) Av Av (fun _ _ _ h=>h) (fun _ _ _ hi A=>AQ 0 BD (AB.nx hi).1 (A 60 Av) Av Av<|Gz hi)<|CV (Pt b1 1) Av Av (fun _ _ _ h=>h) (fun _ _ _ hi A=>AP 1 Bw Av CB (A 2 Av) Av<|Gz hi)<|CV (Sl Ab p.capacity Cb) Av Av (fun _ _ _ h=>h) (fun _ _ _ hi A=>AQ 2 CB (AB.nx hi).1 (A 62 Av) Av Av<|Gz hi)<|CV (Iv (p.capacity.length:Int)) Av Av (fun _ _ _ h=>h) (fun _ _ _ hi A=>Bd Try.underlying23 (A 63 Av)<|Gz hi)<|CV (Bo (decide ((p.capacity.length:Int)≤((gt r_.places F).leaf)))) Av Av (fun _ _ _ h=>h) (fun _ _ _ hi A=>Hk (A 61 Av) (A 64 Av)<|Gz hi)<|Ba (Bo (decide ((p.capacity.length:Int)≤((gt r_.places F).leaf)))) (fun _ _ _ hi A=>Ek (v:=Bo (decide ((p.capacity.length:Int)≤((gt r_.places F).leaf)))) (A 59 Av) (A 65 Av)<|Gz hi)<|Gf (decide ((p.capacity.length:Int)≤((gt r_.places F).leaf))) (fun _ _ _ _ hi A=>Az<|AD (v:=Bo (decide ((p.capacity.length:Int)≤((gt r_.places F).leaf)))) (A 66 Av)<|Gz hi) (fun aA=>?_) (fun aA=>?_)
 replace G:=GA G aA
 iterate 3 refine E7 Av Av (fun _ _ _ h=>h) Av ?_
 refine Ba (Bo true) (fun _ _ _ hi A=>C6 (v:=Bo true) (A 67 Av) Av<|Gz hi)<|Ba (Bo true) (fun _ _ _ hi A=>AD (v:=Bo true) (A 71 Av)<|Gz hi) ?_
 iterate 6 refine E7 Av Av (fun _ _ _ h=>h) Av ?_
 refine Ba (Bo true) (fun _ _ _ hi A=>C6 (v:=Bo true) (A 72 Av) Av<|Gz hi)<|Ba (Bo true) (fun _ _ _ hi A=>AD (v:=Bo true) (A 79 Av)<|Gz hi) ?_
 iterate 10 refine E7 Av Av (fun _ _ _ h=>h) Av ?_
 refine BA fun dV dW bN bO=>?_
 obtain⟨-,a2,-⟩:=bN
 obtain⟨aR,cM⟩:=AB.nx bO
 rintro _ rfl _ rfl _ rfl _ rfl _ rfl _ rfl _ rfl _ rfl _ rfl _ rfl _ rfl _ rfl _ rfl _ rfl _ rfl _ rfl _ rfl _ rfl _ rfl _ rfl _ rfl _ rfl _ rfl _ rfl _ rfl _ rfl _ rfl _ rfl _ rfl _ rfl _ rfl _ rfl _ rfl _ rfl _ rfl
 have cN:=Q.to aR (a2.trans cM)
 iterate 3 refine AI Av (AJ Av Av) Av ?_
 refine FR (Bo true) Av Av<|Ay ?_
 replace I:=I.trans cN
 exact X _ _ ⟨true,_,Av,BB.of ⟨Av,trivial⟩,I,aR,G⟩
 replace G:=GB G aA
 refine CV (Pt aH 1) Av Av (fun _ _ _ h=>h) (fun _ _ _ hi A=>AP 1 BW Av BD (A 8 Av) Av<|Gz hi)<|CV (Iv ((gt r_.places F).cell)) Av Av (fun _ _ _ h=>h) (fun _ _ _ hi A=>AQ 0 BD (AB.nx hi).1 (A 68 Av) Av Av<|Gz hi)<|CV (Bo (decide (((gt r_.places F).cell)<0))) Av Av (fun _ _ _ h=>h) (fun _ _ _ hi A=>Bu (A 69 Av) Av<|Gz hi)<|Ba (Bo (decide (((gt r_.places F).cell)<0))) (fun _ _ _ hi A=>Ek (v:=Bo (decide (((gt r_.places F).cell)<0))) (A 67 Av) (A 70 Av)<|Gz hi)<|Gf (decide (((gt r_.places F).cell)<0)) (fun _ _ _ _ hi A=>Az<|AD (v:=Bo (decide (((gt r_.places F).cell)<0))) (A 71 Av)<|Gz hi) (fun aB=>?_) (fun aB=>?_)
 replace G:=GA G aB
 iterate 6 refine E7 Av Av (fun _ _ _ h=>h) Av ?_
 refine Ba (Bo true) (fun _ _ _ hi A=>C6 (v:=Bo true) (A 72 Av) Av<|Gz hi)<|Ba (Bo true) (fun _ _ _ hi A=>AD (v:=Bo true) (A 79 Av)<|Gz hi) ?_
 iterate 10 refine E7 Av Av (fun _ _ _ h=>h) Av ?_
 refine BA fun dX dY bP bQ=>?_
 obtain⟨-,a3,-⟩:=bP
 obtain⟨aS,cO⟩:=AB.nx bQ
 rintro _ rfl _ rfl _ rfl _ rfl _ rfl _ rfl _ rfl _ rfl _ rfl _ rfl _ rfl _ rfl _ rfl _ rfl _ rfl _ rfl _ rfl _ rfl _ rfl _ rfl _ rfl _ rfl _ rfl _ rfl _ rfl _ rfl _ rfl _ rfl _ rfl _ rfl _ rfl _ rfl _ rfl _ rfl _ rfl
 have cP:=Q.to aS (a3.trans cO)
 iterate 3 refine AI Av (AJ Av Av) Av ?_
 refine FR (Bo true) Av Av<|Ay ?_
 replace I:=I.trans cP
 exact X _ _ ⟨true,_,Av,BB.of ⟨Av,trivial⟩,I,aS,G⟩
 replace G:=GB G aB
 refine CV (Pt aH 1) Av Av (fun _ _ _ h=>h) (fun _ _ _ hi A=>AP 1 BW Av BD (A 8 Av) Av<|Gz hi)<|CV (Iv ((gt r_.places F).cell)) Av Av (fun _ _ _ h=>h) (fun _ _ _ hi A=>AQ 0 BD (AB.nx hi).1 (A 73 Av) Av Av<|Gz hi)<|CV (Pt b1 0) Av Av (fun _ _ _ h=>h) (fun _ _ _ hi A=>AP 0 Bw Av F1 (A 2 Av) Av<|Gz hi)<|CV (Sl Aa p.cells Ca) Av Av (fun _ _ _ h=>h) (fun _ _ _ hi A=>AQ 2 F1 (AB.nx hi).1 (A 75 Av) Av Av<|Gz hi)<|CV (Iv (p.cells.length:Int)) Av Av (fun _ _ _ h=>h) (fun _ _ _ hi A=>Bd Try.underlying22 (A 76 Av)<|Gz hi)<|CV (Bo (decide ((p.cells.length:Int)≤((gt r_.places F).cell)))) Av Av (fun _ _ _ h=>h) (fun _ _ _ hi A=>Hk (A 74 Av) (A 77 Av)<|Gz hi)<|Ba (Bo (decide ((p.cells.length:Int)≤((gt r_.places F).cell)))) (fun _ _ _ hi A=>Ek (v:=Bo (decide ((p.cells.length:Int)≤((gt r_.places F).cell)))) (A 72 Av) (A 78 Av)<|Gz hi)<|Gf (decide ((p.cells.length:Int)≤((gt r_.places F).cell))) (fun _ _ _ _ hi A=>Az<|AD (v:=Bo (decide ((p.cells.length:Int)≤((gt r_.places F).cell)))) (A 79 Av)<|Gz hi) (fun aC=>?_) (fun aC=>?_)
 replace G:=GA G aC
 iterate 10 refine E7 Av Av (fun _ _ _ h=>h) Av ?_
 refine BA fun dZ d0 bR bS=>?_
 obtain⟨-,a4,-⟩:=bR
 obtain⟨aT,cQ⟩:=AB.nx bS
 rintro _ rfl _ rfl _ rfl _ rfl _ rfl _ rfl _ rfl _ rfl _ rfl _ rfl _ rfl _ rfl _ rfl _ rfl _ rfl _ rfl _ rfl _ rfl _ rfl _ rfl _ rfl _ rfl _ rfl _ rfl _ rfl _ rfl _ rfl _ rfl _ rfl _ rfl _ rfl _ rfl _ rfl _ rfl _ rfl
 have cR:=Q.to aT (a4.trans cQ)
 iterate 3 refine AI Av (AJ Av Av) Av ?_
 refine FR (Bo true) Av Av<|Ay ?_
 replace I:=I.trans cR
 exact X _ _ ⟨true,_,Av,BB.of ⟨Av,trivial⟩,I,aT,G⟩
 replace G:=GB G aC
 refine CV (Iv F) Av Av (fun _ _ _ h=>h) (fun _ _ _ hi A=>AD (v:=Iv F) (A 7 Av)<|Gz hi)<|CV (Bo (decide (0<F))) Av Av (fun _ _ _ h=>h) (fun _ _ _ hi A=>EY (A 81 Av) Av<|Gz hi)<|Gf (decide (0<F)) (fun _ _ _ _ hi A=>BI Av (A 80 Av)<|AD (v:=Bo (decide (0<F))) (A 82 Av)<|Gz hi) (fun aD=>?_) (fun aD=>?_)
 replace G:=GA G aD
 refine CV (Pt b6 1) Av Av (fun _ _ _ h=>h) (fun _ _ _ hi A=>AP 1 Dq Av Ep (A 3 Av) Av<|Gz hi)<|CV (Sl Ae r_.places Ce) Av Av (fun _ _ _ h=>h) (fun _ _ _ hi A=>AQ 1 Ep (AB.nx hi).1 (A 84 Av) Av Av<|Gz hi)<|CV (Iv F) Av Av (fun _ _ _ h=>h) (fun _ _ _ hi A=>AD (v:=Iv F) (A 7 Av)<|Gz hi)<|CV (Iv (wq (F - 1))) Av Av (fun _ _ _ h=>h) (fun _ _ _ hi A=>FC (A 86 Av) Av<|Gz hi) ?_
 obtain⟨aU,G⟩:=AG G
 have cS:=(cF.trans cG)
 replace Fe:=Fe.step cS
 refine Bc (VP _ _ AO (gt r_.places (wq (F - 1)))) (VP.stab _ _) (fun dD d1 g cT hi A=>?_) ?_
 obtain⟨-,dE,-⟩:=cT
 replace Fe:=Fe.step dE
 refine BI Av (A 83 Av)<|AC (q:=AO) Ep BW (A 85 Av) (A 87 Av) Fe Av aU.1 aU.2 ?_
 intro d2 cU
 exact Bs.same hi ⟨_,Av,cU⟩
 refine Bc (VD _ _ (vA AO) (gt r_.places (wq (F - 1)))) (VD.stab _ _) (fun dF d3 g cT hi A=>?_) ?_
 obtain⟨d4,cV,cW⟩:=A 88 Av
 refine BI Av (A 83 Av)<|BF BW cV cW Av ?_
 intro dG cX
 obtain⟨_,_,rfl,⟨rfl,Rg⟩,⟨rfl,Rh⟩⟩:=cX
 exact Bs.same hi (show Vr.vd (vA AO) _ _ _ _ from(Jn (Cz (AU (AW Rg) (AW Rh)))))
 refine CV (Value.agg [Iv ((gt r_.places F).leaf),Iv ((gt r_.places F).cell)].toArray) Av Av (fun _ _ _ h=>h) (fun _ _ _ hi A=>Bz 0 BW (AB.nx hi).1 (A 8 Av) Av Av<|Gz hi)<|BA fun d5 d6 bT bU=>?_
 obtain⟨-,a5,-⟩:=bT
 obtain⟨Y,bC⟩:=AB.nx bU
 rintro _ rfl d7 aV
 replace aV:Vr.vd (vA AO) _ _ _ _:=aV
 obtain⟨_,rfl,⟨_,_,rfl,⟨rfl,Ri⟩,⟨rfl,Rj⟩⟩⟩:=aV
 rintro _ ⟨d8,rfl,bD⟩ _ rfl _ rfl _ rfl _ rfl _ rfl _ rfl _ rfl _ rfl _ rfl _ rfl _ rfl _ rfl _ rfl _ rfl _ rfl _ rfl _ rfl _ rfl _ rfl _ rfl _ rfl _ rfl _ rfl _ rfl _ rfl _ rfl _ rfl _ rfl _ rfl _ rfl _ rfl _ rfl
 have cY:=Q.to Y (a5.trans bC)
 replace bD:=bD.step bC
 obtain⟨U,bV,G⟩:=bd G
 refine BN Av Av<|Bj Y Try.call63 (GZ (a:=gt r_.places (wq (F - 1))) (b:=gt r_.places F) Y.ltw Ri Rj Re Rf bV) Av ?_
 rintro d9 eA cZ bW c0
 clear Y
 obtain rfl:=c0
 refine BN Av Av<|Es Av<|BN Av Av<|C6 (v:=Bo (!U)) Av Av<|FF (Bo (!U)) Av Av<|Ay ?_
 have c1:=(cY.trans cZ)
 replace I:=I.trans c1
 exact X _ _ ⟨!U,_,Av,BB.of ⟨Av,trivial⟩,I,bW,G⟩
 replace G:=GB G aD
 iterate 7 refine E7 Av Av (fun _ _ _ h=>h) Av ?_
 refine BA fun eB eC bX bY=>?_
 obtain⟨-,a6,-⟩:=bX
 obtain⟨aW,c2⟩:=AB.nx bY
 rintro _ rfl _ rfl _ rfl _ rfl _ rfl _ rfl _ rfl _ rfl _ rfl _ rfl _ rfl _ rfl _ rfl _ rfl _ rfl _ rfl _ rfl _ rfl _ rfl _ rfl _ rfl _ rfl _ rfl _ rfl _ rfl _ rfl _ rfl _ rfl _ rfl _ rfl _ rfl _ rfl _ rfl _ rfl _ rfl
 have c3:=Q.to aW (a6.trans c2)
 refine AI Av (AJ Av Av) Av<|AI Av (AJ Av Av) Av<|BN Av Av<|Ek (v:=Bo false) Av Av<|FF (Bo false) Av Av<|Ay ?_
 replace I:=I.trans c3
 exact X _ _ ⟨false,_,Av,BB.of ⟨Av,trivial⟩,I,aW,G⟩
 refine Br<|Ax ?_
 obtain⟨bZ,eD⟩:=W.sub (bs':=[]) (.cons _ (.cons _ List.Sublist.slnil))
 clear Fa Fb Fc Fd Fe
 clear W
 refine Aw<|Bn (Bo true) Av<|Ay<|AY<|⟨_,En,[Bo true],⟨Av,trivial⟩,bZ.ext,?_⟩
 exact Vr.eq (a:=vB) (x:=true) Av (oi G)

def E4 (p:A9) (r_:AS):Option Int:=
 (CH p).bind fun A=>
 bif (decide (A≠0)) then
  some A
 else
  (FE p r_).bind fun F=>
  bif (!F) then
   some 320
  else
   some 0

theorem IY {w:World} {O:List Nat} {p:A9} {r_:AS} {Aa:Option Addr} {Ca:Nat} {Ab:Option Addr} {Cb:Nat} {Ac:Option Addr} {Cc:Nat} {Ad:Option Addr} {Cd:Nat} {Ae:Option Addr} {Ce:Nat} (hO:∀k∈O,k<w.heap.size) (Fa:CA B2 w O Aa Ca p.cells) (Fb:CA (BE (AM .i64)) w O Ab Cb p.capacity) (Fc:CA AT w O Ac Cc p.variables) (Fd:CA (AM .i64) w O Ad Cd r_.variables) (Fe:CA AO w O Ae Ce r_.places) {x:Int} (G:E4 p r_=some x):
 Ok Try.prog 24 [Value.agg (C0 p Aa Ca Ab Cb Ac Cc).toArray,Value.agg [Sl Ad r_.variables Cd,Sl Ae r_.places Ce].toArray] w O (vI .i64) x:=by
 unfold E4 at G
 refine Bt (n:=15) (xs:=[.tmp 4]) Try.func24 Av Try.ntmps24 Try.results24 Av ?_
 have hs:=St.start hO
 refine Ax<|Aw<|AA<|BV (cs:=(C0 p Aa Ca Ab Cb Ac Cc)) hs Av Av ?_
 intro b1 w2 _ p3 Q
 refine AA<|BV (cs:=[Sl Ad r_.variables Cd,Sl Ae r_.places Ce]) Q Av Av ?_
 intro b6 w7 _ p8 J
 clear Q
 refine Bn (Iv 0) Av<|Ay<|Ax<|Aw<|AA<|Bz 1 Bw J Av Av Av ?_
 obtain⟨A,U,G⟩:=bd G
 have M:=(p3.trans p8)
 replace Fb:=Fb.step M;replace Fa:=Fa.step M;replace Fc:=Fc.step M
 refine AA<|Bj J Try.call31 (FD (p:=p) J.ltw Fa Fb Fc U) Av ?_
 rintro aI aJ N F aE
 clear J
 obtain⟨rfl,Ra⟩:=aE
 refine Bn (Iv A) Av<|Ay<|Ax<|Ax<|Aw<|Be (Iv A) Av<|AA<|FB Av Av<|Ay<|AF G Av (fun W G=>?_) (fun W G=>?_)
 refine Ax ?_
 obtain⟨X,aK⟩:=F.sub (bs':=[]) (.cons _ (.cons _ List.Sublist.slnil))
 clear Fa Fb Fc Fd Fe
 clear F
 refine Aw<|Be (Iv A) Av<|Bn (Iv A) Av<|Ay<|AY<|⟨_,En,[Iv A],⟨Av,trivial⟩,X.ext,?_⟩
 exact Vr.eq (a:=(vI .i64)) (x:=A) ⟨Av,Ra⟩ (oi G)
 refine AH<|Ax<|Ax<|Aw<|AA<|Bz 1 Bw F Av Av Av<|AA<|Bz 0 Dq F Av Av Av ?_
 obtain⟨Y,Z,G⟩:=bd G
 replace Fb:=Fb.step N;replace Fa:=Fa.step N;replace Fc:=Fc.step N
 have aA:=(M.trans N)
 replace Fe:=Fe.step aA;replace Fd:=Fd.step aA
 refine AA<|Bj F Try.call56 (IX (p:=p) (r_:=r_) F.ltw Fa Fb Fc Fd Fe Z) Av ?_
 rintro aL aM aN I aF
 clear F
 obtain rfl:=aF
 refine AA<|Es Av<|Ay<|AF G Av (fun aB G=>?_) (fun aB G=>?_)
 refine Ax ?_
 obtain⟨aC,aO⟩:=I.sub (bs':=[]) (.cons _ (.cons _ List.Sublist.slnil))
 clear Fa Fb Fc Fd Fe
 clear I
 refine Aw<|Bn (Iv 320) Av<|Ay<|AY<|⟨_,En,[Iv 320],⟨Av,trivial⟩,aC.ext,?_⟩
 exact Vr.eq (a:=(vI .i64)) (x:=320) ⟨Av,(show BR .i64 320 from by decide)⟩ (oi G)
 refine AH<|Ax ?_
 obtain⟨aD,aP⟩:=I.sub (bs':=[]) (.cons _ (.cons _ List.Sublist.slnil))
 clear Fa Fb Fc Fd Fe
 clear I
 refine Aw<|Bn (Iv 0) Av<|Ay<|AY<|⟨_,En,[Iv 0],⟨Av,trivial⟩,aD.ext,?_⟩
 exact Vr.eq (a:=(vI .i64)) (x:=0) ⟨Av,EG⟩ (oi G)

abbrev Xj:List Nat:=[13,78,79,80,81,82,83,84,85,86,87,88,89,90,91,92,93,94,95,96,97,98]

abbrev UE:List Nat:=[11,12,47,48,49,50,51,52,53,54,55,56,57,58,59,60,61,62,63,64,65,66,67,68,69,70,71,72,73,74,75,76,77]

abbrev Xk:List Nat:=[9,10,31,32,33,34,35,36,37,38,39,40]

abbrev UF:List Nat:=[8,9,10,24,25,26,27,28,29,30,31,32,33,34,35,36,37,38,39,40,41,42,43,44,45,46]

def Eg (p:A9) (F:Int) (A:List (List Int)) (I:Int→(List (List Int))→Option (A9 × Int)) (J:(List Int)→Int→Option (A9 × Int)) (G:List Int) (M:Int):Option (A9 × Int):=
 bif (decide (M<(p.cells.length:Int))) then
  ck ((G.length+[4096].length)*8≤140737488355328)<|
  J (G++[4096]) (IntKind.wrap .i64 (M+1))
 else
  ck ((A.length+1)*24≤140737488355328)<|
  I (IntKind.wrap .i64 (F+1)) (A++[G])

def CW (p:A9) (r_:AS) (F:List (List Int)) (G:Int→(List AL)→Option (A9 × Int)) (A:Int) (I:List AL):Option (A9 × Int):=
 bif (decide (A<(r_.variables.length:Int))) then
  ck ((0:Int)≤A∧A<(r_.variables.length:Int))<|
  ck ((0:Int)≤(r_.variables.getD A.toNat default)∧(r_.variables.getD A.toNat default)<(p.variables.length:Int))<|
  ck ((I.length+[p.variables.getD (r_.variables.getD A.toNat default).toNat default].length)*64≤140737488355328)<|
  G (IntKind.wrap .i64 (A+1)) (I++[p.variables.getD (r_.variables.getD A.toNat default).toNat default])
 else
  some ((⟨p.cells,F,I⟩:A9),0)

def D3 (p:A9) (r_:AS) (G:Int→(List (List Int))→Option (A9 × Int)) (A:Int) (F:List (List Int)):Option (A9 × Int):=
 bif (decide (A<(r_.places.length:Int))) then
  ck ((0:Int)≤A∧A<(r_.places.length:Int))<|
  ck ((0:Int)≤((r_.places.getD A.toNat default).leaf)∧((r_.places.getD A.toNat default).leaf)<(F.length:Int))<|
  ck ((0:Int)≤((r_.places.getD A.toNat default).leaf)∧((r_.places.getD A.toNat default).leaf)<(p.capacity.length:Int))<|
  ck ((0:Int)≤((r_.places.getD A.toNat default).cell)∧((r_.places.getD A.toNat default).cell)<((p.capacity.getD ((r_.places.getD A.toNat default).leaf).toNat default).length:Int))<|
  ck ((0:Int)≤((r_.places.getD A.toNat default).cell)∧((r_.places.getD A.toNat default).cell)<((F.getD ((r_.places.getD A.toNat default).leaf).toNat default).length:Int))<|
  G (IntKind.wrap .i64 (A+1)) (F.set ((r_.places.getD A.toNat default).leaf).toNat ((F.getD ((r_.places.getD A.toNat default).leaf).toNat default).set ((r_.places.getD A.toNat default).cell).toNat ((p.capacity.getD ((r_.places.getD A.toNat default).leaf).toNat default).getD ((r_.places.getD A.toNat default).cell).toNat default)))
 else
  B8 (CW p r_ F) (((r_.variables.length:Int) - 0).toNat+1) 0 ([]:List AL)

def Eh (p:A9) (r_:AS) (G:Int→(List (List Int))→Option (A9 × Int)) (A:Int) (F:List (List Int)):Option (A9 × Int):=
 bif (decide (A<(p.capacity.length:Int))) then
  B8 (Eg p A F G) (((p.cells.length:Int) - 0).toNat+1) ([]:List Int) 0
 else
  B8 (D3 p r_) (((r_.places.length:Int) - 0).toNat+1) 0 F

def EE (p:A9) (r_:AS):Option (A9 × Int):=
 (E4 p r_).bind fun A=>
 bif (decide (A≠0)) then
  some ((⟨([]:List AK),([]:List (List Int)),([]:List AL)⟩:A9),A)
 else
  B8 (Eh p r_) (((p.capacity.length:Int) - 0).toNat+1) 0 ([]:List (List Int))

theorem Jv {w:World} {O:List Nat} {p:A9} {r_:AS} {Aa:Option Addr} {Ca:Nat} {Ab:Option Addr} {Cb:Nat} {Ac:Option Addr} {Cc:Nat} {Ad:Option Addr} {Cd:Nat} {Ae:Option Addr} {Ce:Nat} (hO:∀k∈O,k<w.heap.size) (Fa:CA B2 w O Aa Ca p.cells) (Fb:CA (BE (AM .i64)) w O Ab Cb p.capacity) (Fc:CA AT w O Ac Cc p.variables) (Fd:CA (AM .i64) w O Ad Cd r_.variables) (Fe:CA AO w O Ae Ce r_.places) {x:A9 × Int} (J:EE p r_=some x):
 Ok Try.prog 21 [Value.agg (C0 p Aa Ca Ab Cb Ac Cc).toArray,Value.agg [Sl Ad r_.variables Cd,Sl Ae r_.places Ce].toArray] w O (Kr (vA Gi) (vI .i64)) x:=by
 unfold EE at J
 refine Bt (n:=100) (xs:=[.cell 4 26,.tmp 5]) Try.func21 Av Try.ntmps21 Try.results21 Av ?_
 have hs:=St.start hO
 refine Ax<|Aw<|AA<|BV (cs:=(C0 p Aa Ca Ab Cb Ac Cc)) hs Av Av ?_
 intro b1 w2 _ p3 eP
 refine AA<|BV (cs:=[Sl Ad r_.variables Cd,Sl Ae r_.places Ce]) eP Av Av ?_
 intro b6 w7 _ p8 eQ
 clear eP
 refine AA<|Bx Bw eQ ?_
 intro Z i9 _ gE a6
 clear eQ
 refine Bn (Iv 0) Av<|Ay<|Ax<|Aw<|AA<|Bz 2 Bw a6 Av Av Av<|AA<|Bz 1 Dq a6 Av Av Av ?_
 obtain⟨aG,eR,J⟩:=bd J
 have bU:=(p3.trans (p8.trans gE))
 replace Fb:=Fb.step bU;replace Fa:=Fa.step bU;replace Fc:=Fc.step bU;replace Fe:=Fe.step bU;replace Fd:=Fd.step bU
 refine AA<|Bj a6 Try.call24 (IY (p:=p) (r_:=r_) a6.ltw Fa Fb Fc Fd Fe eR) Av ?_
 rintro jA jB gF a7 gG
 clear a6
 obtain⟨rfl,Ra⟩:=gG
 refine Bn (Iv aG) Av<|Ay<|Ax<|Ax<|Aw<|Be (Iv aG) Av<|AA<|FB Av Av<|Ay<|AF J Av (fun eS J=>?_) (fun eS J=>?_)
 refine Ax ?_
 obtain⟨dA,jC⟩:=a7.sub (bs':=(some Z,Oc [Value.slice none 0 0,Value.slice none 0 0,Value.slice none 0 0] 26)::([]:Bi)) (.cons_cons _ (.cons _ (.cons _ (List.Sublist.refl _))))
 clear Fa Fb Fc Fd Fe
 clear a7
 refine Aw<|AA<|Dv (vs:=[Value.slice none 0 0,Value.slice none 0 0,Value.slice none 0 0]) (parts:=[]) Bw SM Av<|Be (Iv aG) Av<|Bk<|Cx .z Bw dA Av Av Av Av Av ?_
 intro jD jE dB
 clear dA
 refine Bn (Iv aG) Av<|Ay<|AY<|⟨_,En,[Value.agg [Value.slice none 0 0,Value.slice none 0 0,Value.slice none 0 0].toArray,Iv aG],⟨Lw (cs:=[Value.slice none 0 0,Value.slice none 0 0,Value.slice none 0 0]) (vs:=[Value.slice none 0 0,Value.slice none 0 0,Value.slice none 0 0]) Bw (i:=0) dB Av Av Av Av,Av,trivial⟩,dB.ext,?_⟩
 exact Vr.eq (a:=Kr (vA Gi) (vI .i64)) (x:=((⟨([]:List AK),([]:List (List Int)),([]:List AL)⟩:A9),aG)) (Kh (Jn (Cz (AU (B5 CA.nil_) (AU (B5 CA.nil_) (B5 CA.nil_))))) ⟨Av,Ra⟩) (oi J)
 refine AH<|Ax<|Aw<|AA<|AP 0 Bw Av F1 Av Av<|AA<|AQ 2 F1 a7 Av Av Av<|AA<|Dv (vs:=[Sl Aa p.cells Ca,Value.slice none 0 0,Value.slice none 0 0]) (parts:=[(0,.tmp 22)]) Bw SM Av<|AA<|Bx Bw a7 ?_
 intro Y jF _ gH dC
 clear a7
 refine Bk<|Cx .z Bw dC Av Av Av Av Av ?_
 intro jG gI eT
 clear dC
 refine Ay<|Ax<|Ax<|Aw<|Bn (Iv 0) Av<|Ay<|AE<|Wr [] [(2,Pt b1 0),(3,Pt b6 0),(4,Pt Z 0),(7,Pt Y 0),(8,Iv 0)] fun eU=>?_
 have dD:=eT.ghost (Obj.cells #[] 31)
 refine Bh UF (fun m fr w'=>∃(U:Int) (W:List (List Int)) (Af:Option Addr) (Cf:Nat) (aQ:Option Nat) (aR:Obj) (F:List Hd) (X:Bi) (aD:Bi),aD=((aQ,aR)::(some Y,Oc [Sl Aa p.cells Ca,Value.slice Af F.length Cf,Value.slice none 0 0] 26)::(some Z,Oc [Value.slice none 0 0,Value.slice none 0 0,Value.slice none 0 0] 26)::(some b6,Oc [Sl Ad r_.variables Cd,Sl Ae r_.places Ce] 34)::(some b1,Oc (C0 p Aa Ca Ab Cb Ac Cc) 26)::X)∧fr [] [(8,Iv U)]∧dD.S (ks aD O) w'∧St ⟨w,[],[]⟩ O w' aD∧BR .i64 U∧Gs RK 31 w' (ks aD O) Af Cf F aQ aR∧Rows (AM .i64) 3 w' (ks aD O) F X W∧F.length=W.length∧B8 (Eh p r_) m U W=some x) (((p.capacity.length:Int) - 0).toNat+1) ⟨0,([]:List (List Int)),none,0,none,Obj.cells #[] 31,([]:List Hd),([]:Bi),_,Av,BB.of ⟨Av,trivial⟩,AB.refl _ _,dD,EG,Gs.nil_,Rows.nil_,Av,J⟩ ?_ ?_
 rintro _ _ ⟨_,_,_,_,_,_,_,_,_,_,_,_,_,_,_,_,_,J⟩;exact D9 J
 rintro jH jI eV hH jJ ⟨U,W,Af,Cf,aQ,aR,F,X,_,rfl,bV,bW,bN,Rb,Ff,aO,bO,J⟩
 obtain⟨eW,dY,J⟩:=DA J;unfold Eh at J
 rw [bV.eq];clear bV
 have bX:=bW
 refine Ax<|Ax<|Aw<|Be (Iv U) Av<|AA<|AP 1 Bw Av CB Av Av<|AA<|AQ 4 CB bN Av Av Av<|AA<|Bd Try.underlying23 Av ?_
 have dZ:=(gF.trans (gH.trans (gI.trans bW)))
 replace Fb:=Fb.step dZ
 have hI:=Bb Fb
 refine AA<|Bu Av Av<|Ay<|AF J Av (fun eX J=>?_) (fun eX J=>?_)
 refine AH<|Ax<|AE<|Ax<|Aw<|Bn (Value.slice none 0 0) Av<|Ay<|Ax<|Ax<|Aw<|Bn (Iv 0) Av<|Ay<|AE<|Ip UF [] (CK ⟨eU,[]⟩ [(2,Pt b1 0),(3,Pt b6 0),(4,Pt Z 0),(7,Pt Y 0),(8,Iv 0)]) [(8,Iv U),(9,Value.slice none 0 0),(10,Iv 0)] fun hJ=>?_
 have dE:=bN.ghost (Obj.cells #[] 3)
 refine Bh Xk (fun m fr w'=>∃(aB:List Int) (a8:Int) (Ag:Option Addr) (Cg:Nat) (aE:Option Nat) (aF:Obj) (aD:Bi),aD=((aE,aF)::(aQ,aR)::(some Y,Oc [Sl Aa p.cells Ca,Value.slice Af F.length Cf,Value.slice none 0 0] 26)::(some Z,Oc [Value.slice none 0 0,Value.slice none 0 0,Value.slice none 0 0] 26)::(some b6,Oc [Sl Ad r_.variables Cd,Sl Ae r_.places Ce] 34)::(some b1,Oc (C0 p Aa Ca Ab Cb Ac Cc) 26)::X)∧fr [] [(9,Sl Ag aB Cg),(10,Iv a8)]∧dE.S (ks aD O) w'∧St ⟨w,[],[]⟩ O w' aD∧Gs (AM .i64) 3 w' (ks aD O) Ag Cg aB aE aF∧BR .i64 a8∧B8 (Eg p U W eW) m aB a8=some x) (((p.cells.length:Int) - 0).toNat+1) ⟨([]:List Int),0,none,0,none,Obj.cells #[] 3,_,Av,BB.of ⟨Av,Av,trivial⟩,AB.refl _ _,dE,Gs.nil_,EG,J⟩ ?_ ?_
 rintro _ _ ⟨_,_,_,_,_,_,_,_,_,_,_,_,_,J⟩;exact D9 J
 rintro jK jL eY hK jM ⟨aB,a8,Ag,Cg,aE,aF,_,rfl,bY,bC,a0,Fg,Rc,J⟩
 obtain⟨hL,d0,J⟩:=DA J;unfold Eg at J
 rw [bY.eq];clear bY
 have bZ:=bC
 refine Ax<|Ax<|Aw<|Be (Iv a8) Av<|AA<|AP 0 Bw Av F1 Av Av<|AA<|AQ 5 F1 a0 Av Av Av<|AA<|Bd Try.underlying22 Av ?_
 have gJ:=(dZ.trans bC)
 replace Fa:=Fa.step gJ
 have hM:=Bb Fa
 refine AA<|Bu Av Av<|Ay<|AF J Av (fun eZ J=>?_) (fun eZ J=>?_)
 refine AH<|Ax<|AE<|Aw<|Be (Sl Ag aB Cg) Av<|AA<|Bf (cs:=[Iv 4096]) (parts:=[(0,.const (.int .i64 4096))]) Bp BD a0 (by decide) Av ?_
 intro e0 gK hN gL dF
 clear a0
 have gM:=Gs.of_cells (p:=(AM .i64)) (e:=3) (bl:=e0) (c:=1) (w:=gK) (O:=ks ((some e0,Oc [Iv 4096] 3)::(aE,aF)::(aQ,aR)::(some Y,Oc [Sl Aa p.cells Ca,Value.slice Af F.length Cf,Value.slice none 0 0] 26)::(some Z,Oc [Value.slice none 0 0,Value.slice none 0 0,Value.slice none 0 0] 26)::(some b6,Oc [Sl Ad r_.variables Cd,Sl Ae r_.places Ce] 34)::(some b1,Oc (C0 p Aa Ca Ab Cb Ac Cc) 26)::X) O) (show Ej (AM .i64) _ _ [Iv 4096] [4096] from⟨_,_,Av,AW (show BR .i64 4096 from by decide),Ej.nil⟩) Av (BG Av)
 obtain⟨dG,gN,e1⟩:=Gs.publish (i:=0) dF Av gM
 clear dF
 obtain⟨dH,J⟩:=AG J
 obtain⟨e2,e3,e4⟩:=e1.src
 have e5:=(gL.trans gN)
 replace Fg:=Fg.step e5
 refine AA (DR (q:=(AM .i64)) (i:=0) (xs:=aB) (ys:=[4096]) (news:=e2) Bp BD Av (by decide) dG Av Av Fg Av e4 e3 dH (by have:=dH;simp only [maxLen];omega) ?_)
 intro e6 e7 gO gP jN gQ e8 gR
 clear dG
 refine Bn (Sl e6 (aB++[4096]) e7) Av<|Ay ?_
 clear e1
 refine Aw<|Be (Iv a8) Av<|AA<|Bm Av Av<|Bn (Iv (wq (a8+1))) Av<|Ay ?_
 have e9:=(e5.trans gQ)
 replace bZ:=bZ.trans e9
 exact eY _ _ ⟨aB++[4096],(wq (a8+1)),e6,e7,gO,gP,_,Av,BB.of ⟨Av,Av,trivial⟩,bZ,e8,gR,(AZ .i64 _),GD d0 J⟩
 refine Br<|Aw<|AA<|AP 1 Bw Av CB Av Av<|AA<|AQ 2 CB a0 Av Av Av<|Be (Sl Ag aB Cg) Av<|AA<|Bf (cs:=[Sl Ag aB Cg]) (parts:=[(0,.tmp 43)]) CB Bp a0 (by decide) Av ?_
 intro hP hQ gS dI bD
 clear a0
 obtain⟨d1,J⟩:=AG J
 have b0:(F.length+1)*24≤140737488355328:=by have h1:=d1;have h2:F.length=W.length:=bO;omega
 have dJ:=(bC.trans dI)
 replace Ff:=Ff.step dJ
 refine AA (DR (q:=RK) (i:=2) (xs:=F) (ys:=[((Ag,aB.length,Cg):Hd)]) (news:=[Sl Ag aB Cg]) CB Bp Av (by decide) bD Av Av Ff Av (Mm.owned' (len:=1) (bD.get (i:=0) Av) Av) (show Ej RK _ _ [Sl Ag aB Cg] [((Ag,aB.length,Cg):Hd)] from⟨_,_,Av,Av,Ej.nil⟩) b0 (show F.length+1≤maxLen from by have:=b0;simp only [maxLen];omega) ?_)
 intro b2 b3 a9 bA bP dK bE b4
 clear bD
 have b5:=bE.drop 0
 have b7:=(bE.dropS 0)
 clear bE
 have dL:=(dJ.trans (dK.trans b7))
 replace aO:=aO.step dL
 have fB:=(dI.trans (dK.trans b7))
 replace Fg:=Fg.step fB
 have aS:Rows (AM .i64) 3 bP (ks ((aE,aF)::(a9,bA)::(some Y,Oc [Sl Aa p.cells Ca,Value.slice Af F.length Cf,Value.slice none 0 0] 26)::(some Z,Oc [Value.slice none 0 0,Value.slice none 0 0,Value.slice none 0 0] 26)::(some b6,Oc [Sl Ad r_.variables Cd,Sl Ae r_.places Ce] 34)::(some b1,Oc (C0 p Aa Ca Ab Cb Ac Cc) 26)::X) O) (F++[((Ag,aB.length,Cg):Hd)]) (X++[(aE,aF)]) (W++[aB]):=Rows.append aO Fg Av
 obtain⟨b8,b9⟩:St ⟨w,[],[]⟩ O bP ((a9,bA)::(some Y,Oc [Sl Aa p.cells Ca,Value.slice Af F.length Cf,Value.slice none 0 0] 26)::(some Z,Oc [Value.slice none 0 0,Value.slice none 0 0,Value.slice none 0 0] 26)::(some b6,Oc [Sl Ad r_.variables Cd,Sl Ae r_.places Ce] 34)::(some b1,Oc (C0 p Aa Ca Ab Cb Ac Cc) 26)::(X++[(aE,aF)]))∧AB (ks ((aE,aF)::(a9,bA)::(some Y,Oc [Sl Aa p.cells Ca,Value.slice Af F.length Cf,Value.slice none 0 0] 26)::(some Z,Oc [Value.slice none 0 0,Value.slice none 0 0,Value.slice none 0 0] 26)::(some b6,Oc [Sl Ad r_.variables Cd,Sl Ae r_.places Ce] 34)::(some b1,Oc (C0 p Aa Ca Ab Cb Ac Cc) 26)::X) O) bP (ks ((a9,bA)::(some Y,Oc [Sl Aa p.cells Ca,Value.slice Af F.length Cf,Value.slice none 0 0] 26)::(some Z,Oc [Value.slice none 0 0,Value.slice none 0 0,Value.slice none 0 0] 26)::(some b6,Oc [Sl Ad r_.variables Cd,Sl Ae r_.places Ce] 34)::(some b1,Oc (C0 p Aa Ca Ab Cb Ac Cc) 26)::(X++[(aE,aF)])) O) bP:=St.toback (i:=0) b5 Av
 clear b5
 replace aS:=aS.step b9
 have d2:(F++[((Ag,aB.length,Cg):Hd)]).length=(W++[aB]).length:=(Rows.lens aS).1
 refine AA<|AP 1 Bw Av CB Av Av<|Bk<|II (Value.slice b2 (F++[((Ag,aB.length,Cg):Hd)]).length b3) (cs':=[Sl Aa p.cells Ca,Value.slice b2 (F++[((Ag,aB.length,Cg):Hd)]).length b3,Value.slice none 0 0]) HG.p1 CB b8 Av Av Av (BG Av) Av Av ?_
 intro hS cA d3
 clear b8
 refine Ay<|Aw<|Be (Iv U) Av<|AA<|Bm Av Av<|Bn (Iv (wq (U+1))) Av<|Ay ?_
 have fC:=(dL.trans (b9.trans cA))
 replace bX:=bX.trans fC
 replace b4:=b4.step (b7.trans (b9.trans cA));replace aS:=aS.step cA
 exact eV _ _ ⟨(wq (U+1)),W++[aB],b2,b3,a9,bA,F++[((Ag,aB.length,Cg):Hd)],X++[(aE,aF)],_,Av,BB.of ⟨Av,trivial⟩,bX,d3,(AZ .i64 _),b4,aS,d2,GD dY J⟩
 refine Br<|Ax<|Ax<|Aw<|Bn (Iv 0) Av<|Ay<|AE<|Wr [] [(2,Pt b1 0),(3,Pt b6 0),(4,Pt Z 0),(7,Pt Y 0),(11,Iv 0)] fun d4=>Bh UE (fun m fr w'=>∃(G:Int) (I:List (List Int)) (Ah:Option Addr) (Ch:Nat) (aK:Option Nat) (M:Obj) (A:List Hd) (aC:Bi) (aD:Bi),aD=((aK,M)::(some Y,Oc [Sl Aa p.cells Ca,Value.slice Ah A.length Ch,Value.slice none 0 0] 26)::(some Z,Oc [Value.slice none 0 0,Value.slice none 0 0,Value.slice none 0 0] 26)::(some b6,Oc [Sl Ad r_.variables Cd,Sl Ae r_.places Ce] 34)::(some b1,Oc (C0 p Aa Ca Ab Cb Ac Cc) 26)::aC)∧fr [] [(11,Iv G)]∧bN.S (ks aD O) w'∧St ⟨w,[],[]⟩ O w' aD∧BR .i64 G∧Gs RK 31 w' (ks aD O) Ah Ch A aK M∧Rows (AM .i64) 3 w' (ks aD O) A aC I∧A.length=I.length∧B8 (D3 p r_) m G I=some x) (((r_.places.length:Int) - 0).toNat+1) ⟨0,W,Af,Cf,aQ,aR,F,X,_,Av,BB.of ⟨Av,trivial⟩,AB.refl _ _,bN,EG,Ff,aO,bO,J⟩ ?_ ?_
 rintro _ _ ⟨_,_,_,_,_,_,_,_,_,_,_,_,_,_,_,_,_,J⟩;exact D9 J
 rintro hT hU d5 gT hV ⟨G,I,Ah,Ch,aK,M,A,aC,_,rfl,bQ,a2,aW,Rd,Fh,aA,aJ,J⟩
 obtain⟨gU,c6,J⟩:=DA J;unfold D3 at J
 rw [bQ.eq];clear bQ
 have bF:=a2
 refine Ax<|Ax ?_
 clear Ff aO
 refine Aw<|Be (Iv G) Av<|AA<|AP 1 Dq Av Ep Av Av<|AA<|AQ 3 Ep aW Av Av Av<|AA<|Bd Try.underlying32 Av ?_
 have dM:=(dZ.trans a2)
 replace Fe:=Fe.step dM
 have gV:=Bb Fe
 refine AA<|Bu Av Av<|Ay<|AF J Av (fun d6 J=>?_) (fun d6 J=>?_)
 refine AH<|Ax<|AE<|Ax<|Aw<|AA<|AP 1 Dq Av Ep Av Av<|AA<|AQ 3 Ep aW Av Av Av<|Be (Iv G) Av ?_
 obtain⟨cB,J⟩:=AG J
 refine AA<|AC (q:=AO) Ep BW Av Av Fe Av cB.1 cB.2 ?_
 intro hW dN
 refine AA<|BF BW Av dN Av ?_
 intro gW fD
 obtain⟨_,_,rfl,⟨rfl,Re⟩,⟨rfl,Rf⟩⟩:=fD
 refine AA<|Bx BW aW ?_
 intro aP hX _ dO cC
 clear aW
 refine Bk<|Cx .z BW cC Av Av Av Av Av ?_
 intro hY dP bG
 clear cC
 refine Ay ?_
 clear dN
 refine B9 (g0:=[]) (m:=18) (fl:=[]) (Dc bG) Av (.inl Av) Av (by decide+kernel) ?_  -- 18
 refine Ba (Pt Y 1) (fun _ _ _ hi N=>AP 1 Bw Av CB (N 7 Av) Av<|Gz hi)<|Ba (Value.slice Ah A.length Ch) (fun _ _ _ hi N=>AQ 2 CB (AB.nx hi).1 (N 59 Av) Av Av<|Gz hi)<|Ba (Pt aP 0) (fun _ _ _ hi N=>AP 0 BW Av BD (N 12 Av) Av<|Gz hi)<|Ba (Iv ((r_.places.getD G.toNat default).leaf)) (fun _ _ _ hi N=>AQ 0 BD (AB.nx hi).1 (N 61 Av) Av Av<|Gz hi) ?_
 obtain⟨aT,J⟩:=AG J
 have dQ:=(dO.trans dP)
 replace Fh:=Fh.step dQ
 obtain⟨aH,rfl,rfl⟩:=Fh.at_ (by have h1:A.length=I.length:=aJ;omega)
 refine Do (Value.pointer (some ⟨aH,((r_.places.getD G.toNat default).leaf).toNat*1,none⟩)) (fun gX hZ g aN hi N=>?_) ?_
 obtain⟨-,a3,-⟩:=aN
 replace Fh:=Fh.step a3
 refine Az (B7 CB Bp (N 60 Av) (N 62 Av) Fh ⟨aT.1,by have h1:A.length=I.length:=aJ;have h2:=aT.2;omega⟩ ?_)
 rintro _ ⟨⟩ -
 exact Gz hi
 refine Do (Value.slice (A.getD ((r_.places.getD G.toNat default).leaf).toNat default).1 (A.getD ((r_.places.getD G.toNat default).leaf).toNat default).2.1 (A.getD ((r_.places.getD G.toNat default).leaf).toNat default).2.2) (fun gY h0 g aN hi N=>?_) ?_
 obtain⟨-,a3,-⟩:=aN
 replace Fh:=Fh.step a3
 have gZ:=(AB.nx hi).1
 refine Az (Gr (p:=RK) (m:=(r_.places.getD G.toNat default).leaf) (i:=1) Bp Av gZ Av (N 63 Av) Fh ⟨aT.1,by have h1:A.length=I.length:=aJ;have h2:=aT.2;omega⟩ ?_)
 intro h3 fE;obtain rfl:=Up fE
 exact Gz hi
 refine Ba (Pt aP 1) (fun _ _ _ hi N=>AP 1 BW Av BD (N 12 Av) Av<|Gz hi)<|Ba (Iv ((r_.places.getD G.toNat default).cell)) (fun _ _ _ hi N=>AQ 0 BD (AB.nx hi).1 (N 65 Av) Av Av<|Gz hi)<|Ba (Pt b1 1) (fun _ _ _ hi N=>AP 1 Bw Av CB (N 2 Av) Av<|Gz hi)<|Ba (Sl Ab p.capacity Cb) (fun _ _ _ hi N=>AQ 5 CB (AB.nx hi).1 (N 67 Av) Av Av<|Gz hi)<|Ba (Pt aP 0) (fun _ _ _ hi N=>AP 0 BW Av BD (N 12 Av) Av<|Gz hi)<|Ba (Iv ((r_.places.getD G.toNat default).leaf)) (fun _ _ _ hi N=>AQ 0 BD (AB.nx hi).1 (N 69 Av) Av Av<|Gz hi) ?_
 obtain⟨cD,J⟩:=AG J
 have fF:=(a2.trans (dO.trans dP))
 replace Fb:=Fb.step fF
 refine Bc (VP _ _ (BE (AM .i64)) (p.capacity.getD ((r_.places.getD G.toNat default).leaf).toNat default)) (VP.stab _ _) (fun g1 h4 g aN hi N=>?_) ?_
 obtain⟨-,a3,-⟩:=aN
 replace Fb:=Fb.step a3
 refine Az<|AC (q:=BE (AM .i64)) CB Bp (N 68 Av) (N 70 Av) Fb Av cD.1 cD.2 ?_
 intro h5 fG
 exact Bs.same hi ⟨_,Av,fG⟩
 refine Bc (VD _ _ (vC (BE (AM .i64))) (p.capacity.getD ((r_.places.getD G.toNat default).leaf).toNat default)) (VD.stab _ _) (fun g2 h6 g aN hi N=>?_) ?_
 obtain⟨h7,fH,fI⟩:=N 71 Av
 refine Az<|AX Bp fH fI Av ?_
 intro h8 fJ
 obtain⟨Ai,Ci,rfl,Fi⟩:=BH fJ
 exact Bs.same hi (show Vr.vd (vC (BE (AM .i64))) _ _ _ _ from(Ke (B5 Fi)))
 refine Ba (Pt aP 1) (fun _ _ _ hi N=>AP 1 BW Av BD (N 12 Av) Av<|Gz hi)<|Ba (Iv ((r_.places.getD G.toNat default).cell)) (fun _ _ _ hi N=>AQ 0 BD (AB.nx hi).1 (N 73 Av) Av Av<|Gz hi) ?_
 obtain⟨cE,J⟩:=AG J
 refine Bc (VP _ _ (AM .i64) ((p.capacity.getD ((r_.places.getD G.toNat default).leaf).toNat default).getD ((r_.places.getD G.toNat default).cell).toNat default)) (VP.stab _ _) (fun g3 h9 g aN hi N=>?_) ?_
 have fK:Vr.vd (vC (BE (AM .i64))) _ _ _ _:=N 72 Av
 obtain⟨Aj,Cj,fL,Fj⟩:=BH fK
 refine Az<|AC (q:=(AM .i64)) Bp BD fL (N 74 Av) Fj Av cE.1 cE.2 ?_
 intro iA fM
 exact Bs.same hi ⟨_,Av,fM⟩
 refine Bc (VD _ _ (vI .i64) ((p.capacity.getD ((r_.places.getD G.toNat default).leaf).toNat default).getD ((r_.places.getD G.toNat default).cell).toNat default)) (VD.stab _ _) (fun g4 iB g aN hi N=>?_) ?_
 obtain⟨iC,fN,fO⟩:=N 75 Av
 refine Az<|AX BD fN fO Av ?_
 intro iD fP
 obtain⟨rfl,Rg⟩:=C3 fP
 exact Bs.same hi (show Vr.vd (vI .i64) _ _ _ _ from⟨Av,Rg⟩)
 refine BA fun fQ iE d7 d8=>?_
 obtain⟨-,c7,-⟩:=d7
 obtain⟨bH,bR⟩:=AB.nx d8
 rintro iF cF
 replace cF:Vr.vd (vI .i64) _ _ _ _:=cF
 obtain⟨rfl,Rh⟩:=cF
 rintro _ ⟨iG,rfl,cG⟩ _ rfl _ rfl iH cH
 replace cH:Vr.vd (vC (BE (AM .i64))) _ _ _ _:=cH
 obtain⟨Ak,Ck,rfl,Fk⟩:=BH cH
 rintro _ ⟨iI,rfl,cI⟩ _ rfl _ rfl _ rfl _ rfl _ rfl _ rfl _ rfl _ rfl _ rfl _ rfl _ rfl _ rfl
 have dR:=bG.to bH (c7.trans bR)
 replace cG:=cG.step bR;replace Fk:=Fk.step bR;replace cI:=cI.step bR;clear bG
 have dS:=(dQ.trans dR)
 replace aA:=aA.step dS
 obtain⟨d9,eA,eB⟩:=aA.at_ (i:=((r_.places.getD G.toNat default).leaf).toNat) (by have:=aT;omega)
 obtain⟨bI,J⟩:=AG J
 obtain⟨fR,cJ⟩:=eB (by have:=bI;omega)
 refine AA<|Ms (H:=A.getD ((r_.places.getD G.toNat default).leaf).toNat default) (row:=I.getD ((r_.places.getD G.toNat default).leaf).toNat default) (bl:=fR) Bp BD Av Av cJ eA bI ?_
 refine Bk (Mr (bs:=[(some aP,Oc [Iv ((r_.places.getD G.toNat default).leaf),Iv ((r_.places.getD G.toNat default).cell)] 45),(some aH,M),(some Y,Oc [Sl Aa p.cells Ca,Value.slice (some ⟨aH,0,none⟩) A.length Ch,Value.slice none 0 0] 26),(some Z,Oc [Value.slice none 0 0,Value.slice none 0 0,Value.slice none 0 0] 26),(some b6,Oc [Sl Ad r_.variables Cd,Sl Ae r_.places Ce] 34),(some b1,Oc (C0 p Aa Ca Ab Cb Ac Cc) 26)]) (R:=aC) (vs:=[Iv ((p.capacity.getD ((r_.places.getD G.toNat default).leaf).toNat default).getD ((r_.places.getD G.toNat default).cell).toNat default)]) (m:=(r_.places.getD G.toNat default).cell) (i:=((r_.places.getD G.toNat default).leaf).toNat) (hd:=A.getD ((r_.places.getD G.toNat default).leaf).toNat default) BD Av bH aA (by have:=aT;omega) d9 cJ Av Av Av bI (AW Rh) ?_)
 intro cK bB bS aX aU
 replace aX:St ⟨w,[],[]⟩ O cK ((some aP,Oc [Iv ((r_.places.getD G.toNat default).leaf),Iv ((r_.places.getD G.toNat default).cell)] 45)::(some aH,M)::(some Y,Oc [Sl Aa p.cells Ca,Value.slice (some ⟨aH,0,none⟩) A.length Ch,Value.slice none 0 0] 26)::(some Z,Oc [Value.slice none 0 0,Value.slice none 0 0,Value.slice none 0 0] 26)::(some b6,Oc [Sl Ad r_.variables Cd,Sl Ae r_.places Ce] 34)::(some b1,Oc (C0 p Aa Ca Ab Cb Ac Cc) 26)::bB):=aX
 replace bS:AB (ks ((some aP,Oc [Iv ((r_.places.getD G.toNat default).leaf),Iv ((r_.places.getD G.toNat default).cell)] 45)::(some aH,M)::(some Y,Oc [Sl Aa p.cells Ca,Value.slice (some ⟨aH,0,none⟩) A.length Ch,Value.slice none 0 0] 26)::(some Z,Oc [Value.slice none 0 0,Value.slice none 0 0,Value.slice none 0 0] 26)::(some b6,Oc [Sl Ad r_.variables Cd,Sl Ae r_.places Ce] 34)::(some b1,Oc (C0 p Aa Ca Ab Cb Ac Cc) 26)::aC) O) fQ (ks ((some aP,Oc [Iv ((r_.places.getD G.toNat default).leaf),Iv ((r_.places.getD G.toNat default).cell)] 45)::(some aH,M)::(some Y,Oc [Sl Aa p.cells Ca,Value.slice (some ⟨aH,0,none⟩) A.length Ch,Value.slice none 0 0] 26)::(some Z,Oc [Value.slice none 0 0,Value.slice none 0 0,Value.slice none 0 0] 26)::(some b6,Oc [Sl Ad r_.variables Cd,Sl Ae r_.places Ce] 34)::(some b1,Oc (C0 p Aa Ca Ab Cb Ac Cc) 26)::bB) O) cK:=bS
 replace aU:Rows (AM .i64) 3 cK (ks ((some aP,Oc [Iv ((r_.places.getD G.toNat default).leaf),Iv ((r_.places.getD G.toNat default).cell)] 45)::(some aH,M)::(some Y,Oc [Sl Aa p.cells Ca,Value.slice (some ⟨aH,0,none⟩) A.length Ch,Value.slice none 0 0] 26)::(some Z,Oc [Value.slice none 0 0,Value.slice none 0 0,Value.slice none 0 0] 26)::(some b6,Oc [Sl Ad r_.variables Cd,Sl Ae r_.places Ce] 34)::(some b1,Oc (C0 p Aa Ca Ab Cb Ac Cc) 26)::bB) O) A bB (I.set ((r_.places.getD G.toNat default).leaf).toNat ((I.getD ((r_.places.getD G.toNat default).leaf).toNat default).set ((r_.places.getD G.toNat default).cell).toNat ((p.capacity.getD ((r_.places.getD G.toNat default).leaf).toNat default).getD ((r_.places.getD G.toNat default).cell).toNat default))):=aU
 clear bH
 have eC:A.length=(I.set ((r_.places.getD G.toNat default).leaf).toNat ((I.getD ((r_.places.getD G.toNat default).leaf).toNat default).set ((r_.places.getD G.toNat default).cell).toNat ((p.capacity.getD ((r_.places.getD G.toNat default).leaf).toNat default).getD ((r_.places.getD G.toNat default).cell).toNat default))).length:=(Rows.lens aU).1
 have g5:A.length=(I.set ((r_.places.getD G.toNat default).leaf).toNat ((I.getD ((r_.places.getD G.toNat default).leaf).toNat default).set ((r_.places.getD G.toNat default).cell).toNat ((p.capacity.getD ((r_.places.getD G.toNat default).leaf).toNat default).getD ((r_.places.getD G.toNat default).cell).toNat default))).length:=by have h1:A.length=I.length:=aJ;rw [List.length_set];exact h1
 refine Ay ?_
 clear cG Fk cI
 refine Ip UE [] (CK ⟨d4,[]⟩ [(2,Pt b1 0),(3,Pt b6 0),(4,Pt Z 0),(7,Pt Y 0),(11,Iv 0)]) [(11,Iv G)] fun g6=>Aw<|Be (Iv G) Av<|AA<|Bm Av Av<|Bn (Iv (wq (G+1))) Av<|Ay ?_
 have eD:=aX.drop 0
 have cL:=(aX.dropS 0)
 clear aX
 have fS:=(dS.trans (bS.trans cL))
 replace bF:=bF.trans fS;replace aU:=aU.step cL
 have fT:=(dR.trans (bS.trans cL))
 replace Fh:=Fh.step fT
 exact d5 _ _ ⟨(wq (G+1)),I.set ((r_.places.getD G.toNat default).leaf).toNat ((I.getD ((r_.places.getD G.toNat default).leaf).toNat default).set ((r_.places.getD G.toNat default).cell).toNat ((p.capacity.getD ((r_.places.getD G.toNat default).leaf).toNat default).getD ((r_.places.getD G.toNat default).cell).toNat default)),some ⟨aH,0,none⟩,Ch,some aH,M,A,bB,_,Av,BB.of ⟨Av,trivial⟩,bF,eD,(AZ .i64 _),Fh,aU,eC,GD c6 J⟩
 refine Br<|Ax<|Ax<|Aw<|Bn (Iv 0) Av<|Ay<|AE<|Wr [] [(2,Pt b1 0),(3,Pt b6 0),(4,Pt Z 0),(7,Pt Y 0),(13,Iv 0)] fun g7=>?_
 have cM:=aW.ghost (Obj.cells #[] 61)
 refine Bh Xj (fun m fr w'=>∃(Q:Int) (aI:List AL) (Al:Option Addr) (Cl:Nat) (aL:Option Nat) (aM:Obj) (aD:Bi),aD=((aL,aM)::(aK,M)::(some Y,Oc [Sl Aa p.cells Ca,Value.slice Ah A.length Ch,Sl Al aI Cl] 26)::(some Z,Oc [Value.slice none 0 0,Value.slice none 0 0,Value.slice none 0 0] 26)::(some b6,Oc [Sl Ad r_.variables Cd,Sl Ae r_.places Ce] 34)::(some b1,Oc (C0 p Aa Ca Ab Cb Ac Cc) 26)::aC)∧fr [] [(13,Iv Q)]∧cM.S (ks aD O) w'∧St ⟨w,[],[]⟩ O w' aD∧BR .i64 Q∧Gs AT 61 w' (ks aD O) Al Cl aI aL aM∧B8 (CW p r_ I) m Q aI=some x) (((r_.variables.length:Int) - 0).toNat+1) ⟨0,([]:List AL),none,0,none,Obj.cells #[] 61,_,Av,BB.of ⟨Av,trivial⟩,AB.refl _ _,cM,EG,Gs.nil_,J⟩ ?_ ?_
 rintro _ _ ⟨_,_,_,_,_,_,_,_,_,_,_,_,_,J⟩;exact D9 J
 rintro iJ iK eE g8 iL ⟨Q,aI,Al,Cl,aL,aM,_,rfl,bT,a4,aV,Ri,Fl,J⟩
 obtain⟨g9,c8,J⟩:=DA J;unfold CW at J
 rw [bT.eq];clear bT
 have bJ:=a4
 refine Ax<|Ax<|Aw<|Be (Iv Q) Av<|AA<|AP 0 Dq Av Bp Av Av<|AA<|AQ 4 Bp aV Av Av Av<|AA<|Bd Try.underlying31 Av ?_
 have cN:=(dM.trans a4)
 replace Fd:=Fd.step cN
 have hA:=Bb Fd
 refine AA<|Bu Av Av<|Ay<|AF J Av (fun eF J=>?_) (fun eF J=>?_)
 refine AH<|Ax<|AE<|B9 (g0:=[]) (m:=12) (fl:=[]) (Dc aV) Av (.inl Av) Av (by decide+kernel) ?_  -- 22
 refine Ba (Pt Y 2) (fun _ _ _ hi N=>AP 2 Bw Av CI (N 7 Av) Av<|Gz hi)<|Ba (Sl Al aI Cl) (fun _ _ _ hi N=>AQ 2 CI (AB.nx hi).1 (N 85 Av) Av Av<|Gz hi)<|Ba (Pt b1 2) (fun _ _ _ hi N=>AP 2 Bw Av CI (N 2 Av) Av<|Gz hi)<|Ba (Sl Ac p.variables Cc) (fun _ _ _ hi N=>AQ 5 CI (AB.nx hi).1 (N 87 Av) Av Av<|Gz hi)<|Ba (Pt b6 0) (fun _ _ _ hi N=>AP 0 Dq Av Bp (N 3 Av) Av<|Gz hi)<|Ba (Sl Ad r_.variables Cd) (fun _ _ _ hi N=>AQ 4 Bp (AB.nx hi).1 (N 89 Av) Av Av<|Gz hi)<|Ba (Iv Q) (fun _ _ _ hi N=>AD (v:=Iv Q) (N 13 Av)<|Gz hi) ?_
 obtain⟨cO,J⟩:=AG J
 refine Bc (VP _ _ (AM .i64) (r_.variables.getD Q.toNat default)) (VP.stab _ _) (fun hB iM g aN hi N=>?_) ?_
 obtain⟨-,a3,-⟩:=aN
 replace Fd:=Fd.step a3
 refine Az<|AC (q:=(AM .i64)) Bp BD (N 90 Av) (N 91 Av) Fd Av cO.1 cO.2 ?_
 intro iN fU
 exact Bs.same hi ⟨_,Av,fU⟩
 refine Bc (VD _ _ (vI .i64) (r_.variables.getD Q.toNat default)) (VD.stab _ _) (fun hC iO g aN hi N=>?_) ?_
 obtain⟨iP,fV,fW⟩:=N 92 Av
 refine Az<|AX BD fV fW Av ?_
 intro iQ fX
 obtain⟨rfl,Rj⟩:=C3 fX
 exact Bs.same hi (show Vr.vd (vI .i64) _ _ _ _ from⟨Av,Rj⟩)
 obtain⟨cP,J⟩:=AG J
 replace Fc:=Fc.step cN
 refine Bc (VP _ _ AT (p.variables.getD (r_.variables.getD Q.toNat default).toNat default)) (VP.stab _ _) (fun hD iR g aN hi N=>?_) ?_
 obtain⟨-,a3,-⟩:=aN
 replace Fc:=Fc.step a3
 have fY:Vr.vd (vI .i64) _ _ _ _:=N 93 Av
 obtain⟨fZ,Rk⟩:=fY
 refine Az<|AC (q:=AT) CI Ex (N 88 Av) fZ Fc Av cP.1 cP.2 ?_
 intro iS f0
 exact Bs.same hi ⟨_,Av,f0⟩
 refine Bc (VD _ _ (vA AT) (p.variables.getD (r_.variables.getD Q.toNat default).toNat default)) (VD.stab _ _) (fun hE iT g aN hi N=>?_) ?_
 obtain⟨iU,f1,f2⟩:=N 94 Av
 refine Az<|BF Ex f1 f2 Av ?_
 intro hF f3
 obtain⟨_,_,rfl,⟨rfl,Rl⟩,⟨_,_,rfl,⟨rfl,Rm⟩,⟨_,_,rfl,⟨Am,Cm,rfl,Fm⟩,⟨An,Cn,rfl,Fn⟩⟩⟩⟩:=f3
 exact Bs.same hi (show Vr.vd (vA AT) _ _ _ _ from(Jn (Cz (AU (AW Rl) (AU (AW Rm) (AU (B5 Fm) (B5 Fn)))))))
 refine Bc (VD _ _ (vC (BE AT)) [p.variables.getD (r_.variables.getD Q.toNat default).toNat default]) (VD.stab _ _) (fun hG iV g aN hi N=>?_) ?_
 have f4:Vr.vd (vA AT) _ _ _ _:=N 95 Av
 obtain⟨_,f5,⟨_,_,rfl,⟨rfl,Rn⟩,⟨_,_,rfl,⟨rfl,Ro⟩,⟨_,_,rfl,⟨Ao,Co,rfl,Fo⟩,⟨Ap,Cp,rfl,Fp⟩⟩⟩⟩⟩:=f4
 refine Az (Bf (cs:=[Iv ((p.variables.getD (r_.variables.getD Q.toNat default).toNat default).flight),Iv ((p.variables.getD (r_.variables.getD Q.toNat default).toNat default).node),Sl Ao ((p.variables.getD (r_.variables.getD Q.toNat default).toNat default).leaves) Co,Sl Ap ((p.variables.getD (r_.variables.getD Q.toNat default).toNat default).choices) Cp]) (parts:=[(0,.tmp 95)]) CI Ex hi (by decide) (by simp only [List.map,(show ev _ (.tmp 95)=_ from f5)];rfl) ?_)
 intro iW iX eG cQ eH
 replace Fp:=Fp.step cQ;replace Fo:=Fo.step cQ
 obtain⟨eI,f6,f7⟩:=St.publish (q:=AT) (i:=0) (o:=0) (c:=1) (xs:=[p.variables.getD (r_.variables.getD Q.toNat default).toNat default]) eH Av (show Ej AT _ _ [Iv ((p.variables.getD (r_.variables.getD Q.toNat default).toNat default).flight),Iv ((p.variables.getD (r_.variables.getD Q.toNat default).toNat default).node),Sl Ao ((p.variables.getD (r_.variables.getD Q.toNat default).toNat default).leaves) Co,Sl Ap ((p.variables.getD (r_.variables.getD Q.toNat default).toNat default).choices) Cp] [p.variables.getD (r_.variables.getD Q.toNat default).toNat default] from⟨_,_,Av,Cz (AU (AW Rn) (AU (AW Ro) (AU (B5 Fo) (B5 Fp)))),Ej.nil⟩) (BG Av) (BG Av) (BG Av)
 exact Bs.pub hi eI (AB.trans cQ f6) eG (show Vr.vd (vC (BE AT)) _ _ _ _ from Ke (B5 f7))
 refine BA fun iY iZ eJ eK=>?_
 obtain⟨-,c9,-⟩:=eJ
 obtain⟨bK,a1⟩:=AB.nx eK
 rintro i0 cR
 replace cR:Vr.vd (vC (BE AT)) _ _ _ _:=cR
 obtain⟨Aq,Cq,rfl,Fq⟩:=BH cR
 rintro i1 cS
 replace cS:Vr.vd (vA AT) _ _ _ _:=cS
 obtain⟨_,rfl,⟨_,_,rfl,⟨rfl,Rp⟩,⟨_,_,rfl,⟨rfl,Rq⟩,⟨_,_,rfl,⟨Ar,Cr,rfl,Fr⟩,⟨As,Cs,rfl,Fs⟩⟩⟩⟩⟩:=cS
 rintro _ ⟨i2,rfl,cT⟩ i3 cU
 replace cU:Vr.vd (vI .i64) _ _ _ _:=cU
 obtain⟨rfl,Rr⟩:=cU
 rintro _ ⟨i4,rfl,cV⟩ _ rfl _ rfl _ rfl _ rfl _ rfl _ rfl _ rfl
 have dT:=aV.to bK (c9.trans a1)
 replace Fq:=Fq.step a1;replace Fr:=Fr.step a1;replace Fs:=Fs.step a1;replace cT:=cT.step a1;replace cV:=cV.step a1;clear aV
 obtain⟨cW,J⟩:=AG J
 obtain⟨eL,eM,eN⟩:=Fq.src
 replace Fl:=Fl.step dT
 refine AA (DR (q:=AT) (i:=0) (xs:=aI) (ys:=[p.variables.getD (r_.variables.getD Q.toNat default).toNat default]) (news:=eL) CI Ex Av (by decide) bK Av Av Fl Av eN eM cW (by have:=cW;simp only [maxLen];omega) ?_)
 intro cX cY f8 f9 i5 gA cZ c0
 clear bK
 refine AA<|AP 2 Bw Av CI Av Av<|Bk<|II (Sl cX (aI++[p.variables.getD (r_.variables.getD Q.toNat default).toNat default]) cY) (cs':=[Sl Aa p.cells Ca,Value.slice Ah A.length Ch,Sl cX (aI++[p.variables.getD (r_.variables.getD Q.toNat default).toNat default]) cY]) HG.p2 CI cZ Av Av Av (BG Av) Av Av ?_
 intro i6 dU eO
 clear cZ
 refine Ay ?_
 clear Fq Fr Fs cT cV
 refine Aw<|Be (Iv Q) Av<|AA<|Bm Av Av<|Bn (Iv (wq (Q+1))) Av<|Ay ?_
 have gB:=(dT.trans (gA.trans dU))
 replace bJ:=bJ.trans gB;replace c0:=c0.step dU
 exact eE _ _ ⟨(wq (Q+1)),aI++[p.variables.getD (r_.variables.getD Q.toNat default).toNat default],cX,cY,f8,f9,_,Av,BB.of ⟨Av,trivial⟩,bJ,eO,(AZ .i64 _),c0,GD c8 J⟩
 refine Br<|Ax ?_
 obtain⟨bL,c1⟩:=aV.sub (bs':=(aL,aM)::(aK,M)::(some Y,Oc [Sl Aa p.cells Ca,Value.slice Ah A.length Ch,Sl Al aI Cl] 26)::(some Z,Oc [Value.slice none 0 0,Value.slice none 0 0,Value.slice none 0 0] 26)::aC) (.cons_cons _ (.cons_cons _ (.cons_cons _ (.cons_cons _ (.cons _ (.cons _ (List.Sublist.refl _)))))))
 clear Fb Fc Fd Fe
 clear aV
 refine Aw<|AA<|Bz 2 Bw bL Av Av Av<|Bk<|Cx HG.p3 Bw bL Av Av Av Av Av ?_
 intro gC c2 c3
 clear bL
 refine Bn (Iv 0) Av<|Ay<|AY ?_
 have dV:=(a4.trans (c1.trans c2))
 replace aA:=aA.step dV;replace Fh:=Fh.step dV
 obtain⟨a5,dW,c4⟩:=Rows.publish (bs:=[(aL,aM),(aK,M),(some Y,Oc [Sl Aa p.cells Ca,Value.slice Ah A.length Ch,Sl Al aI Cl] 26),(some Z,Oc [Sl Aa p.cells Ca,Value.slice Ah A.length Ch,Sl Al aI Cl] 26)]) (R:=aC) (j:=1) c3 aA Av Fh
 replace a5:St _ O gC [(aL,aM),(some Y,Oc [Sl Aa p.cells Ca,Value.slice Ah A.length Ch,Sl Al aI Cl] 26),(some Z,Oc [Sl Aa p.cells Ca,Value.slice Ah A.length Ch,Sl Al aI Cl] 26)]:=a5
 clear c3
 have gD:=(c1.trans (c2.trans dW))
 replace Fl:=Fl.step gD
 obtain⟨bM,dX,c5⟩:=Gs.publish (i:=0) a5 Av Fl
 clear a5
 have hz:=Gp bM
 refine⟨_,En,[Value.agg [Sl Aa p.cells Ca,Value.slice Ah A.length Ch,Sl Al aI Cl].toArray,Iv 0],⟨Lw (cs:=[Sl Aa p.cells Ca,Value.slice Ah A.length Ch,Sl Al aI Cl]) (vs:=[Sl Aa p.cells Ca,Value.slice Ah A.length Ch,Sl Al aI Cl]) Bw (i:=1) bM Av Av Av Av,Av,trivial⟩,bM.ext,?_⟩
 replace c4:=c4.step (dX.trans hz);replace c5:=c5.step hz
 replace Fa:=Fa.step (cN.trans (c1.trans (c2.trans (dW.trans (dX.trans hz)))))
 exact Vr.eq (a:=Kr (vA Gi) (vI .i64)) (x:=((⟨p.cells,I,aI⟩:A9),0)) (Kh (Jn (Cz (AU (B5 Fa) (AU (S0 aJ c4) (B5 c5))))) ⟨Av,EG⟩) (oi J)

end Go.Fx
