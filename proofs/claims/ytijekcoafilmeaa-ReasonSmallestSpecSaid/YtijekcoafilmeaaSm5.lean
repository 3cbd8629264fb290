/- Smallest agrees with the reference. -/
import Derived.Test.YtijekcoafilmeaaSm4
import Derived.Test.YtijekcoafilmeaaRows
import Derived.WalkKit
import Derived.ShutString
set_option linter.unusedVariables false
set_option linter.unusedSimpArgs false
set_option maxRecDepth 100000
set_option maxHeartbeats 0
namespace Go.Fx
open Go Go.RowKit Go.Proofs
abbrev Xl:List Nat:=[4,5,8,9,10,11,25,26,27,28,29,30,31,32,33,34,35,36,37,38,39,40]

def C5 (Bq:A9 × Int) (J:(List Int)→Bool→Option (Bool × Int)) (A:List Int) (I:Bool):Option (Bool × Int):=
 bif I then
  (Dn Bq.1 A).bind fun F=>
  bif (decide ((F.1.length:Int)=0)) then
   some (false,0)
  else
   (CY Bq.1 A).bind fun G=>
   J G.1 G.2
 else
  some (true,0)

def Df (p:A9) (r_:AS):Option (Bool × Int):=
 (EE p r_).bind fun Bq=>
 bif (decide (Bq.2≠0)) then
  some (false,Bq.2)
 else
  ck ((0:Int)≤(Bq.1.variables.length:Int)∧(Bq.1.variables.length:Int)≤(Bq.1.variables.length:Int)∧(8:Int)*(Bq.1.variables.length:Int)≤281474976710656∧(Bq.1.variables.length:Int)≤281474976710656)<|
  B8 (C5 Bq) 1000000 (List.replicate Bq.1.variables.length (0:Int)) true

theorem Ha {w:World} {O:List Nat} {p:A9} {r_:AS} {Aa:Option Addr} {Ca:Nat} {Ab:Option Addr} {Cb:Nat} {Ac:Option Addr} {Cc:Nat} {Ad:Option Addr} {Cd:Nat} {Ae:Option Addr} {Ce:Nat} (hO:∀k∈O,k<w.heap.size) (Fa:CA B2 w O Aa Ca p.cells) (Fb:CA (BE (AM .i64)) w O Ab Cb p.capacity) (Fc:CA AT w O Ac Cc p.variables) (Fd:CA (AM .i64) w O Ad Cd r_.variables) (Fe:CA AO w O Ae Ce r_.places) {x:Bool × Int} (I:Df p r_=some x):
 Ok Try.prog 25 [Value.agg (C0 p Aa Ca Ab Cb Ac Cc).toArray,Value.agg [Sl Ad r_.variables Cd,Sl Ae r_.places Ce].toArray] w O (Kr vB (vI .i64)) x:=by
 unfold Df at I
 refine Bt (n:=41) (xs:=[.tmp 4,.tmp 5]) Try.func25 Av Try.ntmps25 Try.results25 Av ?_
 have hs:=St.start hO
 refine Ax<|Aw<|AA<|BV (cs:=(C0 p Aa Ca Ab Cb Ac Cc)) hs Av Av ?_
 intro b1 w2 _ p3 aK
 refine AA<|BV (cs:=[Sl Ad r_.variables Cd,Sl Ae r_.places Ce]) aK Av Av ?_
 intro b6 w7 _ p8 W
 clear aK
 refine Bn (Bo false) Av<|Bn (Iv 0) Av<|Ay<|Ax<|Aw<|AA<|Bz 1 Bw W Av Av Av<|AA<|Bz 0 Dq W Av Av Av ?_
 obtain⟨Bq,aL,I⟩:=bd I
 have X:=(p3.trans p8)
 replace Fb:=Fb.step X;replace Fa:=Fa.step X;replace Fc:=Fc.step X;replace Fe:=Fe.step X;replace Fd:=Fd.step X
 refine AA<|Bj W Try.call21 (Jv (p:=p) (r_:=r_) W.ltw Fa Fb Fc Fd Fe aL) Av ?_
 rintro bN bO bP aC a1
 clear W
 obtain⟨bQ,bR,rfl,a2,a3⟩:=a1
 obtain⟨_,rfl,⟨_,_,rfl,⟨Af,Cf,rfl,Ff⟩,⟨_,_,rfl,⟨Ag,Cg,rfl,Fg⟩,⟨Ah,Ch,rfl,Fh⟩⟩⟩⟩:=a2
 obtain⟨rfl,Ra⟩:=a3
 refine Be (Value.tuple [Value.agg [Sl Af Bq.1.cells Cf,Sl Ag Bq.1.capacity Cg,Sl Ah Bq.1.variables Ch].toArray,Iv Bq.2].toArray) Av<|AA<|Bg (v:=Value.agg [Sl Af Bq.1.cells Cf,Sl Ag Bq.1.capacity Cg,Sl Ah Bq.1.variables Ch].toArray) Av Av<|AA<|Bg (v:=Iv Bq.2) Av Av<|AA<|Bx Bw aC ?_
 intro aH bS _ a4 aD
 clear aC
 refine Bk<|Cx .z Bw aD Av Av Av Av Av ?_
 intro bT a5 aE
 clear aD
 refine Bn (Iv Bq.2) Av<|Ay<|Ax<|Ax ?_
 obtain⟨N,a6⟩:=aE.sub (bs':=[(some aH,Oc [Sl Af Bq.1.cells Cf,Sl Ag Bq.1.capacity Cg,Sl Ah Bq.1.variables Ch] 26)]) (.cons_cons _ (.cons _ (.cons _ List.Sublist.slnil)))
 clear Fa Fb Fc Fd Fe
 clear aE
 refine Aw<|Be (Iv Bq.2) Av<|AA<|FB Av Av<|Ay<|AF I Av (fun aM I=>?_) (fun aM I=>?_)
 refine Ax ?_
 obtain⟨aN,bU⟩:=N.sub (bs':=[]) (.cons _ List.Sublist.slnil)
 clear Ff Fg Fh
 clear N
 refine Aw<|Be (Iv Bq.2) Av<|Bn (Bo false) Av<|Bn (Iv Bq.2) Av<|Ay<|AY<|⟨_,En,[Bo false,Iv Bq.2],⟨Av,Av,trivial⟩,aN.ext,?_⟩
 exact Vr.eq (a:=Kr vB (vI .i64)) (x:=(false,Bq.2)) (Kh Av ⟨Av,Ra⟩) (oi I)
 refine AH<|Ax<|Aw<|AA<|AP 2 Bw Av CI Av Av<|AA<|AQ 0 CI N Av Av Av<|AA<|Bd Try.underlying24 Av ?_
 have aO:=(a4.trans (a5.trans a6))
 replace Fh:=Fh.step aO
 have bF:=Bb Fh
 obtain⟨aP,I⟩:=AG I
 refine AA<|Ht (q:=(AM .i64)) (v:=Iv 0) (x0:=(0:Int)) Bp BD N Av Av aP Av (fun _ _=>(AW EG)) ?_
 intro aI bV bG aQ aF a7
 clear N
 refine Bn (Sl (some ⟨aI,0,none⟩) (List.replicate Bq.1.variables.length (0:Int)) Bq.1.variables.length) Av<|Ay<|Ax<|Aw<|Bn (Bo true) Av<|Ay<|Ax<|AE<|Wr [] [(6,Pt aH 0),(8,Sl (some ⟨aI,0,none⟩) (List.replicate Bq.1.variables.length (0:Int)) Bq.1.variables.length),(9,Bo true)] fun bH=>?_
 obtain⟨aG,aR,aS⟩:=Gs.publish (i:=0) aF Av a7
 clear aF
 refine Bh Xl (fun m fr w'=>∃(F:List Int) (J:Bool) (Ai:Option Addr) (Ci:Nat) (aB:Bi),aB=[(some aH,Oc [Sl Af Bq.1.cells Cf,Sl Ag Bq.1.capacity Cg,Sl Ah Bq.1.variables Ch] 26)]∧fr [] [(8,Sl Ai F Ci),(9,Bo J)]∧aG.S (ks aB O) w'∧St ⟨w,[],[]⟩ O w' aB∧CA (AM .i64) w' (ks aB O) Ai Ci F∧B8 (C5 Bq) m F J=some x) 1000000 ⟨List.replicate Bq.1.variables.length (0:Int),true,some ⟨aI,0,none⟩,Bq.1.variables.length,_,Av,BB.of ⟨Av,Av,trivial⟩,AB.refl _ _,aG,aS,I⟩ ?_ ?_
 rintro _ _ ⟨_,_,_,_,_,_,_,_,_,_,I⟩;exact D9 I
 rintro bW bX aT bI bY ⟨F,J,Ai,Ci,_,rfl,Y,U,M,Fi,I⟩
 obtain⟨bJ,aJ,I⟩:=DA I;unfold C5 at I
 rw [Y.eq];clear Y
 have Z:=U
 refine Ax<|Ax ?_
 clear aS
 refine Aw<|Be (Bo J) Av<|Ay<|AF I Av (fun aU I=>?_) (fun aU I=>?_)
 refine AH<|AE<|Ax<|Aw<|AA<|Bz 0 Bw M Av Av Av<|Be (Sl Ai F Ci) Av ?_
 obtain⟨A,aV,I⟩:=bd I
 have aW:=(aO.trans (aQ.trans (aR.trans U)))
 replace Fg:=Fg.step aW;replace Ff:=Ff.step aW
 replace Fh:=Fh.step (aQ.trans (aR.trans U))
 refine AA<|Bj M Try.call57 (GC (p:=Bq.1) (choices:=F) M.ltw Ff Fg Fh Fi aV) Av ?_
 rintro bZ b0 aA Q a8
 clear M
 obtain⟨b2,b3,rfl,a9,bA⟩:=a8
 obtain⟨Aj,Cj,rfl,Fj⟩:=BH a9
 obtain⟨rfl,Rb⟩:=bA
 refine Be (Value.tuple [Sl Aj A.1 Cj,Iv A.2].toArray) Av<|AA<|Bg (v:=Sl Aj A.1 Cj) Av Av<|AA<|Bg (v:=Iv A.2) Av Av<|Bn (Sl Aj A.1 Cj) Av<|Bn (Iv A.2) Av<|Ay<|Ax<|Ax<|Aw<|Be (Sl Aj A.1 Cj) Av<|AA<|Bd Try.underlying32 Av ?_
 have bK:=Bb Fj
 refine AA<|GV Av Av<|Ay<|AF I Av (fun aX I=>?_) (fun aX I=>?_)
 refine Ax ?_
 clear Fi Fj
 refine Aw<|Bn (Bo false) Av<|Bn (Iv 0) Av<|Ay<|AY<|⟨_,En,[Bo false,Iv 0],⟨Av,Av,trivial⟩,Q.ext,?_⟩
 exact Vr.eq (a:=Kr vB (vI .i64)) (x:=(false,0)) (Kh Av ⟨Av,EG⟩) (oi I)
 refine AH ?_
 clear Fj
 refine Aw<|AA<|Bz 0 Bw Q Av Av Av<|Be (Sl Ai F Ci) Av ?_
 obtain⟨G,aY,I⟩:=bd I
 replace Fg:=Fg.step aA;replace Ff:=Ff.step aA;replace Fh:=Fh.step aA;replace Fi:=Fi.step aA
 refine AA<|Bj Q Try.call58 (H1 (p:=Bq.1) (choices:=F) Q.ltw Ff Fg Fh Fi aY) Av ?_
 rintro b4 b5 bB aZ bC
 clear Q
 obtain⟨b7,b8,rfl,bD,bE⟩:=bC
 obtain⟨Ak,Ck,rfl,Fk⟩:=BH bD
 obtain rfl:=bE
 refine Be (Value.tuple [Sl Ak G.1 Ck,Bo G.2].toArray) Av<|AA<|Bg (v:=Sl Ak G.1 Ck) Av Av<|AA<|Bg (v:=Bo G.2) Av Av<|Bn (Sl Ak G.1 Ck) Av<|Bn (Bo G.2) Av<|Ay ?_
 replace Z:=Z.trans (aA.trans bB)
 exact aT _ _ ⟨G.1,G.2,Ak,Ck,_,Av,BB.of ⟨Av,Av,trivial⟩,Z,aZ,Fk,GD aJ I⟩
 refine Br<|Ax ?_
 obtain⟨a0,b9⟩:=M.sub (bs':=[]) (.cons _ List.Sublist.slnil)
 clear Ff Fg Fh Fi
 clear M
 refine Aw<|Bn (Bo true) Av<|Bn (Iv 0) Av<|Ay<|AY<|⟨_,En,[Bo true,Iv 0],⟨Av,Av,trivial⟩,a0.ext,?_⟩
 exact Vr.eq (a:=Kr vB (vI .i64)) (x:=(true,0)) (Kh Av ⟨Av,EG⟩) (oi I)

abbrev Xm:List Nat:=[9,10,36,37,38,39,40,41,42,43,44,45,46,47,48,49,50,51,52,53,54,55,56,57]

abbrev UG:List Nat:=[5,8,9,10,28,29,30,31,32,33,34,35,36,37,38,39,40,41,42,43,44,45,46,47,48,49,50,51,52,53,54,55,56,57,58,59,60,61]

abbrev ST:List Nat:=[5,6,7,8,9,10,14,15,16,17,18,19,20,21,22,23,24,25,26,27,28,29,30,31,32,33,34,35,36,37,38,39,40,41,42,43,44,45,46,47,48,49,50,51,52,53,54,55,56,57,58,59,60,61]

def C1 (F:Int) (G:(List (List Int))) (M:List (List Int)) (A:Int) (N:(List (List Int))→Int→Option (List (List Int))) (Q:(List Int)→Int→Option (List (List Int))) (J:List Int) (I:Int):Option (List (List Int)):=
 ck ((0:Int)≤A∧A<(G.length:Int))<|
 bif (decide (I<((G.getD A.toNat default).length:Int))) then
  ck ((0:Int)≤A∧A<(G.length:Int))<|
  ck ((0:Int)≤I∧I<((G.getD A.toNat default).length:Int))<|
  ck ((J.length+[(IntKind.wrap .i64 ((IntKind.wrap .i64 (F+1))+((G.getD A.toNat default).getD I.toNat default)))].length)*8≤140737488355328)<|
  Q (J++[(IntKind.wrap .i64 ((IntKind.wrap .i64 (F+1))+((G.getD A.toNat default).getD I.toNat default)))]) (IntKind.wrap .i64 (I+1))
 else
  ck ((M.length+[J].length)*24≤140737488355328)<|
  N (M++[J]) (IntKind.wrap .i64 (A+1))

def CZ (A:Int) (I:(List (List Int))→Int→Option (List (List Int))) (F:(List (List Int))) (J:(List (List Int))→Int→Option (List (List Int))) (M:List (List Int)) (G:Int):Option (List (List Int)):=
 bif (decide (G<(F.length:Int))) then
  B8 (C1 A F M G J) ((((F.getD G.toNat default).length:Int) - 0).toNat+1) [A] 0
 else
  I M (IntKind.wrap .i64 (A+1))

def Da (rec_:Int→Int→Option (List (List Int))) (n:Int) (k:Int) (F:(List (List Int))→Int→Option (List (List Int))) (G:List (List Int)) (A:Int):Option (List (List Int)):=
 bif (decide ((IntKind.wrap .i64 (A+k))≤n)) then
  (rec_ (IntKind.wrap .i64 ((IntKind.wrap .i64 (n - A)) - 1)) (IntKind.wrap .i64 (k - 1))).bind fun I=>
  B8 (CZ A F I) (((I.length:Int) - 0).toNat+1) G 0
 else
  some G

def DQ (rec_:Int→Int→Option (List (List Int))) (n:Int) (k:Int):Option (List (List Int)):=
 bif (decide (k=0)) then
  some [([]:List Int)]
 else
  B8 (Da rec_ n k) 1000000 ([]:List (List Int)) 0
def BJ:Nat→Int→Int→Option (List (List Int))
 |0=>fun _ _=>none
 |n_+1=>DQ (BJ n_)
def Ei (n:Int) (k:Int):Option (List (List Int)):=BJ 1000000 n k

theorem Iu:∀(n_:Nat) {w:World} {O:List Nat} {n:Int} {k:Int} (hO:∀k∈O,k<w.heap.size) (Ra:BR .i64 n) (Rb:BR .i64 k) {x:(List (List Int))} (F:BJ n_ n k=some x),
 Ok Try.prog 59 [Iv n,Iv k] w O (vC (BE (BE (AM .i64)))) x:=by
 intro n_
 induction n_ with
 |zero=>intros;rename_i F;exact absurd F (by simp [BJ])
 |succ n_ ih=>
  intro w O n k hO Ra Rb x F
  replace F:DQ (BJ n_) n k=some x:=F
  generalize BJ n_=rec_ at F ih
  unfold DQ at F
  refine Bt (n:=63) (xs:=[.tmp 4]) Try.func59 Av Try.ntmps59 Try.results59 Av ?_
  have hs:=St.start hO
  refine Ax<|Aw<|Bn (Value.slice none 0 0) Av<|Ay<|Ax<|Ax<|Aw<|Be (Iv k) Av<|AA<|GV Av Av<|Ay<|AF F Av (fun cD F=>?_) (fun cD F=>?_)
  refine Ax<|Aw<|AA<|Bf (cs:=[Value.slice none 0 0]) (parts:=[(0,.const (.slice none 0 0))]) CB Bp hs (by decide) Av ?_
  intro b2 w3 c0 p4 bM
  refine Bn (Value.slice (some ⟨b2,0,none⟩) 1 1) Av<|Ay<|AY ?_
  obtain⟨bN,c1,f8⟩:=St.publish (i:=0) (o:=0) (c:=1) (xs:=[([]:List Int)]) bM Av (show Ej (BE (AM .i64)) _ _ [Value.slice none 0 0] [([]:List Int)] from⟨_,_,Av,B5 CA.nil_,Ej.nil⟩) (BG Av) (BG Av) (BG Av)
  clear bM
  have hz:=Gp bN
  refine⟨_,En,[Sl (some ⟨b2,0,none⟩) [([]:List Int)] 1],⟨Av,trivial⟩,bN.ext,?_⟩
  replace f8:=f8.step hz
  exact Vr.eq (a:=vC (BE (BE (AM .i64)))) (x:=[([]:List Int)]) (Ke (B5 f8)) (oi F)
  refine AH<|Ax<|Aw<|Bn (Value.slice none 0 0) Av<|Ay<|Ax<|Ax<|Aw<|Bn (Iv 0) Av<|Ay<|AE<|Wr [] [(0,Iv n),(1,Iv k),(5,Value.slice none 0 0),(6,Iv 0)] fun aY=>?_
  have aZ:=hs.ghost (Obj.cells #[] 31)
  refine Bh ST (fun m fr w'=>∃(W:List (List Int)) (A:Int) (Aa:Option Addr) (Ca:Nat) (Y:Option Nat) (Z:Obj) (N:Bi),N=[(Y,Z)]∧fr [] [(5,Sl Aa W Ca),(6,Iv A)]∧aZ.S (ks N O) w'∧St ⟨w,[],[]⟩ O w' N∧Gs (BE (AM .i64)) 31 w' (ks N O) Aa Ca W Y Z∧BR .i64 A∧B8 (Da rec_ n k) m W A=some x) 1000000 ⟨([]:List (List Int)),0,none,0,none,Obj.cells #[] 31,_,Av,BB.of ⟨Av,Av,trivial⟩,AB.refl _ _,aZ,Gs.nil_,EG,F⟩ ?_ ?_
  rintro _ _ ⟨_,_,_,_,_,_,_,_,_,_,_,_,_,F⟩;exact D9 F
  rintro c2 c3 bO cN c4 ⟨W,A,Aa,Ca,Y,Z,_,rfl,aK,bF,aA,Fa,Rc,F⟩
  obtain⟨bP,bG,F⟩:=DA F;unfold Da at F
  rw [aK.eq];clear aK
  have aL:=bF
  refine Ax<|Ax<|Aw<|Be (Iv A) Av<|Be (Iv k) Av<|AA<|Bm Av Av<|Be (Iv n) Av<|AA<|HZ Av Av<|Ay<|AF F Av (fun bQ F=>?_) (fun bQ F=>?_)
  refine AH<|Ax<|AE<|Ax<|Aw<|Be (Iv n) Av<|Be (Iv A) Av<|AA<|FC Av Av<|AA<|FC Av Av<|Be (Iv k) Av<|AA<|FC Av Av ?_
  obtain⟨I,bR,F⟩:=bd F
  refine AA<|Bj aA Try.call59 (ih (n:=(IntKind.wrap .i64 ((IntKind.wrap .i64 (n - A)) - 1))) (k:=(IntKind.wrap .i64 (k - 1))) aA.ltw (AZ .i64 _) (AZ .i64 _) bR) Av ?_
  rintro c5 c6 bS a0 cF
  clear aA
  obtain⟨Ab,Cb,rfl,Fb⟩:=BH cF
  refine Bn (Sl Ab I Cb) Av<|Ay<|Ax<|Aw<|Bn (Iv 0) Av<|Ay<|AE<|Ip ST [] (CK ⟨aY,[]⟩ [(0,Iv n),(1,Iv k),(5,Value.slice none 0 0),(6,Iv 0)]) [(5,Sl Aa W Ca),(6,Iv A),(7,Sl Ab I Cb),(8,Iv 0)] fun bT=>?_
  replace Fa:=Fa.step bS
  refine Bh UG (fun m fr w'=>∃(X:List (List Int)) (G:Int) (Ac:Option Addr) (Cc:Nat) (Q:Option Nat) (U:Obj) (N:Bi),N=[(Q,U)]∧fr [] [(5,Sl Ac X Cc),(8,Iv G)]∧a0.S (ks N O) w'∧St ⟨w,[],[]⟩ O w' N∧Gs (BE (AM .i64)) 31 w' (ks N O) Ac Cc X Q U∧BR .i64 G∧B8 (CZ A bP I) m X G=some x) (((I.length:Int) - 0).toNat+1) ⟨W,0,Aa,Ca,Y,Z,_,Av,BB.of ⟨Av,Av,trivial⟩,AB.refl _ _,a0,Fa,EG,F⟩ ?_ ?_
  rintro _ _ ⟨_,_,_,_,_,_,_,_,_,_,_,_,_,F⟩;exact D9 F
  rintro c7 c8 bU cO c9 ⟨X,G,Ac,Cc,Q,U,_,rfl,aM,aB,a1,Fc,Rd,F⟩
  obtain⟨bV,bH,F⟩:=DA F;unfold CZ at F
  rw [aM.eq];clear aM
  have aN:=aB
  refine Ax<|Ax ?_
  clear Fa
  refine Aw<|Be (Iv G) Av<|Be (Sl Ab I Cb) Av<|AA<|Bd Try.underlying23 Av ?_
  replace Fb:=Fb.step aB
  have cP:=Bb Fb
  refine AA<|Bu Av Av<|Ay<|AF F Av (fun bW F=>?_) (fun bW F=>?_)
  refine AH<|Ax<|AE<|Ax<|Aw<|Be (Iv A) Av<|AA<|Bf (cs:=[Iv A]) (parts:=[(0,.tmp 34)]) Bp BD a1 (by decide) Av ?_
  intro aJ cG cQ cH a2
  refine Bn (Value.slice (some ⟨aJ,0,none⟩) 1 1) Av<|Ay<|Ax<|Ax<|Aw<|Bn (Iv 0) Av<|Ay<|AE<|Ip UG [] (CK (IT ST [] bT (CK ⟨aY,[]⟩ [(0,Iv n),(1,Iv k),(5,Value.slice none 0 0),(6,Iv 0)])) [(5,Sl Aa W Ca),(6,Iv A),(7,Sl Ab I Cb),(8,Iv 0)]) [(5,Sl Ac X Cc),(8,Iv G),(9,Value.slice (some ⟨aJ,0,none⟩) 1 1),(10,Iv 0)] fun cR=>?_
  have bX:=Gs.of_cells (p:=(AM .i64)) (e:=3) (bl:=aJ) (c:=1) (w:=cG) (O:=ks [(some aJ,Oc [Iv A] 3),(Q,U)] O) (show Ej (AM .i64) _ _ [Iv A] [A] from⟨_,_,Av,AW Rc,Ej.nil⟩) Av (BG Av)
  refine Bh Xm (fun m fr w'=>∃(J:List Int) (M:Int) (Ad:Option Addr) (Cd:Nat) (aC:Option Nat) (aD:Obj) (N:Bi),N=[(aC,aD),(Q,U)]∧fr [] [(9,Sl Ad J Cd),(10,Iv M)]∧a2.S (ks N O) w'∧St ⟨w,[],[]⟩ O w' N∧Gs (AM .i64) 3 w' (ks N O) Ad Cd J aC aD∧BR .i64 M∧B8 (C1 A I X G bV) m J M=some x) ((((gt I G).length:Int) - 0).toNat+1) ⟨[A],0,some ⟨aJ,0,none⟩,1,some aJ,Obj.cells [Iv A].toArray 3,_,Av,BB.of ⟨Av,Av,trivial⟩,AB.refl _ _,a2,bX,EG,F⟩ ?_ ?_
  rintro _ _ ⟨_,_,_,_,_,_,_,_,_,_,_,_,_,F⟩;exact D9 F
  rintro dA dB bY cS dC ⟨J,M,Ad,Cd,aC,aD,_,rfl,aO,aP,aH,Fd,Re,F⟩
  obtain⟨cT,bI,F⟩:=DA F;unfold C1 at F
  rw [aO.eq];clear aO
  have aQ:=aP
  refine Ax<|Ax ?_
  clear bX
  refine Aw<|Be (Iv M) Av<|Be (Sl Ab I Cb) Av<|Be (Iv G) Av ?_
  obtain⟨a3,F⟩:=AG F
  have bZ:=(cH.trans aP)
  replace Fb:=Fb.step bZ
  refine AA<|AC (q:=BE (AM .i64)) CB Bp Av Av Fb Av a3.1 a3.2 ?_
  intro dD bJ
  refine AA<|AX Bp Av bJ Av ?_
  intro dE cI
  obtain⟨Ae,Ce,rfl,Fe⟩:=BH cI
  refine AA<|Bd Try.underlying31 Av ?_
  have cU:=Bb Fe
  refine AA<|Bu Av Av<|Ay<|AF F Av (fun b0 F=>?_) (fun b0 F=>?_)
  refine AH<|Ax<|AE ?_
  clear bJ Fe
  refine Aw<|Be (Sl Ad J Cd) Av<|Be (Iv A) Av<|AA<|Bm Av Av<|Be (Sl Ab I Cb) Av<|Be (Iv G) Av ?_
  obtain⟨a4,F⟩:=AG F
  refine AA<|AC (q:=BE (AM .i64)) CB Bp Av Av Fb Av a4.1 a4.2 ?_
  intro dF b1
  refine AA<|AX Bp Av b1 Av ?_
  intro dG cJ
  obtain⟨Af,Cf,rfl,Ff⟩:=BH cJ
  refine Be (Iv M) Av ?_
  obtain⟨a5,F⟩:=AG F
  refine AA<|AC (q:=(AM .i64)) Bp BD Av Av Ff Av a5.1 a5.2 ?_
  intro dH b3
  refine AA<|AX BD Av b3 Av ?_
  intro dI cK
  obtain⟨rfl,Rf⟩:=C3 cK
  refine AA<|Bm Av Av<|AA<|Bf (cs:=[Iv (IntKind.wrap .i64 ((IntKind.wrap .i64 (A+1))+(gt (gt I G) M)))]) (parts:=[(0,.tmp 55)]) Bp BD aH (by decide) Av ?_
  intro dJ dK cV b4 aR
  clear aH
  obtain⟨a6,F⟩:=AG F
  replace Fd:=Fd.step b4
  refine AA (DR (q:=(AM .i64)) (i:=1) (xs:=J) (ys:=[(IntKind.wrap .i64 ((IntKind.wrap .i64 (A+1))+(gt (gt I G) M)))]) (news:=[Iv (IntKind.wrap .i64 ((IntKind.wrap .i64 (A+1))+(gt (gt I G) M)))]) Bp BD Av (by decide) aR Av Av Fd Av (Mm.owned' (len:=1) (aR.get (i:=0) Av) Av) (show Ej (AM .i64) _ _ [Iv (IntKind.wrap .i64 ((IntKind.wrap .i64 (A+1))+(gt (gt I G) M)))] [(IntKind.wrap .i64 ((IntKind.wrap .i64 (A+1))+(gt (gt I G) M)))] from⟨_,_,Av,AW (AZ .i64 _),Ej.nil⟩) a6 (by have:=a6;simp only [maxLen,gt];omega) ?_)
  intro a7 a8 b5 b6 dL b7 aE aS
  clear aR
  have bK:=aE.drop 0
  have a9:=(aE.dropS 0)
  clear aE
  refine Bn (Sl a7 (J++[(IntKind.wrap .i64 ((IntKind.wrap .i64 (A+1))+(gt (gt I G) M)))]) a8) Av<|Ay ?_
  clear b1 Ff b3
  refine Aw<|Be (Iv M) Av<|AA<|Bm Av Av<|Bn (Iv (IntKind.wrap .i64 (M+1))) Av<|Ay ?_
  have b8:=(b4.trans (b7.trans a9))
  replace aQ:=aQ.trans b8;replace aS:=aS.step a9
  exact bY _ _ ⟨J++[(IntKind.wrap .i64 ((IntKind.wrap .i64 (A+1))+(gt (gt I G) M)))],(IntKind.wrap .i64 (M+1)),a7,a8,b5,b6,_,Av,BB.of ⟨Av,Av,trivial⟩,aQ,bK,aS,(AZ .i64 _),GD bI F⟩
  refine Br ?_
  clear bJ Fe
  refine Aw<|Be (Sl Ac X Cc) Av<|Be (Sl Ad J Cd) Av ?_
  obtain⟨aT,b9,aI⟩:=Gs.publish (i:=0) aH Av Fd
  clear aH
  refine AA<|Bf (cs:=[Sl Ad J Cd]) (parts:=[(0,.tmp 59)]) CB Bp aT (by decide) Av ?_
  intro cW cX cL bA aF
  clear aT
  obtain⟨aU,F⟩:=AG F
  replace aI:=aI.step bA
  have bB:=(bZ.trans (b9.trans bA))
  replace Fc:=Fc.step bB
  refine AA (DR (q:=BE (AM .i64)) (i:=1) (xs:=X) (ys:=[J]) (news:=[Sl Ad J Cd]) CB Bp Av (by decide) aF Av Av Fc Av (Mm.owned' (len:=1) (aF.get (i:=0) Av) Av) (show Ej (BE (AM .i64)) _ _ [Sl Ad J Cd] [J] from⟨_,_,Av,B5 aI,Ej.nil⟩) aU (by have:=aU;simp only [maxLen,gt];omega) ?_)
  intro bC bD cA cB cY cC aG aV
  clear aF
  have bL:=aG.drop 0
  have bE:=(aG.dropS 0)
  clear aG
  refine Bn (Sl bC (X++[J]) bD) Av<|Ay ?_
  clear aI
  refine Aw<|Be (Iv G) Av<|AA<|Bm Av Av<|Bn (Iv (IntKind.wrap .i64 (G+1))) Av<|Ay ?_
  replace aN:=aN.trans (bB.trans (cC.trans bE));replace aV:=aV.step bE
  exact bU _ _ ⟨X++[J],(IntKind.wrap .i64 (G+1)),bC,bD,cA,cB,_,Av,BB.of ⟨Av,Av,trivial⟩,aN,bL,aV,(AZ .i64 _),GD bH F⟩
  refine Br ?_
  clear Fb
  refine Aw<|Be (Iv A) Av<|AA<|Bm Av Av<|Bn (Iv (IntKind.wrap .i64 (A+1))) Av<|Ay ?_
  replace aL:=aL.trans (bS.trans aB)
  exact bO _ _ ⟨X,(IntKind.wrap .i64 (A+1)),Ac,Cc,Q,U,_,Av,BB.of ⟨Av,Av,trivial⟩,aL,a1,Fc,(AZ .i64 _),GD bG F⟩
  refine Br<|Ax<|Aw<|Be (Sl Aa W Ca) Av<|Bn (Sl Aa W Ca) Av<|Ay<|AY ?_
  obtain⟨aW,cZ,aX⟩:=Gs.publish (i:=0) aA Av Fa
  clear aA
  have hz:=Gp aW
  refine⟨_,En,[Sl Aa W Ca],⟨Av,trivial⟩,aW.ext,?_⟩
  replace aX:=aX.step hz
  exact Vr.eq (a:=vC (BE (BE (AM .i64)))) (x:=W) (Ke (B5 aX)) (oi F)
theorem GS {w:World} {O:List Nat} {n:Int} {k:Int} (hO:∀k∈O,k<w.heap.size) (Ra:BR .i64 n) (Rb:BR .i64 k) {x:(List (List Int))} (A:Ei n k=some x):
 Ok Try.prog 59 [Iv n,Iv k] w O (vC (BE (BE (AM .i64)))) x:=Iu 1000000 hO Ra Rb A

abbrev Xn:List Nat:=[18,101,102,103,104,105,106,107,108,109,110,111,112,113,114,115,116,117,118,119,120,121,122,123,124]

abbrev UH:List Nat:=[3,4,16,17,18,19,20,90,91,92,93,94,95,96,97,98,99,100,101,102,103,104,105,106,107,108,109,110,111,112,113,114,115,116,117,118,119,120,121,122,123,124,125,126,127,128,129,130,131,132]

abbrev SU:List Nat:=[3,4,15,16,17,18,19,20,84,85,86,87,88,89,90,91,92,93,94,95,96,97,98,99,100,101,102,103,104,105,106,107,108,109,110,111,112,113,114,115,116,117,118,119,120,121,122,123,124,125,126,127,128,129,130,131,132]

abbrev QV:List Nat:=[3,4,13,14,15,16,17,18,19,20,74,75,76,77,78,79,80,81,82,83,84,85,86,87,88,89,90,91,92,93,94,95,96,97,98,99,100,101,102,103,104,105,106,107,108,109,110,111,112,113,114,115,116,117,118,119,120,121,122,123,124,125,126,127,128,129,130,131,132]

abbrev UI:List Nat:=[8,10,11,12,46,47,48,49,50,51,52,53,54,55,56,57,58,59,60,61,62,63,64,65,66,67,68,69,70]

abbrev Nk:List Nat:=[3,4,8,9,10,11,12,13,14,15,16,17,18,19,20,41,42,43,44,45,46,47,48,49,50,51,52,53,54,55,56,57,58,59,60,61,62,63,64,65,66,67,68,69,70,71,72,73,74,75,76,77,78,79,80,81,82,83,84,85,86,87,88,89,90,91,92,93,94,95,96,97,98,99,100,101,102,103,104,105,106,107,108,109,110,111,112,113,114,115,116,117,118,119,120,121,122,123,124,125,126,127,128,129,130,131,132]

abbrev My:List Nat:=[3,4,7,8,9,10,11,12,13,14,15,16,17,18,19,20,34,35,36,37,38,39,40,41,42,43,44,45,46,47,48,49,50,51,52,53,54,55,56,57,58,59,60,61,62,63,64,65,66,67,68,69,70,71,72,73,74,75,76,77,78,79,80,81,82,83,84,85,86,87,88,89,90,91,92,93,94,95,96,97,98,99,100,101,102,103,104,105,106,107,108,109,110,111,112,113,114,115,116,117,118,119,120,121,122,123,124,125,126,127,128,129,130,131,132]

def CR (p:A9) (F:(List A8)) (U:List (List Int)) (A:(List (List Int))) (W:Int) (G:Int) (N:Int→Option (AS × Bool × Int)) (Q:Int→(List A8)→Option (AS × Bool × Int)) (I:Int) (M:List A8):Option (AS × Bool × Int):=
 ck ((0:Int)≤G∧G<(A.length:Int))<|
 bif (decide (I<((A.getD G.toNat default).length:Int))) then
  ck ((0:Int)≤G∧G<(A.length:Int))<|
  ck ((0:Int)≤I∧I<((A.getD G.toNat default).length:Int))<|
  ck ((0:Int)≤((A.getD G.toNat default).getD I.toNat default)∧((A.getD G.toNat default).getD I.toNat default)<(F.length:Int))<|
  ck ((M.length+[F.getD ((A.getD G.toNat default).getD I.toNat default).toNat default].length)*16≤140737488355328)<|
  Q (IntKind.wrap .i64 (I+1)) (M++[F.getD ((A.getD G.toNat default).getD I.toNat default).toNat default])
 else
  (Df p (⟨U.getD W.toNat default,M⟩:AS)).bind fun J=>
  bif J.1 then
   some ((⟨U.getD W.toNat default,M⟩:AS),true,0)
  else
   N (IntKind.wrap .i64 (G+1))

def Cw (p:A9) (F:(List A8)) (N:List (List Int)) (A:(List (List Int))) (G:Int) (I:Int→Option (AS × Bool × Int)) (J:Int→Option (AS × Bool × Int)) (M:Int):Option (AS × Bool × Int):=
 bif (decide (M<(A.length:Int))) then
  ck ((0:Int)≤G∧G<(N.length:Int))<|
  B8 (CR p F N A G M J) ((((A.getD M.toNat default).length:Int) - 0).toNat+1) 0 ([]:List A8)
 else
  I (IntKind.wrap .i64 (G+1))

def CS (p:A9) (F:(List A8)) (J:List (List Int)) (N:Int) (G:Int→Option (AS × Bool × Int)) (A:(List (List Int))) (I:Int→Option (AS × Bool × Int)) (M:Int):Option (AS × Bool × Int):=
 bif (decide (M<(J.length:Int))) then
  B1 (Cw p F J A M I) (((A.length:Int) - 0).toNat+1) 0
 else
  G (IntKind.wrap .i64 (N+1))

def D6 (p:A9) (A:(List A8)) (M:Option (AS × Bool × Int)) (J:List (List Int)) (G:Int→Option (AS × Bool × Int)) (I:Int):Option (AS × Bool × Int):=
 bif (decide (I≤(A.length:Int))) then
  (Ei (A.length:Int) I).bind fun F=>
  B1 (CS p A J I G F) (((J.length:Int) - 0).toNat+1) 0
 else
  M

def CT (p:A9) (F:(List A8)) (N:Option (AS × Bool × Int)) (A:(List (List Int))) (M:(List (List Int))→Int→Option (AS × Bool × Int)) (J:List (List Int)) (G:Int):Option (AS × Bool × Int):=
 bif (decide (G<(A.length:Int))) then
  ck ((0:Int)≤G∧G<(A.length:Int))<|
  (Df p (⟨A.getD G.toNat default,F⟩:AS)).bind fun I=>
  bif I.1 then
   ck ((0:Int)≤G∧G<(A.length:Int))<|
   ck ((J.length+[A.getD G.toNat default].length)*24≤140737488355328)<|
   M (J++[A.getD G.toNat default]) (IntKind.wrap .i64 (G+1))
  else
   M J (IntKind.wrap .i64 (G+1))
 else
  bif (decide ((J.length:Int)=0)) then
   N
  else
   B1 (D6 p F N J) 1000000 1

def D7 (p:A9) (F:(List A8)) (I:Int→Option (AS × Bool × Int)) (G:Int):Option (AS × Bool × Int):=
 bif (decide (G≤(p.variables.length:Int))) then
  jn (I (IntKind.wrap .i64 (G+1)))
  (fun J=>
   (Ei (p.variables.length:Int) G).bind fun A=>
   B8 (CT p F J A) (((A.length:Int) - 0).toNat+1) ([]:List (List Int)) 0)
 else
  some ((⟨([]:List Int),([]:List A8)⟩:AS),false,0)

def DZ (p:A9):Option (AS × Bool × Int):=
 (CH p).bind fun A=>
 bif (decide (A≠0)) then
  some ((⟨([]:List Int),([]:List A8)⟩:AS),false,A)
 else
  bif (decide (16<(p.variables.length:Int))) then
   some ((⟨([]:List Int),([]:List A8)⟩:AS),false,2)
  else
   (Du p).bind fun F=>
   B1 (D7 p F) 1000000 1

theorem I5 {w:World} {O:List Nat} {p:A9} {Aa:Option Addr} {Ca:Nat} {Ab:Option Addr} {Cb:Nat} {Ac:Option Addr} {Cc:Nat} (hO:∀k∈O,k<w.heap.size) (Fa:CA B2 w O Aa Ca p.cells) (Fb:CA (BE (AM .i64)) w O Ab Cb p.capacity) (Fc:CA AT w O Ac Cc p.variables) {x:AS × Bool × Int} (I:DZ p=some x):
 Ok Try.prog 26 [Value.agg (C0 p Aa Ca Ab Cb Ac Cc).toArray] w O (Sp (vA FP) vB (vI .i64)) x:=by
 unfold DZ at I
 refine Bt (n:=134) (xs:=[.cell 2 34,.tmp 3,.tmp 4]) Try.func26 Av Try.ntmps26 Try.results26 Av ?_
 have hs:=St.start hO
 refine Ax<|Aw<|AA<|BV (cs:=(C0 p Aa Ca Ab Cb Ac Cc)) hs Av Av ?_
 intro b1 w2 _ p3 e3
 refine AA<|Bx Dq e3 ?_
 intro b6 w7 _ p8 c3
 clear e3
 refine Bn (Bo false) Av<|Bn (Iv 0) Av<|Ay<|Ax<|Aw<|AA<|Bz 1 Bw c3 Av Av Av ?_
 obtain⟨aB,e4,I⟩:=bd I
 have dW:=(p3.trans p8)
 replace Fb:=Fb.step dW;replace Fa:=Fa.step dW;replace Fc:=Fc.step dW
 refine AA<|Bj c3 Try.call31 (FD (p:=p) c3.ltw Fa Fb Fc e4) Av ?_
 rintro k6 k7 dX aN hI
 clear c3
 obtain⟨rfl,Ra⟩:=hI
 refine Bn (Iv aB) Av<|Ay<|Ax<|Ax<|Aw<|Be (Iv aB) Av<|AA<|FB Av Av<|Ay<|AF I Av (fun e5 I=>?_) (fun e5 I=>?_)
 refine Ax ?_
 obtain⟨dA,k8⟩:=aN.sub (bs':=[(some b6,Oc [Value.slice none 0 0,Value.slice none 0 0] 34)]) (.cons_cons _ (.cons _ List.Sublist.slnil))
 clear Fa Fb Fc
 clear aN
 refine Aw<|AA<|Dv (vs:=[Value.slice none 0 0,Value.slice none 0 0]) (parts:=[]) Dq NE Av<|Be (Iv aB) Av<|Bk<|Cx .z Dq dA Av Av Av Av Av ?_
 intro k9 lA dB
 clear dA
 refine Bn (Bo false) Av<|Bn (Iv aB) Av<|Ay<|AY<|⟨_,En,[Value.agg [Value.slice none 0 0,Value.slice none 0 0].toArray,Bo false,Iv aB],⟨Lw (cs:=[Value.slice none 0 0,Value.slice none 0 0]) (vs:=[Value.slice none 0 0,Value.slice none 0 0]) Dq (i:=0) dB Av Av Av Av,Av,Av,trivial⟩,dB.ext,?_⟩
 exact Vr.eq (a:=Sp (vA FP) vB (vI .i64)) (x:=((⟨([]:List Int),([]:List A8)⟩:AS),false,aB)) (Pp (Jn (Cz (AU (B5 CA.nil_) (B5 CA.nil_)))) Av ⟨Av,Ra⟩) (oi I)
 refine AH<|Ax<|Ax<|Aw<|AA<|AP 2 Bw Av CI Av Av<|AA<|AQ 1 CI aN Av Av Av<|AA<|Bd Try.underlying24 Av ?_
 replace Fc:=Fc.step dX
 have iG:=Bb Fc
 refine AA<|EY Av Av<|Ay<|AF I Av (fun e6 I=>?_) (fun e6 I=>?_)
 refine Ax ?_
 obtain⟨dC,lB⟩:=aN.sub (bs':=[(some b6,Oc [Value.slice none 0 0,Value.slice none 0 0] 34)]) (.cons_cons _ (.cons _ List.Sublist.slnil))
 clear Fa Fb Fc
 clear aN
 refine Aw<|AA<|Dv (vs:=[Value.slice none 0 0,Value.slice none 0 0]) (parts:=[]) Dq NE Av<|Bk<|Cx .z Dq dC Av Av Av Av Av ?_
 intro lC lD dD
 clear dC
 refine Bn (Bo false) Av<|Bn (Iv 2) Av<|Ay<|AY<|⟨_,En,[Value.agg [Value.slice none 0 0,Value.slice none 0 0].toArray,Bo false,Iv 2],⟨Lw (cs:=[Value.slice none 0 0,Value.slice none 0 0]) (vs:=[Value.slice none 0 0,Value.slice none 0 0]) Dq (i:=0) dD Av Av Av Av,Av,Av,trivial⟩,dD.ext,?_⟩
 exact Vr.eq (a:=Sp (vA FP) vB (vI .i64)) (x:=((⟨([]:List Int),([]:List A8)⟩:AS),false,2)) (Pp (Jn (Cz (AU (B5 CA.nil_) (B5 CA.nil_)))) Av ⟨Av,(show BR .i64 2 from by decide)⟩) (oi I)
 refine AH<|Ax<|Aw<|AA<|Bz 1 Bw aN Av Av Av ?_
 obtain⟨A,e7,I⟩:=bd I
 replace Fb:=Fb.step dX;replace Fa:=Fa.step dX
 refine AA<|FT Try.call32 (GK (p:=p) aN.ltw Fa Fb Fc e7) Av ?_
 rintro _ lE ⟨e8,aJ,aK,lF,e9,rfl,fA,fB⟩
 obtain⟨dE,hJ⟩:=aN.callG (o:=e9) e8 fA
 rw [← Jd (o:=e9)] at fB
 clear aN
 refine Bn (Sl aJ A aK) Av<|Ay<|Ax<|Ax<|Aw<|Bn (Iv 1) Av<|Ay<|AE ?_
 obtain⟨dF,hK,aL⟩:=Gs.publish (i:=0) dE Av fB
 clear dE
 refine Wr [] [(1,Pt b1 0),(2,Pt b6 0),(6,Sl aJ A aK),(7,Iv 1)] fun aT=>Bh My (fun m fr w'=>∃(aG:Int) (Q:Bi),Q=[(some b6,Oc [Value.slice none 0 0,Value.slice none 0 0] 34),(some b1,Oc (C0 p Aa Ca Ab Cb Ac Cc) 26)]∧fr [] [(7,Iv aG)]∧dF.S (ks Q O) w'∧St ⟨w,[],[]⟩ O w' Q∧BR .i64 aG∧B1 (D7 p A) m aG=some x) 1000000 ⟨1,_,Av,BB.of ⟨Av,trivial⟩,AB.refl _ _,dF,MC,I⟩ ?_ ?_
 rintro _ _ ⟨_,_,_,_,_,_,_,I⟩;exact Dg I
 rintro lG lH fC iH lI ⟨aG,_,rfl,bU,a1,aU,Rb,I⟩
 obtain⟨iI,dY,I⟩:=Dh I;unfold D7 at I
 rw [bU.eq];clear bU
 have bV:=a1
 refine Ax<|Ax<|Aw<|Be (Iv aG) Av<|AA<|AP 2 Bw Av CI Av Av<|AA<|AQ 1 CI aU Av Av Av<|AA<|Bd Try.underlying24 Av ?_
 have dZ:=(hJ.trans (hK.trans a1))
 replace Fc:=Fc.step dZ
 have iJ:=Bb Fc
 refine AA<|HZ Av Av<|Ay<|AF I Av (fun fD I=>?_) (fun fD I=>?_)
 refine AH<|Ip My [] (CK ⟨aT,[]⟩ [(1,Pt b1 0),(2,Pt b6 0),(6,Sl aJ A aK),(7,Iv 1)]) [(7,Iv aG)] fun aW=>?_
 obtain⟨d0,fE,I⟩:=Dp I
 refine D8 Nk (fun fr w'=>∃(Q:Bi),Q=[(some b6,Oc [Value.slice none 0 0,Value.slice none 0 0] 34),(some b1,Oc (C0 p Aa Ca Ab Cb Ac Cc) 26)]∧fr [] []∧aU.S (ks Q O) w'∧St ⟨w,[],[]⟩ O w' Q∧d0=some x) ?_ ?_
 rintro iK lJ ⟨_,rfl,bW,d1,fF,I⟩
 replace I:=VU fE I
 rw [bW.eq];clear bW
 refine Aw<|Be (Iv aG) Av<|AA<|Bm Av Av<|Bn (Iv (wq (aG+1))) Av<|Ay ?_
 replace bV:=bV.trans d1
 exact fC _ _ ⟨(wq (aG+1)),_,Av,BB.of ⟨Av,trivial⟩,bV,fF,(AZ .i64 _),Ed dY I⟩
 intro lK dG
 have aX:=aU.stepR
 refine AE<|Ax<|Aw<|Bn (Value.slice none 0 0) Av<|Ay<|Ax<|Aw<|AA<|AP 2 Bw Av CI Av Av<|AA<|AQ 1 CI aU Av Av Av<|AA<|Bd Try.underlying24 Av ?_
 have fG:=Bb Fc
 refine Be (Iv aG) Av ?_
 obtain⟨G,fH,I⟩:=bd I
 refine AA<|Bj aU Try.call59 (GS (n:=(p.variables.length:Int)) (k:=aG) aU.ltw fG Rb fH) Av ?_
 rintro lL lM a7 fI hL
 obtain⟨Ad,Cd,rfl,Fd⟩:=BH hL
 refine Bn (Sl Ad G Cd) Av<|Ay<|Ax<|Ax<|Aw<|Bn (Iv 0) Av<|Ay<|AE<|Ip Nk [] (CK (IT My [] aW (CK ⟨aT,[]⟩ [(1,Pt b1 0),(2,Pt b6 0),(6,Sl aJ A aK),(7,Iv 1)])) [(7,Iv aG)]) [(8,Value.slice none 0 0),(9,Sl Ad G Cd),(10,Iv 0)] fun fJ=>?_
 have dH:=fI.ghost (Obj.cells #[] 31)
 refine Bh UI (fun m fr w'=>∃(N:List (List Int)) (U:Int) (Ae:Option Addr) (Ce:Nat) (aH:Option Nat) (aC:Obj) (Q:Bi),Q=[(aH,aC),(some b6,Oc [Value.slice none 0 0,Value.slice none 0 0] 34),(some b1,Oc (C0 p Aa Ca Ab Cb Ac Cc) 26)]∧fr [] [(8,Sl Ae N Ce),(10,Iv U)]∧dH.S (ks Q O) w'∧St ⟨w,[],[]⟩ O w' Q∧Gs (BE (AM .i64)) 31 w' (ks Q O) Ae Ce N aH aC∧BR .i64 U∧B8 (CT p A d0 G) m N U=some x) (((G.length:Int) - 0).toNat+1) ⟨([]:List (List Int)),0,none,0,none,Obj.cells #[] 31,_,Av,BB.of ⟨Av,Av,trivial⟩,AB.refl _ _,dH,Gs.nil_,EG,I⟩ ?_ ?_
 rintro _ _ ⟨_,_,_,_,_,_,_,_,_,_,_,_,_,I⟩;exact D9 I
 rintro lN lO dI iL lP ⟨N,U,Ae,Ce,aH,aC,_,rfl,bX,aA,aS,Fe,Rc,I⟩
 obtain⟨iM,bY,I⟩:=DA I;unfold CT at I
 rw [bX.eq];clear bX
 have aY:=aA
 refine Ax<|Ax<|Aw<|Be (Iv U) Av<|Be (Sl Ad G Cd) Av<|AA<|Bd Try.underlying23 Av ?_
 replace Fd:=Fd.step aA
 have hM:=Bb Fd
 refine AA<|Bu Av Av<|Ay<|AF I Av (fun d2 I=>?_) (fun d2 I=>?_)
 refine AH<|Ax<|AE<|Ax<|B9 (g0:=[]) (m:=11) (fl:=[10]) (Dc aS) Av (.inl Av) Av (by decide+kernel) ?_  -- 15
 refine Ba (Value.agg (C0 p Aa Ca Ab Cb Ac Cc).toArray) (fun _ _ _ hi X=>Bz 2 Bw (AB.nx hi).1 (X 1 Av) Av Av<|Gz hi)<|Ba (Sl Ad G Cd) (fun _ _ _ hi X=>AD (v:=Sl Ad G Cd) (X 9 Av)<|Gz hi)<|Ba (Iv U) (fun _ _ _ hi X=>AD (v:=Iv U) (X 10 Av)<|Gz hi) ?_
 obtain⟨bZ,I⟩:=AG I
 refine Bc (VP _ _ (BE (AM .i64)) (gt G U)) (VP.stab _ _) (fun hN iN g aF hi X=>?_) ?_
 obtain⟨-,aV,-⟩:=aF
 replace Fd:=Fd.step aV
 refine Az<|AC (q:=BE (AM .i64)) CB Bp (X 54 Av) (X 55 Av) Fd Av bZ.1 bZ.2 ?_
 intro iO fK
 exact Bs.same hi ⟨_,Av,fK⟩
 refine Bc (VD _ _ (vC (BE (AM .i64))) (gt G U)) (VD.stab _ _) (fun hP iP g aF hi X=>?_) ?_
 obtain⟨iQ,fL,fM⟩:=X 56 Av
 refine Az<|AX Bp fL fM Av ?_
 intro iR fN
 obtain⟨Af,Cf,rfl,Ff⟩:=BH fN
 exact Bs.same hi (show Vr.vd (vC (BE (AM .i64))) _ _ _ _ from(Ke (B5 Ff)))
 refine Ba (Sl aJ A aK) (fun _ _ _ hi X=>AD (v:=Sl aJ A aK) (X 6 Av)<|Gz hi) ?_
 replace aL:=aL.step (a1.trans (a7.trans aA))
 refine Bc (VD _ _ (vA FP) (⟨gt G U,A⟩:AS)) (VD.stab _ _) (fun hQ iS g aF hi X=>?_) ?_
 obtain⟨-,aV,-⟩:=aF
 replace aL:=aL.step aV
 have fO:Vr.vd (vC (BE (AM .i64))) _ _ _ _:=X 57 Av
 obtain⟨Ag,Cg,fP,Fg⟩:=BH fO
 refine Az (Dv (vs:=[Sl Ag (gt G U) Cg,Sl aJ A aK]) (parts:=[(0,.tmp 57),(1,.tmp 58)]) Dq NE (by simp only [List.map,(show ev _ (.tmp 57)=_ from fP),(show ev _ (.tmp 58)=_ from(X 58 Av))];rfl) ?_)
 exact Bs.same hi (show Vr.vd (vA FP) _ _ _ _ from(Jn (Cz (AU (B5 Fg) (B5 aL)))))
 obtain⟨J,d3,I⟩:=bd I
 have dJ:=(dZ.trans (a7.trans aA))
 replace Fb:=Fb.step dJ;replace Fa:=Fa.step dJ
 have fQ:=(a7.trans aA)
 replace Fc:=Fc.step fQ
 refine Bc (VD _ _ (Kr vB (vI .i64)) J) (VD.stab _ _) (fun hR iT g aF hi X=>?_) ?_
 obtain⟨-,aV,-⟩:=aF
 replace Fa:=Fa.step aV;replace Fb:=Fb.step aV;replace Fc:=Fc.step aV
 have fR:Vr.vd (vA FP) _ _ _ _:=X 59 Av
 obtain⟨_,fS,⟨_,_,rfl,⟨Ah,Ch,rfl,Fh⟩,⟨Ai,Ci,rfl,Fi⟩⟩⟩:=fR
 refine Az (FT Try.call25 (Ha (O:=ks (Em g++[(aH,aC),(some b6,Oc [Value.slice none 0 0,Value.slice none 0 0] 34),(some b1,Oc (C0 p Aa Ca Ab Cb Ac Cc) 26)]) O) (p:=p) (r_:=(⟨gt G U,A⟩:AS)) hi.ltw Fa Fb Fc Fh Fi d3) (by simp only [List.map,Array.toList,(show ev _ (.tmp 53)=_ from(X 53 Av)),(show ev _ (.tmp 59)=_ from fS)]<;> rfl) ?_)
 rintro iU iV ⟨d4,fT⟩
 exact Bs.call hi d4 fT
 refine Bc (VD _ _ (Kr vB (vI .i64)) J) (VD.stab _ _) (fun hS iW g aF hi X=>?_) ?_
 have h:Vr.vd (Kr vB (vI .i64)) _ _ _ _:=X 60 Av
 refine Az (AD Av (Bs.same hi h))
 refine Do (Bo J.1) (fun hT iX g aF hi X=>?_) ?_
 have fU:Vr.vd (Kr vB (vI .i64)) _ _ _ _:=X 52 Av
 obtain⟨iY,iZ,fV,fW,fX⟩:=fU
 obtain rfl:=fW
 obtain⟨rfl,Rd⟩:=fX
 exact Az<|Bg (v:=Bo J.1) fV Av<|Gz hi
 refine Bc (VD _ _ (vI .i64) J.2) (VD.stab _ _) (fun hU i0 g aF hi X=>?_) ?_
 have fY:Vr.vd (Kr vB (vI .i64)) _ _ _ _:=X 52 Av
 obtain⟨i1,i2,fZ,f0,f1⟩:=fY
 obtain rfl:=f0
 obtain⟨rfl,Re⟩:=f1
 exact Az<|Bg (v:=Iv J.2) fZ Av<|Bs.same hi (show Vr.vd (vI .i64) _ _ _ _ from⟨Av,Re⟩)
 refine BA fun i3 i4 d5 d6=>?_
 obtain⟨-,c4,-⟩:=d5
 obtain⟨a2,a8⟩:=AB.nx d6
 rintro i5 b0
 replace b0:Vr.vd (vI .i64) _ _ _ _:=b0
 obtain⟨rfl,Rf⟩:=b0
 rintro _ rfl i6 b2
 replace b2:Vr.vd (Kr vB (vI .i64)) _ _ _ _:=b2
 obtain⟨i7,i8,rfl,f2,f3⟩:=b2
 obtain rfl:=f2
 obtain⟨rfl,Rg⟩:=f3
 rintro i9 b3
 replace b3:Vr.vd (Kr vB (vI .i64)) _ _ _ _:=b3
 obtain⟨jA,jB,rfl,f4,f5⟩:=b3
 obtain rfl:=f4
 obtain⟨rfl,Rh⟩:=f5
 rintro jC b4
 replace b4:Vr.vd (vA FP) _ _ _ _:=b4
 obtain⟨_,rfl,⟨_,_,rfl,⟨Aj,Cj,rfl,Fj⟩,⟨Ak,Ck,rfl,Fk⟩⟩⟩:=b4
 rintro _ rfl jD b5
 replace b5:Vr.vd (vC (BE (AM .i64))) _ _ _ _:=b5
 obtain⟨Al,Cl,rfl,Fl⟩:=BH b5
 rintro _ ⟨jE,rfl,b7⟩ _ rfl _ rfl _ rfl
 have bM:=aS.to a2 (c4.trans a8)
 replace Fj:=Fj.step a8;replace Fk:=Fk.step a8;replace Fl:=Fl.step a8;replace b7:=b7.step a8;clear aS
 refine Bn (Bo J.1) Av<|Bn (Iv J.2) Av<|Ay<|Ax ?_
 clear Fj Fk Fl b7
 refine Aw<|Be (Bo J.1) Av<|Ay<|AF I Av (fun d7 I=>?_) (fun d7 I=>?_)
 refine Aw<|Be (Sl Ae N Ce) Av<|Be (Sl Ad G Cd) Av<|Be (Iv U) Av ?_
 obtain⟨b8,I⟩:=AG I
 replace Fd:=Fd.step bM
 refine AA<|AC (q:=BE (AM .i64)) CB Bp Av Av Fd Av b8.1 b8.2 ?_
 intro jF dK
 refine AA<|AX Bp Av dK Av ?_
 intro jG f6
 obtain⟨Am,Cm,rfl,Fm⟩:=BH f6
 refine AA<|Bf (cs:=[Sl Am (gt G U) Cm]) (parts:=[(0,.tmp 68)]) CB Bp a2 (by decide) Av ?_
 intro jH jI hV dL bB
 clear a2
 obtain⟨b9,I⟩:=AG I
 have dM:=(bM.trans dL)
 replace Fe:=Fe.step dM;replace Fm:=Fm.step dL
 refine AA (DR (q:=BE (AM .i64)) (i:=1) (xs:=N) (ys:=[gt G U]) (news:=[Sl Am (gt G U) Cm]) CB Bp Av (by decide) bB Av Av Fe Av (Mm.owned' (len:=1) (bB.get (i:=0) Av) Av) (show Ej (BE (AM .i64)) _ _ [Sl Am (gt G U) Cm] [gt G U] from⟨_,_,Av,B5 Fm,Ej.nil⟩) b9 (by have:=b9;simp only [maxLen,gt];omega) ?_)
 intro cA cB f7 f8 jJ f9 bC cC
 clear bB
 have d8:=bC.drop 0
 have dN:=(bC.dropS 0)
 clear bC
 refine Bn (Sl cA (N++[gt G U]) cB) Av<|Ay ?_
 clear dK Fm
 refine Ip UI [] (CK (IT Nk [] fJ (CK (IT My [] aW (CK ⟨aT,[]⟩ [(1,Pt b1 0),(2,Pt b6 0),(6,Sl aJ A aK),(7,Iv 1)])) [(7,Iv aG)])) [(8,Value.slice none 0 0),(9,Sl Ad G Cd),(10,Iv 0)]) [(8,Sl cA (N++[gt G U]) cB),(10,Iv U)] fun hW=>Aw<|Be (Iv U) Av<|AA<|Bm Av Av<|Bn (Iv (wq (U+1))) Av<|Ay ?_
 have gA:=(dM.trans (f9.trans dN))
 replace aY:=aY.trans gA;replace cC:=cC.step dN
 exact dI _ _ ⟨N++[gt G U],(wq (U+1)),cA,cB,f7,f8,_,Av,BB.of ⟨Av,Av,trivial⟩,aY,d8,cC,(AZ .i64 _),GD bY I⟩
 refine AH<|Aw<|Be (Iv U) Av<|AA<|Bm Av Av<|Bn (Iv (wq (U+1))) Av<|Ay ?_
 replace aY:=aY.trans bM;replace Fe:=Fe.step bM
 exact dI _ _ ⟨N,(wq (U+1)),Ae,Ce,aH,aC,_,Av,BB.of ⟨Av,Av,trivial⟩,aY,a2,Fe,(AZ .i64 _),GD bY I⟩
 refine Br<|Ax<|Ax ?_
 clear Fd
 refine Aw<|Be (Sl Ae N Ce) Av<|AA<|Bd Try.underlying23 Av ?_
 have hX:=Hs Fe
 refine AA<|GV Av Av<|Ay<|AF I Av (fun d9 I=>?_) (fun d9 I=>?_)
 refine Br ?_
 have eA:=aS.drop 0
 have gB:=(aS.dropS 0)
 clear aS
 have gC:=(a7.trans (aA.trans gB))
 replace aX:=aX.trans gC
 exact dG _ _ ⟨_,Av,BB.of trivial,aX,eA,I⟩
 refine AH<|Ax<|Aw<|Bn (Iv 1) Av<|Ay<|AE<|Ip Nk [] (CK (IT My [] aW (CK ⟨aT,[]⟩ [(1,Pt b1 0),(2,Pt b6 0),(6,Sl aJ A aK),(7,Iv 1)])) [(7,Iv aG)]) [(8,Sl Ae N Ce),(13,Iv 1)] fun bD=>Bh QV (fun m fr w'=>∃(aO:Int) (Q:Bi),Q=[(aH,aC),(some b6,Oc [Value.slice none 0 0,Value.slice none 0 0] 34),(some b1,Oc (C0 p Aa Ca Ab Cb Ac Cc) 26)]∧fr [] [(13,Iv aO)]∧aS.S (ks Q O) w'∧St ⟨w,[],[]⟩ O w' Q∧BR .i64 aO∧B1 (D6 p A d0 N) m aO=some x) 1000000 ⟨1,_,Av,BB.of ⟨Av,trivial⟩,AB.refl _ _,aS,MC,I⟩ ?_ ?_
 rintro _ _ ⟨_,_,_,_,_,_,_,I⟩;exact Dg I
 rintro jK jL eB hY jM ⟨aO,_,rfl,bN,aI,a3,Ri,I⟩
 obtain⟨eC,c5,I⟩:=Dh I;unfold D6 at I
 rw [bN.eq];clear bN
 have bE:=aI
 refine Ax<|Ax<|Aw<|Be (Iv aO) Av<|Be (Sl aJ A aK) Av<|AA<|Bd Try.underlying32 Av ?_
 replace aL:=aL.step (a1.trans (a7.trans (aA.trans aI)))
 have hZ:=Bb aL
 refine AA<|HZ Av Av<|Ay<|AF I Av (fun eD I=>?_) (fun eD I=>?_)
 refine AH<|Ax<|AE<|Ax<|Aw<|Be (Sl aJ A aK) Av<|AA<|Bd Try.underlying32 Av ?_
 have eE:=Bb aL
 refine Be (Iv aO) Av ?_
 obtain⟨F,eF,I⟩:=bd I
 refine AA<|Bj a3 Try.call59 (GS (n:=(A.length:Int)) (k:=aO) a3.ltw eE Ri eF) Av ?_
 rintro jN jO a9 cD gD
 obtain⟨An,Cn,rfl,Fn⟩:=BH gD
 refine Bn (Sl An F Cn) Av<|Ay<|Ax<|Aw<|Bn (Iv 0) Av<|Ay<|AE<|Ip QV [] (CK (IT Nk [] bD (CK (IT My [] aW (CK ⟨aT,[]⟩ [(1,Pt b1 0),(2,Pt b6 0),(6,Sl aJ A aK),(7,Iv 1)])) [(7,Iv aG)])) [(8,Sl Ae N Ce),(13,Iv 1)]) [(13,Iv aO),(14,Sl An F Cn),(15,Iv 0)] fun cE=>Bh SU (fun m fr w'=>∃(Z:Int) (Q:Bi),Q=[(aH,aC),(some b6,Oc [Value.slice none 0 0,Value.slice none 0 0] 34),(some b1,Oc (C0 p Aa Ca Ab Cb Ac Cc) 26)]∧fr [] [(15,Iv Z)]∧cD.S (ks Q O) w'∧St ⟨w,[],[]⟩ O w' Q∧BR .i64 Z∧B1 (CS p A N aO eC F) m Z=some x) (((N.length:Int) - 0).toNat+1) ⟨0,_,Av,BB.of ⟨Av,trivial⟩,AB.refl _ _,cD,EG,I⟩ ?_ ?_
 rintro _ _ ⟨_,_,_,_,_,_,_,I⟩;exact Dg I
 rintro jP jQ eG h0 jR ⟨Z,_,rfl,bO,aD,bF,Rj,I⟩
 obtain⟨eH,c6,I⟩:=Dh I;unfold CS at I
 rw [bO.eq];clear bO
 have bG:=aD
 refine Ax<|Ax<|Aw<|Be (Iv Z) Av<|Be (Sl Ae N Ce) Av<|AA<|Bd Try.underlying23 Av ?_
 have gE:=(aI.trans (a9.trans aD))
 replace Fe:=Fe.step gE
 have h1:=Hs Fe
 refine AA<|Bu Av Av<|Ay<|AF I Av (fun eI I=>?_) (fun eI I=>?_)
 refine AH<|Ax<|AE<|Ax<|Aw<|Bn (Iv 0) Av<|Ay<|AE<|Ip SU [] (CK (IT QV [] cE (CK (IT Nk [] bD (CK (IT My [] aW (CK ⟨aT,[]⟩ [(1,Pt b1 0),(2,Pt b6 0),(6,Sl aJ A aK),(7,Iv 1)])) [(7,Iv aG)])) [(8,Sl Ae N Ce),(13,Iv 1)])) [(13,Iv aO),(14,Sl An F Cn),(15,Iv 0)]) [(15,Iv Z),(16,Iv 0)] fun eJ=>Bh UH (fun m fr w'=>∃(M:Int) (Q:Bi),Q=[(aH,aC),(some b6,Oc [Value.slice none 0 0,Value.slice none 0 0] 34),(some b1,Oc (C0 p Aa Ca Ab Cb Ac Cc) 26)]∧fr [] [(16,Iv M)]∧bF.S (ks Q O) w'∧St ⟨w,[],[]⟩ O w' Q∧BR .i64 M∧B1 (Cw p A N F Z eH) m M=some x) (((F.length:Int) - 0).toNat+1) ⟨0,_,Av,BB.of ⟨Av,trivial⟩,AB.refl _ _,bF,EG,I⟩ ?_ ?_
 rintro _ _ ⟨_,_,_,_,_,_,_,I⟩;exact Dg I
 rintro jS jT eK h2 jU ⟨M,_,rfl,bP,aE,a4,Rk,I⟩
 obtain⟨eL,c7,I⟩:=Dh I;unfold Cw at I
 rw [bP.eq];clear bP
 have bH:=aE
 refine Ax<|Ax<|Aw<|Be (Iv M) Av<|Be (Sl An F Cn) Av<|AA<|Bd Try.underlying23 Av ?_
 replace Fn:=Fn.step (aD.trans aE)
 have h3:=Bb Fn
 refine AA<|Bu Av Av<|Ay<|AF I Av (fun eM I=>?_) (fun eM I=>?_)
 refine AH<|Ax<|AE<|Ax<|Aw<|Be (Sl Ae N Ce) Av<|Be (Iv Z) Av ?_
 obtain⟨cF,I⟩:=AG I
 replace Fe:=Fe.step aE
 refine AA<|B7 CB Bp Av Av Fe cF ?_
 rintro dO rfl rfl
 refine AA<|Gr (m:=Z) (i:=0) Bp Av a4 Av Av Fe cF ?_
 intro jV gF
 obtain⟨Ao,Co,rfl,Fo⟩:=BH gF
 refine AA<|Dv (vs:=[Sl Ao (gt N Z) Co,Value.slice none 0 0]) (parts:=[(0,.tmp 99)]) Dq NE Av<|AA<|Bx Dq a4 ?_
 intro cG jW _ bQ cH
 clear a4
 refine Bk<|Cx .z Dq cH Av Av Av Av Av ?_
 intro jX bR eN
 clear cH
 refine Ay<|Ax<|Ax<|Aw<|Bn (Iv 0) Av<|Ay<|AE<|Ip UH [] (CK (IT SU [] eJ (CK (IT QV [] cE (CK (IT Nk [] bD (CK (IT My [] aW (CK ⟨aT,[]⟩ [(1,Pt b1 0),(2,Pt b6 0),(6,Sl aJ A aK),(7,Iv 1)])) [(7,Iv aG)])) [(8,Sl (some ⟨dO,0,none⟩) N Ce),(13,Iv 1)])) [(13,Iv aO),(14,Sl An F Cn),(15,Iv 0)])) [(15,Iv Z),(16,Iv 0)]) [(16,Iv M),(17,Pt cG 0),(18,Iv 0)] fun h4=>?_
 have cI:=eN.ghost (Obj.cells #[] 45)
 refine Bh Xn (fun m fr w'=>∃(Y:Int) (aP:List A8) (Ap:Option Addr) (Cp:Nat) (a5:Option Nat) (a6:Obj) (Q:Bi),Q=[(a5,a6),(some cG,Oc [Sl Ao (gt N Z) Co,Sl Ap aP Cp] 34),(some dO,aC),(some b6,Oc [Value.slice none 0 0,Value.slice none 0 0] 34),(some b1,Oc (C0 p Aa Ca Ab Cb Ac Cc) 26)]∧fr [] [(18,Iv Y)]∧cI.S (ks Q O) w'∧St ⟨w,[],[]⟩ O w' Q∧BR .i64 Y∧Gs AO 45 w' (ks Q O) Ap Cp aP a5 a6∧B8 (CR p A N F Z M eL) m Y aP=some x) ((((gt F M).length:Int) - 0).toNat+1) ⟨0,([]:List A8),none,0,none,Obj.cells #[] 45,_,Av,BB.of ⟨Av,trivial⟩,AB.refl _ _,cI,EG,Gs.nil_,I⟩ ?_ ?_
 rintro _ _ ⟨_,_,_,_,_,_,_,_,_,_,_,_,_,I⟩;exact D9 I
 rintro jY jZ eO h5 j0 ⟨Y,aP,Ap,Cp,a5,a6,_,rfl,bS,aQ,aM,Rl,Fp,I⟩
 obtain⟨h6,c8,I⟩:=DA I;unfold CR at I
 rw [bS.eq];clear bS
 have bI:=aQ
 refine Ax<|Ax<|Aw<|Be (Iv Y) Av<|Be (Sl An F Cn) Av<|Be (Iv M) Av ?_
 obtain⟨cJ,I⟩:=AG I
 have dP:=(bQ.trans (bR.trans aQ))
 replace Fn:=Fn.step dP
 refine AA<|AC (q:=BE (AM .i64)) CB Bp Av Av Fn Av cJ.1 cJ.2 ?_
 intro j1 cK
 refine AA<|AX Bp Av cK Av ?_
 intro j2 gG
 obtain⟨Aq,Cq,rfl,Fq⟩:=BH gG
 refine AA<|Bd Try.underlying31 Av ?_
 have h7:=Bb Fq
 refine AA<|Bu Av Av<|Ay<|AF I Av (fun eP I=>?_) (fun eP I=>?_)
 refine AH<|Ax<|AE ?_
 clear cK Fq
 refine B9 (g0:=[]) (m:=13) (fl:=[]) (Dc aM) Av (.inl Av) Av (by decide+kernel) ?_  -- 33
 refine Ba (Pt cG 1) (fun _ _ _ hi X=>AP 1 Dq Av Ep (X 17 Av) Av<|Gz hi)<|Ba (Sl Ap aP Cp) (fun _ _ _ hi X=>AQ 1 Ep (AB.nx hi).1 (X 110 Av) Av Av<|Gz hi)<|Ba (Sl aJ A aK) (fun _ _ _ hi X=>AD (v:=Sl aJ A aK) (X 6 Av)<|Gz hi)<|Ba (Sl An F Cn) (fun _ _ _ hi X=>AD (v:=Sl An F Cn) (X 14 Av)<|Gz hi)<|Ba (Iv M) (fun _ _ _ hi X=>AD (v:=Iv M) (X 16 Av)<|Gz hi) ?_
 obtain⟨cL,I⟩:=AG I
 refine Bc (VP _ _ (BE (AM .i64)) (gt F M)) (VP.stab _ _) (fun h8 j3 g aF hi X=>?_) ?_
 obtain⟨-,aV,-⟩:=aF
 replace Fn:=Fn.step aV
 refine Az<|AC (q:=BE (AM .i64)) CB Bp (X 113 Av) (X 114 Av) Fn Av cL.1 cL.2 ?_
 intro j4 gH
 exact Bs.same hi ⟨_,Av,gH⟩
 refine Bc (VD _ _ (vC (BE (AM .i64))) (gt F M)) (VD.stab _ _) (fun h9 j5 g aF hi X=>?_) ?_
 obtain⟨j6,gI,gJ⟩:=X 115 Av
 refine Az<|AX Bp gI gJ Av ?_
 intro j7 gK
 obtain⟨Ar,Cr,rfl,Fr⟩:=BH gK
 exact Bs.same hi (show Vr.vd (vC (BE (AM .i64))) _ _ _ _ from(Ke (B5 Fr)))
 refine Ba (Iv Y) (fun _ _ _ hi X=>AD (v:=Iv Y) (X 18 Av)<|Gz hi) ?_
 obtain⟨cM,I⟩:=AG I
 refine Bc (VP _ _ (AM .i64) (gt (gt F M) Y)) (VP.stab _ _) (fun iA j8 g aF hi X=>?_) ?_
 have gL:Vr.vd (vC (BE (AM .i64))) _ _ _ _:=X 116 Av
 obtain⟨As,Cs,gM,Fs⟩:=BH gL
 refine Az<|AC (q:=(AM .i64)) Bp BD gM (X 117 Av) Fs Av cM.1 cM.2 ?_
 intro j9 gN
 exact Bs.same hi ⟨_,Av,gN⟩
 refine Bc (VD _ _ (vI .i64) (gt (gt F M) Y)) (VD.stab _ _) (fun iB kA g aF hi X=>?_) ?_
 obtain⟨kB,gO,gP⟩:=X 118 Av
 refine Az<|AX BD gO gP Av ?_
 intro kC gQ
 obtain⟨rfl,Rm⟩:=C3 gQ
 exact Bs.same hi (show Vr.vd (vI .i64) _ _ _ _ from⟨Av,Rm⟩)
 obtain⟨cN,I⟩:=AG I
 have gR:=(a9.trans (aD.trans (aE.trans (bQ.trans (bR.trans aQ)))))
 replace aL:=aL.step gR
 refine Bc (VP _ _ AO (gt A (gt (gt F M) Y))) (VP.stab _ _) (fun iC kD g aF hi X=>?_) ?_
 obtain⟨-,aV,-⟩:=aF
 replace aL:=aL.step aV
 have gS:Vr.vd (vI .i64) _ _ _ _:=X 119 Av
 obtain⟨gT,Rn⟩:=gS
 refine Az<|AC (q:=AO) Ep BW (X 112 Av) gT aL Av cN.1 cN.2 ?_
 intro kE gU
 exact Bs.same hi ⟨_,Av,gU⟩
 refine Bc (VD _ _ (vA AO) (gt A (gt (gt F M) Y))) (VD.stab _ _) (fun iD kF g aF hi X=>?_) ?_
 obtain⟨kG,gV,gW⟩:=X 120 Av
 refine Az<|BF BW gV gW Av ?_
 intro iE gX
 obtain⟨_,_,rfl,⟨rfl,Ro⟩,⟨rfl,Rp⟩⟩:=gX
 exact Bs.same hi (show Vr.vd (vA AO) _ _ _ _ from(Jn (Cz (AU (AW Ro) (AW Rp)))))
 refine Bc (VD _ _ (vC (BE AO)) [gt A (gt (gt F M) Y)]) (VD.stab _ _) (fun iF kH g aF hi X=>?_) ?_
 have gY:Vr.vd (vA AO) _ _ _ _:=X 121 Av
 obtain⟨_,gZ,⟨_,_,rfl,⟨rfl,Rq⟩,⟨rfl,Rr⟩⟩⟩:=gY
 refine Az (Bf (cs:=[Iv ((gt A (gt (gt F M) Y)).leaf),Iv ((gt A (gt (gt F M) Y)).cell)]) (parts:=[(0,.tmp 121)]) Ep BW hi (by decide) (by simp only [List.map,(show ev _ (.tmp 121)=_ from gZ)];rfl) ?_)
 intro kJ kK eQ g1 eR
 obtain⟨eS,g2,g3⟩:=St.publish (q:=AO) (i:=0) (o:=0) (c:=1) (xs:=[gt A (gt (gt F M) Y)]) eR Av (show Ej AO _ _ [Iv ((gt A (gt (gt F M) Y)).leaf),Iv ((gt A (gt (gt F M) Y)).cell)] [gt A (gt (gt F M) Y)] from⟨_,_,Av,Cz (AU (AW Rq) (AW Rr)),Ej.nil⟩) (BG Av) (BG Av) (BG Av)
 exact Bs.pub hi eS (AB.trans g1 g2) eQ (show Vr.vd (vC (BE AO)) _ _ _ _ from Ke (B5 g3))
 refine BA fun kL kM eT eU=>?_
 obtain⟨-,c9,-⟩:=eT
 obtain⟨bJ,aZ⟩:=AB.nx eU
 rintro kN cO
 replace cO:Vr.vd (vC (BE AO)) _ _ _ _:=cO
 obtain⟨At,Ct,rfl,Ft⟩:=BH cO
 rintro kO cP
 replace cP:Vr.vd (vA AO) _ _ _ _:=cP
 obtain⟨_,rfl,⟨_,_,rfl,⟨rfl,Rs⟩,⟨rfl,Rt⟩⟩⟩:=cP
 rintro _ ⟨kP,rfl,cQ⟩ kQ cR
 replace cR:Vr.vd (vI .i64) _ _ _ _:=cR
 obtain⟨rfl,Ru⟩:=cR
 rintro _ ⟨kR,rfl,cS⟩ _ rfl kS cT
 replace cT:Vr.vd (vC (BE (AM .i64))) _ _ _ _:=cT
 obtain⟨Au,Cu,rfl,Fu⟩:=BH cT
 rintro _ ⟨kT,rfl,cU⟩ _ rfl _ rfl _ rfl _ rfl _ rfl
 have dQ:=aM.to bJ (c9.trans aZ)
 replace Ft:=Ft.step aZ;replace cQ:=cQ.step aZ;replace cS:=cS.step aZ;replace Fu:=Fu.step aZ;replace cU:=cU.step aZ;clear aM
 obtain⟨cV,I⟩:=AG I
 obtain⟨eV,eW,eX⟩:=Ft.src
 replace Fp:=Fp.step dQ
 refine AA (DR (q:=AO) (i:=0) (xs:=aP) (ys:=[gt A (gt (gt F M) Y)]) (news:=eV) Ep BW Av (by decide) bJ Av Av Fp Av eX eW cV (by have:=cV;simp only [maxLen,gt];omega) ?_)
 intro cW cX g4 g5 kU g6 cY cZ
 clear bJ
 refine AA<|AP 1 Dq Av Ep Av Av<|Bk<|II (Sl cW (aP++[gt A (gt (gt F M) Y)]) cX) (cs':=[Sl Ao (gt N Z) Co,Sl cW (aP++[gt A (gt (gt F M) Y)]) cX]) HG.p1 Ep cY Av Av Av (BG Av) Av Av ?_
 intro kV dR eY
 clear cY
 refine Ay ?_
 clear Ft cQ cS Fu cU
 refine Aw<|Be (Iv Y) Av<|AA<|Bm Av Av<|Bn (Iv (wq (Y+1))) Av<|Ay ?_
 have g7:=(dQ.trans (g6.trans dR))
 replace bI:=bI.trans g7;replace cZ:=cZ.step dR
 exact eO _ _ ⟨(wq (Y+1)),aP++[gt A (gt (gt F M) Y)],cW,cX,g4,g5,_,Av,BB.of ⟨Av,trivial⟩,bI,eY,(AZ .i64 _),cZ,GD c8 I⟩
 refine Br<|Ax ?_
 clear cK Fq
 refine Aw<|AA<|Bz 4 Bw aM Av Av Av<|AA<|Bz 1 Dq aM Av Av Av ?_
 obtain⟨bK,c0,bT⟩:=Gs.publish (i:=0) aM Av Fp
 clear aM
 obtain⟨W,eZ,I⟩:=bd I
 have dS:=(dZ.trans (a7.trans (aA.trans (aI.trans (a9.trans (aD.trans (aE.trans (bQ.trans (bR.trans (aQ.trans c0))))))))))
 replace Fb:=Fb.step dS;replace Fa:=Fa.step dS
 have g8:=(a7.trans (aA.trans (aI.trans (a9.trans (aD.trans (aE.trans (bQ.trans (bR.trans (aQ.trans c0)))))))))
 replace Fc:=Fc.step g8
 have dT:=(dP.trans c0)
 replace Fo:=Fo.step dT
 refine AA<|Bj bK Try.call25 (Ha (p:=p) (r_:=(⟨gt N Z,aP⟩:AS)) bK.ltw Fa Fb Fc Fo bT eZ) Av ?_
 rintro kW kX dU aR g9
 clear bK
 obtain⟨kY,kZ,rfl,hA,hB⟩:=g9
 obtain rfl:=hA
 obtain⟨rfl,Rv⟩:=hB
 refine Be (Value.tuple [Bo W.1,Iv W.2].toArray) Av<|AA<|Bg (v:=Bo W.1) Av Av<|AA<|Bg (v:=Iv W.2) Av Av<|Bn (Bo W.1) Av<|Bn (Iv W.2) Av<|Ay<|Ax<|Aw<|Be (Bo W.1) Av<|Ay<|AF I Av (fun e0 I=>?_) (fun e0 I=>?_)
 refine Ax ?_
 clear aL Fe Fn
 refine Aw<|AA<|Bz 0 Dq aR Av Av Av<|Bk<|Cx HG.p2 Dq aR Av Av Av Av Av ?_
 intro k0 hC bL
 clear aR
 refine Bn (Bo true) Av<|Bn (Iv 0) Av<|Ay<|AY ?_
 have hz:=Gp bL
 refine⟨_,En,[Value.agg [Sl Ao (gt N Z) Co,Sl Ap aP Cp].toArray,Bo true,Iv 0],⟨Lw (cs:=[Sl Ao (gt N Z) Co,Sl Ap aP Cp]) (vs:=[Sl Ao (gt N Z) Co,Sl Ap aP Cp]) Dq (i:=2) bL Av Av Av Av,Av,Av,trivial⟩,bL.ext,?_⟩
 have dV:=(dU.trans (hC.trans hz))
 replace bT:=bT.step dV;replace Fo:=Fo.step dV
 exact Vr.eq (a:=Sp (vA FP) vB (vI .i64)) (x:=((⟨gt N Z,aP⟩:AS),true,0)) (Pp (Jn (Cz (AU (B5 Fo) (B5 bT)))) Av ⟨Av,EG⟩) (oi I)
 refine AH<|Aw<|Be (Iv M) Av<|AA<|Bm Av Av<|Bn (Iv (wq (M+1))) Av<|Ay ?_
 have e1:=aR.drop 0
 have hD:=(aR.dropS 0)
 clear aR
 have hE:=(dT.trans (dU.trans hD))
 replace bH:=bH.trans hE
 exact eK _ _ ⟨(wq (M+1)),_,Av,BB.of ⟨Av,trivial⟩,bH,e1,(AZ .i64 _),Ed c7 I⟩
 refine Br<|Aw<|Be (Iv Z) Av<|AA<|Bm Av Av<|Bn (Iv (wq (Z+1))) Av<|Ay ?_
 replace bG:=bG.trans aE
 exact eG _ _ ⟨(wq (Z+1)),_,Av,BB.of ⟨Av,trivial⟩,bG,a4,(AZ .i64 _),Ed c6 I⟩
 refine Br ?_
 clear Fn
 refine Aw<|Be (Iv aO) Av<|AA<|Bm Av Av<|Bn (Iv (wq (aO+1))) Av<|Ay ?_
 have hF:=(a9.trans aD)
 replace bE:=bE.trans hF
 exact eB _ _ ⟨(wq (aO+1)),_,Av,BB.of ⟨Av,trivial⟩,bE,bF,(AZ .i64 _),Ed c5 I⟩
 refine Br ?_
 have e2:=a3.drop 0
 have hG:=(a3.dropS 0)
 have hH:=(a7.trans (aA.trans (aI.trans hG)))
 replace aX:=aX.trans hH
 exact dG _ _ ⟨_,Av,BB.of trivial,aX,e2,I⟩
 refine Br<|Ax ?_
 obtain⟨c1,k1⟩:=aU.sub (bs':=[(some b6,Oc [Value.slice none 0 0,Value.slice none 0 0] 34)]) (.cons_cons _ (.cons _ List.Sublist.slnil))
 clear Fa Fb Fc aL
 refine Aw<|AA<|Dv (vs:=[Value.slice none 0 0,Value.slice none 0 0]) (parts:=[]) Dq NE Av<|Bk<|Cx .z Dq c1 Av Av Av Av Av ?_
 intro k2 k3 c2
 clear c1
 refine Bn (Bo false) Av<|Bn (Iv 0) Av<|Ay<|AY<|⟨_,En,[Value.agg [Value.slice none 0 0,Value.slice none 0 0].toArray,Bo false,Iv 0],⟨Lw (cs:=[Value.slice none 0 0,Value.slice none 0 0]) (vs:=[Value.slice none 0 0,Value.slice none 0 0]) Dq (i:=0) c2 Av Av Av Av,Av,Av,trivial⟩,c2.ext,?_⟩
 exact Vr.eq (a:=Sp (vA FP) vB (vI .i64)) (x:=((⟨([]:List Int),([]:List A8)⟩:AS),false,0)) (Pp (Jn (Cz (AU (B5 CA.nil_) (B5 CA.nil_)))) Av ⟨Av,EG⟩) (oi I)

def C9 (p:A9):Option Bool:=
 FM.bind fun I=>
 bif (!I) then
  some false
 else
  (E3 p).bind fun G=>
  bif (!G) then
   some true
  else
   (Ec p).bind fun A=>
   (DZ p).bind fun F=>
   (Dy A.1 F.1).bind fun J=>
   bif J then
    bif (A.2.1 == F.2.1) then
     some (decide (A.2.2=F.2.2))
    else
     some false
   else
    some false

theorem Hi {w:World} {O:List Nat} {p:A9} {Aa:Option Addr} {Ca:Nat} {Ab:Option Addr} {Cb:Nat} {Ac:Option Addr} {Cc:Nat} (hO:∀k∈O,k<w.heap.size) (Fa:CA B2 w O Aa Ca p.cells) (Fb:CA (BE (AM .i64)) w O Ab Cb p.capacity) (Fc:CA AT w O Ac Cc p.variables) {x:Bool} (G:C9 p=some x):
 Ok Try.prog 7 [Value.agg (C0 p Aa Ca Ab Cb Ac Cc).toArray] w O vB x:=by
 unfold C9 at G
 refine Bt (n:=39) (xs:=[.tmp 2]) Try.func7 Av Try.ntmps7 Try.results7 Av ?_
 have hs:=St.start hO
 refine Ax<|Aw<|AA<|BV (cs:=(C0 p Aa Ca Ab Cb Ac Cc)) hs Av Av ?_
 intro b1 w2 _ p3 aB
 refine Bn (Bo false) Av<|Ay<|Ax<|Ax<|Aw ?_
 obtain⟨aZ,a0,G⟩:=bd G
 refine AA<|Bj aB Try.call10 (Ju aB.ltw a0) Av ?_
 rintro v7 w8 a1 I a2
 clear aB
 obtain rfl:=a2
 refine AA<|Es Av<|Ay<|AF G Av (fun aF G=>?_) (fun aF G=>?_)
 refine Ax ?_
 obtain⟨aG,bH⟩:=I.sub (bs':=[]) (.cons _ List.Sublist.slnil)
 clear Fa Fb Fc
 clear I
 refine Aw<|Bn (Bo false) Av<|Ay<|AY<|⟨_,En,[Bo false],⟨Av,trivial⟩,aG.ext,?_⟩
 exact Vr.eq (a:=vB) (x:=false) Av (oi G)
 refine AH<|Ax<|Ax<|Aw<|AA<|Bz 0 Bw I Av Av Av ?_
 obtain⟨aH,aI,G⟩:=bd G
 have aC:=(p3.trans a1)
 replace Fb:=Fb.step aC;replace Fa:=Fa.step aC;replace Fc:=Fc.step aC
 refine AA<|Bj I Try.call11 (IW (p:=p) I.ltw Fa Fb Fc aI) Av ?_
 rintro bI bJ aD J a3
 clear I
 obtain rfl:=a3
 refine AA<|Es Av<|Ay<|AF G Av (fun aJ G=>?_) (fun aJ G=>?_)
 refine Ax ?_
 obtain⟨aK,bK⟩:=J.sub (bs':=[]) (.cons _ List.Sublist.slnil)
 clear Fa Fb Fc
 clear J
 refine Aw<|Bn (Bo true) Av<|Ay<|AY<|⟨_,En,[Bo true],⟨Av,trivial⟩,aK.ext,?_⟩
 exact Vr.eq (a:=vB) (x:=true) Av (oi G)
 refine AH<|Ax<|Aw<|AA<|Bz 0 Bw J Av Av Av ?_
 obtain⟨A,aL,G⟩:=bd G
 replace Fb:=Fb.step aD;replace Fa:=Fa.step aD;replace Fc:=Fc.step aD
 refine AA<|Bj J Try.call13 (G3 (p:=p) J.ltw Fa Fb Fc aL) Av ?_
 rintro bL bM a4 W a5
 clear J
 obtain⟨bN,bO,bP,rfl,a6,a7,a8⟩:=a5
 obtain⟨_,rfl,⟨_,_,rfl,⟨Ad,Cd,rfl,Fd⟩,⟨Ae,Ce,rfl,Fe⟩⟩⟩:=a6
 obtain rfl:=a7
 obtain⟨rfl,Ra⟩:=a8
 refine Be (Value.tuple [Value.agg [Sl Ad A.1.variables Cd,Sl Ae A.1.places Ce].toArray,Bo A.2.1,Iv A.2.2].toArray) Av<|AA<|Bg (v:=Value.agg [Sl Ad A.1.variables Cd,Sl Ae A.1.places Ce].toArray) Av Av<|AA<|Bg (v:=Bo A.2.1) Av Av<|AA<|Bg (v:=Iv A.2.2) Av Av<|AA<|Bx Dq W ?_
 intro aM bQ _ aN X
 clear W
 refine Bk<|Cx .z Dq X Av Av Av Av Av ?_
 intro bR aO N
 clear X
 refine Bn (Bo A.2.1) Av<|Bn (Iv A.2.2) Av<|Ay<|Ax<|Aw<|AA<|Bz 1 Bw N Av Av Av ?_
 obtain⟨F,aP,G⟩:=bd G
 have aE:=(a4.trans (aN.trans aO))
 replace Fb:=Fb.step aE;replace Fa:=Fa.step aE;replace Fc:=Fc.step aE
 refine AA<|Bj N Try.call26 (I5 (p:=p) N.ltw Fa Fb Fc aP) Av ?_
 rintro bS bT a9 Y bA
 clear N
 obtain⟨bU,bV,bW,rfl,bB,bC,bD⟩:=bA
 obtain⟨_,rfl,⟨_,_,rfl,⟨Af,Cf,rfl,Ff⟩,⟨Ag,Cg,rfl,Fg⟩⟩⟩:=bB
 obtain rfl:=bC
 obtain⟨rfl,Rb⟩:=bD
 refine Be (Value.tuple [Value.agg [Sl Af F.1.variables Cf,Sl Ag F.1.places Cg].toArray,Bo F.2.1,Iv F.2.2].toArray) Av<|AA<|Bg (v:=Value.agg [Sl Af F.1.variables Cf,Sl Ag F.1.places Cg].toArray) Av Av<|AA<|Bg (v:=Bo F.2.1) Av Av<|AA<|Bg (v:=Iv F.2.2) Av Av<|AA<|Bx Dq Y ?_
 intro aQ bX _ aR Z
 clear Y
 refine Bk<|Cx .z Dq Z Av Av Av Av Av ?_
 intro bY aS aA
 clear Z
 refine Bn (Bo F.2.1) Av<|Bn (Iv F.2.2) Av<|Ay<|Ax ?_
 obtain⟨M,aT⟩:=aA.sub (bs':=[(some aQ,Oc [Sl Af F.1.variables Cf,Sl Ag F.1.places Cg] 34),(some aM,Oc [Sl Ad A.1.variables Cd,Sl Ae A.1.places Ce] 34)]) (.cons_cons _ (.cons_cons _ (.cons _ List.Sublist.slnil)))
 clear Fa Fb Fc
 clear aA
 refine Wr [] [(3,Pt aM 0),(4,Bo A.2.1),(5,Iv A.2.2),(6,Pt aQ 0),(7,Bo F.2.1),(8,Iv F.2.2)] fun bF=>Aw<|AA<|Bz 1 Dq M Av Av Av<|AA<|Bz 0 Dq M Av Av Av ?_
 obtain⟨U,aU,G⟩:=bd G
 have aV:=(aN.trans (aO.trans (a9.trans (aR.trans (aS.trans aT)))))
 replace Fe:=Fe.step aV;replace Fd:=Fd.step aV
 have aW:=(aR.trans (aS.trans aT))
 replace Fg:=Fg.step aW;replace Ff:=Ff.step aW
 refine AA<|Bj M Try.call27 (Hz (a:=A.1) (b:=F.1) M.ltw Fd Fe Ff Fg aU) Av ?_
 rintro bZ b0 b2 Q bE
 clear M
 obtain rfl:=bE
 refine Be (Bo U) Av<|B4 G (fun aX G=>?_) (fun aX G=>?_)
 refine BN Av Av<|AD (v:=Bo A.2.1) Av<|BN Av Av<|AD (v:=Bo F.2.1) Av<|BN Av Av<|UN Try.underlying4 Av Av<|FR (Bo (A.2.1 == F.2.1)) Av Av<|Be (Bo (A.2.1 == F.2.1)) Av<|B4 G (fun aY G=>?_) (fun aY G=>?_)
 refine BN Av Av<|AD (v:=Iv A.2.2) Av<|BN Av Av<|AD (v:=Iv F.2.2) Av<|BN Av Av<|GV Av Av<|FR (Bo (decide (A.2.2=F.2.2))) Av Av<|Bn (Bo (decide (A.2.2=F.2.2))) Av<|Ay<|AY<|⟨_,En,[Bo (decide (A.2.2=F.2.2))],⟨Av,trivial⟩,Q.ext,?_⟩
 exact Vr.eq (a:=vB) (x:=decide (A.2.2=F.2.2)) Av (oi G)
 iterate 3 refine AI Av (AJ Av Av) Av ?_
 refine FF (Bo false) Av Av<|Bn (Bo false) Av<|Ay<|AY<|⟨_,En,[Bo false],⟨Av,trivial⟩,Q.ext,?_⟩
 exact Vr.eq (a:=vB) (x:=false) Av (oi G)
 iterate 3 refine AI Av (AJ Av Av) Av ?_
 refine FF (Bo false) Av Av<|Be (Bo false) Av ?_
 iterate 3 refine AI Av (AJ Av Av) Av ?_
 refine FF (Bo false) Av Av<|Bn (Bo false) Av<|Ay<|AY<|⟨_,En,[Bo false],⟨Av,trivial⟩,Q.ext,?_⟩
 exact Vr.eq (a:=vB) (x:=false) Av (oi G)

end Go.Fx
set_option linter.unusedSimpArgs false
set_option linter.unusedVariables false
namespace Go.Fx
open Go Go.RowKit

section
variable {R α σ : Type}
@[simp] theorem Ge {κ:Type _} (k:κ) (f:κ→Option R):jn k f=f k:=rfl
theorem BU {c:Prop} [Decidable c] {m:Option R} (h:c):ck c m=m:=if_pos h
@[simp] theorem BM {m:Option R} :ck True m=m:=if_pos trivial
theorem wrapN {i:Nat} (h:i<9223372036854775808):IntKind.i64.wrap (i:Int)=(i:Int):=Et (by omega) (by omega)
theorem Kf {i:Nat} (h:i+1<9223372036854775808):IntKind.i64.wrap ((i:Int)+1)=(i:Int)+1:=Et (by omega) (by omega)
theorem UJ {i:Nat} (h:i<9223372036854775808):IntKind.i64.wrap (((i+1:Nat):Int) - 1)=(i:Int):=(Et (by omega) (by omega)).trans (by omega)

theorem KI {L:Nat→Int→σ→Option R} (I:Nat→σ→Prop) (F:Nat→List α→σ→Option R) (l:List α) (hl:l.length<9223372036854775807)
    (hE:∀n s,I l.length s→L (n+1) (l.length:Nat) s=F l.length [] s)
    (hS:∀n (i:Nat) s x t,i<l.length→l[i]?=some x→IntKind.i64.wrap ((i:Int)+1)=(i:Int)+1→I i s→
      (∀s,I (i+1) s→L n ((i:Int)+1) s=F (i+1) t s)→L (n+1) (i:Int) s=F i (x::t) s):
    ∀(fuel:Nat) s,l.length<fuel→I 0 s→L fuel 0 s=F 0 l s:=by
  have main:∀(t:List α) (i fuel:Nat) s,l.drop i=t→i≤l.length→l.length - i<fuel→I i s→L fuel (i:Int) s=F i t s:=by
    intro t
    induction t with
    |nil=>
      intro i fuel s hd hi hf hI
      have:i=l.length:=by have:=congrArg List.length hd;simp at this;omega
      subst this
      obtain⟨n,rfl⟩:∃n,fuel=n+1:=⟨fuel - 1,by omega⟩
      exact hE n s hI
    |cons x t ih=>
      intro i fuel s hd hi hf hI
      have hlt:i<l.length:=by have:=congrArg List.length hd;simp at this;omega
      obtain⟨n,rfl⟩:∃n,fuel=n+1:=⟨fuel - 1,by omega⟩
      have hx:l[i]?=some x:=by rw [← List.head?_drop,hd];rfl
      refine hS n i s x t hlt hx (Kf (by omega)) hI fun s' hI'=>(ih (i+1) n s' ?_ (by omega) (by omega) hI')
      rw [← List.drop_drop,hd];rfl
  intro fuel s hf hI
  exact main l 0 fuel s rfl (by omega) (by omega) hI

theorem AN {l:List α} {i:Nat} {x d:α} (h:l[i]?=some x):l.getD i d=x:=by simp [List.getD,h]

theorem Iw {B:(Int→Option R)→Int→Option R} (F:List α→Option R) (l:List α) (hl:l.length<9223372036854775807)
    (hE:∀sf,B sf (l.length:Nat)=F [])
    (hS:∀sf (i:Nat) x t,i<l.length→l[i]?=some x→IntKind.i64.wrap ((i:Int)+1)=(i:Int)+1→
      sf ((i:Int)+1)=F t→B sf (i:Int)=F (x::t))
    {fuel:Nat} (hf:l.length<fuel):B1 B fuel 0=F l:=by
  refine KI (L:=fun n i (_:Unit)=>B1 B n i) (fun _ _=>True) (fun _ t _=>F t) l hl ?_ ?_ fuel () hf trivial
  · intro n _ _;show B1 B (n+1) _=_;rw [FI];exact hE _
  · intro n i _ x t h1 h2 h3 _ ih;show B1 B (n+1) _=_;rw [FI];exact hS _ i x t h1 h2 h3 (ih () trivial)
theorem H2 {B:(Int→σ→Option R)→Int→σ→Option R} (I:Nat→σ→Prop) (F:Nat→List α→σ→Option R) (l:List α) (hl:l.length<9223372036854775807)
    (hE:∀sf s,I l.length s→B sf (l.length:Nat) s=F l.length [] s)
    (hS:∀sf (i:Nat) s x t,i<l.length→l[i]?=some x→IntKind.i64.wrap ((i:Int)+1)=(i:Int)+1→I i s→
      (∀s,I (i+1) s→sf ((i:Int)+1) s=F (i+1) t s)→B sf (i:Int) s=F i (x::t) s)
    {fuel:Nat} {s:σ} (hf:l.length<fuel) (hI:I 0 s):B8 B fuel 0 s=F 0 l s:=by
  refine KI (L:=fun n i s=>B8 B n i s) I F l hl ?_ ?_ fuel s hf hI
  · intro n s h;show B8 B (n+1) _ _=_;rw [DU];exact hE _ _ h
  · intro n i s x t h1 h2 h3 h4 ih;show B8 B (n+1) _ _=_;rw [DU];exact hS _ i s x t h1 h2 h3 h4 ih
theorem H3 {B:(σ→Int→Option R)→σ→Int→Option R} (I:Nat→σ→Prop) (F:Nat→List α→σ→Option R) (l:List α) (hl:l.length<9223372036854775807)
    (hE:∀sf s,I l.length s→B sf s (l.length:Nat)=F l.length [] s)
    (hS:∀sf (i:Nat) s x t,i<l.length→l[i]?=some x→IntKind.i64.wrap ((i:Int)+1)=(i:Int)+1→I i s→
      (∀s,I (i+1) s→sf s ((i:Int)+1)=F (i+1) t s)→B sf s (i:Int)=F i (x::t) s)
    {fuel:Nat} {s:σ} (hf:l.length<fuel) (hI:I 0 s):B8 B fuel s 0=F 0 l s:=by
  refine KI (L:=fun n i s=>B8 B n s i) I F l hl ?_ ?_ fuel s hf hI
  · intro n s h;show B8 B (n+1) _ _=_;rw [DU];exact hE _ _ h
  · intro n i s x t h1 h2 h3 h4 ih;show B8 B (n+1) _ _=_;rw [DU];exact hS _ i s x t h1 h2 h3 h4 ih

theorem L9 {B:(Int→Option R)→Int→Option R} (F:Nat→List α→Option R) (l:List α) (hl:l.length<9223372036854775807)
    (hE:∀sf,B sf (l.length:Nat)=F l.length [])
    (hS:∀sf (i:Nat) x t,i<l.length→l[i]?=some x→IntKind.i64.wrap ((i:Int)+1)=(i:Int)+1→
      sf ((i:Int)+1)=F (i+1) t→B sf (i:Int)=F i (x::t))
    {fuel:Nat} (hf:l.length<fuel):B1 B fuel 0=F 0 l:=by
  refine KI (L:=fun n i (_:Unit)=>B1 B n i) (fun _ _=>True) (fun i t _=>F i t) l hl ?_ ?_ fuel () hf trivial
  · intro n _ _;show B1 B (n+1) _=_;rw [FI];exact hE _
  · intro n i _ x t h1 h2 h3 _ ih;show B1 B (n+1) _=_;rw [FI];exact hS _ i x t h1 h2 h3 (ih () trivial)
end
end Go.Fx
namespace Go.Fx
open Go Go.RowKit
section
variable {R α σ : Type}
def Jw (lt:α→α→Bool):List α→Bool
 |a::b::t=>lt a b&&Jw lt (b::t)
 |_=>true
def NG (ok:α→Bool) (lt:α→α→Bool):Option α→List α→Bool
 |_,[] =>true
 |o,x::t=>ok x&&(o.all fun y=>lt y x)&&NG ok lt (some x) t
theorem Oi {ok:α→Bool} {lt:α→α→Bool} :∀(t:List α) (a:α),NG ok lt (some a) t=(t.all ok&&Jw lt (a::t))
 |[],a=>by simp [NG,Jw]
 |x::t,a=>by
  simp only [NG,Jw,Oi t x,List.all_cons,Option.all_some]
  cases ok x<;> cases lt a x<;> cases t.all ok<;> simp
theorem RR {ok:α→Bool} {lt:α→α→Bool} (l:List α):NG ok lt none l=(l.all ok&&Jw lt l):=by
 cases l with
 |nil=>simp [NG,Jw]
 |cons x t=>simp only [NG,Oi,List.all_cons,Option.all_none,Bool.and_true,Bool.and_assoc]
theorem Nl {B:(Int→Option R)→Int→Option R} {l:List α} (ok:α→Bool) (lt:α→α→Bool) (bad fin:Option R) (hl:l.length<9223372036854775807)
  (hE:∀sf,B sf (l.length:Nat)=fin)
  (h0:∀sf x,0<l.length→l[0]?=some x→IntKind.i64.wrap ((0:Int)+1)=1→B sf 0=bif ok x then sf 1 else bad)
  (hS:∀sf (j:Nat) y x,j+1<l.length→l[j]?=some y→l[j+1]?=some x→IntKind.i64.wrap (((j+1:Nat):Int)+1)=((j+1:Nat):Int)+1→IntKind.i64.wrap (((j+1:Nat):Int) - 1)=(j:Int)→
   B sf ((j+1:Nat):Int)=bif (ok x&&lt y x) then sf (((j+1:Nat):Int)+1) else bad)
  {fuel:Nat} (hf:l.length<fuel):B1 B fuel 0=bif (l.all ok&&Jw lt l) then fin else bad:=by
 refine(L9 (fun i t=>bif NG ok lt (if i=0 then none else l[i - 1]?) t then fin else bad) l hl (fun sf=>by rw [hE];rfl) ?_ hf).trans ?_
 ·
  intro sf i x t h1 h2 h3 ih
  cases i with
  |zero=>
   have e:=h0 sf x h1 h2 (by simpa using h3)
   simp only [Nat.zero_add,Nat.succ_ne_zero,if_false,if_true,Nat.add_sub_cancel,h2,Int.natCast_zero,Int.zero_add] at ih ⊢
   show B sf 0=_
   rw [e,NG]
   cases ok x
   · simp
   · simp only [cond_true,Option.all_none,Bool.and_true,Bool.true_and];exact ih
  |succ j=>
   have hy:l[j]?=some l[j]:=List.getElem?_eq_getElem (by omega)
   have e:=hS sf j l[j] x h1 hy h2 h3 (UJ (by omega))
   simp only [Nat.succ_ne_zero,if_false,Nat.add_sub_cancel,h2] at ih ⊢
   rw [e,NG,hy]
   cases hc:(ok x&&lt l[j] x)
   · simp only [Option.all_some,hc,Bool.false_and,cond_false]
   · simp only [Option.all_some,hc,Bool.true_and,cond_true];exact ih
 · simp only [if_true,RR]
theorem I6 {B:(Int→Option R)→Int→Option R} {l:List α} (ok:α→Bool) (bad fin:Option R) (hl:l.length<9223372036854775807)
  (hE:∀sf,B sf (l.length:Nat)=fin)
  (hS:∀sf (i:Nat) x,i<l.length→l[i]?=some x→IntKind.i64.wrap ((i:Int)+1)=(i:Int)+1→B sf (i:Int)=bif ok x then sf ((i:Int)+1) else bad)
  {fuel:Nat} (hf:l.length<fuel):B1 B fuel 0=bif l.all ok then fin else bad:=by
 refine Iw (fun t=>bif t.all ok then fin else bad) l hl (fun sf=>by rw [hE];rfl) ?_ hf
 intro sf i x t h1 h2 h3 ih
 rw [hS sf i x h1 h2 h3,List.all_cons]
 cases ok x
 · rfl
 · simp only [cond_true,Bool.true_and];exact ih
theorem OZ {B:(Int→Option R)→Int→Option R} {l:List α} (lt:α→α→Bool) (bad fin:Option R) (hl:l.length<9223372036854775807)
  (hE:∀sf (i:Nat),l.length≤i→i≤l.length+1→B sf (i:Int)=fin)
  (hS:∀sf (j:Nat) y x,j+1<l.length→l[j]?=some y→l[j+1]?=some x→IntKind.i64.wrap (((j+1:Nat):Int)+1)=((j+1:Nat):Int)+1→IntKind.i64.wrap (((j+1:Nat):Int) - 1)=(j:Int)→
   B sf ((j+1:Nat):Int)=bif lt y x then sf (((j+1:Nat):Int)+1) else bad)
  {fuel:Nat} (hf:l.length - 1<fuel):B1 B fuel 1=bif Jw lt l then fin else bad:=by
 have main:∀(fuel j:Nat) (y:α) (t:List α),l.drop j=y::t→l.length - (j+1)<fuel→B1 B fuel ((j+1:Nat):Int)=bif Jw lt (y::t) then fin else bad:=by
  intro fuel
  induction fuel with
  |zero=>intro j y t _ h;omega
  |succ n ih=>
   intro j y t hd hf
   have hlen:l.length - j=t.length+1:=by have:=congrArg List.length hd;simpa using this
   have hy:l[j]?=some y:=by rw [← List.head?_drop,hd];rfl
   rw [FI]
   cases t with
   |nil=>rw [hE _ _ (by simp at hlen;omega) (by simp at hlen;omega)];rfl
   |cons x t=>
    simp only [List.length_cons] at hlen
    have hd2:l.drop (j+1)=x::t:=by rw [← List.drop_drop,hd];rfl
    have hx:l[j+1]?=some x:=by rw [← List.head?_drop,hd2];rfl
    rw [hS _ j y x (by omega) hy hx (Kf (by omega)) (UJ (by omega)),Jw]
    cases lt y x
    · rfl
    · simp only [cond_true,Bool.true_and];exact ih (j+1) x t hd2 (by omega)
 cases l with
 |nil=>
  obtain⟨n,rfl⟩:∃n,fuel=n+1:=⟨fuel - 1,by simp at hf;omega⟩
  rw [FI];exact hE _ 1 (by simp) (by simp)
 |cons y t=>exact main fuel 0 y t rfl hf
theorem F8 {i n:Nat} (h:i<n):((0:Int)≤(i:Int)∧(i:Int)<(n:Int))=True:=by simp;omega
theorem FA {i n:Nat} (h:i<n):decide ((i:Int)<(n:Int))=true:=by simpa using h
theorem Jy {n:Nat} :decide ((n:Int)<(n:Int))=false:=by simp
end
def BS (n lo hi:Int):Bool:=decide (lo≤n)&&decide (n≤hi)
theorem Nm (n lo hi:Int):Dd n lo hi=some (BS n lo hi):=by
 unfold Dd BS;cases decide (lo≤n)<;> rfl
theorem Ll (n lo hi:Int):BC n lo hi=some (BS n lo hi):=by
 unfold BC BS;cases decide (lo≤n)<;> rfl
def Md (x y:Int):Int:=if x<y then -1 else if y<x then 1 else 0
theorem Qu (x y:Int):Db x y=some (Md x y):=by
 unfold Db Hx Md
 by_cases h:x<y
 · simp [h]
 · by_cases h2:y<x<;> simp [h,h2]
theorem SV (x y:Int):If [x,y] =some (if x≠0 then x else y):=by
 unfold If
 rw [Iw (B:=GP [x,y]) (fun t=>some ((t.find? (fun z=>decide (z≠0))).getD 0)) [x,y] (by simp) ?_ ?_ (by simp)]
 ·
  by_cases hx:x=0
  · by_cases hy:y=0<;> simp [hx,hy]
  · simp [hx]
 · intro sf;unfold GP;simp
 ·
  intro sf i z t h1 h2 h3 ih
  unfold GP
  simp only [FA h1,F8 h1,BM,Int.toNat_natCast,AN h2,h3,ih,cond_true,List.find?_cons]
  cases decide (z≠0)<;> rfl
def cb (a b:AK):Bool:=if a.airport=b.airport then (if a.index=b.index then decide (a.minute<b.minute) else decide (a.index<b.index)) else b.airport
theorem SW (a b:AK):DG a b=some (cb a b):=by
 unfold DG cb
 by_cases h:a.airport=b.airport
 · by_cases h2:a.index=b.index<;> simp [h,h2]
 ·
  have h3:(a.airport == b.airport)=false:=by simpa using h
  simp [h,h3]
def TZ (a b:AK):Int:=if a.airport=b.airport then (if Md a.index b.index≠0 then Md a.index b.index else Md a.minute b.minute) else if b.airport then -1 else 1
theorem SX (a b:AK):CL a b=some (TZ a b):=by
 unfold CL TZ
 by_cases h:a.airport=b.airport
 · simp only [h,beq_self_eq_true,Bool.not_true,cond_false,Qu,SV,Option.bind_some,if_true]
 ·
  have:(a.airport == b.airport)=false:=by simpa using h
  simp only [this,h,Bool.not_false,cond_true,if_false]
  cases b.airport<;> rfl
theorem QW (a b:AK):decide (0≤TZ a b)=!(cb a b):=by
 unfold TZ cb Md
 by_cases h:a.airport=b.airport
 ·
  simp only [h,if_true]
  by_cases h1:a.index=b.index
  ·
   simp only [h1,Int.lt_irrefl,if_false,ne_eq,not_true_eq_false,if_true]
   by_cases h2:a.minute<b.minute
   · simp [h2]
   · simp only [h2,if_false,decide_false,Bool.not_false,decide_eq_true_eq];split<;> omega
  ·
   simp only [h1,if_false]
   by_cases h2:a.index<b.index
   · simp [h2]
   ·
    have:b.index<a.index:=by omega
    simp [h2,this]
 ·
  simp only [h,if_false]
  cases b.airport<;> simp
theorem Vf (l:List AK) (hl:l.length<9223372036854775807):Hw l (fun x y=>CL x y)=some (Jw cb l):=by
 unfold Hw
 rw [OZ (l:=l) cb (some false) (some true) hl ?_ ?_ (by omega)]
 · cases Jw cb l<;> rfl
 ·
  intro sf i h1 h2;unfold G6
  have:decide ((i:Int)<(l.length:Int))=false:=by simp;omega
  rw [this];rfl
 ·
  intro sf j y x h1 h2 h3 h4 h5;unfold G6
  simp only [FA h1,h4,h5,F8 h1,F8 (show j<l.length by omega),BM,Int.toNat_natCast,AN h2,AN h3,SX,Option.bind_some,QW,cond_true]
  cases cb y x<;> rfl
theorem Vg (l:List Int) (hl:l.length<9223372036854775807):F2 l (fun x y=>Db x y)=some (Jw (fun x y=>decide (x<y)) l):=by
 unfold F2
 rw [OZ (l:=l) (fun x y=>decide (x<y)) (some false) (some true) hl ?_ ?_ (by omega)]
 · cases Jw _ l<;> rfl
 ·
  intro sf i h1 h2;unfold E1
  have:decide ((i:Int)<(l.length:Int))=false:=by simp;omega
  rw [this];rfl
 ·
  intro sf j y x h1 h2 h3 h4 h5;unfold E1
  simp only [FA h1,h4,h5,F8 h1,F8 (show j<l.length by omega),BM,Int.toNat_natCast,AN h2,AN h3,Qu,Option.bind_some,cond_true]
  by_cases h:y<x
  · simp [Md,h]
  ·
   have:0≤Md y x:=by unfold Md;simp only [h,if_false];split<;> omega
   simp [h,this]
theorem Vh (l:List Bv) (hl:l.length<9223372036854775807):HL l (fun x y=>DB x y)=some (Jw (fun x y=>cb x.cell y.cell) l):=by
 unfold HL
 rw [OZ (l:=l) (fun x y=>cb x.cell y.cell) (some false) (some true) hl ?_ ?_ (by omega)]
 · cases Jw _ l<;> rfl
 ·
  intro sf i h1 h2;unfold GJ
  have:decide ((i:Int)<(l.length:Int))=false:=by simp;omega
  rw [this];rfl
 ·
  intro sf j y x h1 h2 h3 h4 h5;unfold GJ
  simp only [FA h1,h4,h5,F8 h1,F8 (show j<l.length by omega),BM,Int.toNat_natCast,AN h2,AN h3,DB,SX,Option.bind_some,QW,cond_true]
  cases cb y.cell x.cell<;> rfl
theorem Vi (s:List Int) (hl:s.length<9223372036854775807):D5 s (fun x=>CM x)=some (!(s.all fun n=>BS n 0 4096)):=by
 unfold D5 EF
 have key:∃i:Int,B1 (BX s (fun x=>CM x)) (((s.length:Int) - 0).toNat+1) 0=some i∧decide (0≤i)=!(s.all fun n=>BS n 0 4096):=by
  rw [L9 (B:=BX s (fun x=>CM x)) (fun i t=>some (match t.findIdx? (fun n=>!(BS n 0 4096)) with |none=>(-1:Int) |some k=>((i+k:Nat):Int))) s hl ?_ ?_ (by omega)]
  ·
   refine⟨_,rfl,?_⟩
   cases h:s.findIdx? (fun n=>!(BS n 0 4096)) with
   |none=>
    rw [List.findIdx?_eq_none_iff] at h
    have:(s.all fun n=>BS n 0 4096)=true:=by rw [List.all_eq_true];intro x hx;simpa using h x hx
    simp [this]
   |some k=>
    have:(s.all fun n=>BS n 0 4096)=false:=by
     rw [List.all_eq_false]
     obtain⟨hk,h1,_⟩:=List.findIdx?_eq_some_iff_getElem.1 h
     exact⟨s[k],List.getElem_mem hk,by simpa using h1⟩
    simp [this]
  · intro sf;unfold BX;simp
  ·
   intro sf i x t h1 h2 h3 ih
   unfold BX CM
   simp only [FA h1,F8 h1,BM,Int.toNat_natCast,AN h2,Nm,Option.bind_some,h3,cond_true,List.findIdx?_cons]
   cases hw:BS x 0 4096
   · simp
   ·
    simp only [Bool.not_true,cond_false,Bool.false_eq_true,if_false]
    rw [ih]
    cases t.findIdx? (fun n=>!(BS n 0 4096)) with
    |none=>rfl
    |some k=>simp;omega
 obtain⟨i,h1,h2⟩:=key
 rw [h1,Option.bind_some,h2]
def Jz (c:AK):Bool:=decide (0≤c.index)&&decide (0≤c.minute)
def LA (cells:List AK) (u:Bv):Bool:=decide (u.cell∈cells)&&BS u.places 1 8
def Hb (cells:List AK) (c:AR):Bool:=
 BS c.delay 0 1048576&&(BS c.cost 0 1048576&&(BS c.changes 0 1048576&&(c.uses.all (LA cells)&&Jw (fun x y=>cb x.cell y.cell) c.uses)))
def I9 (cells:List AK) (n:Nat) (v:AL):Bool:=
 !(decide (v.leaves.length=0))&&(BS v.choices.length 1 96&&(((v.leaves.all fun k=>BS k 0 ((n:Int) - 1))&&Jw (fun x y=>decide (x<y)) v.leaves)&&v.choices.all (Hb cells)))
def Jl (n:Nat) (r:List Int):Bool:=decide (r.length=n)&&r.all fun k=>BS k 0 4096
def E5 (p:A9):Bool:=
 decide (p.cells.length≤4096)&&(BS p.capacity.length 1 32&&(decide (p.variables.length≤64)&&((p.cells.all Jz&&Jw cb p.cells)&&(p.capacity.all (Jl p.cells.length)&&p.variables.all (I9 p.cells p.capacity.length)))))
theorem SY {l:List Int} {n:Int} (h:Jw (fun x y=>decide (x<y)) l=true) {x:Int} (hx:x∈l) (d:Int):l.getD 0 d≤x∧x≤l.getD (l.length - 1) d:=by
 induction l generalizing x with
 |nil=>cases hx
 |cons a t ih=>
  cases t with
  |nil=>simp at hx;simp [hx]
  |cons b t=>
   simp only [Jw,Bool.and_eq_true,decide_eq_true_eq] at h
   have e:(a::b::t).getD ((a::b::t).length - 1) d=(b::t).getD ((b::t).length - 1) d:=by simp
   rw [e]
   rcases List.mem_cons.1 hx with rfl |hx
   ·
    have:=ih h.2 (List.mem_cons_self ..)
    simp only [List.getD_cons_zero] at this ⊢
    omega
   ·
    have:=ih h.2 hx
    simp only [List.getD_cons_zero] at this ⊢
    omega
theorem RS {l:List Int} {n:Nat} (h0:l.length≠0) (h:Jw (fun x y=>decide (x<y)) l=true):
  (!(decide (l.getD 0 default<0))&&!(decide ((n:Int)≤l.getD (l.length - 1) default)))=l.all fun k=>BS k 0 ((n:Int) - 1):=by
 rw [Bool.eq_iff_iff]
 simp only [Bool.and_eq_true,Bool.not_eq_true',decide_eq_false_iff_not,List.all_eq_true,BS,decide_eq_true_eq]
 constructor
 ·
  intro ⟨h1,h2⟩ x hx
  have:=SY (n:=0) h hx default
  omega
 ·
  intro ha
  have m0:l.getD 0 default∈l:=by
   rw [AN (List.getElem?_eq_getElem (show 0<l.length by omega))];exact List.getElem_mem _
  have m1:l.getD (l.length - 1) default∈l:=by
   rw [AN (List.getElem?_eq_getElem (show l.length - 1<l.length by omega))];exact List.getElem_mem _
  have:=ha _ m0;have:=ha _ m1
  omega
theorem E6 {α:Type} {S:α→Prop} {l:List α} (h:OJ S l):l.length<9223372036854775807:=by have:=h.1;omega
theorem Lm {α:Type} {l:List α} {i:Nat} {x:α} (h:l[i]?=some x):x∈l:=List.mem_of_getElem? h
theorem SZ {p:A9} {map_1:List (AK × Bool)} {v:AL} {i:Nat} (hm:∀c,(B0 map_1 c).getD false=decide (c∈p.cells)) (hv:p.variables[i]?=some v) (hs:It v)
  (sf156:Int→Option Int) (hw:IntKind.i64.wrap ((i:Int)+1)=(i:Int)+1):
  B1 (EJ p map_1 (i:Int) sf156) (((((p.variables.getD (i:Int).toNat default).choices).length:Int) - 0).toNat+1) 0=bif v.choices.all (Hb p.cells) then sf156 ((i:Int)+1) else some 270:=by
 simp only [Int.toNat_natCast,AN hv]
 refine I6 (Hb p.cells) (some 270) (sf156 ((i:Int)+1)) (E6 hs.2.2.2) ?_ ?_ (by omega)
 ·
  intro sf;unfold EJ
  simp only [Int.toNat_natCast,AN hv,Jy,cond_false,hw]
 ·
  intro sf j c h1 h2 h3
  have hc:=hs.2.2.2.2 c (Lm h2)
  unfold EJ
  simp only [Int.toNat_natCast,AN hv,AN h2,FA h1,F8 h1,BM,cond_true,Nm,Option.bind_some,Ge,Vh _ (E6 hc.2.2.2),Hb]
  rw [I6 (B:=EI p map_1 (i:Int) (j:Int) sf) (l:=c.uses) (LA p.cells) (some 270) (sf ((j:Int)+1)) (E6 hc.2.2.2) ?_ ?_ (by omega)]
  · cases BS c.delay 0 1048576<;> cases BS c.cost 0 1048576<;> cases BS c.changes 0 1048576<;> cases Jw (fun x y=>cb x.cell y.cell) c.uses<;> cases c.uses.all (LA p.cells)<;> rfl
  ·
   intro sf';unfold EI
   simp only [Int.toNat_natCast,AN hv,AN h2,Jy,cond_false,h3]
  ·
   intro sf' k u h4 h5 h6
   unfold EI
   simp only [Int.toNat_natCast,AN hv,AN h2,AN h5,FA h4,F8 h4,BM,cond_true,Nm,Option.bind_some,Ge,hm,LA,h6]
   cases decide (u.cell∈p.cells)<;> cases BS u.places 1 8<;> rfl
theorem Vj {p:A9} (hp:CC p):FU p=some (bif E5 p then 0 else 270):=by
 obtain⟨s1,s2,s3⟩:=hp
 unfold FU
 simp only [Ge,Nm,Option.bind_some,Vf _ (E6 s1)]
 have vars:∀map_1:List (AK × Bool),(∀c,(B0 map_1 c).getD false=decide (c∈p.cells))→
   B1 (EK p map_1) (((p.variables.length:Int) - 0).toNat+1) 0=bif p.variables.all (I9 p.cells p.capacity.length) then some 0 else some 270:=by
  intro map_1 hm
  refine I6 (I9 p.cells p.capacity.length) (some 270) (some 0) (E6 s3) ?_ ?_ (by omega)
  · intro sf;unfold EK;simp only [Jy,cond_false]
  ·
   intro sf i v h1 h2 h3
   have hv:=s3.2 v (Lm h2)
   unfold EK
   rw [SZ hm h2 hv sf h3]
   simp only [Int.toNat_natCast,AN h2,FA h1,F8 h1,BM,cond_true,Nm,Option.bind_some,Ge,Vg _ (E6 hv.2.2.1),I9]
   by_cases h0:v.leaves.length=0
   · simp [h0]
   ·
    have e1:IntKind.i64.wrap ((v.leaves.length:Int) - 1)=((v.leaves.length - 1:Nat):Int):=by
     have:=E6 hv.2.2.1
     exact(Et (by omega) (by omega)).trans (by omega)
    have c1:((0:Int)≤0∧(0:Int)<(v.leaves.length:Int))=True:=by simp;omega
    have c2:((0:Int)≤((v.leaves.length - 1:Nat):Int)∧((v.leaves.length - 1:Nat):Int)<(v.leaves.length:Int))=True:=by simp;omega
    have c3:decide ((v.leaves.length:Int)=0)=false:=by simpa using h0
    simp only [e1,c1,c2,c3,BM,cond_false,h0,decide_false,Bool.not_false,Bool.true_and,Int.toNat_natCast]
    cases BS v.choices.length 1 96
    · rfl
    ·
     simp only [Bool.not_true,cond_false,Bool.true_and]
     cases ha:Jw (fun x y=>decide (x<y)) v.leaves
     · simp
     ·
      rw [← RS h0 ha]
      simp only [Bool.not_true,cond_false,Bool.and_true]
      cases decide (v.leaves.getD 0 default<0)<;> cases decide ((p.capacity.length:Int)≤v.leaves.getD (v.leaves.length - 1) default)<;> cases v.choices.all (Hb p.cells)<;> rfl
 have caps:∀map_1:List (AK × Bool),(∀c,(B0 map_1 c).getD false=decide (c∈p.cells))→
   B1 (EL p map_1) (((p.capacity.length:Int) - 0).toNat+1) 0=bif p.capacity.all (Jl p.cells.length) then (bif p.variables.all (I9 p.cells p.capacity.length) then some 0 else some 270) else some 270:=by
  intro map_1 hm
  refine I6 (Jl p.cells.length) (some 270) _ (E6 s2) ?_ ?_ (by omega)
  · intro sf;unfold EL;rw [vars map_1 hm];simp only [Jy,cond_false]
  ·
   intro sf i r h1 h2 h3
   unfold EL
   simp only [Int.toNat_natCast,AN h2,FA h1,F8 h1,BM,cond_true,Ge,Vi _ (E6 (s2.2 r (Lm h2))),Option.bind_some,Jl,h3]
   by_cases h:r.length=p.cells.length
   ·
    simp only [h,ne_eq,not_true_eq_false,decide_false,cond_false,decide_true,Bool.true_and]
    cases r.all fun k=>BS k 0 4096<;> rfl
   ·
    have:((r.length:Int)≠(p.cells.length:Int)):=by omega
    simp [h,this]
 have cells:B8 (EM p) (((p.cells.length:Int) - 0).toNat+1) 0 ([]:List (AK × Bool))=bif p.cells.all Jz then (bif p.capacity.all (Jl p.cells.length) then (bif p.variables.all (I9 p.cells p.capacity.length) then some 0 else some 270) else some 270) else some 270:=by
  refine H2 (fun i s=>∀c,(B0 s c).getD false=decide (c∈p.cells.take i)) (fun _ t _=>bif t.all Jz then _ else some 270) p.cells (E6 s1) ?_ ?_ (by omega) (by simp [B0])
  ·
   intro sf s hI
   unfold EM
   rw [List.take_length] at hI
   rw [caps s hI];simp only [Jy,cond_false,List.all_nil,cond_true]
  ·
   intro sf i s x t h1 h2 h3 hI ih
   unfold EM
   simp only [Int.toNat_natCast,AN h2,FA h1,F8 h1,BM,cond_true,Ge,h3,List.all_cons,Jz]
   have hn:∀c,(B0 (DJ s x true) c).getD false=decide (c∈p.cells.take (i+1)):=by
    intro c
    rw [G5,List.take_add_one,h2]
    by_cases hc:x=c
    · simp [hc]
    · rw [if_neg hc,hI c];simp [Ne.symm hc]
   rw [ih _ hn]
   by_cases h4:x.index<0
   ·
    have: ¬(0≤x.index):=by omega
    simp [h4,this]
   ·
    by_cases h5:x.minute<0
    ·
     have: ¬(0≤x.minute):=by omega
     simp [h4,h5,this]
    ·
     have a1:0≤x.index:=by omega
     have a2:0≤x.minute:=by omega
     simp [h4,h5,a1,a2]
 rw [cells]
 unfold E5
 by_cases h1:p.cells.length≤4096
 ·
  have e1: ¬((4096:Int)<(p.cells.length:Int)):=by omega
  by_cases h2:p.variables.length≤64
  ·
   have e2: ¬((64:Int)<(p.variables.length:Int)):=by omega
   simp only [h1,h2,e1,e2,decide_true,decide_false,cond_false,Bool.true_and]
   cases BS p.capacity.length 1 32<;> cases Jw cb p.cells<;> cases p.cells.all Jz<;> cases p.capacity.all (Jl p.cells.length)<;> cases p.variables.all (I9 p.cells p.capacity.length)<;> rfl
  ·
   have e2:(64:Int)<(p.variables.length:Int):=by omega
   simp only [h1,h2,e1,e2,decide_true,decide_false,cond_false,cond_true,Bool.true_and,Bool.false_and,Bool.and_false]
   cases BS p.capacity.length 1 32<;> rfl
 ·
  have e1:(4096:Int)<(p.cells.length:Int):=by omega
  simp [h1,e1]
theorem Qv (l:List AK) (c:AK) (hl:l.length<9223372036854775807):
  DW l c=some (match l.findIdx? (fun x=>decide (x=c)) with |none=>(-1:Int) |some k=>(k:Int)):=by
 unfold DW
 rw [L9 (B:=DT l c) (fun i t=>some (match t.findIdx? (fun x=>decide (x=c)) with |none=>(-1:Int) |some k=>((i+k:Nat):Int))) l hl ?_ ?_ (by omega)]
 · simp
 · intro sf;unfold DT;simp
 ·
  intro sf i x t h1 h2 h3 ih
  unfold DT
  simp only [FA h1,F8 h1,BM,Int.toNat_natCast,AN h2,h3,cond_true,List.findIdx?_cons]
  cases hw:decide (x=c)
  ·
   simp only [cond_false,Bool.false_eq_true,if_false]
   rw [ih]
   cases t.findIdx? (fun x=>decide (x=c)) with
   |none=>rfl
   |some k=>simp;omega
  · simp
theorem Ta (l:List AK) (c:AK):decide ((match l.findIdx? (fun x=>decide (x=c)) with |none=>(-1:Int) |some k=>(k:Int))<0)=!(decide (c∈l)):=by
 cases h:l.findIdx? (fun x=>decide (x=c)) with
 |none=>
  rw [List.findIdx?_eq_none_iff] at h
  have:c ∉ l:=fun hc=>by have:=h c hc;simp at this
  simp [this]
 |some k=>
  obtain⟨hk,h1,_⟩:=List.findIdx?_eq_some_iff_getElem.1 h
  have:c∈l:=by
   have h1:l[k] =c:=by simpa using h1
   rw [← h1];exact List.getElem_mem hk
  simp [this]
theorem Vk {p:A9} {v:AL} (h1:OJ L8 p.cells) (h2:p.capacity.length<9223372036854775807) (hs:It v):
  DX p v=some (I9 p.cells p.capacity.length v):=by
 unfold DX
 have chs:B1 (CN p v) (((v.choices.length:Int) - 0).toNat+1) 0=bif v.choices.all (Hb p.cells) then some true else some false:=by
  refine I6 (Hb p.cells) (some false) (some true) (E6 hs.2.2.2) ?_ ?_ (by omega)
  · intro sf;unfold CN;simp only [Jy,cond_false]
  ·
   intro sf i c e1 e2 e3
   have hc:=hs.2.2.2.2 c (Lm e2)
   unfold CN
   simp only [Int.toNat_natCast,AN e2,FA e1,F8 e1,BM,cond_true,Ll,Option.bind_some,Ge,Hb]
   rw [Nl (B:=BY p v (i:Int) sf) (l:=c.uses) (LA p.cells) (fun x y=>cb x.cell y.cell) (some false) (sf ((i:Int)+1)) (E6 hc.2.2.2) ?_ ?_ ?_ (by omega)]
   · cases BS c.delay 0 1048576<;> cases BS c.cost 0 1048576<;> cases BS c.changes 0 1048576<;> cases Jw (fun x y=>cb x.cell y.cell) c.uses<;> cases c.uses.all (LA p.cells)<;> rfl
   ·
    intro sf';unfold BY
    simp only [Int.toNat_natCast,AN e2,Jy,cond_false,e3]
   ·
    intro sf' u h0 hu hw
    unfold BY
    have c1:((0:Int)≤0∧(0:Int)<(c.uses.length:Int))=True:=by simp<;> omega
    have c2:decide ((0:Int)<(c.uses.length:Int))=true:=by simp<;> omega
    have hu':c.uses.getD (0:Int).toNat default=u:=AN hu
    simp only [Int.toNat_natCast,AN e2,hu',c1,c2,BM,cond_true,Ll,Qv _ _ (E6 h1),Option.bind_some,Ta,Ge,LA,hw,Int.lt_irrefl,decide_false,cond_false]
    cases decide (u.cell∈p.cells)<;> cases BS u.places 1 8<;> rfl
   ·
    intro sf' j y u h0 hy hu hw hw2
    unfold BY
    have c3:decide ((0:Int)<((j+1:Nat):Int))=true:=by simp<;> omega
    simp only [Int.toNat_natCast,AN e2,AN hu,AN hy,FA h0,F8 h0,F8 (show j<c.uses.length by omega),c3,BM,cond_true,Ll,SW,Qv _ _ (E6 h1),Option.bind_some,Ta,Ge,LA,hw,hw2]
    cases decide (u.cell∈p.cells)<;> cases BS u.places 1 8<;> cases cb y.cell u.cell<;> rfl
 have e1:IntKind.i64.wrap ((p.capacity.length:Int) - 1)=(p.capacity.length:Int) - 1:=Et (by omega) (by omega)
 rw [Nl (B:=BZ p v) (l:=v.leaves) (fun k=>BS k 0 ((p.capacity.length:Int) - 1)) (fun x y=>decide (x<y)) (some false) (bif v.choices.all (Hb p.cells) then some true else some false) (E6 hs.2.2.1) ?_ ?_ ?_ (by omega)]
 ·
  simp only [Ge,I9]
  by_cases a:v.leaves.length=0
  · simp [a]
  ·
   have a1: ¬((v.leaves.length:Int)<1):=by omega
   simp only [a,a1,decide_false,cond_false,Bool.not_false,Bool.true_and]
   by_cases b:(v.choices.length:Int)<1
   ·
    have:BS v.choices.length 1 96=false:=by simp [BS];omega
    simp [b,this]
   ·
    by_cases b2:(96:Int)<(v.choices.length:Int)
    ·
     have:BS v.choices.length 1 96=false:=by simp [BS];omega
     simp [b,b2,this]
    ·
     have:BS v.choices.length 1 96=true:=by simp [BS];omega
     simp only [b,b2,this,decide_false,cond_false,Bool.true_and]
     cases (v.leaves.all fun k=>BS k 0 ((p.capacity.length:Int) - 1))<;> cases Jw (fun x y=>decide (x<y)) v.leaves<;> cases v.choices.all (Hb p.cells)<;> rfl
 · intro sf;unfold BZ;rw [chs];simp only [Jy,cond_false]
 ·
  intro sf k h0 hk hw
  unfold BZ
  have c1:((0:Int)≤0∧(0:Int)<(v.leaves.length:Int))=True:=by simp<;> omega
  have c2:decide ((0:Int)<(v.leaves.length:Int))=true:=by simp<;> omega
  have hk':v.leaves.getD (0:Int).toNat default=k:=AN hk
  simp only [hk',c1,c2,BM,cond_true,Ll,Option.bind_some,Ge,hw,e1,Int.lt_irrefl,decide_false,cond_false]
  cases BS k 0 ((p.capacity.length:Int) - 1)<;> rfl
 ·
  intro sf j y k h0 hy hk hw hw2
  unfold BZ
  have c3:decide ((0:Int)<((j+1:Nat):Int))=true:=by simp<;> omega
  have c4:decide (k≤y)=!(decide (y<k)):=by by_cases h:y<k<;> simp [h]<;> omega
  simp only [Int.toNat_natCast,AN hk,AN hy,FA h0,F8 h0,F8 (show j<v.leaves.length by omega),c3,c4,BM,cond_true,Ll,Option.bind_some,Ge,hw,hw2,e1]
  cases BS k 0 ((p.capacity.length:Int) - 1)<;> cases decide (y<k)<;> rfl
theorem Pa {p:A9} (hp:CC p):CH p=some (bif E5 p then 0 else 270):=by
 obtain⟨s1,s2,s3⟩:=hp
 have vars:B1 (Ds p) (((p.variables.length:Int) - 0).toNat+1) 0=bif p.variables.all (I9 p.cells p.capacity.length) then some 0 else some 270:=by
  refine I6 (I9 p.cells p.capacity.length) (some 270) (some 0) (E6 s3) ?_ ?_ (by omega)
  · intro sf;unfold Ds;simp only [Jy,cond_false]
  ·
   intro sf i v h1 h2 h3
   unfold Ds
   simp only [Int.toNat_natCast,AN h2,FA h1,F8 h1,BM,cond_true,Vk s1 (E6 s2) (s3.2 v (Lm h2)),Option.bind_some,h3]
   cases I9 p.cells p.capacity.length v<;> rfl
 have caps:B1 (Dt p) (((p.capacity.length:Int) - 0).toNat+1) 0=bif p.capacity.all (Jl p.cells.length) then (bif p.variables.all (I9 p.cells p.capacity.length) then some 0 else some 270) else some 270:=by
  refine I6 (Jl p.cells.length) (some 270) _ (E6 s2) ?_ ?_ (by omega)
  · intro sf;unfold Dt;rw [vars];simp only [Jy,cond_false]
  ·
   intro sf i r h1 h2 h3
   unfold Dt
   simp only [Int.toNat_natCast,AN h2,FA h1,F8 h1,BM,cond_true,Jl]
   by_cases h:r.length=p.cells.length
   ·
    simp only [h,ne_eq,not_true_eq_false,decide_false,cond_false,decide_true,Bool.true_and]
    rw [← h]
    refine I6 (B:=Dr p (i:Int) sf) (l:=r) (fun k=>BS k 0 4096) (some 270) (sf ((i:Int)+1)) (E6 (s2.2 r (Lm h2))) ?_ ?_ (by omega)
    · intro sf';unfold Dr;rw [h];simp only [Jy,cond_false,h3]
    ·
     intro sf' j k h4 h5 h6
     unfold Dr
     simp only [Int.toNat_natCast,AN h2,AN h5,← h,FA h4,F8 h4,F8 h1,BM,cond_true,Ll,Option.bind_some,h6]
     cases BS k 0 4096<;> rfl
   ·
    have:((r.length:Int)≠(p.cells.length:Int)):=by omega
    simp [h,this]
 have cells:B1 (CD p) (((p.cells.length:Int) - 0).toNat+1) 0=bif (p.cells.all Jz&&Jw cb p.cells) then (bif p.capacity.all (Jl p.cells.length) then (bif p.variables.all (I9 p.cells p.capacity.length) then some 0 else some 270) else some 270) else some 270:=by
  have oc:∀x:AK,Jz x=(!(decide (x.index<0))&&!(decide (x.minute<0))):=by
   intro x;unfold Jz;by_cases a:x.index<0<;> by_cases b:x.minute<0<;> simp [a,b]<;> omega
  refine Nl Jz cb (some 270) _ (E6 s1) ?_ ?_ ?_ (by omega)
  · intro sf;unfold CD;rw [caps];simp only [Jy,cond_false]
  ·
   intro sf x h0 hx hw
   unfold CD
   have c1:((0:Int)≤0∧(0:Int)<(p.cells.length:Int))=True:=by simp<;> omega
   have c2:decide ((0:Int)<(p.cells.length:Int))=true:=by simp<;> omega
   have hk':p.cells.getD (0:Int).toNat default=x:=AN hx
   simp only [hk',c1,c2,BM,cond_true,Ge,hw,oc,Int.lt_irrefl,decide_false,cond_false]
   cases decide (x.index<0)<;> cases decide (x.minute<0)<;> rfl
  ·
   intro sf j y x h0 hy hx hw hw2
   unfold CD
   have c3:decide ((0:Int)<((j+1:Nat):Int))=true:=by simp<;> omega
   simp only [Int.toNat_natCast,AN hx,AN hy,FA h0,F8 h0,F8 (show j<p.cells.length by omega),c3,BM,cond_true,SW,Option.bind_some,Ge,hw,hw2,oc]
   cases decide (x.index<0)<;> cases decide (x.minute<0)<;> cases cb y x<;> rfl
 unfold CH
 rw [cells]
 simp only [Ge]
 unfold E5
 by_cases h1:p.cells.length≤4096
 ·
  have e1: ¬((4096:Int)<(p.cells.length:Int)):=by omega
  simp only [h1,e1,decide_true,decide_false,cond_false,Bool.true_and]
  by_cases b:(p.capacity.length:Int)<1
  ·
   have:BS p.capacity.length 1 32=false:=by simp [BS];omega
   simp [b,this]
  ·
   by_cases b2:(32:Int)<(p.capacity.length:Int)
   ·
    have:BS p.capacity.length 1 32=false:=by simp [BS];omega
    simp [b,b2,this]
   ·
    have:BS p.capacity.length 1 32=true:=by simp [BS];omega
    simp only [b,b2,this,decide_false,cond_false,Bool.true_and]
    by_cases h2:p.variables.length≤64
    ·
     have e2: ¬((64:Int)<(p.variables.length:Int)):=by omega
     simp only [h2,e2,decide_true,decide_false,cond_false,Bool.true_and]
     cases Jw cb p.cells<;> cases p.cells.all Jz<;> cases p.capacity.all (Jl p.cells.length)<;> cases p.variables.all (I9 p.cells p.capacity.length)<;> rfl
    ·
     have e2:(64:Int)<(p.variables.length:Int):=by omega
     simp [h2,e2]
 ·
  have e1:(4096:Int)<(p.cells.length:Int):=by omega
  simp [h1,e1]
/-! reasons -/
def KY (n:Nat) (k:Int):Bool:=decide (0≤k)&&decide (k<(n:Int))
def IB (p:A9) (x:A8):Bool:=KY p.capacity.length x.leaf&&KY p.cells.length x.cell
def pb (a b:A8):Bool:=decide (a.leaf<b.leaf)||(decide (a.leaf=b.leaf)&&decide (a.cell<b.cell))
def GL (p:A9) (r:AS):Bool:=(r.variables.all (KY p.variables.length)&&Jw (fun x y=>decide (x<y)) r.variables)&&(r.places.all (IB p)&&Jw pb r.places)
theorem Tb (a b:A8):DI a b=some (pb a b):=by
 unfold DI pb
 by_cases h:a.leaf<b.leaf
 · simp [h]
 · by_cases h2:a.leaf=b.leaf<;> simp [h,h2]
def Tc (a b:A8):Int:=if Md a.leaf b.leaf≠0 then Md a.leaf b.leaf else Md a.cell b.cell
theorem Td (a b:A8):DC a b=some (Tc a b):=by
 unfold DC Tc
 simp only [Qu,SV,Option.bind_some]
theorem Ua (a b:A8):decide (0≤Tc a b)=!(pb a b):=by
 unfold Tc pb Md
 by_cases h:a.leaf<b.leaf
 · simp [h]
 ·
  by_cases h2:b.leaf<a.leaf
  ·
   have:a.leaf≠b.leaf:=by omega
   simp [h,h2,this]
  ·
   have:a.leaf=b.leaf:=by omega
   simp only [this,Int.lt_irrefl,if_false,ne_eq,not_true_eq_false,decide_false,Bool.false_or,decide_true,Bool.true_and]
   by_cases h3:a.cell<b.cell
   · simp [h3]
   · simp only [h3,if_false,decide_false,Bool.not_false,decide_eq_true_eq];split<;> omega
theorem QX (n:Nat) (k:Int):KY n k=(!(decide (k<0))&&!(decide ((n:Int)≤k))):=by
 unfold KY;by_cases a:k<0<;> by_cases b:(n:Int)≤k<;> simp [a,b]<;> omega
theorem Vl {p:A9} {r:AS} (hp:CC p) (hr:Ie r):E4 p r=some (bif E5 p then (bif GL p r then 0 else 320) else 270):=by
 unfold E4 FE
 rw [Pa hp]
 have pl:B1 (CF p r) (((r.places.length:Int) - 0).toNat+1) 0=bif (r.places.all (IB p)&&Jw pb r.places) then some true else some false:=by
  refine Nl (IB p) pb (some false) (some true) (E6 hr.2) ?_ ?_ ?_ (by omega)
  · intro sf;unfold CF;simp only [Jy,cond_false]
  ·
   intro sf x h0 hx hw
   unfold CF
   have c1:((0:Int)≤0∧(0:Int)<(r.places.length:Int))=True:=by simp<;> omega
   have c2:decide ((0:Int)<(r.places.length:Int))=true:=by simp<;> omega
   have hk':r.places.getD (0:Int).toNat default=x:=AN hx
   simp only [hk',c1,c2,BM,cond_true,Ge,hw,IB,QX,Int.lt_irrefl,decide_false,cond_false]
   cases decide (x.leaf<0)<;> cases decide ((p.capacity.length:Int)≤x.leaf)<;> cases decide (x.cell<0)<;> cases decide ((p.cells.length:Int)≤x.cell)<;> rfl
  ·
   intro sf j y x h0 hy hx hw hw2
   unfold CF
   have c3:decide ((0:Int)<((j+1:Nat):Int))=true:=by simp<;> omega
   simp only [Int.toNat_natCast,AN hx,AN hy,FA h0,F8 h0,F8 (show j<r.places.length by omega),c3,BM,cond_true,Tb,Option.bind_some,Ge,hw,hw2,IB,QX]
   cases decide (x.leaf<0)<;> cases decide ((p.capacity.length:Int)≤x.leaf)<;> cases decide (x.cell<0)<;> cases decide ((p.cells.length:Int)≤x.cell)<;> cases pb y x<;> rfl
 have vs:B1 (CG p r) (((r.variables.length:Int) - 0).toNat+1) 0=bif (r.variables.all (KY p.variables.length)&&Jw (fun x y=>decide (x<y)) r.variables) then (bif (r.places.all (IB p)&&Jw pb r.places) then some true else some false) else some false:=by
  refine Nl (KY p.variables.length) (fun x y=>decide (x<y)) (some false) _ (E6 hr.1) ?_ ?_ ?_ (by omega)
  · intro sf;unfold CG;rw [pl];simp only [Jy,cond_false]
  ·
   intro sf x h0 hx hw
   unfold CG
   have c1:((0:Int)≤0∧(0:Int)<(r.variables.length:Int))=True:=by simp<;> omega
   have c2:decide ((0:Int)<(r.variables.length:Int))=true:=by simp<;> omega
   have hk':r.variables.getD (0:Int).toNat default=x:=AN hx
   simp only [hk',c1,c2,BM,cond_true,Ge,hw,QX,Int.lt_irrefl,decide_false,cond_false]
   cases decide (x<0)<;> cases decide ((p.variables.length:Int)≤x)<;> rfl
  ·
   intro sf j y x h0 hy hx hw hw2
   unfold CG
   have c3:decide ((0:Int)<((j+1:Nat):Int))=true:=by simp<;> omega
   have c4:decide (x≤y)=!(decide (y<x)):=by by_cases h:y<x<;> simp [h]<;> omega
   simp only [Int.toNat_natCast,AN hx,AN hy,FA h0,F8 h0,F8 (show j<r.variables.length by omega),c3,c4,BM,cond_true,Ge,hw,hw2,QX]
   cases decide (x<0)<;> cases decide ((p.variables.length:Int)≤x)<;> cases decide (y<x)<;> rfl
 rw [vs]
 unfold GL
 cases E5 p
 · rfl
 ·
  simp only [cond_true,Option.bind_some]
  cases (r.variables.all (KY p.variables.length)&&Jw (fun x y=>decide (x<y)) r.variables)<;> cases (r.places.all (IB p)&&Jw pb r.places)<;> rfl
end Go.Fx
namespace Go.Fx
open Go Go.RowKit Go.Proofs
end Go.Fx
namespace Go.Fx
open Go Go.RowKit
theorem Vm:FM=some true:=by decide+kernel
theorem PE (p:A9) (lim:Int) (h:p.variables.length≤999):∃v,Eb p lim=some v:=by
 unfold Eb
 obtain⟨fu,hfu⟩:∃n:Nat,n=1000000:=⟨_,rfl⟩
 rw [← hfu]
 have main:∀(fuel i:Nat) (n:Int),i≤p.variables.length→p.variables.length - i<fuel→∃v,B8 (Ef p lim) fuel n (i:Int)=some v:=by
  intro fuel
  induction fuel with
  |zero=>intro i n _ h;omega
  |succ m ih=>
   intro i n h1 h2
   rw [DU]
   unfold Ef
   by_cases h3:i<p.variables.length
   ·
    simp only [FA h3,F8 h3,cond_true,Ge,BM]
    cases decide (n<lim)
    · exact⟨_,rfl⟩
    ·
     simp only [cond_true]
     rw [Kf (i:=i) (by omega)]
     exact ih (i+1) _ (by omega) (by omega)
   ·
    have:decide ((i:Int)<(p.variables.length:Int))=false:=by simpa using h3
    simp only [this,cond_false,Ge];exact⟨_,rfl⟩
 exact main fu 0 1 (by omega) (by omega)
structure Ey (p:A9):Prop where
 cells:p.cells.length≤12
 caps:p.capacity.length≤4
 vars:p.variables.length≤6
 row:∀r∈p.capacity,r.length≤16
 var:∀v∈p.variables,v.leaves.length≤8∧v.choices.length≤8∧∀c∈v.choices,c.uses.length≤12
theorem Vn {p:A9} (hp:CC p):∃b,ER p=some b∧(b=true→Ey p):=by
 obtain⟨s1,s2,s3⟩:=hp
 unfold ER
 simp only [Ge]
 by_cases a1:(12:Int)<(p.cells.length:Int)
 · exact⟨false,by simp [a1],by simp⟩
 by_cases a2:(4:Int)<(p.capacity.length:Int)
 · exact⟨false,by simp [a1,a2],by simp⟩
 by_cases a3:(6:Int)<(p.variables.length:Int)
 · exact⟨false,by simp [a1,a2,a3],by simp⟩
 simp only [a1,a2,a3,decide_false,cond_false]
 obtain⟨mn,hmn⟩:=PE p 2000 (by omega)
 have ok:∀v:AL,Bool:=fun v=>!(decide ((8:Int)<(v.leaves.length:Int)))&&(!(decide ((8:Int)<(v.choices.length:Int)))&&v.choices.all fun c=>!(decide ((12:Int)<(c.uses.length:Int))))
 have vars:B1 (DE p) (((p.variables.length:Int) - 0).toNat+1) 0=bif (p.variables.all fun v=>!(decide ((8:Int)<(v.leaves.length:Int)))&&(!(decide ((8:Int)<(v.choices.length:Int)))&&v.choices.all fun c=>!(decide ((12:Int)<(c.uses.length:Int))))) then some (decide (mn<2000)) else some false:=by
  refine I6 _ (some false) _ (E6 s3) ?_ ?_ (by omega)
  · intro sf;unfold DE;simp only [Jy,cond_false,hmn,Option.bind_some]
  ·
   intro sf i v h1 h2 h3
   unfold DE
   have hv:=s3.2 v (Lm h2)
   simp only [Int.toNat_natCast,AN h2,FA h1,F8 h1,BM,cond_true,Ge]
   rw [I6 (B:=DD p (i:Int) sf) (l:=v.choices) (fun c=>!(decide ((12:Int)<(c.uses.length:Int)))) (some false) (sf ((i:Int)+1)) (E6 hv.2.2.2) ?_ ?_ (by omega)]
   · cases decide ((8:Int)<(v.leaves.length:Int))<;> cases decide ((8:Int)<(v.choices.length:Int))<;> rfl
   · intro sf';unfold DD;simp only [Int.toNat_natCast,AN h2,Jy,cond_false,h3]
   ·
    intro sf' j c h4 h5 h6
    unfold DD
    simp only [Int.toNat_natCast,AN h2,AN h5,FA h4,F8 h4,BM,cond_true,h6]
    cases decide ((12:Int)<(c.uses.length:Int))<;> rfl
 rw [I6 (B:=DF p) (l:=p.capacity) (fun r=>!(decide ((16:Int)<(r.length:Int)))) (some false) (bif (p.variables.all fun v=>!(decide ((8:Int)<(v.leaves.length:Int)))&&(!(decide ((8:Int)<(v.choices.length:Int)))&&v.choices.all fun c=>!(decide ((12:Int)<(c.uses.length:Int))))) then some (decide (mn<2000)) else some false) (E6 s2) ?_ ?_ (by omega)]
 ·
  cases hc:(p.capacity.all fun r=>!(decide ((16:Int)<(r.length:Int))))
  · exact⟨false,rfl,by simp⟩
  cases hv:(p.variables.all fun v=>!(decide ((8:Int)<(v.leaves.length:Int)))&&(!(decide ((8:Int)<(v.choices.length:Int)))&&v.choices.all fun c=>!(decide ((12:Int)<(c.uses.length:Int)))))
  · exact⟨false,rfl,by simp⟩
  refine⟨_,rfl,fun _=>⟨by omega,by omega,by omega,fun r hr=>?_,fun v hw=>?_⟩⟩
  ·
   have:=List.all_eq_true.1 hc r hr
   simp at this;omega
  ·
   have:=List.all_eq_true.1 hv v hw
   simp only [Bool.and_eq_true,Bool.not_eq_true',decide_eq_false_iff_not,List.all_eq_true] at this
   exact⟨by omega,by omega,fun c hc=>by have:=this.2.2 c hc;omega⟩
 · intro sf;unfold DF;rw [vars];simp only [Jy,cond_false]
 ·
  intro sf i r h1 h2 h3
  unfold DF
  simp only [Int.toNat_natCast,AN h2,FA h1,F8 h1,BM,cond_true,h3]
  cases decide ((16:Int)<(r.length:Int))<;> rfl
/-! Part -/
def Ln (p:A9) (rows:List (List Int)) (y:A8):List (List Int):=
 rows.set y.leaf.toNat ((rows.getD y.leaf.toNat default).set y.cell.toNat ((p.capacity.getD y.leaf.toNat default).getD y.cell.toNat default))
def Kz (p:A9):List (List Int):=List.replicate p.capacity.length (List.replicate p.cells.length 4096)
def Cy (p:A9) (r:AS):A9:=⟨p.cells,r.places.foldl (Ln p) (Kz p),r.variables.map fun i=>p.variables.getD i.toNat default⟩
def LB (n m:Nat) (rows:List (List Int)):Prop:=rows.length=n∧∀r∈rows,r.length=m
theorem LB.put {p:A9} {n m:Nat} {rows:List (List Int)} (h:LB n m rows) (y:A8):LB n m (Ln p rows y):=by
 unfold Ln
 refine⟨by rw [List.length_set];exact h.1,fun r hr=>?_⟩
 by_cases hl:y.leaf.toNat<rows.length
 ·
  rcases List.mem_or_eq_of_mem_set hr with h1 |h1
  · exact h.2 r h1
  · rw [h1,List.length_set,AN (List.getElem?_eq_getElem hl)];exact h.2 _ (List.getElem_mem hl)
 · rw [List.set_eq_of_length_le (by omega)] at hr;exact h.2 r hr
theorem LB.blank (p:A9):LB p.capacity.length p.cells.length (Kz p):=by
 refine⟨by simp [Fx.Kz],fun r hr=>?_⟩
 rw [Fx.Kz] at hr;rw [List.eq_of_mem_replicate hr];simp
theorem RT {p:A9} (h:E5 p=true):∀r∈p.capacity,r.length=p.cells.length:=by
 unfold E5 at h
 simp only [Bool.and_eq_true,List.all_eq_true] at h
 intro r hr
 have:=h.2.2.2.2.1 r hr
 simp only [Jl,Bool.and_eq_true,decide_eq_true_eq] at this
 exact this.1
theorem Oj {n:Nat} {k:Int} :KY n k=true ↔ 0≤k∧k<(n:Int):=by simp [KY]
theorem Lo {p:A9} {r:AS} (h:GL p r=true):(∀i∈r.variables,0≤i∧i<(p.variables.length:Int))∧Jw (fun x y=>decide (x<y)) r.variables=true∧
  (∀x∈r.places,(0≤x.leaf∧x.leaf<(p.capacity.length:Int))∧0≤x.cell∧x.cell<(p.cells.length:Int))∧Jw pb r.places=true:=by
 unfold GL at h
 simp only [Bool.and_eq_true,List.all_eq_true,IB,Oj] at h
 exact⟨h.1.1,h.1.2,h.2.1,h.2.2⟩
theorem Vo {p:A9} {rows:List (List Int)} {x:A8} (hc:∀r∈p.capacity,r.length=p.cells.length) (hR:LB p.capacity.length p.cells.length rows)
  (hx:(0≤x.leaf∧x.leaf<(p.capacity.length:Int))∧0≤x.cell∧x.cell<(p.cells.length:Int)):
  ((0:Int)≤x.leaf∧x.leaf<(rows.length:Int))∧((0:Int)≤x.leaf∧x.leaf<(p.capacity.length:Int))∧
  ((0:Int)≤x.cell∧x.cell<((p.capacity.getD x.leaf.toNat default).length:Int))∧((0:Int)≤x.cell∧x.cell<((rows.getD x.leaf.toNat default).length:Int)):=by
 have h1:x.leaf.toNat<p.capacity.length:=by omega
 have h2:x.leaf.toNat<rows.length:=by rw [hR.1];exact h1
 rw [hR.1,AN (List.getElem?_eq_getElem h1),AN (List.getElem?_eq_getElem h2),hc _ (List.getElem_mem h1),hR.2 _ (List.getElem_mem h2)]
 exact⟨hx.1,hx.1,hx.2,hx.2⟩
theorem Vp {p:A9} {r:AS} (hp:CC p) (hr:Ie r) (hs:Ey p) (hv:r.variables.length≤20):
  EE p r=some (bif E5 p then (bif GL p r then (Cy p r,0) else (⟨[],[],[]⟩,320)) else (⟨[],[],[]⟩,270)):=by
 unfold EE
 rw [Vl hp hr]
 cases h1:E5 p
 · rfl
 cases h2:GL p r
 · rfl
 simp only [cond_true,Option.bind_some,ne_eq,not_true_eq_false,decide_false,cond_false]
 obtain⟨i1,i2,i3,i4⟩:=Lo h2
 have hc:=RT h1
 have vs:∀rows,B8 (CW p r rows) (((r.variables.length:Int) - 0).toNat+1) 0 ([]:List AL)=some (⟨p.cells,rows,r.variables.map fun i=>p.variables.getD i.toNat default⟩,0):=by
  intro rows
  refine(H2 (B:=CW p r rows) (s:=([]:List AL)) (fuel:=((r.variables.length:Int) - 0).toNat+1) (fun i (s:List AL)=>s.length=i) (fun _ t s=>some ((⟨p.cells,rows,s++t.map fun i=>p.variables.getD i.toNat default⟩:A9),(0:Int))) r.variables (E6 hr.1) ?_ ?_ (by omega) rfl).trans (by simp)
  · intro sf s _;unfold CW;simp
  ·
   intro sf i s x t e1 e2 e3 e4 ih
   unfold CW
   have b1:=i1 x (Lm e2)
   simp only [Int.toNat_natCast,AN e2,FA e1,F8 e1,BM,cond_true,e3]
   rw [BU b1,BU (by simp only [List.length_singleton];omega),ih _ (by simp [e4])]
   simp
 have ps:B8 (D3 p r) (((r.places.length:Int) - 0).toNat+1) 0 (Kz p)=some (Cy p r,0):=by
  refine H2 (fuel:=((r.places.length:Int) - 0).toNat+1) (s:=Kz p) (fun i s=>LB p.capacity.length p.cells.length s) (fun _ t s=>some ((⟨p.cells,t.foldl (Ln p) s,r.variables.map fun i=>p.variables.getD i.toNat default⟩:A9),(0:Int))) r.places (E6 hr.2) ?_ ?_ (by omega) (LB.blank p)
  · intro sf s _;unfold D3;rw [vs];simp
  ·
   intro sf i s x t e1 e2 e3 e4 ih
   unfold D3
   obtain⟨b1,b2,b3,b4⟩:=Vo hc e4 (i3 x (Lm e2))
   simp only [Int.toNat_natCast,AN e2,FA e1,F8 e1,BM,cond_true,e3]
   rw [BU b1,BU b2,BU b3,BU b4]
   exact ih _ (e4.put x)
 refine H2 (fun i (s:List (List Int))=>s=List.replicate i (List.replicate p.cells.length 4096)) (fun _ _ _=>some (Cy p r,0)) p.capacity (E6 hp.2.1) ?_ ?_ (by omega) rfl
 · intro sf s e;unfold Eh;subst e;rw [show List.replicate p.capacity.length (List.replicate p.cells.length 4096)=Kz p from rfl,ps];simp
 ·
  intro sf i s x t e1 e2 e3 e4 ih
  unfold Eh
  subst e4
  simp only [FA e1,cond_true]
  refine H3 (fun j (l:List Int)=>l=List.replicate j 4096) (fun _ _ _=>some (Cy p r,0)) p.cells (E6 hp.1) ?_ ?_ (by omega) rfl
  ·
   intro sf' l e;unfold Eg
   simp only [Jy,cond_false,e3]
   rw [BU (by have:=hs.caps;simp;omega)]
   subst e
   exact ih _ (by rw [List.replicate_succ'])
  ·
   intro sf' j l c t2 f1 f2 f4 f5 ih'
   unfold Eg
   subst f5
   simp only [FA f1,cond_true,f4]
   rw [BU (by have:=hs.cells;simp;omega)]
   exact ih' _ (by rw [List.replicate_succ'])
section
variable {R α σ : Type}
theorem LC [DecidableEq R] {b:(σ→Option R)→α→σ→Option R} {k:σ→Option R} (J:List α→σ→Prop) (R0:Option R) (hz:∀s,J [] s→k s=R0)
  (hs:∀r1 r2 p s sf,J (r1++p::r2) s→(∀s',J (r1++r2) s'→sf s'=R0)→b sf p s=R0):∀xs s,J xs s→MX b k xs s=R0:=by
 intro xs
 generalize hn:xs.length=n
 induction n generalizing xs with
 |zero=>intro s h;obtain rfl:=List.length_eq_zero_iff.1 hn;exact hz s h
 |succ n ih=>
  intro s h
  have key:∀u∈(IJ xs).map (fun p=>b (J8 b k n p.2) p.1 s),u=R0:=by
   intro u hu
   obtain⟨p,hp,rfl⟩:=List.mem_map.1 hu
   obtain⟨r1,r2,e1,e2⟩:=J7.1 hp
   have hl:p.2.length=n:=by have:=LX hp;omega
   rw [e1] at h
   refine hs r1 r2 p.1 s _ h fun s' h'=>?_
   rw [← e2] at h'
   have:=ih p.2 hl s' h'
   unfold MX at this;rw [hl] at this;exact this
  have hne:(IJ xs).map (fun p=>b (J8 b k n p.2) p.1 s)≠[]:=by
   intro e2
   have e2:IJ xs=[]:=List.map_eq_nil_iff.1 e2
   cases xs with
   |nil=>cases hn
   |cons x t=>simp [IJ] at e2
  unfold MX
  rw [hn]
  show JO ((IJ xs).map fun p=>b (J8 b k n p.2) p.1 s)=_
  cases e:R0 with
  |some a=>rw [e] at key;exact Iq.2 ⟨hne,key⟩
  |none=>
   rw [e] at key
   cases e2:JO ((IJ xs).map fun p=>b (J8 b k n p.2) p.1 s) with
   |none=>rfl
   |some a=>
    have:=Iq.1 e2
    cases hL:(IJ xs).map fun p=>b (J8 b k n p.2) p.1 s with
    |nil=>exact absurd hL this.1
    |cons u t=>
     have h1:=this.2 u (by rw [hL];simp)
     have h2:=key u (by rw [hL];simp)
     rw [h1] at h2;cases h2
end
abbrev PM:=List (A8 × Int)
def vl (d:PM) (x:A8):Int:=(B0 d x).getD 0
theorem Vq (d:PM) (x y:A8) (n:Int):vl (DJ d x n) y=if x=y then n else vl d y:=by
 unfold vl;rw [G5];split<;> rfl
section
variable (cap : A8 → Int)
def HE (d:PM):List (A8 × Bool):=(d.filter fun q=>decide (cap q.1<q.2)).map fun q=>(q.1,true)
theorem GM {d:PM} (h:He d):He (HE cap d):=by
 unfold HE He
 rw [List.pairwise_map]
 exact List.Pairwise.filter _ h
theorem Hc (hc:∀x,0≤cap x) {d:PM} (h:He d) (x:A8):B0 (HE cap d) x=if cap x<vl d x then some true else none:=by
 have hr:=GM cap h
 by_cases hx:cap x<vl d x
 ·
  rw [if_pos hx]
  cases hg:B0 d x with
  |none=>have h0:=hc x;unfold vl at hx;rw [hg] at hx;simp at hx;omega
  |some n=>
   have hm:=FK hg
   have hv:vl d x=n:=by unfold vl;rw [hg];rfl
   refine Je hr (List.mem_map.2 ⟨(x,n),List.mem_filter.2 ⟨hm,?_⟩,rfl⟩)
   rw [hv] at hx;simpa using hx
 ·
  rw [if_neg hx]
  cases hg:B0 (HE cap d) x with
  |none=>rfl
  |some b=>
   obtain⟨q,hq,he⟩:=List.mem_map.1 (FK hg)
   obtain⟨hq1,hq2⟩:=List.mem_filter.1 hq
   obtain⟨e1,e2⟩:=Prod.mk.inj he
   have:B0 d x=some q.2:=by rw [← e1];exact Je h (by simpa using hq1)
   have hv:vl d x=q.2:=by unfold vl;rw [this];rfl
   rw [← e1] at hx hv
   have:=of_decide_eq_true hq2
   omega
theorem Te (hc:∀x,0≤cap x) {d e:PM} (hd:He d) (he:He e) (h:∀x,vl d x=vl e x):HE cap d=HE cap e:=
 HH (GM cap hd) (GM cap he) fun x=>by rw [Hc cap hc hd,Hc cap hc he,h x]
end
def Nn (m:PM) (d:PM):PM:=m.foldl (fun e q=>DJ e q.1 (vl d q.1+q.2)) d
def Pb (m:PM) (d:PM):PM:=m.foldl (fun e q=>DJ e q.1 (vl d q.1 - q.2)) d
theorem LD (f:A8→Int→Int):∀(m:PM) (e:PM),He e→(m.Pairwise fun a b=>a.1≠b.1)→
  He (m.foldl (fun e q=>DJ e q.1 (f q.1 q.2)) e)∧∀x,B0 (m.foldl (fun e q=>DJ e q.1 (f q.1 q.2)) e) x=match B0 m x with |some n=>some (f x n) |none=>B0 e x:=by
 intro m
 induction m with
 |nil=>intro e he _;exact⟨he,fun x=>rfl⟩
 |cons q t ih=>
  intro e he hp
  rw [List.pairwise_cons] at hp
  obtain⟨h1,h2⟩:=ih (DJ e q.1 (f q.1 q.2)) (Hu he _ _) hp.2
  refine⟨h1,fun x=>?_⟩
  rw [List.foldl_cons,h2 x]
  obtain⟨k,n⟩:=q
  simp only [B0]
  by_cases hk:k=x
  ·
   subst hk
   have:B0 t k=none:=by
    cases hg:B0 t k with
    |none=>rfl
    |some v=>exact absurd rfl (hp.1 (k,v) (FK hg))
   rw [this,if_pos rfl,G5,if_pos rfl]
  ·
   rw [if_neg hk]
   cases B0 t x with
   |some v=>rfl
   |none=>simp only [G5,if_neg hk]
theorem Me {V:Type} {m:List (A8 × V)} (h:He m):m.Pairwise fun a b=>a.1≠b.1:=
 h.imp fun {a b} hab e=>by rw [e] at hab;have:=Pw hab;rw [hab] at this;cases this
theorem No {m d:PM} (hm:He m) (hd:He d):He (Nn m d):=(LD (fun x n=>vl d x+n) m d hd (Me hm)).1
theorem Np {m d:PM} (hm:He m) (hd:He d):He (Pb m d):=(LD (fun x n=>vl d x - n) m d hd (Me hm)).1
theorem PF {m d:PM} (hm:He m) (hd:He d) (x:A8):B0 (Nn m d) x=match B0 m x with |some n=>some (vl d x+n) |none=>B0 d x:=(LD (fun x n=>vl d x+n) m d hd (Me hm)).2 x
theorem PG {m d:PM} (hm:He m) (hd:He d) (x:A8):B0 (Pb m d) x=match B0 m x with |some n=>some (vl d x - n) |none=>B0 d x:=(LD (fun x n=>vl d x - n) m d hd (Me hm)).2 x
theorem QY {m d:PM} (hm:He m) (hd:He d) (x:A8):vl (Nn m d) x=vl d x+vl m x:=by
 unfold vl;rw [PF hm hd];cases B0 m x<;> simp [vl]
theorem Ub {m d:PM} (hm:He m) (hd:He d) (x:A8):vl (Pb m d) x=vl d x - vl m x:=by
 unfold vl;rw [PG hm hd];cases B0 m x<;> simp [vl]
def ES {α:Type} :List (List α)→List (List α)
 |[] =>[[]]
 |ms::t=>ms.flatMap fun m=>(ES t).map (m::·)
def K3 {β σ:Type} (D:β→σ→Option (Bool × σ)):List β→σ→Option (Bool × σ)
 |[],s=>some (true,s)
 |b::t,s=>(D b s).bind fun r=>bif r.1 then K3 D t r.2 else some (false,r.2)
theorem Mz {β σ:Type} (D:β→σ→Option (Bool × σ)):∀(l m:List β) (s:σ),K3 D (l++m) s=(K3 D l s).bind fun r=>bif r.1 then K3 D m r.2 else some (false,r.2)
 |[],m,s=>rfl
 |b::t,m,s=>by
  simp only [List.cons_append,K3]
  cases D b s with
  |none=>rfl
  |some r=>
   simp only [Option.bind_some]
   cases h:r.1
   · simp
   · simp only [cond_true];exact Mz D t m r.2
def HP (t:DL) (x:A8):Int:=(t.p.capacity.getD x.leaf.toNat default).getD x.cell.toNat default
structure Nq (t:DL) (m:PM):Prop where
 ris:He m
 pl:∀q∈m,((0:Int)≤q.1.leaf∧q.1.leaf<(t.p.capacity.length:Int))∧((0:Int)≤q.1.cell∧q.1.cell<((t.p.capacity.getD q.1.leaf.toNat default).length:Int))
 sm:∀q∈m,0≤q.2∧q.2≤8
theorem Nq.vl {t:DL} {m:PM} (h:Nq t m) (x:A8):0≤vl m x∧vl m x≤8:=by
 unfold Fx.vl
 cases hg:B0 m x with
 |none=>simp
 |some n=>exact h.sm _ (FK hg)
def J1 (f:A8→Int→Int) (cap:A8→Int) (m d:PM) (rest:PM) (s:List (A8 × Bool) × PM):Prop:=
 He s.2∧s.1=HE cap s.2∧(rest.Pairwise fun a b=>a.1≠b.1)∧(∀q∈rest,q∈m)∧
 ∀x,B0 s.2 x=match B0 m x with |some n=>if x∈rest.map (·.1) then B0 d x else some (f x n) |none=>B0 d x
theorem J1.next {f:A8→Int→Int} {cap:A8→Int} {m d r1 r2:PM} {p:A8 × Int} {s:List (A8 × Bool) × PM} (hm:He m) (h:J1 f cap m d (r1++p::r2) s) {e:PM} {b:List (A8 × Bool)}
  (he:He e) (hb:b=HE cap e) (hg:∀y,B0 e y=if p.1=y then some (f p.1 p.2) else B0 s.2 y):J1 f cap m d (r1++r2) (b,e):=by
 obtain⟨h1,h2,h3,h4,h5⟩:=h
 have hsub:(r1++r2).Sublist (r1++p::r2):=List.Sublist.append (List.Sublist.refl _) (List.sublist_cons_self _ _)
 refine⟨he,hb,h3.sublist hsub,fun q hq=>h4 q (hsub.subset hq),fun x=>?_⟩
 have hp:B0 m p.1=some p.2:=Je hm (h4 p (by simp))
 have hnot:p.1 ∉ (r1++r2).map (·.1):=by
  intro hc
  obtain⟨q,hq,e⟩:=List.mem_map.1 hc
  rw [List.pairwise_append] at h3
  rcases List.mem_append.1 hq with hq |hq
  · exact h3.2.2 q hq p (List.mem_cons_self ..) e
  · exact(List.pairwise_cons.1 h3.2.1).1 q hq e.symm
 show B0 e x=_
 rw [hg x]
 by_cases hx:p.1=x
 ·
  subst hx
  rw [if_pos rfl,hp];simp only [hnot,if_false]
 ·
  rw [if_neg hx,h5 x]
  have:x∈(r1++p::r2).map (·.1) ↔ x∈(r1++r2).map (·.1):=by
   simp only [List.map_append,List.map_cons,List.mem_append,List.mem_cons]
   constructor
   ·
    rintro(h |h |h)
    · exact .inl h
    · exact absurd h.symm hx
    · exact .inr h
   ·
    rintro(h |h)
    · exact .inl h
    · exact .inr (.inr h)
  simp only [this]
theorem J1.at {f:A8→Int→Int} {cap:A8→Int} {m d r1 r2:PM} {p:A8 × Int} {s:List (A8 × Bool) × PM} (hm:He m) (h:J1 f cap m d (r1++p::r2) s):vl s.2 p.1=vl d p.1:=by
 obtain⟨h1,h2,h3,h4,h5⟩:=h
 have hp:B0 m p.1=some p.2:=Je hm (h4 p (by simp))
 have hmem:p.1∈(r1++p::r2).map (·.1):=by simp
 unfold vl
 rw [h5 p.1,hp];simp only [hmem,if_true]
section
variable {σ : Type} [DecidableEq σ] {t : DL} (hc : ∀ x, 0 ≤ HP t x)
include hc
theorem Vt {K:List (A8 × Bool)→PM→Option (Bool × List (A8 × Bool) × PM × σ)} {m d:PM} (hm:Nq t m) (hd:He d) (hb:∀x,0≤vl d x∧vl d x≤1000000):
  Jg (DO t) K m (HE (HP t) d) d=K (HE (HP t) (Nn m d)) (Nn m d):=by
 unfold Jg
 refine LC (J1 (fun x n=>vl d x+n) (HP t) m d) _ ?_ ?_ m (HE (HP t) d,d) ⟨hd,rfl,Me hm.ris,fun q hq=>hq,fun x=>?_⟩
 ·
  rintro⟨b,e⟩ ⟨h1,h2,_,_,h5⟩
  have:e=Nn m d:=HH h1 (No hm.ris hd) fun x=>by
   rw [PF hm.ris hd];have h:=h5 x;cases hg:B0 m x with
   |none=>rw [hg] at h;exact h
   |some n=>rw [hg] at h;simpa using h
  simp only at h2
  rw [h2,this]
 ·
  rintro r1 r2 ⟨x0,n0⟩ ⟨b,e⟩ sf h ih
  have hv:vl e x0=vl d x0:=h.at hm.ris
  have hmem:(x0,n0)∈m:=h.2.2.2.1 _ (by simp)
  have hpl:=hm.pl _ hmem
  have hsm:=hm.sm _ hmem
  have hbd:=hb x0
  unfold DO
  have hv':(B0 e x0).getD 0=vl d x0:=hv
  have hw:IntKind.wrap .i64 (vl d x0+n0)=vl d x0+n0:=Et (by simp only at hsm;omega) (by simp only at hsm;omega)
  simp only [hv',hw]
  rw [BU hpl.1,BU hpl.2]
  generalize hE:DJ (DJ e x0 (vl d x0)) x0 (vl d x0+n0)=E
  have hER:He E:=by rw [← hE];exact Hu (Hu h.1 _ _) _ _
  have hEg:∀y,B0 E y=if x0=y then some (vl d x0+n0) else B0 e y:=by
   intro y;rw [← hE,G5];split
   · rfl
   · rw [G5,if_neg ‹_›]
  have hEv:(B0 E x0).getD 0=vl d x0+n0:=by rw [hEg,if_pos rfl];rfl
  have hEv2:vl E x0=vl d x0+n0:=hEv
  rw [hEv]
  have hb0:b=HE (HP t) e:=h.2.1
  cases hcp:decide ((t.p.capacity.getD x0.leaf.toNat default).getD x0.cell.toNat default<vl d x0+n0)
  ·
   rw [cond_false]
   have hcp: ¬(HP t x0<vl d x0+n0):=of_decide_eq_false hcp
   refine ih (b,E) (h.next hm.ris hER ?_ hEg)
   rw [hb0]
   refine HH (GM _ h.1) (GM _ hER) fun y=>?_
   rw [Hc _ hc h.1,Hc _ hc hER]
   by_cases hy:x0=y
   ·
    subst hy
    simp only at hsm
    rw [hEv2,if_neg hcp,if_neg (by rw [hv];omega)]
   ·
    have:vl E y=vl e y:=by unfold vl;rw [hEg,if_neg hy]
    rw [this]
  ·
   rw [cond_true]
   have hcp:HP t x0<vl d x0+n0:=of_decide_eq_true hcp
   refine ih (DJ b x0 true,E) (h.next hm.ris hER ?_ hEg)
   rw [hb0]
   refine HH (Hu (GM _ h.1) _ _) (GM _ hER) fun y=>?_
   rw [G5,Hc _ hc h.1,Hc _ hc hER]
   by_cases hy:x0=y
   ·
    subst hy
    rw [hEv2,if_pos rfl,if_pos hcp]
   ·
    have:vl E y=vl e y:=by unfold vl;rw [hEg,if_neg hy]
    rw [this,if_neg hy]
 ·
  show B0 d x=_
  cases hg:B0 m x with
  |none=>rfl
  |some n=>
   have:x∈m.map (·.1):=List.mem_map.2 ⟨(x,n),FK hg,rfl⟩
   simp only [this,if_true]
theorem Vu {K:List (A8 × Bool)→PM→Option (Bool × List (A8 × Bool) × PM × σ)} {m d:PM} (hm:Nq t m) (hd:He d) (hb:∀x,0≤vl d x∧vl d x≤1000008):
  Jg (DN t) K m (HE (HP t) d) d=K (HE (HP t) (Pb m d)) (Pb m d):=by
 unfold Jg
 refine LC (J1 (fun x n=>vl d x - n) (HP t) m d) _ ?_ ?_ m (HE (HP t) d,d) ⟨hd,rfl,Me hm.ris,fun q hq=>hq,fun x=>?_⟩
 ·
  rintro⟨b,e⟩ ⟨h1,h2,_,_,h5⟩
  have:e=Pb m d:=HH h1 (Np hm.ris hd) fun x=>by
   rw [PG hm.ris hd];have h:=h5 x;cases hg:B0 m x with
   |none=>rw [hg] at h;exact h
   |some n=>rw [hg] at h;simpa using h
  simp only at h2
  rw [h2,this]
 ·
  rintro r1 r2 ⟨x0,n0⟩ ⟨b,e⟩ sf h ih
  have hv:vl e x0=vl d x0:=h.at hm.ris
  have hmem:(x0,n0)∈m:=h.2.2.2.1 _ (by simp)
  have hpl:=hm.pl _ hmem
  have hsm:=hm.sm _ hmem
  have hbd:=hb x0
  unfold DN
  have hv':(B0 e x0).getD 0=vl d x0:=hv
  have hw:IntKind.wrap .i64 (vl d x0 - n0)=vl d x0 - n0:=Et (by simp only at hsm;omega) (by simp only at hsm;omega)
  simp only [hv',hw]
  rw [BU hpl.1,BU hpl.2]
  generalize hE:DJ (DJ e x0 (vl d x0)) x0 (vl d x0 - n0)=E
  have hER:He E:=by rw [← hE];exact Hu (Hu h.1 _ _) _ _
  have hEg:∀y,B0 E y=if x0=y then some (vl d x0 - n0) else B0 e y:=by
   intro y;rw [← hE,G5];split
   · rfl
   · rw [G5,if_neg ‹_›]
  have hEv:(B0 E x0).getD 0=vl d x0 - n0:=by rw [hEg,if_pos rfl];rfl
  have hEv2:vl E x0=vl d x0 - n0:=hEv
  rw [hEv]
  have hb0:b=HE (HP t) e:=h.2.1
  cases hcp:decide (vl d x0 - n0≤(t.p.capacity.getD x0.leaf.toNat default).getD x0.cell.toNat default)
  ·
   rw [cond_false]
   have hcp: ¬(vl d x0 - n0≤HP t x0):=of_decide_eq_false hcp
   refine ih (b,E) (h.next hm.ris hER ?_ hEg)
   rw [hb0]
   refine HH (GM _ h.1) (GM _ hER) fun y=>?_
   rw [Hc _ hc h.1,Hc _ hc hER]
   by_cases hy:x0=y
   ·
    subst hy
    simp only at hsm
    rw [hEv2,hv,if_pos (show HP t x0<vl d x0 by omega),if_pos (show HP t x0<vl d x0 - n0 by omega)]
   ·
    have:vl E y=vl e y:=by unfold vl;rw [hEg,if_neg hy]
    rw [this]
  ·
   rw [cond_true]
   have hcp:vl d x0 - n0≤HP t x0:=of_decide_eq_true hcp
   refine ih (M7 b x0,E) (h.next hm.ris hER ?_ hEg)
   rw [hb0]
   refine HH (MU (GM _ h.1) _) (GM _ hER) fun y=>?_
   rw [S6,Hc _ hc h.1,Hc _ hc hER]
   by_cases hy:x0=y
   ·
    subst hy
    rw [hEv2,if_pos rfl,if_neg (by omega)]
   ·
    have:vl E y=vl e y:=by unfold vl;rw [hEg,if_neg hy]
    rw [this,if_neg hy]
 ·
  show B0 d x=_
  cases hg:B0 m x with
  |none=>rfl
  |some n=>
   have:x∈m.map (·.1):=List.mem_map.2 ⟨(x,n),FK hg,rfl⟩
   simp only [this,if_true]
end
def NH (w:List PM) (x:A8):Int:=(w.map fun m=>vl m x).sum
theorem Ol (m:PM) (w:List PM) (x:A8):NH (m::w) x=vl m x+NH w x:=by simp [NH]
section
variable {σ : Type} [DecidableEq σ] {t : DL} (hc : ∀ x, 0 ≤ HP t x)
abbrev Uc (t:DL) (D:List (A8 × Bool)→σ→Option (Bool × σ)):(List Int→List (A8 × Bool)→PM→σ→Option (Bool × List (A8 × Bool) × PM × σ))→List Int→List (A8 × Bool)→PM→σ→Option (Bool × List (A8 × Bool) × PM × σ):=
 fun fx63 x64 d65 d66 s67=>BO x64 D d65 t d66 fx63 s67
include hc
theorem brk (D:List (A8 × Bool)→σ→Option (Bool × σ)) (hu:∀ms∈t.uses,ms.length<9223372036854775807∧∀m∈ms,Nq t m):
  ∀(l:List Int) (fuel:Nat) (M:Int) (d:PM) (s0:σ) (g:List PM→List (A8 × Bool)),l.length<fuel→l.length<9223372036854775807→(∀v∈l,0≤v∧v<(t.uses.length:Int))→He d→(∀x,0≤vl d x∧vl d x≤M)→M+8*(l.length:Int)≤1000000→
   (∀w∈ES (l.map fun v=>t.uses.getD v.toNat default),∀e,He e→(∀x,vl e x=vl d x+NH w x)→g w=HE (HP t) e)→
   ∀r s',K3 D ((ES (l.map fun v=>t.uses.getD v.toNat default)).map g) s0=some (r,s')→
    ∃d',P4 (Uc t D) fuel l (HE (HP t) d) d s0=some (r,HE (HP t) d',d',s')∧He d'∧∀x,vl d' x=vl d x:=by
 intro l
 induction l with
 |nil=>
  intro fuel M d s0 g hf _ _ hd _ _ hg r s' hr
  obtain⟨n,rfl⟩:∃n,fuel=n+1:=⟨fuel - 1,by simp at hf;omega⟩
  refine⟨d,?_,hd,fun x=>rfl⟩
  have e:g [] =HE (HP t) d:=hg [] (by simp [ES]) d hd (fun x=>by simp [NH])
  simp only [List.map_nil,ES,List.map_cons,K3,e] at hr
  show BO [] D (HE (HP t) d) t d _ s0=_
  unfold BO
  simp only [List.length_nil,Int.natCast_zero,decide_true,cond_true]
  cases hD:D (HE (HP t) d) s0 with
  |none=>rw [hD] at hr;cases hr
  |some q=>
   rw [hD] at hr
   simp only [Option.bind_some] at hr ⊢
   obtain⟨a,b⟩:=q
   cases a
   · simp only [cond_false,Option.some.injEq,Prod.mk.injEq] at hr;obtain⟨rfl,rfl⟩:=hr;rfl
   · simp only [cond_true,Option.some.injEq,Prod.mk.injEq] at hr;obtain⟨rfl,rfl⟩:=hr;rfl
 |cons v l ih=>
  intro fuel M d s0 g hf hl64 hv hd hb hM hg r s' hr
  obtain⟨n,rfl⟩:∃n,fuel=n+1:=⟨fuel - 1,by simp at hf;omega⟩
  have hv0:=hv v (List.mem_cons_self ..)
  have hlt:v.toNat<t.uses.length:=by omega
  obtain⟨hmsl,hms⟩:=hu _ (List.getElem_mem hlt)
  have hget:t.uses.getD v.toNat default=t.uses[v.toNat]:=AN (List.getElem?_eq_getElem hlt)
  show ∃d',BO (v::l) D (HE (HP t) d) t d (P4 (Uc t D) n) s0=_∧_
  unfold BO
  have c0:decide (((v::l).length:Int)=0)=false:=by simp<;> omega
  rw [c0,cond_false]
  rw [BU (by simp<;> omega),BU (by simpa using hv0)]
  simp only [List.getD_cons_zero,hget]
  generalize hms0:t.uses[v.toNat] =ms at*
  simp only [List.map_cons,hget,ES] at hr hg
  have hMl:M+8+8*(l.length:Int)≤1000000:=by simp at hM;omega
  have loop:∀(rest:List PM) (i fl:Nat) (e:PM) (s:σ),ms.drop i=rest→i≤ms.length→rest.length<fl→He e→(∀x,vl e x=vl d x)→
    K3 D ((rest.flatMap fun m=>(ES (l.map fun v=>t.uses.getD v.toNat default)).map (m::·)).map g) s=some (r,s')→
    ∃d',Ks (Di (v::l) t (P4 (Uc t D) n)) fl (i:Int) (HE (HP t) e) e s=some (r,HE (HP t) d',d',s')∧He d'∧∀x,vl d' x=vl d x:=by
   intro rest
   induction rest with
   |nil=>
    intro i fl e s hdr hi hfl he hev hrun
    obtain⟨k,rfl⟩:∃k,fl=k+1:=⟨fl - 1,by simp at hfl;omega⟩
    have hil:i=ms.length:=by have:=congrArg List.length hdr;simp at this;omega
    simp only [List.flatMap_nil,List.map_nil,K3,Option.some.injEq,Prod.mk.injEq] at hrun
    obtain⟨rfl,rfl⟩:=hrun
    refine⟨e,?_,he,hev⟩
    rw [Lc,Di]
    simp only [List.getD_cons_zero,hget,hms0,hil,Jy,cond_false]
   |cons m rest ihr=>
    intro i fl e s hdr hi hfl he hev hrun
    obtain⟨k,rfl⟩:∃k,fl=k+1:=⟨fl - 1,by simp at hfl;omega⟩
    have hil:i<ms.length:=by have:=congrArg List.length hdr;simp at this;omega
    have hmi:ms[i]?=some m:=by rw [← List.head?_drop,hdr];rfl
    have hdr2:ms.drop (i+1)=rest:=by rw [← List.drop_drop,hdr];rfl
    have hmm:m∈ms:=Lm hmi
    have hgm:=hms m hmm
    rw [List.flatMap_cons,List.map_append,Mz] at hrun
    rw [Lc,Di]
    simp only [List.getD_cons_zero,hget,hms0,FA hil,F8 hil,BM,cond_true,Int.toNat_natCast,AN hmi]
    rw [Vt hc hgm he (fun x=>by rw [hev];have:=hb x;omega)]
    rw [E9,BU (by simp<;> omega)]
    simp only [List.getD_cons_zero,hget,hms0,Int.toNat_natCast,AN hmi]
    rw [show((v::l).drop 1).take ((v::l).length - 1)=l by simp]
    cases hq:K3 D (((ES (l.map fun v=>t.uses.getD v.toNat default)).map (m::·)).map g) s with
    |none=>rw [hq] at hrun;cases hrun
    |some q=>
     obtain⟨r1,s1⟩:=q
     rw [hq] at hrun
     have hadd:=fun x=>QY hgm.ris he x
     obtain⟨d2,e1,e2,e3⟩:=ih n (M+8) (Nn m e) s (fun w=>g (m::w)) (by simp at hf;omega) (by simp at hl64;omega) (fun u hu=>hv u (List.mem_cons_of_mem _ hu)) (No hgm.ris he)
      (fun x=>by rw [hadd,hev];have:=hb x;have:=hgm.vl x;omega) (by omega)
      (fun w hw f hf1 hf2=>hg (m::w) (List.mem_flatMap.2 ⟨m,hmm,List.mem_map.2 ⟨w,hw,rfl⟩⟩) f hf1 fun x=>by rw [hf2,hadd,hev,Ol];omega) r1 s1 (by rw [← hq,List.map_map];rfl)
     rw [e1,Option.bind_some]
     simp only
     rw [Vu hc hgm e2 (fun x=>by rw [e3,hadd,hev];have:=hb x;have:=hgm.vl x;omega)]
     have hsub:∀x,vl (Pb m d2) x=vl d x:=fun x=>by rw [Ub hgm.ris e2,e3,hadd,hev];omega
     rw [E8]
     simp only [Option.bind_some] at hrun
     cases r1
     ·
      simp only [cond_false,Option.some.injEq,Prod.mk.injEq] at hrun
      obtain⟨rfl,rfl⟩:=hrun
      exact⟨Pb m d2,rfl,Np hgm.ris e2,hsub⟩
     ·
      simp only [cond_true] at hrun
      simp only [Bool.not_true,cond_false]
      rw [Kf (by omega)]
      exact ihr (i+1) k (Pb m d2) s1 hdr2 (by omega) (by simp at hfl;omega) (Np hgm.ris e2) hsub hrun
  have hfin:=loop ms 0 (((ms.length:Int) - 0).toNat+1) d s0 rfl (by omega) (by omega) hd (fun x=>rfl) hr
  exact hfin
theorem Vw (D:List (A8 × Bool)→σ→Option (Bool × σ)) (hu:∀ms∈t.uses,ms.length<9223372036854775807∧∀m∈ms,Nq t m) {l:List Int} (hl:l.length≤20) (hv:∀v∈l,0≤v∧v<(t.uses.length:Int)) {g:List PM→List (A8 × Bool)}
  (hg:∀w∈ES (l.map fun v=>t.uses.getD v.toNat default),∀e,He e→(∀x,vl e x=NH w x)→g w=HE (HP t) e) {s0 s':σ} {r:Bool}
  (hr:K3 D ((ES (l.map fun v=>t.uses.getD v.toNat default)).map g) s0=some (r,s')):Dx t l D s0=some s':=by
 obtain⟨fu,hfu⟩:∃n:Nat,n=1000000:=⟨_,rfl⟩
 unfold Dx
 rw [← hfu]
 obtain⟨d',h1,h2,h3⟩:=brk hc D hu l fu 0 [] s0 g (by omega) (by omega) hv List.Pairwise.nil (fun x=>by simp [vl,B0]) (by omega) (fun w hw e he hx=>hg w hw e he fun x=>by rw [hx];simp [vl,B0]) r s' hr
 have e:HE (HP t) [] =[]:=rfl
 rw [e] at h1
 show(P4 (Uc t D) fu l [] [] s0).bind _=_
 rw [h1];rfl
end
theorem HQ {α:Type} {lt:α→α→Bool} (ht:∀a b c,lt a b=true→lt b c=true→lt a c=true):∀{l:List α},Jw lt l=true→l.Pairwise fun a b=>lt a b=true
 |[],_=>List.Pairwise.nil
 |[a],_=>List.pairwise_singleton ..
 |a::b::l,h=>by
  simp only [Jw,Bool.and_eq_true] at h
  have ih:=HQ ht h.2
  refine List.pairwise_cons.2 ⟨fun x hx=>?_,ih⟩
  rcases List.mem_cons.1 hx with rfl |hx
  · exact h.1
  · exact ht _ _ _ h.1 ((List.pairwise_cons.1 ih).1 x hx)
theorem Vx (a b:AK):cb a b=true ↔ (a.airport=b.airport∧(a.index<b.index∨(a.index=b.index∧a.minute<b.minute)))∨(a.airport=false∧b.airport=true):=by
 unfold cb
 by_cases e1:a.airport=b.airport
 ·
  rw [if_pos e1]
  by_cases f1:a.index=b.index
  ·
   rw [if_pos f1];simp only [decide_eq_true_eq,e1,f1,true_and,Int.lt_irrefl,false_or]
   constructor
   · exact fun h=>.inl h
   ·
    rintro(h |h)
    · exact h
    · rw [h.1] at h;cases h.2
  ·
   rw [if_neg f1];simp only [decide_eq_true_eq,e1,f1,true_and,false_and,or_false]
   constructor
   · exact fun h=>.inl h
   ·
    rintro(h |h)
    · exact h
    · rw [h.1] at h;cases h.2
 ·
  rw [if_neg e1];simp only [e1,false_and,false_or]
  cases ha:a.airport<;> cases hb:b.airport<;> simp_all
theorem PH (a b c:AK) (h1:cb a b=true) (h2:cb b c=true):cb a c=true:=by
 rw [Vx] at*
 rcases h1 with ⟨e1,h1⟩ |⟨e1,h1⟩<;> rcases h2 with ⟨e2,h2⟩ |⟨e2,h2⟩
 · exact .inl ⟨e1.trans e2,by omega⟩
 · exact .inr ⟨e1.trans e2,h2⟩
 · exact .inr ⟨e1,e2 ▸ h1⟩
 · rw [h1] at e2;cases e2
theorem RU (a:AK):cb a a=false:=by unfold cb;simp
theorem UK {a b:AK} (h:cb a b=true):a≠b:=fun e=>by rw [e,RU] at h;cases h
def ix (cells:List AK) (c:AK):Int:=match cells.findIdx? (fun x=>decide (x=c)) with |none=>(-1:Int) |some k=>(k:Int)
theorem Lp {cells:List AK} {c:AK} (h:c∈cells):∃k:Nat,ix cells c=(k:Int)∧cells[k]?=some c:=by
 unfold ix
 cases hf:cells.findIdx? (fun x=>decide (x=c)) with
 |none=>
  rw [List.findIdx?_eq_none_iff] at hf
  have:=hf c h;simp at this
 |some k=>
  obtain⟨hk,h1,_⟩:=List.findIdx?_eq_some_iff_getElem.1 hf
  exact⟨k,rfl,by rw [List.getElem?_eq_getElem hk];simpa using h1⟩
theorem Vy {cells:List AK} {c d:AK} (hc:c∈cells) (hd:d∈cells) (h:ix cells c=ix cells d):c=d:=by
 obtain⟨k,e1,e2⟩:=Lp hc
 obtain⟨j,e3,e4⟩:=Lp hd
 have:k=j:=by omega
 subst this
 rw [e2] at e4;exact Option.some.inj e4
theorem UL {cells:List AK} (hn:cells.Nodup) {k:Nat} {c:AK} (h:cells[k]?=some c):ix cells c=(k:Int):=by
 obtain⟨j,e1,e2⟩:=Lp (Lm h)
 rw [e1]
 have h1:k<cells.length:=(List.getElem?_eq_some_iff.1 h).1
 have h2:j<cells.length:=(List.getElem?_eq_some_iff.1 e2).1
 have h3:cells[k] =c:=(List.getElem?_eq_some_iff.1 h).2
 have h4:cells[j] =c:=(List.getElem?_eq_some_iff.1 e2).2
 have hp:=List.pairwise_iff_getElem.1 hn
 rcases Nat.lt_trichotomy k j with hlt |he |hlt
 · exact absurd (h3.trans h4.symm) (hp k j h1 h2 hlt)
 · omega
 · exact absurd (h4.trans h3.symm) (hp j k h2 h1 hlt)
structure GG (p:A9):Prop where
 cells:p.cells.Nodup
 row:∀r∈p.capacity,r.length=p.cells.length∧∀k∈r,0≤k∧k≤4096
 leaf:∀v∈p.variables,∀k∈v.leaves,0≤k∧k<(p.capacity.length:Int)
 lnd:∀v∈p.variables,v.leaves.Nodup
 ch:∀v∈p.variables,1≤v.choices.length
 use:∀v∈p.variables,∀c∈v.choices,∀u∈c.uses,u.cell∈p.cells∧1≤u.places∧u.places≤8
 und:∀v∈p.variables,∀c∈v.choices,c.uses.Pairwise fun a b=>a.cell≠b.cell
 cap:1≤p.capacity.length
theorem GG.of {p:A9} (h:E5 p=true):GG p:=by
 unfold E5 at h
 simp only [Bool.and_eq_true,List.all_eq_true,Jl,I9,Hb,LA,BS,decide_eq_true_eq,Bool.not_eq_true',decide_eq_false_iff_not] at h
 obtain⟨h1,h2,h3,h4,h5,h6⟩:=h
 refine⟨?_,fun r hr=>⟨(h5 r hr).1,fun k hk=>(h5 r hr).2 k hk⟩,fun v hv k hk=>?_,fun v hv=>?_,fun v hv=>?_,fun v hv c hc u hu=>?_,fun v hv c hc=>?_,by omega⟩
 · exact(HQ PH h4.2).imp fun h=>UK h
 · have:=(h6 v hv).2.2.1.1 k hk;omega
 · exact(HQ (lt:=fun x y:Int=>decide (x<y)) (by intro a b c;simp;omega) (h6 v hv).2.2.1.2).imp fun h=>by simp at h;omega
 · have:=(h6 v hv).2.1;omega
 · have:=((h6 v hv).2.2.2 c hc).2.2.2.1 u hu;exact⟨this.1,this.2.1,this.2.2⟩
 · exact(HQ (lt:=fun x y:Bv=>cb x.cell y.cell) (fun _ _ _ h1 h2=>PH _ _ _ h1 h2) ((h6 v hv).2.2.2 c hc).2.2.2.2).imp fun h=>UK h
def K4 (p:A9) (v:AL) (c:AR):PM:=c.uses.foldl (fun m u=>v.leaves.foldl (fun m k=>DJ m ⟨k,ix p.cells u.cell⟩ u.places) m) []
def LE (p:A9):List (List PM):=p.variables.map fun v=>v.choices.map fun c=>K4 p v c
theorem Vz {p:A9} (hp:CC p) (hs:Ey p) (hk:GG p):FV p=some ⟨p,LE p⟩:=by
 unfold FV
 have vars:∀map_1:List (AK × Int),(∀c∈p.cells,(B0 map_1 c).getD 0=ix p.cells c)→
   B8 (Eu p map_1) (((p.variables.length:Int) - 0).toNat+1) 0 ([]:List (List PM))=some ⟨p,LE p⟩:=by
  intro map_1 hm
  refine(H2 (B:=Eu p map_1) (fuel:=((p.variables.length:Int) - 0).toNat+1) (s:=([]:List (List PM))) (fun i (s:List (List PM))=>s.length=i) (fun _ t s=>some (⟨p,s++t.map fun v=>v.choices.map fun c=>K4 p v c⟩:DL)) p.variables (E6 hp.2.2) ?_ ?_ (by omega) rfl).trans (by simp [LE])
  · intro sf s _;unfold Eu;simp
  ·
   intro sf i s v tv a1 a2 a3 a4 ih
   have hv:=Lm a2
   have sv:=hs.var v hv
   unfold Eu
   simp only [Int.toNat_natCast,AN a2,FA a1,F8 a1,BM,cond_true]
   refine(H3 (B:=EP p map_1 (i:Int) s sf) (fuel:=((v.choices.length:Int) - 0).toNat+1) (s:=([]:List PM)) (fun i (s:List PM)=>s.length=i) (fun _ t l=>some (⟨p,(s++[l++t.map fun c=>K4 p v c])++tv.map fun v=>v.choices.map fun c=>K4 p v c⟩:DL)) v.choices (by omega) ?_ ?_ (by omega) rfl).trans (by simp)
   ·
    intro sf2 l e
    unfold EP
    simp only [Int.toNat_natCast,AN a2,Jy,cond_false]
    rw [BU (by have:=hs.vars;simp;omega),a3,ih _ (by simp [a4])]
    simp
   ·
    intro sf2 j l c tc b1 b2 b3 b4 ih2
    have hc:=Lm b2
    have sc:=sv.2.2 c hc
    unfold EP
    simp only [Int.toNat_natCast,AN a2,AN b2,FA b1,F8 b1,BM,cond_true]
    refine(H2 (B:=EO p map_1 (i:Int) l (j:Int) sf2) (fuel:=((c.uses.length:Int) - 0).toNat+1) (s:=([]:PM)) (fun _ _=>True) (fun _ t m=>some (⟨p,(s++[(l++[t.foldl (fun m u=>v.leaves.foldl (fun m k=>DJ m ⟨k,ix p.cells u.cell⟩ u.places) m) m])++tc.map fun c=>K4 p v c])++tv.map fun v=>v.choices.map fun c=>K4 p v c⟩:DL)) c.uses (by omega) ?_ ?_ (by omega) trivial).trans (by simp [K4])
    ·
     intro sf3 m _
     unfold EO
     simp only [Int.toNat_natCast,AN a2,AN b2,Jy,cond_false]
     rw [BU (by simp;omega),b3,ih2 _ (by simp [b4])]
     simp
    ·
     intro sf3 k m u tu d1 d2 d3 _ ih3
     have hu:=hk.use v hv c hc u (Lm d2)
     unfold EO
     simp only [Int.toNat_natCast,AN a2,AN b2,AN d2,FA d1,F8 d1,BM,cond_true]
     refine(H2 (B:=EN p map_1 (i:Int) (j:Int) (k:Int) sf3) (fuel:=((v.leaves.length:Int) - 0).toNat+1) (s:=m) (fun _ _=>True) (fun _ t m=>some (⟨p,(s++[(l++[tu.foldl (fun m u=>v.leaves.foldl (fun m k=>DJ m ⟨k,ix p.cells u.cell⟩ u.places) m) (t.foldl (fun m k=>DJ m ⟨k,ix p.cells u.cell⟩ u.places) m)])++tc.map fun c=>K4 p v c])++tv.map fun v=>v.choices.map fun c=>K4 p v c⟩:DL)) v.leaves (by omega) ?_ ?_ (by omega) trivial).trans (by simp)
     ·
      intro sf4 m' _
      unfold EN
      simp only [Int.toNat_natCast,AN a2,Jy,cond_false]
      rw [d3,ih3 _ trivial];rfl
     ·
      intro sf4 q m' lf tl f1 f2 f3 _ ih4
      unfold EN
      simp only [Int.toNat_natCast,AN a2,AN b2,AN d2,AN f2,FA f1,F8 f1,BM,cond_true,hm _ hu.1]
      rw [f3,ih4 _ trivial];rfl
 refine H2 (B:=EQ p) (fuel:=((p.cells.length:Int) - 0).toNat+1) (s:=([]:List (AK × Int))) (fun i s=>∀j c,j<i→p.cells[j]?=some c→B0 s c=some (j:Int)) (fun _ _ _=>some ⟨p,LE p⟩) p.cells (E6 hp.1) ?_ ?_ (by omega) (fun j c h=>by omega)
 ·
  intro sf s hI
  unfold EQ
  rw [vars s ?_]
  · simp only [Jy,cond_false]
  ·
   intro c hc
   obtain⟨k,e1,e2⟩:=Lp hc
   rw [hI k c (List.getElem?_eq_some_iff.1 e2).1 e2,e1];rfl
 ·
  intro sf i s c t e1 e2 e3 hI ih
  unfold EQ
  simp only [Int.toNat_natCast,AN e2,FA e1,F8 e1,BM,cond_true]
  rw [e3]
  refine ih _ fun j c' hj hc'=>?_
  rw [G5]
  by_cases h:c=c'
  ·
   subst h
   rw [if_pos rfl]
   have:=UL hk.cells e2;have:=UL hk.cells hc'
   congr 1;omega
  ·
   rw [if_neg h]
   refine hI j c' ?_ hc'
   rcases Nat.lt_or_ge j i with hlt |hge
   · exact hlt
   ·
    have:j=i:=by omega
    subst this;rw [e2] at hc';exact absurd (Option.some.inj hc') h
end Go.Fx
namespace Go.Fx
open Go Go.RowKit Go.Proofs
end Go.Fx
namespace Go.Fx
open Go Go.RowKit
theorem RV {α:Type} {B:(Int→Option Bool)→Int→Option Bool} {l:List α} {R:Option Bool} (hl:l.length<9223372036854775807) (hE:∀sf,B sf (l.length:Nat)=R)
  (hS:∀sf (i:Nat) x,i<l.length→l[i]?=some x→IntKind.i64.wrap ((i:Int)+1)=(i:Int)+1→B sf (i:Int)=sf ((i:Int)+1)):
  B1 B (((l.length:Int) - 0).toNat+1) 0=R:=by
 rw [I6 (l:=l) (fun _=>true) R R hl hE (fun sf i x h1 h2 h3=>by rw [hS sf i x h1 h2 h3];rfl) (by omega)]
 cases (l.all fun _=>true)<;> rfl
theorem LF {α:Type} [Inhabited α] {S:α→Prop} {l:List α} (h:∀x∈l,S x) (hd:S default) (i:Nat):S (l.getD i default):=by
 cases hx:l[i]? with
 |none=>rw [List.getD,hx];exact hd
 |some x=>rw [AN hx];exact h x (Lm hx)
theorem Ud {p:A9} {r:AS} (hp:CC p) (hr:Ie r) (hs:Ey p) (hi:∀i∈r.variables,0≤i∧i<(p.variables.length:Int)):CC (Cy p r):=by
 have z:BR .i64 (default:Int):=by show BR .i64 0;decide
 refine⟨hp.1,?_,⟨by simp only [Cy,List.length_map];exact hr.1.1,fun v hv=>?_⟩⟩
 ·
  have main:∀(l:List A8) (rows:List (List Int)),LB p.capacity.length p.cells.length rows→(∀r∈rows,∀k∈r,BR .i64 k)→
    LB p.capacity.length p.cells.length (l.foldl (Ln p) rows)∧∀r∈l.foldl (Ln p) rows,∀k∈r,BR .i64 k:=by
   intro l
   induction l with
   |nil=>intro rows h1 h2;exact⟨h1,h2⟩
   |cons y t ih=>
    intro rows h1 h2
    refine ih _ (h1.put y) fun r hr k hk=>?_
    unfold Ln at hr
    rcases List.mem_or_eq_of_mem_set hr with h |h
    · exact h2 r h k hk
    ·
     rw [h] at hk
     rcases List.mem_or_eq_of_mem_set hk with h3 |h3
     · exact LF (S:=fun r=>∀k∈r,BR .i64 k) h2 (by intro k hk;cases hk) y.leaf.toNat k h3
     · rw [h3];exact LF (LF (S:=fun r=>∀k∈r,BR .i64 k) (fun r hr=>(hp.2.1.2 r hr).2) (by intro k hk;cases hk) _) z _
  obtain⟨h1,h2⟩:=main r.places (Kz p) (LB.blank p) (by
   intro r hr k hk
   rw [Kz] at hr;rw [List.eq_of_mem_replicate hr] at hk;rw [List.eq_of_mem_replicate hk];decide)
  have a1:=hs.caps
  have a2:=hs.cells
  exact⟨by show List.length (r.places.foldl (Ln p) (Kz p))≤_;rw [h1.1];omega,fun row hrow=>⟨by rw [h1.2 row hrow];omega,h2 row hrow⟩⟩
 ·
  simp only [Cy,List.mem_map] at hv
  obtain⟨i,h1,rfl⟩:=hv
  have:=hi i h1
  rw [AN (List.getElem?_eq_getElem (show i.toNat<p.variables.length by omega))]
  exact hp.2.2.2 _ (List.getElem_mem _)
def Tf (p:A9) (c:AR) (k:Int):Int:=(c.uses.map fun u=>if ix p.cells u.cell=k then u.places else 0).sum
def IQ (p:A9) (x:A8) (vc:AL × AR):Int:=if x.leaf∈vc.1.leaves then Tf p vc.2 x.cell else 0
def HV (p:A9) (w:List (AL × AR)) (x:A8):Int:=(w.map (IQ p x)).sum
def G1 (p:A9) (x:A8):Int:=(p.capacity.getD x.leaf.toNat default).getD x.cell.toNat default
theorem M0 (q n:Int):∀(ls:List Int) (m:PM),He m→He (ls.foldl (fun m k=>DJ m (⟨k,q⟩:A8) n) m)∧
  (∀x:A8,vl (ls.foldl (fun m k=>DJ m (⟨k,q⟩:A8) n) m) x=if x.leaf∈ls∧x.cell=q then n else vl m x)∧
  ∀e∈ls.foldl (fun m k=>DJ m (⟨k,q⟩:A8) n) m,e∈m∨(e.1.leaf∈ls∧e.1.cell=q∧e.2=n)
 |[],m,h=>⟨h,fun x=>by simp,fun e he=>.inl he⟩
 |k::ls,m,h=>by
  obtain⟨h1,h2,h3⟩:=M0 q n ls (DJ m ⟨k,q⟩ n) (Hu h _ _)
  refine⟨h1,fun x=>?_,fun e he=>?_⟩
  ·
   rw [List.foldl_cons,h2 x,Vq]
   by_cases hq:x.cell=q
   ·
    by_cases hl:x.leaf∈ls
    · simp [hq,hl]
    ·
     by_cases hk:x.leaf=k
     ·
      have:(⟨k,q⟩:A8)=x:=by cases x;simp_all
      simp [hq,hl,hk,this]
     ·
      have:(⟨k,q⟩:A8)≠x:=fun e=>hk (by rw [← e])
      simp [hq,hl,hk,this]
   ·
    have:(⟨k,q⟩:A8)≠x:=fun e=>hq (by rw [← e])
    simp [hq,this]
  ·
   rw [List.foldl_cons] at he
   rcases h3 e he with h4 |⟨h4,h5,h6⟩
   ·
    rcases (L0 h _ _ e).1 h4 with h5 |h5
    · right;subst h5;simp
    · exact .inl h5.1
   · exact .inr ⟨List.mem_cons_of_mem _ h4,h5,h6⟩
theorem Om (p:A9) (ls:List Int):∀(us:List Bv) (m:PM),He m→(∀u∈us,u.cell∈p.cells)→(us.Pairwise fun a b=>a.cell≠b.cell)→(∀u∈us,∀k,vl m ⟨k,ix p.cells u.cell⟩=0)→
  He (us.foldl (fun m u=>ls.foldl (fun m k=>DJ m ⟨k,ix p.cells u.cell⟩ u.places) m) m)∧
  (∀x:A8,vl (us.foldl (fun m u=>ls.foldl (fun m k=>DJ m ⟨k,ix p.cells u.cell⟩ u.places) m) m) x=vl m x+if x.leaf∈ls then (us.map fun u=>if ix p.cells u.cell=x.cell then u.places else 0).sum else 0)∧
  ∀e∈us.foldl (fun m u=>ls.foldl (fun m k=>DJ m ⟨k,ix p.cells u.cell⟩ u.places) m) m,e∈m∨∃u∈us,e.1.leaf∈ls∧e.1.cell=ix p.cells u.cell∧e.2=u.places
 |[],m,h,_,_,_=>⟨h,fun x=>by simp,fun e he=>.inl he⟩
 |u::us,m,h,hc,hp,hz=>by
  obtain⟨g1,g2,g3⟩:=M0 (ix p.cells u.cell) u.places ls m h
  rw [List.pairwise_cons] at hp
  have hz':∀u'∈us,∀k,vl (ls.foldl (fun m k=>DJ m ⟨k,ix p.cells u.cell⟩ u.places) m) ⟨k,ix p.cells u'.cell⟩=0:=by
   intro u' hu' k
   rw [g2]
   have:ix p.cells u'.cell≠ix p.cells u.cell:=fun e=>hp.1 u' hu' (Vy (hc u' (List.mem_cons_of_mem _ hu')) (hc u (List.mem_cons_self ..)) e).symm
   simp only [this,and_false,if_false]
   exact hz u' (List.mem_cons_of_mem _ hu') k
  obtain⟨h1,h2,h3⟩:=Om p ls us _ g1 (fun u hu=>hc u (List.mem_cons_of_mem _ hu)) hp.2 hz'
  refine⟨h1,fun x=>?_,fun e he=>?_⟩
  ·
   rw [List.foldl_cons,h2 x,g2 x,List.map_cons,List.sum_cons]
   by_cases hl:x.leaf∈ls
   ·
    by_cases hq:x.cell=ix p.cells u.cell
    ·
     have:vl m x=0:=by have:=hz u (List.mem_cons_self ..) x.leaf;rw [← hq] at this;exact this
     simp only [hl,hq,and_self,if_true,this];omega
    ·
     have: ¬(ix p.cells u.cell=x.cell):=fun e=>hq e.symm
     simp only [hl,hq,and_false,if_false,this,if_true];omega
   · simp only [hl,false_and,if_false]
  ·
   rw [List.foldl_cons] at he
   rcases h3 e he with h4 |⟨u',h4,h5⟩
   ·
    rcases g3 e h4 with h5 |h5
    · exact .inl h5
    · exact .inr ⟨u,List.mem_cons_self ..,h5⟩
   · exact .inr ⟨u',List.mem_cons_of_mem _ h4,h5⟩
theorem Ue {p:A9} (hk:GG p) {k:Int} (h0:0≤k) (h1:k<(p.capacity.length:Int)):(p.capacity.getD k.toNat default).length=p.cells.length:=by
 rw [AN (List.getElem?_eq_getElem (show k.toNat<p.capacity.length by omega))]
 exact(hk.row _ (List.getElem_mem _)).1
theorem Nr {p:A9} (hk:GG p) {v:AL} (hv:v∈p.variables) {c:AR} (hc:c∈v.choices) (U:List (List PM)):Nq ⟨p,U⟩ (K4 p v c)∧∀x,vl (K4 p v c) x=IQ p x (v,c):=by
 obtain⟨h1,h2,h3⟩:=Om p v.leaves c.uses [] List.Pairwise.nil (fun u hu=>(hk.use v hv c hc u hu).1) (hk.und v hv c hc) (fun u hu k=>rfl)
 refine⟨⟨h1,fun q hq=>?_,fun q hq=>?_⟩,fun x=>?_⟩
 ·
  obtain h |⟨u,hu,e1,e2,e3⟩:=h3 q hq
  · cases h
  ·
   have hl:=hk.leaf v hv _ e1
   refine⟨hl,?_⟩
   show(0:Int)≤q.1.cell∧q.1.cell<((p.capacity.getD q.1.leaf.toNat default).length:Int)
   rw [Ue hk hl.1 hl.2,e2]
   obtain⟨k,f1,f2⟩:=Lp (hk.use v hv c hc u hu).1
   have:=(List.getElem?_eq_some_iff.1 f2).1
   omega
 ·
  obtain h |⟨u,hu,e1,e2,e3⟩:=h3 q hq
  · cases h
  · have:=(hk.use v hv c hc u hu).2;omega
 ·
  rw [show vl (K4 p v c) x=_ from h2 x]
  simp [vl,B0,IQ,Tf]
theorem PI {α β:Type} (f:α→β):∀L:List (List α),ES (L.map (List.map f))=(ES L).map (List.map f)
 |[] =>rfl
 |l::L=>by
  simp only [List.map_cons,ES,PI f L,List.flatMap_map,List.map_flatMap,List.map_map]
  rfl
theorem PJ {α:Type} :∀{L:List (List α)} {w:List α},w∈ES L→∀a∈w,∃l∈L,a∈l
 |[],w,h,a,ha=>by simp [ES] at h;subst h;cases ha
 |l::L,w,h,a,ha=>by
  simp only [ES,List.mem_flatMap,List.mem_map] at h
  obtain⟨m,hm,w',hw',rfl⟩:=h
  rcases List.mem_cons.1 ha with rfl |ha
  · exact⟨l,List.mem_cons_self ..,hm⟩
  ·
   obtain⟨l',h1,h2⟩:=PJ hw' a ha
   exact⟨l',List.mem_cons_of_mem _ h1,h2⟩
def BT (p:A9) (l:List Int):List (List (AL × AR)):=l.map fun i=>(p.variables.getD i.toNat default).choices.map fun c=>(p.variables.getD i.toNat default,c)
theorem IF {p:A9} {l:List Int} (hl:∀i∈l,0≤i∧i<(p.variables.length:Int)) {w:List (AL × AR)} (hw:w∈ES (BT p l)):∀vc∈w,vc.1∈p.variables∧vc.2∈vc.1.choices:=by
 intro vc hvc
 obtain⟨q,h1,h2⟩:=PJ hw vc hvc
 obtain⟨i,hi,rfl⟩:=List.mem_map.1 h1
 obtain⟨c,hc,rfl⟩:=List.mem_map.1 h2
 have:=hl i hi
 refine⟨?_,hc⟩
 show p.variables.getD i.toNat default∈p.variables
 rw [AN (List.getElem?_eq_getElem (show i.toNat<p.variables.length by omega))]
 exact List.getElem_mem _
theorem Tg {p:A9} {l:List Int} (hl:∀i∈l,0≤i∧i<(p.variables.length:Int)):(l.map fun v=>(LE p).getD v.toNat default)=(BT p l).map (List.map fun vc=>K4 p vc.1 vc.2):=by
 unfold BT
 rw [List.map_map]
 refine List.map_congr_left fun i hi=>?_
 have hlt:i.toNat<p.variables.length:=by have:=hl i hi;omega
 simp only [Function.comp,List.map_map]
 rw [AN (List.getElem?_eq_getElem hlt),LE,AN (l:=p.variables.map _) (x:=p.variables[i.toNat].choices.map fun c=>K4 p p.variables[i.toNat] c) (by rw [List.getElem?_map,List.getElem?_eq_getElem hlt];rfl)]
 rfl
theorem IR {p:A9} (hk:GG p) (x:A8):0≤G1 p x:=by
 unfold G1
 have:∀k∈p.capacity.getD x.leaf.toNat default,0≤k:=LF (S:=fun r:List Int=>∀k∈r,0≤k) (fun r hr k hkk=>((hk.row r hr).2 k hkk).1) (by intro k h;cases h) _
 exact LF (S:=fun k:Int=>0≤k) this (by show(0:Int)≤0;omega) _
theorem On {σ:Type} [DecidableEq σ] {p:A9} (hk:GG p) (hs:Ey p) {l:List Int} (hl:l.length≤20) (hi:∀i∈l,0≤i∧i<(p.variables.length:Int)) (D:List (A8 × Bool)→σ→Option (Bool × σ))
  {G:List (AL × AR)→List (A8 × Bool)} (hG:∀w∈ES (BT p l),∀e,He e→(∀x,vl e x=HV p w x)→G w=HE (G1 p) e) {s0 s':σ} {r:Bool}
  (hr:K3 D ((ES (BT p l)).map G) s0=some (r,s')):Dx ⟨p,LE p⟩ l D s0=some s':=by
 have hadd:∀w:List PM,(∀m∈w,He m)→∀d,He d→He (w.foldl (fun d m=>Nn m d) d)∧∀x,vl (w.foldl (fun d m=>Nn m d) d) x=vl d x+NH w x:=by
  intro w
  induction w with
  |nil=>intro _ d hd;exact⟨hd,fun x=>by simp [NH]⟩
  |cons m w ih=>
   intro hm d hd
   obtain⟨h1,h2⟩:=ih (fun m h=>hm m (List.mem_cons_of_mem _ h)) (Nn m d) (No (hm m (List.mem_cons_self ..)) hd)
   exact⟨h1,fun x=>by rw [List.foldl_cons,h2,QY (hm m (List.mem_cons_self ..)) hd,Ol];omega⟩
 have hsum:∀w∈ES (BT p l),∀x,NH (w.map fun vc=>K4 p vc.1 vc.2) x=HV p w x:=by
  intro w hw x
  unfold NH HV
  rw [List.map_map]
  congr 1
  refine List.map_congr_left fun vc hvc=>?_
  obtain⟨h1,h2⟩:=IF hi hw vc hvc
  exact(Nr hk h1 h2 (LE p)).2 x
 have hris:∀w∈ES (BT p l),∀m∈w.map (fun vc=>K4 p vc.1 vc.2),He m:=by
  intro w hw m hm
  obtain⟨vc,hvc,rfl⟩:=List.mem_map.1 hm
  obtain⟨h1,h2⟩:=IF hi hw vc hvc
  exact(Nr hk h1 h2 (LE p)).1.ris
 have hw:ES (l.map fun v=>(LE p).getD v.toNat default)=(ES (BT p l)).map (List.map fun vc=>K4 p vc.1 vc.2):=by rw [Tg hi,PI]
 refine Vw (t:=⟨p,LE p⟩) (IR hk) D ?_ hl ?_ (g:=fun w=>HE (G1 p) (w.foldl (fun d m=>Nn m d) [])) ?_ (r:=r) ?_
 ·
  intro ms hms
  obtain⟨v,hv,rfl⟩:=List.mem_map.1 hms
  refine⟨by rw [List.length_map];have:=(hs.var v hv).2.1;omega,fun m hm=>?_⟩
  obtain⟨c,hc,rfl⟩:=List.mem_map.1 hm
  exact(Nr hk hv hc _).1
 · intro v hv;have:=hi v hv;simpa [LE] using this
 ·
  intro w hww e he hx
  rw [hw] at hww
  obtain⟨w',hw',rfl⟩:=List.mem_map.1 hww
  obtain⟨h1,h2⟩:=hadd _ (hris w' hw') [] List.Pairwise.nil
  exact Te _ (IR hk) h1 he fun x=>by rw [h2,hx];simp [vl,B0]
 ·
  rw [hw,List.map_map,← hr]
  congr 1
  refine List.map_congr_left fun w' hw'=>?_
  obtain⟨h1,h2⟩:=hadd _ (hris w' hw') [] List.Pairwise.nil
  exact(hG w' hw' _ h1 fun x=>by rw [h2,hsum w' hw'];simp [vl,B0]).symm
theorem Uf (s:List A8) (hl:s.length<9223372036854775807) (f:A8→Option Bool) (h:A8→Bool) (hf:∀x∈s,f x=some (h x)):G7 s f=some (s.any h):=by
 unfold G7 HM
 have key:∃i:Int,B1 (F3 s f) (((s.length:Int) - 0).toNat+1) 0=some i∧decide (0≤i)=s.any h:=by
  rw [L9 (B:=F3 s f) (fun i t=>some (match t.findIdx? h with |none=>(-1:Int) |some k=>((i+k:Nat):Int))) s hl ?_ ?_ (by omega)]
  ·
   refine⟨_,rfl,?_⟩
   cases hc:s.findIdx? h with
   |none=>
    rw [List.findIdx?_eq_none_iff] at hc
    have:s.any h=false:=by rw [List.any_eq_false];intro x hx;simpa using hc x hx
    simp [this]
   |some k=>
    have:s.any h=true:=by
     rw [List.any_eq_true]
     obtain⟨hk,h1,_⟩:=List.findIdx?_eq_some_iff_getElem.1 hc
     exact⟨s[k],List.getElem_mem hk,by simpa using h1⟩
    simp [this]
  · intro sf;unfold F3;simp
  ·
   intro sf i x t h1 h2 h3 ih
   unfold F3
   simp only [FA h1,F8 h1,BM,Int.toNat_natCast,AN h2,hf x (Lm h2),Option.bind_some,h3,cond_true,List.findIdx?_cons]
   cases hw:h x
   ·
    simp only [cond_false,Bool.false_eq_true,if_false]
    rw [ih]
    cases t.findIdx? h with
    |none=>rfl
    |some k=>simp;omega
   · simp
 obtain⟨i,h1,h2⟩:=key
 rw [h1,Option.bind_some,h2]
def D4 (p:A9) (r:AS):Bool:=(ES (BT p r.variables)).all fun w=>r.places.any fun x=>decide (G1 p x<HV p w x)
def nr:List Int→List Int→Option (List Int)
 |n::ns,a::t=>if a+1<n then some ((a+1)::t) else (nr ns t).map (0::·)
 |_,_=>none
def IZ (n:Int):List Int:=(List.range n.toNat).map fun k:Nat=>(k:Int)
def LG:List Int→List (List Int)
 |[] =>[[]]
 |n::ns=>(LG ns).flatMap fun t=>(IZ n).map (·::t)
def Pc {α:Type} (f:α→Option α):List α→Prop
 |[] =>True
 |[a] =>f a=none
 |a::b::t=>f a=some b∧Pc f (b::t)
theorem M1 {α:Type} {f:α→Option α} :∀{l:List α} {b:α} {m:List α},(∀(h:l≠[]),f (l.getLast h)=some b)→(l≠[]→∀l1 x y l2,l=l1++x::y::l2→f x=some y)→Pc f (b::m)→Pc f (l++b::m)
 |[],b,m,_,_,h=>h
 |[a],b,m,h1,_,h=>⟨h1 (by simp),h⟩
 |a::c::t,b,m,h1,h2,h=>⟨h2 (by simp) [] a c t rfl,M1 (l:=c::t) (fun hn=>by have:=h1 (by simp);simpa using this) (fun _ l1 x y l2 e=>h2 (by simp) (a::l1) x y l2 (by rw [e];rfl)) h⟩
theorem Oo {α:Type} {f:α→Option α} :∀{l:List α},(∀(h:l≠[]),f (l.getLast h)=none)→(∀l1 x y l2,l=l1++x::y::l2→f x=some y)→Pc f l
 |[],_,_=>trivial
 |[a],h,_=>h (by simp)
 |a::c::t,h1,h2=>⟨h2 [] a c t rfl,Oo (l:=c::t) (fun hn=>by have:=h1 (by simp);simpa using this) (fun l1 x y l2 e=>h2 (a::l1) x y l2 (by rw [e];rfl))⟩
theorem Ug {n:Int} (h:1≤n):IZ n≠[]:=by
 unfold IZ;intro e;have:=congrArg List.length e;simp at this;omega
theorem PK {n a:Int} :a∈IZ n ↔ 0≤a∧a<n:=by
 unfold IZ
 simp only [List.mem_map,List.mem_range]
 constructor
 · rintro⟨k,hk,rfl⟩;omega
 · rintro⟨h1,h2⟩;exact⟨a.toNat,by omega,by omega⟩
theorem RW {n:Int} (h:1≤n):(IZ n).getLast (Ug h)=n - 1:=by
 rw [List.getLast_eq_getElem]
 simp only [IZ,List.getElem_map,List.getElem_range,List.length_map,List.length_range]
 omega
theorem RX {n:Int} {l1 l2:List Int} {x y:Int} (h:IZ n=l1++x::y::l2):y=x+1∧y<n:=by
 have hx:(IZ n)[l1.length]?=some x:=by rw [h];simp
 have hy:(IZ n)[l1.length+1]?=some y:=by rw [h];simp [List.getElem?_append]
 unfold IZ at hx hy
 rw [List.getElem?_map] at hx hy
 have hlen:l1.length+1<n.toNat:=by
  rcases Nat.lt_or_ge (l1.length+1) n.toNat with h |h
  · exact h
  · rw [List.getElem?_eq_none (by simpa using h)] at hy;cases hy
 rw [List.getElem?_range (by omega)] at hx hy
 simp at hx hy
 omega
theorem Oq {n:Int} (h:1≤n):∃t,IZ n=0::t:=by
 unfold IZ
 obtain⟨k,hk⟩:∃k,n.toNat=k+1:=⟨n.toNat - 1,by omega⟩
 rw [hk,List.range_succ_eq_map];exact⟨_,rfl⟩
theorem Mf:∀{ns:List Int},(∀n∈ns,1≤n)→Pc (nr ns) (LG ns)∧∃t,LG ns=(ns.map fun _=>(0:Int))::t
 |[],_=>⟨rfl,[],rfl⟩
 |n::ns,h=>by
  obtain⟨h1,t,h2⟩:=Mf (ns:=ns) fun m hm=>h m (List.mem_cons_of_mem _ hm)
  have hn:=h n (List.mem_cons_self ..)
  refine⟨?_,?_⟩
  ·
   have main:∀L:List (List Int),Pc (nr ns) L→Pc (nr (n::ns)) (L.flatMap fun t=>(IZ n).map (·::t)):=by
    intro L
    induction L with
    |nil=>intro _;trivial
    |cons a L ih=>
     intro hL
     have inner:∀l1 x y l2,(IZ n).map (·::a)=l1++x::y::l2→nr (n::ns) x=some y:=by
      intro l1 x y l2 e
      obtain⟨m1,m2,e1,rfl,e2⟩:=List.map_eq_append_iff.1 e
      obtain⟨u,m3,rfl,rfl,e3⟩:=List.map_eq_cons_iff.1 e2
      obtain⟨v,m4,rfl,rfl,rfl⟩:=List.map_eq_cons_iff.1 e3
      have:=RX e1
      simp only [nr]
      rw [if_pos (by omega),this.1]
     have last:∀hne:(IZ n).map (·::a)≠[],nr (n::ns) (((IZ n).map (·::a)).getLast hne)=(nr ns a).map (0::·):=by
      intro hne
      rw [List.getLast_map,RW hn]
      simp only [nr]
      rw [if_neg (by omega)]
     cases L with
     |nil=>
      rw [List.flatMap_cons,List.flatMap_nil,List.append_nil]
      refine Oo (fun hne=>?_) inner
      rw [last hne,show nr ns a=none from hL];rfl
     |cons b L=>
      have ih':=ih hL.2
      obtain⟨z,hz⟩:=Oq hn
      have e2:((b::L).flatMap fun t=>(IZ n).map (·::t))=(0::b)::(z.map (·::b)++L.flatMap fun t=>(IZ n).map (·::t)):=by
       rw [List.flatMap_cons,hz];rfl
      rw [List.flatMap_cons,e2]
      rw [e2] at ih'
      refine M1 (fun hne=>?_) (fun _=>inner) ih'
      rw [last hne,hL.1];rfl
   exact main _ h1
  ·
   obtain⟨z,hz⟩:=Oq hn
   rw [LG,h2,List.flatMap_cons,hz]
   exact⟨_,rfl⟩
def Kl:List Int→List Int→Prop
 |[],[] =>True
 |a::c,n::ns=>(0≤a∧a<n)∧Kl c ns
 |_,_=>False
theorem Ix:∀{ns c:List Int},c∈LG ns ↔ Kl c ns
 |[],[] =>by simp [LG,Kl]
 |[],a::c=>by simp [LG,Kl]
 |n::ns,[] =>by simp [LG,Kl]
 |n::ns,a::c=>by
  simp only [LG,List.mem_flatMap,List.mem_map,Kl]
  constructor
  ·
   rintro⟨t,ht,b,hb,e⟩
   obtain⟨rfl,rfl⟩:=List.cons.inj e
   exact⟨PK.1 hb,Ix.1 ht⟩
  ·
   rintro⟨h1,h2⟩
   exact⟨c,Ix.2 h2,a,PK.2 h1,rfl⟩
theorem Kl.length:∀{c ns:List Int},Kl c ns→c.length=ns.length
 |[],[],_=>rfl
 |a::c,n::ns,h=>by simp [Kl.length h.2]
 |[],n::ns,h=>h.elim
 |a::c,[],h=>h.elim
def HR (p:A9) (i:Int):AL:=p.variables.getD i.toNat default
theorem LH {p:A9} :∀{l:List Int} {w:List (AL × AR)},l.Nodup→(w∈ES (BT p l) ↔ ∃f:Int→AR,(∀i∈l,f i∈(HR p i).choices)∧w=l.map fun i=>(HR p i,f i))
 |[],w,_=>by
  simp only [BT,List.map_nil,ES,List.mem_singleton]
  constructor
  · rintro rfl;exact⟨fun _=>default,by simp,rfl⟩
  · rintro⟨f,_,rfl⟩;rfl
 |i::l,w,h=>by
  have hn:=List.nodup_cons.1 h
  simp only [BT,List.map_cons,ES,List.mem_flatMap,List.mem_map]
  constructor
  ·
   rintro⟨_,⟨c,hc,rfl⟩,t,ht,rfl⟩
   obtain⟨f,h1,rfl⟩:=(LH hn.2).1 (show t∈ES (BT p l) from ht)
   refine⟨fun j=>if j=i then c else f j,fun j hj=>?_,?_⟩
   ·
    rcases List.mem_cons.1 hj with rfl |hj
    · show(if j=j then c else f j)∈_;rw [if_pos rfl];exact hc
    ·
     have:j≠i:=fun e=>hn.1 (e ▸ hj)
     simpa [this] using h1 j hj
   ·
    simp only [List.map_cons,if_true]
    congr 1
    refine List.map_congr_left fun j hj=>?_
    have:j≠i:=fun e=>hn.1 (e ▸ hj)
    simp [this]
  ·
   rintro⟨f,h1,e⟩
   refine⟨(HR p i,f i),⟨f i,h1 i (List.mem_cons_self ..),rfl⟩,l.map fun j=>(HR p j,f j),(LH hn.2).2 ⟨f,fun j hj=>h1 j (List.mem_cons_of_mem _ hj),rfl⟩,by rw [e]⟩
def PL (p:A9) (f:Int→AR) (l:List Int) (x:A8):Int:=(l.map fun i=>IQ p x (HR p i,f i)).sum
theorem PN (p:A9) (f:Int→AR) (l:List Int) (x:A8):HV p (l.map fun i=>(HR p i,f i)) x=PL p f l x:=by
 unfold HV PL;rw [List.map_map];rfl
theorem Th {p:A9} {f:Int→AR} {x:A8} :∀{l m:List Int},l.Sublist m→(∀i∈m,0≤IQ p x (HR p i,f i))→PL p f l x≤PL p f m x:=by
 intro l m h
 induction h with
 |slnil=>intro _;exact Int.le_refl _
 |cons a h ih=>
  intro hm
  have:=ih fun i hi=>hm i (List.mem_cons_of_mem _ hi)
  have:=hm a (List.mem_cons_self ..)
  simp only [PL,List.map_cons,List.sum_cons] at*;omega
 |cons_cons a h ih=>
  intro hm
  have:=ih fun i hi=>hm i (List.mem_cons_of_mem _ hi)
  simp only [PL,List.map_cons,List.sum_cons] at*;omega
section
variable {α β : Type}
def CU:Nat→List α→List (List α)
 |0,_=>[[]]
 |_+1,[] =>[]
 |k+1,a::l=>(CU k l).map (a::·)++CU (k+1) l
theorem HA (l:List α):CU 0 l=[[]]:=by cases l<;> rfl
theorem F9:∀{k:Nat} {l t:List α},t∈CU k l ↔ t.Sublist l∧t.length=k
 |0,l,t=>by
  rw [HA,List.mem_singleton]
  constructor
  · rintro rfl;exact⟨List.nil_sublist _,rfl⟩
  · rintro⟨_,h⟩;exact List.length_eq_zero_iff.1 h
 |k+1,[],t=>by
  simp only [CU,List.not_mem_nil,List.sublist_nil,false_iff]
  rintro⟨rfl,h⟩;cases h
 |k+1,a::l,t=>by
  simp only [CU,List.mem_append,List.mem_map]
  constructor
  ·
   rintro(⟨u,hu,rfl⟩ |h)
   ·
    obtain⟨h1,h2⟩:=F9.1 hu
    exact⟨h1.cons_cons _,by simp [h2]⟩
   ·
    obtain⟨h1,h2⟩:=F9.1 h
    exact⟨h1.cons _,h2⟩
  ·
   rintro⟨h1,h2⟩
   cases h1 with
   |cons _ h=>exact .inr (F9.2 ⟨h,h2⟩)
   |cons_cons _ h=>exact .inl ⟨_,F9.2 ⟨h,by simpa using h2⟩,rfl⟩
theorem JW (q:α→Bool):∀(k:Nat) (l:List α),CU k (l.filter q)=(CU k l).filter fun t=>t.all q
 |0,l=>by rw [HA,HA];rfl
 |k+1,[] =>rfl
 |k+1,a::l=>by
  have h1:=JW q k l
  have h2:=JW q (k+1) l
  have e:(CU (k+1) (a::l)).filter (fun t=>t.all q)=((CU k l).filter fun t=>q a&&t.all q).map (a::·)++(CU (k+1) l).filter fun t=>t.all q:=by
   rw [CU,List.filter_append,List.filter_map]
   rfl
  rw [e,← h2]
  cases hq:q a
  ·
   rw [List.filter_cons_of_neg (by simp [hq])]
   simp
  ·
   rw [List.filter_cons_of_pos hq,CU,h1]
   simp
theorem KJ (f:α→β):∀(k:Nat) (l:List α),CU k (l.map f)=(CU k l).map (List.map f)
 |0,l=>by simp [HA]
 |k+1,[] =>rfl
 |k+1,a::l=>by
  rw [List.map_cons,CU,CU,KJ f k l,KJ f (k+1) l,List.map_append,List.map_map,List.map_map]
  rfl
theorem Jm:∀{k:Nat} {l:List α},l.length<k→CU k l=[]
 |0,l,h=>by omega
 |k+1,[],_=>rfl
 |k+1,a::l,h=>by
  simp only [List.length_cons] at h
  rw [CU,Jm (by omega),Jm (by omega)];rfl
end
def GN (a:Int):Nat→List Int
 |0=>[]
 |n+1=>a::GN (a+1) n
theorem Hj:∀(a:Int) (n:Nat),(GN a n).length=n
 |_,0=>rfl
 |a,n+1=>by rw [GN,List.length_cons,Hj]
theorem JX:∀{a x:Int} {n:Nat},x∈GN a n ↔ a≤x∧x<a+n
 |a,x,0=>by simp only [GN,List.not_mem_nil,false_iff];omega
 |a,x,n+1=>by rw [GN,List.mem_cons,JX];omega
theorem Ns:∀(a:Int) (n:Nat),(GN a n).Pairwise fun x y=>x<y
 |_,0=>List.Pairwise.nil
 |a,n+1=>List.pairwise_cons.2 ⟨fun x hx=>by have:=JX.1 hx;omega,Ns _ n⟩
theorem Ot (b:Int):∀(a:Int) (n:Nat),GN (b+a) n=(GN a n).map fun x=>b+x
 |_,0=>rfl
 |a,n+1=>by
  have:=Ot b (a+1) n
  rw [GN,GN,List.map_cons,← this,show b+a+1=b+(a+1) by omega]
theorem RY (k:Nat) (b:Int) (n:Nat):CU k (GN b n)=(CU k (GN 0 n)).map fun t=>t.map fun x=>b+x:=by
 have:=Ot b 0 n
 rw [Int.add_zero] at this
 rw [this,KJ]
theorem Ii {α:Type} :∀(k:Nat) (l:List α),(CU k l).length≤2 ^ l.length
 |0,l=>by rw [HA];exact Nat.one_le_two_pow
 |k+1,[] =>by simp [CU]
 |k+1,a::l=>by
  have h1:=Ii k l
  have h2:=Ii (k+1) l
  rw [CU,List.length_append,List.length_map,List.length_cons,Nat.pow_succ];omega
theorem LI {k n:Nat} {b:Int} {t:List Int} (h:t∈CU k (GN b n)):t.length=k∧∀x∈t,b≤x∧x<b+n:=by
 obtain⟨h1,h2⟩:=F9.1 h
 exact⟨h2,fun x hx=>JX.1 (h1.subset hx)⟩
theorem V3 {first:Int} {r:List (List Int)} {l:List (List Int)} {i:Nat} {t:List Int} (hi:r[i]?=some t) (hf:0≤first∧first≤1000) (ht:∀x∈t,0≤x∧x≤1000) (htl:t.length≤1000) (hl:l.length≤100000) (sf:List (List Int)→Int→Option (List (List Int))) (hw:IntKind.i64.wrap ((i:Int)+1)=(i:Int)+1):
  B8 (C1 first r l (i:Int) sf) (((t.length:Int) - 0).toNat+1) [first] 0=sf (l++[first::t.map fun x=>first+1+x]) ((i:Int)+1):=by
 have hlt:i<r.length:=(List.getElem?_eq_some_iff.1 hi).1
 refine(H3 (B:=C1 first r l (i:Int) sf) (s:=[first]) (fuel:=((t.length:Int) - 0).toNat+1) (fun j (s:List Int)=>s.length=j+1) (fun _ t' s=>sf (l++[s++t'.map fun x=>first+1+x]) ((i:Int)+1)) t (by omega) ?_ ?_ (by omega) rfl).trans (by simp)
 ·
  intro sf' s hI
  rw [C1]
  simp only [Int.toNat_natCast,AN hi,F8 hlt,BM,Jy,cond_false]
  rw [BU (by simp;omega),hw];simp
 ·
  intro sf' j s x t' a1 a2 a3 hI ih
  rw [C1]
  simp only [Int.toNat_natCast,AN hi,AN a2,F8 hlt,F8 a1,FA a1,BM,cond_true,a3]
  have hx:=ht x (Lm a2)
  rw [show IntKind.wrap .i64 (first+1)=first+1 from Et (by omega) (by omega),show IntKind.wrap .i64 (first+1+x)=first+1+x from Et (by omega) (by omega)]
  rw [BU (by simp;omega),ih _ (by simp [hI])];simp
theorem Xo:∀(fuel k n:Nat),k<fuel→k≤1000→n≤12→BJ fuel (n:Int) (k:Int)=some (CU k (GN 0 n)):=by
 intro fuel
 induction fuel with
 |zero=>intro k n h;omega
 |succ fuel ih=>
  intro k n hf hk1 hn
  show DQ (BJ fuel) (n:Int) (k:Int)=_
  unfold DQ
  cases k with
  |zero=>simp [HA]
  |succ k=>
   have c0:decide (((k+1:Nat):Int)=0)=false:=by simp<;> omega
   rw [c0,cond_false]
   obtain⟨fu,hfu⟩:∃fu:Nat,fu=1000000:=⟨_,rfl⟩
   rw [← hfu]
   have key:∀(d first:Nat) (acc:List (List Int)) (fl:Nat),n - first=d→first≤n→acc.length+2 ^ d≤10000→d<fl→
     B8 (Da (BJ fuel) (n:Int) ((k+1:Nat):Int)) fl acc (first:Int)=some (acc++CU (k+1) (GN (first:Int) d)):=by
    intro d
    induction d with
    |zero=>
     intro first acc fl h1 h2 h3 h4
     obtain⟨m,rfl⟩:∃m,fl=m+1:=⟨fl - 1,by omega⟩
     rw [DU,Da,show IntKind.wrap .i64 ((first:Int)+((k+1:Nat):Int))=(first:Int)+((k+1:Nat):Int) from Et (by omega) (by omega),decide_eq_false (by omega),cond_false]
     simp [GN,CU]
    |succ d ihd=>
     intro first acc fl h1 h2 h3 h4
     obtain⟨m,rfl⟩:∃m,fl=m+1:=⟨fl - 1,by omega⟩
     rw [DU,Da,show IntKind.wrap .i64 ((first:Int)+((k+1:Nat):Int))=(first:Int)+((k+1:Nat):Int) from Et (by omega) (by omega)]
     by_cases hk:first+(k+1)≤n
     ·
      rw [decide_eq_true (by omega),cond_true]
      rw [show IntKind.wrap .i64 ((n:Int) - (first:Int))=(n:Int) - (first:Int) from Et (by omega) (by omega),show IntKind.wrap .i64 ((n:Int) - (first:Int) - 1)=(d:Int) from(Et (by omega) (by omega)).trans (by omega)]
      rw [show IntKind.wrap .i64 (((k+1:Nat):Int) - 1)=(k:Int) from(Et (by omega) (by omega)).trans (by omega)]
      rw [ih k d (by omega) (by omega) (by omega),Option.bind_some]
      have hcl:=Ii k (GN 0 d)
      rw [Hj] at hcl
      have hp:2 ^ (d+1)=2 ^ d+2 ^ d:=by rw [Nat.pow_succ];omega
      refine(H3 (B:=CZ (first:Int) _ (CU k (GN 0 d))) (s:=acc) (fuel:=(((CU k (GN 0 d)).length:Int) - 0).toNat+1) (fun j (s:List (List Int))=>s.length=acc.length+j) (fun _ t' s=>some (s++(t'.map fun t=>(first:Int)::t.map fun x=>(first:Int)+1+x)++CU (k+1) (GN ((first:Int)+1) d))) (CU k (GN 0 d)) (by omega) ?_ ?_ (by omega) rfl).trans ?_
      ·
       intro sf' s hI
       rw [CZ,Jy,cond_false,Kf (by omega)]
       have:=ihd (first+1) s m (by omega) (by omega) (by omega) (by omega)
       rw [show((first+1:Nat):Int)=(first:Int)+1 by omega] at this
       rw [this];simp
      ·
       intro sf' j s t t' a1 a2 a3 hI ih2
       rw [CZ,FA a1,cond_true]
       obtain⟨q1,q2⟩:=LI (Lm a2)
       have hkd:k≤d:=by omega
       rw [Int.toNat_natCast,AN a2,V3 a2 (by omega) (fun x hx=>by have:=q2 x hx;omega) (by omega) (by omega) sf' a3,ih2 _ (by simp [hI];omega)]
       simp
      ·
       rw [GN,CU,RY k ((first:Int)+1),List.map_map]
       simp [Function.comp_def]
     · rw [decide_eq_false (by omega),cond_false,Jm (by rw [Hj];omega),List.append_nil]
   have h12:2 ^ n≤2 ^ 12:=Nat.pow_le_pow_right (by omega) hn
   have:=key n 0 [] fu rfl (by omega) (by simp;omega) (by omega)
   simpa using this
theorem Ti (n k:Nat) (hn:n≤12) (hk:k≤12):Ei (n:Int) (k:Int)=some (CU k (GN 0 n)):=by
 unfold Ei
 exact Xo _ k n (by omega) (by omega) hn
abbrev V4 (n k:Nat) (ln:Nat):((Int × Int) × List Int→Option (List (List Int) × List Int))→(Int × Int) × List Int→Option (List (List Int) × List Int):=
 fun fx x=>CX x.1.1 x.1.2 (k:Int) ln x.2 (n:Int) fx
theorem RZ {l:List Int} {i:Nat} {c:Int} (h:l[i]?=some c):l.take (i+1)=l.take i++[c]:=by
 rw [List.take_add_one,h];rfl
theorem Sa (n k ln:Nat) (hn:n≤1000) (hk:k≤1000):∀(j fuel at_ c:Nat) (arr:List Int),j<fuel→at_+j=k→arr.length=k→c≤n→
  ∃arr',NB (V4 n k ln) fuel (((at_:Int),(c:Int)),arr)=some ((CU j (GN (c:Int) (n - c))).map (arr.take at_++·),arr')∧arr'.length=k∧arr'.take at_=arr.take at_:=by
 intro j
 induction j with
 |zero=>
  intro fuel at_ c arr hf ha hl hc
  obtain⟨f,rfl⟩:∃f,fuel=f+1:=⟨fuel - 1,by omega⟩
  refine⟨arr,?_,hl,rfl⟩
  show CX (at_:Int) (c:Int) (k:Int) ln arr (n:Int) _=_
  unfold CX FL
  rw [decide_eq_true (by omega),cond_true,BU (by simp;omega),HA]
  simp only [Option.bind_some,List.nil_append,Xr,Option.map_some,List.map_cons,List.map_nil,List.append_nil]
  rw [List.take_of_length_le (by omega)]
 |succ j ih=>
  intro fuel at_ c arr hf ha hl hc
  obtain⟨f,rfl⟩:∃f,fuel=f+1:=⟨fuel - 1,by omega⟩
  show ∃arr',CX (at_:Int) (c:Int) (k:Int) ln arr (n:Int) (NB (V4 n k ln) f)=_∧_
  unfold CX
  rw [decide_eq_false (by omega),cond_false,BU (by omega),Int.toNat_natCast]
  obtain⟨fu,hfu⟩:∃fu:Nat,fu=1000000:=⟨_,rfl⟩
  rw [← hfu]
  have inner:∀(d c fl:Nat) (a:List Int),n - c=d→c≤n→a.length=k→a[at_]?=some (c:Int)→d<fl→
    ∃a',B1 (El (at_:Int) (k:Int) (n:Int) (NB (V4 n k ln) f)) fl a=some ((CU (j+1) (GN (c:Int) d)).map (a.take at_++·),a')∧a'.length=k∧a'.take at_=a.take at_:=by
   intro d
   induction d with
   |zero=>
    intro c fl a h1 h2 h3 h4 h5
    obtain⟨m,rfl⟩:∃m,fl=m+1:=⟨fl - 1,by omega⟩
    refine⟨a,?_,h3,rfl⟩
    rw [FI,El,BU (by omega),Int.toNat_natCast,AN h4]
    rw [show IntKind.wrap .i64 ((k:Int) - (at_:Int))=(k:Int) - (at_:Int) from Et (by omega) (by omega),show IntKind.wrap .i64 ((n:Int) - ((k:Int) - (at_:Int)))=(n:Int) - ((k:Int) - (at_:Int)) from Et (by omega) (by omega),decide_eq_false (by omega),cond_false]
    rfl
   |succ d ihd=>
    intro c fl a h1 h2 h3 h4 h5
    obtain⟨m,rfl⟩:∃m,fl=m+1:=⟨fl - 1,by omega⟩
    rw [FI,El,BU (by omega),Int.toNat_natCast,AN h4]
    rw [show IntKind.wrap .i64 ((k:Int) - (at_:Int))=(k:Int) - (at_:Int) from Et (by omega) (by omega),show IntKind.wrap .i64 ((n:Int) - ((k:Int) - (at_:Int)))=(n:Int) - ((k:Int) - (at_:Int)) from Et (by omega) (by omega)]
    by_cases hcn:(c:Int)≤(n:Int) - ((k:Int) - (at_:Int))
    ·
     rw [decide_eq_true hcn,cond_true,BU (by omega),Kf (by omega),Kf (by omega)]
     obtain⟨a2,e1,e2,e3⟩:=ih f (at_+1) (c+1) a (by omega) (by omega) h3 (by omega)
     rw [show((at_+1:Nat):Int)=(at_:Int)+1 by omega,show((c+1:Nat):Int)=(c:Int)+1 by omega] at e1
     rw [e1,S7,Option.bind_some]
     have ht:=RZ h4
     have ha2:a2[at_]?=some (c:Int):=by
      have:(a2.take (at_+1))[at_]?=some (c:Int):=by
       have hm:(a.take at_).length=at_:=by rw [List.length_take];omega
       rw [e3,ht,List.getElem?_append_right (by omega),hm];simp
      rwa [List.getElem?_take,if_pos (by omega)] at this
     have ht2:a2.take at_=a.take at_:=by
      have:=congrArg (List.take at_) e3
      rwa [List.take_take,List.take_take,Nat.min_eq_left (by omega)] at this
     simp only
     rw [BU (by omega),BU (by omega),AN ha2,Kf (by omega)]
     obtain⟨a3,g1,g2,g3⟩:=ihd (c+1) m (a2.set at_ ((c:Int)+1)) (by omega) (by omega) (by rw [List.length_set];exact e2) (by rw [List.getElem?_set_self (by omega)];rfl) (by omega)
     have hts:(a2.set at_ ((c:Int)+1)).take at_=a.take at_:=by rw [List.take_set_of_le (by omega),ht2]
     rw [g1,Option.map_some]
     refine⟨a3,?_,g2,by rw [g3,hts]⟩
     rw [hts,GN,CU,List.map_append,List.map_map,show n - (c+1)=d by omega,show((c+1:Nat):Int)=(c:Int)+1 by omega,ht]
     simp [Function.comp_def]
    ·
     rw [decide_eq_false hcn,cond_false,Jm (by rw [Hj];omega)]
     exact⟨a,rfl,h3,rfl⟩
  obtain⟨a',g1,g2,g3⟩:=inner (n - c) c fu (arr.set at_ (c:Int)) rfl hc (by rw [List.length_set];exact hl) (by rw [List.getElem?_set_self (by omega)]) (by omega)
  have hts:(arr.set at_ (c:Int)).take at_=arr.take at_:=by rw [List.take_set_of_le (by omega)]
  exact⟨a',by rw [g1,hts],g2,by rw [g3,hts]⟩
theorem Tj (n k:Nat) (hn:n≤1000) (hk:k≤1000):Gj (n:Int) (k:Int)=some (CU k (GN 0 n)):=by
 unfold Gj GF
 rw [BU (by omega),Int.toNat_natCast]
 obtain⟨fu,hfu⟩:∃fu:Nat,fu=1000000:=⟨_,rfl⟩
 rw [← hfu]
 obtain⟨a,e,_,_⟩:=Sa n k ((List.replicate k (0:Int)).length) hn hk k fu 0 0 (List.replicate k 0) (by omega) (by omega) (by simp) (by omega)
 have e':NB (fun fx43 x44=>CX x44.1.1 x44.1.2 (k:Int) ((List.replicate k (0:Int)).length) x44.2 (n:Int) fx43) fu ((0,0),List.replicate k (0:Int))=_:=e
 rw [e']
 simp [S8]
end Go.Fx
namespace Go.Fx
open Go Go.RowKit Go.Proofs
end Go.Fx
namespace Go.Fx
open Go Go.RowKit
def Ik (vs:List AL):List Int:=vs.map fun v=>(v.choices.length:Int)
def zs (k:Nat):List Int:=List.replicate k 0
theorem Tk {vs:List AL} {i:Nat} {v:AL} (h:vs[i]?=some v):(Ik (vs.take (i+1))).reverse=(v.choices.length:Int)::(Ik (vs.take i)).reverse:=by
 unfold Ik
 rw [List.take_add_one,h];simp
theorem Tl {u z:List Int} {a:Int} :(u++a::z)[u.length]?=some a:=by simp
theorem PO {u z:List Int} {a b:Int} {n:Nat} (h:n=u.length):(u++a::z).set n b=u++b::z:=by subst h;simp
def Mg (p:A9) (c:List Int):Option (List Int):=(nr (Ik p.variables).reverse c.reverse).map List.reverse
theorem Tm {p:A9} (ch:List Int):∀(t:List Int) (k fuel:Nat),t.length≤p.variables.length→t.length≤1000→(∀a∈t,-1≤a∧a<1000000)→t.length<fuel→
  B8 (D2 p ch) fuel (t.reverse++zs k) ((t.length:Int) - 1)=some (match nr (Ik (p.variables.take t.length)).reverse t with |some c=>(c.reverse++zs k,true) |none=>(zs (t.length+k),false)):=by
 intro t
 induction t with
 |nil=>
  intro k fuel _ _ _ hf
  obtain⟨n,rfl⟩:∃n,fuel=n+1:=⟨fuel - 1,by simp at hf;omega⟩
  rw [DU];unfold D2
  simp [Ik,nr]
 |cons a t ih=>
  intro k fuel h1 h2 h3 hf
  obtain⟨n,rfl⟩:∃n,fuel=n+1:=⟨fuel - 1,by simp at hf;omega⟩
  simp only [List.length_cons] at h1 h2 hf
  have hlt:t.length<p.variables.length:=by omega
  have hv:p.variables[t.length]?=some p.variables[t.length]:=List.getElem?_eq_getElem hlt
  have ha:=h3 a (List.mem_cons_self ..)
  have e0:(((a::t).length:Nat):Int) - 1=(t.length:Int):=by simp
  have er:(a::t).reverse++zs k=t.reverse++a::zs k:=by simp
  have el:t.length=t.reverse.length:=by simp
  rw [e0,er,DU,D2]
  have g1:(t.reverse++a::zs k).getD t.length default=a:=by exact AN (by rw [el];exact Tl)
  have hw:IntKind.wrap .i64 (a+1)=a+1:=Et (by omega) (by omega)
  have g2:(t.reverse++a::zs k).set t.length (a+1)=t.reverse++(a+1)::zs k:=PO el
  have g3:(t.reverse++(a+1)::zs k).getD t.length default=a+1:=by exact AN (by rw [el];exact Tl)
  have g4:(t.reverse++(a+1)::zs k).set t.length 0=t.reverse++0::zs k:=PO el
  have b1:((0:Int)≤(t.length:Int)∧(t.length:Int)<((t.reverse++a::zs k).length:Int))=True:=by simp<;> omega
  have b2:((0:Int)≤(t.length:Int)∧(t.length:Int)<((t.reverse++(a+1)::zs k).length:Int))=True:=by simp<;> omega
  have c0:decide ((0:Int)≤(t.length:Int))=true:=by simp
  simp only [Int.toNat_natCast]
  simp only [g1,hw,g2,g3,g4,b1,b2,c0,BM,cond_true,F8 hlt,Int.toNat_natCast,AN hv]
  rw [show(a::t).length=t.length+1 from rfl,Tk hv]
  simp only [nr]
  by_cases hn:a+1<(p.variables[t.length].choices.length:Int)
  · simp only [hn,decide_true,cond_true,if_true];simp
  ·
   simp only [hn,decide_false,cond_false,if_false]
   rw [show IntKind.wrap .i64 ((t.length:Int) - 1)=(t.length:Int) - 1 from Et (by omega) (by omega)]
   rw [show t.reverse++0::zs k=t.reverse++zs (k+1) by rw [zs,zs,List.replicate_succ]]
   rw [ih (k+1) n (by omega) (by omega) (fun b hb=>h3 b (List.mem_cons_of_mem _ hb)) (by omega)]
   cases nr (Ik (p.variables.take t.length)).reverse t with
   |none=>simp only [Option.map_none];rw [show t.length+(k+1)=t.length+1+k by omega]
   |some c=>simp [zs,List.replicate_succ]
theorem Pd {p:A9} (ch:List Int) (hl:ch.length=p.variables.length) (hs:p.variables.length≤1000) (hb:∀a∈ch,-1≤a∧a<1000000):
  CY p ch=some (match Mg p ch with |some c=>(c,true) |none=>(zs ch.length,false)):=by
 obtain⟨fu,hfu⟩:∃n:Nat,n=1000000:=⟨_,rfl⟩
 unfold CY
 rw [← hfu,BU (by simp;omega)]
 have:=Tm (p:=p) ch ch.reverse 0 fu (by simp;omega) (by simp;omega) (fun a ha=>hb a (by simpa using ha)) (by simp;omega)
 simp only [List.length_reverse,List.reverse_reverse,zs,List.replicate_zero,List.append_nil,Nat.add_zero] at this
 rw [List.nil_append,show IntKind.wrap .i64 ((ch.length:Int) - 1)=(ch.length:Int) - 1 from Et (by omega) (by omega),this]
 unfold Mg
 rw [hl,List.take_length]
 cases nr (Ik p.variables).reverse ch.reverse with
 |none=>simp [zs]
 |some c=>rfl
def EW (p:A9) (ch:List Int):List (AL × AR):=List.zipWith (fun v a=>(v,v.choices.getD a.toNat default)) p.variables ch
theorem JY:∀{vs:List AL} {ch:List Int},Kl ch (Ik vs)→∀{i:Nat} {v:AL},vs[i]?=some v→∃a,ch[i]?=some a∧0≤a∧a<(v.choices.length:Int)
 |[],_,_,i,v,h=>by simp at h
 |w::vs,[],hf,_,_,_=>by simp [Ik,Kl] at hf
 |w::vs,a::ch,hf,0,v,h=>by
  simp only [Ik,List.map_cons,Kl] at hf
  simp at h;subst h
  exact⟨a,rfl,hf.1.1,hf.1.2⟩
 |w::vs,a::ch,hf,i+1,v,h=>by
  simp only [Ik,List.map_cons,Kl] at hf
  obtain⟨b,h1,h2⟩:=JY (vs:=vs) hf.2 (i:=i) (v:=v) (by simpa using h)
  exact⟨b,by simpa using h1,h2⟩
theorem QZ {p:A9} {ch:List Int} (hf:Kl ch (Ik p.variables)) {i:Nat} {vc:AL × AR} (h:(EW p ch)[i]?=some vc):
  p.variables[i]?=some vc.1∧∃a,ch[i]?=some a∧0≤a∧a<(vc.1.choices.length:Int)∧vc.1.choices.getD a.toNat default=vc.2∧vc.2∈vc.1.choices:=by
 unfold EW at h
 rw [List.getElem?_zipWith] at h
 cases hv:p.variables[i]? with
 |none=>rw [hv] at h;simp at h
 |some v=>
  obtain⟨a,h1,h2,h3⟩:=JY hf hv
  rw [hv,h1] at h
  simp at h
  subst h
  refine⟨rfl,a,h1,h2,h3,by simp [List.getD],?_⟩
  rw [← List.getD_eq_getElem?_getD,AN (List.getElem?_eq_getElem (show a.toNat<v.choices.length by omega))]
  exact List.getElem_mem _
theorem IC {p:A9} {ch:List Int} (hf:Kl ch (Ik p.variables)):(EW p ch).length=ch.length∧ch.length=p.variables.length:=by
 have:=hf.length
 simp [Ik] at this
 refine⟨?_,this⟩
 unfold EW;simp;omega
theorem R1 {p:A9} {ch:List Int} (hf:Kl ch (Ik p.variables)) {vc:AL × AR} (h:vc∈EW p ch):vc.1∈p.variables∧vc.2∈vc.1.choices:=by
 obtain⟨i,hi,e⟩:=List.getElem_of_mem h
 have:=QZ hf (i:=i) (vc:=vc) (by rw [List.getElem?_eq_getElem hi,e])
 exact⟨Lm this.1,by obtain⟨a,_,_,_,_,h⟩:=this.2;exact h⟩
theorem V5 (v:AL) (leaf:Int) (hl:v.leaves.length<9223372036854775807):Ew v leaf=some (decide (leaf∈v.leaves)):=by
 unfold Ew
 rw [Iw (B:=Dj v leaf) (fun t=>some (decide (leaf∈t))) v.leaves hl ?_ ?_ (by omega)]
 · intro sf;unfold Dj;simp
 ·
  intro sf i x t h1 h2 h3 ih
  unfold Dj
  simp only [FA h1,F8 h1,BM,Int.toNat_natCast,AN h2,h3,cond_true,ih]
  by_cases h:x=leaf
  · simp [h]
  ·
   have:leaf≠x:=fun e=>h e.symm
   simp [h,this]
theorem Ou {p:A9} (us:List Bv) (k:Int) (hu:∀u∈us,1≤u.places∧u.places≤8):0≤(us.map fun u=>if ix p.cells u.cell=k then u.places else 0).sum∧(us.map fun u=>if ix p.cells u.cell=k then u.places else 0).sum≤8*(us.length:Int):=by
 induction us with
 |nil=>simp
 |cons u us ih=>
  have h1:=ih fun u h=>hu u (List.mem_cons_of_mem _ h)
  have h2:=hu u (List.mem_cons_self ..)
  simp only [List.map_cons,List.sum_cons,List.length_cons]
  split<;> omega
theorem M2 {p:A9} (hk:GG p) (hs:Ey p) {vc:AL × AR} (h1:vc.1∈p.variables) (h2:vc.2∈vc.1.choices) (x:A8):0≤IQ p x vc∧IQ p x vc≤96:=by
 unfold IQ Tf
 have h3:=Ou (p:=p) vc.2.uses x.cell fun u hu=>(hk.use _ h1 _ h2 u hu).2
 have h4:=(hs.var _ h1).2.2 _ h2
 split<;> omega
theorem Mh {p:A9} (hk:GG p) (hs:Ey p) (x:A8):∀{w:List (AL × AR)},(∀vc∈w,vc.1∈p.variables∧vc.2∈vc.1.choices)→0≤HV p w x∧HV p w x≤96*(w.length:Int)
 |[],_=>by simp [HV]
 |vc::w,h=>by
  have h1:=Mh hk hs x (w:=w) fun vc hvc=>h vc (List.mem_cons_of_mem _ hvc)
  obtain⟨a,b⟩:=h vc (List.mem_cons_self ..)
  have h2:=M2 hk hs a b x
  simp only [HV,List.map_cons,List.sum_cons,List.length_cons] at*
  omega
theorem Qw (p:A9) (w w':List (AL × AR)) (x:A8):HV p (w++w') x=HV p w x+HV p w' x:=by simp [HV,List.sum_append]
def Pe (p:A9) (w:List (AL × AR)) (leaf:Int):List Int:=(List.range p.cells.length).map fun k:Nat=>HV p w ⟨leaf,(k:Int)⟩
theorem NI {l m:List Int} (h1:l.length=m.length) (h:∀k,k<l.length→l.getD k default=m.getD k default):l=m:=by
 refine List.ext_getElem h1 fun k a b=>?_
 have:=h k a
 rw [AN (List.getElem?_eq_getElem a),AN (List.getElem?_eq_getElem b)] at this
 exact this
theorem PP {p:A9} {w:List (AL × AR)} {leaf:Int} {k:Nat} (h:k<p.cells.length):(Pe p w leaf).getD k default=HV p w ⟨leaf,(k:Int)⟩:=by
 refine AN ?_
 unfold Pe
 rw [List.getElem?_map,List.getElem?_range h];rfl
theorem PQ {l:List Int} {i j:Nat} {a:Int} (hi:i<l.length):(l.set i a).getD j default=if i=j then a else l.getD j default:=by
 by_cases h:i=j
 ·
  subst h
  rw [if_pos rfl];exact AN (by rw [List.getElem?_set_self hi])
 · rw [if_neg h,List.getD,List.getElem?_set_ne h];rfl
theorem V6 (l:List AK) (c:AK) (hl:l.length<9223372036854775807):DW l c=some (ix l c):=by
 rw [Qv l c hl];unfold ix;cases l.findIdx? (fun x=>decide (x=c))<;> rfl
theorem Tn {p:A9} (hp:CC p) (hk:GG p) (hs:Ey p) {ch:List Int} (hf:Kl ch (Ik p.variables)) (leaf:Int):DH p ch leaf=some (Pe p (EW p ch) leaf):=by
 obtain⟨l1,l2⟩:=IC hf
 have hc:=hs.cells
 have hvs:=hs.vars
 unfold DH
 rw [BU (by omega)]
 have hlen:((ch.length:Int) - 0).toNat+1=(((EW p ch).length:Int) - 0).toNat+1:=by rw [l1]
 rw [hlen]
 refine H3 (B:=Dm p ch leaf) (fun i (s:List Int)=>s.length=p.cells.length∧∀k,k<p.cells.length→s.getD k default=HV p ((EW p ch).take i) ⟨leaf,(k:Int)⟩) (fun _ _ _=>some (Pe p (EW p ch) leaf)) (EW p ch) (by omega) ?_ ?_ (by omega) ?_
 ·
  intro sf s ⟨h1,h2⟩
  unfold Dm
  rw [l1];simp only [Jy,cond_false]
  rw [List.take_length] at h2
  congr 1
  exact NI (by simp [Pe,h1]) fun k hk=>by rw [h2 k (by omega),PP (by omega)]
 ·
  intro sf i s vc t a1 a2 a3 ⟨h1,h2⟩ ih
  obtain⟨v1,a,v2,v3,v4,v5,v6⟩:=QZ hf a2
  have hvm:=Lm v1
  have hvl:i<p.variables.length:=(List.getElem?_eq_some_iff.1 v1).1
  have hchl:i<ch.length:=by omega
  have hsv:=hs.var _ hvm
  rw [Dm]
  simp only [FA hchl,F8 hchl,F8 hvl,BM,cond_true,Ge,Int.toNat_natCast,AN v1,AN v2,v5,V5 _ _ (E6 (hp.2.2.2 _ hvm).2.2.1),Option.bind_some,a3]
  have htake:∀x,HV p ((EW p ch).take (i+1)) x=HV p ((EW p ch).take i) x+IQ p x vc:=by
   intro x;rw [List.take_add_one,a2,Qw];simp [HV]
  have hbd:∀x,0≤HV p ((EW p ch).take i) x∧HV p ((EW p ch).take i) x≤600:=by
   intro x
   have:=Mh hk hs x (w:=(EW p ch).take i) fun vc h=>R1 hf (List.mem_of_mem_take h)
   have hl:((EW p ch).take i).length≤6:=by rw [List.length_take];omega
   omega
  cases hcn:decide (leaf∈vc.1.leaves)
  ·
   simp only [Bool.not_false,cond_true]
   refine ih s ⟨h1,fun k hkk=>?_⟩
   rw [h2 k hkk,htake]
   have:leaf ∉ vc.1.leaves:=of_decide_eq_false hcn
   simp [IQ,this]
  ·
   simp only [Bool.not_true,cond_false]
   have hlf:leaf∈vc.1.leaves:=of_decide_eq_true hcn
   rw [BU (by omega)]
   refine H3 (B:=Dk p ch (i:Int) fun n_2=>sf n_2 ((i:Int)+1)) (fun j (s':List Int)=>s'.length=p.cells.length∧∀k,k<p.cells.length→s'.getD k default=HV p ((EW p ch).take i) ⟨leaf,(k:Int)⟩+((vc.2.uses.take j).map fun u=>if ix p.cells u.cell=(k:Int) then u.places else 0).sum) (fun _ _ _=>some (Pe p (EW p ch) leaf)) vc.2.uses (by have:=hsv.2.2 _ v6;omega) ?_ ?_ (by omega) ⟨h1,fun k hkk=>by rw [h2 k hkk];simp⟩
   ·
    intro sf' s' ⟨g1,g2⟩
    unfold Dk
    simp only [Int.toNat_natCast,AN v1,AN v2,v5,Jy,cond_false]
    rw [List.take_length] at g2
    refine ih s' ⟨g1,fun k hkk=>?_⟩
    rw [g2 k hkk,htake]
    simp [IQ,hlf,Tf]
   ·
    intro sf' j s' u tu d1 d2 d3 ⟨g1,g2⟩ ih'
    have hu:=hk.use _ hvm _ v6 u (Lm d2)
    obtain⟨q,q1,q2⟩:=Lp hu.1
    have hq:q<p.cells.length:=(List.getElem?_eq_some_iff.1 q2).1
    unfold Dk
    simp only [Int.toNat_natCast,AN v1,AN v2,v5,AN d2,FA d1,F8 d1,BM,cond_true,V6 _ _ (E6 hp.1),Option.bind_some,d3,q1]
    rw [BU (by omega),BU (by omega)]
    have hub:=Ou (p:=p) (vc.2.uses.take j) (q:Int) fun u hu=>(hk.use _ hvm _ v6 u (List.mem_of_mem_take hu)).2
    have hjl:(vc.2.uses.take j).length≤12:=by rw [List.length_take];have:=hsv.2.2 _ v6;omega
    have hb:=hbd ⟨leaf,(q:Int)⟩
    have hw:IntKind.wrap .i64 (s'.getD q default+u.places)=s'.getD q default+u.places:=by
     rw [g2 q hq];exact Et (by omega) (by omega)
    rw [hw]
    refine ih' _ ⟨by rw [List.length_set];exact g1,fun k hkk=>?_⟩
    rw [PQ (by omega),List.take_add_one,d2]
    simp only [Option.toList_some,List.map_append,List.map_cons,List.map_nil,List.sum_append,List.sum_cons,List.sum_nil,q1]
    by_cases hqk:q=k
    ·
     subst hqk
     rw [if_pos rfl,g2 q hq];simp;omega
    ·
     have: ¬((q:Int)=(k:Int)):=by omega
     rw [if_neg hqk,g2 k hkk];simp [this]
 ·
  exact⟨by simp,fun k hkk=>by
   rw [AN (by rw [List.getElem?_replicate,if_pos hkk])];simp [HV]⟩
section
variable {R α σ : Type}
theorem Pf {L:Nat→Int→σ→Option R} (I:Nat→σ→Prop) (N:Nat) (hN:N<9223372036854775807)
  (hE:∀n s,I N s→∃v,L (n+1) (N:Nat) s=some v)
  (hS:∀n (i:Nat) s,i<N→IntKind.i64.wrap ((i:Int)+1)=(i:Int)+1→I i s→(∀s,I (i+1) s→∃v,L n ((i:Int)+1) s=some v)→∃v,L (n+1) (i:Int) s=some v):
  ∀(fuel:Nat) s,N<fuel→I 0 s→∃v,L fuel 0 s=some v:=by
 have main:∀(d i fuel:Nat) s,N - i=d→i≤N→d<fuel→I i s→∃v,L fuel (i:Int) s=some v:=by
  intro d
  induction d with
  |zero=>
   intro i fuel s h1 h2 h3 hI
   obtain⟨n,rfl⟩:∃n,fuel=n+1:=⟨fuel - 1,by omega⟩
   have:i=N:=by omega
   subst this;exact hE n s hI
  |succ d ih=>
   intro i fuel s h1 h2 h3 hI
   obtain⟨n,rfl⟩:∃n,fuel=n+1:=⟨fuel - 1,by omega⟩
   exact hS n i s (by omega) (Kf (by omega)) hI fun s' hs'=>ih (i+1) n s' (by omega) (by omega) (by omega) hs'
 intro fuel s h1 h2
 exact main N 0 fuel s (by omega) (by omega) h1 h2
end
theorem V7 {p:A9} {ch:List Int} (hs:Ey p) (hf:Kl ch (Ik p.variables)):Ev p ch=some true:=by
 obtain⟨l1,l2⟩:=IC hf
 have:=hs.vars
 unfold Ev
 have c0:decide ((p.variables.length:Int)<(ch.length:Int))=false:=by simp<;> omega
 rw [c0,cond_false]
 refine RV (by omega) ?_ ?_
 · intro sf;unfold DP;simp only [Jy,cond_false]
 ·
  intro sf i a h1 h2 h3
  have hlt:i<p.variables.length:=by omega
  obtain⟨b,b1,b2,b3⟩:=JY hf (List.getElem?_eq_getElem hlt)
  rw [h2] at b1;obtain rfl:=Option.some.inj b1
  have hcl:=(hs.var _ (List.getElem_mem hlt)).2.1
  unfold DP
  simp only [FA h1,F8 h1,F8 hlt,BM,cond_true,Int.toNat_natCast,AN h2,AN (List.getElem?_eq_getElem hlt),Ll,Option.bind_some,h3]
  rw [show IntKind.wrap .i64 ((p.variables[i].choices.length:Int) - 1)=(p.variables[i].choices.length:Int) - 1 from Et (by omega) (by omega)]
  have:BS a 0 ((p.variables[i].choices.length:Int) - 1)=true:=by simp [BS];omega
  rw [this];rfl
theorem JC (p:A9) (w:List (AL × AR)) (leaf:Int):(Pe p w leaf).length=p.cells.length:=by simp [Pe]
theorem R2 {p:A9} (hk:GG p) {i:Nat} (hi:i<p.capacity.length):(p.capacity.getD i default).length=p.cells.length:=by
 rw [AN (List.getElem?_eq_getElem hi)];exact(hk.row _ (List.getElem_mem hi)).1
theorem To {p:A9} (hp:CC p) (hk:GG p) (hs:Ey p) {ch:List Int} (hf:Kl ch (Ik p.variables)):∃v,DY p ch=some v:=by
 unfold DY
 have hc:=hs.cells;have hcap:=hs.caps
 refine Pf (L:=fun n i s=>B8 (CP p ch) n s i) (fun _ _=>True) p.capacity.length (by omega) ?_ ?_ _ 0 (by omega) trivial
 ·
  intro n s _
  show ∃v,B8 _ (n+1) _ _=_
  rw [DU];unfold CP;simp
 ·
  intro n i s h1 h2 _ ih
  show ∃v,B8 _ (n+1) _ _=_
  rw [DU,CP]
  simp only [FA h1,cond_true,Tn hp hk hs hf,Option.bind_some]
  rw [JC]
  refine Pf (L:=fun n k s=>B8 (CO p (i:Int) _ _) n s k) (fun _ _=>True) p.cells.length (by omega) ?_ ?_ _ s (by omega) trivial
  ·
   intro n s _
   show ∃v,B8 _ (n+1) _ _=_
   rw [DU,CO,JC,Jy,cond_false,h2]
   exact ih s trivial
  ·
   intro n k s g1 g2 _ ih'
   show ∃v,B8 _ (n+1) _ _=_
   rw [DU,CO,JC,FA g1,cond_true,BU (by omega),BU (by omega),BU (by rw [Int.toNat_natCast,R2 hk h1];omega),g2]
   exact ih' _ trivial
theorem Tp {p:A9} (hp:CC p) (ho:E5 p=true) (hs:Ey p) {ch:List Int} (hf:Kl ch (Ik p.variables)):∃v,E2 p ch=some (v,0):=by
 have hk:=GG.of ho
 obtain⟨l1,l2⟩:=IC hf
 have hv:=hs.vars
 obtain⟨ov,hov⟩:=To hp hk hs hf
 unfold E2
 have c0:decide ((ch.length:Int)≠(p.variables.length:Int))=false:=by simp<;> omega
 rw [Pa hp,ho,V7 hs hf]
 simp only [cond_true,Option.bind_some,ne_eq,not_true_eq_false,decide_false,cond_false,Ge,Bool.not_true]
 rw [show decide (¬((ch.length:Int)=(p.variables.length:Int)))=false from c0,cond_false,hov,Option.bind_some]
 have:=Pf (R:={q:List Int × Int // q.2=0}) (L:=fun n i s=>(B8 (CE p ch) n s i).bind fun q=>if h:q.2=0 then some ⟨q,h⟩ else none) (fun _ s=>s.length=4) ch.length (by omega) ?_ ?_ (((ch.length:Int) - 0).toNat+1) [ov,0,0,0] (by omega) rfl
 ·
  obtain⟨⟨q,hq⟩,h⟩:=this
  cases hl:B8 (CE p ch) (((ch.length:Int) - 0).toNat+1) [ov,0,0,0] 0 with
  |none=>simp only [hl] at h;cases h
  |some q'=>
   simp only [hl,Option.bind_some] at h
   split at h
   · rename_i hz;obtain⟨a,b⟩:=q';simp only at hz;subst hz;exact⟨a,rfl⟩
   · cases h
 ·
  intro n s _
  refine⟨⟨(s,0),rfl⟩,?_⟩
  simp only [DU];unfold CE;simp only [Jy,cond_false];rfl
 ·
  intro n i s h1 h2 hI ih
  have hlt:i<p.variables.length:=by omega
  obtain⟨b,b1,b2,b3⟩:=JY hf (List.getElem?_eq_getElem hlt)
  simp only [DU]
  rw [CE]
  simp only [FA h1,F8 h1,F8 hlt,BM,cond_true,Int.toNat_natCast,AN b1,AN (List.getElem?_eq_getElem hlt),List.length_set,h2]
  rw [BU ⟨b2,b3⟩,BU (by rw [hI];decide),BU (by rw [hI];decide),BU (by rw [hI];decide),BU (by rw [hI];decide),BU (by rw [hI];decide),BU (by rw [hI];decide)]
  exact ih _ (by simpa using hI)
def KZ (p:A9) (w:List (AL × AR)) (leaf:Nat) (ks:List Nat):List A8:=(ks.filter fun k:Nat=>decide (G1 p ⟨(leaf:Int),(k:Int)⟩<HV p w ⟨(leaf:Int),(k:Int)⟩)).map fun k:Nat=>(⟨(leaf:Int),(k:Int)⟩:A8)
def FX (p:A9) (w:List (AL × AR)):List A8:=(List.range p.capacity.length).flatMap fun leaf=>KZ p w leaf (List.range p.cells.length)
theorem Pg {p:A9} (hp:CC p) (ho:E5 p=true) (hs:Ey p) {ch:List Int} (hf:Kl ch (Ik p.variables)):Dn p ch=some (FX p (EW p ch),0):=by
 have hk:=GG.of ho
 have hc:=hs.cells;have hcap:=hs.caps
 obtain⟨vv,hvv⟩:=Tp hp ho hs hf
 unfold Dn
 rw [hvv]
 simp only [Option.bind_some,ne_eq,not_true_eq_false,decide_false,cond_false]
 have hl:(List.range p.capacity.length).length=p.capacity.length:=List.length_range
 have hfu:((p.capacity.length:Int) - 0).toNat+1=(((List.range p.capacity.length).length:Int) - 0).toNat+1:=by rw [hl]
 rw [hfu]
 refine H3 (B:=C8 p ch) (fun i (s:List A8)=>s.length≤12*i) (fun _ (t:List Nat) s=>some (s++t.flatMap fun leaf=>KZ p (EW p ch) leaf (List.range p.cells.length),(0:Int))) (List.range p.capacity.length) (by omega) ?_ ?_ (by omega) (by simp)
 · intro sf s _;unfold C8;rw [hl];simp
 ·
  intro sf i s x t a1 a2 a3 hI ih
  rw [hl] at a1
  have hx:x=i:=by rw [List.getElem?_range a1] at a2;exact(Option.some.inj a2).symm
  subst hx
  rw [C8]
  simp only [FA a1,cond_true,Tn hp hk hs hf,Option.bind_some]
  have hl2:(List.range p.cells.length).length=p.cells.length:=List.length_range
  rw [JC,show(((p.cells.length:Int) - 0).toNat+1)=(((List.range p.cells.length).length:Int) - 0).toNat+1 by rw [hl2]]
  refine(H3 (B:=C7 p (x:Int) sf (Pe p (EW p ch) (x:Int))) (s:=s) (fuel:=(((List.range p.cells.length).length:Int) - 0).toNat+1) (fun j (s':List A8)=>s'.length≤12*x+j) (fun _ (tk:List Nat) s'=>some (s'++KZ p (EW p ch) x tk++t.flatMap fun leaf=>KZ p (EW p ch) leaf (List.range p.cells.length),(0:Int))) (List.range p.cells.length) (by omega) ?_ ?_ (by omega) (by omega)).trans (by simp)
  ·
   intro sf' s' hJ
   rw [C7,JC,hl2,Jy,cond_false,a3,ih s' (by rw [hl2] at hJ;omega)]
   simp [KZ]
  ·
   intro sf' j s' k tk b1 b2 b3 hJ ih'
   rw [hl2] at b1
   have hkj:k=j:=by rw [List.getElem?_range b1] at b2;exact(Option.some.inj b2).symm
   subst hkj
   rw [C7,JC,FA b1,cond_true,BU (by omega),BU (by omega),BU (by rw [Int.toNat_natCast,R2 hk a1];omega)]
   have hcp:(p.capacity.getD x default).getD k default=G1 p ⟨(x:Int),(k:Int)⟩:=by simp [G1]
   simp only [Int.toNat_natCast,PP b1,b3,hcp]
   cases hd:decide (G1 p ⟨(x:Int),(k:Int)⟩<HV p (EW p ch) ⟨(x:Int),(k:Int)⟩)
   ·
    rw [cond_false,ih' s' (by omega)]
    simp [KZ,hd]
   ·
    rw [cond_true,BU (by simp;omega),ih' _ (by simp;omega)]
    simp [KZ,hd]
theorem HS:∀{vs:List AL} {w:List (AL × AR)},w∈ES (vs.map fun v=>v.choices.map fun c=>(v,c)) ↔ ∃ch,Kl ch (Ik vs)∧w=List.zipWith (fun v a=>(v,v.choices.getD a.toNat default)) vs ch
 |[],w=>by
  simp only [List.map_nil,ES,List.mem_singleton,Ik]
  constructor
  · rintro rfl;exact⟨[],trivial,rfl⟩
  · rintro⟨ch,h,rfl⟩;rfl
 |v::vs,w=>by
  simp only [List.map_cons,ES,List.mem_flatMap,List.mem_map,Ik]
  constructor
  ·
   rintro⟨_,⟨c,hc,rfl⟩,t,ht,rfl⟩
   obtain⟨ch,h1,rfl⟩:=HS.1 ht
   obtain⟨i,hi,e⟩:=List.getElem_of_mem hc
   refine⟨(i:Int)::ch,⟨⟨by omega,by omega⟩,h1⟩,?_⟩
   rw [List.zipWith_cons_cons,Int.toNat_natCast,AN (List.getElem?_eq_getElem hi),e]
  ·
   rintro⟨ch,h,rfl⟩
   cases ch with
   |nil=>exact h.elim
   |cons a ch=>
    refine⟨(v,v.choices.getD a.toNat default),⟨v.choices.getD a.toNat default,?_,rfl⟩,_,HS.2 ⟨ch,h.2,rfl⟩,rfl⟩
    have:=h.1
    rw [AN (List.getElem?_eq_getElem (show a.toNat<v.choices.length by omega))]
    exact List.getElem_mem _
theorem Kg:∀{a b c d:List Int},Kl a b→Kl c d→Kl (a++c) (b++d)
 |[],[],_,_,_,h=>h
 |x::a,y::b,_,_,h1,h2=>⟨h1.1,Kg h1.2 h2⟩
 |[],_::_,_,_,h,_=>h.elim
 |_::_,[],_,_,h,_=>h.elim
theorem Gv:∀{a b:List Int},Kl a b→Kl a.reverse b.reverse
 |[],[],_=>trivial
 |x::a,y::b,h=>by
  rw [List.reverse_cons,List.reverse_cons]
  exact Kg (Gv h.2) ⟨h.1,trivial⟩
 |[],_::_,h=>h.elim
 |_::_,[],h=>h.elim
theorem Tq {vs:List AL} (P:List (AL × AR)→Bool):
  ((LG (Ik vs).reverse).all fun c=>P (List.zipWith (fun v a=>(v,v.choices.getD a.toNat default)) vs c.reverse))=(ES (vs.map fun v=>v.choices.map fun c=>(v,c))).all P:=by
 rw [Bool.eq_iff_iff,List.all_eq_true,List.all_eq_true]
 constructor
 ·
  intro h w hw
  obtain⟨ch,h1,rfl⟩:=HS.1 hw
  have:=h ch.reverse (Ix.2 (Gv h1))
  rwa [List.reverse_reverse] at this
 ·
  intro h c hc
  have h1:=Gv (Ix.1 hc)
  rw [List.reverse_reverse] at h1
  exact h _ (HS.2 ⟨c.reverse,h1,rfl⟩)
theorem Nt:∀{ns:List Int},(∀n∈ns,n≤8)→(LG ns).length≤8 ^ ns.length
 |[],_=>by simp [LG]
 |n::ns,h=>by
  have ih:=Nt (ns:=ns) fun m hm=>h m (List.mem_cons_of_mem _ hm)
  have hn:=h n (List.mem_cons_self ..)
  have hu:(IZ n).length≤8:=by unfold IZ;simp;omega
  have:∀L:List (List Int),(L.flatMap fun t=>(IZ n).map (·::t)).length≤8*L.length:=by
   intro L
   induction L with
   |nil=>simp
   |cons a L ih=>simp only [List.flatMap_cons,List.length_append,List.length_map,List.length_cons];omega
  have:=this (LG ns)
  rw [LG,List.length_cons,Nat.pow_succ]
  omega
theorem Nu:∀{l:List Int} {b n:Int},l.Pairwise (fun a c=>decide (a<c)=true)→(∀i∈l,b≤i∧i<n)→b≤n→(l.length:Int)≤n - b
 |[],_,_,_,_,_=>by simp;omega
 |a::l,b,n,h,hb,hn=>by
  rw [List.pairwise_cons] at h
  have ha:=hb a (List.mem_cons_self ..)
  have:=Nu (b:=a+1) (n:=n) h.2 (fun i hi=>by have:=h.1 i hi;have:=hb i (List.mem_cons_of_mem _ hi);simp at*;omega) (by omega)
  simp only [List.length_cons];omega
theorem Qx {l:List Int} {n:Nat} (h1:∀i∈l,0≤i∧i<(n:Int)) (h2:Jw (fun x y=>decide (x<y)) l=true):l.length≤n:=by
 have hp:=HQ (lt:=fun x y:Int=>decide (x<y)) (by intro a b c;simp;omega) h2
 have:=Nu (b:=0) (n:=(n:Int)) hp h1 (by omega)
 omega
/-! the part of a problem -/
theorem Ov {p:A9} (hk:GG p):∀(l:List A8) (rows:List (List Int)),LB p.capacity.length p.cells.length rows→(∀x∈l,(0≤x.leaf∧x.leaf<(p.capacity.length:Int))∧0≤x.cell∧x.cell<(p.cells.length:Int))→
  LB p.capacity.length p.cells.length (l.foldl (Ln p) rows)∧∀x:A8,(0≤x.leaf∧x.leaf<(p.capacity.length:Int))→(0≤x.cell∧x.cell<(p.cells.length:Int))→
   ((l.foldl (Ln p) rows).getD x.leaf.toNat default).getD x.cell.toNat default=if x∈l then G1 p x else (rows.getD x.leaf.toNat default).getD x.cell.toNat default
 |[],rows,h,_=>⟨h,fun x _ _=>by simp⟩
 |y::l,rows,h,hb=>by
  obtain⟨h1,h2⟩:=Ov hk l (Ln p rows y) (h.put y) fun x hx=>hb x (List.mem_cons_of_mem _ hx)
  refine⟨h1,fun x hx1 hx2=>?_⟩
  rw [List.foldl_cons,h2 x hx1 hx2]
  by_cases hm:x∈l
  · simp [hm]
  ·
   rw [if_neg hm]
   have hy:=hb y (List.mem_cons_self ..)
   have hyl:y.leaf.toNat<rows.length:=by rw [h.1];omega
   have hrow:(rows.getD y.leaf.toNat default).length=p.cells.length:=by rw [AN (List.getElem?_eq_getElem hyl)];exact h.2 _ (List.getElem_mem hyl)
   by_cases hl:x.leaf=y.leaf
   ·
    have e1:(Ln p rows y).getD x.leaf.toNat default=(rows.getD y.leaf.toNat default).set y.cell.toNat ((p.capacity.getD y.leaf.toNat default).getD y.cell.toNat default):=by
     rw [hl];unfold Ln;exact AN (by rw [List.getElem?_set_self hyl])
    rw [e1,PQ (by rw [hrow];omega)]
    by_cases hc:x.cell=y.cell
    ·
     have:x=y:=by cases x;cases y;simp_all
     rw [if_pos (by rw [hc]),if_pos (by rw [this];exact List.mem_cons_self ..),this];rfl
    ·
     have hne:x≠y:=fun e=>hc (by rw [e])
     rw [if_neg (by omega),if_neg (by simp [hne,hm]),hl]
   ·
    have hne:x≠y:=fun e=>hl (by rw [e])
    have e1:(Ln p rows y).getD x.leaf.toNat default=rows.getD x.leaf.toNat default:=by
     unfold Ln;rw [List.getD,List.getElem?_set_ne (by omega)];rfl
    rw [e1,if_neg (by simp [hne,hm])]
structure V8 (p:A9) (r:AS):Prop where
 sm:CC (Cy p r)
 small:Ey (Cy p r)
 ok:E5 (Cy p r)=true
 cap:∀x:A8,(0≤x.leaf∧x.leaf<(p.capacity.length:Int))→(0≤x.cell∧x.cell<(p.cells.length:Int))→G1 (Cy p r) x=if x∈r.places then G1 p x else 4096
 capl:(Cy p r).capacity.length=p.capacity.length
theorem R3 {p:A9} {r:AS} (hp:CC p) (hr:Ie r) (hs:Ey p) (h1:E5 p=true) (h2:GL p r=true):V8 p r:=by
 obtain⟨i1,i2,i3,i4⟩:=Lo h2
 have hk:=GG.of h1
 obtain⟨g1,g2⟩:=Ov hk r.places (Kz p) (LB.blank p) i3
 have hcapl:(Cy p r).capacity.length=p.capacity.length:=g1.1
 have hcap:∀x:A8,(0≤x.leaf∧x.leaf<(p.capacity.length:Int))→(0≤x.cell∧x.cell<(p.cells.length:Int))→G1 (Cy p r) x=if x∈r.places then G1 p x else 4096:=by
  intro x hx1 hx2
  refine(g2 x hx1 hx2).trans ?_
  have:((Kz p).getD x.leaf.toNat default).getD x.cell.toNat default=4096:=by
   unfold Kz
   rw [AN (l:=List.replicate _ _) (by rw [List.getElem?_replicate,if_pos (by omega)]),AN (by rw [List.getElem?_replicate,if_pos (by omega)])]
  rw [this]
 have hmem:∀v∈(Cy p r).variables,v∈p.variables:=by
  intro v hv
  obtain⟨i,hi,rfl⟩:=List.mem_map.1 hv
  have:=i1 i hi
  rw [AN (List.getElem?_eq_getElem (show i.toNat<p.variables.length by omega))]
  exact List.getElem_mem _
 have hvl:r.variables.length≤p.variables.length:=Qx i1 i2
 have hrl:∀row∈(Cy p r).capacity,row.length=p.cells.length:=g1.2
 refine⟨Ud hp hr hs i1,⟨hs.cells,by rw [hcapl];exact hs.caps,?_,fun row hrow=>?_,fun v hv=>hs.var v (hmem v hv)⟩,?_,hcap,hcapl⟩
 ·
  show(r.variables.map _).length≤6
  rw [List.length_map];have:=hs.vars;omega
 · rw [hrl row hrow];have:=hs.cells;omega
 ·
  unfold E5 at h1 ⊢
  simp only [Bool.and_eq_true,List.all_eq_true,hcapl] at h1 ⊢
  obtain⟨a1,a2,a3,a4,a5,a6⟩:=h1
  refine⟨a1,a2,?_,a4,fun row hrow=>?_,fun v hv=>a6 v (hmem v hv)⟩
  ·
   simp only [decide_eq_true_eq] at a3 ⊢
   show(r.variables.map _).length≤64
   rw [List.length_map];omega
  ·
   unfold Jl
   simp only [Bool.and_eq_true,decide_eq_true_eq,List.all_eq_true,BS]
   refine⟨hrl row hrow,fun k hkk=>?_⟩
   obtain⟨i,hi,e⟩:=List.getElem_of_mem hrow
   obtain⟨j,hj,e'⟩:=List.getElem_of_mem hkk
   have hjl:j<p.cells.length:=by rw [← hrl row hrow];exact hj
   have hil:i<p.capacity.length:=by rw [← hcapl];exact hi
   have hv:G1 (Cy p r) ⟨(i:Int),(j:Int)⟩=k:=by
    unfold G1
    simp only [Int.toNat_natCast]
    rw [AN (List.getElem?_eq_getElem hi),e,AN (List.getElem?_eq_getElem hj),e']
   rw [← hv,hcap _ (by simp only;omega) (by simp only;omega)]
   split
   ·
    refine⟨IR hk _,?_⟩
    unfold G1
    have hj2:j<(p.capacity[i]).length:=by rw [(hk.row _ (List.getElem_mem hil)).1];exact hjl
    simp only [Int.toNat_natCast]
    rw [AN (List.getElem?_eq_getElem hil),AN (List.getElem?_eq_getElem hj2)]
    exact((hk.row _ (List.getElem_mem hil)).2 _ (List.getElem_mem hj2)).2
   · omega
theorem Tr {p:A9} {w:List (AL × AR)} :FX p w≠[] ↔ ∃i k:Nat,i<p.capacity.length∧k<p.cells.length∧G1 p ⟨(i:Int),(k:Int)⟩<HV p w ⟨(i:Int),(k:Int)⟩:=by
 unfold FX KZ
 constructor
 ·
  intro h
  obtain⟨x,hx⟩:=List.exists_mem_of_ne_nil _ h
  obtain⟨i,hi,hx⟩:=List.mem_flatMap.1 hx
  obtain⟨k,hk,rfl⟩:=List.mem_map.1 hx
  obtain⟨h1,h2⟩:=List.mem_filter.1 hk
  exact⟨i,k,List.mem_range.1 hi,List.mem_range.1 h1,of_decide_eq_true h2⟩
 ·
  rintro⟨i,k,h1,h2,h3⟩ he
  have:(⟨(i:Int),(k:Int)⟩:A8)∈([]:List A8):=by
   rw [← he]
   exact List.mem_flatMap.2 ⟨i,List.mem_range.2 h1,List.mem_map.2 ⟨k,List.mem_filter.2 ⟨List.mem_range.2 h2,decide_eq_true h3⟩,rfl⟩⟩
  cases this
theorem Ow {p:A9} {r:AS} (hp:CC p) (hr:Ie r) (hs:Ey p) (h1:E5 p=true) (h2:GL p r=true) {ch:List Int} (hf:Kl ch (Ik (Cy p r).variables)):
  (!(decide (FX (Cy p r) (EW (Cy p r) ch)=[])))=r.places.any fun x=>decide (G1 p x<HV p (EW (Cy p r) ch) x):=by
 have hq:=R3 hp hr hs h1 h2
 have hk:=GG.of h1
 obtain⟨i1,i2,i3,i4⟩:=Lo h2
 have hb:∀x,HV p (EW (Cy p r) ch) x≤576:=by
  intro x
  have:=Mh (GG.of hq.ok) hq.small x (w:=EW (Cy p r) ch) fun vc h=>R1 hf h
  obtain⟨l1,l2⟩:=IC hf
  have l3:=hq.small.vars
  have e:HV (Cy p r) (EW (Cy p r) ch) x=HV p (EW (Cy p r) ch) x:=rfl
  rw [e] at this
  omega
 rw [Bool.eq_iff_iff]
 simp only [Bool.not_eq_true',decide_eq_false_iff_not,List.any_eq_true,decide_eq_true_eq]
 rw [← ne_eq,Tr,hq.capl]
 constructor
 ·
  rintro⟨i,k,a1,a2,a3⟩
  have a3:G1 (Cy p r) ⟨(i:Int),(k:Int)⟩<HV p (EW (Cy p r) ch) ⟨(i:Int),(k:Int)⟩:=a3
  have a2:k<p.cells.length:=a2
  rw [hq.cap _ (by simp only;omega) (by simp only;omega)] at a3
  by_cases hm:(⟨(i:Int),(k:Int)⟩:A8)∈r.places
  · rw [if_pos hm] at a3;exact⟨_,hm,a3⟩
  · rw [if_neg hm] at a3;have:=hb ⟨(i:Int),(k:Int)⟩;omega
 ·
  rintro⟨x,hx,hlt⟩
  obtain⟨b1,b2⟩:=i3 x hx
  have ex:(⟨((x.leaf.toNat:Nat):Int),((x.cell.toNat:Nat):Int)⟩:A8)=x:=by
   obtain⟨a,b⟩:=x
   simp only at b1 b2
   rw [Int.toNat_of_nonneg b1.1,Int.toNat_of_nonneg b2.1]
  refine⟨x.leaf.toNat,x.cell.toNat,by omega,(by omega:x.cell.toNat<p.cells.length),?_⟩
  rw [ex,hq.cap x b1 b2,if_pos hx]
  exact hlt
theorem Qy (p:A9) (r:AS):BT p r.variables=(Cy p r).variables.map fun v=>v.choices.map fun c=>(v,c):=by
 unfold BT Cy;rw [List.map_map];rfl
theorem V9 {p:A9} {r:AS} (hp:CC p) (hr:Ie r) (hs:Ey p) (hv:r.variables.length≤20):
  Df p r=some (bif E5 p then (bif GL p r then (D4 p r,0) else (false,320)) else (false,270)):=by
 obtain⟨fu,hfu⟩:∃n:Nat,n=1000000:=⟨_,rfl⟩
 unfold Df
 rw [Vp hp hr hs hv,← hfu]
 cases h1:E5 p
 · rfl
 cases h2:GL p r
 · rfl
 have hq:=R3 hp hr hs h1 h2
 have hk:=GG.of hq.ok
 simp only [cond_true,Option.bind_some,ne_eq,not_true_eq_false,decide_false,cond_false]
 have hv6:=hq.small.vars
 rw [BU (by omega)]
 have key:∀(L:List (List Int)) (c:List Int) (fuel:Nat),Pc (nr (Ik (Cy p r).variables).reverse) (c::L)→(∀c'∈c::L,Kl c' (Ik (Cy p r).variables).reverse)→L.length+2<fuel→
   B8 (C5 (Cy p r,0)) fuel c.reverse true=some ((c::L).all fun c=>r.places.any fun x=>decide (G1 p x<HV p (EW (Cy p r) c.reverse) x),0):=by
  intro L
  induction L with
  |nil=>
   intro c fuel he hc hfl
   obtain⟨n,rfl⟩:∃n,fuel=n+1+1:=⟨fuel - 2,by omega⟩
   have hfc:Kl c.reverse (Ik (Cy p r).variables):=by have:=Gv (hc c (List.mem_cons_self ..));rwa [List.reverse_reverse] at this
   have hcl:=(IC hfc).2
   rw [DU,C5,cond_true,Pg hq.sm hq.ok hq.small hfc,Option.bind_some]
   have hpo:=Ow hp hr hs h1 h2 hfc
   simp only [List.all_cons,List.all_nil,Bool.and_true]
   rw [← hpo]
   by_cases hz:FX (Cy p r) (EW (Cy p r) c.reverse)=[]
   · simp [hz]
   ·
    have: ¬((FX (Cy p r) (EW (Cy p r) c.reverse)).length:Int)=0:=fun e=>hz (List.length_eq_zero_iff.1 (by omega))
    simp only [this,decide_false,cond_false,hz,Bool.not_false]
    rw [Pd c.reverse hcl (by omega) (fun a ha=>by
     obtain⟨i,hi,e⟩:=List.getElem_of_mem ha
     obtain⟨b,b1,b2,b3⟩:=JY hfc (List.getElem?_eq_getElem (show i<(Cy p r).variables.length by omega))
     rw [List.getElem?_eq_getElem hi,e] at b1;obtain rfl:=Option.some.inj b1
     have:=(hq.small.var _ (List.getElem_mem (show i<(Cy p r).variables.length by omega))).2.1
     omega)]
    unfold Mg
    rw [List.reverse_reverse,show nr (Ik (Cy p r).variables).reverse c=none from he]
    simp only [Option.map_none,Option.bind_some]
    rw [DU,C5];rfl
  |cons d L ih=>
   intro c fuel he hc hfl
   obtain⟨n,rfl⟩:∃n,fuel=n+1:=⟨fuel - 1,by omega⟩
   have hfc:Kl c.reverse (Ik (Cy p r).variables):=by have:=Gv (hc c (List.mem_cons_self ..));rwa [List.reverse_reverse] at this
   have hcl:=(IC hfc).2
   rw [DU,C5,cond_true,Pg hq.sm hq.ok hq.small hfc,Option.bind_some]
   have hpo:=Ow hp hr hs h1 h2 hfc
   rw [List.all_cons,← hpo]
   by_cases hz:FX (Cy p r) (EW (Cy p r) c.reverse)=[]
   · simp [hz]
   ·
    have: ¬((FX (Cy p r) (EW (Cy p r) c.reverse)).length:Int)=0:=fun e=>hz (List.length_eq_zero_iff.1 (by omega))
    simp only [this,decide_false,cond_false,hz,Bool.not_false,Bool.true_and]
    rw [Pd c.reverse hcl (by omega) (fun a ha=>by
     obtain⟨i,hi,e⟩:=List.getElem_of_mem ha
     obtain⟨b,b1,b2,b3⟩:=JY hfc (List.getElem?_eq_getElem (show i<(Cy p r).variables.length by omega))
     rw [List.getElem?_eq_getElem hi,e] at b1;obtain rfl:=Option.some.inj b1
     have:=(hq.small.var _ (List.getElem_mem (show i<(Cy p r).variables.length by omega))).2.1
     omega)]
    unfold Mg
    rw [List.reverse_reverse,show nr (Ik (Cy p r).variables).reverse c=some d from he.1]
    simp only [Option.map_some,Option.bind_some]
    exact ih d n he.2 (fun c' h=>hc c' (List.mem_cons_of_mem _ h)) (by simp at hfl;omega)
 have hn1:∀n∈(Ik (Cy p r).variables).reverse,1≤n∧n≤8:=by
  intro n hn
  rw [List.mem_reverse] at hn
  obtain⟨v,hv,rfl⟩:=List.mem_map.1 hn
  have:=hk.ch v hv;have:=(hq.small.var v hv).2.1
  omega
 obtain⟨en,t,ht⟩:=Mf (ns:=(Ik (Cy p r).variables).reverse) fun n hn=>(hn1 n hn).1
 have hlen:=Nt (ns:=(Ik (Cy p r).variables).reverse) fun n hn=>(hn1 n hn).2
 have hz:(List.replicate (Cy p r).variables.length (0:Int))=(((Ik (Cy p r).variables).reverse.map fun _=>(0:Int)).reverse):=by
  rw [← List.map_reverse,List.reverse_reverse,Ik,List.map_map]
  exact(List.map_const' ..).symm
 rw [hz,key t _ fu (by rw [← ht];exact en) (fun c' h=>Ix.1 (by rw [ht];exact h)) (by
  rw [ht] at hlen
  have h8:8 ^ ((Ik (Cy p r).variables).reverse).length≤8 ^ 6:=Nat.pow_le_pow_right (by omega) (by simp [Ik];omega)
  simp only [List.length_cons] at hlen
  have:(8:Nat) ^ 6=262144:=by decide
  omega),← ht]
 unfold D4
 rw [Qy,← Tq]
 rfl
end Go.Fx
namespace Go.Fx
open Go Go.RowKit Go.Proofs
end Go.Fx
namespace Go.Fx
open Go Go.RowKit
def PR (p:A9) (w:List (AL × AR)) (leaf:Nat) (ks:List Nat):List (A8 × Int):=
 (ks.filter fun k:Nat=>decide (G1 p ⟨(leaf:Int),(k:Int)⟩<HV p w ⟨(leaf:Int),(k:Int)⟩)).map fun k:Nat=>((⟨(leaf:Int),(k:Int)⟩:A8),HV p w ⟨(leaf:Int),(k:Int)⟩ - G1 p ⟨(leaf:Int),(k:Int)⟩)
def R4 (p:A9) (w:List (AL × AR)):List (A8 × Int):=(List.range p.capacity.length).flatMap fun leaf=>PR p w leaf (List.range p.cells.length)
theorem Ox (p:A9) (w:List (AL × AR)):(R4 p w).map (·.1)=FX p w:=by
 unfold R4 FX
 rw [List.map_flatMap]
 congr 1;funext leaf
 unfold PR KZ;rw [List.map_map];rfl
theorem Oy {p:A9} (hs:Ey p) (w:List (AL × AR)):(R4 p w).length≤48:=by
 have h1:=hs.cells;have h2:=hs.caps
 have:∀t:List Nat,(t.flatMap fun leaf=>PR p w leaf (List.range p.cells.length)).length≤12*t.length:=by
  intro t
  induction t with
  |nil=>simp
  |cons a t ih=>
   have:(PR p w a (List.range p.cells.length)).length≤12:=by
    unfold PR;rw [List.length_map]
    have:=List.length_filter_le (fun k:Nat=>decide (G1 p ⟨(a:Int),(k:Int)⟩<HV p w ⟨(a:Int),(k:Int)⟩)) (List.range p.cells.length)
    rw [List.length_range] at this;omega
   simp only [List.flatMap_cons,List.length_append,List.length_cons];omega
 have:=this (List.range p.capacity.length)
 rw [List.length_range] at this
 unfold R4;omega
end Go.Fx
namespace Go.Fx
open Go Go.RowKit Go.Proofs
end Go.Fx
namespace Go.Fx
open Go Go.RowKit
end Go.Fx
namespace Go.Fx
open Go Go.RowKit Go.Proofs
end Go.Fx
namespace Go.Fx
open Go Go.RowKit
theorem PS {p:A9} (hk:GG p) (hs:Ey p) {f:Int→AR} {i:Int} (hi:0≤i∧i<(p.variables.length:Int)) (hf:f i∈(HR p i).choices) (x:A8):0≤IQ p x (HR p i,f i):=by
 have:HR p i∈p.variables:=by
  unfold HR
  rw [AN (List.getElem?_eq_getElem (show i.toNat<p.variables.length by omega))]
  exact List.getElem_mem _
 exact(M2 hk hs this hf x).1
def Xu (a b:List Int):Prop:=a.length=b.length∧∀k,k<b.length→0≤a.getD k default∧a.getD k default≤b.getD k default
def Xp (rows cap:List (List Int)):Prop:=rows.length=cap.length∧∀i,i<cap.length→Xu (rows.getD i default) (cap.getD i default)
theorem Xu.mem {a b:List Int} (h:Xu a b) (hb:∀k∈b,k≤4096):∀k∈a,0≤k∧k≤4096:=by
 intro k hk
 obtain⟨j,hj,rfl⟩:=List.getElem_of_mem hk
 have hj2:j<b.length:=by rw [← h.1];exact hj
 have:=h.2 j hj2
 rw [AN (List.getElem?_eq_getElem hj),AN (List.getElem?_eq_getElem hj2)] at this
 have:=hb _ (List.getElem_mem hj2)
 omega
theorem Xp.row {rows cap:List (List Int)} (h:Xp rows cap):∀r∈rows,∃c∈cap,Xu r c:=by
 intro r hr
 obtain⟨j,hj,rfl⟩:=List.getElem_of_mem hr
 have hj2:j<cap.length:=by rw [← h.1];exact hj
 have:=h.2 j hj2
 rw [AN (List.getElem?_eq_getElem hj),AN (List.getElem?_eq_getElem hj2)] at this
 exact⟨_,List.getElem_mem hj2,this⟩
theorem IS {α:Type} {lt:α→α→Prop} (ht:∀a b c,lt a b→lt b c→lt a c) (hi:∀a,¬lt a a):∀{m l:List α},m.Pairwise lt→l.Pairwise lt→(∀x∈l,x∈m)→l.Sublist m
 |[],l,_,_,h=>by
  cases l with
  |nil=>exact List.Sublist.slnil
  |cons a l=>exact absurd (h a (List.mem_cons_self ..)) (by simp)
 |b::m,[],_,_,_=>List.nil_sublist _
 |b::m,a::l,hm,hl,h=>by
  rw [List.pairwise_cons] at hm hl
  rcases List.mem_cons.1 (h a (List.mem_cons_self ..)) with e |e
  ·
   subst e
   refine List.Sublist.cons_cons _ (IS ht hi hm.2 hl.2 fun x hx=>?_)
   rcases List.mem_cons.1 (h x (List.mem_cons_of_mem _ hx)) with e |e
   · exact absurd (hl.1 x hx) (by rw [e];exact hi a)
   · exact e
  ·
   refine List.Sublist.cons _ (IS ht hi hm.2 (List.pairwise_cons.2 hl) fun x hx=>?_)
   rcases List.mem_cons.1 (h x hx) with e2 |e2
   ·
    subst e2
    have h1:=hm.1 a e
    rcases List.mem_cons.1 hx with e3 |e3
    · subst e3;exact absurd h1 (hi _)
    · exact absurd (ht _ _ _ h1 (hl.1 _ e3)) (hi _)
   · exact e2
theorem JZ {α:Type} {lt:α→α→Bool} :∀{l:List α},l.Pairwise (fun a b=>lt a b=true)→Jw lt l=true
 |[],_=>rfl
 |[a],_=>rfl
 |a::b::l,h=>by
  rw [List.pairwise_cons] at h
  simp only [Jw,Bool.and_eq_true]
  exact⟨h.1 b (List.mem_cons_self ..),JZ h.2⟩
theorem Nv (a b:A8):pb a b=true ↔ a.leaf<b.leaf∨(a.leaf=b.leaf∧a.cell<b.cell):=by
 unfold pb;simp
theorem JD (a b c:A8) (h1:pb a b=true) (h2:pb b c=true):pb a c=true:=by
 rw [Nv] at*;omega
theorem JE (a:A8): ¬pb a a=true:=by rw [Nv];omega
theorem Ts {a b:A8} (h1: ¬pb a b=true) (h2:a≠b):pb b a=true:=by
 rw [Nv] at*
 obtain⟨a1,a2⟩:=a;obtain⟨b1,b2⟩:=b
 simp only at*
 by_cases e:a1=b1
 ·
  by_cases e2:a2=b2
  · subst e;subst e2;exact absurd rfl h2
  · omega
 · omega
theorem VA {α:Type} {l m:List α} (h1:l.Sublist m) (h2:m.Sublist l):l=m:=h1.eq_of_length (Nat.le_antisymm h1.length_le h2.length_le)
theorem Ph {l m:List A8} (hl:l.Pairwise fun a b=>pb a b=true) (hm:m.Pairwise fun a b=>pb a b=true) (h:∀x,x∈l ↔ x∈m):l=m:=
 VA (IS (lt:=fun a b=>pb a b=true) JD JE hm hl fun x hx=>(h x).1 hx) (IS (lt:=fun a b=>pb a b=true) JD JE hl hm fun x hx=>(h x).2 hx)
def HT (p:A9):List A8:=(List.range p.capacity.length).flatMap fun leaf:Nat=>(List.range p.cells.length).map fun k:Nat=>(⟨(leaf:Int),(k:Int)⟩:A8)
theorem Oz {p:A9} {x:A8} :x∈HT p ↔ (0≤x.leaf∧x.leaf<(p.capacity.length:Int))∧0≤x.cell∧x.cell<(p.cells.length:Int):=by
 unfold HT
 simp only [List.mem_flatMap,List.mem_map,List.mem_range]
 constructor
 · rintro⟨i,hi,k,hk,rfl⟩;simp only;omega
 ·
  rintro⟨h1,h2⟩
  refine⟨x.leaf.toNat,by omega,x.cell.toNat,by omega,?_⟩
  obtain⟨a,b⟩:=x
  simp only at h1 h2 ⊢
  rw [Int.toNat_of_nonneg h1.1,Int.toNat_of_nonneg h2.1]
theorem Lq (p:A9):(HT p).Pairwise fun a b=>pb a b=true:=by
 unfold HT
 rw [List.pairwise_flatMap]
 refine⟨fun i _=>?_,?_⟩
 ·
  rw [List.pairwise_map]
  refine List.Pairwise.imp (R:=fun a b:Nat=>a<b) ?_ List.pairwise_lt_range
  intro a b h
  exact(Nv _ _).2 (.inr ⟨rfl,(by show(a:Int)<(b:Int);omega)⟩)
 ·
  refine List.Pairwise.imp (R:=fun a b:Nat=>a<b) ?_ List.pairwise_lt_range
  intro a b h x hx y hy
  obtain⟨k,_,rfl⟩:=List.mem_map.1 hx
  obtain⟨j,_,rfl⟩:=List.mem_map.1 hy
  exact(Nv _ _).2 (.inl (by show(a:Int)<(b:Int);omega))
theorem O3 {p:A9} (hs:Ey p):(HT p).length≤48:=by
 have h1:=hs.cells;have h2:=hs.caps
 unfold HT
 rw [List.length_flatMap]
 have:∀t:List Nat,(t.map fun leaf:Nat=>((List.range p.cells.length).map fun k:Nat=>(⟨(leaf:Int),(k:Int)⟩:A8)).length).sum≤12*t.length:=by
  intro t
  induction t with
  |nil=>simp
  |cons a t ih=>simp only [List.map_cons,List.sum_cons,List.length_map,List.length_range,List.length_cons] at ih ⊢;omega
 have:=this (List.range p.capacity.length)
 rw [List.length_range] at this;omega
theorem LJ (p:A9) (w:List (AL × AR)):FX p w=(HT p).filter fun x=>decide (G1 p x<HV p w x):=by
 unfold FX HT KZ
 rw [List.filter_flatMap]
 congr 1;funext leaf
 rw [List.filter_map];rfl
theorem HD {p:A9} {w:List (AL × AR)} {x:A8} :x∈FX p w ↔ x∈HT p∧G1 p x<HV p w x:=by
 rw [LJ,List.mem_filter,decide_eq_true_eq]
def LK (p:A9) (V:List Int):List A8:=(HT p).filter fun x=>(ES (BT p V)).any fun w=>decide (G1 p x<HV p w x)
theorem JF {p:A9} {V:List Int} {x:A8} :x∈LK p V ↔ x∈HT p∧∃w∈ES (BT p V),G1 p x<HV p w x:=by
 unfold LK;rw [List.mem_filter,List.any_eq_true];simp only [decide_eq_true_eq]
theorem IG (p:A9) (V:List Int):(LK p V).Pairwise fun a b=>pb a b=true:=(Lq p).filter _
abbrev Ij (p:A9):List A8:=LK p (GN 0 p.variables.length)
theorem Mi:∀(a:Int) (n:Nat),GN a n=(List.range n).map fun k:Nat=>a+(k:Int)
 |a,0=>rfl
 |a,n+1=>by
  rw [GN,Mi (a+1) n,List.range_succ_eq_map,List.map_cons,List.map_map]
  simp only [Int.natCast_zero,Int.add_zero]
  congr 1
  refine List.map_congr_left fun k _=>?_
  simp only [Function.comp];omega
theorem Sb (p:A9):BT p (GN 0 p.variables.length)=p.variables.map fun v=>v.choices.map fun c=>(v,c):=by
 unfold BT
 rw [Mi,List.map_map]
 refine List.ext_getElem (by simp) fun i h1 h2=>?_
 have hi:i<p.variables.length:=by simpa using h2
 simp only [List.getElem_map,List.getElem_range,Function.comp,Int.zero_add,Int.toNat_natCast,AN (List.getElem?_eq_getElem hi)]
def Mj (x:A8):List A8→List A8
 |[] =>[x]
 |y::t=>if pb y x then y::Mj x t else if y=x then y::t else x::y::t
theorem Nw {x y:A8} :∀{l:List A8},y∈Mj x l ↔ y=x∨y∈l
 |[] =>by simp [Mj]
 |z::t=>by
  unfold Mj
  split
  ·
   rw [List.mem_cons,Nw,List.mem_cons]
   constructor
   ·
    rintro(h |h |h)
    · exact .inr (.inl h)
    · exact .inl h
    · exact .inr (.inr h)
   ·
    rintro(h |h |h)
    · exact .inr (.inl h)
    · exact .inl h
    · exact .inr (.inr h)
  ·
   split
   · rename_i h;subst h;simp
   · simp
theorem O4 {x:A8} :∀{l:List A8},l.Pairwise (fun a b=>pb a b=true)→(Mj x l).Pairwise fun a b=>pb a b=true
 |[],_=>List.pairwise_singleton ..
 |y::t,h=>by
  have hc:=List.pairwise_cons.1 h
  unfold Mj
  split
  ·
   rename_i hp
   refine List.pairwise_cons.2 ⟨fun z hz=>?_,O4 hc.2⟩
   rcases Nw.1 hz with rfl |hz
   · exact hp
   · exact hc.1 z hz
  ·
   rename_i hp
   split
   · exact h
   ·
    rename_i hne
    have hxy:=Ts hp hne
    refine List.pairwise_cons.2 ⟨fun z hz=>?_,h⟩
    rcases List.mem_cons.1 hz with rfl |hz
    · exact hxy
    · exact JD _ _ _ hxy (hc.1 z hz)
def GO (x:A8) (l:List A8):Nat:=(l.takeWhile fun y=>pb y x).length
theorem Uh (x:A8) (l:List A8):GO x l≤l.length:=(List.takeWhile_sublist _).length_le
theorem PT (x:A8):∀l:List A8,Mj x l=if GO x l=l.length∨l.getD (GO x l) default≠x then l.take (GO x l)++[x]++l.drop (GO x l) else l
 |[] =>by simp [Mj,GO]
 |y::t=>by
  have ih:=PT x t
  unfold Mj
  by_cases h:pb y x=true
  ·
   have e:GO x (y::t)=GO x t+1:=by unfold GO;rw [List.takeWhile_cons,if_pos h];rfl
   rw [if_pos h,ih,e]
   simp only [List.length_cons,Nat.add_right_cancel_iff,List.getD_cons_succ,List.take_succ_cons,List.drop_succ_cons,List.cons_append]
   split<;> rfl
  ·
   have e:GO x (y::t)=0:=by unfold GO;rw [List.takeWhile_cons,if_neg h];rfl
   rw [if_neg h,e]
   simp only [List.length_cons,List.getD_cons_zero,List.take_zero,List.drop_zero,List.nil_append]
   by_cases hy:y=x
   · rw [if_pos hy,if_neg (by simp [hy])]
   · rw [if_neg hy,if_pos (.inr hy)];rfl
theorem Sc {ov l0:List A8} {E:Int} {i:Nat} {x:A8} (hi:ov[i]?=some x) (k:Int→Option (List A8)):
  ∀(t pre:List A8) (fu:Nat),l0=pre++t→l0.length≤1000→t.length<fu→
   B1 (CQ (ov,E) l0 (i:Int) k) fu (pre.length:Int)=k ((pre.length+GO x t:Nat):Int):=by
 intro t
 have hlt:i<ov.length:=(List.getElem?_eq_some_iff.1 hi).1
 induction t with
 |nil=>
  intro pre fu h1 h2 h3
  obtain⟨n,rfl⟩:∃n,fu=n+1:=⟨fu - 1,by omega⟩
  rw [List.append_nil] at h1;subst h1
  rw [FI,CQ]
  simp only [Jy,cond_false,Ge];rfl
 |cons y t ih=>
  intro pre fu h1 h2 h3
  obtain⟨n,rfl⟩:∃n,fu=n+1:=⟨fu - 1,by omega⟩
  have hpl:pre.length<l0.length:=by rw [h1];simp
  have hy:l0[pre.length]?=some y:=by rw [h1];simp
  rw [FI,CQ]
  simp only [FA hpl,F8 hpl,F8 hlt,BM,cond_true,Ge,Int.toNat_natCast,AN hy,AN hi,Tb,Option.bind_some]
  by_cases h:pb y x=true
  ·
   rw [h,cond_true,Kf (by omega)]
   have:=ih (pre++[y]) n (by rw [h1];simp) h2 (by simp at h3;omega)
   rw [List.length_append,List.length_singleton] at this
   rw [show(pre.length:Int)+1=((pre.length+1:Nat):Int) by omega,this]
   have e:GO x (y::t)=GO x t+1:=by unfold GO;rw [List.takeWhile_cons,if_pos h];rfl
   rw [e];congr 1;omega
  ·
   have e:GO x (y::t)=0:=by unfold GO;rw [List.takeWhile_cons,if_neg h];rfl
   have h':pb y x=false:=by simpa using h
   rw [h',cond_false,e,Nat.add_zero]
theorem Sd {p:A9} {ch:List Int} {sf20:List A8→List Int→Bool→Option (List A8)} {ov l:List A8} {E:Int} {i:Nat} {x:A8} (hi:ov[i]?=some x) (hl:l.length≤100) (hw:IntKind.i64.wrap ((i:Int)+1)=(i:Int)+1) (sf:List A8→Int→Option (List A8)):
  BK p ch sf20 (ov,E) sf l (i:Int)=sf (Mj x l) ((i:Int)+1):=by
 have hlt:i<ov.length:=(List.getElem?_eq_some_iff.1 hi).1
 have hle:=Uh x l
 obtain⟨fu,hfu⟩:∃n:Nat,n=1000000:=⟨_,rfl⟩
 rw [BK,← hfu]
 simp only [FA hlt,cond_true,Ge,hw]
 refine(Sc (l0:=l) (E:=E) hi _ l [] fu rfl (by omega) (by omega)).trans ?_
 ·
  simp only [List.length_nil,Nat.zero_add,cond_true,Int.toNat_natCast,AN hi,List.nil_append,List.drop_zero,Nat.sub_zero]
  have e1:(l.drop (GO x l)).take (l.length - GO x l)=l.drop (GO x l):=List.take_of_length_le (by simp)
  have ins:(if GO x l=l.length∨l.getD (GO x l) default≠x then l.take (GO x l)++[x]++l.drop (GO x l) else l)=Mj x l:=(PT x l).symm
  have hcks:∀R:Option (List A8),(ck ((0:Int)≤(GO x l:Int)∧(GO x l:Int)≤(l.length:Int))<|ck (((l.take (GO x l)).length)*16≤140737488355328)<|ck ((0:Int)≤(i:Int)∧(i:Int)<(ov.length:Int))<|ck (((l.take (GO x l)).length+[x].length)*16≤140737488355328)<|ck ((0:Int)≤(GO x l:Int)∧(GO x l:Int)≤(l.length:Int))<|ck (((l.take (GO x l)++[x]).length+((l.drop (GO x l)).take (l.length - GO x l)).length)*16≤140737488355328) R)=R:=by
   intro R
   have t1:(l.take (GO x l)).length≤100:=by rw [List.length_take];omega
   have t2:((l.drop (GO x l)).take (l.length - GO x l)).length≤100:=by rw [e1,List.length_drop];omega
   rw [BU (by omega),BU (by omega),BU (by omega),BU (by simp only [List.length_singleton];omega),BU (by omega),BU (by simp only [List.length_append,List.length_singleton];omega)]
  rw [hcks,e1]
  by_cases hp:GO x l=l.length
  ·
   rw [if_pos (.inl hp)] at ins
   rw [decide_eq_true (by omega),cond_true,ins]
  ·
   rw [decide_eq_false (by omega),cond_false,BU (by omega),BU (by omega)]
   by_cases hx:l.getD (GO x l) default=x
   ·
    rw [if_neg (fun h=>h.elim hp fun h=>h hx)] at ins
    rw [decide_eq_true hx,Bool.not_true,cond_false];rw [← ins]
   ·
    rw [if_pos (.inr hx)] at ins
    rw [decide_eq_false hx,Bool.not_false,cond_true,ins]
def Ka (l ov:List A8):List A8:=ov.foldl (fun l x=>Mj x l) l
theorem Lr {x:A8} :∀{ov l:List A8},x∈Ka l ov ↔ x∈l∨x∈ov
 |[],l=>by simp [Ka]
 |y::ov,l=>by
  show x∈Ka (Mj y l) ov ↔ _
  rw [Lr,Nw,List.mem_cons]
  constructor
  ·
   rintro((h |h) |h)
   · exact .inr (.inl h)
   · exact .inl h
   · exact .inr (.inr h)
  ·
   rintro(h |h |h)
   · exact .inl (.inr h)
   · exact .inl (.inl h)
   · exact .inr h
theorem K7:∀{ov l:List A8},l.Pairwise (fun a b=>pb a b=true)→(Ka l ov).Pairwise fun a b=>pb a b=true
 |[],l,h=>h
 |y::ov,l,h=>K7 (ov:=ov) (O4 h)
def PU (p:A9) (l:List A8):Prop:=l.Pairwise (fun a b=>pb a b=true)∧∀x∈l,x∈HT p
theorem PU.len {p:A9} {l:List A8} (hs:Ey p) (h:PU p l):l.length≤48:=
 Nat.le_trans (IS (lt:=fun a b=>pb a b=true) JD JE (Lq p) h.1 h.2).length_le (O3 hs)
theorem PU.ins {p:A9} {l ov:List A8} (h:PU p l) (ho:∀x∈ov,x∈HT p):PU p (Ka l ov):=
 ⟨K7 h.1,fun x hx=>(Lr.1 hx).elim (h.2 x) (ho x)⟩
theorem O5 {p:A9} (hs:Ey p) {ch:List Int} {sf20:List A8→List Int→Bool→Option (List A8)} {ov:List A8} {E:Int} (hov:∀x∈ov,x∈HT p) (hol:ov.length≤1000) {l:List A8} (hl:PU p l):
  B8 (BK p ch sf20 (ov,E)) (((ov.length:Int) - 0).toNat+1) l 0=(CY p ch).bind fun nx=>sf20 (Ka l ov) nx.1 nx.2:=by
 refine H3 (B:=BK p ch sf20 (ov,E)) (fun _ l=>PU p l) (fun _ t l=>(CY p ch).bind fun nx=>sf20 (Ka l t) nx.1 nx.2) ov (by omega) ?_ ?_ (by omega) hl
 ·
  intro sf s hI
  rw [BK,Jy,cond_false];rfl
 ·
  intro sf i s x t a1 a2 a3 hI ih
  have:=hI.len hs
  rw [Sd a2 (by omega) a3]
  exact ih _ (hI.ins (ov:=[x]) fun y hy=>by rw [List.mem_singleton] at hy;subst hy;exact hov _ (Lm a2))
def Tt (p:A9) (l:List A8) (L:List (List Int)):List A8:=L.foldl (fun l c=>Ka l (FX p (EW p c.reverse))) l
theorem PV {p:A9} {x:A8} :∀{L:List (List Int)} {l:List A8},x∈Tt p l L ↔ x∈l∨∃c∈L,x∈FX p (EW p c.reverse)
 |[],l=>by simp [Tt]
 |c::L,l=>by
  show x∈Tt p (Ka l (FX p (EW p c.reverse))) L ↔ _
  rw [PV,Lr]
  constructor
  ·
   rintro((h |h) |⟨d,hd,h⟩)
   · exact .inl h
   · exact .inr ⟨c,List.mem_cons_self ..,h⟩
   · exact .inr ⟨d,List.mem_cons_of_mem _ hd,h⟩
  ·
   rintro(h |⟨d,hd,h⟩)
   · exact .inl (.inl h)
   ·
    rcases List.mem_cons.1 hd with rfl |hd
    · exact .inl (.inr h)
    · exact .inr ⟨d,hd,h⟩
theorem O6 {p:A9} :∀{L:List (List Int)} {l:List A8},l.Pairwise (fun a b=>pb a b=true)→(Tt p l L).Pairwise fun a b=>pb a b=true
 |[],l,h=>h
 |c::L,l,h=>O6 (L:=L) (K7 h)
theorem M3 {p:A9} {w:List (AL × AR)} :w∈ES (BT p (GN 0 p.variables.length)) ↔ ∃ch,Kl ch (Ik p.variables)∧w=EW p ch:=by
 rw [Sb];exact HS
theorem Ny {p:A9} (hs:Ey p) {ch:List Int} (hf:Kl ch (Ik p.variables)):∀a∈ch,0≤a∧a<8:=by
 intro a ha
 obtain⟨l1,l2⟩:=IC hf
 obtain⟨i,hi,e⟩:=List.getElem_of_mem ha
 obtain⟨b,b1,b2,b3⟩:=JY hf (List.getElem?_eq_getElem (show i<p.variables.length by omega))
 rw [List.getElem?_eq_getElem hi,e] at b1;obtain rfl:=Option.some.inj b1
 have:=(hs.var _ (List.getElem_mem (show i<p.variables.length by omega))).2.1
 omega
theorem Tu {p:A9} (hp:CC p) (ho:E5 p=true) (hs:Ey p):Du p=some (Ij p):=by
 obtain⟨fu,hfu⟩:∃n:Nat,n=1000000:=⟨_,rfl⟩
 have hk:=GG.of ho
 have hv6:=hs.vars
 unfold Du
 rw [← hfu,BU (by omega)]
 have hov:∀w,∀x∈FX p w,x∈HT p:=fun w x hx=>(HD.1 hx).1
 have hol:∀w,(FX p w).length≤1000:=fun w=>by rw [← Ox,List.length_map];have:=Oy hs w;omega
 have key:∀(L:List (List Int)) (c:List Int) (l:List A8) (fuel:Nat),Pc (nr (Ik p.variables).reverse) (c::L)→(∀c'∈c::L,Kl c' (Ik p.variables).reverse)→PU p l→L.length+2<fuel→
   In (Cv p) fuel l c.reverse true=some (Tt p l (c::L)):=by
  intro L
  induction L with
  |nil=>
   intro c l fuel he hc hl hfl
   obtain⟨n,rfl⟩:∃n,fuel=n+1+1:=⟨fuel - 2,by omega⟩
   have hfc:Kl c.reverse (Ik p.variables):=by have:=Gv (hc c (List.mem_cons_self ..));rwa [List.reverse_reverse] at this
   rw [Ib,Cv,cond_true,Pg hp ho hs hfc,Option.bind_some,O5 hs (hov _) (hol _) hl]
   rw [Pd c.reverse (IC hfc).2 (by omega) (fun a ha=>by have:=Ny hs hfc a ha;omega)]
   unfold Mg
   rw [List.reverse_reverse,show nr (Ik p.variables).reverse c=none from he]
   simp only [Option.map_none,Option.bind_some]
   rw [Ib,Cv];rfl
  |cons d L ih=>
   intro c l fuel he hc hl hfl
   obtain⟨n,rfl⟩:∃n,fuel=n+1:=⟨fuel - 1,by omega⟩
   have hfc:Kl c.reverse (Ik p.variables):=by have:=Gv (hc c (List.mem_cons_self ..));rwa [List.reverse_reverse] at this
   rw [Ib,Cv,cond_true,Pg hp ho hs hfc,Option.bind_some,O5 hs (hov _) (hol _) hl]
   rw [Pd c.reverse (IC hfc).2 (by omega) (fun a ha=>by have:=Ny hs hfc a ha;omega)]
   unfold Mg
   rw [List.reverse_reverse,show nr (Ik p.variables).reverse c=some d from he.1]
   simp only [Option.map_some,Option.bind_some]
   exact ih d _ n he.2 (fun c' h=>hc c' (List.mem_cons_of_mem _ h)) (hl.ins (hov _)) (by simp at hfl;omega)
 have hn1:∀n∈(Ik p.variables).reverse,1≤n∧n≤8:=by
  intro n hn
  rw [List.mem_reverse] at hn
  obtain⟨v,hv,rfl⟩:=List.mem_map.1 hn
  have:=hk.ch v hv;have:=(hs.var v hv).2.1
  omega
 obtain⟨en,t,ht⟩:=Mf (ns:=(Ik p.variables).reverse) fun n hn=>(hn1 n hn).1
 have hlen:=Nt (ns:=(Ik p.variables).reverse) fun n hn=>(hn1 n hn).2
 have hz:(List.replicate p.variables.length (0:Int))=(((Ik p.variables).reverse.map fun _=>(0:Int)).reverse):=by
  rw [← List.map_reverse,List.reverse_reverse,Ik,List.map_map]
  exact(List.map_const' ..).symm
 rw [hz,key t _ [] fu (by rw [← ht];exact en) (fun c' h=>Ix.1 (by rw [ht];exact h)) ⟨List.Pairwise.nil,by simp⟩ (by
  rw [ht] at hlen
  have h8:8 ^ ((Ik p.variables).reverse).length≤8 ^ 6:=Nat.pow_le_pow_right (by omega) (by simp [Ik];omega)
  simp only [List.length_cons] at hlen
  have:(8:Nat) ^ 6=262144:=by decide
  omega),← ht]
 congr 1
 refine Ph (O6 List.Pairwise.nil) (IG _ _) fun x=>?_
 rw [PV,JF]
 constructor
 ·
  rintro(h |⟨c,hc,hx⟩)
  · cases h
  ·
   obtain⟨h1,h2⟩:=HD.1 hx
   have hf:=Gv (Ix.1 hc)
   rw [List.reverse_reverse] at hf
   exact⟨h1,_,M3.2 ⟨_,hf,rfl⟩,h2⟩
 ·
  rintro⟨h1,w,hw,h2⟩
  obtain⟨ch,hf,rfl⟩:=M3.1 hw
  refine .inr ⟨ch.reverse,Ix.2 (Gv hf),?_⟩
  rw [List.reverse_reverse];exact HD.2 ⟨h1,h2⟩
theorem VB {p:A9} (hp:CC p):∃b,E3 p=some b∧(b=true→Ey p∧(E5 p=true→(Ij p).length≤6)):=by
 unfold E3
 obtain⟨b,hb,hS⟩:=Vn hp
 rw [hb]
 simp only [Option.bind_some,Ge]
 cases b
 · exact⟨false,rfl,by simp⟩
 have hs:=hS rfl
 obtain⟨mn,hmn⟩:=PE p 150 (by have:=hs.vars;omega)
 simp only [Bool.not_true,cond_false,hmn,Option.bind_some]
 cases decide (150≤mn)
 rotate_left
 · exact⟨false,rfl,by simp⟩
 simp only [cond_false]
 rw [Pa hp]
 cases ho:E5 p
 · exact⟨true,rfl,fun _=>⟨hs,by simp⟩⟩
 simp only [cond_true,Option.bind_some,ne_eq,not_true_eq_false,decide_false,cond_false]
 rw [Tu hp ho hs,Option.bind_some]
 refine⟨_,rfl,fun h=>⟨hs,fun _=>?_⟩⟩
 have:=of_decide_eq_true h;omega
theorem Tv (a b:A8):NZ a b=pb a b:=by
 show J6 [a.leaf,a.cell] [b.leaf,b.cell] =_
 unfold pb
 simp [J6]
abbrev PB:=List (A8 × Bool)
def I7 (p:A9) (w:List (AL × AR)):PB:=(FX p w).map fun x=>(x,true)
theorem Nz {p:A9} {w:List (AL × AR)} :(I7 p w).map (·.1)=FX p w:=by
 unfold I7;rw [List.map_map];exact List.map_id' _
theorem N0 (p:A9) (w:List (AL × AR)):He (I7 p w):=by
 unfold I7 He
 rw [List.pairwise_map,LJ]
 exact((Lq p).filter _).imp fun h=>by rw [Tv];exact h
theorem N1 (p:A9) (w:List (AL × AR)) (x:A8):B0 (I7 p w) x=if x∈FX p w then some true else none:=by
 by_cases h:x∈FX p w
 · rw [if_pos h];exact Je (N0 p w) (List.mem_map.2 ⟨x,h,rfl⟩)
 ·
  rw [if_neg h]
  cases hg:B0 (I7 p w) x with
  |none=>rfl
  |some b=>
   obtain⟨y,hy,e⟩:=List.mem_map.1 (FK hg)
   obtain⟨rfl,_⟩:=Prod.mk.inj e
   exact absurd hy h
theorem O7 {p:A9} (hk:GG p) {x:A8} (hx:x ∉ HT p):∀{w:List (AL × AR)},(∀vc∈w,vc.1∈p.variables∧vc.2∈vc.1.choices)→HV p w x=0
 |[],_=>rfl
 |vc::w,h=>by
  have ih:=O7 hk hx (w:=w) fun vc hvc=>h vc (List.mem_cons_of_mem _ hvc)
  obtain⟨h1,h2⟩:=h vc (List.mem_cons_self ..)
  have:IQ p x vc=0:=by
   unfold IQ
   by_cases hl:x.leaf∈vc.1.leaves
   ·
    rw [if_pos hl]
    have hlf:=hk.leaf _ h1 _ hl
    unfold Tf
    have:∀us:List Bv,(∀u∈us,u.cell∈p.cells)→(us.map fun u=>if ix p.cells u.cell=x.cell then u.places else 0).sum=0:=by
     intro us
     induction us with
     |nil=>intro _;rfl
     |cons u us ihu=>
      intro hu
      rw [List.map_cons,List.sum_cons,ihu fun u' h'=>hu u' (List.mem_cons_of_mem _ h')]
      obtain⟨k,e1,e2⟩:=Lp (hu u (List.mem_cons_self ..))
      have hkl:k<p.cells.length:=(List.getElem?_eq_some_iff.1 e2).1
      have: ¬ix p.cells u.cell=x.cell:=fun e=>hx (Oz.2 ⟨hlf,by omega,by omega⟩)
      rw [if_neg this];rfl
    exact this _ fun u hu=>(hk.use _ h1 _ h2 u hu).1
   · rw [if_neg hl]
  simp only [HV,List.map_cons,List.sum_cons] at ih ⊢
  omega
theorem LL {p:A9} (hk:GG p) {w:List (AL × AR)} (hw:∀vc∈w,vc.1∈p.variables∧vc.2∈vc.1.choices) (x:A8):x∈FX p w ↔ G1 p x<HV p w x:=by
 rw [HD]
 refine⟨fun h=>h.2,fun h=>⟨?_,h⟩⟩
 by_cases hx:x∈HT p
 · exact hx
 · have:=O7 hk hx hw;have:=IR hk x;omega
theorem R5 {p:A9} (hk:GG p) {V:List Int} (hV:∀i∈V,0≤i∧i<(p.variables.length:Int)):∀w∈ES (BT p V),∀e,He e→(∀x,vl e x=HV p w x)→I7 p w=HE (G1 p) e:=by
 intro w hw e he hx
 refine HH (N0 p w) (GM _ he) fun x=>?_
 rw [N1,Hc _ (IR hk) he,hx]
 have:=LL hk (IF hV hw) x
 by_cases h:x∈FX p w
 · rw [if_pos h,if_pos (this.1 h)]
 · rw [if_neg h,if_neg fun h'=>h (this.2 h')]
section
variable {R : Type} [DecidableEq R]
theorem R6 {b:(PB→Option R)→A8 × Bool→PB→Option R} {K:PB→Option R} (hb:∀sf q m,b sf q m=sf (DJ m q.1 true)) {bad m:PB} (hm:He m) {R0:Option R}
  (hK:∀m',He m'→(∀x,B0 m' x=if x∈bad.map (·.1) then some true else B0 m x)→K m'=R0):Jf b K bad m=R0:=by
 unfold Jf
 refine LC (fun rest m'=>He m'∧(∀q∈rest,q∈bad)∧∀x,(x∈bad.map (·.1)→x∈rest.map (·.1)∨B0 m' x=some true)∧(x ∉ bad.map (·.1)→B0 m' x=B0 m x)) R0 ?_ ?_ bad m ⟨hm,fun q h=>h,fun x=>⟨.inl,fun _=>rfl⟩⟩
 ·
  rintro m' ⟨h1,_,h3⟩
  refine hK m' h1 fun x=>?_
  by_cases hx:x∈bad.map (·.1)
  · rw [if_pos hx];exact((h3 x).1 hx).resolve_left (by simp)
  · rw [if_neg hx];exact(h3 x).2 hx
 ·
  rintro r1 r2 q m' sf ⟨h1,h2,h3⟩ ih
  rw [hb]
  refine ih _ ⟨Hu h1 _ _,fun q' hq=>h2 q' ?_,fun x=>⟨fun hx=>?_,fun hx=>?_⟩⟩
  ·
   rcases List.mem_append.1 hq with h |h
   · exact List.mem_append.2 (.inl h)
   · exact List.mem_append.2 (.inr (List.mem_cons_of_mem _ h))
  ·
   rw [G5]
   by_cases e:q.1=x
   · right;rw [if_pos e]
   ·
    rw [if_neg e]
    rcases (h3 x).1 hx with h |h
    ·
     left
     simp only [List.map_append,List.map_cons,List.mem_append,List.mem_cons] at h ⊢
     rcases h with h |h |h
     · exact .inl h
     · exact absurd h.symm e
     · exact .inr h
    · exact .inr h
  ·
   rw [G5]
   have:q.1≠x:=fun e=>hx (by rw [← e];exact List.mem_map.2 ⟨q,h2 q (by simp),rfl⟩)
   rw [if_neg this];exact(h3 x).2 hx
end
theorem Tw {p:A9} (hs:Ey p) (w:List (AL × AR)) (b:Bool) (V:List Int) (bs:List PB) (hb:bs.length≤1000000):
  BP (I7 p w) b ⟨V,bs⟩=some (if FX p w≠[] then (true,true,⟨V,bs++[I7 p w]⟩) else (false,false,⟨V,bs⟩)):=by
 have hl:(I7 p w).length=(FX p w).length:=by unfold I7;rw [List.length_map]
 have hl2:(FX p w).length≤48:=by rw [← Ox,List.length_map];exact Oy hs w
 unfold BP
 rw [BU (by omega)]
 by_cases h:FX p w=[]
 ·
  have h0:(I7 p w).length=0:=by rw [hl,h];rfl
  rw [if_neg (by simp [h]),h0];rfl
 ·
  have h0:0<(I7 p w).length:=by rw [hl];exact List.length_pos_iff.2 h
  rw [if_pos h,decide_eq_true (show(0:Int)<((I7 p w).length:Int) by omega),cond_true]
  refine R6 (fun sf q m=>rfl) List.Pairwise.nil fun m' h1 h2=>?_
  have e:m'=I7 p w:=HH h1 (N0 p w) fun x=>by
   rw [h2,N1,Nz];rfl
  rw [EA,BU (by simp only [List.length_singleton];omega),decide_eq_true (show(0:Int)<((I7 p w).length:Int) by omega),e]
def VS (p:A9) (V:List Int):Bool:=(ES (BT p V)).all fun w=>decide (FX p w≠[])
def FY (p:A9) (V:List Int):DM:=⟨V,(ES (BT p V)).map (I7 p)⟩
theorem R7 {p:A9} (hs:Ey p) (V:List Int):∀(L:List (List (AL × AR))) (bs:List PB),bs.length+L.length≤1000000→(L.all fun w=>decide (FX p w≠[]))=true→
  K3 (fun xs s=>BP xs s.1 s.2) (L.map (I7 p)) (true,(⟨V,bs⟩:DM))=some (true,(true,⟨V,bs++L.map (I7 p)⟩))
 |[],bs,_,_=>by simp [K3]
 |w::L,bs,hl,h=>by
  rw [List.all_cons,Bool.and_eq_true] at h
  simp only [List.length_cons] at hl
  rw [List.map_cons,K3]
  simp only
  rw [Tw hs w true V bs (by omega),if_pos (of_decide_eq_true h.1)]
  simp only [Option.bind_some,cond_true]
  rw [R7 hs V L _ (by simp;omega) h.2];simp
theorem R8 {p:A9} (hs:Ey p) (V:List Int):∀(L:List (List (AL × AR))) (b:Bool) (bs:List PB),bs.length+L.length≤1000000→(L.all fun w=>decide (FX p w≠[]))=false→
  ∃bs',K3 (fun xs s=>BP xs s.1 s.2) (L.map (I7 p)) (b,(⟨V,bs⟩:DM))=some (false,(false,⟨V,bs'⟩))
 |[],b,bs,_,h=>by cases h
 |w::L,b,bs,hl,h=>by
  rw [List.all_cons] at h
  simp only [List.length_cons] at hl
  rw [List.map_cons,K3]
  simp only
  rw [Tw hs w b V bs (by omega)]
  by_cases ho:FX p w≠[]
  ·
   rw [if_pos ho,Option.bind_some]
   simp only [cond_true]
   rw [decide_eq_true ho,Bool.true_and] at h
   exact R8 hs V L _ _ (by simp;omega) h
  ·
   rw [if_neg ho,Option.bind_some]
   exact⟨bs,rfl⟩
theorem LM {p:A9} (hs:Ey p):∀(V:List Int),(∀i∈V,0≤i∧i<(p.variables.length:Int))→(ES (BT p V)).length≤8 ^ V.length
 |[],_=>by simp [BT,ES]
 |i::V,h=>by
  have ih:=LM hs V fun j hj=>h j (List.mem_cons_of_mem _ hj)
  have hi:=h i (List.mem_cons_self ..)
  have hm:p.variables.getD i.toNat default∈p.variables:=by
   rw [AN (List.getElem?_eq_getElem (show i.toNat<p.variables.length by omega))];exact List.getElem_mem _
  have hc:=(hs.var _ hm).2.1
  simp only [BT,List.map_cons,ES,List.length_flatMap,List.length_map,List.map_map] at ih ⊢
  have:∀t:List AR,(t.map fun _=>(ES (V.map fun i=>(p.variables.getD i.toNat default).choices.map fun c=>(p.variables.getD i.toNat default,c))).length).sum≤t.length*8 ^ V.length:=by
   intro t
   induction t with
   |nil=>simp
   |cons c t iht=>simp only [List.map_cons,List.sum_cons,List.length_cons,Nat.add_mul,Nat.one_mul];omega
  have h8:=this (p.variables.getD i.toNat default).choices
  have h9:(p.variables.getD i.toNat default).choices.length*8 ^ V.length≤8*8 ^ V.length:=Nat.mul_le_mul_right _ hc
  rw [List.length_cons,Nat.pow_succ,Nat.mul_comm (8 ^ V.length) 8]
  exact Nat.le_trans h8 h9
theorem VC {p:A9} (hp:CC p) (hk:GG p) (hs:Ey p) (k:Nat) (hk1:k≤16):
  EC ⟨p,LE p⟩ (k:Int)=some (((CU k (GN 0 p.variables.length)).filter (VS p)).map (FY p)):=by
 have hv:=hs.vars
 unfold EC
 simp only
 rw [Tj p.variables.length k (by omega) (by omega),Option.bind_some]
 simp only [Ge]
 have hcl:=Ii k (GN 0 p.variables.length)
 rw [Hj] at hcl
 have h6:2 ^ p.variables.length≤2 ^ 6:=Nat.pow_le_pow_right (by omega) hv
 have main:∀(L:List (List Int)) (s:List DM),(∀V∈L,V∈CU k (GN 0 p.variables.length))→s.length+L.length≤1000→
   LU (Ee ⟨p,LE p⟩) (fun v_1=>some v_1) L s=some (s++(L.filter (VS p)).map (FY p)):=by
  intro L
  induction L with
  |nil=>intro s _ _;rw [Pu];simp
  |cons V L ih=>
   intro s hL hsl
   simp only [List.length_cons] at hsl
   obtain⟨q1,q2⟩:=LI (hL V (List.mem_cons_self ..))
   have hVi:∀i∈V,0≤i∧i<(p.variables.length:Int):=fun i hi=>by have:=q2 i hi;omega
   have hVl:V.length≤6:=by
    have:=(F9.1 (hL V (List.mem_cons_self ..))).1.length_le
    rw [Hj] at this;omega
   have hwl:(ES (BT p V)).length≤262144:=by
    have h1:=LM hs V hVi
    have h2:8 ^ V.length≤8 ^ 6:=Nat.pow_le_pow_right (by omega) hVl
    have:(8:Nat) ^ 6=262144:=by decide
    omega
   rw [NU,Ee,List.filter_cons]
   cases ho:VS p V
   ·
    obtain⟨bs',hr⟩:=R8 hs V (ES (BT p V)) true [] (by simp;omega) ho
    rw [On hk hs (by omega) hVi _ (R5 hk hVi) hr,Option.bind_some]
    simp only [cond_false,Bool.false_eq_true,if_false]
    exact ih s (fun V h=>hL V (List.mem_cons_of_mem _ h)) (by omega)
   ·
    have hr:=R7 hs V (ES (BT p V)) [] (by simp;omega) ho
    rw [On hk hs (by omega) hVi _ (R5 hk hVi) hr,Option.bind_some]
    simp only [cond_true,if_true]
    rw [BU (by simp only [List.length_singleton];omega),ih _ (fun V h=>hL V (List.mem_cons_of_mem _ h)) (by simp;omega)]
    simp [FY]
 rw [main _ [] (fun V h=>h) (by simp;omega)];simp
theorem Tx:P7 (fun x y=>DC x y)=pb:=by
 funext a b
 unfold P7
 simp only [Td]
 have:=Ua a b
 by_cases h:0≤Tc a b
 ·
  rw [decide_eq_true h] at this
  rw [decide_eq_false (by omega)]
  cases hb:pb a b
  · rfl
  · rw [hb] at this;cases this
 ·
  rw [decide_eq_false h] at this
  rw [decide_eq_true (by omega)]
  cases hb:pb a b
  · rw [hb] at this;cases this
  · rfl
theorem PW (l:List A8):JR pb l where
 irr:=fun x _=>by simpa using JE x
 tot:=fun x _ y _ h1 h2=>by
  by_cases e:x=y
  · exact e
  · have:=Ts (by simp [h1]) e;rw [h2] at this;cases this
 tr:=fun x _ y _ z _ h1 h2=>JD _ _ _ h1 h2
theorem Ui {l R:List A8} (hp:l.Perm R) (hR:R.Pairwise fun a b=>pb a b=true):L7 (fun x y=>DC x y) l=some R:=by
 unfold L7
 have ho:Lh (fun x y=>DC x y) l=true:=by
  rw [Nc,Tx];exact⟨PW l,fun x _ y _=>⟨_,Td x y⟩⟩
 rw [ho,cond_true,Tx,← KV (PW l) hp.symm]
 refine hR.imp fun {a b} h=>?_
 cases hb:pb b a
 · rfl
 · exact absurd (JD _ _ _ h hb) (JE a)
theorem LN {p:A9} (hs:Ey p) (V:List Int):(LK p V).length≤48:=by
 have:=List.length_filter_le (fun x=>(ES (BT p V)).any fun w=>decide (G1 p x<HV p w x)) (HT p)
 have h2:=O3 hs
 unfold LK;omega
theorem VF {p:A9} (hk:GG p) (hs:Ey p) {V:List Int} (hV:∀i∈V,0≤i∧i<(p.variables.length:Int)) (hVl:V.length≤6):ED (FY p V)=some (LK p V):=by
 unfold ED
 have hwl:((FY p V).bad).length≤262144:=by
  show((ES (BT p V)).map (I7 p)).length≤_
  rw [List.length_map]
  have h1:=LM hs V hV
  have h2:8 ^ V.length≤8 ^ 6:=Nat.pow_le_pow_right (by omega) hVl
  have:(8:Nat) ^ 6=262144:=by decide
  omega
 refine H2 (B:=Dz (FY p V)) (fun i (m:PB)=>He m∧∀x,B0 m x=if (((FY p V).bad.take i).any fun B=>decide (x∈B.map (·.1)))=true then some true else none) (fun _ _ _=>some (LK p V)) (FY p V).bad (by omega) ?_ ?_ (by omega) ⟨List.Pairwise.nil,fun x=>by simp [B0]⟩
 ·
  rintro sf m ⟨h1,h2⟩
  rw [List.take_length] at h2
  have hkey:m.map (·.1)=LK p V:=by
   refine Ph ?_ (IG p V) fun x=>?_
   · rw [List.pairwise_map];exact h1.imp fun h=>by rw [← Tv];exact h
   ·
    have hx:=h2 x
    rw [JF]
    constructor
    ·
     intro h
     obtain⟨q,hq,rfl⟩:=List.mem_map.1 h
     rw [Je h1 (show(q.1,q.2)∈m from hq)] at hx
     split at hx
     ·
      rename_i ha
      obtain⟨B,hB,hx2⟩:=List.any_eq_true.1 ha
      obtain⟨w,hw,rfl⟩:=List.mem_map.1 hB
      have:=of_decide_eq_true hx2
      rw [Nz] at this
      have:=HD.1 this
      exact⟨this.1,w,hw,this.2⟩
     · cases hx
    ·
     rintro⟨h3,w,hw,h4⟩
     rw [if_pos] at hx
     · exact List.mem_map.2 ⟨_,FK hx,rfl⟩
     ·
      refine List.any_eq_true.2 ⟨I7 p w,List.mem_map.2 ⟨w,hw,rfl⟩,decide_eq_true ?_⟩
      rw [Nz];exact HD.2 ⟨h3,h4⟩
  rw [Dz,Jy,cond_false]
  unfold Jf
  refine LC (fun rest l=>(l++rest.map (·.1)).Perm (LK p V)) _ ?_ ?_ m [] (by rw [← hkey];exact List.Perm.refl _)
  ·
   intro l hl
   rw [List.map_nil,List.append_nil] at hl
   have:=hl.length_eq;have:=LN hs V
   rw [EU,Ui hl (IG p V),Option.bind_some,BU (by omega)]
  ·
   intro r1 r2 q l sf' hl ih
   have hll:=hl.length_eq;have:=LN hs V
   rw [List.length_append] at hll
   rw [EV,BU (by simp only [List.length_singleton];omega)]
   refine ih _ (List.Perm.trans ?_ hl)
   rw [List.append_assoc,List.map_append,List.map_append,List.map_cons]
   refine List.Perm.append_left l ?_
   exact(List.perm_middle (a:=q.1) (l₁:=r1.map (·.1)) (l₂:=r2.map (·.1))).symm
 ·
  rintro sf i m B t a1 a2 a3 ⟨h1,h2⟩ ih
  rw [Dz,FA a1,cond_true,BU (by omega),Int.toNat_natCast,AN a2]
  refine R6 (fun sf q m=>rfl) h1 fun m' g1 g2=>?_
  rw [ET,a3]
  refine ih m' ⟨g1,fun x=>?_⟩
  rw [g2,h2,List.take_add_one,a2,List.any_append]
  by_cases hB:x∈B.map (·.1)
  · rw [if_pos hB,if_pos (by simp only [Option.toList_some,List.any_cons,decide_eq_true hB,Bool.true_or,Bool.or_true])]
  · rw [if_neg hB];simp only [Option.toList_some,List.any_cons,List.any_nil,decide_eq_false hB,Bool.or_false]
theorem VG {p:A9} (hk:GG p) (hs:Ey p) {V:List Int} (hV:∀i∈V,0≤i∧i<(p.variables.length:Int)) (hVl:V.length≤6) {P:List A8} (hP:P.length<9223372036854775807):F4 (FY p V) P=some (D4 p ⟨V,P⟩):=by
 unfold F4
 have hwl:((FY p V).bad).length≤262144:=by
  show((ES (BT p V)).map (I7 p)).length≤_
  rw [List.length_map]
  have h1:=LM hs V hV
  have h2:8 ^ V.length≤8 ^ 6:=Nat.pow_le_pow_right (by omega) hVl
  have:(8:Nat) ^ 6=262144:=by decide
  omega
 refine(Iw (B:=DS (FY p V) P) (fun t=>some (t.all fun B=>P.any fun y=>(B0 B y).getD false)) (FY p V).bad (by omega) ?_ ?_ (by omega)).trans ?_
 · intro sf;rw [DS,Jy,cond_false];rfl
 ·
  intro sf i B t a1 a2 a3 ih
  rw [DS,FA a1,cond_true,BU (by omega),Int.toNat_natCast,AN a2,Uf P hP (fun x37=>Ea x37 B) (fun y=>(B0 B y).getD false) (fun x _=>rfl),Option.bind_some,a3,ih,List.all_cons]
  cases P.any fun y=>(B0 B y).getD false<;> rfl
 ·
  congr 1
  show(((ES (BT p V)).map (I7 p)).all fun B=>P.any fun y=>(B0 B y).getD false)=(ES (BT p V)).all fun w=>P.any fun x=>decide (G1 p x<HV p w x)
  rw [List.all_map,Bool.eq_iff_iff,List.all_eq_true,List.all_eq_true]
  have key:∀w∈ES (BT p V),(P.any fun y=>(B0 (I7 p w) y).getD false)=P.any fun x=>decide (G1 p x<HV p w x):=by
   intro w hw
   congr 1;funext y
   rw [N1]
   have:=LL hk (IF hV hw) y
   by_cases h:y∈FX p w
   · rw [if_pos h,decide_eq_true (this.1 h)];rfl
   · rw [if_neg h,decide_eq_false fun h'=>h (this.2 h')];rfl
  constructor
  · intro h w hw;rw [← key w hw];exact h w hw
  · intro h w hw;simp only [Function.comp];rw [key w hw];exact h w hw
theorem R9 {p:A9} (hk:GG p) (hs:Ey p) {V:List Int} (hV:V.Sublist (GN 0 p.variables.length)) {w:List (AL × AR)} (hw:w∈ES (BT p V)) {x:A8} (hx:G1 p x<HV p w x):x∈Ij p:=by
 have hn:(GN 0 p.variables.length).Nodup:=(Ns 0 p.variables.length).imp fun h=>by omega
 have hin:∀i∈GN 0 p.variables.length,0≤i∧i<(p.variables.length:Int):=fun i hi=>by have:=JX.1 hi;omega
 have hVi:∀i∈V,0≤i∧i<(p.variables.length:Int):=fun i hi=>hin i (hV.subset hi)
 have hpl:x∈HT p:=(HD.1 ((LL hk (IF hVi hw) x).2 hx)).1
 obtain⟨f,h1,rfl⟩:=(LH (hn.sublist hV)).1 hw
 let g:Int→AR:=fun i=>if i∈V then f i else (HR p i).choices.getD 0 default
 have hg:∀i∈GN 0 p.variables.length,g i∈(HR p i).choices:=by
  intro i hi
  show(if i∈V then f i else (HR p i).choices.getD 0 default)∈_
  by_cases h:i∈V
  · rw [if_pos h];exact h1 i h
  ·
   rw [if_neg h]
   have:=hin i hi
   have hm:HR p i∈p.variables:=by
    unfold HR;rw [AN (List.getElem?_eq_getElem (show i.toNat<p.variables.length by omega))];exact List.getElem_mem _
   have:=hk.ch _ hm
   rw [AN (List.getElem?_eq_getElem (show 0<(HR p i).choices.length by omega))];exact List.getElem_mem _
 have hd:=Th (p:=p) (f:=g) (x:=x) hV fun i hi=>PS hk hs (hin i hi) (hg i hi) x
 have he:PL p g V x=HV p (V.map fun i=>(HR p i,f i)) x:=by
  rw [PN];unfold PL
  congr 1
  refine List.map_congr_left fun i hi=>?_
  show IQ p x (HR p i,if i∈V then f i else _)=_
  rw [if_pos hi]
 refine JF.2 ⟨hpl,_,(LH hn).2 ⟨g,hg,rfl⟩,?_⟩
 rw [PN];omega
theorem VH {p:A9} (hk:GG p) (hs:Ey p) {V:List Int} (hV:V.Sublist (GN 0 p.variables.length)):VS p V=D4 p ⟨V,Ij p⟩:=by
 have hVi:∀i∈V,0≤i∧i<(p.variables.length:Int):=fun i hi=>by have:=JX.1 (hV.subset hi);omega
 unfold VS D4
 rw [Bool.eq_iff_iff,List.all_eq_true,List.all_eq_true]
 have key:∀w∈ES (BT p V),(FX p w≠[] ↔ ∃x∈Ij p,G1 p x<HV p w x):=by
  intro w hw
  constructor
  ·
   intro h
   obtain⟨x,hx⟩:=List.exists_mem_of_ne_nil _ h
   have:=(HD.1 hx).2
   exact⟨x,R9 hk hs hV hw this,this⟩
  ·
   rintro⟨x,_,hx⟩ h
   have:=(LL hk (IF hVi hw) x).2 hx
   rw [h] at this;cases this
 constructor
 ·
  intro h w hw
  obtain⟨x,h1,h2⟩:=(key w hw).1 (of_decide_eq_true (h w hw))
  exact List.any_eq_true.2 ⟨x,h1,decide_eq_true h2⟩
 ·
  intro h w hw
  obtain⟨x,h1,h2⟩:=List.any_eq_true.1 (h w hw)
  exact decide_eq_true ((key w hw).2 ⟨x,h1,of_decide_eq_true h2⟩)
theorem PX {p:A9} (hk:GG p) (hs:Ey p) {V:List Int} (hV:V.Sublist (GN 0 p.variables.length)):LK p V=(Ij p).filter fun x=>(ES (BT p V)).any fun w=>decide (G1 p x<HV p w x):=by
 refine Ph (IG p V) ((IG p _).filter _) fun x=>?_
 rw [JF,List.mem_filter,List.any_eq_true]
 constructor
 ·
  rintro⟨h1,w,hw,h2⟩
  exact⟨R9 hk hs hV hw h2,w,hw,decide_eq_true h2⟩
 ·
  rintro⟨h1,w,hw,h2⟩
  exact⟨(JF.1 h1).1,w,hw,of_decide_eq_true h2⟩
def Mk (p:A9) (m:Nat) (V:List Int):Option AS:=((CU m (Ij p)).find? fun P=>D4 p ⟨V,P⟩).map fun P=>⟨V,P⟩
def Gm (p:A9) (k:Nat):List (List Int):=(CU k (GN 0 p.variables.length)).filter fun V=>D4 p ⟨V,Ij p⟩
def KO (p:A9) (k m:Nat):Option AS:=(Gm p k).findSome? (Mk p m)
def K8 (p:A9) (k:Nat):Option AS:=(List.range' 1 (Ij p).length).findSome? (KO p k)
def Kb (p:A9):Option AS:=(List.range' 1 p.variables.length).findSome? (K8 p)
def Ja:Option AS→AS × Bool × Int
 |some r=>(r,true,0)
 |none=>(⟨[],[]⟩,false,0)
section
variable {R β : Type}
theorem Pi {B:(Int→Option R)→Int→Option R} (f:Nat→Option β) (g:β→R) (fin:Option R) (N:Nat) (hN:N<1000000000)
  (hE:∀sf,B sf ((N:Int)+1)=fin)
  (hS:∀sf (k:Nat),1≤k→k≤N→IntKind.i64.wrap ((k:Int)+1)=(k:Int)+1→B sf (k:Int)=match f k with |some b=>some (g b) |none=>sf ((k:Int)+1)):
  ∀fuel,N<fuel→B1 B fuel 1=match (List.range' 1 N).findSome? f with |some b=>some (g b) |none=>fin:=by
 have main:∀(d k fuel:Nat),k+d=N+1→1≤k→d<fuel→B1 B fuel (k:Int)=match (List.range' k d).findSome? f with |some b=>some (g b) |none=>fin:=by
  intro d
  induction d with
  |zero=>
   intro k fuel h1 h2 h3
   obtain⟨n,rfl⟩:∃n,fuel=n+1:=⟨fuel - 1,by omega⟩
   rw [FI,show(k:Int)=(N:Int)+1 by omega,hE];rfl
  |succ d ih=>
   intro k fuel h1 h2 h3
   obtain⟨n,rfl⟩:∃n,fuel=n+1:=⟨fuel - 1,by omega⟩
   rw [FI,hS _ k h2 (by omega) (Kf (by omega)),List.range'_succ,List.findSome?_cons]
   cases f k with
   |some b=>rfl
   |none=>
    simp only
    have:=ih (k+1) n (by omega) (by omega) (by omega)
    rw [show((k+1:Nat):Int)=(k:Int)+1 by omega] at this
    exact this
 intro fuel hf
 exact main N 1 fuel (by omega) (by omega) hf
end
theorem La {α:Type} [Inhabited α] (l:List α):(GN 0 l.length).map (fun i=>l.getD i.toNat default)=l:=by
 rw [Mi,List.map_map]
 refine List.ext_getElem (by simp) fun i h1 h2=>?_
 simp only [List.getElem_map,List.getElem_range,Function.comp,Int.zero_add,Int.toNat_natCast,AN (List.getElem?_eq_getElem h2)]
theorem O8 {α:Type} [Inhabited α] (m:Nat) (l:List α):CU m l=(CU m (GN 0 l.length)).map (List.map fun i=>l.getD i.toNat default):=by
 rw [← KJ,La]
theorem Uj {p:A9} (hs:Ey p):(Ij p).length≤48:=LN hs _
theorem Tz {p:A9} (hs:Ey p) {V:List Int} {P:List A8} (hV:V.Sublist (GN 0 p.variables.length)) (hP:P.Sublist (Ij p)):GL p ⟨V,P⟩=true∧Ie ⟨V,P⟩∧V.length≤6∧P.length≤48:=by
 have hVl:=hV.length_le
 rw [Hj] at hVl
 have hPl:=hP.length_le
 have hrl:=Uj hs
 have hva:=hs.vars;have hca:=hs.caps;have hce:=hs.cells
 have hVi:∀i∈V,0≤i∧i<(p.variables.length:Int):=fun i hi=>by have:=JX.1 (hV.subset hi);omega
 have hPi:∀x∈P,(0≤x.leaf∧x.leaf<(p.capacity.length:Int))∧0≤x.cell∧x.cell<(p.cells.length:Int):=fun x hx=>Oz.1 (JF.1 (hP.subset hx)).1
 refine⟨?_,⟨⟨by show V.length≤_;omega,fun i hi=>?_⟩,⟨by show P.length≤_;omega,fun x hx=>?_⟩⟩,by omega,by omega⟩
 ·
  unfold GL
  simp only [Bool.and_eq_true,List.all_eq_true,IB,Oj]
  exact⟨⟨hVi,JZ (((Ns 0 p.variables.length).sublist hV).imp fun h=>decide_eq_true h)⟩,hPi,JZ ((IG p _).sublist hP)⟩
 ·
  have:=hVi i hi
  have e:i=((i.toNat:Nat):Int):=by omega
  rw [e];exact OH (by omega)
 ·
  have h:=hPi x hx
  have e1:x.leaf=((x.leaf.toNat:Nat):Int):=by omega
  have e2:x.cell=((x.cell.toNat:Nat):Int):=by omega
  exact⟨by rw [e1];exact OH (by omega),by rw [e2];exact OH (by omega)⟩
theorem T0 {p:A9} (hp:CC p) (ho:E5 p=true) (hs:Ey p) {V:List Int} {P:List A8} (hV:V.Sublist (GN 0 p.variables.length)) (hP:P.Sublist (Ij p)):Df p ⟨V,P⟩=some (D4 p ⟨V,P⟩,0):=by
 obtain⟨h1,h2,h3,h4⟩:=Tz hs hV hP
 rw [V9 hp h2 hs (show V.length≤20 by omega),ho,h1];rfl
theorem Uk {α:Type} [Inhabited α] {m:Nat} {l:List α} {t:List Int} (ht:t∈CU m (GN 0 l.length)):(t.map fun i=>l.getD i.toNat default).Sublist l:=by
 have:=(F9.1 ht).1.map fun i=>l.getD i.toNat default
 rwa [La] at this
theorem Se {p:A9} (hp:CC p) (ho:E5 p=true) (hs:Ey p) (hL:(Ij p).length≤6) {m:Nat} {F:List (List Int)} {i:Nat} {V:List Int} (hi:F[i]?=some V) (hV:V.Sublist (GN 0 p.variables.length)) (hw:IntKind.i64.wrap ((i:Int)+1)=(i:Int)+1) (sf:Int→Option (AS × Bool × Int)):
  B1 (Cw p (Ij p) F (CU m (GN 0 (Ij p).length)) (i:Int) sf) ((((CU m (GN 0 (Ij p).length)).length:Int) - 0).toNat+1) 0=match Mk p m V with |some r=>some (Ja (some r)) |none=>sf ((i:Int)+1):=by
 have hlt:i<F.length:=(List.getElem?_eq_some_iff.1 hi).1
 have hcl:=Ii m (GN 0 (Ij p).length)
 rw [Hj] at hcl
 have h48:2 ^ (Ij p).length≤2 ^ 6:=Nat.pow_le_pow_right (by omega) hL
 refine(Iw (B:=Cw p (Ij p) F (CU m (GN 0 (Ij p).length)) (i:Int) sf) (fun t=>match (t.map (List.map fun i=>(Ij p).getD i.toNat default)).find? (fun P=>D4 p ⟨V,P⟩) with |some P=>some (Ja (some ⟨V,P⟩)) |none=>sf ((i:Int)+1)) (CU m (GN 0 (Ij p).length)) (by omega) ?_ ?_ (by omega)).trans ?_
 · intro sf';rw [Cw,Jy,cond_false,hw];rfl
 ·
  intro sf' j t T a1 a2 a3 ih
  obtain⟨q1,q2⟩:=LI (Lm a2)
  have hsub:=Uk (Lm a2)
  have hm:m≤48:=by have:=(F9.1 (Lm a2)).1.length_le;rw [Hj] at this;omega
  rw [Cw,FA a1,cond_true,BU (by omega),Int.toNat_natCast,AN a2]
  refine(H2 (B:=CR p (Ij p) F (CU m (GN 0 (Ij p).length)) (i:Int) (j:Int) sf') (s:=([]:List A8)) (fuel:=((t.length:Int) - 0).toNat+1) (fun n (s:List A8)=>s=(t.take n).map fun i=>(Ij p).getD i.toNat default) (fun _ _ _=>bif D4 p ⟨V,t.map fun i=>(Ij p).getD i.toNat default⟩ then some (Ja (some ⟨V,t.map fun i=>(Ij p).getD i.toNat default⟩)) else sf' ((j:Int)+1)) t (by omega) ?_ ?_ (by omega) rfl).trans ?_
  ·
   intro sf2 s hI
   rw [List.take_length] at hI
   rw [CR,BU (by omega),Int.toNat_natCast,AN a2,Jy,cond_false,Int.toNat_natCast,AN hi,hI,T0 hp ho hs hV hsub,Option.bind_some,a3]
   rfl
  ·
   intro sf2 n s x t' b1 b2 b3 hI ih2
   have hx:=q2 x (Lm b2)
   have hsl:s.length≤48:=by rw [hI,List.length_map,List.length_take];omega
   rw [CR]
   simp only [Int.toNat_natCast,AN a2,AN b2,F8 a1,F8 b1,FA b1,BM,cond_true,b3]
   rw [BU (by omega),BU (by simp only [List.length_singleton];omega)]
   exact ih2 _ (by rw [hI,List.take_add_one,b2];simp)
  ·
   rw [List.map_cons,List.find?_cons]
   cases D4 p ⟨V,t.map fun i=>(Ij p).getD i.toNat default⟩
   · rw [cond_false,ih]
   · rfl
 ·
  unfold Mk
  rw [O8 m (Ij p)]
  cases ((CU m (GN 0 (Ij p).length)).map (List.map fun i=>(Ij p).getD i.toNat default)).find? (fun P=>D4 p ⟨V,P⟩)<;> rfl
theorem VI {p:A9} (hp:CC p) (hs:Ey p) (hL:E5 p=true→(Ij p).length≤6):DZ p=some (bif E5 p then Ja (Kb p) else (⟨[],[]⟩,false,270)):=by
 obtain⟨fu,hfu⟩:∃n:Nat,n=1000000:=⟨_,rfl⟩
 have hv:=hs.vars
 unfold DZ
 rw [Pa hp]
 cases ho:E5 p
 · rfl
 have hL:=hL ho
 simp only [cond_true,Option.bind_some,ne_eq,not_true_eq_false,decide_false,cond_false]
 rw [decide_eq_false (by omega),cond_false,Tu hp ho hs,Option.bind_some,← hfu]
 refine(Pi (K8 p) (fun r=>Ja (some r)) (some (Ja none)) p.variables.length (by omega) ?_ ?_ fu (by omega)).trans ?_
 · intro sf;rw [D7,decide_eq_false (by omega),cond_false];rfl
 ·
  intro sf k k1 k2 hw
  rw [D7,decide_eq_true (by omega),cond_true,hw]
  simp only [Ge]
  rw [Ti _ _ (by omega) (by omega),Option.bind_some]
  have hcl:=Ii k (GN 0 p.variables.length)
  rw [Hj] at hcl
  have h6:2 ^ p.variables.length≤2 ^ 6:=Nat.pow_le_pow_right (by omega) hv
  refine Eq.trans (H3 (B:=CT p (Ij p) (sf ((k:Int)+1)) (CU k (GN 0 p.variables.length))) (s:=([]:List (List Int))) (fuel:=(((CU k (GN 0 p.variables.length)).length:Int) - 0).toNat+1) (fun n s=>s=((CU k (GN 0 p.variables.length)).take n).filter fun V=>D4 p ⟨V,Ij p⟩) (fun _ _ _=>match K8 p k with |some r=>some (Ja (some r)) |none=>sf ((k:Int)+1)) (CU k (GN 0 p.variables.length)) (by omega) ?_ ?_ (by omega) rfl) (by cases K8 p k<;> rfl)
  ·
   intro sf1 F hI
   rw [List.take_length] at hI
   have hF:F=Gm p k:=hI
   rw [CT,Jy,cond_false]
   cases hF0:F with
   |nil=>
    have:K8 p k=none:=by
     unfold K8
     rw [List.findSome?_eq_none_iff]
     intro m _
     unfold KO;rw [← hF,hF0];rfl
    rw [this];rfl
   |cons V0 F0=>
    rw [← hF0]
    have hFl:F.length≤64:=by rw [hF];unfold Gm;have:=List.length_filter_le (fun V=>D4 p ⟨V,Ij p⟩) (CU k (GN 0 p.variables.length));omega
    rw [decide_eq_false (by rw [hF0];simp<;> omega),cond_false,← hfu]
    refine(Pi (KO p k) (fun r=>Ja (some r)) (sf ((k:Int)+1)) (Ij p).length (by omega) ?_ ?_ fu (by omega)).trans ?_
    · intro sf2;rw [D6,decide_eq_false (by omega),cond_false]
    ·
     intro sf2 m m1 m2 hw2
     rw [D6,decide_eq_true (by omega),cond_true,Ti _ _ (by omega) (by omega),Option.bind_some]
     refine(Iw (B:=CS p (Ij p) F (m:Int) sf2 (CU m (GN 0 (Ij p).length))) (fun t=>match t.findSome? (Mk p m) with |some r=>some (Ja (some r)) |none=>sf2 ((m:Int)+1)) F (by omega) ?_ ?_ (by omega)).trans ?_
     · intro sf3;rw [CS,Jy,cond_false,hw2];rfl
     ·
      intro sf3 i V t a1 a2 a3 ih
      have hVs:V.Sublist (GN 0 p.variables.length):=by
       have:=Lm a2;rw [hF] at this
       exact(F9.1 (List.mem_filter.1 this).1).1
      rw [CS,FA a1,cond_true,Se hp ho hs hL a2 hVs a3,List.findSome?_cons]
      cases Mk p m V with
      |some r=>rfl
      |none=>exact ih
     ·
      rw [hF];unfold KO
      cases (Gm p k).findSome? (Mk p m)<;> rfl
    ·
     unfold K8
     cases (List.range' 1 (Ij p).length).findSome? (KO p k)<;> rfl
  ·
   intro sf1 i F V t a1 a2 a3 hI ih
   have hVs:V.Sublist (GN 0 p.variables.length):=(F9.1 (Lm a2)).1
   have hFl:F.length≤64:=by rw [hI];have:=List.length_filter_le (fun V=>D4 p ⟨V,Ij p⟩) ((CU k (GN 0 p.variables.length)).take i);rw [List.length_take] at this;omega
   rw [CT,FA a1,cond_true,BU (by omega),Int.toNat_natCast,AN a2,T0 hp ho hs hVs (List.Sublist.refl _),Option.bind_some,a3]
   cases hpv:D4 p ⟨V,Ij p⟩
   ·
    rw [cond_false]
    exact ih _ (by rw [List.take_add_one,a2,List.filter_append,← hI];simp [hpv])
   ·
    rw [cond_true,BU (by omega),BU (by simp only [List.length_singleton];omega)]
    exact ih _ (by rw [List.take_add_one,a2,List.filter_append,← hI];simp [hpv])
 ·
  show _=some (Ja (Kb p))
  unfold Kb
  cases (List.range' 1 p.variables.length).findSome? (K8 p)<;> rfl
theorem N2 {α:Type} {f g:α→Bool} :∀{l:List α},(∀x∈l,f x=g x)→l.find? f=l.find? g
 |[],_=>rfl
 |a::l,h=>by
  rw [List.find?_cons,List.find?_cons,h a (List.mem_cons_self ..),N2 fun x hx=>h x (List.mem_cons_of_mem _ hx)]
theorem Pj {p:A9} (hk:GG p):∀{V:List Int},(∀i∈V,0≤i∧i<(p.variables.length:Int))→∃w,w∈ES (BT p V)
 |[],_=>⟨[],by simp [BT,ES]⟩
 |i::V,h=>by
  obtain⟨w,hw⟩:=Pj hk (V:=V) fun j hj=>h j (List.mem_cons_of_mem _ hj)
  have hi:=h i (List.mem_cons_self ..)
  have hm:p.variables.getD i.toNat default∈p.variables:=by
   rw [AN (List.getElem?_eq_getElem (show i.toNat<p.variables.length by omega))];exact List.getElem_mem _
  have hc:=hk.ch _ hm
  have h0:(p.variables.getD i.toNat default).choices[0]∈(p.variables.getD i.toNat default).choices:=List.getElem_mem (by omega)
  exact⟨_::w,List.mem_flatMap.2 ⟨_,List.mem_map.2 ⟨_,h0,rfl⟩,List.mem_map.2 ⟨w,hw,rfl⟩⟩⟩
theorem MD {p:A9} {V:List Int} (hV:V.Sublist (GN 0 p.variables.length)):∀i∈V,0≤i∧i<(p.variables.length:Int):=fun i hi=>by have:=JX.1 (hV.subset hi);omega
theorem Qz {p:A9} (hk:GG p) (hs:Ey p) {V:List Int} (hV:V.Sublist (GN 0 p.variables.length)) {P:List A8} (h:D4 p ⟨V,P⟩=true) (q:A8→Bool) (hq:∀w∈ES (BT p V),∀x,G1 p x<HV p w x→q x=true):
  D4 p ⟨V,P.filter q⟩=true∧P.filter q≠[]:=by
 unfold D4 at h ⊢
 rw [List.all_eq_true] at h
 have key:∀w∈ES (BT p V),∃x∈P.filter q,G1 p x<HV p w x:=by
  intro w hw
  obtain⟨x,h1,h2⟩:=List.any_eq_true.1 (h w hw)
  have h2:=of_decide_eq_true h2
  exact⟨x,List.mem_filter.2 ⟨h1,hq w hw x h2⟩,h2⟩
 refine⟨List.all_eq_true.2 fun w hw=>?_,fun e=>?_⟩
 ·
  obtain⟨x,h1,h2⟩:=key w hw
  exact List.any_eq_true.2 ⟨x,h1,decide_eq_true h2⟩
 ·
  obtain⟨w,hw⟩:=Pj hk (MD hV)
  obtain⟨x,h1,_⟩:=key w hw
  rw [e] at h1;cases h1
theorem O9 {p:A9} {V:List Int} {P:List A8} (hP:P.Sublist (Ij p)) (h:D4 p ⟨V,P⟩=true):Mk p P.length V≠none:=by
 unfold Mk
 intro e
 rw [Option.map_eq_none_iff,List.find?_eq_none] at e
 exact e P (F9.2 ⟨hP,rfl⟩) h
theorem Ul {p:A9} (hk:GG p) (hs:Ey p) {V:List Int} (hV:V.Sublist (GN 0 p.variables.length)) {m:Nat} (h:∀m',1≤m'→m'<m→Mk p m' V=none):
  (CU m (LK p V)).find? (fun P=>D4 p ⟨V,P⟩)=(CU m (Ij p)).find? fun P=>D4 p ⟨V,P⟩:=by
 rw [PX hk hs hV,JW,List.find?_filter]
 refine N2 fun P hP=>?_
 obtain⟨p1,p2⟩:=F9.1 hP
 cases hf:D4 p ⟨V,P⟩
 · simp
 ·
  have hall:(P.all fun x=>(ES (BT p V)).any fun w=>decide (G1 p x<HV p w x))=true:=by
   obtain⟨g1,g2⟩:=Qz hk hs hV hf (fun x=>(ES (BT p V)).any fun w=>decide (G1 p x<HV p w x)) fun w hw x hx=>List.any_eq_true.2 ⟨w,hw,decide_eq_true hx⟩
   have hsub:=(List.filter_sublist (p:=fun x=>(ES (BT p V)).any fun w=>decide (G1 p x<HV p w x)) (l:=P))
   have hlen:=hsub.length_le
   have hpos:=List.length_pos_iff.2 g2
   rcases Nat.lt_or_ge (P.filter fun x=>(ES (BT p V)).any fun w=>decide (G1 p x<HV p w x)).length m with hlt |hge
   · exact absurd (h _ hpos hlt) (O9 (hsub.trans p1) g1)
   ·
    have e:=hsub.eq_of_length (by omega)
    rw [List.all_eq_true]
    intro x hx
    rw [← e] at hx
    exact(List.mem_filter.1 hx).2
  rw [hall];rfl
theorem Q0 {p:A9} (hk:GG p) {V:List Int} (hV:V.Sublist (GN 0 p.variables.length)) (h:D4 p ⟨V,Ij p⟩=true):1≤(Ij p).length:=by
 obtain⟨w,hw⟩:=Pj hk (MD hV)
 unfold D4 at h
 obtain⟨x,h1,_⟩:=List.any_eq_true.1 (List.all_eq_true.1 h w hw)
 exact List.length_pos_of_mem h1
theorem KK {p:A9} {k:Nat} {V:List Int} :V∈Gm p k ↔ V.Sublist (GN 0 p.variables.length)∧V.length=k∧D4 p ⟨V,Ij p⟩=true:=by
 unfold Gm;rw [List.mem_filter,F9]
 exact⟨fun h=>⟨h.1.1,h.1.2,h.2⟩,fun h=>⟨⟨h.1,h.2.1⟩,h.2.2⟩⟩
theorem Sf {p:A9} (hk:GG p) {k:Nat} (h:Gm p k≠[]):∃r,K8 p k=some r:=by
 obtain⟨V,hV⟩:=List.exists_mem_of_ne_nil _ h
 obtain⟨h1,h2,h3⟩:=KK.1 hV
 have hl:=Q0 hk h1 h3
 cases hh:K8 p k with
 |some r=>exact⟨r,rfl⟩
 |none=>
  unfold K8 KO at hh
  rw [List.findSome?_eq_none_iff] at hh
  have:=hh (Ij p).length (by rw [List.mem_range'_1];omega)
  rw [List.findSome?_eq_none_iff] at this
  exact absurd (this V hV) (O9 (List.Sublist.refl _) h3)
abbrev VJ:List A8→Int→Bool→List Int→List A8→Option (AS × Bool × Int):=fun(v_10:List A8) (v_11:Int) (v_12:Bool) (v_13:List Int) (v_14:List A8)=>some ((⟨v_13,v_14⟩:AS),v_12,v_11)
theorem Sg {p:A9} (hk:GG p) (hs:Ey p) {pr:List DM} {i:Nat} {V:List Int} (hi:pr[i]?=some (FY p V)) (hV:V.Sublist (GN 0 p.variables.length)) {Q:List A8} (hQ:Q.length≤48) {t:List Int} (ht:∀x∈t,0≤x∧x<(Q.length:Int)) (htl:t.length≤48) (sf:List A8→Int→Bool→List Int→List A8→Option (AS × Bool × Int)):
  In (DV pr (i:Int) VJ 0 false [] [] sf t) (((t.length:Int) - 0).toNat+1) ([]:List A8) 0 Q=bif D4 p ⟨V,t.map fun i=>Q.getD i.toNat default⟩ then some (Ja (some ⟨V,t.map fun i=>Q.getD i.toNat default⟩)) else sf Q 0 false [] []:=by
 have hVl:V.length≤6:=by have:=hV.length_le;rw [Hj] at this;have:=hs.vars;omega
 refine KI (L:=fun n i' s=>In (DV pr (i:Int) VJ 0 false [] [] sf t) n s i' Q) (fun n (s:List A8)=>s=(t.take n).map fun i=>Q.getD i.toNat default) (fun _ _ _=>bif D4 p ⟨V,t.map fun i=>Q.getD i.toNat default⟩ then some (Ja (some ⟨V,t.map fun i=>Q.getD i.toNat default⟩)) else sf Q 0 false [] []) t (by omega) ?_ ?_ (((t.length:Int) - 0).toNat+1) [] (by omega) rfl
 ·
  intro n s hI
  rw [List.take_length] at hI
  show In _ (n+1) _ _ _=_
  rw [Ib,DV,Jy,cond_false,Int.toNat_natCast,AN hi,hI,VG hk hs (MD hV) hVl (by rw [List.length_map];omega),Option.bind_some]
  rfl
 ·
  intro n j s x t' b1 b2 b3 hI ih
  have hx:=ht x (Lm b2)
  have hsl:s.length≤48:=by rw [hI,List.length_map,List.length_take];omega
  show In _ (n+1) _ _ _=_
  rw [Ib,DV]
  simp only [Int.toNat_natCast,AN b2,F8 b1,FA b1,BM,cond_true,b3]
  rw [BU (by omega),BU (by simp only [List.length_singleton];omega)]
  exact ih _ (by rw [hI,List.take_add_one,b2];simp)
theorem RA {p:A9} (hk:GG p) (hs:Ey p) {pr:List DM} {i:Nat} {V:List Int} (hi:pr[i]?=some (FY p V)) (hV:V.Sublist (GN 0 p.variables.length)) {Q:List A8} (hQ:Q.length≤48) (kE:List A8→Int→Bool→List Int→List A8→Option (AS × Bool × Int)):
  ∀(T:List (List Int)),(∀t∈T,t.length≤48∧∀x∈t,0≤x∧x<(Q.length:Int))→
  LV (F6 pr (i:Int) VJ) kE T Q 0 false [] [] =match (T.map (List.map fun i=>Q.getD i.toNat default)).find? (fun P=>D4 p ⟨V,P⟩) with |some P=>some (Ja (some ⟨V,P⟩)) |none=>kE Q 0 false [] []
 |[],_=>by rw [Pv];rfl
 |t::T,h=>by
  obtain⟨h1,h2⟩:=h t (List.mem_cons_self ..)
  rw [NV,F6,Sg hk hs hi hV hQ h2 h1,RA hk hs hi hV hQ kE T fun t' h'=>h t' (List.mem_cons_of_mem _ h'),List.map_cons,List.find?_cons]
  cases D4 p ⟨V,t.map fun i=>Q.getD i.toNat default⟩<;> rfl
theorem Si {p:A9} (hk:GG p) (hs:Ey p) {k m:Nat} (hm1:1≤m) (hm:m≤48) (hno:∀m',1≤m'→m'<m→KO p k m'=none) (sf:Int→Int→Bool→List Int→List A8→Option (AS × Bool × Int)):
  E0 ((Gm p k).map (FY p)) sf (m:Int) 0 false [] [] =match KO p k m with |some r=>some (Ja (some r)) |none=>sf ((m:Int)+1) 0 false [] []:=by
 have hv:=hs.vars
 have hFl:(Gm p k).length≤64:=by
  have hcl:=Ii k (GN 0 p.variables.length)
  rw [Hj] at hcl
  have h6:2 ^ p.variables.length≤2 ^ 6:=Nat.pow_le_pow_right (by omega) hv
  unfold Gm;have:=List.length_filter_le (fun V=>D4 p ⟨V,Ij p⟩) (CU k (GN 0 p.variables.length));omega
 rw [E0]
 have hlen:((Gm p k).map (FY p)).length=(Gm p k).length:=List.length_map ..
 rw [hlen]
 refine Eq.trans (KI (L:=fun n i (_:Unit)=>I8 (Ez ((Gm p k).map (FY p)) (m:Int) sf) n i 0 false [] []) (fun _ _=>True) (fun _ t _=>match t.findSome? (Mk p m) with |some r=>some (Ja (some r)) |none=>sf ((m:Int)+1) 0 false [] []) (Gm p k) (by omega) ?_ ?_ (((Gm p k).length:Int) - 0).toNat.succ () (by omega) trivial) ?_
 ·
  intro n _ _
  show I8 _ (n+1) _ _ _ _ _=_
  rw [JK,Ez,hlen,Jy,cond_false,Kf (by omega)];rfl
 ·
  intro n i _ V t a1 a2 a3 _ ih
  obtain⟨hV,hVk,hVp⟩:=KK.1 (Lm a2)
  have hVl:V.length≤6:=by have:=hV.length_le;rw [Hj] at this;omega
  have hpi:((Gm p k).map (FY p))[i]?=some (FY p V):=by rw [List.getElem?_map,a2];rfl
  have hrl:=LN hs V
  show I8 _ (n+1) _ _ _ _ _=_
  rw [JK,Ez,hlen,FA a1,cond_true,BU (by omega),Int.toNat_natCast,AN hpi,VF hk hs (MD hV) hVl,Option.bind_some,Tj _ _ (by omega) (by omega),Option.bind_some]
  simp only [Ge]
  have hT:∀t∈CU m (GN 0 (LK p V).length),t.length≤48∧∀x∈t,0≤x∧x<((LK p V).length:Int):=by
   intro t ht
   obtain⟨q1,q2⟩:=LI ht
   exact⟨by omega,fun x hx=>by have:=q2 x hx;omega⟩
  refine Eq.trans (RA hk hs hpi hV hrl _ _ hT) ?_
  rw [← O8,Ul hk hs hV (fun m' h1 h2=>by
   have:=hno m' h1 h2
   unfold KO at this
   rw [List.findSome?_eq_none_iff] at this
   exact this V (Lm a2)),List.findSome?_cons]
  unfold Mk
  cases (CU m (Ij p)).find? (fun P=>D4 p ⟨V,P⟩) with
  |some P=>rfl
  |none=>
   simp only [Option.map_none,a3]
   exact ih () trivial
 ·
  unfold KO
  cases (Gm p k).findSome? (Mk p m)<;> rfl
theorem VK {p:A9} (hp:CC p) (hs:Ey p) (hL:E5 p=true→(Ij p).length≤6):Ec p=some (bif E5 p then Ja (Kb p) else (⟨[],[]⟩,false,270)):=by
 obtain⟨fu,hfu⟩:∃n:Nat,n=1000000:=⟨_,rfl⟩
 have hv:=hs.vars
 unfold Ec
 rw [Vj hp]
 cases ho:E5 p
 · rfl
 have hL:=hL ho
 have hk:=GG.of ho
 simp only [cond_true,Option.bind_some,ne_eq,not_true_eq_false,decide_false,cond_false]
 rw [decide_eq_false (by omega),cond_false,Vz hp hs hk,Option.bind_some,← hfu]
 refine(Pi (K8 p) (fun r=>Ja (some r)) (some (Ja none)) p.variables.length (by omega) ?_ ?_ fu (by omega)).trans ?_
 · intro sf;rw [F7,decide_eq_false (by omega),cond_false];rfl
 ·
  intro sf k k1 k2 hw
  have hf:(CU k (GN 0 p.variables.length)).filter (VS p)=Gm p k:=by
   unfold Gm
   refine List.filter_congr fun V hV=>?_
   exact VH hk hs (F9.1 hV).1
  rw [F7,decide_eq_true (by omega),cond_true,hw,VC hp hk hs k (by omega),Option.bind_some,hf,List.length_map]
  by_cases h0:Gm p k=[]
  ·
   have hn:K8 p k=none:=by
    unfold K8
    rw [List.findSome?_eq_none_iff]
    intro m _
    unfold KO;rw [h0];rfl
   rw [hn,h0];rfl
  ·
   have hpos:=List.length_pos_iff.2 h0
   rw [decide_eq_false (by omega),cond_false,← hfu]
   obtain⟨r,hr⟩:=Sf hk h0
   rw [hr]
   have main:∀(d m fuel:Nat),m+d=(Ij p).length+1→1≤m→d<fuel→(∀m',1≤m'→m'<m→KO p k m'=none)→(List.range' m d).findSome? (KO p k)=some r→
     I8 (E0 ((Gm p k).map (FY p))) fuel (m:Int) 0 false [] [] =some (Ja (some r)):=by
    intro d
    induction d with
    |zero=>intro m fuel _ _ _ _ h;cases h
    |succ d ih=>
     intro m fuel h1 h2 h3 h4 h5
     obtain⟨n,rfl⟩:∃n,fuel=n+1:=⟨fuel - 1,by omega⟩
     rw [JK,Si hk hs h2 (by omega) h4]
     rw [List.range'_succ,List.findSome?_cons] at h5
     cases hm:KO p k m with
     |some r'=>rw [hm] at h5;simp only [Option.some.injEq] at h5;subst h5;rfl
     |none=>
      rw [hm] at h5
      simp only at h5 ⊢
      have:=ih (m+1) n (by omega) (by omega) (by omega) (fun m' g1 g2=>by
       rcases Nat.lt_or_ge m' m with g |g
       · exact h4 m' g1 g
       ·
        have:m'=m:=by omega
        rw [this];exact hm) h5
      rw [show((m+1:Nat):Int)=(m:Int)+1 by omega] at this
      exact this
   exact main (Ij p).length 1 fu (by omega) (by omega) (by omega) (fun m' h1 h2=>by omega) hr
 ·
  unfold Kb
  cases (List.range' 1 p.variables.length).findSome? (K8 p)<;> rfl
theorem T1 {r:AS} (h1:r.variables.length<9223372036854775807) (h2:r.places.length<9223372036854775807):Dy r r=some true:=by
 unfold Dy
 simp only [Ge,ne_eq,not_true_eq_false,decide_false,cond_false]
 refine Iw (B:=D1 r r) (fun _=>some true) r.variables h1 ?_ ?_ (by omega)
 ·
  intro sf
  rw [D1,Jy,cond_false]
  refine Iw (B:=D0 r r) (fun _=>some true) r.places h2 ?_ ?_ (by omega)
  · intro sf;rw [D0,Jy,cond_false]
  ·
   intro sf i x t a1 a2 a3 ih
   rw [D0,FA a1,cond_true,BU (by omega),BU (by omega),decide_eq_true rfl,Bool.not_true,cond_false,a3];exact ih
 ·
  intro sf i x t a1 a2 a3 ih
  rw [D1,FA a1,cond_true,BU (by omega),BU (by omega),decide_eq_false (by simp),cond_false,a3];exact ih
theorem ID {α β:Type} {f:α→Option β} :∀{l:List α} {b:β},l.findSome? f=some b→∃a∈l,f a=some b
 |[],b,h=>by cases h
 |a::l,b,h=>by
  rw [List.findSome?_cons] at h
  cases hf:f a with
  |some c=>rw [hf] at h;exact⟨a,List.mem_cons_self ..,by rw [hf];exact h⟩
  |none=>
   rw [hf] at h
   obtain⟨x,h1,h2⟩:=ID (l:=l) h
   exact⟨x,List.mem_cons_of_mem _ h1,h2⟩
theorem N3 {p:A9} {r:AS} (h:Kb p=some r):∃k m,(1≤k∧k≤p.variables.length)∧(1≤m∧m≤(Ij p).length)∧r.variables∈Gm p k∧r.places∈CU m (Ij p)∧D4 p r=true∧K8 p k=some r∧KO p k m=some r:=by
 obtain⟨k,hk,h1⟩:=ID h
 have hh:=h1
 unfold K8 at h1
 obtain⟨m,hm,h2⟩:=ID h1
 have hh2:=h2
 unfold KO at h2
 obtain⟨V,hV,h3⟩:=ID h2
 unfold Mk at h3
 cases hf:(CU m (Ij p)).find? fun P=>D4 p ⟨V,P⟩ with
 |none=>rw [hf] at h3;cases h3
 |some P=>
  rw [hf] at h3
  simp only [Option.map_some,Option.some.injEq] at h3
  subst h3
  rw [List.mem_range'_1] at hk hm
  exact⟨k,m,⟨hk.1,by omega⟩,⟨hm.1,by omega⟩,hV,List.mem_of_find?_eq_some hf,(by have:=List.find?_some hf;simpa using this),hh,hh2⟩
theorem Kc (p:A9) (hp:CC p):C9 p=some true:=by
 unfold C9
 obtain⟨b,hb,hS⟩:=VB hp
 rw [Vm,hb]
 simp only [Option.bind_some,Bool.not_true,cond_false]
 cases b
 · rfl
 obtain⟨hs,hL⟩:=hS rfl
 simp only [Bool.not_true,cond_false]
 rw [VK hp hs hL,VI hp hs hL]
 simp only [Option.bind_some]
 have hsame:∀r:AS × Bool × Int,r=(bif E5 p then Ja (Kb p) else (⟨[],[]⟩,false,270))→Dy r.1 r.1=some true:=by
  intro r hr
  refine T1 ?_ ?_
  all_goals subst hr
  all_goals cases ho:E5 p
  · simp
  ·
   rw [cond_true]
   cases h:Kb p with
   |none=>simp [Ja]
   |some r=>
    obtain⟨k,m,h1,h2,h3,h4,_⟩:=N3 h
    have:=(Tz hs (KK.1 h3).1 (F9.1 h4).1).2.2.1
    show r.variables.length<_;omega
  · simp
  ·
   rw [cond_true]
   cases h:Kb p with
   |none=>simp [Ja]
   |some r=>
    obtain⟨k,m,h1,h2,h3,h4,_⟩:=N3 h
    have:=(Tz hs (KK.1 h3).1 (F9.1 h4).1).2.2.2
    show r.places.length<_;omega
 rw [hsame _ rfl,Option.bind_some]
 simp
end Go.Fx
namespace Go.Proofs.Ytijekcoafilmeaa.lawReasonSmallestSpec
open Go Go.Proofs Go.ChangeShapes Go.WideShapes Go.ChangeAt Go.RowKit Go.Fx
open Go.ChangeMaps (open_string shut_string)
set_option linter.unusedVariables false
set_option maxRecDepth 100000
theorem own : ownKnob Try.prog.godebug = none := by kernel_rfl
theorem laidOut : laidOutB Try.prog = true := by kernel_rfl
set_option maxRecDepth 100000 in
set_option maxHeartbeats 1000000 in
theorem lifted (os : Os) (started : os.Started) (H : Type) (enc : TypeId × Value → H) :
    ReturnsInHanded {} Try.checked os 7 .any (Rows.reasonSmallestSpecSpec.pre6 enc Try.prog Try.f7 Rows.reasonSmallestSpecRow.domain false) (Rows.reasonSmallestSpecSpec.post enc Try.prog Try.f7 false true false false) := by
  refine returnsInHanded_of_change_sized (C := Try.checked) own started (by kernel_rfl) Try.func7
    (ChangeSpec.witness6 (enc := enc) (C := Try.checked) false ⟨#[], #[.agg #[(.slice none 0 0), (.slice none 0 0), (.slice none 0 0)]], []⟩ 8 (by kernel_rfl) (by kernel_rfl) (by kernel_rfl) (by kernel_rfl)) ?_
  intro W base args ds gs before hval0 hW hcnd hsz _
  have hval : ∀ (j : Nat) t v, Try.f7.params[j]? = some t → args[j]? = some v → Value.okWide Try.prog W .any base t v := hval0
  have hW' := hW
  obtain ⟨p, q, hA0, hV, rfl, hfz, hnd⟩ := hW
  have hA : DataW.TrodAll enc Try.prog W 0 (fun _ => true) true Try.f7.params.toList args.toList ds p := hA0
  rw [Try.params7] at hA hval
  obtain ⟨v0, vs0, d0, ds0, p0, q0, hargs, rfl, rfl, h0, r0⟩ := trodAll_cons hA
  obtain ⟨rfl, rfl, rfl⟩ := trodAll_nil r0
  obtain rfl : args = #[v0] := by cases args; simp_all
  obtain ⟨rfl, rfl⟩ := trodVars_none hV
  have k0 := h0
  have lt0 : ∀ x ∈ p0, x.block < W.heap.size := by obtain ⟨m, hm⟩ := k0; exact DataW.trod_lt m _ _ _ hm
  obtain ⟨fu0, hf0⟩ := h0
  obtain ⟨p, rr0, sm0⟩ := rd26.2 _ _ _ hf0
  replace sm0 := sm0 (fun n hn => by have := List.all_eq_true.1 hsz n (DataW.weights_mem_each (j := 0) (t := 26) rfl rfl n hn); simpa using this)
  obtain ⟨⟨cs0⟩, rfl, _⟩ := okWide_struct Try.underlying26 (hval 0 26 v0 rfl rfl)
  replace rr0 : Gi.rd W [] cs0 p := rr0
  obtain ⟨_, _, rfl, ⟨a_p_cells, c_p_cells, rfl, f_p_cells⟩, ⟨_, _, rfl, ⟨a_p_capacity, c_p_capacity, rfl, f_p_capacity⟩, ⟨a_p_variables, c_p_variables, rfl, f_p_variables⟩⟩⟩ := rr0
  have hm : C9 p = some true := Kc _ sm0
  have hc := Fn.calls (Hi (p := p) (w := W) (O := []) (by simp) f_p_cells f_p_capacity f_p_variables hm)
  clear hA0 hval0
  refine Calls.mono hc ?_
  rintro e W' ⟨v, rfl, bel, hv⟩
  replace bel := bel.below; obtain rfl : v = .bool true := hv
  exact ⟨_, rfl, _, _, _, [], _, [], hW', trodAll_mk1 (shut_bool Try.underlying4 _), (trodAll_cons_mk (Below.trod laidOut (by kernel_rfl) (of_decide_eq_true (by kernel_rfl)) k0 bel lt0) trodAll_mk0), rfl, bel.frame _, fun h => by cases h⟩
theorem over : Rows.reasonSmallestSpecRow.holds Try.pinned (OpenSpec.ofChange Rows.reasonSmallestSpecSpec) :=
  OpenClaim.holds_of_wide 7 Try.f7 rfl rfl rfl rfl rfl rfl rfl ⟨rfl, rfl, rfl, rfl, rfl⟩ rfl rfl rfl rfl rfl (by kernel_rfl) Try.func7 (by kernel_rfl)
    (of_decide_eq_true (by kernel_rfl)) (by unfold Func.isWrapper; first | (rw [if_pos (by decide +kernel)]; kernel_rfl) | (rw [if_neg (by decide +kernel)]; exact ⟨rfl, rfl⟩))
    (fun os started H enc _ => lifted os started H enc)
theorem proved : Rows.ReasonSmallestSpecSaid := over
end Go.Proofs.Ytijekcoafilmeaa.lawReasonSmallestSpec
