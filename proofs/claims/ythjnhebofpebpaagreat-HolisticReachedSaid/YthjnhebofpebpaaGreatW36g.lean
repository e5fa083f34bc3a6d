/- A part of this claim's proof: models of functions, walks, plain laws. No conditions. -/
import Derived.Test.YthjnhebofpebpaaGreatW36f
set_option linter.all false
namespace Go.Proofs.YthjnhebofpebpaaGreat
open Go Go.RowKit Sep Tryz
variable {f:Int}{g:List (List zd)}{i:zu}
set_option maxRecDepth 30000
set_option maxHeartbeats 4000000
def si(c:zu)(wide:List (Int×Int))(q:Int×List (Int->Option Int))(y0:Int):Option Int:=fZ y0 q.1 q.2 wide c
def jY(c:List (List zd))(j:z6)(b:zu)(l:List (z6×Int))(m:Int->(List (Int×List (Int->Option Int)))->(List (Int×Int))->Option (List (Int->Option Int)×Int)):Nat->Int->Int->(List (Int×List (Int->Option Int)))->(List (Int×Int))->Option (List (Int->Option Int)×Int)
 | 0,_,_,_,_=>none
 | p+1,k,a,d,g=>if decide (a<c.length) then Va (fun(q:Int) (r:List (Int×List (Int->Option Int))) (s:List (Int×Int))=>jY c j b l m p q (i64 (a+1)) r s) fun n=>chk (0<=a/\a<c.length) ((wC (nth c a) (fun(y0:zd)=>ma y0 j)).bind fun e=>if decide (e<0) then n k d g else chk (0<=a/\a<b.yc.length) ((mc b (nth c a) l).bind fun h=>chk (0<=e/\e<h.length) (qI (fun(f:Int)=>chk (((((xI d f [])++([(fun(y0:Int)=>vh y0 (⟨(nth b.yc a).yB,(⟨((nth b.yc a).yq).yz,((nth b.yc a).yq).yF,((nth b.yc a).yq).yI⟩:yG),(nth b.yc a).yE,(nth b.yc a).yA,(nth b.yc a).yM⟩:yw) (nth h e))]:List (Int->Option Int))).length:Nat):Int)*8<=140737488355328/\((((xI d f [])++([(fun(y0:Int)=>vh y0 (⟨(nth b.yc a).yB,(⟨((nth b.yc a).yq).yz,((nth b.yc a).yq).yF,((nth b.yc a).yq).yI⟩:yG),(nth b.yc a).yE,(nth b.yc a).yA,(nth b.yc a).yM⟩:yw) (nth h e))]:List (Int->Option Int))).length:Nat):Int)<=4611686018427387904) (n (max k ((nth b.yc a).yA)) (w6 d f ((xI d f [])++([(fun(y0:Int)=>vh y0 (⟨(nth b.yc a).yB,(⟨((nth b.yc a).yq).yz,((nth b.yc a).yq).yF,((nth b.yc a).yq).yI⟩:yG),(nth b.yc a).yE,(nth b.yc a).yA,(nth b.yc a).yM⟩:yw) (nth h e))]:List (Int->Option Int)))) (w6 g f (max (xI g f 0) ((nth b.yc a).yA))))) fun o=>(wC (nth c a) (fun(y0:zd)=>md y0 j)).bind fun i=>if decide (i>=0) then chk (0<=i/\i<((nth c a).length:Int)) (o ((nth (nth c a) i).fQ)) else o (-1)))) else m k d g
def fc(b:zu)(c:List (List zd))(d:z6)(e:List (z6×Int)):Option (List (Int->Option Int)×Int):=
 Va (fun(f:Int) (a:List (Int×List (Int->Option Int))) (g:List (Int×Int))=>chk (a.length*8<=140737488355328/\a.length<=4611686018427387904) (some (a.map (si b g),f))) fun h=>jY c d b e h xR 0 0 ([]:List (Int×List (Int->Option Int))) ([]:List (Int×Int))
theorem nV{Z aL aM aN aO aP aQ aR aS aT aU aV aW aX aY aZ a0 a9 ba p a al am ae r}(h:fc a al am ae=some r){Nx}(hz:Pz [xN p (ga qE) vI ae] Nx Z)(aB:ZS Z 4 (kr Z) aL aM a.fM)(aC:ZS Z 4 (g5 Z) aN aO a.yd)(aD:ZS Z 4 (rq ki) aP aQ a.fS)(aE:ZS Z 4 (rq gg) aR aS a.fK)(az:ZS Z 7 (g8 Z) aT aU a.yc)(aF:ZS Z 5 (rq gc) aV aW a.fH)(aG:ZS Z 3 (g6 Z) aX aY a.fU)(aH:ZS Z 4 (rq ge) aZ a0 a.ye)(bp:ZS Z 1 (g9 Z) a9 ba al)(eO:Ho Nx [xN p (ga qE) vI ae]):
  Calls Tryz.prog 53 #[.agg #[vs aL a.fM.length aM,vs aN a.yd.length aO,vs aP a.fS.length aQ,vs aR a.fK.length aS,vs aT a.yc.length aU,vs aV a.fH.length aW,vs aX a.fU.length aY,vs aZ a.ye.length a0],vs a9 al.length ba,.agg #[vi am.ya,vi am.fQ],.map (some p)] Nx fun e w'=>∃ Zn:Zp,∃ EK:Option Addr,∃ BI:Nat,e = .returned (.tuple #[vs EK r.1.length BI,vi r.2])/\(XI (Z++Zn) (tj (Z++Zn)) EK BI r.1)/\Hp (fps [xN p (ga qE) vI ae]) Nx w' [fz Zn,xN p (ga qE) vI ae]:=by
 unfold fc at h
 refine H3 func53 U eO U ?_
 let Q:Value:=(vs aT a.yc.length aU);let V:Value:=(vs aL a.fM.length aM);let W:Value:=(vs aN a.yd.length aO);let X:Value:=(vs aP a.fS.length aQ);let Y:Value:=(vs aR a.fK.length aS);let Aa:Value:=(vs aV a.fH.length aW);let Ab:Value:=(vs aX a.fU.length aY);let Ac:Value:=(vs aZ a.ye.length a0);let A:List Value:=[V,W,X,Y,Q,Aa,Ab,Ac];refine WC.pool<|B0q<|Lg 4 (wa (cs:=A)) ?_
 intro q _
 let H:List Value:=[vi am.ya,vi am.fQ];refine Lg 6 (wa (cs:=H)) ?_
 intro ab _
 refine Q2n U<|B0q (Lg 23 (kH vI<|slv (α:=Value)) fun B _=>Bk (M:=[wH (qU 201 1 fq) ([]:List (Int×((Nat×(Option Addr×Nat))×List Value))),xN B vI slv (jL ([]:List (Int×((Nat×(Option Addr×Nat))×List Value)))),stb ab 94 H,stb q 31 A,fz [],xN p (ga qE) vI ae]) (fun _ h=>Hp.eE (qU 201 1 fq) h)<|Q1n U<|B0q (Lg 24 (kH vI<|Value.int .i64) fun t _=>Lg 11 (xT (cs:=[.map none]) zWS) fun s _=>Ll (xP zWT .here)<|Q0n<|B1n U ?_))
 refine jK3 h fun bg bq h=>O5 (fun a1 a2 a3 aI aJ=>(bg a1 a2 a3=some r)/\(xE (Z++[]) (Z++aI))/\(RM (tj (Z++aI)) (mM aJ) a2)) (fun a1 a2 a3 aI aJ=>[(4,vp q),(10,(.map<|some B)),(11,vp s),(12,vi a1)]) (fun a1 a2 a3 aI aJ=>[fz aI,stb q 31 A,xN B vI slv (jL aJ),wH (qU 201 1 fq) aJ,stb s 148 [(.map<|some t)],xN p (ga qE) vI ae,xN t vI vI a3]) ?_ ?_
 ·let I:Value:=(vs a9 al.length ba);refine B1q U<|Le 26 (w9 underlying32)<|Q1n U<|WC.block<|Px (fun aA ai b ak af ad z=>(jY al am a ae bg aA ai b ak af=some r)/\(xE (Z++[]) (Z++ad))/\(RM (tj (Z++ad)) (mM z) ak)) (fun aA ai b ak af ad z=>[(3,(.map<|some p)),(4,vp q),(6,vp ab),(10,(.map<|some B)),(11,vp s),(12,vi ai),(25,I),(26,vi (al.length:Int)),(27,vi b)]) (fun aA ai b ak af ad z=>[fz ad,xN p (ga qE) vI ae,stb q 31 A,stb ab 94 H,xN B vI slv (jL z),wH (qU 201 1 fq) z,stb s 148 [(.map<|some t)],xN t vI vI af]) (fun aA ai b ak af ad z=>aA) ⟨xR,0,0,([]:List (Int×List (Int->Option Int))),([]:List (Int×Int)),[],([]:List (Int×((Nat×(Option Addr×Nat))×List Value)))⟩ ⟨h,xE.refl _,RM.nil⟩ .q (.s8 .h6 .h6 .h5 .h4 .h3 .h2 .here .here) ?_
  rintro (_|bV) ai b ak af ad z ⟨h,o,a4⟩;·cases h
  rw[jY] at h
  refine B1n U<|WC.b<|Lj h (fun br h=>?_)<|fun br h=>?_
  ·refine Nn<|jK3 h fun bW bs h=>O5 (fun an ap aq ar av=>(bW an ap aq=some r)/\(xE (Z++ad) (Z++ar))/\(RM (tj (Z++ar)) (mM av) ap)) (fun an ap aq ar av=>[(3,(.map<|some p)),(4,vp q),(6,vp ab),(10,(.map<|some B)),(11,vp s),(12,vi an),(25,I),(26,vi (al.length:Int)),(27,vi b)]) (fun an ap aq ar av=>[fz ar,xN p (ga qE) vI ae,stb q 31 A,stb ab 94 H,xN B vI slv (jL av),wH (qU 201 1 fq) av,stb s 148 [(.map<|some t)],xN t vI vI aq]) ?_ ?_
   ·refine WC.block<|WC.b<|cK h fun bt h=>D1q U<|L2 (Z:=(Z++ad)) (Pr:=(g9 (Z++ad))) z8K ((bp.mono<|zl.trans o).weak (fun _ _ h=>qa (zl.trans o) h)) bt ?_
    rintro b3 b4 bu b5 ⟨bX,bY,rfl,aw⟩
    refine Le 31 (xA z9v U<|kN (hz.pv2 .here) bu)<|Q2n U<|WC.b<|bK h fun ag bv h=>D1q U<|Le 33 (wJ<|L6 (l:=[.tmp 6])<|.cons U .nil)<|Ln 34 (Ns call94) .nil (cE hz .nil .here (.cons .h3 .nil) fun w pz ho la=>jN (zdK:=95) (ziX:=[vp ab]) (z9D:=(fun(y0:zd)=>ma y0 am)) bv pz (aw.mono<|zl) call95<|fun w' hz' y0  r  hr=>dM hr hz'<|(la _ (.head _) _).stb)<|Q1n U<|WC.b<|B2n U<|Lj h (fun bw h=>?_)<|fun bw h=>?_
    ·exact N1<|Lm<|Lv<|Lo ⟨ai,ak,af,ad,z⟩ ⟨h,xE.refl _,a4⟩ .q<|.a8
    ·refine Nn<|WC.b<|cK h fun bx h=>bK h fun aa a5 h=>cK h fun aj h=>Lu (fun i=>[8,14,15].contains i) [re q 31 [(4,Q)],fz ad]<|Lf 0 U (xz uO)<|L7 1 U (wB.wk (.s2 .h2 .here)<|.stb (.cons U .nil)<|.same .nil) (xA zab U<|mC .here<|.head _)<|Lf 2 U q_m<|L5 (j:=3) (Z:=(Z++ad)) (Pr:=(g8 (Z++ad))) zfn ((az.mono<|zl.trans o).weak (fun _ _ h=>wX (zl.trans o) h)) bx ?_
     rintro b6 b7 bz b8 ⟨bZ,b0,rfl,bA⟩
     let E:Value:=(vs bX ((nth al b).length) bY);let K:Value:=(vi (al.length:Int));let L:Value:=(vs bZ (((nth a.yc b).yM).length) b0);let N:Value:=(vi ((nth a.yc b).yE));let O:Value:=(vi ((nth a.yc b).yA));refine L7 4 U (wB.wk (.s2 .h2 .here)<|.stb (.cons U .nil)<|.same .nil) (xK zCo (qx (hz.pv2 .h1) bz))<|Lh 5 U (xK z2v (xM .h2))<|Lf 6 U q_m<|Lf 7 U q_m<|Lf 9 U q_m<|O2 (fuel':=0) (fun c n f g=>[(3,(.map<|some p)),(4,vp q),(6,vp ab),(10,(.map<|some B)),(11,vp s),(12,vi ai),(25,I),(26,K),(27,vi b),(14,E),(16,vp f),(17,vp g),(18,vi (-1))]) (fun c n f g=>[stb g 3 [(vi<|nth aa ag)],stb f 69 [(.string<|(nth a.yc b).yB),(.string<|((nth a.yc b).yq).yz),(.string<|((nth a.yc b).yq).yF),(.string<|((nth a.yc b).yq).yI),N,O,L],row (vs (some ⟨c,0,none⟩) aa.length n) 3 1 (aa.flatMap e3),xN p (ga qE) vI ae,fz ad,stb q 31 A,stb ab 94 H,xN B vI slv (jL z),wH (qU 201 1 fq) z,stb s 148 [(.map<|some t)],xN t vI vI af]) (fun c n f g=>True) (vA 17 [16,15,11,14,13,12,10,8,9,7,6,5,4,3,2,1,0]) ?_<|fun bB=>?_
     ·rintro c n f g _
      refine N0<|Lb<|jK1 h fun b1 bC h=>Na (fun ah=>(b1 ah=some r)) (fun ah=>[(3,(.map<|some p)),(4,vp q),(6,vp ab),(10,(.map<|some B)),(11,vp s),(12,vi ai),(16,vp f),(17,vp g),(18,vi ah),(25,I),(26,K),(27,vi b)]) (fun ah=>[fz ad,xN p (ga qE) vI ae,stb q 31 A,stb ab 94 H,xN B vI slv (jL z),wH (qU 201 1 fq) z,stb s 148 [(.map<|some t)],stb f 69 [(.string<|(nth a.yc b).yB),(.string<|((nth a.yc b).yq).yz),(.string<|((nth a.yc b).yq).yF),(.string<|((nth a.yc b).yq).yI),N,O,L],stb g 3 [(vi<|nth aa ag)],xN t vI vI af]) ?_ ?_
      ·refine WC.b<|bK h fun b2 bD h=>D1q U<|Le 50 (wJ<|L6 (l:=[.tmp 6])<|.cons U .nil)<|Ln 51 (Ns call94) .nil (cE hz .nil .h4 (.cons .h6 .nil) fun w pz ho la=>jN (zdK:=96) (ziX:=[vp ab]) (z9D:=(fun(y0:zd)=>md y0 am)) bD pz (aw.mono<|zl) call96<|fun w' hz' y0  r  hr=>dN hr hz'<|(la _ (.head _) _).stb)<|Q1n U<|B2n U<|Lj h (fun bE h=>?_)<|fun bE h=>?_
       ·refine cK h fun bF h=>D2q U<|L2 (Z:=(Z++ad)) (Pr:=(rq mN)) z7F aw bF ?_
        rintro b9 ca bG cb rfl
        exact Le 57 (xz sq)<|Le 58 (xA xJ U<|wq (hz.pv2 .h4) bG)<|La U<|WL.nil<|Lo ((nth (nth al b) b2).fQ) h .q<|.s10 .h4 .h3 .h3 .h3 .h3 .h3 .h3 .h1 .here .h1
       ·exact N2<|Lo (-1) h .q<|.s10 .h4 .h3 .h3 .h3 .h3 .h3 .h3 .h1 .here .h1
      ·rintro ah h
       replace h:=(bC ah).symm.trans h
       refine WC.b<|cK h fun bH h=>D4q U<|Le 63 (jg (k:=ah) (dflt:=(((none,0),[]):(Option Addr×Nat)×List Value)) gM underlying198 zLS .h4)<|Ov (fun _ h=>Hp.Gf ah a4 .h5 h) ?_
       rintro⟨⟨bI,bJ⟩,aK⟩ ⟨bL,bh⟩
       refine L9 (i:=63) U (u:=(vs bI ((xI ak ah []).length) bJ)) ((congrArg slv bL).trans (RR.slv bh)) (WL.freezeC (Z:=Z) (.there .h7) .h2 fun cc a6 bb=>WL.freezeC (Z:=Z) (.there .h7) .here ?_)
       intro ax ay bM
       let J:List Value:=[.func (.func 97) #[] #[vp f,vp g]];have bN:tj (Z++ax) J (fun y0=>vh y0 (⟨(nth a.yc b).yB,(⟨((nth a.yc b).yq).yz,((nth a.yc b).yq).yF,((nth a.yc b).yq).yI⟩:yG),(nth a.yc b).yE,(nth a.yc b).yA,(nth a.yc b).yM⟩:yw) (nth aa ag)):=⟨97,[vp f,vp g],U,call97,(fun w' hz' y0 r hr=>dO hr hz' (bA.mono (a6.trans ay)) (bb.mono ay) bM)⟩
       refine Le 64 (wJ<|L6 (l:=[.tmp 16,.tmp 17])<|.r2 U U) ?_
       have bi:RR 1 (tj (Z++ax)) J ([(fun y0=>vh y0 (⟨(nth a.yc b).yB,(⟨((nth a.yc b).yq).yz,((nth a.yc b).yq).yF,((nth a.yc b).yq).yI⟩:yG),(nth a.yc b).yE,(nth a.yc b).yA,(nth a.yc b).yM⟩:yw) (nth aa ag))]:List (Int->Option Int)):=(RR.cons (r:=J) U bN (RR.nil _ _))
       refine Lg 65 (wj (cs:=[.func (.func 97) #[] #[vp f,vp g]]) zto (Lq (l:=[.tmp 64]) (.cons U .nil) [0])) ?_
       intro bO _
       have bc:RR 1 (tj (Z++ax)) (aK++J) ((xI ak ah [])++([(fun y0=>vh y0 (⟨(nth a.yc b).yB,(⟨((nth a.yc b).yq).yz,((nth a.yc b).yq).yF,((nth a.yc b).yq).yI⟩:yG),(nth a.yc b).yE,(nth a.yc b).yA,(nth a.yc b).yM⟩:yw) (nth aa ag))]:List (Int->Option Int))):=RR.app (bh.weak (fun _ _ h=>tI (a6.trans ay) h)) bi
       refine WL.fA 66 (oz (l1:=xI ak ah []) (l2:=([(fun y0=>vh y0 (⟨(nth a.yc b).yB,(⟨((nth a.yc b).yq).yz,((nth a.yc b).yq).yF,((nth a.yc b).yq).yI⟩:yG),(nth a.yc b).yE,(nth a.yc b).yA,(nth a.yc b).yM⟩:yw)<|nth aa ag)]:List (Int->Option Int))) (ve:=J) (Pr:=(tj (Z++ax))) zto .h2 bi (jB .here) ly bH) ?_
       rintro⟨a7,a8⟩ _
       exact Ll (kV (k:=ah) (v:=(((a7,a8),aK++J):(Option Addr×Nat)×List Value)) gM underlying198 (Dw:=⟨(RR.slv bc).symm⟩) .h7)<|Bk (fun _ h=>Hp.K7 (k:=ah) (RR.len1 bc) (.s2 .h1 .h3) h)<|Bk (M:=[xN B vI slv (jL<|w6 z ah ((0,(a7,a8)),aK++J)),wH (qU 201 1 fq) (w6 z ah ((0,(a7,a8)),aK++J)),row (vs (some ⟨bO,0,none⟩) (([(fun y0=>vh y0 (⟨(nth a.yc b).yB,(⟨((nth a.yc b).yq).yz,((nth a.yc b).yq).yF,((nth a.yc b).yq).yI⟩:yG),(nth a.yc b).yE,(nth a.yc b).yA,(nth a.yc b).yM⟩:yw)<|nth aa ag)]:List (Int->Option Int)).length) 1) 201 1 J,fz ax,xN p (ga qE) vI ae,stb q 31 A,stb ab 94 H,stb s 148 [(.map<|some t)],xN t vI vI af]) (fun _ h=>Hp.eF .h1 (au _ _ _ _).symm h)<|Q0n<|Lu (fun i=>[12].contains i) [fz ax]<|Lh 0 U (Nt zCw .h7)<|Lf 1 U q_m<|Lh 2 U (Nt zCw .h7)<|Lf 3 U q_m<|Lh 4 U (jg (k:=ah) (dflt:=(0:Int)) gM underlying148 jF<|.there .h7)<|Lf 5 U (xz rL)<|Lh 6 U (xA xJ U<|wq (hz.pv2 .h3) (bb.mono ay))<|Lf 7 U iW<|Lf 8 U q_m<|Lf 9 U (xz rL)<|L7 10 U (wB.of<|.cons .h3 .nil) (xA xJ U<|wq (hz.pv2 .here) (bb.mono ay))<|Lf 11 U iW<|WD.forced0 (i:=12) U (wB.of<|.cons .h4 .nil) (kV (k:=ah) (v:=max (xI af ah 0) ((nth a.yc b).yA)) gM underlying148<|.there .h7)<|Lf 13 U q_z<|N0<|Lt<|Lo ⟨(max ai<|(nth a.yc b).yA),w6 ak ah ((xI ak ah [])++([(fun y0=>vh y0 (⟨(nth a.yc b).yB,(⟨((nth a.yc b).yq).yz,((nth a.yc b).yq).yF,((nth a.yc b).yq).yI⟩:yG),(nth a.yc b).yE,(nth a.yc b).yA,(nth a.yc b).yM⟩:yw)<|nth aa ag)]:List (Int->Option Int))),(w6 af ah<|max (xI af ah 0)<|(nth a.yc b).yA),ax,w6 z ah ((0,(a7,a8)),aK++J)⟩ ⟨h,a6.trans ay,RM.putD (a4.weak<|fun _ _ h=>tI (a6.trans ay) h) ah bc⟩ .q<|.s8 .h4 .h4 .h4 .h4 .h1 .h1 .h2 .here
     let R:Value:=(.string (((nth a.yc b).yq).yz));let S:Value:=(.string (((nth a.yc b).yq).yF));let T:Value:=(.string (((nth a.yc b).yq).yI));let Ad:Value:=(.string ((nth a.yc b).yB));refine O2 (fuel':=2) (fun c n f g=>[(3,(.map<|some p)),(4,vp q),(6,vp ab),(10,(.map<|some B)),(11,vp s),(12,vi ai),(25,I),(26,K),(27,vi b),(14,E),(16,vp f),(17,vp g),(48,(vi<|nth aa ag))]) (fun c n f g=>[stb f 69 [Ad,R,S,T,N,O,L],stb g 3 [vi 0],row (vs (some ⟨c,0,none⟩) aa.length n) 3 1 (aa.flatMap e3),xN p (ga qE) vI ae,fz ad,stb q 31 A,stb ab 94 H,xN B vI slv (jL z),wH (qU 201 1 fq) z,stb s 148 [(.map<|some t)],xN t vI vI af]) (fun c n f g=>True) (vA 17 [11,14,13,12,10,8,9,7,6,5,4,3,2,1,0]) ?_<|fun bj=>?_
     ·rintro c n f g _
      exact WD.forced0 (i:=15) U (wB.wk (.s2 .h5 .h4)<|.stb (.cons U .nil)<|.same .nil) (xP oa .h1)<|Lf 16 U q_z<|Lx .a11 (.qo U)<|bB c n f g trivial
     let C:Value:=(.agg #[Ad,R,S,T,N,O,L]);let D:List Value:=[.string ⟨#[]⟩,.string ⟨#[]⟩,.string ⟨#[]⟩,.string ⟨#[]⟩,vi 0,vi 0,vn];refine O2 (fuel':=3) (fun c n f g=>[(3,(.map<|some p)),(4,vp q),(6,vp ab),(10,(.map<|some B)),(11,vp s),(12,vi ai),(25,I),(26,K),(27,vi b),(14,E),(41,C),(48,(vi<|nth aa ag)),(16,vp f),(17,vp g)]) (fun c n f g=>[stb g 3 [vi 0],stb f 69 D,row (vs (some ⟨c,0,none⟩) aa.length n) 3 1 (aa.flatMap e3),xN p (ga qE) vI ae,fz ad,stb q 31 A,stb ab 94 H,xN B vI slv (jL z),wH (qU 201 1 fq) z,stb s 148 [(.map<|some t)],xN t vI vI af]) (fun c n f g=>True) (vA 17 [13,12,11,10,8,9,7,6,5,4,3,2,1,0]) ?_<|fun bd=>?_
     ·rintro c n f g _
      exact WD.forced0 (i:=14) U (wB.wk (.s2 .h5 .h4)<|.stb (.cons U .nil)<|.same .nil) (xP zLR .h1)<|Lx .a11 (.qo U)<|bj c n f g trivial
     refine O3 (fuel':=4) (fun c n f=>[(3,(.map<|some p)),(4,vp q),(6,vp ab),(10,(.map<|some B)),(11,vp s),(12,vi ai),(25,I),(26,K),(27,vi b),(14,E),(41,C),(48,(vi<|nth aa ag)),(16,vp f)]) (fun c n f=>[stb f 69 D,row (vs (some ⟨c,0,none⟩) aa.length n) 3 1 (aa.flatMap e3),xN p (ga qE) vI ae,fz ad,stb q 31 A,stb ab 94 H,xN B vI slv (jL z),wH (qU 201 1 fq) z,stb s 148 [(.map<|some t)],xN t vI vI af]) (fun c n f=>True) (vA 17 [12,11,10,8,9,7,6,5,4,3,2,1,0]) ?_<|fun bk=>?_
     ·rintro c n f _
      refine WD.new (i:=13) U U (xT (cs:=[vi 0]) jF) (fun h'=>absurd h' (by decide)) fun g _=>Lx .a11 (.qo U)<|bd c n f g trivial
     refine O3 (fuel':=4) (fun c n g=>[(3,(.map<|some p)),(4,vp q),(6,vp ab),(10,(.map<|some B)),(11,vp s),(12,vi ai),(25,I),(26,K),(27,vi b),(14,E),(41,C),(48,(vi<|nth aa ag)),(17,vp g)]) (fun c n g=>[stb g 3 [vi 0],row (vs (some ⟨c,0,none⟩) aa.length n) 3 1 (aa.flatMap e3),xN p (ga qE) vI ae,fz ad,stb q 31 A,stb ab 94 H,xN B vI slv (jL z),wH (qU 201 1 fq) z,stb s 148 [(.map<|some t)],xN t vI vI af]) (fun c n g=>True) (vA 17 [13,11,10,8,9,7,6,5,4,3,2,1,0]) ?_<|fun bl=>?_
     ·rintro c n g _
      refine WD.new (i:=12) U U (xT (cs:=D) zod) (fun h'=>absurd h' (by decide)) fun f _=>Lx (.s11 .h1 .here .here .here .here .here .here .here .here .here .here) (.qo U)<|bd c n f g trivial
     refine O2 (fuel':=4) (fun c n f g=>[(3,(.map<|some p)),(4,vp q),(6,vp ab),(10,(.map<|some B)),(11,vp s),(12,vi ai),(25,I),(26,K),(27,vi b),(14,E),(41,C),(47,(.pointer<|some ⟨c,(ag:Int).toNat*1,none⟩)),(16,vp f),(17,vp g)]) (fun c n f g=>[stb g 3 [vi 0],stb f 69 D,row (vs (some ⟨c,0,none⟩) aa.length n) 3 1 (aa.flatMap e3),xN p (ga qE) vI ae,fz ad,stb q 31 A,stb ab 94 H,xN B vI slv (jL z),wH (qU 201 1 fq) z,stb s 148 [(.map<|some t)],xN t vI vI af]) (fun c n f g=>True) (vA 17 [13,12,10,8,9,7,6,5,4,3,2,1,0]) ?_<|fun be=>?_
     ·rintro c n f g _
      refine WD.choose [11,14] U<|vP.cons ?_<|vP.cons ?_<|vP.nil
      ·exact vP.quiet (i:=11) (d:=48) U U U U (fun h'=>absurd h' (by decide)) (xA xJ U<|o9 .h2<|(wU (enc:=e3) (l:=aa) (i:=ag) (sz:=1) aj.1 aj.2) 0 _ U)<|Lx .a11 (.qo U)<|bd c n f g trivial
      ·exact vP.forced0 (i:=14) U U U U (wB.wk (.s2 .h5 .h4)<|.stb (.cons U .nil)<|.same .nil) (xP zLR .h1)<|Lh 11 U (xA xJ U<|o9 .h2<|(wU (enc:=e3) (l:=aa) (i:=ag) (sz:=1) aj.1 aj.2) 0 _ U)<|Lx .a11 (.qo U)<|bj c n f g trivial
     refine Pc (fuel':=5) (fun c n=>[(3,(.map<|some p)),(4,vp q),(6,vp ab),(10,(.map<|some B)),(11,vp s),(12,vi ai),(25,I),(26,K),(27,vi b),(14,E),(41,C),(48,(vi<|nth aa ag))]) (fun c n=>[row (vs (some ⟨c,0,none⟩) aa.length n) 3 1 (aa.flatMap e3),xN p (ga qE) vI ae,fz ad,stb q 31 A,stb ab 94 H,xN B vI slv (jL z),wH (qU 201 1 fq) z,stb s 148 [(.map<|some t)],xN t vI vI af]) (fun c n=>True) (vA 17 [11,10,8,9,7,6,5,4,3,2,1,0]) ?_<|fun bP=>?_
     ·rintro c n _
      refine WD.choose [12,13] U<|vP.cons ?_<|vP.cons ?_<|vP.nil
      ·refine vP.new (i:=12) (xT (cs:=D) zod) (fun h'=>absurd h' (by decide)) fun f _=>Lx .a10 (.qo U)<|bk c n f trivial
      ·refine vP.new (i:=13) (xT (cs:=[vi 0]) jF) (fun h'=>absurd h' (by decide)) fun g _=>Lx .a10 (.qo U)<|bl c n g trivial
     refine O3 (fuel':=5) (fun c n f=>[(3,(.map<|some p)),(4,vp q),(6,vp ab),(10,(.map<|some B)),(11,vp s),(12,vi ai),(25,I),(26,K),(27,vi b),(14,E),(41,C),(47,(.pointer<|some ⟨c,(ag:Int).toNat*1,none⟩)),(16,vp f)]) (fun c n f=>[stb f 69 D,row (vs (some ⟨c,0,none⟩) aa.length n) 3 1 (aa.flatMap e3),xN p (ga qE) vI ae,fz ad,stb q 31 A,stb ab 94 H,xN B vI slv (jL z),wH (qU 201 1 fq) z,stb s 148 [(.map<|some t)],xN t vI vI af]) (fun c n f=>True) (vA 17 [12,10,8,9,7,6,5,4,3,2,1,0]) ?_<|fun bm=>?_
     ·rintro c n f _
      refine WD.choose [11,13] U<|vP.cons ?_<|vP.cons ?_<|vP.nil
      ·exact vP.quiet (i:=11) (d:=48) U U U U (fun h'=>absurd h' (by decide)) (xA xJ U<|o9 .h1<|(wU (enc:=e3) (l:=aa) (i:=ag) (sz:=1) aj.1 aj.2) 0 _ U)<|Lx .a10 (.qo U)<|bk c n f trivial
      ·refine vP.new (i:=13) (xT (cs:=[vi 0]) jF) (fun h'=>absurd h' (by decide)) fun g _=>Lx .a11 (.qo U)<|be c n f g trivial
     refine O3 (fuel':=5) (fun c n g=>[(3,(.map<|some p)),(4,vp q),(6,vp ab),(10,(.map<|some B)),(11,vp s),(12,vi ai),(25,I),(26,K),(27,vi b),(14,E),(41,C),(47,(.pointer<|some ⟨c,(ag:Int).toNat*1,none⟩)),(17,vp g)]) (fun c n g=>[stb g 3 [vi 0],row (vs (some ⟨c,0,none⟩) aa.length n) 3 1 (aa.flatMap e3),xN p (ga qE) vI ae,fz ad,stb q 31 A,stb ab 94 H,xN B vI slv (jL z),wH (qU 201 1 fq) z,stb s 148 [(.map<|some t)],xN t vI vI af]) (fun c n g=>True) (vA 17 [13,10,8,9,7,6,5,4,3,2,1,0]) ?_<|fun bn=>?_
     ·rintro c n g _
      refine WD.choose [11,12] U<|vP.cons ?_<|vP.cons ?_<|vP.nil
      ·exact vP.quiet (i:=11) (d:=48) U U U U (fun h'=>absurd h' (by decide)) (xA xJ U<|o9 .h1<|(wU (enc:=e3) (l:=aa) (i:=ag) (sz:=1) aj.1 aj.2) 0 _ U)<|Lx .a10 (.qo U)<|bl c n g trivial
      ·refine vP.new (i:=12) (xT (cs:=D) zod) (fun h'=>absurd h' (by decide)) fun f _=>Lx (.s11 .h1 .here .here .here .here .here .here .here .here .here .here) (.qo U)<|be c n f g trivial
     refine Pc (fuel':=6) (fun c n=>[(3,(.map<|some p)),(4,vp q),(6,vp ab),(10,(.map<|some B)),(11,vp s),(12,vi ai),(25,I),(26,K),(27,vi b),(14,E),(41,C),(47,(.pointer<|some ⟨c,(ag:Int).toNat*1,none⟩))]) (fun c n=>[row (vs (some ⟨c,0,none⟩) aa.length n) 3 1 (aa.flatMap e3),xN p (ga qE) vI ae,fz ad,stb q 31 A,stb ab 94 H,xN B vI slv (jL z),wH (qU 201 1 fq) z,stb s 148 [(.map<|some t)],xN t vI vI af]) (fun c n=>True) (vA 17 [10,8,9,7,6,5,4,3,2,1,0]) ?_<|fun bQ=>?_
     ·rintro c n _
      refine WD.choose [11,12,13] U<|vP.cons ?_<|vP.cons ?_<|vP.cons ?_<|vP.nil
      ·exact vP.quiet (i:=11) (d:=48) U U U U (fun h'=>absurd h' (by decide)) (xA xJ U<|o9 .here<|(wU (enc:=e3) (l:=aa) (i:=ag) (sz:=1) aj.1 aj.2) 0 _ U)<|Lx .a9 (.qo U)<|bP c n trivial
      ·refine vP.new (i:=12) (xT (cs:=D) zod) (fun h'=>absurd h' (by decide)) fun f _=>Lx .a10 (.qo U)<|bm c n f trivial
      ·refine vP.new (i:=13) (xT (cs:=[vi 0]) jF) (fun h'=>absurd h' (by decide)) fun g _=>Lx .a10 (.qo U)<|bn c n g trivial
     let F:Value:=(.agg #[V,W,X,Y,Q,Aa,Ab,Ac]);refine Pc (fuel':=6) (fun f g=>[(3,(.map<|some p)),(4,vp q),(6,vp ab),(10,(.map<|some B)),(11,vp s),(12,vi ai),(25,I),(26,K),(27,vi b),(14,E),(41,C),(42,F),(43,E),(44,(.map<|some p)),(46,vi ag),(16,vp f),(17,vp g)]) (fun f g=>[stb g 3 [vi 0],stb f 69 D,fz ad,xN p (ga qE) vI ae,stb q 31 A,stb ab 94 H,xN B vI slv (jL z),wH (qU 201 1 fq) z,stb s 148 [(.map<|some t)],xN t vI vI af]) (fun f g=>True) (vA 17 [13,12,9,7,6,5,4,3,2,1,0]) ?_<|fun bo=>?_
     ·rintro f g _
      refine WD.call2 (i:=8) U U U U (.inl ⟨U,fun _ _=>(wB.wk (.s2 .h5 .h4)<|.stb (.cons U .nil)<|.same .nil)⟩) (Ns call37) (.cons .h3 .nil) (ms hz (.cons .h3 .nil) .h2 fun w pz ho=>ud a5 pz ((aB.mono<|zl.trans o).weak (fun _ _ h=>wV (zl.trans o) h)) ((aC.mono<|zl.trans o).weak (fun _ _ h=>vt (zl.trans o) h)) (aD.mono<|zl.trans o) (aE.mono<|zl.trans o) ((az.mono<|zl.trans o).weak (fun _ _ h=>wX (zl.trans o) h)) (aF.mono<|zl.trans o) ((aG.mono<|zl.trans o).weak (fun _ _ h=>vu (zl.trans o) h)) (aH.mono<|zl.trans o) aw ho) ?_
      rintro bf n _
      refine N5 (fun w hw=>Hp.vr .here hw (by intro hz';have:=aj;rw[hz'] at this;omega)) ?_
      rintro⟨c,rfl⟩
      exact Lf 10 U (w3 z7G aj.1 aj.2 wI)<|Lx (.s11 .h2 .h2 .here .here .here .here .here .here .here .here .here) (.qo U)<|be c n f g trivial
     refine Pu (fuel':=7) (fun f=>[(3,(.map<|some p)),(4,vp q),(6,vp ab),(10,(.map<|some B)),(11,vp s),(12,vi ai),(25,I),(26,K),(27,vi b),(14,E),(41,C),(42,F),(43,E),(44,(.map<|some p)),(46,vi ag),(16,vp f)]) (fun f=>[stb f 69 D,fz ad,xN p (ga qE) vI ae,stb q 31 A,stb ab 94 H,xN B vI slv (jL z),wH (qU 201 1 fq) z,stb s 148 [(.map<|some t)],xN t vI vI af]) (fun f=>True) (vA 17 [12,9,7,6,5,4,3,2,1,0]) ?_<|fun bR=>?_
     ·rintro f _
      refine WD.choose [8,13] U<|vP.cons ?_<|vP.cons ?_<|vP.nil
      ·refine vP.call2 (i:=8) U U U U (.inl ⟨U,fun _ _=>(wB.wk (.s2 .h4 .h3)<|.stb (.cons U .nil)<|.same .nil)⟩) (Ns call37) (.cons .h2 .nil) (ms hz (.cons .h2 .nil) .h1 fun w pz ho=>ud a5 pz ((aB.mono<|zl.trans o).weak (fun _ _ h=>wV (zl.trans o) h)) ((aC.mono<|zl.trans o).weak (fun _ _ h=>vt (zl.trans o) h)) (aD.mono<|zl.trans o) (aE.mono<|zl.trans o) ((az.mono<|zl.trans o).weak (fun _ _ h=>wX (zl.trans o) h)) (aF.mono<|zl.trans o) ((aG.mono<|zl.trans o).weak (fun _ _ h=>vu (zl.trans o) h)) (aH.mono<|zl.trans o) aw ho) ?_
       rintro bf n _
       refine N5 (fun w hw=>Hp.vr .here hw (by intro hz';have:=aj;rw[hz'] at this;omega)) ?_
       rintro⟨c,rfl⟩
       exact Lf 10 U (w3 z7G aj.1 aj.2 wI)<|Lx (.s10 .h2 .here .here .here .here .here .here .here .here .here) (.qo U)<|bm c n f trivial
      ·refine vP.new (i:=13) (xT (cs:=[vi 0]) jF) (fun h'=>absurd h' (by decide)) fun g _=>Lx .a10 (.qo U)<|bo f g trivial
     refine Pu (fuel':=7) (fun g=>[(3,(.map<|some p)),(4,vp q),(6,vp ab),(10,(.map<|some B)),(11,vp s),(12,vi ai),(25,I),(26,K),(27,vi b),(14,E),(41,C),(42,F),(43,E),(44,(.map<|some p)),(46,vi ag),(17,vp g)]) (fun g=>[stb g 3 [vi 0],fz ad,xN p (ga qE) vI ae,stb q 31 A,stb ab 94 H,xN B vI slv (jL z),wH (qU 201 1 fq) z,stb s 148 [(.map<|some t)],xN t vI vI af]) (fun g=>True) (vA 17 [13,9,7,6,5,4,3,2,1,0]) ?_<|fun bS=>?_
     ·rintro g _
      refine WD.choose [8,12] U<|vP.cons ?_<|vP.cons ?_<|vP.nil
      ·refine vP.call2 (i:=8) U U U U (.inl ⟨U,fun _ _=>(wB.wk (.s2 .h4 .h3)<|.stb (.cons U .nil)<|.same .nil)⟩) (Ns call37) (.cons .h2 .nil) (ms hz (.cons .h2 .nil) .h1 fun w pz ho=>ud a5 pz ((aB.mono<|zl.trans o).weak (fun _ _ h=>wV (zl.trans o) h)) ((aC.mono<|zl.trans o).weak (fun _ _ h=>vt (zl.trans o) h)) (aD.mono<|zl.trans o) (aE.mono<|zl.trans o) ((az.mono<|zl.trans o).weak (fun _ _ h=>wX (zl.trans o) h)) (aF.mono<|zl.trans o) ((aG.mono<|zl.trans o).weak (fun _ _ h=>vu (zl.trans o) h)) (aH.mono<|zl.trans o) aw ho) ?_
       rintro bf n _
       refine N5 (fun w hw=>Hp.vr .here hw (by intro hz';have:=aj;rw[hz'] at this;omega)) ?_
       rintro⟨c,rfl⟩
       exact Lf 10 U (w3 z7G aj.1 aj.2 wI)<|Lx (.s10 .h2 .here .here .here .here .here .here .here .here .here) (.qo U)<|bn c n g trivial
      ·refine vP.new (i:=12) (xT (cs:=D) zod) (fun h'=>absurd h' (by decide)) fun f _=>Lx (.s10 .h1 .here .here .here .here .here .here .here .here .here) (.qo U)<|bo f g trivial
     refine WD.choose [8,12,13] U<|vP.cons ?_<|vP.cons ?_<|vP.cons ?_<|vP.nil
     ·refine vP.call2 (i:=8) U U U U (.inl ⟨U,fun _ _=>(wB.wk (.s2 .h3 .h2)<|.stb (.cons U .nil)<|.same .nil)⟩) (Ns call37) (.cons .h1 .nil) (ms hz (.cons .h1 .nil) .here fun w pz ho=>ud a5 pz ((aB.mono<|zl.trans o).weak (fun _ _ h=>wV (zl.trans o) h)) ((aC.mono<|zl.trans o).weak (fun _ _ h=>vt (zl.trans o) h)) (aD.mono<|zl.trans o) (aE.mono<|zl.trans o) ((az.mono<|zl.trans o).weak (fun _ _ h=>wX (zl.trans o) h)) (aF.mono<|zl.trans o) ((aG.mono<|zl.trans o).weak (fun _ _ h=>vu (zl.trans o) h)) (aH.mono<|zl.trans o) aw ho) ?_
      rintro bf n _
      refine N5 (fun w hw=>Hp.vr .here hw (by intro hz';have:=aj;rw[hz'] at this;omega)) ?_
      rintro⟨c,rfl⟩
      exact Lf 10 U (w3 z7G aj.1 aj.2 wI)<|Lx .a9 (.qo U)<|bQ c n trivial
     ·refine vP.new (i:=12) (xT (cs:=D) zod) (fun h'=>absurd h' (by decide)) fun f _=>Lx .a9 (.qo U)<|bR f trivial
     ·refine vP.new (i:=13) (xT (cs:=[vi 0]) jF) (fun h'=>absurd h' (by decide)) fun g _=>Lx .a9 (.qo U)<|bS g trivial
   ·rintro an ap aq ar av ⟨h,bT,bU⟩
    replace h:=(bs an ap aq).symm.trans h
    exact D2q U<|WL.nil<|Nz ⟨bV,an,i64 (b+1),ap,aq,ar,av⟩ ⟨h,o.trans bT,bU⟩ .q<|.a8
  ·exact N1<|Lm<|Lm<|Lv<|Lo ⟨ai,ak,af,ad,z⟩ ⟨h,o,a4⟩ .q<|.s7 .here .h1 .h2 .h2 .h2 .here .h1
 ·rintro most mp wide Zn lg ⟨h,xS,hm⟩
  replace h:=(bq most mp wide).symm.trans h
  obtain⟨hb,h⟩:=xG h
  obtain rfl:=oJ h
  clear h
  refine B0q<|Ov (G:=Zp) (φ:=fun Z1=>xE (Z++Zn) (Z++Z1)/\RG (Z++Z1) (tj (Z++Z1)) (jL lg) mp) (L':=fun Z1=>[fz Z1,stb q 31 A,xN B vI slv (jL lg),stb s 148 [(.map<|some t)],xN p (ga qE) vI ae,xN t vI vI wide]) (fun w hw=>?_) ?_
  ·have h1:=hw.sub (.s7 .h3 .here .here .here .here .here .here)
   obtain⟨Z1,k1,k2,k3⟩:=Hp.nI (Pr:=fun Z=>tj Z) (fun k _ _ h=>tI k h) hz lg mp Zn hm h1
   exact⟨Z1,⟨k1,k2⟩,k3⟩
  rintro Z1 ⟨hle1,C8⟩
  refine WL.freezeC (Z:=Z) .h1 .here fun Z2 DE hc=>WL.freezeC (Z:=Z) .h2 .here fun Z3 CE zP=>Ov (G:=Zp) (φ:=fun Z4=>xE (Z++Z3) (Z++Z4)/\ZA (Z++Z4) (xN t vI vI wide)) (L':=fun Z4=>[fz Z4,xN B vI slv (jL lg),xN p (ga qE) vI ae]) (fun w hw=>?_) ?_
  ·obtain⟨Z4,k1,k2,k3⟩:=Hp.freeze (x:=xN t vI vI wide) .h3 .here hw
   exact⟨Z4,⟨k1.app,k2.mono (xE.right _)⟩,k3⟩
  rintro Z4 ⟨BJ,hW⟩
  replace C8:=C8.up (DE.trans (CE.trans BJ)) (fun _ _ h=>tI (DE.trans (CE.trans BJ)) h)
  replace hc:=hc.mono (CE.trans BJ)
  replace zP:=zP.mono BJ
  have hZ:xE Z (Z++Z4):=zl.trans (xS.trans (hle1.trans (DE.trans (CE.trans BJ))))
  refine Q1n U<|O5 (fun Zn ao cap cs fs=>xE (Z++Z4) (Z++Zn)/\RR 1 (tj (Z++Zn)) cs fs/\fs.Perm (mp.map<|si a wide)) (fun Zn ao cap cs fs=>[(12,vi most),(20,vs ao fs.length cap)]) (fun Zn ao cap cs fs=>[fz Zn,row (vs ao fs.length cap) 201 1 cs,xN p (ga qE) vI ae]) ?_ ?_
  ·refine B1q U<|WL.fA 81 (Uf underlying198 U .h1) ?_
   rintro rr _
   refine Q0n<|WC.block<|WC.nilRow 201 1<|Ox (fun Zn ao cap cs fs rem l' kA=>xE (Z++Z4) (Z++Zn)/\RR 1 (tj (Z++Zn)) cs fs/\RG (Z++Z4) (tj (Z++Z4)) rem l'/\(fs++l'.map (si a wide)).Perm (mp.map<|si a wide)) (fun Zn ao cap cs fs rem l' kA=>[(4,vp q),(11,vp s),(12,vi most),(20,vs ao fs.length cap),(81,vp rr)]) (fun Zn ao cap cs fs rem l' kA=>[fz Zn,row (vs ao fs.length cap) 201 1 cs,sp rr B vI slv (jL lg) rem kA,xN p (ga qE) vI ae]) (fun Zn ao cap cs fs rem l' kA=>rem.length) ⟨Z4,none,0,[],[],jL lg,mp,none⟩ ⟨xE.refl _,RR.nil _ _,C8,.refl _⟩ .q (.s4 .h2 .here .here .here) ?_
   rintro Zn ao cap cs fs rem l' kA ⟨DF,hr,hg,hp⟩
   refine B0q<|O9 U U U .h2 (fun hrem=>?_)<|fun i y m hx Cc=>?_
   ·subst hrem
    cases hg
    refine Q1n U<|WC.b<|WC.cond U (fun h'=>(by cases h'))<|fun h'=>?_
    clear h'
    exact N1<|Lm<|Lm<|Lv<|Lo ⟨Zn,ao,cap,cs,fs⟩ ⟨DF,hr,by simpa using hp⟩ .q (.s3 .h1 .h1 .h1)
   ·obtain⟨x,hx1,hxl,Bm,hg'⟩:=hg.at hx
    rw[<- Cc] at hg'
    have eW:rem.length=m.length+1:=by
     have h1:=(List.getElem?_eq_some_iff.1 hx).1
     rw[Cc,List.length_eraseIdx,if_pos h1];omega
    have DG:=hp.length_eq
    have hgl:=hg.len
    rw[List.length_append,List.length_map,List.length_map] at DG
    refine Q1n U<|WC.b<|WC.cond U (fun h'=>?_)<|fun h'=>(by cases h')
    clear h'
    refine Nn<|WC.block<|B0q<|Le 84 (Uh U .here)<|La U<|La U (Lg 21 (xT (cs:=[vi 0]) jF) fun D8 _=>Lg 22 (xT (cs:=[vn]) zLS) fun DH _=>Ll (xP oa .h1)<|Ll (xP (vs:=[slv y.2]) zWU .h1) (WL.freezeC (Z:=Z) .h1 .h2 fun Z5 CG Cz=>WL.freezeC (Z:=Z) .h1 .here ?_))
    intro Z6 DI CA
    replace Cz:=Cz.mono DI
    have e22:slv y.2 = .slice y.2.1.1 x.length y.2.1.2:=by unfold slv;rw[hxl]
    replace CA:ZC (Z++Z6) ⟨DH,0,none⟩ [.slice y.2.1.1 x.length y.2.1.2]:=by rw[<- e22];exact CA
    have tk:=DF.trans (CG.trans DI)
    refine Q0n<|Ld<|La U ?_
    let P:Value:=(.func (.func 99) #[] #[vp D8,vp DH,vp s,vp q]);have hfd:tj (Z++Z6) [P] (si a wide (y.1,x)):=⟨99,[vp D8,vp DH,vp s,vp q],U,call99,fun w' hz' y0 r hr=>dL (Z:=Z++Z6) (zIl:=⟨D8,0,none⟩) (zIm:=⟨DH,0,none⟩) (zIn:=y.2.1.1) (zIo:=y.2.1.2) (zIp:=⟨s,0,none⟩) (zIq:=t) (zIr:=⟨q,0,none⟩) (zIs:=aL) (zIt:=aM) (zIu:=aN) (zIv:=aO) (zIw:=aP) (zIx:=aQ) (zIy:=aR) (zIz:=aS) (zIA:=aT) (zIB:=aU) (zIC:=aV) (zID:=aW) (zIE:=aX) (zIF:=aY) (zIG:=aZ) (zIH:=a0) (znh:=y0) (zcs:=y.1) (zni:=x) (zvL:=wide) (z4O:=a) (r:=r) (h:=hr) (Nx:=w') (hz:=hz') (hmW:=hW.mono tk) (zzM:=Cz) (zII:=((XI.of Bm).up tk (fun _ _ h=>tI tk h))) (zIJ:=CA) (zSr:=(zP.mono tk)) (z1bx:=((aB.mono (hZ.trans tk)).weak (fun _ _ h=>wV (hZ.trans tk) h))) (z1by:=((aC.mono (hZ.trans tk)).weak (fun _ _ h=>vt (hZ.trans tk) h))) (z1bz:=(aD.mono (hZ.trans tk))) (zSs:=(aE.mono (hZ.trans tk))) (z1bA:=((az.mono (hZ.trans tk)).weak (fun _ _ h=>wX (hZ.trans tk) h))) (z1bB:=(aF.mono (hZ.trans tk))) (z1bC:=((aG.mono (hZ.trans tk)).weak (fun _ _ h=>vu (hZ.trans tk) h))) (z1bD:=(aH.mono (hZ.trans tk))) (zSu:=(hc.mono tk))⟩
    refine Le 88 (wJ<|L6 (l:=[.tmp 21,.tmp 22,.tmp 11,.tmp 4])<|.r4 U U U U)<|Lg 89 (wj (cs:=[.func (.func 99) #[] #[vp D8,vp DH,vp s,vp q]]) zto (Lq (l:=[.tmp 88]) (.cons U .nil) [0])) ?_
    intro b89 _
    have Bt:RR 1 (tj (Z++Z6)) [P] ([si a wide (y.1,x)]:List (Int->Option Int)):=RR.one U hfd
    have Bv:=hr.weak (fun _ _ h=>tI (CG.trans DI) h)
    refine WL.fA 90 (oz (l1:=fs) (l2:=([si a wide (y.1,x)]:List (Int->Option Int))) (ve:=[.func (.func 99) #[] #[vp D8,vp DH,vp s,vp q]]) (Pr:=(tj (Z++Z6))) zto .h3 Bt (jB .here) ly ⟨by rw[List.length_append,List.length_singleton];omega,by rw[List.length_append,List.length_singleton];omega⟩) ?_
    rintro⟨zM,li⟩ _
    refine La U<|WL.nil<|Lt ?_
    have AO:((fs++[si a wide (y.1,x)])++(l'.eraseIdx i).map (si a wide)).Perm (mp.map (si a wide)):=by
     refine List.Perm.trans ?_ hp
     rw[List.append_assoc]
     exact List.Perm.append_left _<|(XJ hx1).map (si a wide)
    exact Nz ⟨Z6,zM,li,cs++[.func (.func 99) #[] #[vp D8,vp DH,vp s,vp q]],fs++[si a wide (y.1,x)],m,l'.eraseIdx i,some y⟩ ⟨tk,RR.app Bv Bt,hg',AO⟩ (hμ:=(by show m.length<rem.length;omega)) .q<|.s4 .h2 .here .h1 .h1
  ·rintro Zn ao cap cs fs ⟨DF,hr,hp⟩
   have eW:fs.length=(mp.map (si a wide)).length:=hp.length_eq
   refine B3q U<|La U (WL.freezeS (ls:=fs) .h1 .here hz hr fun Z7 CG h7=>Q0n<|Ny<|Li results53 (.tmp U<|.tmp U .nil)<|fun w hw=>?_)
   refine⟨Z7,ao,cap,?_,⟨fs,hp,h7.weak fun _ _ h=>tI CG h⟩,hw.sub .a2⟩
   show Ending.returned _=_
   rw[<- eW]
   exact q9
def gB(b:List (Int->Option Int)×Int)(c:zu)(d:z6)(e:Int->Option (ys×Int)):Nat->Int->Option (ys×Int)
 | 0,_=>none
 | f+1,a=>(qO b.1 (i64 (a-1))).bind fun g=>if decide ((i64 (((nth c.fK d.fQ).yp)*g))>a) then if decide ((i64 (a+1))>32768) then some ((⟨0,0,0,0⟩:ys),360) else gB b c d e f (i64 (a+1)) else e a
def gC(e:Int)(d:Int)(g:List (Int->Option Int)×Int)(b:zu)(c:z6)(h:Int->Int->Option (ys×Int)):Nat->Int->Int->Int->Option (ys×Int)
 | 0,_,_,_=>none
 | l+1,a,f,i=>if decide (a<(i64 (e+d))) then(qO g.1 a).bind fun j=>qI (fun(m:Int)=>chk ((((nth b.fK c.fQ).yp):Int)≠0) (gC e d g b c h l (i64 (a+1)) m (max i (i64 (j-(i64 (Int.tdiv (i64 ((i64 ((max (i64 (a-d)) 0)+((nth b.fK c.fQ).yp)))-1)) ((nth b.fK c.fQ).yp)))))))) fun k=>if decide (a<e) then k (max f (i64 ((i64 ((i64 (((nth b.fK c.fQ).yp)*j))-a))+d))) else k f else h f i
def uk(b:zu)(d:List (List zd))(a:z6)(e:List (z6×Int)):Option (ys×Int):=
 (fc b d a e).bind fun c=>chk (0<=a.fQ/\a.fQ<b.fK.length) ((mb b a.ya).bind fun f=>qI (fun(g:Int)=>sk (fun(h:Int) (i:Int)=>some (({a with yl:=h,fT:=i64 (i+c.2)}:ys),0)) fun j=>gC g f c b a j xR 0 0 0) fun k=>gB c b a k xR 1)
theorem XW{Z B H I J K L M N O P Q R S T V W ab ad f a X b g r}(h:uk a X b g=some r){Nx}(hz:Pz [xN f (ga qE) vI g] Nx Z)(ae:ZS Z 4 (kr Z) B H a.fM)(af:ZS Z 4 (g5 Z) I J a.yd)(ag:ZS Z 4 (rq ki) K L a.fS)(Y:ZS Z 4 (rq gg) M N a.fK)(ah:ZS Z 7 (g8 Z) O P a.yc)(ai:ZS Z 5 (rq gc) Q R a.fH)(aj:ZS Z 3 (g6 Z) S T a.fU)(ak:ZS Z 4 (rq ge) V W a.ye)(ao:ZS Z 1 (g9 Z) ab ad X)(eO:Ho Nx [xN f (ga qE) vI g]):
  RF 25 #[.agg #[vs B a.fM.length H,vs I a.yd.length J,vs K a.fS.length L,vs M a.fK.length N,vs O a.yc.length P,vs Q a.fH.length R,vs S a.fU.length T,vs V a.ye.length W],vs ab X.length ad,.agg #[vi b.ya,vi b.fQ],.map (some f)] Nx (.tuple #[.agg #[vi r.1.ya,vi r.1.fQ,vi r.1.yl,vi r.1.fT],vi r.2]) [xN f (ga qE) vI g] [xN f (ga qE) vI g]:=by
 unfold uk at h
 refine H3 func25 U eO U<|WC.pool<|B0q (Lg 4 (wa (cs:=[vs B a.fM.length H,vs I a.yd.length J,vs K a.fS.length L,vs M a.fK.length N,vs O a.yc.length P,vs Q a.fH.length R,vs S a.fU.length T,vs V a.ye.length W])) fun aK _=>Lg 6 (wa (cs:=[vi b.ya,vi b.fQ])) ?_)
 intro aL _
 let A:List Value:=[vi 0,vi 0,vi 0,vi 0];refine Lg 8 (xT (cs:=A) zoa) ?_
 intro k _
 refine Q1n U<|WC.b<|bK h fun o ap h=>Ld<|Le 19 (xK z2v (xM .h2))<|La U<|Le 21 (xK zxl (xM .h1))<|La U<|Pp U U U (Ns call53) (.cons .h4 .nil) (ms hz (.cons .h4 .nil) .h3 fun w pz ho=>nV ap pz ((ae.mono<|zl).weak (fun _ _ h=>wV zl h)) ((af.mono<|zl).weak (fun _ _ h=>vt zl h)) (ag.mono<|zl) (Y.mono<|zl) ((ah.mono<|zl).weak (fun _ _ h=>wX zl h)) (ai.mono<|zl) ((aj.mono<|zl).weak (fun _ _ h=>vu zl h)) (ak.mono<|zl) ((ao.mono<|zl).weak (fun _ _ h=>qa zl h)) ho) ?_
 rintro x aF aG al
 refine WL.merge .here .h4<|Q5n U<|WC.b<|cK h fun aq h=>bK h fun p ar h=>Lu nc []<|Lf 0 U (xz tx)<|Lh 1 U (Nt zaU .h4)<|Lf 2 U (xz Ky)<|Lh 3 U (Nt xJ .h3)<|L5 (j:=4) (Z:=(Z++([]++x))) (Pr:=(rq gg)) zdD (Y.mono<|zl.trans (zl.trans xE.wv)) aq ?_
 rintro aM aN au aO rfl
 refine Lf 5 U (xz rK)<|Lh 6 U (xA xJ U<|wq (hz.pv2 .here) au)<|Lh 7 U (xK z2v (xM .h4))<|Lf 8 U (xz WE)<|Lh 9 U (Nt xJ .h3)<|L4 10 U (Ns call54) (ms hz .nil .here fun w pz ho=>iu ar pz ((ae.mono<|zl.trans (zl.trans xE.wv)).weak (fun _ _ h=>wV (zl.trans (zl.trans xE.wv)) h)) ((af.mono<|zl.trans (zl.trans xE.wv)).weak (fun _ _ h=>vt (zl.trans (zl.trans xE.wv)) h)) (ag.mono<|zl.trans (zl.trans xE.wv)) (Y.mono<|zl.trans (zl.trans xE.wv)) ((ah.mono<|zl.trans (zl.trans xE.wv)).weak (fun _ _ h=>wX (zl.trans (zl.trans xE.wv)) h)) (ai.mono<|zl.trans (zl.trans xE.wv)) ((aj.mono<|zl.trans (zl.trans xE.wv)).weak (fun _ _ h=>vu (zl.trans (zl.trans xE.wv)) h))<|ak.mono<|zl.trans (zl.trans xE.wv))<|Lf 11 U q_z<|Lf 12 U q_z<|N0<|Lb<|B0q<|Le 37 (xz WE)<|Le 38 (Nt xJ .h3)<|Le 39 (xz Ky)<|Le 40 (Nt xJ .h3)<|Le 41 (we (v:=(.agg #[vi b.ya,vi b.fQ,vi 0,vi 0])) (Lq (l:=[.tmp 38,.tmp 40]) (.r2 U U) [0,1])) (Lg 14 (xT (cs:=A) zoa) fun m _=>Ll (xP zlC .here)<|Q0n<|B1n U ?_)
 obtain⟨am,av,h⟩:=wg h
 let D:Value:=(vs aF o.1.length aG);let E:Value:=(vi ((nth a.fK b.fQ).yp));let G:List Value:=[vi b.ya,vi b.fQ,vi 0,vi 0];refine Na (fun c=>(am c=some r)) (fun c=>[(8,vp k),(10,D),(11,vi o.2),(12,E),(13,vi p),(14,vp m),(15,vi c)]) (fun c=>[fz ([]++x),stb k 37 A,stb m 37 G,xN f (ga qE) vI g]) ?_ ?_
 ·refine WC.block<|Ng (fun y q=>(gB o a b am y q=some r)) (fun y q=>[(8,vp k),(10,D),(11,vi o.2),(12,E),(13,vi p),(14,vp m),(15,vi q)]) (fun y q=>[fz ([]++x),stb k 37 A,stb m 37 G,xN f (ga qE) vI g]) (fun y q=>y) ⟨xR,1⟩ h .q (.s4 .h1 .h2 .here .here) ?_
  rintro(_|aH) q h;·cases h
  rw[gB] at h
  refine WC.b<|WC.b<|bK h fun aP aw h=>D4q U<|Ln 46 (Ns call55) .nil (ms hz .nil .here fun w pz ho=>rl aw pz<|al.up xE.wv<|fun _ _ h=>tI xE.wv h)<|La U<|La U<|La U<|WL.nil<|Lb<|Lj h (fun ax h=>?_)<|fun ax h=>?_
  ·refine Nn<|WC.block<|B3n U<|B2n U<|Lj h (fun ay h=>?_)<|fun ay h=>?_
   ·exact B0q<|Le 54 (we (v:=(.agg #[vi 0,vi 0,vi 0,vi 0])) (Lq (l:=[]) .nil []))<|Ll (xP zlC .h1)<|Q1n U<|Ny<|Lw<|Lk<|Lw<|Lk<|oJ h▸Nm results25 (.agg U zfq U (xM .here)<|.tmp U .nil) (.cons .h3 .nil)
   ·exact N2<|Lt<|Nz ⟨aH,i64 (q+1)⟩ h .q<|.a4
  ·exact N1<|Lm<|Lm<|Lv<|Lo q h .q<|.a4
 ·rintro c h
  replace h:=(av c).symm.trans h
  refine jK2 h fun an az h=>H6 (fun t u=>(an t u=some r)) (fun t u=>[(8,vp k),(11,vi o.2),(14,vp m)]) (fun t u=>[fz ([]++x),stb k 37 A,stb m 37 [vi b.ya,vi b.fQ,vi t,vi u],xN f (ga qE) vI g]) ?_ ?_
  ·refine B4n U<|WC.block<|H9 (fun z d n e=>(gC c p o a b an z d n e=some r)) (fun z d n e=>[(8,vp k),(10,D),(11,vi o.2),(12,E),(13,vi p),(14,vp m),(15,vi c),(57,(vi<|i64 (c+p))),(58,vi d)]) (fun z d n e=>[fz ([]++x),stb k 37 A,stb m 37 [vi b.ya,vi b.fQ,vi n,vi e],xN f (ga qE) vI g]) (fun z d n e=>z) ⟨xR,0,0,0⟩ h .q .a4 ?_
   rintro(_|aI) d n e h;·cases h
   rw[gC] at h
   refine B1n U<|WC.b<|Lj h (fun aA h=>?_)<|fun aA h=>?_
   ·refine Nn<|WC.b<|WC.block<|B2n U<|WC.b<|bK h fun aa aB h=>D2q U<|Ln 63 (Ns call55) .nil (ms hz .nil .here fun w pz ho=>rl aB pz<|al.up xE.wv<|fun _ _ h=>tI xE.wv h)<|Q1n U<|jK1 h fun aJ aC h=>Na (fun s=>(aJ s=some r)) (fun s=>[(8,vp k),(10,D),(11,vi o.2),(12,E),(13,vi p),(14,vp m),(15,vi c),(16,vi d),(17,vi aa),(57,(vi<|i64 (c+p))),(58,vi d)]) (fun s=>[fz ([]++x),stb k 37 A,stb m 37 [vi b.ya,vi b.fQ,vi s,vi e],xN f (ga qE) vI g]) ?_ ?_
    ·refine B3n U<|Lj h (fun aD h=>?_)<|fun aD h=>?_
     ·let F:=(i64 ((i64 ((i64 (((nth a.fK b.fQ).yp)*aa))-d))+p));refine Ld<|Le 67 (xz dA)<|Le 68 (Nt xJ .h2)<|La U<|La U<|La U<|La U<|La U<|La U<|La U<|Le 76 iW<|Le 77 (xz dA)<|Ll (jh (ds:=[vi b.ya,vi b.fQ,(vi<|max n F),vi e]) oa .h2)<|WL.nil ?_
      exact Lo (max n F) h .q<|.s4 .h1 .h1 .here .here
     ·exact N2<|Lo n h .q<|.a4
    ·rintro s h
     replace h:=(aC s).symm.trans h
     obtain⟨aE,h⟩:=xG h
     let C:=(i64 (aa-(i64 (Int.tdiv (i64 ((i64 ((max (i64 (d-p)) 0)+((nth a.fK b.fQ).yp)))-1)) ((nth a.fK b.fQ).yp)))));refine Lu (fun i=>[15].contains i) []<|Lf 0 U (xz Ya)<|Lh 1 U (Nt xJ .h2)<|Lf 2 U q_m<|Lf 3 U q_m<|Lf 4 U q_m<|Lf 5 U td<|Lf 6 U iW<|Lf 7 U q_m<|Lf 8 U uC<|Lf 9 U td<|Lf 10 U q_m<|Lf 11 U (e7 aE)<|Lf 12 U td<|Lf 13 U iW<|Lf 14 U (xz Ya)<|Nc (i:=15) U (jh (ds:=[vi b.ya,vi b.fQ,vi s,(vi<|max e C)]) oa .h2)<|N0<|Lt<|Lb<|D2q U<|WL.nil ?_
     exact Nz ⟨aI,i64 (d+1),s,max e C⟩ h .q<|.s4 .h1 .h1 .here .here
   ·exact N1<|Lm<|Lm<|Lv<|Lo ⟨n,e⟩ h .q<|.a4
  ·rintro t u h
   replace h:=(az t u).symm.trans h
   exact B0q<|Le 94 (xz Ya)<|Le 95 (Nt xJ .h2)<|Q2q U<|Le 98 (xz Ya)<|Ll (jh (ds:=[vi b.ya,vi b.fQ,vi t,(vi<|i64 (u+o.2))]) oa .h2)<|Q0n<|B0q<|Le 99 (xK zfq (xM .here))<|Ll (xP zlC .h2)<|Q1n U<|Ny<|oJ h▸Nm results25 (.agg U zfq U (xM .here)<|.tmp U .nil) (.cons .h3 .nil)
def wK(a:ys)(b:ys):Option Int:=
 if decide (a.ya≠b.ya) then some (i64 (a.ya-b.ya)) else some (i64 (a.fQ-b.fQ))
theorem eU{Z a b r}(h:wK a b=some r){Nx}(hz:PZ [] Nx Z):
  RC 27 #[.agg #[vi a.ya,vi a.fQ,vi a.yl,vi a.fT],.agg #[vi b.ya,vi b.fQ,vi b.yl,vi b.fT]] Nx (vi r) [] []:=by
 unfold wK at h
 refine L0 func27 U U<|B0q (Lg 2 (wa (cs:=[vi a.ya,vi a.fQ,vi a.yl,vi a.fT])) fun d _=>Lg 3 (wa (cs:=[vi b.ya,vi b.fQ,vi b.yl,vi b.fT])) fun e _=>Q1n U<|WC.b<|B0q<|Le 5 (xz pN)<|Le 6 (Nt xJ .h1)<|Le 7 (xz pN)<|Le 8 (Nt xJ .here)<|Q1n U<|Lj h (fun c h=>?_)<|fun c h=>?_)
 ·exact B0q<|Le 10 (xz pN)<|Le 11 (Nt xJ .h1)<|Le 12 (xz pN)<|Le 13 (Nt xJ .here)<|Q2n U<|Ny<|Lk<|oJ h▸Nl results27
 ·exact Nn<|B0q<|Le 15 (xz lM)<|Le 16 (Nt xJ .h1)<|Le 17 (xz lM)<|Le 18 (Nt xJ .here)<|Q2n U<|Ny<|oJ h▸Nl results27
def kB(b:List ys×Int)(e:zu)(f:List (List zd))(g:(List ys)->Option (yL×Int)):Nat->Int->(List (z6×Int))->(List ys)->Option (yL×Int)
 | 0,_,_,_=>none
 | i+1,a,h,d=>if decide (a<b.1.length) then chk (0<=a/\a<b.1.length) ((uk e f (⟨(nth b.1 a).ya,(nth b.1 a).fQ⟩:z6) h).bind fun c=>if decide (c.2≠0) then some ((⟨([]:List ys),([]:List zt)⟩:yL),c.2) else chk (((d++([c.1]:List ys)).length:Int)*32<=140737488355328/\((d++([c.1]:List ys)).length:Int)<=4611686018427387904) (kB b e f g i (i64 (a+1)) (w6 h (⟨(nth b.1 a).ya,(nth b.1 a).fQ⟩:z6) c.1.yl) (d++([c.1]:List ys)))) else g d
def me(b:zu)(d:Int)(c:List (List zd)):Option (yL×Int):=
 (mG b d c).bind fun a=>if decide (a.2=310) then some ((⟨([]:List ys),([]:List zt)⟩:yL),a.2) else(tT b d c).bind fun e=>if decide (e.2=350) then some ((⟨([]:List ys),([]:List zt)⟩:yL),e.2) else if decide (a.2≠0) then some ((⟨([]:List ys),([]:List zt)⟩:yL),a.2) else qI (fun(g:List ys)=>(wt g (fun y0 y1=>wK y0 y1)).bind fun f=>(sy b c f).bind fun h=>some ((⟨f,h⟩:yL),0)) fun i=>kB a b c i xR 0 ([]:List (z6×Int)) ([]:List ys)
theorem iA{Z L M N O P Q R S T V W X Y aa ab ad ae af a ag q r}(h:me a ag q=some r){Nx}(hz:PZ [] Nx Z)(u:ZS Z 4 (kr Z) L M a.fM)(x:ZS Z 4 (g5 Z) N O a.yd)(y:ZS Z 4 (rq ki) P Q a.fS)(z:ZS Z 4 (rq gg) R S a.fK)(B:ZS Z 7 (g8 Z) T V a.yc)(E:ZS Z 5 (rq gc) W X a.fH)(F:ZS Z 3 (g6 Z) Y aa a.fU)(G:ZS Z 4 (rq ge) ab ad a.ye)(H:ZS Z 1 (g9 Z) ae af q):
  Calls Tryz.prog 12 #[.agg #[vs L a.fM.length M,vs N a.yd.length O,vs P a.fS.length Q,vs R a.fK.length S,vs T a.yc.length V,vs W a.fH.length X,vs Y a.fU.length aa,vs ab a.ye.length ad],vi ag,vs ae q.length af] Nx fun e w'=>∃ ah:Option Addr,∃ ai:Nat,∃ aj:Option Addr,∃ ak:Nat,e = .returned (.tuple #[.agg #[vs ah r.1.fP.length ai,vs aj r.1.yy.length ak],vi r.2])/\True/\Hp [] Nx w' [row (vs ah r.1.fP.length ai) 37 4 (r.1.fP.flatMap km),row (vs aj r.1.yy.length ak) 53 3 (r.1.yy.flatMap fg)]:=by
 unfold me at h
 refine Nk func12 U U ?_
 let A:List Value:=[vs L a.fM.length M,vs N a.yd.length O,vs P a.fS.length Q,vs R a.fK.length S,vs T a.yc.length V,vs W a.fH.length X,vs Y a.fU.length aa,vs ab a.ye.length ad];refine B0q<|Lg 3 (wa (cs:=A)) ?_
 intro I _
 refine Lg 6 (xT (cs:=[vn,vn]) ziL) fun J _=>Q1n U<|WC.b<|bK h fun c au h=>Ld<|Le 20 (xK z2v (xM .h1))<|Q2q U<|H5 U (Ns call24) .nil (cc hz .nil fun w pz ho=>Q1 au pz u x y z B E F G H) ?_
 rintro aI aJ _
 refine Q5n U<|WC.b<|B2n U<|Lj h (fun av h=>?_)<|fun av h=>?_
 ·exact B0q<|Le 28 (we (v:=(.agg #[vn,vn])) (Lq (l:=[]) .nil []))<|La U<|Ll (xP z9y .h1)<|Q1n U<|Ny<|Lk<|WX.nilRow 37 4<|WX.nilRow 53 3<|oJ h▸Li results12 (.agg U z9z U (xM .h2)<|.tmp U .nil) fun w hw=>⟨none,0,none,0,q9,trivial,hw.sub (.s2 .h1 .here)⟩
 ·refine Nn<|WC.b<|WC.b<|bK h fun aW aw h=>Ld<|Le 31 (xK z2v (xM .h2))<|Q2q U<|Ou U (Ns call18) .nil (cc hz .nil fun w pz ho=>XU aw pz u x y z B E F G H) ?_
  rintro aM aN aO aP _
  refine Q2q U<|La U (Lg 10 (xT (cs:=[vn,vn]) ziL) fun aQ _=>Ll (xP z9y .here)<|Q1n U<|B2n U<|Lj h (fun ax h=>?_)<|fun ax h=>?_)
  ·exact B0q<|Le 39 (we (v:=(.agg #[vn,vn])) (Lq (l:=[]) .nil []))<|La U<|Ll (xP z9y .h4)<|Q1n U<|Ny<|Lk<|WX.nilRow 37 4<|WX.nilRow 53 3<|oJ h▸Li results12 (.agg U z9z U (xM .h2)<|.tmp U .nil) fun w hw=>⟨none,0,none,0,q9,trivial,hw.sub (.s2 .h1 .here)⟩
  ·refine Nn<|WC.b<|B2n U<|Lj h (fun ay h=>?_)<|fun ay h=>?_
   ·exact B0q<|Le 43 (we (v:=(.agg #[vn,vn])) (Lq (l:=[]) .nil []))<|La U<|Ll (xP z9y .h4)<|Q1n U<|Ny<|Lk<|WX.nilRow 37 4<|WX.nilRow 53 3<|oJ h▸Li results12 (.agg U z9z U (xM .h2)<|.tmp U .nil) fun w hw=>⟨none,0,none,0,q9,trivial,hw.sub (.s2 .h1 .here)⟩
   ·refine Nn<|B0q (Lg 45 (kH (ga qE)<|Value.int .i64) fun al _=>Q1n U<|B0q (Lg 13 (xT (cs:=[vn,vn]) ziL) fun K _=>Q0n ?_))
    obtain⟨am,az,h⟩:=wg h
    let D:Value:=(vs ae q.length af);refine Nj (fun f g j=>(am f=some r)) (fun f g j=>[(2,D),(3,vp I),(6,vp J),(13,vp K)]) (fun f g j=>[stb I 31 A,stb J 40 [vn,vn],stb K 40 [vs g f.length j,vn],row (vs g f.length j) 37 4 (f.flatMap km)]) ?_ ?_
    ·let C:Value:=(vs aI c.1.length aJ);refine B1q U<|Le 47 (w9 underlying33)<|Q1n U<|WC.block<|WC.nilRow 37 4<|Oi (fun s b m d n o=>(kB c a q am s b m d=some r)) (fun s b m d n o=>[(2,D),(3,vp I),(6,vp J),(12,(.map<|some al)),(13,vp K),(46,C),(47,vi (c.1.length:Int)),(48,vi b)]) (fun s b m d n o=>[row C 37 4 (c.1.flatMap km),stb I 31 A,stb J 40 [vn,vn],xN al (ga qE) vI m,stb K 40 [vs n d.length o,vn],row (vs n d.length o) 37 4 (d.flatMap km)]) (fun s b m d n o=>s) ⟨xR,0,([]:List (z6×Int)),([]:List ys),none,0⟩ h .q (.s6 .h6 .h7 .h6 .h2 .h1 .here) ?_
     rintro(_|aK) b m d n o h;·cases h
     rw[kB] at h
     refine B1n U<|WC.b<|Lj h (fun aA h=>?_)<|fun aA h=>?_
     ·refine Nn<|WC.b<|WC.block<|WC.b<|cK h fun t h=>Ld<|N4 (fun w hw=>Hp.vr .here hw (by intro hz';have:=t;rw[hz'] at this;omega)) ?_
      rintro⟨aR,rfl⟩
      refine Le 50 (w3 z9x t.1 t.2 wI)<|Le 51 (wn (cs:=(km<|nth c.1 b)) zfq<|vU .here<|wU (enc:=km) (l:=c.1) (i:=b) (sz:=4) t.1 t.2) (Lg 15 (xT (cs:=[vi 0,vi 0,vi 0,vi 0]) zoa) fun aS _=>Ll (xP zlC .here)<|Q0n<|B0q<|Le 52 (xz pN)<|Le 53 (Nt xJ .here)<|Le 54 (xz lM)<|Le 55 (Nt xJ .here)<|Le 56 (we (v:=(.agg #[(vi<|(nth c.1 b).ya),(vi<|(nth c.1 b).fQ)])) (Lq (l:=[.tmp 53,.tmp 55]) (.r2 U U) [0,1])) (Lg 16 (xT (cs:=[vi 0,vi 0]) zWP) fun aT _=>Ll (xP zWQ .here)<|Q0n<|WC.b ?_))
      refine bK h fun p aB h=>Ld<|Le 58 (xK z2v (xM .h3))<|La U<|Le 60 (xK zxl (xM .here))<|La U<|Ln 62 (Ns call25) (.cons .h5 .nil) (cc hz (.cons .h5 .nil) fun w pz ho=>XW aB pz u x y z B E F G H ho)<|Q2q U<|La U (Lg 17 (xT (cs:=[vi 0,vi 0,vi 0,vi 0]) zoa) fun aU _=>Ll (xP zlC .here)<|Q1n U<|WC.b<|B2n U<|Lj h (fun aC h=>?_)<|fun aC h=>?_)
      ·exact B0q<|Le 67 (we (v:=(.agg #[vn,vn])) (Lq (l:=[]) .nil []))<|La U<|Ll (xP z9y .h6)<|Q1n U<|Ny<|Lk<|Lw<|Lk<|Lk<|Lw<|Lk<|WX.nilRow 37 4<|WX.nilRow 53 3<|oJ h▸Li results12 (.agg U z9z U (xM .h2)<|.tmp U .nil) fun w hw=>⟨none,0,none,0,q9,trivial,hw.sub (.s2 .h1 .here)⟩
      ·refine Nn<|B1q U<|Le 70 (xK zxl (xM .h2))<|Le 71 (xz dA)<|Le 72 (Nt xJ .here)<|Ll (kV (k:=(⟨(nth c.1 b).ya,(nth c.1 b).fQ⟩:z6)) (v:=p.1.yl) zCx underlying92 .h1)<|Q0n<|cK h fun aE h=>Ld<|Le 73 (xz ug)<|Le 74 (Nt z9A .h7)<|Le 75 (xK zfq (xM .h1)) (Lg 76 (wj (cs:=([p.1]:List ys).flatMap km) z9x (Lq (l:=[.tmp 75]) (.cons U .nil) [0])) fun aV _=>WL.fA 77 (kG (enc:=km) (l1:=d) (l2:=([p.1]:List ys)) z9x (.there<|.there .h7) (jB .here) (gF XK) aE) ?_)
       rintro⟨an,ao⟩ _
       exact Le 78 (xz ug)<|Ll (jh (ds:=[vs an ((d++([p.1]:List ys)).length) ao,vn]) zLM (.there<|.there .h7))<|WL.nil<|Lt<|Lb<|D2q U<|WL.nil<|Nz ⟨aK,i64 (b+1),w6 m (⟨(nth c.1 b).ya,(nth c.1 b).fQ⟩:z6) p.1.yl,d++([p.1]:List ys),an,ao⟩ h .q<|.s6 .h7 .h7 .h7 .h3 .here .here
     ·exact N1<|Lm<|Lm<|Lv<|Lo ⟨d,n,o⟩ h .q<|.s4 .h1 .h1 .h2 .h2
    ·rintro f g j h
     replace h:=(az f).symm.trans h
     refine WC.b<|bK h fun ap aF h=>Ld<|Le 80 (xz ug)<|Le 81 (Nt z9A .h2)<|Nb U (Ns call26) (.cons .h3 .nil) (cc hz (.cons .h3 .nil) fun w pz ho=>f5 (zn8:=27) (zvC:=[]) (zn7:=(fun y0 y1=>wK y0 y1)) aF pz call27 (fun w' hz' y0 y1  r  hr=>eU hr hz' ) ho) ?_
     rintro  aG
     refine N9 (cs':=[vs g ap.length j,vn]) .h3 (by rw[aG])<|Q0n<|WC.b<|bK h fun aL aH h=>Ld<|Le 83 (xK z2v (xM .h2))<|La U<|Le 85 (xz ug)<|Le 86 (Nt z9A .here)<|H5 U (Ns call28) .nil (ux hz .nil (.cons .h1 .nil) fun w pz ho la=>aD aH pz ((u.mono<|zl).weak (fun _ _ h=>wV zl h)) ((x.mono<|zl).weak (fun _ _ h=>vt zl h)) (y.mono<|zl) (z.mono<|zl) ((B.mono<|zl).weak (fun _ _ h=>wX zl h)) (E.mono<|zl) ((F.mono<|zl).weak (fun _ _ h=>vu zl h)) (G.mono<|zl) ((H.mono<|zl).weak (fun _ _ h=>qa zl h))<|ZA.row (la _ (.head _) _) (RR.flat (enc:=km)) ⟨w,pz.1⟩) ?_
     rintro aq ar _
     exact Le 88 (xz pO)<|Ll (jh (ds:=[vs g ap.length j,vs aq aL.length ar]) zLN .h1)<|Q0n<|B0q<|Le 89 (xK z9z (xM .here))<|Ll (xP z9y .h4)<|Q1n U<|Ny<|oJ h▸Li results12 (.agg U z9z U (xM .here)<|.tmp U .nil) fun w hw=>⟨g,j,aq,ar,q9,trivial,hw.sub (.s2 .h3 .h2)⟩
def jP(a:List ys):Option (List ys):=
 some a
theorem tU{Z a b c r}(h:jP c=some r){Nx}(hz:PZ [] Nx Z)(i:ZS Z 4 (rq km) a b c):
  Calls Tryz.prog 70 #[vs a c.length b] Nx fun e w'=>∃ d:Nat,∃ f:Option Addr,∃ g:Nat,e = .returned (.func (.func 113) #[] #[vp d])/\(ZS Z 4 (rq km) f g r)/\Hp [] Nx w' [stb d 33 [vs f r.length g]]:=by
 unfold jP at h
 refine L8 func70 U U<|B0q (Lg 1 (wa (cs:=[vs a c.length b])) fun j _=>Q1n U<|B0q<|Le 3 (wJ<|L6 (l:=[.tmp 1])<|.cons U .nil)<|Q1n U<|Ny ?_)
 exact oJ h▸Li results70 (.tmp U .nil) fun w hw=>⟨j,a,b,xZ,i,hw.sub (.cons .here .nil)⟩
def vd(z2J:Type)(z4S:List ys)(zcv:(Int×ys)->z2J->Option (Bool×z2J))(c:z2J->Option z2J):Nat->Int->z2J->Option z2J
 | 0,_,_=>none
 | e+1,a,d=>if decide (a>=0) then chk (0<=a/\a<z4S.length) ((zcv (a,(⟨(nth z4S a).ya,(nth z4S a).fQ,(nth z4S a).yl,(nth z4S a).fT⟩:ys)) d).bind fun b=>if !b.1 then some b.2 else vd z2J z4S zcv c e (i64 (a-1)) b.2) else c d
def jx(z2J:Type)(zcv:(Int×ys)->z2J->Option (Bool×z2J))(zeS:z2J)(z4S:List ys):Option z2J:=
 qI (fun(a:z2J)=>some a) fun b=>vd z2J z4S zcv b xR (i64 ((z4S.length:Int)-1)) zeS
theorem th{Z}(z2J:Type)(zAy)(zkP:Type)(zcw)(zrd:zkP->z2J->Prop)(znu zAz zJy zJz zcv zeS z4S r){Nx}(hz:Pz [zcw znu zeS] Nx Z)(t:ai Tryz.prog Z zAy (α:=Int×ys) (σ:=z2J) (G:=zkP) (H:=Unit) (fun h x=>[vi x.1,.agg #[vi x.2.ya,vi x.2.fQ,vi x.2.yl,vi x.2.fT]]) (fun h x=>[]) zcv zcw zrd)(u:zrd znu zeS)(v:ZS Z 4 (rq km) zJy zJz z4S)(l:ZC Z zAz [vs zJy z4S.length zJz])(h:jx z2J zcv zeS z4S=some r)(eO:Ho Nx [zcw znu zeS]):
  Calls Tryz.prog 113 #[.func (.yield zAy) #[] #[],vq zAz] Nx fun e w'=>∃ m:zkP,e = .returned (.tuple #[])/\(zrd m r)/\Hp (fps [zcw znu zeS]) Nx w' [zcw m r]:=by
 unfold jx at h
 refine Ni func113 U eO U<|B0q<|Le 4 (xA z9A U<|kN hz.pv l)<|Le 5 (w9 underlying33)<|Q2n U<|jK1 h fun n y h=>Oj (fun f i=>(n f=some r)/\(zrd i f)) (fun f i=>[]) (fun f i=>[zcw i f]) ?_ ?_
 ·refine WC.block<|H9 (fun j a c d=>(vd z2J z4S zcv n j a c=some r)/\(zrd d c)) (fun j a c d=>[(0,.func (.yield zAy) #[] #[]),(1,vq zAz),(3,vi a)]) (fun j a c d=>[zcw d c]) (fun j a c d=>j) ⟨xR,i64 ((z4S.length:Int)-1),zeS,znu⟩ ⟨h,u⟩ .q (.cons .here .nil) ?_
  rintro (_|F) a c d ⟨h,o⟩;·cases h
  rw[vd] at h
  refine WC.b<|B2n U<|Lj h (fun z h=>?_)<|fun z h=>?_
  ·refine Nn<|WC.b<|WC.block<|WC.b<|cK h fun A h=>bK h fun k B h=>D2q U<|Le 13 (xA z9A U<|kN hz.pv l)<|La U<|L2 (Z:=Z) (Pr:=(rq km)) z9x v A ?_
   rintro I J C K rfl
   refine Le 16 (xK zfq (qx hz.pv C)) (H8 (x:=(a,(⟨(nth z4S a).ya,(nth z4S a).fQ,(nth z4S a).yl,(nth z4S a).fT⟩:ys))) (h:=()) (g:=d) (s:=c) (b:=k.1) (s':=k.2) t U .q ((.cons .here .nil):Sel _ [zcw d c] _) B o (fun w hw=>hz.call hw ((.cons .here .nil):Sel _ [zcw d c] _)) fun p q=>Q1n U<|Lj h (fun D h=>?_)<|fun D h=>?_)
   ·exact Ny<|Lw<|Lk<|Lk<|Lw<|Lk<|oJ h▸Li results113 .nil fun w hw=>⟨p,mq,q,hw.sub (.cons .here .nil)⟩
   ·exact N2<|Lt<|Lb<|D3q U<|WL.nil<|Nz ⟨F,i64 (a-1),k.2,p⟩ ⟨h,q⟩ .q<|.cons .here .nil
  ·exact N1<|Lm<|Lm<|Lv<|Lo ⟨c,d⟩ ⟨h,o⟩ .nil<|.cons .here .nil
 ·rintro f i ⟨h,E⟩
  replace h:=(y f).symm.trans h
  exact oJ h▸Nh results113 .nil fun w hw=>⟨i,mq,E,hw.sub (.cons .here .nil)⟩
def te(a:Int×ys)(b:List (z6×Int)):Option (Bool×(Nat×(List (z6×Int)))):=
 some (true,(0,w6 b (⟨a.2.ya,a.2.fQ⟩:z6) a.2.yl))
def ox(a:List ys):Option (List (z6×Int)):=
 qI (fun(b:List (z6×Int))=>some b) fun c=>(jP a).bind fun d=>(jx (Nat×(List (z6×Int))) (fun(x:Int×ys) (s:Nat×(List (z6×Int)))=>chk (s.1=0) (te x s.2)) (0,([]:List (z6×Int))) d).bind fun e=>c e.2
theorem Xa{Z u y q r}(h:ox q=some r){Nx}(hz:PZ [] Nx Z)(L:ZS Z 4 (rq km) u y q):
  Calls Tryz.prog 36 #[vs u q.length y] Nx fun e w'=>∃ F:Nat,e = .returned (.map (some F))/\True/\Hp [] Nx w' [xN F (ga qE) vI r]:=by
 unfold ox at h
 let C:Value:=(vs u q.length y);refine Ob (vs:=[C]) (pre:=[]) (env:=[(0,C)]) func36 U ntmps36 U (Hp.nil Nx _) U ?_
 refine B1n U<|B0q (Lg 6 (kH (ga qE)<|Value.int .i64) fun a _=>Lg 3 (xT (cs:=[.map none]) zWV) fun b _=>Ll (xP zWW .here)<|Q0n ?_)
 refine jK1 h fun W M h=>Rg (fun p o=>(W o=some r)) (fun p o=>[(3,vp b)]) (fun p o=>[stb b 92 [(.map<|some a)],xN a (ga qE) vI o,kj p]) ?_ ?_
 ·refine WC.b<|bK h fun H N h=>D1q U<|Pp U U U (Ns call70) .nil (cc hz .nil fun w pz ho=>tU N pz L) ?_
  rintro c I J O
  refine Q0n<|WC.block<|WC.drop (.s3 .h1 .h1 .here)<|H7 (f:=113) (caps:=[vp c]) U call113 ?_
  intro X Y d j i z P Q w hw
  have hw1:=hw.selAll ((.s3 .h2 .h2 .here):Sel _ [stb b 92 [.map (some a)],xN a (ga qE) vI ([]:List (z6×Int)),wm d (i .ready none)] _)
  let A:List Value:=[vs I H.length J];have pz:=(hz.call hw1 ((.cons .here .nil):Sel [qs [stb b 92 [.map (some a)],xN a (ga qE) vI ([]:List (z6×Int)),wm d (i .ready none)],kj j,stb c 33 A] [qs [stb b 92 [.map (some a)],xN a (ga qE) vI ([]:List (z6×Int)),wm d (i .ready none)]] [kj j,stb c 33 A])).lend hw1 ((.cons .here .nil):Sel [qs [stb b 92 [.map (some a)],xN a (ga qE) vI ([]:List (z6×Int)),wm d (i .ready none)],kj j,stb c 33 A] [qs [stb b 92 [.map (some a)],xN a (ga qE) vI ([]:List (z6×Int)),wm d (i .ready none)]] [kj j,stb c 33 A]) (B:=[stb c 33 A]) (fun _ hx'=>((.cons .h1 .nil):Sel _ [stb c 33 A] _).mem hx')
  refine bK h fun n R h=>Calls.mono (th (zAy:=d) (zkP:=Unit) (zcw:=(fun(g:Unit) (s:Nat×(List (z6×Int)))=>qs ([stb b 92 [(.map<|some a)],xN a (ga qE) vI s.2]++[wm d (i (rX<|uf [] s.1)<|uf [] s.1)]))) (zrd:=(fun(g:Unit) (s:Nat×(List (z6×Int)))=>True)) (znu:=()) (zAz:=⟨c,0,none⟩) (zJy:=I) (zJz:=J) (z2J:=(Nat×(List (z6×Int)))) (zcv:=(fun(x:Int×ys) (s:Nat×(List (z6×Int)))=>chk (s.1=0)<|te x s.2)) (zeS:=(0,([]:List (z6×Int)))) (z4S:=H) (r:=n) pz ?_ trivial (O.mono<|zl) ((hw1.lent ((.cons .here .nil):Sel [qs [stb b 92 [(.map<|some a)],xN a (ga qE) vI ([]:List (z6×Int)),wm d (i .ready none)],kj j,stb c 33 A] [qs [stb b 92 [(.map<|some a)],xN a (ga qE) vI ([]:List (z6×Int)),wm d (i .ready none)]] [kj j,stb c 33 A]) (B:=[stb c 33 A]) (fun _ hx'=>((.cons .h1 .nil):Sel _ [stb c 33 A] _).mem hx') (.head _) _).stb) R<|hw1.owns ((.cons .here .nil):Sel [qs [stb b 92 [(.map<|some a)],xN a (ga qE) vI ([]:List (z6×Int)),wm d (i .ready none)],kj j,stb c 33 A] [qs [stb b 92 [(.map<|some a)],xN a (ga qE) vI ([]:List (z6×Int)),wm d (i .ready none)]] [kj j,stb c 33 A])) ?_
  ·refine bH (LI:=(fun(g:Unit) (s:Nat×(List (z6×Int)))=>[stb b 92 [(.map<|some a)],xN a (ga qE) vI s.2])) (pc:=(fun(s:Nat×(List (z6×Int)))=>uf [] s.1)) z P Q ?_
   rintro m _ _ ⟨S,E⟩ T V Fb wb K _ hz
   replace hz:=hz.left
   letI:Rnd:=bG d
   obtain⟨Af,t⟩:=xG K
   replace Af:S=0:=Af;subst Af;clear K
   replace t:te m E=some (T,V):=t
   unfold te at t
   refine WC.restr (env':=[(3,vp b),(9,vi m.1),(10,.agg #[vi m.2.ya,vi m.2.fQ,vi m.2.yl,vi m.2.fT])]) (.qo U)<|Oq (L':=[stb b 92 [(.map<|some a)],xN a (ga qE) vI E,wm d (i .ready none)]) U<|Ld (Lg 5 (xT (cs:=[vi 0,vi 0,vi 0,vi 0]) zoa) fun aa _=>Ll (xP zlC .here)<|WL.nil<|Bl z .h3<|WC.block<|Ld<|Le 11 (Nt zLT .h2)<|Le 12 (xz pN)<|Le 13 (Nt xJ .h1)<|Le 14 (xz lM)<|Le 15 (Nt xJ .h1)<|Le 16 (we (v:=(.agg #[vi m.2.ya,vi m.2.fQ])) (Lq (l:=[.tmp 13,.tmp 15]) (.r2 U U) [0,1]))<|Le 17 (xz dA)<|Le 18 (Nt xJ .h1)<|Ll (kV (k:=(⟨m.2.ya,m.2.fQ⟩:z6)) (v:=m.2.yl) zCx underlying92 .h3)<|WL.nil<|Lt ?_)
   obtain⟨rfl,rfl⟩:=cD t
   exact Of z .h1<|fun w' oN=>⟨(),U,trivial,(oN.selAll ((.s3 .h3 .h1 .here):Sel _ [stb b 92 [(.map<|some a)],xN a (ga qE) vI (w6 E (⟨m.2.ya,m.2.fQ⟩:z6) m.2.yl),wm d (i .ready none)] _)).sub (.cons .here .nil)⟩
  ·rintro _ w' ⟨_,rfl,_,hp⟩
   have zw:=hw1.call ((.cons .here .nil):Sel [qs [stb b 92 [.map (some a)],xN a (ga qE) vI ([]:List (z6×Int)),wm d (i .ready none)],kj j,stb c 33 A] [qs [stb b 92 [.map (some a)],xN a (ga qE) vI ([]:List (z6×Int)),wm d (i .ready none)]] [kj j,stb c 33 A]) hp
   have AO:Hp _ _ w' [stb b 92 [.map (some a)],xN a (ga qE) vI n.2,wm d (i (rX (uf [] n.1)) (uf [] n.1)),kj j,stb c 33 A]:=zw.pickAll .here
   refine⟨_,uf [] n.1,_,U,AO.sub ((.s5 .h2 .here .here .here .here):Sel _ [wm d (i (rX (uf [] n.1)) (uf [] n.1)),stb b 92 [.map (some a)],xN a (ga qE) vI n.2,kj j,stb c 33 A] _),?_⟩
   clear hp zw AO pz hw hw1
   refine wjN ?_
   letI:Rnd:=ti j
   exact Lt<|Oe (D:=fun(g:Nat×(List (z6×Int)))=>g.1) (G:=Nat×(List (z6×Int))) ⟨j,n.2⟩ h (.cons U .nil)<|.a3
 ·rintro p o h
  replace h:=(M o).symm.trans h
  letI:Rnd:=ti p
  refine B0q<|Le 19 (Nt zLT .here)<|Q1n U<|Ny ?_
  obtain rfl:=oJ h
  exact Og .h2 results36 (.tmp U .nil)<|fun w hw=>⟨a,xZ,trivial,hw.sub (.cons .h2 .nil)⟩
def mf(b:List (List zd))(e:zu)(f:(List (z6×Int)))(g:(List (List Int))->Option (List (List Int))):Nat->(List (List Int))->Int->Option (List (List Int))
 | 0,_,_=>none
 | h+1,c,a=>if decide (a<b.length) then chk (0<=a/\a<b.length) ((mc e (nth b a) f).bind fun d=>chk ((((c++([d]:List (List Int))).length:Nat):Int)*24<=140737488355328/\(((c++([d]:List (List Int))).length:Nat):Int)<=4611686018427387904) (mf b e f g h (c++([d]:List (List Int))) (i64 (a+1)))) else g c
def pE(a:zu)(b:List (List zd))(c:List ys):Option (List (List Int)):=
 (kE a 0 b).bind fun d=>(if !d then(kE a 1 b).bind fun e=>some (!e) else some false).bind fun f=>if f then some ([]:List (List Int)) else(ox c).bind fun g=>qI (fun(h:List (List Int))=>some h) fun i=>mf b a g i xR ([]:List (List Int)) 0
theorem aF{Z x y z D E F G H I J K L M N O P Q R af ag a o S r}(h:pE a o S=some r){Nx}(hz:PZ [] Nx Z)(T:ZS Z 4 (kr Z) x y a.fM)(V:ZS Z 4 (g5 Z) z D a.yd)(W:ZS Z 4 (rq ki) E F a.fS)(X:ZS Z 4 (rq gg) G H a.fK)(Y:ZS Z 7 (g8 Z) I J a.yc)(aa:ZS Z 5 (rq gc) K L a.fH)(ab:ZS Z 3 (g6 Z) M N a.fU)(ad:ZS Z 4 (rq ge) O P a.ye)(ae:ZS Z 1 (g9 Z) Q R o)(aw:ZS Z 4 (rq km) af ag S):
  Calls Tryz.prog 14 #[.agg #[vs x a.fM.length y,vs z a.yd.length D,vs E a.fS.length F,vs G a.fK.length H,vs I a.yc.length J,vs K a.fH.length L,vs M a.fU.length N,vs O a.ye.length P],vs Q o.length R,vs af S.length ag] Nx fun e w'=>∃ Zn:Zp,∃ ah:Option Addr,∃ ai:Nat,∃ aj:List Value,e = .returned (vs ah r.length ai)/\(RR 1 (ax (Z++Zn)) aj r)/\Hp [] Nx w' [fz Zn,row (vs ah r.length ai) 50 1 aj]:=by
 unfold pE at h
 refine Nk func14 U U ?_
 let A:List Value:=[vs x a.fM.length y,vs z a.yd.length D,vs E a.fS.length F,vs G a.fK.length H,vs I a.yc.length J,vs K a.fH.length L,vs M a.fU.length N,vs O a.ye.length P];refine WC.pool<|B0q<|Lg 3 (wa (cs:=A)) ?_
 intro ak _
 refine Q1n U<|WC.b<|WC.b<|bK h fun aZ ay h=>bK h fun aQ al h=>Ld<|Le 11 (xK z2v (xM .here))<|La U<|Ln 13 (Ns call22) .nil (ms hz .nil .h1 fun w pz ho=>uh ay pz ((T.mono<|zl).weak (fun _ _ h=>wV zl h)) ((V.mono<|zl).weak (fun _ _ h=>vt zl h)) (W.mono<|zl) (X.mono<|zl) ((Y.mono<|zl).weak (fun _ _ h=>wX zl h)) (aa.mono<|zl) ((ab.mono<|zl).weak (fun _ _ h=>vu zl h)) (ad.mono<|zl)<|(ae.mono<|zl).weak (fun _ _ h=>qa zl h))<|Q2q U<|Ly true 4 15 (B:=aQ) (hB:=(fun h=>(oJ<|qZ al h).symm)) (fun _ az=>?_) ?_
 ·have u:=qY al az
  obtain⟨a0,aA,u⟩:=za u
  replace u:=oJ u
  exact Le 16 (xK z2v (xM .here))<|La U<|Ln 18 (Ns call22) .nil (ms hz .nil .h1 fun w pz ho=>uh aA pz ((T.mono<|zl).weak (fun _ _ h=>wV zl h)) ((V.mono<|zl).weak (fun _ _ h=>vt zl h)) (W.mono<|zl) (X.mono<|zl) ((Y.mono<|zl).weak (fun _ _ h=>wX zl h)) (aa.mono<|zl) ((ab.mono<|zl).weak (fun _ _ h=>vu zl h)) (ad.mono<|zl)<|(ae.mono<|zl).weak (fun _ _ h=>qa zl h))<|Q2q U<|Lz u U .all
 refine Q0n<|Lj h (fun aB h=>?_)<|fun aB h=>?_
 ·exact B1n U<|Ny<|Lk<|WX.nilRow 50 1<|oJ h▸Li results14 (.tmp U .nil) fun w hw=>⟨[],none,0,[],xZ,RR.nil _ _,hw.sub (.s2 .h2 .here)⟩
 ·refine Nn<|WC.b<|bK h fun am aC h=>D1q U<|Pb U U U (Ns call36) .nil (ms hz .nil .h1 fun w pz ho=>Xa aC pz<|aw.mono<|zl) ?_
  rintro an _
  refine Q1n U<|B1n U<|jK1 h fun ao aD h=>O5 (fun g i p q s=>(ao g=some r)/\(xE (Z++[]) (Z++i))/\(RR 1 (ax (Z++i)) s g)) (fun g i p q s=>[(8,vs p g.length q)]) (fun g i p q s=>[fz i,row (vs p g.length q) 50 1 s]) ?_ ?_
  ·refine B1q U<|Le 24 (w9 underlying32)<|Q1n U<|WC.block<|WC.nilRow 50 1<|Px (fun t c j d k m f=>(mf o a am ao t c j=some r)/\(xE (Z++[]) (Z++d))/\(RR 1 (ax (Z++d)) f c)) (fun t c j d k m f=>[(3,vp ak),(7,(.map<|some an)),(8,vs k c.length m),(23,vs Q o.length R),(24,vi (o.length:Int)),(25,vi j)]) (fun t c j d k m f=>[fz d,row (vs k c.length m) 50 1 f,stb ak 31 A,xN an (ga qE) vI am]) (fun t c j d k m f=>t) ⟨xR,([]:List (List Int)),0,[],none,0,[]⟩ ⟨h,xE.refl _,RR.nil _ _⟩ .q (.s4 .h3 .here .h1 .here) ?_
   rintro (_|aR) c j d k m f ⟨h,b,ap⟩;·cases h
   rw[mf] at h
   refine B1n U<|WC.b<|Lj h (fun aE h=>?_)<|fun aE h=>?_
   ·refine Nn<|WC.b<|WC.block<|WC.b<|cK h fun aG h=>Ld<|L2 (Z:=(Z++d)) (Pr:=(g9 (Z++d))) z8K ((ae.mono<|zl.trans b).weak (fun _ _ h=>qa (zl.trans b) h)) aG ?_
    rintro aS aT aH aU ⟨aV,aW,rfl,aI⟩
    refine Le 28 (xA z9v U<|kN (hz.pv2 .here) aH)<|Q1n U<|bK h fun n aJ h=>cK h fun aK h=>D1q U<|Le 30 (xK z2v (xM .h2))<|Q2q U<|H5 U (Ns call37) (.cons .h3 .nil) (ms hz (.cons .h3 .nil) .here fun w pz ho=>ud aJ pz ((T.mono<|zl.trans b).weak (fun _ _ h=>wV (zl.trans b) h)) ((V.mono<|zl.trans b).weak (fun _ _ h=>vt (zl.trans b) h)) (W.mono<|zl.trans b) (X.mono<|zl.trans b) ((Y.mono<|zl.trans b).weak (fun _ _ h=>wX (zl.trans b) h)) (aa.mono<|zl.trans b) ((ab.mono<|zl.trans b).weak (fun _ _ h=>vu (zl.trans b) h)) (ad.mono<|zl.trans b) aI ho) ?_
    rintro aq ar _
    refine WL.freezeS (ls:=n) .here .h1 hz (RR.flat (enc:=e3)) ?_
    intro v au aL
    let C:List Value:=[vs aq n.length ar];have av:RR 1 (ax (Z++v)) C ([n]:List (List Int)):=(RR.cons (r:=C) U (show ax _ _ _ from⟨_,_,U,aL⟩) (RR.nil _ _))
    refine Lg 34 (wj (cs:=[vs aq n.length ar]) zCy (Lq (l:=[.tmp 33]) (.cons U .nil) [0])) ?_
    intro aX _
    have aM:RR 1 (ax (Z++v)) (f++C) (c++([n]:List (List Int))):=RR.app (ap.weak (fun _ _ h=>QG au h)) av
    refine WL.fA 35 (oz (l1:=c) (l2:=([n]:List (List Int))) (ve:=C) (Pr:=(ax (Z++v))) zCy .h3 av (jB .here) ly aK) ?_
    rintro⟨aN,aO⟩ _
    exact La U<|WL.nil<|Lt<|Lb<|D2q U<|WL.nil<|Nz ⟨aR,c++([n]:List (List Int)),i64 (j+1),v,aN,aO,f++C⟩ ⟨h,b.trans au,aM⟩ .q<|.s4 .h2 .here .h2 .h1
   ·exact N1<|Lm<|Lm<|Lv<|Lo ⟨c,d,k,m,f⟩ ⟨h,b,ap⟩ (.cons U .nil)<|.a2
  ·rintro g i p q s ⟨h,aY,aP⟩
   replace h:=(aD g).symm.trans h
   exact B2n U<|Ny<|oJ h▸Li results14 (.tmp U .nil) fun w hw=>⟨i,p,q,s,xZ,aP,hw.sub .a2⟩
end Go.Proofs.YthjnhebofpebpaaGreat
