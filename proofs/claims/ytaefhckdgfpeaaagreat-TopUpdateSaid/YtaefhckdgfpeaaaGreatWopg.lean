/- A part of this claim's proof: models of functions, walks, plain laws. No conditions. -/
import Derived.Test.YtaefhckdgfpeaaaGreatWopf
set_option linter.all false
namespace Go.Proofs.YtaefhckdgfpeaaaGreat
open Go Go.RowKit Sep Tryz
set_option maxRecDepth 30000
set_option maxHeartbeats 4000000
def oo(c:ye)(wide:List (Int×Int))(q:Int×List (Int->Option Int))(y0:Int):Option Int:=sx y0 q.1 q.2 wide c
def gC(c:List (List zg))(j:ze)(b:ye)(l:List (ze×Int))(m:Int->(List (Int×List (Int->Option Int)))->(List (Int×Int))->Option (List (Int->Option Int)×Int)):Nat->Int->Int->(List (Int×List (Int->Option Int)))->(List (Int×Int))->Option (List (Int->Option Int)×Int)
 | 0,_,_,_,_=>none
 | p+1,k,a,d,g=>if decide (a<c.length) then Q5 (fun(q:Int) (r:List (Int×List (Int->Option Int))) (s:List (Int×Int))=>gC c j b l m p q (i64 (a+1)) r s) fun n=>chk (0<=a/\a<c.length) ((vO (nth c a) (fun(y0:zg)=>mK y0 j)).bind fun e=>if decide (e<0) then n k d g else chk (0<=a/\a<b.ya.length) ((pK b (nth c a) l).bind fun h=>chk (0<=e/\e<h.length) (vC (fun(f:Int)=>chk (((((ww d f [])++([(fun(y0:Int)=>vS y0 (⟨(nth b.ya a).yl,(⟨((nth b.ya a).yu).yh,((nth b.ya a).yu).yR,((nth b.ya a).yu).yS⟩:yU),(nth b.ya a).yX,(nth b.ya a).yQ,(nth b.ya a).xd⟩:yG) (nth h e))]:List (Int->Option Int))).length:Nat):Int)*8<=140737488355328/\((((ww d f [])++([(fun(y0:Int)=>vS y0 (⟨(nth b.ya a).yl,(⟨((nth b.ya a).yu).yh,((nth b.ya a).yu).yR,((nth b.ya a).yu).yS⟩:yU),(nth b.ya a).yX,(nth b.ya a).yQ,(nth b.ya a).xd⟩:yG) (nth h e))]:List (Int->Option Int))).length:Nat):Int)<=4611686018427387904) (n (max k ((nth b.ya a).yQ)) (wU d f ((ww d f [])++([(fun(y0:Int)=>vS y0 (⟨(nth b.ya a).yl,(⟨((nth b.ya a).yu).yh,((nth b.ya a).yu).yR,((nth b.ya a).yu).yS⟩:yU),(nth b.ya a).yX,(nth b.ya a).yQ,(nth b.ya a).xd⟩:yG) (nth h e))]:List (Int->Option Int)))) (wU g f (max (ww g f 0) ((nth b.ya a).yQ))))) fun o=>(vO (nth c a) (fun(y0:zg)=>mL y0 j)).bind fun i=>if decide (i>=0) then chk (0<=i/\i<((nth c a).length:Int)) (o ((nth (nth c a) i).fQ)) else o (-1)))) else m k d g
def rS(b:ye)(c:List (List zg))(d:ze)(e:List (ze×Int)):Option (List (Int->Option Int)×Int):=
 Q5 (fun(f:Int) (a:List (Int×List (Int->Option Int))) (g:List (Int×Int))=>chk (a.length*8<=140737488355328/\a.length<=4611686018427387904) (some (a.map (oo b g),f))) fun h=>gC c d b e h wr 0 0 ([]:List (Int×List (Int->Option Int))) ([]:List (Int×Int))
theorem YB(Z aK aL aM aN aO aP aQ aR aS aT aU aV aW aX aY aZ a8 a9 p a al am ae r)(h:rS a al am ae=some r){Ek}(hz:Pz [wp p (ga qy) vI ae] Ek Z)(aA:ZS Z 4 (u5 Z) aK aL a.fM)(aB:ZS Z 4 (fc Z) aM aN a.y9)(aC:ZS Z 4 (rq ml) aO aP a.fS)(aD:ZS Z 4 (rq m7) aQ aR a.fK)(ay:ZS Z 7 (fa Z) aS aT a.ya)(aE:ZS Z 5 (rq mg) aU aV a.yc)(aF:ZS Z 3 (fe Z) aW aX a.fU)(aG:ZS Z 4 (rq j5) aY aZ a.y8)(bp:ZS Z 1 (m8 Z) a8 a9 al)(iA:Ho Ek [wp p (ga qy) vI ae]):
  Calls Tryz.prog 89 #[.agg #[vs aK a.fM.length aL,vs aM a.y9.length aN,vs aO a.fS.length aP,vs aQ a.fK.length aR,vs aS a.ya.length aT,vs aU a.yc.length aV,vs aW a.fU.length aX,vs aY a.y8.length aZ],vs a8 al.length a9,.agg #[vi am.y6,vi am.fQ],.map (some p)] Ek fun e w'=>∃ Zn:Zp,∃ Bd:Option Addr,∃ zy:Nat,e = .returned (.tuple #[vs Bd r.1.length zy,vi r.2])/\(WR (Z++Zn) (uU (Z++Zn)) Bd zy r.1)/\Hp (fps [wp p (ga qy) vI ae]) Ek w' [fz Zn,wp p (ga qy) vI ae]:=by
 unfold rS at h
 refine Et func89 U iA U ?_
 let Q:Value:=(vs aS a.ya.length aT);let V:Value:=(vs aK a.fM.length aL);let W:Value:=(vs aM a.y9.length aN);let X:Value:=(vs aO a.fS.length aP);let Y:Value:=(vs aQ a.fK.length aR);let Aa:Value:=(vs aU a.yc.length aV);let Ab:Value:=(vs aW a.fU.length aX);let Ac:Value:=(vs aY a.y8.length aZ);let A:List Value:=[V,W,X,Y,Q,Aa,Ab,Ac];refine WC.pool<|B0q<|Lh 4 (wu (cs:=A)) ?_
 intro q _
 let H:List Value:=[vi am.y6,vi am.fQ];refine Lh 6 (wu (cs:=H)) ?_
 intro ab _
 refine Q2n U<|Lb<|Le (Lh 23 (jK vI<|slv (α:=Value)) fun B _=>Nq (M:=[vh (qM 288 1 gL) ([]:List (Int×((Nat×(Option Addr×Nat))×List Value))),wp B vI slv (jd ([]:List (Int×((Nat×(Option Addr×Nat))×List Value)))),stb ab 154 H,stb q 80 A,fz [],wp p (ga qy) vI ae]) (fun _ h=>Hp.az (qM 288 1 gL) h)<|Q1n U<|Lb<|Le (Lh 24 (jK vI<|Value.int .i64) fun t _=>Lh 11 (wn (cs:=[.map none]) z1ea) fun s _=>Ll (wl z1eb .here)<|Q0n<|B1n U ?_))
 refine jK3 h fun bo bq h=>Hi (fun a0 a1 a2 aH aI=>(bo a0 a1 a2=some r)/\(wg (Z++[]) (Z++aH))/\(RM (uU (Z++aH)) (mq aI) a1)) (fun a0 a1 a2 aH aI=>[(4,vp q),(10,(.map<|some B)),(11,vp s),(12,vi a0)]) (fun a0 a1 a2 aH aI=>[fz aH,stb q 80 A,wp B vI slv (jd aI),vh (qM 288 1 gL) aI,stb s 229 [(.map<|some t)],wp p (ga qy) vI ae,wp t vI vI a2]) ?_ ?_
 ·let J:Value:=(vs a8 al.length a9);refine B1q U<|Lf 26 (wB underlying85)<|Q1n U<|WC.block<|H2 (fun az ai b ak af ad z=>(gC al am a ae bo az ai b ak af=some r)/\(wg (Z++[]) (Z++ad))/\(RM (uU (Z++ad)) (mq z) ak)) (fun az ai b ak af ad z=>[(3,(.map<|some p)),(4,vp q),(6,vp ab),(10,(.map<|some B)),(11,vp s),(12,vi ai),(25,J),(26,vi (al.length:Int)),(27,vi b)]) (fun az ai b ak af ad z=>[fz ad,wp p (ga qy) vI ae,stb q 80 A,stb ab 154 H,wp B vI slv (jd z),vh (qM 288 1 gL) z,stb s 229 [(.map<|some t)],wp t vI vI af]) (fun az ai b ak af ad z=>az) ⟨wr,0,0,([]:List (Int×List (Int->Option Int))),([]:List (Int×Int)),[],([]:List (Int×((Nat×(Option Addr×Nat))×List Value)))⟩ ⟨h,wg.refl _,RM.nil⟩ .q (.s8 .h6 .h6 .h5 .h4 .h3 .h2 .here .here) ?_
  rintro (_|bV) ai b ak af ad z ⟨h,o,a3⟩;·cases h
  rw[gC] at h
  refine B1n U<|Lb<|Lj h (fun br h=>?_)<|fun br h=>?_
  ·refine Ec<|jK3 h fun bW bs h=>Hi (fun an ap aq ar au=>(bW an ap aq=some r)/\(wg (Z++ad) (Z++ar))/\(RM (uU (Z++ar)) (mq au) ap)) (fun an ap aq ar au=>[(3,(.map<|some p)),(4,vp q),(6,vp ab),(10,(.map<|some B)),(11,vp s),(12,vi an),(25,J),(26,vi (al.length:Int)),(27,vi b)]) (fun an ap aq ar au=>[fz ar,wp p (ga qy) vI ae,stb q 80 A,stb ab 154 H,wp B vI slv (jd au),vh (qM 288 1 gL) au,stb s 229 [(.map<|some t)],wp t vI vI aq]) ?_ ?_
   ·refine WC.block<|Lb<|cK h fun bt h=>D1q U<|L0 (dd:=30) (Z:=(Z++ad)) (Pr:=(m8 (Z++ad))) zgU ((bp.mono<|zl.trans o).weak (fun _ _ h=>qY (zl.trans o) h)) bt ?_
    rintro b3 b4 bu b5 ⟨bX,bY,rfl,av⟩
    refine Lf 31 (w8 zfm U<|vx (hz.pv2 .here) bu)<|Q2n U<|Lb<|bK h fun ag bv h=>D1q U<|Lf 33 (wO<|L6 (l:=[.tmp 6])<|.cons U .nil)<|Lm 34 (Eh call137) .nil (uT hz .nil .here (.cons .h3 .nil) fun w pz ho la=>j6 _ _ _ (zh3:=138) (znY:=[vp ab]) _ (zcN:=(fun(y0:zg)=>mK y0 am)) _ bv pz (av.mono<|zl) call138<|fun w' nd y0  r  hr=>nI _ _ _ _ _ hr nd<|(la _ (.head _) _).stb)<|Q1n U<|Lb<|B2n U<|Lj h (fun bw h=>?_)<|fun bw h=>?_
    ·exact En<|Ln<|Lu<|Lp ⟨ai,ak,af,ad,z⟩ ⟨h,wg.refl _,a3⟩ .q<|.a8
    ·refine Ec<|Lb<|cK h fun bx h=>bK h fun aa a4 h=>cK h fun aj h=>Lv (fun i=>[8,14,15].contains i) [pp q 80 [(4,Q)],fz ad]<|Lg 0 U (w7 pU)<|Na 1 U (wS.wk (.s2 .h2 .here)<|.stb (.cons U .nil)<|.same .nil) (w8 zjX U<|mF .here<|.head _)<|Lg 2 U q_m<|L8 (j:=3) (dd:=40) (by kernel_rfl) z2W z2X (Z:=(Z++ad)) (Pr:=(fa (Z++ad))) znO ((ay.mono<|zl.trans o).weak (fun _ _ h=>vL (zl.trans o) h)) bx ?_
     rintro b6 b7 bz b8 ⟨bZ,b0,rfl,bA⟩
     let E:Value:=(vs bX ((nth al b).length) bY);let K:Value:=(vi (al.length:Int));let L:Value:=(vs bZ (((nth a.ya b).xd).length) b0);let N:Value:=(vi ((nth a.ya b).yX));let O:Value:=(vi ((nth a.ya b).yQ));refine Na 4 U (wS.wk (.s2 .h2 .here)<|.stb (.cons U .nil)<|.same .nil) (we zNK (vy (hz.pv2 .h1) bz))<|Li 5 U (we z5x (wh .h2))<|Lg 6 U q_m<|Lg 7 U q_m<|Lg 9 U q_m<|Hg (fuel':=0) (fun c n f g=>[(3,(.map<|some p)),(4,vp q),(6,vp ab),(10,(.map<|some B)),(11,vp s),(12,vi ai),(25,J),(26,K),(27,vi b),(14,E),(16,vp f),(17,vp g),(18,vi (-1))]) (fun c n f g=>[stb g 3 [(vi<|nth aa ag)],stb f 74 [(.string<|(nth a.ya b).yl),(.string<|((nth a.ya b).yu).yh),(.string<|((nth a.ya b).yu).yR),(.string<|((nth a.ya b).yu).yS),N,O,L],row (vs (some ⟨c,0,none⟩) aa.length n) 3 1 (aa.flatMap e3),wp p (ga qy) vI ae,fz ad,stb q 80 A,stb ab 154 H,wp B vI slv (jd z),vh (qM 288 1 gL) z,stb s 229 [(.map<|some t)],wp t vI vI af]) (fun c n f g=>True) (wR 17 [16,15,11,14,13,12,10,8,9,7,6,5,4,3,2,1,0]) ?_<|fun bB=>?_
     ·rintro c n f g _
      refine Eo (by kernel_rfl)<|Ld<|jK1 h fun b1 bC h=>Nd (fun ah=>(b1 ah=some r)) (fun ah=>[(3,(.map<|some p)),(4,vp q),(6,vp ab),(10,(.map<|some B)),(11,vp s),(12,vi ai),(16,vp f),(17,vp g),(18,vi ah),(25,J),(26,K),(27,vi b)]) (fun ah=>[fz ad,wp p (ga qy) vI ae,stb q 80 A,stb ab 154 H,wp B vI slv (jd z),vh (qM 288 1 gL) z,stb s 229 [(.map<|some t)],stb f 74 [(.string<|(nth a.ya b).yl),(.string<|((nth a.ya b).yu).yh),(.string<|((nth a.ya b).yu).yR),(.string<|((nth a.ya b).yu).yS),N,O,L],stb g 3 [(vi<|nth aa ag)],wp t vI vI af]) ?_ ?_
      ·refine Lb<|bK h fun b2 bD h=>D1q U<|Lf 50 (wO<|L6 (l:=[.tmp 6])<|.cons U .nil)<|Lm 51 (Eh call137) .nil (uT hz .nil .h4 (.cons .h6 .nil) fun w pz ho la=>j6 _ _ _ (zh3:=140) (znY:=[vp ab]) _ (zcN:=(fun(y0:zg)=>mL y0 am)) _ bD pz (av.mono<|zl) call140<|fun w' nd y0  r  hr=>nJ _ _ _ _ _ hr nd<|(la _ (.head _) _).stb)<|Q1n U<|B2n U<|Lj h (fun bE h=>?_)<|fun bE h=>?_
       ·refine cK h fun bF h=>D2q U<|L0 (dd:=56) (Z:=(Z++ad)) (Pr:=(rq mG)) zaL av bF ?_
        rintro b9 ca bG cb rfl
        exact Lf 57 (w7 sn)<|Lf 58 (w8 wm U<|wP (hz.pv2 .h4) bG)<|La U<|WL.nil<|Lp ((nth (nth al b) b2).fQ) h .q<|.s10 .h4 .h3 .h3 .h3 .h3 .h3 .h3 .h1 .here .h1
       ·exact Ep<|Lp (-1) h .q<|.s10 .h4 .h3 .h3 .h3 .h3 .h3 .h3 .h1 .here .h1
      ·rintro ah h
       replace h:=(bC ah).symm.trans h
       refine Lb<|cK h fun bH h=>Le<|La U<|La U<|La U<|La U<|Lf 63 (qL (k:=ah) (dflt:=(((none,0),[]):(Option Addr×Nat)×List Value)) gc underlying284 zZj .h4)<|Hq (fun _ h=>Hp.KL ah a3 .h5 h) ?_
       rintro⟨⟨bI,bJ⟩,aJ⟩ ⟨bL,bg⟩
       refine Ew (i:=63) U (u:=(vs bI ((ww ak ah []).length) bJ)) ((congrArg slv bL).trans (RR.slv bg)) (WL.freezeC (Z:=Z) (.there .h7) .h2 fun cc a5 bb=>WL.freezeC (Z:=Z) (.there .h7) .here ?_)
       intro aw ax bM
       let I:List Value:=[.func (.func 141) #[] #[vp f,vp g]];have bN:uU (Z++aw) I (fun y0=>vS y0 (⟨(nth a.ya b).yl,(⟨((nth a.ya b).yu).yh,((nth a.ya b).yu).yR,((nth a.ya b).yu).yS⟩:yU),(nth a.ya b).yX,(nth a.ya b).yQ,(nth a.ya b).xd⟩:yG) (nth aa ag)):=⟨141,[vp f,vp g],U,call141,(fun w' nd y0 r hr=>nK _ _ _ _ _ _ _ _ _ hr nd (bA.mono (a5.trans ax)) (bb.mono ax) bM)⟩
       refine Lf 64 (wO<|L6 (l:=[.tmp 16,.tmp 17])<|.r2 U U) ?_
       have bh:RR 1 (uU (Z++aw)) I ([(fun y0=>vS y0 (⟨(nth a.ya b).yl,(⟨((nth a.ya b).yu).yh,((nth a.ya b).yu).yR,((nth a.ya b).yu).yS⟩:yU),(nth a.ya b).yX,(nth a.ya b).yQ,(nth a.ya b).xd⟩:yG) (nth aa ag))]:List (Int->Option Int)):=(RR.cons (r:=I) U bN (RR.nil _ _))
       refine Lh 65 (wD (cs:=[.func (.func 141) #[] #[vp f,vp g]]) zCx (Lt (l:=[.tmp 64]) (.cons U .nil) [0]) (fun _=>by kernel_rfl) (by unfold maxLen;omega)) ?_
       intro bO _
       have bc:RR 1 (uU (Z++aw)) (aJ++I) ((ww ak ah [])++([(fun y0=>vS y0 (⟨(nth a.ya b).yl,(⟨((nth a.ya b).yu).yh,((nth a.ya b).yu).yR,((nth a.ya b).yu).yS⟩:yU),(nth a.ya b).yX,(nth a.ya b).yQ,(nth a.ya b).xd⟩:yG) (nth aa ag))]:List (Int->Option Int))):=RR.app (bg.weak (fun _ _ h=>tm (a5.trans ax) h)) bh
       refine WL.fA 66 (uq (l1:=ww ak ah []) (l2:=([(fun y0=>vS y0 (⟨(nth a.ya b).yl,(⟨((nth a.ya b).yu).yh,((nth a.ya b).yu).yR,((nth a.ya b).yu).yS⟩:yU),(nth a.ya b).yX,(nth a.ya b).yQ,(nth a.ya b).xd⟩:yG)<|nth aa ag)]:List (Int->Option Int))) (news:=I) (Pr:=(uU (Z++aw))) zCx .h2 bh (wY .here) (uv si) bH) ?_
       rintro⟨a6,a7⟩ _
       exact Ll (kn (k:=ah) (v:=(((a6,a7),aJ++I):(Option Addr×Nat)×List Value)) gc underlying284 (BY:=⟨(RR.slv bc).symm⟩) .h7)<|Nq (fun _ h=>Hp.K1 (k:=ah) (RR.len1 bc) (.s2 .h1 .h3) h)<|Nq (M:=[wp B vI slv (jd<|wU z ah ((0,(a6,a7)),aJ++I)),vh (qM 288 1 gL) (wU z ah ((0,(a6,a7)),aJ++I)),row (vs (some ⟨bO,0,none⟩) (([(fun y0=>vS y0 (⟨(nth a.ya b).yl,(⟨((nth a.ya b).yu).yh,((nth a.ya b).yu).yR,((nth a.ya b).yu).yS⟩:yU),(nth a.ya b).yX,(nth a.ya b).yQ,(nth a.ya b).xd⟩:yG)<|nth aa ag)]:List (Int->Option Int)).length) 1) 288 1 I,fz aw,wp p (ga qy) vI ae,stb q 80 A,stb ab 154 H,stb s 229 [(.map<|some t)],wp t vI vI af]) (fun _ h=>Hp.aA .h1 (YT _ _ _ _).symm h)<|Q0n<|Lv (fun i=>[12].contains i) [fz aw]<|Li 0 U (Ei zNS .h7)<|Lg 1 U q_m<|Li 2 U (Ei zNS .h7)<|Lg 3 U q_m<|Li 4 U (qL (k:=ah) (dflt:=(0:Int)) gc underlying229 qp<|.there .h7)<|Lg 5 U (w7 pW)<|Li 6 U (w8 wm U<|wP (hz.pv2 .h3) (bb.mono ax))<|Lg 7 U lT<|Lg 8 U q_m<|Lg 9 U (w7 pW)<|Na 10 U (wS.of<|.cons .h3 .nil) (w8 wm U<|wP (hz.pv2 .here) (bb.mono ax))<|Lg 11 U lT<|WD.forced0 (i:=12) U (by kernel_rfl) (wS.of<|.cons .h4 .nil) (kn (k:=ah) (v:=max (ww af ah 0) ((nth a.ya b).yQ)) gc underlying229<|.there .h7)<|Lg 13 U q_z<|Eo (by kernel_rfl)<|Lq<|Lp ⟨(max ai<|(nth a.ya b).yQ),wU ak ah ((ww ak ah [])++([(fun y0=>vS y0 (⟨(nth a.ya b).yl,(⟨((nth a.ya b).yu).yh,((nth a.ya b).yu).yR,((nth a.ya b).yu).yS⟩:yU),(nth a.ya b).yX,(nth a.ya b).yQ,(nth a.ya b).xd⟩:yG)<|nth aa ag)]:List (Int->Option Int))),(wU af ah<|max (ww af ah 0)<|(nth a.ya b).yQ),aw,wU z ah ((0,(a6,a7)),aJ++I)⟩ ⟨h,a5.trans ax,RM.putD (a3.weak<|fun _ _ h=>tm (a5.trans ax) h) ah bc⟩ .q<|.s8 .h4 .h4 .h4 .h4 .h1 .h1 .h2 .here
     let R:Value:=(.string (((nth a.ya b).yu).yh));let S:Value:=(.string (((nth a.ya b).yu).yR));let T:Value:=(.string (((nth a.ya b).yu).yS));let Ad:Value:=(.string ((nth a.ya b).yl));refine Hg (fuel':=2) (fun c n f g=>[(3,(.map<|some p)),(4,vp q),(6,vp ab),(10,(.map<|some B)),(11,vp s),(12,vi ai),(25,J),(26,K),(27,vi b),(14,E),(16,vp f),(17,vp g),(48,(vi<|nth aa ag))]) (fun c n f g=>[stb f 74 [Ad,R,S,T,N,O,L],stb g 3 [vi 0],row (vs (some ⟨c,0,none⟩) aa.length n) 3 1 (aa.flatMap e3),wp p (ga qy) vI ae,fz ad,stb q 80 A,stb ab 154 H,wp B vI slv (jd z),vh (qM 288 1 gL) z,stb s 229 [(.map<|some t)],wp t vI vI af]) (fun c n f g=>True) (wR 17 [11,14,13,12,10,8,9,7,6,5,4,3,2,1,0]) ?_<|fun bi=>?_
     ·rintro c n f g _
      exact WD.forced0 (i:=15) U (by kernel_rfl) (wS.wk (.s2 .h5 .h4)<|.stb (.cons U .nil)<|.same .nil) (wl jM .h1)<|Lg 16 U q_z<|Lw .a11 (.qo U)<|bB c n f g trivial
     let C:Value:=(.agg #[Ad,R,S,T,N,O,L]);let D:List Value:=[.string ⟨#[]⟩,.string ⟨#[]⟩,.string ⟨#[]⟩,.string ⟨#[]⟩,vi 0,vi 0,vn];refine Hg (fuel':=3) (fun c n f g=>[(3,(.map<|some p)),(4,vp q),(6,vp ab),(10,(.map<|some B)),(11,vp s),(12,vi ai),(25,J),(26,K),(27,vi b),(14,E),(41,C),(48,(vi<|nth aa ag)),(16,vp f),(17,vp g)]) (fun c n f g=>[stb g 3 [vi 0],stb f 74 D,row (vs (some ⟨c,0,none⟩) aa.length n) 3 1 (aa.flatMap e3),wp p (ga qy) vI ae,fz ad,stb q 80 A,stb ab 154 H,wp B vI slv (jd z),vh (qM 288 1 gL) z,stb s 229 [(.map<|some t)],wp t vI vI af]) (fun c n f g=>True) (wR 17 [13,12,11,10,8,9,7,6,5,4,3,2,1,0]) ?_<|fun bd=>?_
     ·rintro c n f g _
      exact WD.forced0 (i:=14) U (by kernel_rfl) (wS.wk (.s2 .h5 .h4)<|.stb (.cons U .nil)<|.same .nil) (wl zZi .h1)<|Lw .a11 (.qo U)<|bi c n f g trivial
     refine Hs (fuel':=4) (fun c n f=>[(3,(.map<|some p)),(4,vp q),(6,vp ab),(10,(.map<|some B)),(11,vp s),(12,vi ai),(25,J),(26,K),(27,vi b),(14,E),(41,C),(48,(vi<|nth aa ag)),(16,vp f)]) (fun c n f=>[stb f 74 D,row (vs (some ⟨c,0,none⟩) aa.length n) 3 1 (aa.flatMap e3),wp p (ga qy) vI ae,fz ad,stb q 80 A,stb ab 154 H,wp B vI slv (jd z),vh (qM 288 1 gL) z,stb s 229 [(.map<|some t)],wp t vI vI af]) (fun c n f=>True) (wR 17 [12,11,10,8,9,7,6,5,4,3,2,1,0]) ?_<|fun bj=>?_
     ·rintro c n f _
      refine WD.new (i:=13) (dd:=17) U (by kernel_rfl) U (wn (cs:=[vi 0]) qp) (fun h'=>absurd h' (by decide)) fun g _=>Lw .a11 (.qo U)<|bd c n f g trivial
     refine Hs (fuel':=4) (fun c n g=>[(3,(.map<|some p)),(4,vp q),(6,vp ab),(10,(.map<|some B)),(11,vp s),(12,vi ai),(25,J),(26,K),(27,vi b),(14,E),(41,C),(48,(vi<|nth aa ag)),(17,vp g)]) (fun c n g=>[stb g 3 [vi 0],row (vs (some ⟨c,0,none⟩) aa.length n) 3 1 (aa.flatMap e3),wp p (ga qy) vI ae,fz ad,stb q 80 A,stb ab 154 H,wp B vI slv (jd z),vh (qM 288 1 gL) z,stb s 229 [(.map<|some t)],wp t vI vI af]) (fun c n g=>True) (wR 17 [13,11,10,8,9,7,6,5,4,3,2,1,0]) ?_<|fun bk=>?_
     ·rintro c n g _
      refine WD.new (i:=12) (dd:=16) U (by kernel_rfl) U (wn (cs:=D) zvx) (fun h'=>absurd h' (by decide)) fun f _=>Lw (.s11 .h1 .here .here .here .here .here .here .here .here .here .here) (.qo U)<|bd c n f g trivial
     refine Hg (fuel':=4) (fun c n f g=>[(3,(.map<|some p)),(4,vp q),(6,vp ab),(10,(.map<|some B)),(11,vp s),(12,vi ai),(25,J),(26,K),(27,vi b),(14,E),(41,C),(47,(.pointer<|some ⟨c,(ag:Int).toNat*1,none⟩)),(16,vp f),(17,vp g)]) (fun c n f g=>[stb g 3 [vi 0],stb f 74 D,row (vs (some ⟨c,0,none⟩) aa.length n) 3 1 (aa.flatMap e3),wp p (ga qy) vI ae,fz ad,stb q 80 A,stb ab 154 H,wp B vI slv (jd z),vh (qM 288 1 gL) z,stb s 229 [(.map<|some t)],wp t vI vI af]) (fun c n f g=>True) (wR 17 [13,12,10,8,9,7,6,5,4,3,2,1,0]) ?_<|fun be=>?_
     ·rintro c n f g _
      refine WD.choose [11,14] (by kernel_rfl) U<|vl.cons ?_<|vl.cons ?_<|vl.nil
      ·exact vl.quiet (i:=11) (d:=48) U U U U (fun h'=>absurd h' (by decide)) (w8 wm U<|gt .h2<|(qm (enc:=e3) (l:=aa) (i:=ag) (sz:=1) (fun _=>U) aj.1 aj.2) 0 _ U)<|Lw .a11 (.qo U)<|bd c n f g trivial
      ·exact vl.forced0 (i:=14) U U U U (wS.wk (.s2 .h5 .h4)<|.stb (.cons U .nil)<|.same .nil) (wl zZi .h1)<|Li 11 U (w8 wm U<|gt .h2<|(qm (enc:=e3) (l:=aa) (i:=ag) (sz:=1) (fun _=>U) aj.1 aj.2) 0 _ U)<|Lw .a11 (.qo U)<|bi c n f g trivial
     refine De (fuel':=5) (fun c n=>[(3,(.map<|some p)),(4,vp q),(6,vp ab),(10,(.map<|some B)),(11,vp s),(12,vi ai),(25,J),(26,K),(27,vi b),(14,E),(41,C),(48,(vi<|nth aa ag))]) (fun c n=>[row (vs (some ⟨c,0,none⟩) aa.length n) 3 1 (aa.flatMap e3),wp p (ga qy) vI ae,fz ad,stb q 80 A,stb ab 154 H,wp B vI slv (jd z),vh (qM 288 1 gL) z,stb s 229 [(.map<|some t)],wp t vI vI af]) (fun c n=>True) (wR 17 [11,10,8,9,7,6,5,4,3,2,1,0]) ?_<|fun bP=>?_
     ·rintro c n _
      refine WD.choose [12,13] (by kernel_rfl) U<|vl.cons ?_<|vl.cons ?_<|vl.nil
      ·refine vl.new (i:=12) (dd:=16) (wn (cs:=D) zvx) (fun h'=>absurd h' (by decide)) fun f _=>Lw .a10 (.qo U)<|bj c n f trivial
      ·refine vl.new (i:=13) (dd:=17) (wn (cs:=[vi 0]) qp) (fun h'=>absurd h' (by decide)) fun g _=>Lw .a10 (.qo U)<|bk c n g trivial
     refine Hs (fuel':=5) (fun c n f=>[(3,(.map<|some p)),(4,vp q),(6,vp ab),(10,(.map<|some B)),(11,vp s),(12,vi ai),(25,J),(26,K),(27,vi b),(14,E),(41,C),(47,(.pointer<|some ⟨c,(ag:Int).toNat*1,none⟩)),(16,vp f)]) (fun c n f=>[stb f 74 D,row (vs (some ⟨c,0,none⟩) aa.length n) 3 1 (aa.flatMap e3),wp p (ga qy) vI ae,fz ad,stb q 80 A,stb ab 154 H,wp B vI slv (jd z),vh (qM 288 1 gL) z,stb s 229 [(.map<|some t)],wp t vI vI af]) (fun c n f=>True) (wR 17 [12,10,8,9,7,6,5,4,3,2,1,0]) ?_<|fun bl=>?_
     ·rintro c n f _
      refine WD.choose [11,13] (by kernel_rfl) U<|vl.cons ?_<|vl.cons ?_<|vl.nil
      ·exact vl.quiet (i:=11) (d:=48) U U U U (fun h'=>absurd h' (by decide)) (w8 wm U<|gt .h1<|(qm (enc:=e3) (l:=aa) (i:=ag) (sz:=1) (fun _=>U) aj.1 aj.2) 0 _ U)<|Lw .a10 (.qo U)<|bj c n f trivial
      ·refine vl.new (i:=13) (dd:=17) (wn (cs:=[vi 0]) qp) (fun h'=>absurd h' (by decide)) fun g _=>Lw .a11 (.qo U)<|be c n f g trivial
     refine Hs (fuel':=5) (fun c n g=>[(3,(.map<|some p)),(4,vp q),(6,vp ab),(10,(.map<|some B)),(11,vp s),(12,vi ai),(25,J),(26,K),(27,vi b),(14,E),(41,C),(47,(.pointer<|some ⟨c,(ag:Int).toNat*1,none⟩)),(17,vp g)]) (fun c n g=>[stb g 3 [vi 0],row (vs (some ⟨c,0,none⟩) aa.length n) 3 1 (aa.flatMap e3),wp p (ga qy) vI ae,fz ad,stb q 80 A,stb ab 154 H,wp B vI slv (jd z),vh (qM 288 1 gL) z,stb s 229 [(.map<|some t)],wp t vI vI af]) (fun c n g=>True) (wR 17 [13,10,8,9,7,6,5,4,3,2,1,0]) ?_<|fun bm=>?_
     ·rintro c n g _
      refine WD.choose [11,12] (by kernel_rfl) U<|vl.cons ?_<|vl.cons ?_<|vl.nil
      ·exact vl.quiet (i:=11) (d:=48) U U U U (fun h'=>absurd h' (by decide)) (w8 wm U<|gt .h1<|(qm (enc:=e3) (l:=aa) (i:=ag) (sz:=1) (fun _=>U) aj.1 aj.2) 0 _ U)<|Lw .a10 (.qo U)<|bk c n g trivial
      ·refine vl.new (i:=12) (dd:=16) (wn (cs:=D) zvx) (fun h'=>absurd h' (by decide)) fun f _=>Lw (.s11 .h1 .here .here .here .here .here .here .here .here .here .here) (.qo U)<|be c n f g trivial
     refine De (fuel':=6) (fun c n=>[(3,(.map<|some p)),(4,vp q),(6,vp ab),(10,(.map<|some B)),(11,vp s),(12,vi ai),(25,J),(26,K),(27,vi b),(14,E),(41,C),(47,(.pointer<|some ⟨c,(ag:Int).toNat*1,none⟩))]) (fun c n=>[row (vs (some ⟨c,0,none⟩) aa.length n) 3 1 (aa.flatMap e3),wp p (ga qy) vI ae,fz ad,stb q 80 A,stb ab 154 H,wp B vI slv (jd z),vh (qM 288 1 gL) z,stb s 229 [(.map<|some t)],wp t vI vI af]) (fun c n=>True) (wR 17 [10,8,9,7,6,5,4,3,2,1,0]) ?_<|fun bQ=>?_
     ·rintro c n _
      refine WD.choose [11,12,13] (by kernel_rfl) U<|vl.cons ?_<|vl.cons ?_<|vl.cons ?_<|vl.nil
      ·exact vl.quiet (i:=11) (d:=48) U U U U (fun h'=>absurd h' (by decide)) (w8 wm U<|gt .here<|(qm (enc:=e3) (l:=aa) (i:=ag) (sz:=1) (fun _=>U) aj.1 aj.2) 0 _ U)<|Lw .a9 (.qo U)<|bP c n trivial
      ·refine vl.new (i:=12) (dd:=16) (wn (cs:=D) zvx) (fun h'=>absurd h' (by decide)) fun f _=>Lw .a10 (.qo U)<|bl c n f trivial
      ·refine vl.new (i:=13) (dd:=17) (wn (cs:=[vi 0]) qp) (fun h'=>absurd h' (by decide)) fun g _=>Lw .a10 (.qo U)<|bm c n g trivial
     let F:Value:=(.agg #[V,W,X,Y,Q,Aa,Ab,Ac]);refine De (fuel':=6) (fun f g=>[(3,(.map<|some p)),(4,vp q),(6,vp ab),(10,(.map<|some B)),(11,vp s),(12,vi ai),(25,J),(26,K),(27,vi b),(14,E),(41,C),(42,F),(43,E),(44,(.map<|some p)),(46,vi ag),(16,vp f),(17,vp g)]) (fun f g=>[stb g 3 [vi 0],stb f 74 D,fz ad,wp p (ga qy) vI ae,stb q 80 A,stb ab 154 H,wp B vI slv (jd z),vh (qM 288 1 gL) z,stb s 229 [(.map<|some t)],wp t vI vI af]) (fun f g=>True) (wR 17 [13,12,9,7,6,5,4,3,2,1,0]) ?_<|fun bn=>?_
     ·rintro f g _
      refine WD.call2 (i:=8) (dd:=45) U (by kernel_rfl) U (.inl ⟨U,fun _ _=>(wS.wk (.s2 .h5 .h4)<|.stb (.cons U .nil)<|.same .nil)⟩) (Eh call139) (.cons .h3 .nil) (qB hz (.cons .h3 .nil) .h2 fun w pz ho=>tC _ _ _ _ _ _ _ _ _ _ _ _ _ _ _ _ _ _ _ _ _ _ _ _ a4 pz ((aA.mono<|zl.trans o).weak (fun _ _ h=>qn (zl.trans o) h)) ((aB.mono<|zl.trans o).weak (fun _ _ h=>qr (zl.trans o) h)) (aC.mono<|zl.trans o) (aD.mono<|zl.trans o) ((ay.mono<|zl.trans o).weak (fun _ _ h=>vL (zl.trans o) h)) (aE.mono<|zl.trans o) ((aF.mono<|zl.trans o).weak (fun _ _ h=>qs (zl.trans o) h)) (aG.mono<|zl.trans o) av ho) ?_
      rintro bf n _
      refine Eu (fun w hw=>Hp.vr .here hw (by intro nd;have:=aj;rw[nd] at this;omega)) ?_
      rintro⟨c,rfl⟩
      exact Lg 10 U (wL zaM aj.1 aj.2 vB)<|Lw (.s11 .h2 .h2 .here .here .here .here .here .here .here .here .here) (.qo U)<|be c n f g trivial
     refine Hh (fuel':=7) (fun f=>[(3,(.map<|some p)),(4,vp q),(6,vp ab),(10,(.map<|some B)),(11,vp s),(12,vi ai),(25,J),(26,K),(27,vi b),(14,E),(41,C),(42,F),(43,E),(44,(.map<|some p)),(46,vi ag),(16,vp f)]) (fun f=>[stb f 74 D,fz ad,wp p (ga qy) vI ae,stb q 80 A,stb ab 154 H,wp B vI slv (jd z),vh (qM 288 1 gL) z,stb s 229 [(.map<|some t)],wp t vI vI af]) (fun f=>True) (wR 17 [12,9,7,6,5,4,3,2,1,0]) ?_<|fun bR=>?_
     ·rintro f _
      refine WD.choose [8,13] (by kernel_rfl) U<|vl.cons ?_<|vl.cons ?_<|vl.nil
      ·refine vl.call2 (i:=8) (dd:=45) U U U U (.inl ⟨U,fun _ _=>(wS.wk (.s2 .h4 .h3)<|.stb (.cons U .nil)<|.same .nil)⟩) (Eh call139) (.cons .h2 .nil) (qB hz (.cons .h2 .nil) .h1 fun w pz ho=>tC _ _ _ _ _ _ _ _ _ _ _ _ _ _ _ _ _ _ _ _ _ _ _ _ a4 pz ((aA.mono<|zl.trans o).weak (fun _ _ h=>qn (zl.trans o) h)) ((aB.mono<|zl.trans o).weak (fun _ _ h=>qr (zl.trans o) h)) (aC.mono<|zl.trans o) (aD.mono<|zl.trans o) ((ay.mono<|zl.trans o).weak (fun _ _ h=>vL (zl.trans o) h)) (aE.mono<|zl.trans o) ((aF.mono<|zl.trans o).weak (fun _ _ h=>qs (zl.trans o) h)) (aG.mono<|zl.trans o) av ho) ?_
       rintro bf n _
       refine Eu (fun w hw=>Hp.vr .here hw (by intro nd;have:=aj;rw[nd] at this;omega)) ?_
       rintro⟨c,rfl⟩
       exact Lg 10 U (wL zaM aj.1 aj.2 vB)<|Lw (.s10 .h2 .here .here .here .here .here .here .here .here .here) (.qo U)<|bl c n f trivial
      ·refine vl.new (i:=13) (dd:=17) (wn (cs:=[vi 0]) qp) (fun h'=>absurd h' (by decide)) fun g _=>Lw .a10 (.qo U)<|bn f g trivial
     refine Hh (fuel':=7) (fun g=>[(3,(.map<|some p)),(4,vp q),(6,vp ab),(10,(.map<|some B)),(11,vp s),(12,vi ai),(25,J),(26,K),(27,vi b),(14,E),(41,C),(42,F),(43,E),(44,(.map<|some p)),(46,vi ag),(17,vp g)]) (fun g=>[stb g 3 [vi 0],fz ad,wp p (ga qy) vI ae,stb q 80 A,stb ab 154 H,wp B vI slv (jd z),vh (qM 288 1 gL) z,stb s 229 [(.map<|some t)],wp t vI vI af]) (fun g=>True) (wR 17 [13,9,7,6,5,4,3,2,1,0]) ?_<|fun bS=>?_
     ·rintro g _
      refine WD.choose [8,12] (by kernel_rfl) U<|vl.cons ?_<|vl.cons ?_<|vl.nil
      ·refine vl.call2 (i:=8) (dd:=45) U U U U (.inl ⟨U,fun _ _=>(wS.wk (.s2 .h4 .h3)<|.stb (.cons U .nil)<|.same .nil)⟩) (Eh call139) (.cons .h2 .nil) (qB hz (.cons .h2 .nil) .h1 fun w pz ho=>tC _ _ _ _ _ _ _ _ _ _ _ _ _ _ _ _ _ _ _ _ _ _ _ _ a4 pz ((aA.mono<|zl.trans o).weak (fun _ _ h=>qn (zl.trans o) h)) ((aB.mono<|zl.trans o).weak (fun _ _ h=>qr (zl.trans o) h)) (aC.mono<|zl.trans o) (aD.mono<|zl.trans o) ((ay.mono<|zl.trans o).weak (fun _ _ h=>vL (zl.trans o) h)) (aE.mono<|zl.trans o) ((aF.mono<|zl.trans o).weak (fun _ _ h=>qs (zl.trans o) h)) (aG.mono<|zl.trans o) av ho) ?_
       rintro bf n _
       refine Eu (fun w hw=>Hp.vr .here hw (by intro nd;have:=aj;rw[nd] at this;omega)) ?_
       rintro⟨c,rfl⟩
       exact Lg 10 U (wL zaM aj.1 aj.2 vB)<|Lw (.s10 .h2 .here .here .here .here .here .here .here .here .here) (.qo U)<|bm c n g trivial
      ·refine vl.new (i:=12) (dd:=16) (wn (cs:=D) zvx) (fun h'=>absurd h' (by decide)) fun f _=>Lw (.s10 .h1 .here .here .here .here .here .here .here .here .here) (.qo U)<|bn f g trivial
     refine WD.choose [8,12,13] (by kernel_rfl) U<|vl.cons ?_<|vl.cons ?_<|vl.cons ?_<|vl.nil
     ·refine vl.call2 (i:=8) (dd:=45) U U U U (.inl ⟨U,fun _ _=>(wS.wk (.s2 .h3 .h2)<|.stb (.cons U .nil)<|.same .nil)⟩) (Eh call139) (.cons .h1 .nil) (qB hz (.cons .h1 .nil) .here fun w pz ho=>tC _ _ _ _ _ _ _ _ _ _ _ _ _ _ _ _ _ _ _ _ _ _ _ _ a4 pz ((aA.mono<|zl.trans o).weak (fun _ _ h=>qn (zl.trans o) h)) ((aB.mono<|zl.trans o).weak (fun _ _ h=>qr (zl.trans o) h)) (aC.mono<|zl.trans o) (aD.mono<|zl.trans o) ((ay.mono<|zl.trans o).weak (fun _ _ h=>vL (zl.trans o) h)) (aE.mono<|zl.trans o) ((aF.mono<|zl.trans o).weak (fun _ _ h=>qs (zl.trans o) h)) (aG.mono<|zl.trans o) av ho) ?_
      rintro bf n _
      refine Eu (fun w hw=>Hp.vr .here hw (by intro nd;have:=aj;rw[nd] at this;omega)) ?_
      rintro⟨c,rfl⟩
      exact Lg 10 U (wL zaM aj.1 aj.2 vB)<|Lw .a9 (.qo U)<|bQ c n trivial
     ·refine vl.new (i:=12) (dd:=16) (wn (cs:=D) zvx) (fun h'=>absurd h' (by decide)) fun f _=>Lw .a9 (.qo U)<|bR f trivial
     ·refine vl.new (i:=13) (dd:=17) (wn (cs:=[vi 0]) qp) (fun h'=>absurd h' (by decide)) fun g _=>Lw .a9 (.qo U)<|bS g trivial
   ·rintro an ap aq ar au ⟨h,bT,bU⟩
    replace h:=(bs an ap aq).symm.trans h
    exact D2q U<|WL.nil<|Em ⟨bV,an,i64 (b+1),ap,aq,ar,au⟩ ⟨h,o.trans bT,bU⟩ (Nat.lt_succ_self _) .q<|.a8
  ·exact En<|Ln<|Ln<|Lu<|Lp ⟨ai,ak,af,ad,z⟩ ⟨h,o,a3⟩ .q<|.s7 .here .h1 .h2 .h2 .h2 .here .h1
 ·rintro B6 mp wide Zn lg ⟨h,AU,hm⟩
  replace h:=(bq B6 mp wide).symm.trans h
  obtain⟨hb,h⟩:=wa h
  obtain rfl:=oJ h
  clear h
  refine B0q<|Hq (G:=Zp) (φ:=fun Z1=>wg (Z++Zn) (Z++Z1)/\RG (Z++Z1) (uU (Z++Z1)) (jd lg) mp) (L':=fun Z1=>[fz Z1,stb q 80 A,wp B vI slv (jd lg),stb s 229 [(.map<|some t)],wp p (ga qy) vI ae,wp t vI vI wide]) (fun w hw=>?_) ?_
  ·have h1:=hw.sub (.s7 .h3 .here .here .here .here .here .here)
   obtain⟨Z1,k1,k2,k3⟩:=Hp.Yl (Pr:=fun Z=>uU Z) (fun k _ _ h=>tm k h) hz lg mp Zn hm h1
   exact⟨Z1,⟨k1,k2⟩,k3⟩
  rintro Z1 ⟨hle1,BQ⟩
  refine WL.freezeC (Z:=Z) .h1 .here fun Z2 B7 hc=>WL.freezeC (Z:=Z) .h2 .here fun Z3 Bz zw=>Hq (G:=Zp) (φ:=fun Z4=>wg (Z++Z3) (Z++Z4)/\ZA (Z++Z4) (wp t vI vI wide)) (L':=fun Z4=>[fz Z4,wp B vI slv (jd lg),wp p (ga qy) vI ae]) (fun w hw=>?_) ?_
  ·obtain⟨Z4,k1,k2,k3⟩:=Hp.freeze (x:=wp t vI vI wide) .h3 .here hw
   exact⟨Z4,⟨k1.app,k2.mono (wg.right _ _)⟩,k3⟩
  rintro Z4 ⟨Bf,hW⟩
  replace BQ:=BQ.up (B7.trans (Bz.trans Bf)) (fun _ _ h=>tm (B7.trans (Bz.trans Bf)) h)
  replace hc:=hc.mono (Bz.trans Bf)
  replace zw:=zw.mono Bf
  have hZ:wg Z (Z++Z4):=zl.trans (AU.trans (hle1.trans (B7.trans (Bz.trans Bf))))
  refine Q1n U<|Hi (fun Zn ao cap cs fs=>wg (Z++Z4) (Z++Zn)/\RR 1 (uU (Z++Zn)) cs fs/\fs.Perm (mp.map<|oo a wide)) (fun Zn ao cap cs fs=>[(12,vi B6),(20,vs ao fs.length cap)]) (fun Zn ao cap cs fs=>[fz Zn,row (vs ao fs.length cap) 288 1 cs,wp p (ga qy) vI ae]) ?_ ?_
  ·refine B1q U<|WL.fA 81 (Mk underlying284 U .h1) ?_
   rintro rr _
   refine Q0n<|WC.block<|WC.nilRow 288 1<|Hb (fun Zn ao cap cs fs rem l' nZ=>wg (Z++Z4) (Z++Zn)/\RR 1 (uU (Z++Zn)) cs fs/\RG (Z++Z4) (uU (Z++Z4)) rem l'/\(fs++l'.map (oo a wide)).Perm (mp.map<|oo a wide)) (fun Zn ao cap cs fs rem l' nZ=>[(4,vp q),(11,vp s),(12,vi B6),(20,vs ao fs.length cap),(81,vp rr)]) (fun Zn ao cap cs fs rem l' nZ=>[fz Zn,row (vs ao fs.length cap) 288 1 cs,sk rr B vI slv (jd lg) rem nZ,wp p (ga qy) vI ae]) (fun Zn ao cap cs fs rem l' nZ=>rem.length) ⟨Z4,none,0,[],[],jd lg,mp,none⟩ ⟨wg.refl _,RR.nil _ _,BQ,.refl _⟩ .q (.s4 .h2 .here .here .here) ?_
   rintro Zn ao cap cs fs rem l' nZ ⟨B8,hr,hg,hp⟩
   refine B0q<|H8 U U U .h2 (fun hrem=>?_)<|fun i y m hx BZ=>?_
   ·subst hrem
    cases hg
    refine Q1n U<|Lb<|Er (fun h'=>(by cases h'))<|fun h'=>?_
    clear h'
    exact En<|Ln<|Ln<|Lu<|Lp ⟨Zn,ao,cap,cs,fs⟩ ⟨B8,hr,by simpa using hp⟩ .q (.s3 .h1 .h1 .h1)
   ·obtain⟨x,hx1,hxl,hxs,hg'⟩:=hg.at hx
    rw[<- BZ] at hg'
    have nj:rem.length=m.length+1:=by
     have h1:=(List.getElem?_eq_some_iff.1 hx).1
     rw[BZ,List.length_eraseIdx,if_pos h1];omega
    have hpl:=hp.length_eq
    have hgl:=hg.len
    rw[List.length_append,List.length_map,List.length_map] at hpl
    refine Q1n U<|Lb<|Er (fun h'=>?_)<|fun h'=>(by cases h')
    clear h'
    refine Ec<|WC.block<|B0q<|Lf 84 (Mm U .here)<|La U<|La U (Lh 21 (wn (cs:=[vi 0]) qp) fun Ci _=>Lh 22 (wn (cs:=[vn]) zZj) fun B9 _=>Ll (wl jM .h1)<|Ll (wl (vs:=[slv y.2]) z1ec .h1) (WL.freezeC (Z:=Z) .h1 .h2 fun Z5 BA Bv=>WL.freezeC (Z:=Z) .h1 .here ?_))
    intro Z6 Ca Bw
    replace Bv:=Bv.mono Ca
    have e22:slv y.2 = .slice y.2.1.1 x.length y.2.1.2:=by unfold slv;rw[hxl]
    replace Bw:ZC (Z++Z6) ⟨B9,0,none⟩ [.slice y.2.1.1 x.length y.2.1.2]:=by rw[<- e22];exact Bw
    have vu:=B8.trans (BA.trans Ca)
    refine Q0n<|Le<|La U ?_
    let P:Value:=(.func (.func 143) #[] #[vp Ci,vp B9,vp s,vp q]);have hfd:uU (Z++Z6) [P] (oo a wide (y.1,x)):=⟨143,[vp Ci,vp B9,vp s,vp q],U,call143,fun w' nd y0 r hr=>nH (Z:=Z++Z6) (zTv:=⟨Ci,0,none⟩) (zTw:=⟨B9,0,none⟩) (zTx:=y.2.1.1) (zTy:=y.2.1.2) (zTz:=⟨s,0,none⟩) (zTA:=t) (zTB:=⟨q,0,none⟩) (zTC:=aK) (zTD:=aL) (zTE:=aM) (zTF:=aN) (zTG:=aO) (zTH:=aP) (zTI:=aQ) (zTJ:=aR) (zTK:=aS) (zTL:=aT) (zTM:=aU) (zTN:=aV) (zTO:=aW) (zTP:=aX) (zTQ:=aY) (zTR:=aZ) (ztG:=y0) (zfX:=y.1) (ztH:=x) (zEW:=wide) (z6U:=a) (r:=r) (h:=hr) (Ek:=w') (hz:=nd) (hmW:=hW.mono vu) (zKi:=Bv) (zTS:=((WR.of hxs).up vu (fun _ _ h=>tm vu h))) (zTT:=Bw) (z15D:=(zw.mono vu)) (z1tm:=((aA.mono (hZ.trans vu)).weak (fun _ _ h=>qn (hZ.trans vu) h))) (z1tn:=((aB.mono (hZ.trans vu)).weak (fun _ _ h=>qr (hZ.trans vu) h))) (z1to:=(aC.mono (hZ.trans vu))) (z15E:=(aD.mono (hZ.trans vu))) (z1tp:=((ay.mono (hZ.trans vu)).weak (fun _ _ h=>vL (hZ.trans vu) h))) (z1tq:=(aE.mono (hZ.trans vu))) (z1tr:=((aF.mono (hZ.trans vu)).weak (fun _ _ h=>qs (hZ.trans vu) h))) (z1ts:=(aG.mono (hZ.trans vu))) (z15F:=(hc.mono vu))⟩
    refine Lf 88 (wO<|L6 (l:=[.tmp 21,.tmp 22,.tmp 11,.tmp 4])<|.r4 U U U U)<|Lh 89 (wD (cs:=[.func (.func 143) #[] #[vp Ci,vp B9,vp s,vp q]]) zCx (Lt (l:=[.tmp 88]) (.cons U .nil) [0]) (fun _=>by kernel_rfl) (by unfold maxLen;omega)) ?_
    intro b89 _
    have B5:RR 1 (uU (Z++Z6)) [P] ([oo a wide (y.1,x)]:List (Int->Option Int)):=RR.one U hfd
    have hr1:=hr.weak (fun _ _ h=>tm (BA.trans Ca) h)
    refine WL.fA 90 (uq (l1:=fs) (l2:=([oo a wide (y.1,x)]:List (Int->Option Int))) (news:=[.func (.func 143) #[] #[vp Ci,vp B9,vp s,vp q]]) (Pr:=(uU (Z++Z6))) zCx .h3 B5 (wY .here) (uv si) ⟨by rw[List.length_append,List.length_singleton];omega,by rw[List.length_append,List.length_singleton];omega⟩) ?_
    rintro⟨Ay,tP⟩ _
    refine La U<|WL.nil<|Lq ?_
    have wQ:((fs++[oo a wide (y.1,x)])++(l'.eraseIdx i).map (oo a wide)).Perm (mp.map (oo a wide)):=by
     refine List.Perm.trans ?_ hp
     rw[List.append_assoc]
     exact List.Perm.append_left _<|(WS hx1).map (oo a wide)
    exact Em ⟨Z6,Ay,tP,cs++[.func (.func 143) #[] #[vp Ci,vp B9,vp s,vp q]],fs++[oo a wide (y.1,x)],m,l'.eraseIdx i,some y⟩ ⟨vu,RR.app hr1 B5,hg',wQ⟩ (by show m.length<rem.length;omega) .q<|.s4 .h2 .here .h1 .h1
  ·rintro Zn ao cap cs fs ⟨B8,hr,hp⟩
   have nj:fs.length=(mp.map (oo a wide)).length:=hp.length_eq
   refine Lb<|Le<|La U<|La U<|La U<|La U (WL.freezeS (ls:=fs) .h1 .here hz hr fun Z7 BA h7=>Q0n<|El<|Lk results89 (.tmp U<|.tmp U .nil)<|fun w hw=>?_)
   refine⟨Z7,ao,cap,?_,⟨fs,hp,h7.weak fun _ _ h=>tm BA h⟩,hw.sub .a2⟩
   show Ending.returned _=_
   rw[<- nj]
   exact qq
def mA(b:List (Int->Option Int)×Int)(c:ye)(d:ze)(e:Int->Option zt):Nat->Int->Option zt
 | 0,_=>none
 | g+1,a=>(uE b.1 (i64 (a-1))).bind fun f=>if decide ((i64 (((nth c.fK d.fQ).yD)*f))>a) then if decide ((i64 (a+1))>32768) then none else mA b c d e g (i64 (a+1)) else e a
def mB(e:Int)(d:Int)(g:List (Int->Option Int)×Int)(b:ye)(c:ze)(h:Int->Int->Option zt):Nat->Int->Int->Int->Option zt
 | 0,_,_,_=>none
 | l+1,a,f,i=>if decide (a<(i64 (e+d))) then(uE g.1 a).bind fun j=>vC (fun(m:Int)=>chk ((((nth b.fK c.fQ).yD):Int)≠0) (mB e d g b c h l (i64 (a+1)) m (max i (i64 (j-(i64 (Int.tdiv (i64 ((i64 ((max (i64 (a-d)) 0)+((nth b.fK c.fQ).yD)))-1)) ((nth b.fK c.fQ).yD)))))))) fun k=>if decide (a<e) then k (max f (i64 ((i64 ((i64 (((nth b.fK c.fQ).yD)*j))-a))+d))) else k f else h f i
def iw(b:ye)(d:List (List zg))(a:ze)(e:List (ze×Int)):Option zt:=
 (rS b d a e).bind fun c=>chk (0<=a.fQ/\a.fQ<b.fK.length) ((tB b a.y6).bind fun f=>vC (fun(g:Int)=>rl (fun(h:Int) (i:Int)=>some ({a with yv:=h,fT:=i64 (i+c.2)}:zt)) fun j=>mB g f c b a j wr 0 0 0) fun k=>mA c b a k wr 1)
theorem V9(Z B H I J K L M N O P Q R S T V W ab ad f a X b g r)(h:iw a X b g=some r){Ek}(hz:Pz [wp f (ga qy) vI g] Ek Z)(ae:ZS Z 4 (u5 Z) B H a.fM)(af:ZS Z 4 (fc Z) I J a.y9)(ag:ZS Z 4 (rq ml) K L a.fS)(Y:ZS Z 4 (rq m7) M N a.fK)(ah:ZS Z 7 (fa Z) O P a.ya)(ai:ZS Z 5 (rq mg) Q R a.yc)(aj:ZS Z 3 (fe Z) S T a.fU)(ak:ZS Z 4 (rq j5) V W a.y8)(ao:ZS Z 1 (m8 Z) ab ad X)(iA:Ho Ek [wp f (ga qy) vI g]):
  RF 42 #[.agg #[vs B a.fM.length H,vs I a.y9.length J,vs K a.fS.length L,vs M a.fK.length N,vs O a.ya.length P,vs Q a.yc.length R,vs S a.fU.length T,vs V a.y8.length W],vs ab X.length ad,.agg #[vi b.y6,vi b.fQ],.map (some f)] Ek (.tuple #[.agg #[vi r.y6,vi r.fQ,vi r.yv,vi r.fT],vi 0]) [wp f (ga qy) vI g] [wp f (ga qy) vI g]:=by
 unfold iw at h
 refine Et func42 U iA U<|WC.pool<|Lb<|Le (Lh 4 (wu (cs:=[vs B a.fM.length H,vs I a.y9.length J,vs K a.fS.length L,vs M a.fK.length N,vs O a.ya.length P,vs Q a.yc.length R,vs S a.fU.length T,vs V a.y8.length W])) fun aK _=>Lh 6 (wu (cs:=[vi b.y6,vi b.fQ])) ?_)
 intro aN _
 let A:List Value:=[vi 0,vi 0,vi 0,vi 0];refine Lh 8 (wn (cs:=A) zCt) ?_
 intro k _
 refine Q1n U<|Lb<|bK h fun o ap h=>Le<|Lf 19 (we z5x (wh .h2))<|La U<|Lf 21 (we zHO (wh .h1))<|La U<|Ha (dd:=23) U (Eh call89) (.cons .h4 .nil) (qB hz (.cons .h4 .nil) .h3 fun w pz ho=>YB _ _ _ _ _ _ _ _ _ _ _ _ _ _ _ _ _ _ _ _ _ _ _ _ _ ap pz ((ae.mono<|zl).weak (fun _ _ h=>qn zl h)) ((af.mono<|zl).weak (fun _ _ h=>qr zl h)) (ag.mono<|zl) (Y.mono<|zl) ((ah.mono<|zl).weak (fun _ _ h=>vL zl h)) (ai.mono<|zl) ((aj.mono<|zl).weak (fun _ _ h=>qs zl h)) (ak.mono<|zl) ((ao.mono<|zl).weak (fun _ _ h=>qY zl h)) ho) ?_
 rintro x aF aG al
 refine WL.merge .here .h4<|Q5n U<|Lb<|cK h fun aq h=>bK h fun p ar h=>Lv nc []<|Lg 0 U (w7 pV)<|Li 1 U (Ei zjY .h4)<|Lg 2 U (w7 Jp)<|Li 3 U (Ei wm .h3)<|L8 (j:=4) (dd:=30) (by kernel_rfl) z2W z2X (Z:=(Z++([]++x))) (Pr:=(rq m7)) znN (Y.mono<|zl.trans (zl.trans (wg.wG _ _ _))) aq ?_
 rintro aO aP au aQ rfl
 refine Lg 5 U (w7 lF)<|Li 6 U (w8 wm U<|wP (hz.pv2 .here) au)<|Li 7 U (we z5x (wh .h4))<|Lg 8 U (w7 W7)<|Li 9 U (Ei wm .h3)<|L5 10 U (Eh call90) (qB hz .nil .here fun w pz ho=>b9 _ _ _ _ _ _ _ _ _ _ _ _ _ _ _ _ _ _ _ _ ar pz ((ae.mono<|zl.trans (zl.trans (wg.wG _ _ _))).weak (fun _ _ h=>qn (zl.trans (zl.trans (wg.wG _ _ _))) h)) ((af.mono<|zl.trans (zl.trans (wg.wG _ _ _))).weak (fun _ _ h=>qr (zl.trans (zl.trans (wg.wG _ _ _))) h)) (ag.mono<|zl.trans (zl.trans (wg.wG _ _ _))) (Y.mono<|zl.trans (zl.trans (wg.wG _ _ _))) ((ah.mono<|zl.trans (zl.trans (wg.wG _ _ _))).weak (fun _ _ h=>vL (zl.trans (zl.trans (wg.wG _ _ _))) h)) (ai.mono<|zl.trans (zl.trans (wg.wG _ _ _))) ((aj.mono<|zl.trans (zl.trans (wg.wG _ _ _))).weak (fun _ _ h=>qs (zl.trans (zl.trans (wg.wG _ _ _))) h))<|ak.mono<|zl.trans (zl.trans (wg.wG _ _ _)))<|Lg 11 U q_z<|Lg 12 U q_z<|Eo (by kernel_rfl)<|Ld<|B0q<|Lf 37 (w7 W7)<|Lf 38 (Ei wm .h3)<|Lf 39 (w7 Jp)<|Lf 40 (Ei wm .h3)<|Lf 41 (wN (v:=(.agg #[vi b.y6,vi b.fQ,vi 0,vi 0])) (Lt (l:=[.tmp 38,.tmp 40]) (.r2 U U) [0,1]) (fun _=>by kernel_rfl)) (Lh 14 (wn (cs:=A) zCt) fun m _=>Ll (wl zCv .here)<|Q0n<|B1n U ?_)
 obtain⟨am,av,h⟩:=wE h
 let D:Value:=(vs aF o.1.length aG);let E:Value:=(vi ((nth a.fK b.fQ).yD));let G:List Value:=[vi b.y6,vi b.fQ,vi 0,vi 0];refine Nd (fun c=>(am c=some r)) (fun c=>[(8,vp k),(10,D),(11,vi o.2),(12,E),(13,vi p),(14,vp m),(15,vi c)]) (fun c=>[fz ([]++x),stb k 152 A,stb m 152 G,wp f (ga qy) vI g]) ?_ ?_
 ·refine WC.block<|Ni (fun y q=>(mA o a b am y q=some r)) (fun y q=>[(8,vp k),(10,D),(11,vi o.2),(12,E),(13,vi p),(14,vp m),(15,vi q)]) (fun y q=>[fz ([]++x),stb k 152 A,stb m 152 G,wp f (ga qy) vI g]) (fun y q=>y) ⟨wr,1⟩ h .q (.s4 .h1 .h2 .here .here) ?_
  rintro(_|aH) q h;·cases h
  rw[mA] at h
  refine Lb<|Lb<|bK h fun aR aw h=>Le<|La U<|La U<|La U<|La U<|Lm 46 (Eh call91) .nil (qB hz .nil .here fun w pz ho=>rg _ _ _ _ _ _ aw pz<|al.up (wg.wG _ _ _)<|fun _ _ h=>tm (wg.wG _ _ _) h)<|La U<|La U<|La U<|WL.nil<|Ld<|Lj h (fun ax h=>?_)<|fun ax h=>?_
  ·refine Ec<|WC.block<|B3n U<|B2n U<|Lj h (fun ay h=>?_)<|fun ay h=>?_
   ·cases h
   ·exact Ep<|Lq<|Em ⟨aH,i64 (q+1)⟩ h (Nat.lt_succ_self _) .q<|.a4
  ·exact En<|Ln<|Ln<|Lu<|Lp q h .q<|.a4
 ·rintro c h
  replace h:=(av c).symm.trans h
  refine jK2 h fun an az h=>Nv (fun t u=>(an t u=some r)) (fun t u=>[(8,vp k),(11,vi o.2),(14,vp m)]) (fun t u=>[fz ([]++x),stb k 152 A,stb m 152 [vi b.y6,vi b.fQ,vi t,vi u],wp f (ga qy) vI g]) ?_ ?_
  ·refine B4n U<|WC.block<|E9 (fun z d n e=>(mB c p o a b an z d n e=some r)) (fun z d n e=>[(8,vp k),(10,D),(11,vi o.2),(12,E),(13,vi p),(14,vp m),(15,vi c),(57,(vi<|i64 (c+p))),(58,vi d)]) (fun z d n e=>[fz ([]++x),stb k 152 A,stb m 152 [vi b.y6,vi b.fQ,vi n,vi e],wp f (ga qy) vI g]) (fun z d n e=>z) ⟨wr,0,0,0⟩ h .q .a4 ?_
   rintro(_|aI) d n e h;·cases h
   rw[mB] at h
   refine B1n U<|Lb<|Lj h (fun aA h=>?_)<|fun aA h=>?_
   ·refine Ec<|Lb<|WC.block<|B2n U<|Lb<|bK h fun aa aB h=>D2q U<|Lm 63 (Eh call91) .nil (qB hz .nil .here fun w pz ho=>rg _ _ _ _ _ _ aB pz<|al.up (wg.wG _ _ _)<|fun _ _ h=>tm (wg.wG _ _ _) h)<|Q1n U<|jK1 h fun aJ aC h=>Nd (fun s=>(aJ s=some r)) (fun s=>[(8,vp k),(10,D),(11,vi o.2),(12,E),(13,vi p),(14,vp m),(15,vi c),(16,vi d),(17,vi aa),(57,(vi<|i64 (c+p))),(58,vi d)]) (fun s=>[fz ([]++x),stb k 152 A,stb m 152 [vi b.y6,vi b.fQ,vi s,vi e],wp f (ga qy) vI g]) ?_ ?_
    ·refine B3n U<|Lj h (fun aD h=>?_)<|fun aD h=>?_
     ·let F:=(i64 ((i64 ((i64 (((nth a.fK b.fQ).yD)*aa))-d))+p));refine Le<|Lf 67 (w7 aL)<|Lf 68 (Ei wm .h2)<|La U<|La U<|La U<|La U<|La U<|La U<|La U<|Lf 76 lT<|Lf 77 (w7 aL)<|Ll (vg (ds:=[vi b.y6,vi b.fQ,(vi<|max n F),vi e]) jM .h2)<|WL.nil ?_
      exact Lp (max n F) h .q<|.s4 .h1 .h1 .here .here
     ·exact Ep<|Lp n h .q<|.a4
    ·rintro s h
     replace h:=(aC s).symm.trans h
     obtain⟨aE,h⟩:=wa h
     let C:=(i64 (aa-(i64 (Int.tdiv (i64 ((i64 ((max (i64 (d-p)) 0)+((nth a.fK b.fQ).yD)))-1)) ((nth a.fK b.fQ).yD)))));refine Lv (fun i=>[15].contains i) []<|Lg 0 U (w7 aM)<|Li 1 U (Ei wm .h2)<|Lg 2 U q_m<|Lg 3 U q_m<|Lg 4 U q_m<|Lg 5 U oU<|Lg 6 U lT<|Lg 7 U q_m<|Lg 8 U fb<|Lg 9 U oU<|Lg 10 U q_m<|Lg 11 U (cM aE)<|Lg 12 U oU<|Lg 13 U lT<|Lg 14 U (w7 aM)<|Nb (i:=15) U (by kernel_rfl) (by kernel_rfl) (vg (ds:=[vi b.y6,vi b.fQ,vi s,(vi<|max e C)]) jM .h2)<|Eo (by kernel_rfl)<|Lq<|Ld<|D2q U<|WL.nil ?_
     exact Em ⟨aI,i64 (d+1),s,max e C⟩ h (Nat.lt_succ_self _) .q<|.s4 .h1 .h1 .here .here
   ·exact En<|Ln<|Ln<|Lu<|Lp ⟨n,e⟩ h .q<|.a4
  ·rintro t u h
   replace h:=(az t u).symm.trans h
   exact B0q<|Lf 94 (w7 aM)<|Lf 95 (Ei wm .h2)<|Q2q U<|Lf 98 (w7 aM)<|Ll (vg (ds:=[vi b.y6,vi b.fQ,vi t,(vi<|i64 (u+o.2))]) jM .h2)<|Q0n<|B0q<|Lf 99 (we zCw (wh .here))<|Ll (wl zCv .h2)<|Q1n U<|El<|oJ h▸Eb results42 (.agg U zCw U (wh .here)<|.tmp U .nil) (.cons .h3 .nil)
def uj(a:zt)(b:zt):Option Int:=
 if decide (a.y6≠b.y6) then some (i64 (a.y6-b.y6)) else some (i64 (a.fQ-b.fQ))
theorem Y3(Z a b r)(h:uj a b=some r){Ek}(hz:PZ [] Ek Z):
  RC 44 #[.agg #[vi a.y6,vi a.fQ,vi a.yv,vi a.fT],.agg #[vi b.y6,vi b.fQ,vi b.yv,vi b.fT]] Ek (vi r) [] []:=by
 unfold uj at h
 refine Lz func44 U U<|Lb<|Le (Lh 2 (wu (cs:=[vi a.y6,vi a.fQ,vi a.yv,vi a.fT])) fun d _=>Lh 3 (wu (cs:=[vi b.y6,vi b.fQ,vi b.yv,vi b.fT])) fun e _=>Q1n U<|Lb<|B0q<|Lf 5 (w7 py)<|Lf 6 (Ei wm .h1)<|Lf 7 (w7 py)<|Lf 8 (Ei wm .here)<|Q1n U<|Lj h (fun c h=>?_)<|fun c h=>?_)
 ·exact B0q<|Lf 10 (w7 py)<|Lf 11 (Ei wm .h1)<|Lf 12 (w7 py)<|Lf 13 (Ei wm .here)<|Q2n U<|El<|L4<|oJ h▸Ea results44
 ·exact Ec<|B0q<|Lf 15 (w7 cu)<|Lf 16 (Ei wm .h1)<|Lf 17 (w7 cu)<|Lf 18 (Ei wm .here)<|Q2n U<|El<|oJ h▸Ea results44
def gZ(b:List zt)(e:ye)(f:List (List zg))(g:(List zt)->Option xw):Nat->Int->(List (ze×Int))->(List zt)->Option xw
 | 0,_,_,_=>none
 | i+1,a,h,c=>if decide (a<b.length) then chk (0<=a/\a<b.length) ((iw e f (⟨(nth b a).y6,(nth b a).fQ⟩:ze) h).bind fun d=>chk (((c++([d]:List zt)).length:Int)*32<=140737488355328/\((c++([d]:List zt)).length:Int)<=4611686018427387904) (gZ b e f g i (i64 (a+1)) (wU h (⟨(nth b a).y6,(nth b a).fQ⟩:ze) d.yv) (c++([d]:List zt)))) else g c
def pL(a:ye)(c:Int)(b:List (List zg)):Option xw:=
 (bp a c b).bind fun e=>(iu a c b).bind fun i=>vC (fun(f:List zt)=>(ql f (fun y0 y1=>uj y0 y1)).bind fun d=>(ir a b d).bind fun g=>some (⟨d,g⟩:xw)) fun h=>gZ e a b h wr 0 ([]:List (ze×Int)) ([]:List zt)
theorem X9(Z L M N O P Q R S T V W X Y aa ab ad ae af a ap q r)(h:pL a ap q=some r){Ek}(hz:PZ [] Ek Z)(u:ZS Z 4 (u5 Z) L M a.fM)(x:ZS Z 4 (fc Z) N O a.y9)(y:ZS Z 4 (rq ml) P Q a.fS)(z:ZS Z 4 (rq m7) R S a.fK)(B:ZS Z 7 (fa Z) T V a.ya)(E:ZS Z 5 (rq mg) W X a.yc)(F:ZS Z 3 (fe Z) Y aa a.fU)(G:ZS Z 4 (rq j5) ab ad a.y8)(H:ZS Z 1 (m8 Z) ae af q):
  Calls Tryz.prog 15 #[.agg #[vs L a.fM.length M,vs N a.y9.length O,vs P a.fS.length Q,vs R a.fK.length S,vs T a.ya.length V,vs W a.yc.length X,vs Y a.fU.length aa,vs ab a.y8.length ad],vi ap,vs ae q.length af] Ek fun e w'=>∃ ag:Option Addr,∃ ah:Nat,∃ ai:Option Addr,∃ aj:Nat,e = .returned (.tuple #[.agg #[vs ag r.fP.length ah,vs ai r.xr.length aj],vi 0])/\True/\Hp [] Ek w' [row (vs ag r.fP.length ah) 152 4 (r.fP.flatMap kG),row (vs ai r.xr.length aj) 101 3 (r.xr.flatMap fZ)]:=by
 unfold pL at h
 refine Ng func15 U U ?_
 let A:List Value:=[vs L a.fM.length M,vs N a.y9.length O,vs P a.fS.length Q,vs R a.fK.length S,vs T a.ya.length V,vs W a.yc.length X,vs Y a.fU.length aa,vs ab a.y8.length ad];refine B0q<|Lh 3 (wu (cs:=A)) ?_
 intro I _
 refine Lh 6 (wn (cs:=[vn,vn]) zvu) fun J _=>Q1n U<|Lb<|bK h fun c au h=>Le<|Lf 20 (we z5x (wh .h1))<|Q2q U<|L7 (dd:=23) U (Eh call40) .nil (cc hz .nil fun w pz ho=>QF _ _ _ _ _ _ _ _ _ _ _ _ _ _ _ _ _ _ _ _ _ _ _ au pz u x y z B E F G H) ?_
 rintro av aw _
 refine Q5n U<|Lb<|B1q U<|Lf 27 uh<|Q0n<|Er (fun h'=>(by cases h'))<|fun h'=>?_
 clear h'
 refine Ec<|Lb<|Lb<|bK h fun aH ax h=>Le<|Lf 31 (we z5x (wh .h2))<|Q2q U<|Np (dd:=34) U (Eh call41) .nil (cc hz .nil fun w pz ho=>V7 _ _ _ _ _ _ _ _ _ _ _ _ _ _ _ _ _ _ _ _ _ _ _ ax pz u x y z B E F G H) ?_
 rintro aI aJ aK aM _
 refine Q2q U<|La U (Lh 10 (wn (cs:=[vn,vn]) zvu) fun aN _=>Ll (wl zHN .here)<|Q1n U<|B1q U<|Lf 38 uh<|Q0n<|Er (fun h'=>(by cases h'))<|fun h'=>?_)
 clear h'
 refine Ec<|Lb<|B1q U<|Lf 42 kj<|Q0n<|Er (fun h'=>(by cases h'))<|fun h'=>?_
 clear h'
 refine Ec<|Lb<|Le (Lh 45 (jK (ga qy)<|Value.int .i64) fun ak _=>Q1n U<|Lb<|Le (Lh 13 (wn (cs:=[vn,vn]) zvu) fun K _=>Q0n ?_))
 obtain⟨aq,ay,h⟩:=wE h
 let D:Value:=(vs ae q.length af);refine Nf (fun f g j=>(aq f=some r)) (fun f g j=>[(2,D),(3,vp I),(6,vp J),(13,vp K)]) (fun f g j=>[stb I 80 A,stb J 89 [vn,vn],stb K 89 [vs g f.length j,vn],row (vs g f.length j) 152 4 (f.flatMap kG)]) ?_ ?_
 ·let C:Value:=(vs av c.length aw);refine B1q U<|Lf 47 (wB underlying86)<|Q1n U<|WC.block<|WC.nilRow 152 4<|Hj (fun s b m d n o=>(gZ c a q aq s b m d=some r)) (fun s b m d n o=>[(2,D),(3,vp I),(6,vp J),(12,(.map<|some ak)),(13,vp K),(46,C),(47,vi (c.length:Int)),(48,vi b)]) (fun s b m d n o=>[row C 152 4 (c.flatMap kG),stb I 80 A,stb J 89 [vn,vn],wp ak (ga qy) vI m,stb K 89 [vs n d.length o,vn],row (vs n d.length o) 152 4 (d.flatMap kG)]) (fun s b m d n o=>s) ⟨wr,0,([]:List (ze×Int)),([]:List zt),none,0⟩ h .q (.s6 .h6 .h7 .h6 .h2 .h1 .here) ?_
  rintro(_|aF) b m d n o h;·cases h
  rw[gZ] at h
  refine B1n U<|Lb<|Lj h (fun az h=>?_)<|fun az h=>?_
  ·refine Ec<|Lb<|WC.block<|Lb<|cK h fun t h=>Le<|Es (fun w hw=>Hp.vr .here hw (by intro nd;have:=t;rw[nd] at this;omega)) ?_
   rintro⟨aO,rfl⟩
   refine Lf 50 (wL zgW t.1 t.2 vB)<|Lf 51 (wX (cs:=(kG<|nth c b)) zCw<|gV .here<|qm (enc:=kG) (l:=c) (i:=b) (sz:=4) (fun _=>U) t.1 t.2) (Lh 15 (wn (cs:=[vi 0,vi 0,vi 0,vi 0]) zCt) fun aP _=>Ll (wl zCv .here)<|Q0n<|B0q<|Lf 52 (w7 py)<|Lf 53 (Ei wm .here)<|Lf 54 (w7 cu)<|Lf 55 (Ei wm .here)<|Lf 56 (wN (v:=(.agg #[(vi<|(nth c b).y6),(vi<|(nth c b).fQ)])) (Lt (l:=[.tmp 53,.tmp 55]) (.r2 U U) [0,1]) (fun _=>by kernel_rfl)) (Lh 16 (wn (cs:=[vi 0,vi 0]) z1e7) fun aQ _=>Ll (wl z1e8 .here)<|Q0n<|Lb ?_))
   refine bK h fun p aA h=>Le<|Lf 58 (we z5x (wh .h3))<|La U<|Lf 60 (we zHO (wh .here))<|La U<|Lm 62 (Eh call42) (.cons .h5 .nil) (cc hz (.cons .h5 .nil) fun w pz ho=>V9 _ _ _ _ _ _ _ _ _ _ _ _ _ _ _ _ _ _ _ _ _ _ _ _ _ aA pz u x y z B E F G H ho)<|Q2q U<|La U (Lh 17 (wn (cs:=[vi 0,vi 0,vi 0,vi 0]) zCt) fun aR _=>Ll (wl zCv .here)<|Q1n U<|Lb<|B1q U<|Lf 66 kj<|Q0n<|Er (fun h'=>(by cases h'))<|fun h'=>?_)
   clear h'
   refine Ec<|B1q U<|Lf 70 (we zHO (wh .h2))<|Lf 71 (w7 aL)<|Lf 72 (Ei wm .here)<|Ll (kn (k:=(⟨(nth c b).y6,(nth c b).fQ⟩:ze)) (v:=p.yv) zZh underlying150 .h1)<|Q0n<|cK h fun aB h=>Le<|Lf 73 (w7 lG)<|Lf 74 (Ei zvv .h7)<|Lf 75 (we zCw (wh .h1)) (Lh 76 (wD (cs:=([p]:List zt).flatMap kG) zgW (Lt (l:=[.tmp 75]) (.cons U .nil) [0]) (fun _=>by kernel_rfl) (by unfold maxLen;omega)) fun aS _=>WL.fA 77 (vb (enc:=kG) (l1:=d) (l2:=([p]:List zt)) zgW (.there<|.there .h7) (fun _=>U) (wY .here) (vm Xq _) aB) ?_)
   rintro⟨al,am⟩ _
   exact Lf 78 (w7 lG)<|Ll (vg (ds:=[vs al ((d++([p]:List zt)).length) am,vn]) zZc (.there<|.there .h7))<|WL.nil<|Lq<|Ld<|D2q U<|WL.nil<|Em ⟨aF,i64 (b+1),wU m (⟨(nth c b).y6,(nth c b).fQ⟩:ze) p.yv,d++([p]:List zt),al,am⟩ h (Nat.lt_succ_self _) .q<|.s6 .h7 .h7 .h7 .h3 .here .here
  ·exact En<|Ln<|Ln<|Lu<|Lp ⟨d,n,o⟩ h .q<|.s4 .h1 .h1 .h2 .h2
 ·rintro f g j h
  replace h:=(ay f).symm.trans h
  refine Lb<|bK h fun ar aC h=>Le<|Lf 80 (w7 lG)<|Lf 81 (Ei zvv .h2)<|Nu (dd:=82) U (Eh call43) (.cons .h3 .nil) (cc hz (.cons .h3 .nil) fun w pz ho=>gn _ _ _ (ztx:=44) (zEN:=[]) _ (ztw:=(fun y0 y1=>uj y0 y1)) _ aC pz call44 (fun w' nd y0 y1  r  hr=>Y3 _ _ _ _ hr nd ) ho) ?_
  rintro  aD
  refine Nr (cs':=[vs g ar.length j,vn]) .h3 (by rw[aD])<|Q0n<|Lb<|bK h fun aG aE h=>Le<|Lf 83 (we z5x (wh .h2))<|La U<|Lf 85 (w7 lG)<|Lf 86 (Ei zvv .here)<|L7 (dd:=87) U (Eh call45) .nil (kb hz .nil (.cons .h1 .nil) fun w pz ho la=>X8 _ _ _ _ _ _ _ _ _ _ _ _ _ _ _ _ _ _ _ _ _ _ _ _ _ aE pz ((u.mono<|zl).weak (fun _ _ h=>qn zl h)) ((x.mono<|zl).weak (fun _ _ h=>qr zl h)) (y.mono<|zl) (z.mono<|zl) ((B.mono<|zl).weak (fun _ _ h=>vL zl h)) (E.mono<|zl) ((F.mono<|zl).weak (fun _ _ h=>qs zl h)) (G.mono<|zl) ((H.mono<|zl).weak (fun _ _ h=>qY zl h))<|ZA.row (la _ (.head _) _) (RR.flat (enc:=kG) (fun _=>U) _) ⟨w,pz.1⟩) ?_
  rintro an ao _
  exact Lf 88 (w7 Xr)<|Ll (vg (ds:=[vs g ar.length j,vs an aG.length ao]) zZd .h1)<|Q0n<|B0q<|Lf 89 (we zHM (wh .here))<|Ll (wl zHN .h4)<|Q1n U<|El<|oJ h▸Lk results15 (.agg U zHM U (wh .here)<|.tmp U .nil) fun w hw=>⟨g,j,an,ao,qq,trivial,hw.sub (.s2 .h3 .h2)⟩
def mb(b:List yO)(c:ye)(d:Option Bool):Nat->Int->Option Bool
 | 0,_=>none
 | e+1,a=>if decide (a<b.length) then chk (0<=a/\a<b.length) (chk (((((((decide (((nth b a).yw)<0))||(decide (((nth b a).yw)>536870912)))||(decide (((nth b a).yP)<0)))||(decide (((nth b a).yP)>=c.ya.length)))||(decide (((nth b a).yZ)<1)))||(decide (((nth b a).yZ)>72)))=false->((decide (a>0))=true->(0<=(i64 (a-1))/\(i64 (a-1))<b.length))) (if ((((((decide (((nth b a).yw)<0))||(decide (((nth b a).yw)>536870912)))||(decide (((nth b a).yP)<0)))||(decide (((nth b a).yP)>=c.ya.length)))||(decide (((nth b a).yZ)<1)))||(decide (((nth b a).yZ)>72)))||((decide (a>0))&&(decide (((nth b (i64 (a-1))).yw)>((nth b a).yw)))) then none else mb b c d e (i64 (a+1)))) else d
def lp(b:ye)(a:List yO):Option Bool:=
 uo (some (decide ((a.length:Int)<=4000))) fun c=>mb a b c wr 0
theorem Wr(Z l m n o p q s t u v x y z B K L M N c b r)(h:lp c b=some r){Ek}(hz:PZ [] Ek Z)(ay:ZS Z 4 (u5 Z) l m c.fM)(az:ZS Z 4 (fc Z) n o c.y9)(aA:ZS Z 4 (rq ml) p q c.fS)(aB:ZS Z 4 (rq m7) s t c.fK)(aC:ZS Z 7 (fa Z) u v c.ya)(aD:ZS Z 5 (rq mg) x y c.yc)(aE:ZS Z 3 (fe Z) z B c.fU)(aF:ZS Z 4 (rq j5) K L c.y8)(ad:ZS Z 3 (rq Ym) M N b):
  RC 47 #[.agg #[vs l c.fM.length m,vs n c.y9.length o,vs p c.fS.length q,vs s c.fK.length t,vs u c.ya.length v,vs x c.yc.length y,vs z c.fU.length B,vs K c.y8.length L],vs M b.length N] Ek (.bool r) [] []:=by
 unfold lp at h
 refine Lz func47 U U ?_
 let C:List Value:=[vs l c.fM.length m,vs n c.y9.length o,vs p c.fS.length q,vs s c.fK.length t,vs u c.ya.length v,vs x c.yc.length y,vs z c.fU.length B,vs K c.y8.length L];refine B0q<|Lh 2 (wu (cs:=C)) ?_
 intro d _
 refine Q1n U ?_
 obtain⟨al,am,h⟩:=vX h
 let A:Value:=(vs M b.length N);refine Nh (al=some r) ([(1,A)]) ([]) ?_ ?_
 ·let F:Value:=(vi (b.length:Int));refine B1q U<|Lf 8 (wB underlying97)<|Q1n U<|WC.block<|Ni (fun e a=>(mb b c al e a=some r)) (fun e a=>[(1,A),(2,vp d),(7,A),(8,F),(9,vi a)]) (fun e a=>[stb d 80 C]) (fun e a=>e) ⟨wr,0⟩ h .q (.cons .here .nil) ?_
  rintro(_|ax) a h;·cases h
  rw[mb] at h
  refine B1n U<|Lb<|Lj h (fun an h=>?_)<|fun an h=>?_
  ·refine Ec<|Lb<|WC.block<|Lb<|cK h fun ao h=>D1q U<|L0 (dd:=12) (Z:=Z) (Pr:=(rq Ym)) zvy ad ao ?_
   rintro aG aH ap aI rfl
   refine Lf 13 (we zZk (vy hz.pv ap)) (Lh 6 (wn (cs:=[vi 0,vi 0,vi 0]) zZl) fun f _=>La U<|Ll (wl zZm .here)<|Q0n<|Lb ?_)
   obtain⟨aq,h⟩:=wa h
   let J:Value:=(.bool ((decide (((nth b a).yw)<0))||(decide (((nth b a).yw)>536870912))));refine Lv nc []<|Lg 0 U (w7 nx)<|Li 1 U (Ei wm .here)<|Lg 2 U oW<|Lg 3 U q_m<|L9 (fuel':=38) [(1,A),(2,vp d),(7,A),(8,F),(9,vi a),(6,vp f),(5,vi a),(17,(.bool<|decide (((nth b a).yw)<0))),(21,J)] (wR 46 (dn 8)) ?_<|fun ae=>?_
   rotate_left
   ·rcases Bool.eq_false_or_eq_true (decide (((nth b a).yw)<0)) with hb' | hb'
    ·have O:=hb';clear hb'
     refine L2 (i:=17) U O<|Lo 4 U<|Lo 5 U<|Lo 6 U<|Lg 7 U vH<|Lw .a2 ?_ ae
     exact .t 7<|.r2 (zq<|Eq.symm O)<|zq<|jB O
    ·have P:=hb';clear hb'
     refine L2 (i:=17) U P<|Lg 4 U (w7 nx)<|Li 5 U (Ei wm .here)<|Lg 6 U oX<|Lg 7 U vA<|Lw .a2 ?_ ae
     exact .t 7<|.r2 (zq<|Eq.symm P)<|zq<|jC P
   let H:Value:=(.bool (((decide (((nth b a).yw)<0))||(decide (((nth b a).yw)>536870912)))||(decide (((nth b a).yP)<0))));refine WD.d (bz 8 38) (by kernel_rfl)<|Lg 8 U q_m<|L9 (fuel':=33) [(1,A),(2,vp d),(7,A),(8,F),(9,vi a),(6,vp f),(5,vi a),(22,J),(26,H)] (wR 46 (dn 13)) ?_<|fun af=>?_
   rotate_left
   ·rcases Bool.eq_false_or_eq_true ((decide (((nth b a).yw)<0))||(decide (((nth b a).yw)>536870912))) with hb' | hb'
    ·have Q:=hb';clear hb'
     refine L2 (i:=22) U Q<|Lo 9 U<|Lo 10 U<|Lo 11 U<|Lg 12 U vH<|Lw .a2 ?_ af
     exact .t 7<|.r2 (zq<|Eq.symm Q)<|zq<|jB Q
    ·have R:=hb';clear hb'
     refine L2 (i:=22) U R<|Lg 9 U (w7 Xs)<|Li 10 U (Ei wm .here)<|Lg 11 U oW<|Lg 12 U vA<|Lw .a2 ?_ af
     exact .t 7<|.r2 (zq<|Eq.symm R)<|zq<|jC R
   let I:=(c.ya.length:Int);let G:Value:=(.bool ((((decide (((nth b a).yw)<0))||(decide (((nth b a).yw)>536870912)))||(decide (((nth b a).yP)<0)))||(decide (((nth b a).yP)>=I))));refine WD.d (bz 13 33) (by kernel_rfl)<|Lg 13 U q_m<|L9 (fuel':=25) [(1,A),(2,vp d),(7,A),(8,F),(9,vi a),(6,vp f),(5,vi a),(27,H),(34,G)] (wR 46 (dn 21)) ?_<|fun ag=>?_
   rotate_left
   ·rcases Bool.eq_false_or_eq_true (((decide (((nth b a).yw)<0))||(decide (((nth b a).yw)>536870912)))||(decide (((nth b a).yP)<0))) with hb' | hb'
    ·have S:=hb';clear hb'
     refine L2 (i:=27) U S<|Lo 14 U<|Lo 15 U<|Lo 16 U<|Lo 17 U<|Lo 18 U<|Lo 19 U<|Lg 20 U vH<|Lw .a2 ?_ ag
     exact .t 7<|.r2 (zq<|Eq.symm S)<|zq<|jB S
    ·have T:=hb';clear hb'
     refine L2 (i:=27) U T<|Lg 14 U (w7 Xs)<|Li 15 U (Ei wm .here)<|Lg 16 U (w7 pU)<|Li 17 U (Ei zjX .h1)<|Lg 18 U (wB underlying75)<|Lg 19 U tZ<|Lg 20 U vA<|Lw .a2 ?_ ag
     exact .t 7<|.r2 (zq<|Eq.symm T)<|zq<|jC T
   let E:Value:=(.bool (((((decide (((nth b a).yw)<0))||(decide (((nth b a).yw)>536870912)))||(decide (((nth b a).yP)<0)))||(decide (((nth b a).yP)>=I)))||(decide (((nth b a).yZ)<1))));refine WD.d (bz 21 25) (by kernel_rfl)<|Lg 21 U q_m<|L9 (fuel':=20) [(1,A),(2,vp d),(7,A),(8,F),(9,vi a),(6,vp f),(5,vi a),(35,G),(39,E)] (wR 46 (dn 26)) ?_<|fun ah=>?_
   rotate_left
   ·rcases Bool.eq_false_or_eq_true ((((decide (((nth b a).yw)<0))||(decide (((nth b a).yw)>536870912)))||(decide (((nth b a).yP)<0)))||(decide (((nth b a).yP)>=c.ya.length))) with hb' | hb'
    ·have V:=hb';clear hb'
     refine L2 (i:=35) U V<|Lo 22 U<|Lo 23 U<|Lo 24 U<|Lg 25 U vH<|Lw .a2 ?_ ah
     exact .t 7<|.r2 (zq<|Eq.symm V)<|zq<|jB V
    ·have W:=hb';clear hb'
     refine L2 (i:=35) U W<|Lg 22 U (w7 VM)<|Li 23 U (Ei wm .here)<|Lg 24 U oW<|Lg 25 U vA<|Lw .a2 ?_ ah
     exact .t 7<|.r2 (zq<|Eq.symm W)<|zq<|jC W
   let D:Value:=(.bool ((((((decide (((nth b a).yw)<0))||(decide (((nth b a).yw)>536870912)))||(decide (((nth b a).yP)<0)))||(decide (((nth b a).yP)>=I)))||(decide (((nth b a).yZ)<1)))||(decide (((nth b a).yZ)>72))));refine WD.d (bz 26 20) (by kernel_rfl)<|Lg 26 U q_m<|L9 (fuel':=15) [(1,A),(2,vp d),(7,A),(8,F),(9,vi a),(6,vp f),(5,vi a),(40,E),(44,D)] (wR 46 (dn 31)) ?_<|fun ai=>?_
   rotate_left
   ·rcases Bool.eq_false_or_eq_true (((((decide (((nth b a).yw)<0))||(decide (((nth b a).yw)>536870912)))||(decide (((nth b a).yP)<0)))||(decide (((nth b a).yP)>=c.ya.length)))||(decide (((nth b a).yZ)<1))) with hb' | hb'
    ·have X:=hb';clear hb'
     refine L2 (i:=40) U X<|Lo 27 U<|Lo 28 U<|Lo 29 U<|Lg 30 U vH<|Lw .a2 ?_ ai
     exact .t 7<|.r2 (zq<|Eq.symm X)<|zq<|jB X
    ·have Y:=hb';clear hb'
     refine L2 (i:=40) U Y<|Lg 27 U (w7 VM)<|Li 28 U (Ei wm .here)<|Lg 29 U oX<|Lg 30 U vA<|Lw .a2 ?_ ai
     exact .t 7<|.r2 (zq<|Eq.symm Y)<|zq<|jC Y
   refine WD.d (bz 31 15) (by kernel_rfl)<|Lg 31 U q_m<|L9 (fuel':=0) [(1,A),(2,vp d),(7,A),(8,F),(9,vi a),(45,D),(59,.bool (((((((decide (((nth b a).yw)<0))||(decide (((nth b a).yw)>536870912)))||(decide (((nth b a).yP)<0)))||(decide (((nth b a).yP)>=I)))||(decide (((nth b a).yZ)<1)))||(decide (((nth b a).yZ)>72)))||((decide (a>0))&&(decide (((nth b<|i64 (a-1)).yw)>((nth b a).yw))))))] (wR 46 (dn 46)) ?_<|fun aj=>?_
   rotate_left
   ·rcases Bool.eq_false_or_eq_true ((((((decide (((nth b a).yw)<0))||(decide (((nth b a).yw)>536870912)))||(decide (((nth b a).yP)<0)))||(decide (((nth b a).yP)>=c.ya.length)))||(decide (((nth b a).yZ)<1)))||(decide (((nth b a).yZ)>72))) with hb' | hb'
    ·have aa:=hb';clear hb'
     refine L2 (i:=45) U aa<|Lo 32 U<|Lo 33 U<|Lo 34 U<|Lo 35 U<|Lo 36 U<|Lo 37 U<|Lo 38 U<|Lo 39 U<|Lo 40 U<|Lo 41 U<|Lo 42 U<|Lo 43 U<|Lo 44 U<|Lg 45 U vH<|Lw .a2 ?_ aj
     exact .t 5<|.r2 (zq<|Eq.symm aa)<|zq<|jB aa
    ·have g:=hb';clear hb'
     have ar:=aq g
     refine L2 (i:=45) U g<|Lg 32 U q_m<|Lg 33 U oX<|Lg 34 U q_m<|L9 (fuel':=1) [(1,A),(2,vp d),(7,A),(8,F),(9,vi a),(45,.bool false),(48,(.bool<|decide (a>0))),(58,(.bool<|(decide (a>0))&&(decide (((nth b<|i64 (a-1)).yw)>((nth b a).yw)))))] (wR 46 (dn 45)) ?_<|fun ak=>?_
     rotate_left
     ·rcases Bool.eq_false_or_eq_true (decide (a>0)) with hb' | hb'
      ·have k:=hb';clear hb'
       have au:=ar k
       refine L2 (i:=48) U k<|Lg 35 U q_m<|Lg 36 U q_m<|Lg 37 U oU<|L8 (j:=38) (dd:=52) (by kernel_rfl) z2W z2X (Z:=Z) (Pr:=(rq Ym)) zvy ad au ?_
       rintro aJ aK av aL rfl
       refine Lg 39 U (w7 nx)<|Li 40 U (w8 wm U<|wP hz.pv av)<|Lg 41 U (w7 nx)<|Li 42 U (Ei wm .here)<|Lg 43 U oX<|Lg 44 U vH<|Lw .a2 ?_ ak
       exact .t 6<|.r2 (zq<|Eq.symm k)<|zq<|qe k
      ·have ab:=hb';clear hb'
       refine L2 (i:=48) U ab<|Lo 35 U<|Lo 36 U<|Lo 37 U<|Lo 38 U<|Lo 39 U<|Lo 40 U<|Lo 41 U<|Lo 42 U<|Lo 43 U<|Lg 44 U vA<|Lw .a2 ?_ ak
       exact .t 6<|.r2 (zq<|Eq.symm ab)<|zq<|qd ab
     refine WD.d (bz 45 1) (by kernel_rfl)<|Lg 45 U vA<|Lw .a2 ?_ aj
     exact .t 5<|.r2 (zq<|Eq.symm g)<|zq<|jC g
   refine WD.d (bz 46 0) (by kernel_rfl)<|Eo (by kernel_rfl)<|Ld<|Lj h (fun aw h=>?_)<|fun aw h=>?_
   ·cases h
   ·exact Ep<|Lq<|Ld<|D2q U<|WL.nil<|Em ⟨ax,i64 (a+1)⟩ h (Nat.lt_succ_self _) .q<|.cons .h1 .nil
  ·exact En<|Ln<|Ln<|Lu<|Lp () h (.cons U .nil) .nil
 ·rintro  h
  replace h:=am.symm.trans h
  exact B1q U<|Lf 62 (wB underlying97)<|Q2n U<|El<|oJ h▸Ea results47
def uk(a:List y7):Option Int:=
 some (a.length:Int)
theorem iz(Z b c a r)(h:uk a=some r){Ek}(hz:PZ [] Ek Z)(d:ZS Z 7 (rq vt) b c a):
  RC 320 #[vs b a.length c] Ek (vi r) [] []:=by
 unfold uk at h
 exact L3 func320 U U<|B1n U<|B1q U<|Lf 4 (wB underlying165)<|Q1n U<|El<|oJ h▸Ea results320
def tR(a:y7)(b:y7):Option Int:=
 (qH a.yw b.yw).bind fun d=>(qH a.xa b.xa).bind fun e=>(qH a.xi b.xi).bind fun f=>(qH a.yH b.yH).bind fun g=>(pC ([d,e,f,g]:List Int)).bind fun c=>some c
theorem n5(Z a b r)(h:tR a b=some r){Ek}(hz:PZ [] Ek Z):
  RC 323 #[.agg #[vi a.yw,vi a.xa,vi a.xi,vi a.yH,vi a.yp.y6,vi a.yp.fX,vi a.yp.fQ],.agg #[vi b.yw,vi b.xa,vi b.xi,vi b.yH,vi b.yp.y6,vi b.yp.fX,vi b.yp.fQ]] Ek (vi r) [] []:=by
 unfold tR at h
 refine Lz func323 U U<|Lb<|Le (Lh 2 (wu (cs:=[vi a.yw,vi a.xa,vi a.xi,vi a.yH,vi a.yp.y6,vi a.yp.fX,vi a.yp.fQ])) fun o _=>Lh 3 (wu (cs:=[vi b.yw,vi b.xa,vi b.xi,vi b.yH,vi b.yp.y6,vi b.yp.fX,vi b.yp.fQ])) fun p _=>Q1n U<|Lb ?_)
 refine bK h fun j c h=>bK h fun k d h=>bK h fun m e h=>bK h fun n f h=>bK h fun q g h=>Lv nc []<|Lg 0 U (w7 W9)<|Li 1 U (Ei wm .h1)<|Lg 2 U (w7 W9)<|Li 3 U (Ei wm .here)<|L5 4 U (Eh call109) (cc hz .nil fun w pz ho=>jn _ _ _ _ c pz )<|Lg 5 U (w7 Jt)<|Li 6 U (Ei wm .h1)<|Lg 7 U (w7 Jt)<|Li 8 U (Ei wm .here)<|L5 9 U (Eh call109) (cc hz .nil fun w pz ho=>jn _ _ _ _ d pz )<|Lg 10 U (w7 Ju)<|Li 11 U (Ei wm .h1)<|Lg 12 U (w7 Ju)<|Li 13 U (Ei wm .here)<|L5 14 U (Eh call109) (cc hz .nil fun w pz ho=>jn _ _ _ _ e pz )<|Lg 15 U (w7 dq)<|Li 16 U (Ei wm .h1)<|Lg 17 U (w7 dq)<|Li 18 U (Ei wm .here)<|L5 19 U (Eh call109) (cc hz .nil fun w pz ho=>jn _ _ _ _ f pz ) (WD.new (i:=20) (dd:=25) U (by kernel_rfl) U (wD (cs:=([j,k,m,n]:List Int).flatMap e3) zaM (Lt (l:=[.tmp 9,.tmp 14,.tmp 19,.tmp 24]) (.r4 U U U U) [0,1,2,3]) (fun _=>by kernel_rfl) (by unfold maxLen;omega)) (fun h'=>absurd h' (by decide)) fun s _=>L5 21 U (Eh call108) (kb hz .nil (.cons .here .nil) fun w pz ho la=>dy _ _ _ _ _ g pz<|ZA.row (la _ (.head _) _) (RR.flat (enc:=e3) (fun _=>U) _) ⟨w,pz.1⟩)<|Lg 22 U q_z<|Eo (by kernel_rfl)<|Ld<|El ?_)
 exact oJ h▸Ea results323
def sy(a:List y7)(b:Int)(c:Int):Option Bool:=
 chk (0<=b/\b<a.length) (chk (0<=c/\c<a.length) ((tR (⟨(nth a b).yw,(nth a b).xa,(nth a b).xi,(nth a b).yH,(⟨((nth a b).yp).y6,((nth a b).yp).fX,((nth a b).yp).fQ⟩:zg)⟩:y7) (⟨(nth a c).yw,(nth a c).xa,(nth a c).xi,(nth a c).yH,(⟨((nth a c).yp).y6,((nth a c).yp).fX,((nth a c).yp).fQ⟩:zg)⟩:y7)).bind fun d=>some (decide (d<0))))
theorem nL(Z b c a e f r)(h:sy a e f=some r){Ek}(hz:PZ [] Ek Z)(d:ZS Z 7 (rq vt) b c a):
  RC 321 #[vs b a.length c,vi e,vi f] Ek (.bool r) [] []:=by
 unfold sy at h
 refine Ng func321 U U<|B1n U<|Lb<|cK h fun g h=>cK h fun i h=>bK h fun n k h=>Lv nc []<|Lg 0 U q_m<|Lg 1 U q_m<|L8 (j:=2) (dd:=9) (by kernel_rfl) z2W z2X (Z:=Z) (Pr:=(rq vt)) zgY d g ?_
 rintro o p l q rfl
 refine Li 3 U (we zvA (vy hz.pv l))<|Lg 4 U q_m<|Lg 5 U q_m<|L8 (j:=6) (dd:=13) (by kernel_rfl) z2W z2X (Z:=Z) (Pr:=(rq vt)) zgY d i ?_
 rintro s t m u rfl
 exact Li 7 U (we zvA (vy hz.pv m))<|L5 8 U (Eh call323) (cc hz .nil fun w pz ho=>n5 _ _ _ _ k pz )<|Lg 9 U oW<|Lg 10 U q_z<|Eo (by kernel_rfl)<|Ld<|El<|oJ h▸Ea results321
end Go.Proofs.YtaefhckdgfpeaaaGreat
