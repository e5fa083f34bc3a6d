/- A part of this claim's proof: models of functions, walks, plain laws. No conditions. -/
import Derived.Test.YthjnhebofpebpaaGreatW36f
set_option linter.all false
namespace Go.Proofs.YthjnhebofpebpaaGreat
open Go Go.RowKit Sep Tryz
variable {f:Int}{g:List (List zd)}{i:zy}
set_option maxRecDepth 30000
set_option maxHeartbeats 4000000
def si(c:zy)(wide:List (Int×Int))(q:Int×List (Int->Option Int))(y0:Int):Option Int:=ma y0 q.1 q.2 wide c
def ke(c:List (List zd))(j:z6)(b:zy)(l:List (z6×Int))(m:Int->(List (Int×List (Int->Option Int)))->(List (Int×Int))->Option (List (Int->Option Int)×Int)):Nat->Int->Int->(List (Int×List (Int->Option Int)))->(List (Int×Int))->Option (List (Int->Option Int)×Int)
 | 0,_,_,_,_=>none
 | p+1,k,a,d,g=>if decide (a<c.length) then Vw (fun(q:Int) (r:List (Int×List (Int->Option Int))) (s:List (Int×Int))=>ke c j b l m p q (i64 (a+1)) r s) fun n=>chk (0<=a/\a<c.length) ((wG (nth c a) (fun(y0:zd)=>mb y0 j)).bind fun e=>if decide (e<0) then n k d g else chk (0<=a/\a<b.yb.length) ((md b (nth c a) l).bind fun h=>chk (0<=e/\e<h.length) (qt (fun(f:Int)=>chk (((((xK d f [])++([(fun(y0:Int)=>vu y0 (⟨(nth b.yb a).yB,(⟨((nth b.yb a).yq).yA,((nth b.yb a).yq).yF,((nth b.yb a).yq).yI⟩:yG),(nth b.yb a).yD,(nth b.yb a).yz,(nth b.yb a).yN⟩:yy) (nth h e))]:List (Int->Option Int))).length:Nat):Int)*8<=140737488355328/\((((xK d f [])++([(fun(y0:Int)=>vu y0 (⟨(nth b.yb a).yB,(⟨((nth b.yb a).yq).yA,((nth b.yb a).yq).yF,((nth b.yb a).yq).yI⟩:yG),(nth b.yb a).yD,(nth b.yb a).yz,(nth b.yb a).yN⟩:yy) (nth h e))]:List (Int->Option Int))).length:Nat):Int)<=4611686018427387904) (n (max k ((nth b.yb a).yz)) (w7 d f ((xK d f [])++([(fun(y0:Int)=>vu y0 (⟨(nth b.yb a).yB,(⟨((nth b.yb a).yq).yA,((nth b.yb a).yq).yF,((nth b.yb a).yq).yI⟩:yG),(nth b.yb a).yD,(nth b.yb a).yz,(nth b.yb a).yN⟩:yy) (nth h e))]:List (Int->Option Int)))) (w7 g f (max (xK g f 0) ((nth b.yb a).yz))))) fun o=>(wG (nth c a) (fun(y0:zd)=>me y0 j)).bind fun i=>if decide (i>=0) then chk (0<=i/\i<((nth c a).length:Int)) (o ((nth (nth c a) i).fQ)) else o (-1)))) else m k d g
def f7(b:zy)(c:List (List zd))(d:z6)(e:List (z6×Int)):Option (List (Int->Option Int)×Int):=
 Vw (fun(f:Int) (a:List (Int×List (Int->Option Int))) (g:List (Int×Int))=>chk (a.length*8<=140737488355328/\a.length<=4611686018427387904) (some (a.map (si b g),f))) fun h=>ke c d b e h xT 0 0 ([]:List (Int×List (Int->Option Int))) ([]:List (Int×Int))
theorem al{Z aM aN aO aP aQ aR aS aT aU aV aW aX aY aZ a0 a1 ba bb p a am an ae r}(h:f7 a am an ae=some r){Ny}(hz:Pz [xP p (ga qF) vI ae] Ny Z)(aB:ZS Z 4 (kB Z) aM aN a.fM)(aC:ZS Z 4 (g8 Z) aO aP a.ye)(aD:ZS Z 4 (rq kr) aQ aR a.fS)(aE:ZS Z 4 (rq gH) aS aT a.fK)(az:ZS Z 7 (g7 Z) aU aV a.yb)(aF:ZS Z 5 (rq gf) aW aX a.fH)(aG:ZS Z 3 (g9 Z) aY aZ a.fU)(aH:ZS Z 4 (rq gg) a0 a1 a.yf)(bq:ZS Z 1 (fm Z) ba bb am)(iF:Ho Ny [xP p (ga qF) vI ae]):
  Calls Tryz.prog 53 #[.agg #[vs aM a.fM.length aN,vs aO a.ye.length aP,vs aQ a.fS.length aR,vs aS a.fK.length aT,vs aU a.yb.length aV,vs aW a.fH.length aX,vs aY a.fU.length aZ,vs a0 a.yf.length a1],vs ba am.length bb,.agg #[vi an.ya,vi an.fQ],.map (some p)] Ny fun e w'=>∃ Zn:Zp,∃ EW:Option Addr,∃ BG:Nat,e = .returned (.tuple #[vs EW r.1.length BG,vi r.2])/\(W4 (Z++Zn) (tq (Z++Zn)) EW BG r.1)/\Hp (fps [xP p (ga qF) vI ae]) Ny w' [fz Zn,xP p (ga qF) vI ae]:=by
 unfold f7 at h
 refine H3 func53 U iF U ?_
 let Q:Value:=(vs aU a.yb.length aV);let V:Value:=(vs aM a.fM.length aN);let W:Value:=(vs aO a.ye.length aP);let X:Value:=(vs aQ a.fS.length aR);let Y:Value:=(vs aS a.fK.length aT);let Aa:Value:=(vs aW a.fH.length aX);let Ab:Value:=(vs aY a.fU.length aZ);let Ac:Value:=(vs a0 a.yf.length a1);let A:List Value:=[V,W,X,Y,Q,Aa,Ab,Ac];refine WC.pool<|B0q<|Lh 4 (we (cs:=A)) ?_
 intro q _
 let H:List Value:=[vi an.ya,vi an.fQ];refine Lh 6 (we (cs:=H)) ?_
 intro ab _
 refine Q2n U<|B0q (Lh 23 (kq vI<|slv (α:=Value)) fun B _=>Ob (M:=[wM (qX 201 1 fq) ([]:List (Int×((Nat×(Option Addr×Nat))×List Value))),xP B vI slv (jP ([]:List (Int×((Nat×(Option Addr×Nat))×List Value)))),stb ab 94 H,stb q 31 A,fz [],xP p (ga qF) vI ae]) (fun _ h=>Hp.eS (qX 201 1 fq) h)<|Q1n U<|B0q (Lh 24 (kq vI<|Value.int .i64) fun t _=>Lh 11 (xV (cs:=[.map none]) zXq U) fun s _=>Lk (xR zXr .here)<|Q0n<|B1n U ?_))
 refine jK3 h fun bh br h=>O8 (fun a2 a3 a4 aI aK=>(bh a2 a3 a4=some r)/\(xF (Z++[]) (Z++aI))/\(RM (tq (Z++aI)) (mP aK) a3)) (fun a2 a3 a4 aI aK=>[(4,vp q),(10,(.map<|some B)),(11,vp s),(12,vi a2)]) (fun a2 a3 a4 aI aK=>[fz aI,stb q 31 A,xP B vI slv (jP aK),wM (qX 201 1 fq) aK,stb s 148 [(.map<|some t)],xP p (ga qF) vI ae,xP t vI vI a4]) ?_ ?_
 ·let I:Value:=(vs ba am.length bb);refine B1q U<|Le 26 (wc underlying32)<|Q1n U<|WC.block<|Pq (fun aA ai b ak af ad z=>(ke am an a ae bh aA ai b ak af=some r)/\(xF (Z++[]) (Z++ad))/\(RM (tq (Z++ad)) (mP z) ak)) (fun aA ai b ak af ad z=>[(3,(.map<|some p)),(4,vp q),(6,vp ab),(10,(.map<|some B)),(11,vp s),(12,vi ai),(25,I),(26,vi (am.length:Int)),(27,vi b)]) (fun aA ai b ak af ad z=>[fz ad,xP p (ga qF) vI ae,stb q 31 A,stb ab 94 H,xP B vI slv (jP z),wM (qX 201 1 fq) z,stb s 148 [(.map<|some t)],xP t vI vI af]) (fun aA ai b ak af ad z=>aA) ⟨xT,0,0,([]:List (Int×List (Int->Option Int))),([]:List (Int×Int)),[],([]:List (Int×((Nat×(Option Addr×Nat))×List Value)))⟩ ⟨h,xF.refl _,RM.nil⟩ .q (.s8 .h6 .h6 .h5 .h4 .h3 .h2 .here .here) ?_
  rintro (_|bW) ai b ak af ad z ⟨h,o,a5⟩;·cases h
  rw[ke] at h
  refine B1n U<|WC.b<|Lj h (fun bs h=>?_)<|fun bs h=>?_
  ·refine Np<|jK3 h fun bX bt h=>O8 (fun ap aq ar au av=>(bX ap aq ar=some r)/\(xF (Z++ad) (Z++au))/\(RM (tq (Z++au)) (mP av) aq)) (fun ap aq ar au av=>[(3,(.map<|some p)),(4,vp q),(6,vp ab),(10,(.map<|some B)),(11,vp s),(12,vi ap),(25,I),(26,vi (am.length:Int)),(27,vi b)]) (fun ap aq ar au av=>[fz au,xP p (ga qF) vI ae,stb q 31 A,stb ab 94 H,xP B vI slv (jP av),wM (qX 201 1 fq) av,stb s 148 [(.map<|some t)],xP t vI vI ar]) ?_ ?_
   ·refine WC.block<|WC.b<|cK h fun bu h=>D1q U<|L2 (Z:=(Z++ad)) (Pr:=(fm (Z++ad))) zc4 ((bq.mono<|zl.trans o).weak (fun _ _ h=>qe (zl.trans o) h)) bu ?_
    rintro b4 b5 bv b6 ⟨bY,bZ,rfl,aw⟩
    refine Le 31 (xC zb5 U<|kz (hz.pv2 .here) bv)<|Q2n U<|WC.b<|bK h fun ag bw h=>D1q U<|Le 33 (wO<|L5 (l:=[.tmp 6])<|.cons U .nil)<|Lo 34 (Nt call94) .nil (cN hz .nil .here (.cons .h3 .nil) fun w pz ho la=>jR (zdY:=95) (zjh:=[vp ab]) (z9w:=(fun(y0:zd)=>mb y0 an)) bw pz (aw.mono<|zl) call95<|fun w' hz' y0  r  hr=>dZ hr hz'<|(la _ (.head _) _).stb)<|Q1n U<|WC.b<|B2n U<|Lj h (fun bx h=>?_)<|fun bx h=>?_
    ·exact N2<|Ln<|Lv<|Lp ⟨ai,ak,af,ad,z⟩ ⟨h,xF.refl _,a5⟩ .q<|.a8
    ·refine Np<|WC.b<|cK h fun bz h=>bK h fun aa a6 h=>cK h fun aj h=>Lu (fun i=>[8,14,15].contains i) [rb q 31 [(4,Q)],fz ad]<|Lf 0 U (xB mW)<|L8 1 U (wJ.wk (.s2 .h2 .here)<|.stb (.cons U .nil)<|.same .nil) (xC z8E U<|mG .here<|.head _)<|Lf 2 U q_m<|L7 (j:=3) (Z:=(Z++ad)) (Pr:=(g7 (Z++ad))) zdQ ((az.mono<|zl.trans o).weak (fun _ _ h=>ve (zl.trans o) h)) bz ?_
     rintro b7 b8 bA b9 ⟨b0,b1,rfl,bB⟩
     let E:Value:=(vs bY ((nth am b).length) bZ);let K:Value:=(vi (am.length:Int));let L:Value:=(vs b0 (((nth a.yb b).yN).length) b1);let N:Value:=(vi ((nth a.yb b).yD));let O:Value:=(vi ((nth a.yb b).yz));refine L8 4 U (wJ.wk (.s2 .h2 .here)<|.stb (.cons U .nil)<|.same .nil) (xN zCN (qB (hz.pv2 .h1) bA))<|Lg 5 U (xN z2A (xO .h2))<|Lf 6 U q_m<|Lf 7 U q_m<|Lf 9 U q_m<|O5 (fuel':=0) (fun c n f g=>[(3,(.map<|some p)),(4,vp q),(6,vp ab),(10,(.map<|some B)),(11,vp s),(12,vi ai),(25,I),(26,K),(27,vi b),(14,E),(16,vp f),(17,vp g),(18,vi (-1))]) (fun c n f g=>[stb g 3 [(vi<|nth aa ag)],stb f 69 [(.string<|(nth a.yb b).yB),(.string<|((nth a.yb b).yq).yA),(.string<|((nth a.yb b).yq).yF),(.string<|((nth a.yb b).yq).yI),N,O,L],row (vs (some ⟨c,0,none⟩) aa.length n) 3 1 (aa.flatMap e3),xP p (ga qF) vI ae,fz ad,stb q 31 A,stb ab 94 H,xP B vI slv (jP z),wM (qX 201 1 fq) z,stb s 148 [(.map<|some t)],xP t vI vI af]) (fun c n f g=>True) (vE 17 [16,15,11,14,13,12,10,8,9,7,6,5,4,3,2,1,0]) ?_<|fun bC=>?_
     ·rintro c n f g _
      refine N1<|Lb<|jK1 h fun b2 bD h=>L6 (fun ah=>(b2 ah=some r)) (fun ah=>[(3,(.map<|some p)),(4,vp q),(6,vp ab),(10,(.map<|some B)),(11,vp s),(12,vi ai),(16,vp f),(17,vp g),(18,vi ah),(25,I),(26,K),(27,vi b)]) (fun ah=>[fz ad,xP p (ga qF) vI ae,stb q 31 A,stb ab 94 H,xP B vI slv (jP z),wM (qX 201 1 fq) z,stb s 148 [(.map<|some t)],stb f 69 [(.string<|(nth a.yb b).yB),(.string<|((nth a.yb b).yq).yA),(.string<|((nth a.yb b).yq).yF),(.string<|((nth a.yb b).yq).yI),N,O,L],stb g 3 [(vi<|nth aa ag)],xP t vI vI af]) ?_ ?_
      ·refine WC.b<|bK h fun b3 bE h=>D1q U<|Le 50 (wO<|L5 (l:=[.tmp 6])<|.cons U .nil)<|Lo 51 (Nt call94) .nil (cN hz .nil .h4 (.cons .h6 .nil) fun w pz ho la=>jR (zdY:=96) (zjh:=[vp ab]) (z9w:=(fun(y0:zd)=>me y0 an)) bE pz (aw.mono<|zl) call96<|fun w' hz' y0  r  hr=>e8 hr hz'<|(la _ (.head _) _).stb)<|Q1n U<|B2n U<|Lj h (fun bF h=>?_)<|fun bF h=>?_
       ·refine cK h fun bG h=>D2q U<|L2 (Z:=(Z++ad)) (Pr:=(rq mQ)) z7O aw bG ?_
        rintro ca cb bH cc rfl
        exact Le 57 (xB sr)<|Le 58 (xC xL U<|wt (hz.pv2 .h4) bH)<|La U<|WL.nil<|Lp ((nth (nth am b) b3).fQ) h .q<|.s10 .h4 .h3 .h3 .h3 .h3 .h3 .h3 .h1 .here .h1
       ·exact N3<|Lp (-1) h .q<|.s10 .h4 .h3 .h3 .h3 .h3 .h3 .h3 .h1 .here .h1
      ·rintro ah h
       replace h:=(bD ah).symm.trans h
       refine WC.b<|cK h fun bI h=>D4q U<|Le 63 (jk (k:=ah) (dflt:=(((none,0),[]):(Option Addr×Nat)×List Value)) gP underlying198 zMk .h4)<|Ox (fun _ h=>Hp.Gw ah a5 .h5 h) ?_
       rintro⟨⟨bJ,bL⟩,aL⟩ ⟨bM,bi⟩
       refine L9 (i:=63) U (u:=(vs bJ ((xK ak ah []).length) bL)) ((congrArg slv bM).trans (RR.slv bi)) (WL.freezeC (Z:=Z) (.there .h7) .h2 fun cd a7 bc=>WL.freezeC (Z:=Z) (.there .h7) .here ?_)
       intro ax ay bN
       let J:List Value:=[.func (.func 97) #[] #[vp f,vp g]];have bO:tq (Z++ax) J (fun y0=>vu y0 (⟨(nth a.yb b).yB,(⟨((nth a.yb b).yq).yA,((nth a.yb b).yq).yF,((nth a.yb b).yq).yI⟩:yG),(nth a.yb b).yD,(nth a.yb b).yz,(nth a.yb b).yN⟩:yy) (nth aa ag)):=⟨97,[vp f,vp g],U,call97,(fun w' hz' y0 r hr=>eb hr hz' (bB.mono (a7.trans ay)) (bc.mono ay) bN)⟩
       refine Le 64 (wO<|L5 (l:=[.tmp 16,.tmp 17])<|.r2 U U) ?_
       have bj:RR 1 (tq (Z++ax)) J ([(fun y0=>vu y0 (⟨(nth a.yb b).yB,(⟨((nth a.yb b).yq).yA,((nth a.yb b).yq).yF,((nth a.yb b).yq).yI⟩:yG),(nth a.yb b).yD,(nth a.yb b).yz,(nth a.yb b).yN⟩:yy) (nth aa ag))]:List (Int->Option Int)):=(RR.cons (r:=J) U bO (RR.nil _ _))
       refine Lh 65 (wn (cs:=[.func (.func 97) #[] #[vp f,vp g]]) ztS (Lq (l:=[.tmp 64]) (.cons U .nil) [0])) ?_
       intro bP _
       have bd:RR 1 (tq (Z++ax)) (aL++J) ((xK ak ah [])++([(fun y0=>vu y0 (⟨(nth a.yb b).yB,(⟨((nth a.yb b).yq).yA,((nth a.yb b).yq).yF,((nth a.yb b).yq).yI⟩:yG),(nth a.yb b).yD,(nth a.yb b).yz,(nth a.yb b).yN⟩:yy) (nth aa ag))]:List (Int->Option Int))):=RR.app (bi.weak (fun _ _ h=>tG (a7.trans ay) h)) bj
       refine WL.fA 66 (oC (l1:=xK ak ah []) (l2:=([(fun y0=>vu y0 (⟨(nth a.yb b).yB,(⟨((nth a.yb b).yq).yA,((nth a.yb b).yq).yF,((nth a.yb b).yq).yI⟩:yG),(nth a.yb b).yD,(nth a.yb b).yz,(nth a.yb b).yN⟩:yy)<|nth aa ag)]:List (Int->Option Int))) (vo:=J) (Pr:=(tq (Z++ax))) ztS .h2 bj (j4 .here) lE bI) ?_
       rintro⟨a8,a9⟩ _
       exact Lk (kJ (k:=ah) (v:=(((a8,a9),aL++J):(Option Addr×Nat)×List Value)) gP underlying198 (DC:=⟨(RR.slv bd).symm⟩) .h7)<|Ob (fun _ h=>Hp.Kt (k:=ah) (RR.len1 bd) (.s2 .h1 .h3) h)<|Ob (M:=[xP B vI slv (jP<|w7 z ah ((0,(a8,a9)),aL++J)),wM (qX 201 1 fq) (w7 z ah ((0,(a8,a9)),aL++J)),row (vs (some ⟨bP,0,none⟩) (([(fun y0=>vu y0 (⟨(nth a.yb b).yB,(⟨((nth a.yb b).yq).yA,((nth a.yb b).yq).yF,((nth a.yb b).yq).yI⟩:yG),(nth a.yb b).yD,(nth a.yb b).yz,(nth a.yb b).yN⟩:yy)<|nth aa ag)]:List (Int->Option Int)).length) 1) 201 1 J,fz ax,xP p (ga qF) vI ae,stb q 31 A,stb ab 94 H,stb s 148 [(.map<|some t)],xP t vI vI af]) (fun _ h=>Hp.eT .h1 (aJ _ _ _ _).symm h)<|Q0n<|Lu (fun i=>[12].contains i) [fz ax]<|Lg 0 U (Nu zCV .h7)<|Lf 1 U q_m<|Lg 2 U (Nu zCV .h7)<|Lf 3 U q_m<|Lg 4 U (jk (k:=ah) (dflt:=(0:Int)) gP underlying148 jc<|.there .h7)<|Lf 5 U (xB rJ)<|Lg 6 U (xC xL U<|wt (hz.pv2 .h3) (bc.mono ay))<|Lf 7 U oQ<|Lf 8 U q_m<|Lf 9 U (xB rJ)<|L8 10 U (wJ.of<|.cons .h3 .nil) (xC xL U<|wt (hz.pv2 .here) (bc.mono ay))<|Lf 11 U oQ<|WD.forced0 (i:=12) U (wJ.of<|.cons .h4 .nil) (kJ (k:=ah) (v:=max (xK af ah 0) ((nth a.yb b).yz)) gP underlying148<|.there .h7)<|Lf 13 U q_z<|N1<|Lt<|Lp ⟨(max ai<|(nth a.yb b).yz),w7 ak ah ((xK ak ah [])++([(fun y0=>vu y0 (⟨(nth a.yb b).yB,(⟨((nth a.yb b).yq).yA,((nth a.yb b).yq).yF,((nth a.yb b).yq).yI⟩:yG),(nth a.yb b).yD,(nth a.yb b).yz,(nth a.yb b).yN⟩:yy)<|nth aa ag)]:List (Int->Option Int))),(w7 af ah<|max (xK af ah 0)<|(nth a.yb b).yz),ax,w7 z ah ((0,(a8,a9)),aL++J)⟩ ⟨h,a7.trans ay,RM.putD (a5.weak<|fun _ _ h=>tG (a7.trans ay) h) ah bd⟩ .q<|.s8 .h4 .h4 .h4 .h4 .h1 .h1 .h2 .here
     let R:Value:=(.string (((nth a.yb b).yq).yA));let S:Value:=(.string (((nth a.yb b).yq).yF));let T:Value:=(.string (((nth a.yb b).yq).yI));let Ad:Value:=(.string ((nth a.yb b).yB));refine O5 (fuel':=2) (fun c n f g=>[(3,(.map<|some p)),(4,vp q),(6,vp ab),(10,(.map<|some B)),(11,vp s),(12,vi ai),(25,I),(26,K),(27,vi b),(14,E),(16,vp f),(17,vp g),(48,(vi<|nth aa ag))]) (fun c n f g=>[stb f 69 [Ad,R,S,T,N,O,L],stb g 3 [vi 0],row (vs (some ⟨c,0,none⟩) aa.length n) 3 1 (aa.flatMap e3),xP p (ga qF) vI ae,fz ad,stb q 31 A,stb ab 94 H,xP B vI slv (jP z),wM (qX 201 1 fq) z,stb s 148 [(.map<|some t)],xP t vI vI af]) (fun c n f g=>True) (vE 17 [11,14,13,12,10,8,9,7,6,5,4,3,2,1,0]) ?_<|fun bk=>?_
     ·rintro c n f g _
      exact WD.forced0 (i:=15) U (wJ.wk (.s2 .h5 .h4)<|.stb (.cons U .nil)<|.same .nil) (xR px .h1)<|Lf 16 U q_z<|Lw .a11 (.qo U)<|bC c n f g trivial
     let C:Value:=(.agg #[Ad,R,S,T,N,O,L]);let D:List Value:=[.string ⟨#[]⟩,.string ⟨#[]⟩,.string ⟨#[]⟩,.string ⟨#[]⟩,vi 0,vi 0,vn];refine O5 (fuel':=3) (fun c n f g=>[(3,(.map<|some p)),(4,vp q),(6,vp ab),(10,(.map<|some B)),(11,vp s),(12,vi ai),(25,I),(26,K),(27,vi b),(14,E),(41,C),(48,(vi<|nth aa ag)),(16,vp f),(17,vp g)]) (fun c n f g=>[stb g 3 [vi 0],stb f 69 D,row (vs (some ⟨c,0,none⟩) aa.length n) 3 1 (aa.flatMap e3),xP p (ga qF) vI ae,fz ad,stb q 31 A,stb ab 94 H,xP B vI slv (jP z),wM (qX 201 1 fq) z,stb s 148 [(.map<|some t)],xP t vI vI af]) (fun c n f g=>True) (vE 17 [13,12,11,10,8,9,7,6,5,4,3,2,1,0]) ?_<|fun be=>?_
     ·rintro c n f g _
      exact WD.forced0 (i:=14) U (wJ.wk (.s2 .h5 .h4)<|.stb (.cons U .nil)<|.same .nil) (xR zMj .h1)<|Lw .a11 (.qo U)<|bk c n f g trivial
     refine O6 (fuel':=4) (fun c n f=>[(3,(.map<|some p)),(4,vp q),(6,vp ab),(10,(.map<|some B)),(11,vp s),(12,vi ai),(25,I),(26,K),(27,vi b),(14,E),(41,C),(48,(vi<|nth aa ag)),(16,vp f)]) (fun c n f=>[stb f 69 D,row (vs (some ⟨c,0,none⟩) aa.length n) 3 1 (aa.flatMap e3),xP p (ga qF) vI ae,fz ad,stb q 31 A,stb ab 94 H,xP B vI slv (jP z),wM (qX 201 1 fq) z,stb s 148 [(.map<|some t)],xP t vI vI af]) (fun c n f=>True) (vE 17 [12,11,10,8,9,7,6,5,4,3,2,1,0]) ?_<|fun bl=>?_
     ·rintro c n f _
      refine WD.new (i:=13) U U (xV (cs:=[vi 0]) jc U) (fun h'=>absurd h' (by decide)) fun g _=>Lw .a11 (.qo U)<|be c n f g trivial
     refine O6 (fuel':=4) (fun c n g=>[(3,(.map<|some p)),(4,vp q),(6,vp ab),(10,(.map<|some B)),(11,vp s),(12,vi ai),(25,I),(26,K),(27,vi b),(14,E),(41,C),(48,(vi<|nth aa ag)),(17,vp g)]) (fun c n g=>[stb g 3 [vi 0],row (vs (some ⟨c,0,none⟩) aa.length n) 3 1 (aa.flatMap e3),xP p (ga qF) vI ae,fz ad,stb q 31 A,stb ab 94 H,xP B vI slv (jP z),wM (qX 201 1 fq) z,stb s 148 [(.map<|some t)],xP t vI vI af]) (fun c n g=>True) (vE 17 [13,11,10,8,9,7,6,5,4,3,2,1,0]) ?_<|fun bm=>?_
     ·rintro c n g _
      refine WD.new (i:=12) U U (xV (cs:=D) zoM U) (fun h'=>absurd h' (by decide)) fun f _=>Lw (.s11 .h1 .here .here .here .here .here .here .here .here .here .here) (.qo U)<|be c n f g trivial
     refine O5 (fuel':=4) (fun c n f g=>[(3,(.map<|some p)),(4,vp q),(6,vp ab),(10,(.map<|some B)),(11,vp s),(12,vi ai),(25,I),(26,K),(27,vi b),(14,E),(41,C),(47,(.pointer<|some ⟨c,(ag:Int).toNat*1,none⟩)),(16,vp f),(17,vp g)]) (fun c n f g=>[stb g 3 [vi 0],stb f 69 D,row (vs (some ⟨c,0,none⟩) aa.length n) 3 1 (aa.flatMap e3),xP p (ga qF) vI ae,fz ad,stb q 31 A,stb ab 94 H,xP B vI slv (jP z),wM (qX 201 1 fq) z,stb s 148 [(.map<|some t)],xP t vI vI af]) (fun c n f g=>True) (vE 17 [13,12,10,8,9,7,6,5,4,3,2,1,0]) ?_<|fun bf=>?_
     ·rintro c n f g _
      refine WD.choose [11,14] U<|vY.cons ?_<|vY.cons ?_<|vY.nil
      ·exact vY.quiet (i:=11) (d:=48) U U U U (fun h'=>absurd h' (by decide)) (xC xL U<|sj .h2<|(wN (enc:=e3) (l:=aa) (i:=ag) (sz:=1) aj.1 aj.2) 0 _ U)<|Lw .a11 (.qo U)<|be c n f g trivial
      ·exact vY.forced0 (i:=14) U U U U (wJ.wk (.s2 .h5 .h4)<|.stb (.cons U .nil)<|.same .nil) (xR zMj .h1)<|Lg 11 U (xC xL U<|sj .h2<|(wN (enc:=e3) (l:=aa) (i:=ag) (sz:=1) aj.1 aj.2) 0 _ U)<|Lw .a11 (.qo U)<|bk c n f g trivial
     refine Pj (fuel':=5) (fun c n=>[(3,(.map<|some p)),(4,vp q),(6,vp ab),(10,(.map<|some B)),(11,vp s),(12,vi ai),(25,I),(26,K),(27,vi b),(14,E),(41,C),(48,(vi<|nth aa ag))]) (fun c n=>[row (vs (some ⟨c,0,none⟩) aa.length n) 3 1 (aa.flatMap e3),xP p (ga qF) vI ae,fz ad,stb q 31 A,stb ab 94 H,xP B vI slv (jP z),wM (qX 201 1 fq) z,stb s 148 [(.map<|some t)],xP t vI vI af]) (fun c n=>True) (vE 17 [11,10,8,9,7,6,5,4,3,2,1,0]) ?_<|fun bQ=>?_
     ·rintro c n _
      refine WD.choose [12,13] U<|vY.cons ?_<|vY.cons ?_<|vY.nil
      ·refine vY.new (i:=12) (xV (cs:=D) zoM U) (fun h'=>absurd h' (by decide)) fun f _=>Lw .a10 (.qo U)<|bl c n f trivial
      ·refine vY.new (i:=13) (xV (cs:=[vi 0]) jc U) (fun h'=>absurd h' (by decide)) fun g _=>Lw .a10 (.qo U)<|bm c n g trivial
     refine O6 (fuel':=5) (fun c n f=>[(3,(.map<|some p)),(4,vp q),(6,vp ab),(10,(.map<|some B)),(11,vp s),(12,vi ai),(25,I),(26,K),(27,vi b),(14,E),(41,C),(47,(.pointer<|some ⟨c,(ag:Int).toNat*1,none⟩)),(16,vp f)]) (fun c n f=>[stb f 69 D,row (vs (some ⟨c,0,none⟩) aa.length n) 3 1 (aa.flatMap e3),xP p (ga qF) vI ae,fz ad,stb q 31 A,stb ab 94 H,xP B vI slv (jP z),wM (qX 201 1 fq) z,stb s 148 [(.map<|some t)],xP t vI vI af]) (fun c n f=>True) (vE 17 [12,10,8,9,7,6,5,4,3,2,1,0]) ?_<|fun bn=>?_
     ·rintro c n f _
      refine WD.choose [11,13] U<|vY.cons ?_<|vY.cons ?_<|vY.nil
      ·exact vY.quiet (i:=11) (d:=48) U U U U (fun h'=>absurd h' (by decide)) (xC xL U<|sj .h1<|(wN (enc:=e3) (l:=aa) (i:=ag) (sz:=1) aj.1 aj.2) 0 _ U)<|Lw .a10 (.qo U)<|bl c n f trivial
      ·refine vY.new (i:=13) (xV (cs:=[vi 0]) jc U) (fun h'=>absurd h' (by decide)) fun g _=>Lw .a11 (.qo U)<|bf c n f g trivial
     refine O6 (fuel':=5) (fun c n g=>[(3,(.map<|some p)),(4,vp q),(6,vp ab),(10,(.map<|some B)),(11,vp s),(12,vi ai),(25,I),(26,K),(27,vi b),(14,E),(41,C),(47,(.pointer<|some ⟨c,(ag:Int).toNat*1,none⟩)),(17,vp g)]) (fun c n g=>[stb g 3 [vi 0],row (vs (some ⟨c,0,none⟩) aa.length n) 3 1 (aa.flatMap e3),xP p (ga qF) vI ae,fz ad,stb q 31 A,stb ab 94 H,xP B vI slv (jP z),wM (qX 201 1 fq) z,stb s 148 [(.map<|some t)],xP t vI vI af]) (fun c n g=>True) (vE 17 [13,10,8,9,7,6,5,4,3,2,1,0]) ?_<|fun bo=>?_
     ·rintro c n g _
      refine WD.choose [11,12] U<|vY.cons ?_<|vY.cons ?_<|vY.nil
      ·exact vY.quiet (i:=11) (d:=48) U U U U (fun h'=>absurd h' (by decide)) (xC xL U<|sj .h1<|(wN (enc:=e3) (l:=aa) (i:=ag) (sz:=1) aj.1 aj.2) 0 _ U)<|Lw .a10 (.qo U)<|bm c n g trivial
      ·refine vY.new (i:=12) (xV (cs:=D) zoM U) (fun h'=>absurd h' (by decide)) fun f _=>Lw (.s11 .h1 .here .here .here .here .here .here .here .here .here .here) (.qo U)<|bf c n f g trivial
     refine Pj (fuel':=6) (fun c n=>[(3,(.map<|some p)),(4,vp q),(6,vp ab),(10,(.map<|some B)),(11,vp s),(12,vi ai),(25,I),(26,K),(27,vi b),(14,E),(41,C),(47,(.pointer<|some ⟨c,(ag:Int).toNat*1,none⟩))]) (fun c n=>[row (vs (some ⟨c,0,none⟩) aa.length n) 3 1 (aa.flatMap e3),xP p (ga qF) vI ae,fz ad,stb q 31 A,stb ab 94 H,xP B vI slv (jP z),wM (qX 201 1 fq) z,stb s 148 [(.map<|some t)],xP t vI vI af]) (fun c n=>True) (vE 17 [10,8,9,7,6,5,4,3,2,1,0]) ?_<|fun bR=>?_
     ·rintro c n _
      refine WD.choose [11,12,13] U<|vY.cons ?_<|vY.cons ?_<|vY.cons ?_<|vY.nil
      ·exact vY.quiet (i:=11) (d:=48) U U U U (fun h'=>absurd h' (by decide)) (xC xL U<|sj .here<|(wN (enc:=e3) (l:=aa) (i:=ag) (sz:=1) aj.1 aj.2) 0 _ U)<|Lw .a9 (.qo U)<|bQ c n trivial
      ·refine vY.new (i:=12) (xV (cs:=D) zoM U) (fun h'=>absurd h' (by decide)) fun f _=>Lw .a10 (.qo U)<|bn c n f trivial
      ·refine vY.new (i:=13) (xV (cs:=[vi 0]) jc U) (fun h'=>absurd h' (by decide)) fun g _=>Lw .a10 (.qo U)<|bo c n g trivial
     let F:Value:=(.agg #[V,W,X,Y,Q,Aa,Ab,Ac]);refine Pj (fuel':=6) (fun f g=>[(3,(.map<|some p)),(4,vp q),(6,vp ab),(10,(.map<|some B)),(11,vp s),(12,vi ai),(25,I),(26,K),(27,vi b),(14,E),(41,C),(42,F),(43,E),(44,(.map<|some p)),(46,vi ag),(16,vp f),(17,vp g)]) (fun f g=>[stb g 3 [vi 0],stb f 69 D,fz ad,xP p (ga qF) vI ae,stb q 31 A,stb ab 94 H,xP B vI slv (jP z),wM (qX 201 1 fq) z,stb s 148 [(.map<|some t)],xP t vI vI af]) (fun f g=>True) (vE 17 [13,12,9,7,6,5,4,3,2,1,0]) ?_<|fun bp=>?_
     ·rintro f g _
      refine WD.call2 (i:=8) U U U U (.inl ⟨U,fun _ _=>(wJ.wk (.s2 .h5 .h4)<|.stb (.cons U .nil)<|.same .nil)⟩) (Nt call37) (.cons .h3 .nil) (mv hz (.cons .h3 .nil) .h2 fun w pz ho=>ui a6 pz ((aB.mono<|zl.trans o).weak (fun _ _ h=>vc (zl.trans o) h)) ((aC.mono<|zl.trans o).weak (fun _ _ h=>vA (zl.trans o) h)) (aD.mono<|zl.trans o) (aE.mono<|zl.trans o) ((az.mono<|zl.trans o).weak (fun _ _ h=>ve (zl.trans o) h)) (aF.mono<|zl.trans o) ((aG.mono<|zl.trans o).weak (fun _ _ h=>vB (zl.trans o) h)) (aH.mono<|zl.trans o) aw ho) ?_
      rintro bg n _
      refine Nk (fun w hw=>Hp.vf .here hw (by intro hz';have:=aj;rw[hz'] at this;omega)) ?_
      rintro⟨c,rfl⟩
      exact Lf 10 U (xZ z5U aj.1 aj.2 wF)<|Lw (.s11 .h2 .h2 .here .here .here .here .here .here .here .here .here) (.qo U)<|bf c n f g trivial
     refine P4 (fuel':=7) (fun f=>[(3,(.map<|some p)),(4,vp q),(6,vp ab),(10,(.map<|some B)),(11,vp s),(12,vi ai),(25,I),(26,K),(27,vi b),(14,E),(41,C),(42,F),(43,E),(44,(.map<|some p)),(46,vi ag),(16,vp f)]) (fun f=>[stb f 69 D,fz ad,xP p (ga qF) vI ae,stb q 31 A,stb ab 94 H,xP B vI slv (jP z),wM (qX 201 1 fq) z,stb s 148 [(.map<|some t)],xP t vI vI af]) (fun f=>True) (vE 17 [12,9,7,6,5,4,3,2,1,0]) ?_<|fun bS=>?_
     ·rintro f _
      refine WD.choose [8,13] U<|vY.cons ?_<|vY.cons ?_<|vY.nil
      ·refine vY.call2 (i:=8) U U U U (.inl ⟨U,fun _ _=>(wJ.wk (.s2 .h4 .h3)<|.stb (.cons U .nil)<|.same .nil)⟩) (Nt call37) (.cons .h2 .nil) (mv hz (.cons .h2 .nil) .h1 fun w pz ho=>ui a6 pz ((aB.mono<|zl.trans o).weak (fun _ _ h=>vc (zl.trans o) h)) ((aC.mono<|zl.trans o).weak (fun _ _ h=>vA (zl.trans o) h)) (aD.mono<|zl.trans o) (aE.mono<|zl.trans o) ((az.mono<|zl.trans o).weak (fun _ _ h=>ve (zl.trans o) h)) (aF.mono<|zl.trans o) ((aG.mono<|zl.trans o).weak (fun _ _ h=>vB (zl.trans o) h)) (aH.mono<|zl.trans o) aw ho) ?_
       rintro bg n _
       refine Nk (fun w hw=>Hp.vf .here hw (by intro hz';have:=aj;rw[hz'] at this;omega)) ?_
       rintro⟨c,rfl⟩
       exact Lf 10 U (xZ z5U aj.1 aj.2 wF)<|Lw (.s10 .h2 .here .here .here .here .here .here .here .here .here) (.qo U)<|bn c n f trivial
      ·refine vY.new (i:=13) (xV (cs:=[vi 0]) jc U) (fun h'=>absurd h' (by decide)) fun g _=>Lw .a10 (.qo U)<|bp f g trivial
     refine P4 (fuel':=7) (fun g=>[(3,(.map<|some p)),(4,vp q),(6,vp ab),(10,(.map<|some B)),(11,vp s),(12,vi ai),(25,I),(26,K),(27,vi b),(14,E),(41,C),(42,F),(43,E),(44,(.map<|some p)),(46,vi ag),(17,vp g)]) (fun g=>[stb g 3 [vi 0],fz ad,xP p (ga qF) vI ae,stb q 31 A,stb ab 94 H,xP B vI slv (jP z),wM (qX 201 1 fq) z,stb s 148 [(.map<|some t)],xP t vI vI af]) (fun g=>True) (vE 17 [13,9,7,6,5,4,3,2,1,0]) ?_<|fun bT=>?_
     ·rintro g _
      refine WD.choose [8,12] U<|vY.cons ?_<|vY.cons ?_<|vY.nil
      ·refine vY.call2 (i:=8) U U U U (.inl ⟨U,fun _ _=>(wJ.wk (.s2 .h4 .h3)<|.stb (.cons U .nil)<|.same .nil)⟩) (Nt call37) (.cons .h2 .nil) (mv hz (.cons .h2 .nil) .h1 fun w pz ho=>ui a6 pz ((aB.mono<|zl.trans o).weak (fun _ _ h=>vc (zl.trans o) h)) ((aC.mono<|zl.trans o).weak (fun _ _ h=>vA (zl.trans o) h)) (aD.mono<|zl.trans o) (aE.mono<|zl.trans o) ((az.mono<|zl.trans o).weak (fun _ _ h=>ve (zl.trans o) h)) (aF.mono<|zl.trans o) ((aG.mono<|zl.trans o).weak (fun _ _ h=>vB (zl.trans o) h)) (aH.mono<|zl.trans o) aw ho) ?_
       rintro bg n _
       refine Nk (fun w hw=>Hp.vf .here hw (by intro hz';have:=aj;rw[hz'] at this;omega)) ?_
       rintro⟨c,rfl⟩
       exact Lf 10 U (xZ z5U aj.1 aj.2 wF)<|Lw (.s10 .h2 .here .here .here .here .here .here .here .here .here) (.qo U)<|bo c n g trivial
      ·refine vY.new (i:=12) (xV (cs:=D) zoM U) (fun h'=>absurd h' (by decide)) fun f _=>Lw (.s10 .h1 .here .here .here .here .here .here .here .here .here) (.qo U)<|bp f g trivial
     refine WD.choose [8,12,13] U<|vY.cons ?_<|vY.cons ?_<|vY.cons ?_<|vY.nil
     ·refine vY.call2 (i:=8) U U U U (.inl ⟨U,fun _ _=>(wJ.wk (.s2 .h3 .h2)<|.stb (.cons U .nil)<|.same .nil)⟩) (Nt call37) (.cons .h1 .nil) (mv hz (.cons .h1 .nil) .here fun w pz ho=>ui a6 pz ((aB.mono<|zl.trans o).weak (fun _ _ h=>vc (zl.trans o) h)) ((aC.mono<|zl.trans o).weak (fun _ _ h=>vA (zl.trans o) h)) (aD.mono<|zl.trans o) (aE.mono<|zl.trans o) ((az.mono<|zl.trans o).weak (fun _ _ h=>ve (zl.trans o) h)) (aF.mono<|zl.trans o) ((aG.mono<|zl.trans o).weak (fun _ _ h=>vB (zl.trans o) h)) (aH.mono<|zl.trans o) aw ho) ?_
      rintro bg n _
      refine Nk (fun w hw=>Hp.vf .here hw (by intro hz';have:=aj;rw[hz'] at this;omega)) ?_
      rintro⟨c,rfl⟩
      exact Lf 10 U (xZ z5U aj.1 aj.2 wF)<|Lw .a9 (.qo U)<|bR c n trivial
     ·refine vY.new (i:=12) (xV (cs:=D) zoM U) (fun h'=>absurd h' (by decide)) fun f _=>Lw .a9 (.qo U)<|bS f trivial
     ·refine vY.new (i:=13) (xV (cs:=[vi 0]) jc U) (fun h'=>absurd h' (by decide)) fun g _=>Lw .a9 (.qo U)<|bT g trivial
   ·rintro ap aq ar au av ⟨h,bU,bV⟩
    replace h:=(bt ap aq ar).symm.trans h
    exact D2q U<|WL.nil<|N0 ⟨bW,ap,i64 (b+1),aq,ar,au,av⟩ ⟨h,o.trans bU,bV⟩ .q<|.a8
  ·exact N2<|Ln<|Ln<|Lv<|Lp ⟨ai,ak,af,ad,z⟩ ⟨h,o,a5⟩ .q<|.s7 .here .h1 .h2 .h2 .h2 .here .h1
 ·rintro most mp wide Zn lg ⟨h,ze,hm⟩
  replace h:=(br most mp wide).symm.trans h
  obtain⟨hb,h⟩:=xI h
  obtain rfl:=oJ h
  clear h
  refine B0q<|Ox (G:=Zp) (φ:=fun Z1=>xF (Z++Zn) (Z++Z1)/\RG (Z++Z1) (tq (Z++Z1)) (jP lg) mp) (L':=fun Z1=>[fz Z1,stb q 31 A,xP B vI slv (jP lg),stb s 148 [(.map<|some t)],xP p (ga qF) vI ae,xP t vI vI wide]) (fun w hw=>?_) ?_
  ·have h1:=hw.sub (.s7 .h3 .here .here .here .here .here .here)
   obtain⟨Z1,k1,k2,k3⟩:=Hp.nZ (Pr:=fun Z=>tq Z) (fun k _ _ h=>tG k h) hz lg mp Zn hm h1
   exact⟨Z1,⟨k1,k2⟩,k3⟩
  rintro Z1 ⟨hle1,BE⟩
  refine WL.freezeC (Z:=Z) .h1 .here fun Z2 DJ hc=>WL.freezeC (Z:=Z) .h2 .here fun Z3 CC zP=>Ox (G:=Zp) (φ:=fun Z4=>xF (Z++Z3) (Z++Z4)/\ZA (Z++Z4) (xP t vI vI wide)) (L':=fun Z4=>[fz Z4,xP B vI slv (jP lg),xP p (ga qF) vI ae]) (fun w hw=>?_) ?_
  ·obtain⟨Z4,k1,k2,k3⟩:=Hp.freeze (x:=xP t vI vI wide) .h3 .here hw
   exact⟨Z4,⟨k1.app,k2.mono (xF.right _)⟩,k3⟩
  rintro Z4 ⟨BH,hW⟩
  replace BE:=BE.up (DJ.trans (CC.trans BH)) (fun _ _ h=>tG (DJ.trans (CC.trans BH)) h)
  replace hc:=hc.mono (CC.trans BH)
  replace zP:=zP.mono BH
  have hZ:xF Z (Z++Z4):=zl.trans (ze.trans (hle1.trans (DJ.trans (CC.trans BH))))
  refine Q1n U<|O8 (fun Zn ao cap cs fs=>xF (Z++Z4) (Z++Zn)/\RR 1 (tq (Z++Zn)) cs fs/\fs.Perm (mp.map<|si a wide)) (fun Zn ao cap cs fs=>[(12,vi most),(20,vs ao fs.length cap)]) (fun Zn ao cap cs fs=>[fz Zn,row (vs ao fs.length cap) 201 1 cs,xP p (ga qF) vI ae]) ?_ ?_
  ·refine B1q U<|WL.fA 81 (Ux underlying198 U .h1) ?_
   rintro rr _
   refine Q0n<|WC.block<|WC.nilRow 201 1<|Oz (fun Zn ao cap cs fs rem l' nk=>xF (Z++Z4) (Z++Zn)/\RR 1 (tq (Z++Zn)) cs fs/\RG (Z++Z4) (tq (Z++Z4)) rem l'/\(fs++l'.map (si a wide)).Perm (mp.map<|si a wide)) (fun Zn ao cap cs fs rem l' nk=>[(4,vp q),(11,vp s),(12,vi most),(20,vs ao fs.length cap),(81,vp rr)]) (fun Zn ao cap cs fs rem l' nk=>[fz Zn,row (vs ao fs.length cap) 201 1 cs,sq rr B vI slv (jP lg) rem nk,xP p (ga qF) vI ae]) (fun Zn ao cap cs fs rem l' nk=>rem.length) ⟨Z4,none,0,[],[],jP lg,mp,none⟩ ⟨xF.refl _,RR.nil _ _,BE,.refl _⟩ .q (.s4 .h2 .here .here .here) ?_
   rintro Zn ao cap cs fs rem l' nk ⟨DK,hr,hg,hp⟩
   refine B0q<|Pf U U U .h2 (fun hrem=>?_)<|fun i y m hx B8=>?_
   ·subst hrem
    cases hg
    refine Q1n U<|WC.b<|WC.cond U (fun h'=>(by cases h'))<|fun h'=>?_
    clear h'
    exact N2<|Ln<|Ln<|Lv<|Lp ⟨Zn,ao,cap,cs,fs⟩ ⟨DK,hr,by simpa using hp⟩ .q (.s3 .h1 .h1 .h1)
   ·obtain⟨x,hx1,hxl,Bn,hg'⟩:=hg.at hx
    rw[<- B8] at hg'
    have kM:rem.length=m.length+1:=by
     have h1:=(List.getElem?_eq_some_iff.1 hx).1
     rw[B8,List.length_eraseIdx,if_pos h1];omega
    have CE:=hp.length_eq
    have hgl:=hg.len
    rw[List.length_append,List.length_map,List.length_map] at CE
    refine Q1n U<|WC.b<|WC.cond U (fun h'=>?_)<|fun h'=>(by cases h')
    clear h'
    refine Np<|WC.block<|B0q<|Le 84 (Uz U .here)<|La U<|La U (Lh 21 (xV (cs:=[vi 0]) jc U) fun Eh _=>Lh 22 (xV (cs:=[vn]) zMk U) fun DN _=>Lk (xR px .h1)<|Lk (xR (vs:=[slv y.2]) zXs .h1) (WL.freezeC (Z:=Z) .h1 .h2 fun Z5 CH Cw=>WL.freezeC (Z:=Z) .h1 .here ?_))
    intro Z6 DP Cx
    replace Cw:=Cw.mono DP
    have e22:slv y.2 = .slice y.2.1.1 x.length y.2.1.2:=by unfold slv;rw[hxl]
    replace Cx:ZC (Z++Z6) ⟨DN,0,none⟩ [.slice y.2.1.1 x.length y.2.1.2]:=by rw[<- e22];exact Cx
    have tu:=DK.trans (CH.trans DP)
    refine Q0n<|Ld<|La U ?_
    let P:Value:=(.func (.func 99) #[] #[vp Eh,vp DN,vp s,vp q]);have hfd:tq (Z++Z6) [P] (si a wide (y.1,x)):=⟨99,[vp Eh,vp DN,vp s,vp q],U,call99,fun w' hz' y0 r hr=>dY (Z:=Z++Z6) (zIK:=⟨Eh,0,none⟩) (zIL:=⟨DN,0,none⟩) (zIM:=y.2.1.1) (zIN:=y.2.1.2) (zIO:=⟨s,0,none⟩) (zIP:=t) (zIQ:=⟨q,0,none⟩) (zIR:=aM) (zIS:=aN) (zIT:=aO) (zIU:=aP) (zIV:=aQ) (zIW:=aR) (zIX:=aS) (zIY:=aT) (zIZ:=aU) (zJ0:=aV) (zJ1:=aW) (zJ2:=aX) (zJ3:=aY) (zJ4:=aZ) (zJ5:=a0) (zJ6:=a1) (znC:=y0) (zcG:=y.1) (znD:=x) (zwf:=wide) (z4X:=a) (r:=r) (h:=hr) (Ny:=w') (hz:=hz') (hmW:=hW.mono tu) (zAh:=Cw) (zJ7:=((W4.of Bn).up tu (fun _ _ h=>tG tu h))) (zJ8:=Cx) (zSW:=(zP.mono tu)) (z1c5:=((aB.mono (hZ.trans tu)).weak (fun _ _ h=>vc (hZ.trans tu) h))) (z1c6:=((aC.mono (hZ.trans tu)).weak (fun _ _ h=>vA (hZ.trans tu) h))) (z1c7:=(aD.mono (hZ.trans tu))) (zSX:=(aE.mono (hZ.trans tu))) (z1c8:=((az.mono (hZ.trans tu)).weak (fun _ _ h=>ve (hZ.trans tu) h))) (z1c9:=(aF.mono (hZ.trans tu))) (z1ca:=((aG.mono (hZ.trans tu)).weak (fun _ _ h=>vB (hZ.trans tu) h))) (z1cb:=(aH.mono (hZ.trans tu))) (zSY:=(hc.mono tu))⟩
    refine Le 88 (wO<|L5 (l:=[.tmp 21,.tmp 22,.tmp 11,.tmp 4])<|.r4 U U U U)<|Lh 89 (wn (cs:=[.func (.func 99) #[] #[vp Eh,vp DN,vp s,vp q]]) ztS (Lq (l:=[.tmp 88]) (.cons U .nil) [0])) ?_
    intro b89 _
    have BF:RR 1 (tq (Z++Z6)) [P] ([si a wide (y.1,x)]:List (Int->Option Int)):=RR.one U hfd
    have AP:=hr.weak (fun _ _ h=>tG (CH.trans DP) h)
    refine WL.fA 90 (oC (l1:=fs) (l2:=([si a wide (y.1,x)]:List (Int->Option Int))) (vo:=[.func (.func 99) #[] #[vp Eh,vp DN,vp s,vp q]]) (Pr:=(tq (Z++Z6))) ztS .h3 BF (j4 .here) lE ⟨by rw[List.length_append,List.length_singleton];omega,by rw[List.length_append,List.length_singleton];omega⟩) ?_
    rintro⟨zM,n6⟩ _
    refine La U<|WL.nil<|Lt ?_
    have AO:((fs++[si a wide (y.1,x)])++(l'.eraseIdx i).map (si a wide)).Perm (mp.map (si a wide)):=by
     refine List.Perm.trans ?_ hp
     rw[List.append_assoc]
     exact List.Perm.append_left _<|(W5 hx1).map (si a wide)
    exact N0 ⟨Z6,zM,n6,cs++[.func (.func 99) #[] #[vp Eh,vp DN,vp s,vp q]],fs++[si a wide (y.1,x)],m,l'.eraseIdx i,some y⟩ ⟨tu,RR.app AP BF,hg',AO⟩ (hμ:=(by show m.length<rem.length;omega)) .q<|.s4 .h2 .here .h1 .h1
  ·rintro Zn ao cap cs fs ⟨DK,hr,hp⟩
   have kM:fs.length=(mp.map (si a wide)).length:=hp.length_eq
   refine B3q U<|La U (WL.freezeS (ls:=fs) .h1 .here hz hr fun Z7 CH h7=>Q0n<|Nz<|Li results53 (.tmp U<|.tmp U .nil)<|fun w hw=>?_)
   refine⟨Z7,ao,cap,?_,⟨fs,hp,h7.weak fun _ _ h=>tG CH h⟩,hw.sub .a2⟩
   show Ending.returned _=_
   rw[<- kM]
   exact qc
def gC(b:List (Int->Option Int)×Int)(c:zy)(d:z6)(e:Int->Option (ys×Int)):Nat->Int->Option (ys×Int)
 | 0,_=>none
 | f+1,a=>(qU b.1 (i64 (a-1))).bind fun g=>if decide ((i64 (((nth c.fK d.fQ).yp)*g))>a) then if decide ((i64 (a+1))>32768) then some ((⟨0,0,0,0⟩:ys),360) else gC b c d e f (i64 (a+1)) else e a
def gD(e:Int)(d:Int)(g:List (Int->Option Int)×Int)(b:zy)(c:z6)(h:Int->Int->Option (ys×Int)):Nat->Int->Int->Int->Option (ys×Int)
 | 0,_,_,_=>none
 | l+1,a,f,i=>if decide (a<(i64 (e+d))) then(qU g.1 a).bind fun j=>qt (fun(m:Int)=>chk ((((nth b.fK c.fQ).yp):Int)≠0) (gD e d g b c h l (i64 (a+1)) m (max i (i64 (j-(i64 (Int.tdiv (i64 ((i64 ((max (i64 (a-d)) 0)+((nth b.fK c.fQ).yp)))-1)) ((nth b.fK c.fQ).yp)))))))) fun k=>if decide (a<e) then k (max f (i64 ((i64 ((i64 (((nth b.fK c.fQ).yp)*j))-a))+d))) else k f else h f i
def uo(b:zy)(d:List (List zd))(a:z6)(e:List (z6×Int)):Option (ys×Int):=
 (f7 b d a e).bind fun c=>chk (0<=a.fQ/\a.fQ<b.fK.length) ((mc b a.ya).bind fun f=>qt (fun(g:Int)=>sm (fun(h:Int) (i:Int)=>some (({a with yl:=h,fT:=i64 (i+c.2)}:ys),0)) fun j=>gD g f c b a j xT 0 0 0) fun k=>gC c b a k xT 1)
theorem Wi{Z B H I J K L M N O P Q R S T V W ab ad f a X b g r}(h:uo a X b g=some r){Ny}(hz:Pz [xP f (ga qF) vI g] Ny Z)(ae:ZS Z 4 (kB Z) B H a.fM)(af:ZS Z 4 (g8 Z) I J a.ye)(ag:ZS Z 4 (rq kr) K L a.fS)(Y:ZS Z 4 (rq gH) M N a.fK)(ah:ZS Z 7 (g7 Z) O P a.yb)(ai:ZS Z 5 (rq gf) Q R a.fH)(aj:ZS Z 3 (g9 Z) S T a.fU)(ak:ZS Z 4 (rq gg) V W a.yf)(ap:ZS Z 1 (fm Z) ab ad X)(iF:Ho Ny [xP f (ga qF) vI g]):
  RF 25 #[.agg #[vs B a.fM.length H,vs I a.ye.length J,vs K a.fS.length L,vs M a.fK.length N,vs O a.yb.length P,vs Q a.fH.length R,vs S a.fU.length T,vs V a.yf.length W],vs ab X.length ad,.agg #[vi b.ya,vi b.fQ],.map (some f)] Ny (.tuple #[.agg #[vi r.1.ya,vi r.1.fQ,vi r.1.yl,vi r.1.fT],vi r.2]) [xP f (ga qF) vI g] [xP f (ga qF) vI g]:=by
 unfold uo at h
 refine H3 func25 U iF U<|WC.pool<|B0q (Lh 4 (we (cs:=[vs B a.fM.length H,vs I a.ye.length J,vs K a.fS.length L,vs M a.fK.length N,vs O a.yb.length P,vs Q a.fH.length R,vs S a.fU.length T,vs V a.yf.length W])) fun aL _=>Lh 6 (we (cs:=[vi b.ya,vi b.fQ])) ?_)
 intro aM _
 let A:List Value:=[vi 0,vi 0,vi 0,vi 0];refine Lh 8 (xV (cs:=A) zlY U) ?_
 intro k _
 refine Q1n U<|WC.b<|bK h fun o aq h=>Ld<|Le 19 (xN z2A (xO .h2))<|La U<|Le 21 (xN zxP (xO .h1))<|La U<|P1 U U U (Nt call53) (.cons .h4 .nil) (mv hz (.cons .h4 .nil) .h3 fun w pz ho=>al aq pz ((ae.mono<|zl).weak (fun _ _ h=>vc zl h)) ((af.mono<|zl).weak (fun _ _ h=>vA zl h)) (ag.mono<|zl) (Y.mono<|zl) ((ah.mono<|zl).weak (fun _ _ h=>ve zl h)) (ai.mono<|zl) ((aj.mono<|zl).weak (fun _ _ h=>vB zl h)) (ak.mono<|zl) ((ap.mono<|zl).weak (fun _ _ h=>qe zl h)) ho) ?_
 rintro x aG aH am
 refine WL.merge .here .h4<|Q5n U<|WC.b<|cK h fun ar h=>bK h fun p au h=>Lu nc []<|Lf 0 U (xB rI)<|Lg 1 U (Nu zdP .h4)<|Lf 2 U (xB KR)<|Lg 3 U (Nu xL .h3)<|L7 (j:=4) (Z:=(Z++([]++x))) (Pr:=(rq gH)) zj3 (Y.mono<|zl.trans (zl.trans xF.wA)) ar ?_
 rintro aN aO av aP rfl
 refine Lf 5 U (xB oD)<|Lg 6 U (xC xL U<|wt (hz.pv2 .here) av)<|Lg 7 U (xN z2A (xO .h4))<|Lf 8 U (xB V5)<|Lg 9 U (Nu xL .h3)<|L4 10 U (Nt call54) (mv hz .nil .here fun w pz ho=>iC au pz ((ae.mono<|zl.trans (zl.trans xF.wA)).weak (fun _ _ h=>vc (zl.trans (zl.trans xF.wA)) h)) ((af.mono<|zl.trans (zl.trans xF.wA)).weak (fun _ _ h=>vA (zl.trans (zl.trans xF.wA)) h)) (ag.mono<|zl.trans (zl.trans xF.wA)) (Y.mono<|zl.trans (zl.trans xF.wA)) ((ah.mono<|zl.trans (zl.trans xF.wA)).weak (fun _ _ h=>ve (zl.trans (zl.trans xF.wA)) h)) (ai.mono<|zl.trans (zl.trans xF.wA)) ((aj.mono<|zl.trans (zl.trans xF.wA)).weak (fun _ _ h=>vB (zl.trans (zl.trans xF.wA)) h))<|ak.mono<|zl.trans (zl.trans xF.wA))<|Lf 11 U q_z<|Lf 12 U q_z<|N1<|Lb<|B0q<|Le 37 (xB V5)<|Le 38 (Nu xL .h3)<|Le 39 (xB KR)<|Le 40 (Nu xL .h3)<|Le 41 (wl (v:=(.agg #[vi b.ya,vi b.fQ,vi 0,vi 0])) (Lq (l:=[.tmp 38,.tmp 40]) (.r2 U U) [0,1])) (Lh 14 (xV (cs:=A) zlY U) fun m _=>Lk (xR zj7 .here)<|Q0n<|B1n U ?_)
 obtain⟨an,aw,h⟩:=wg h
 let D:Value:=(vs aG o.1.length aH);let E:Value:=(vi ((nth a.fK b.fQ).yp));let G:List Value:=[vi b.ya,vi b.fQ,vi 0,vi 0];refine L6 (fun c=>(an c=some r)) (fun c=>[(8,vp k),(10,D),(11,vi o.2),(12,E),(13,vi p),(14,vp m),(15,vi c)]) (fun c=>[fz ([]++x),stb k 37 A,stb m 37 G,xP f (ga qF) vI g]) ?_ ?_
 ·refine WC.block<|Ng (fun y q=>(gC o a b an y q=some r)) (fun y q=>[(8,vp k),(10,D),(11,vi o.2),(12,E),(13,vi p),(14,vp m),(15,vi q)]) (fun y q=>[fz ([]++x),stb k 37 A,stb m 37 G,xP f (ga qF) vI g]) (fun y q=>y) ⟨xT,1⟩ h .q (.s4 .h1 .h2 .here .here) ?_
  rintro(_|aI) q h;·cases h
  rw[gC] at h
  refine WC.b<|WC.b<|bK h fun aQ ax h=>D4q U<|Lo 46 (Nt call55) .nil (mv hz .nil .here fun w pz ho=>ri ax pz<|am.up xF.wA<|fun _ _ h=>tG xF.wA h)<|La U<|La U<|La U<|WL.nil<|Lb<|Lj h (fun ay h=>?_)<|fun ay h=>?_
  ·refine Np<|WC.block<|B3n U<|B2n U<|Lj h (fun az h=>?_)<|fun az h=>?_
   ·exact B0q<|Le 54 (wl (v:=(.agg #[vi 0,vi 0,vi 0,vi 0])) (Lq (l:=[]) .nil []))<|Lk (xR zj7 .h1)<|Q1n U<|Nz<|Lx<|Ll<|Lx<|Ll<|oJ h▸Nn results25 (.agg U zdU U (xO .here)<|.tmp U .nil) (.cons .h3 .nil)
   ·exact N3<|Lt<|N0 ⟨aI,i64 (q+1)⟩ h .q<|.a4
  ·exact N2<|Ln<|Ln<|Lv<|Lp q h .q<|.a4
 ·rintro c h
  replace h:=(aw c).symm.trans h
  refine jK2 h fun ao aA h=>H6 (fun t u=>(ao t u=some r)) (fun t u=>[(8,vp k),(11,vi o.2),(14,vp m)]) (fun t u=>[fz ([]++x),stb k 37 A,stb m 37 [vi b.ya,vi b.fQ,vi t,vi u],xP f (ga qF) vI g]) ?_ ?_
  ·refine B4n U<|WC.block<|Cv (fun z d n e=>(gD c p o a b ao z d n e=some r)) (fun z d n e=>[(8,vp k),(10,D),(11,vi o.2),(12,E),(13,vi p),(14,vp m),(15,vi c),(57,(vi<|i64 (c+p))),(58,vi d)]) (fun z d n e=>[fz ([]++x),stb k 37 A,stb m 37 [vi b.ya,vi b.fQ,vi n,vi e],xP f (ga qF) vI g]) (fun z d n e=>z) ⟨xT,0,0,0⟩ h .q .a4 ?_
   rintro(_|aJ) d n e h;·cases h
   rw[gD] at h
   refine B1n U<|WC.b<|Lj h (fun aB h=>?_)<|fun aB h=>?_
   ·refine Np<|WC.b<|WC.block<|B2n U<|WC.b<|bK h fun aa aC h=>D2q U<|Lo 63 (Nt call55) .nil (mv hz .nil .here fun w pz ho=>ri aC pz<|am.up xF.wA<|fun _ _ h=>tG xF.wA h)<|Q1n U<|jK1 h fun aK aD h=>L6 (fun s=>(aK s=some r)) (fun s=>[(8,vp k),(10,D),(11,vi o.2),(12,E),(13,vi p),(14,vp m),(15,vi c),(16,vi d),(17,vi aa),(57,(vi<|i64 (c+p))),(58,vi d)]) (fun s=>[fz ([]++x),stb k 37 A,stb m 37 [vi b.ya,vi b.fQ,vi s,vi e],xP f (ga qF) vI g]) ?_ ?_
    ·refine B3n U<|Lj h (fun aE h=>?_)<|fun aE h=>?_
     ·let F:=(i64 ((i64 ((i64 (((nth a.fK b.fQ).yp)*aa))-d))+p));refine Ld<|Le 67 (xB dN)<|Le 68 (Nu xL .h2)<|La U<|La U<|La U<|La U<|La U<|La U<|La U<|Le 76 oQ<|Le 77 (xB dN)<|Lk (jl (ds:=[vi b.ya,vi b.fQ,(vi<|max n F),vi e]) px .h2)<|WL.nil ?_
      exact Lp (max n F) h .q<|.s4 .h1 .h1 .here .here
     ·exact N3<|Lp n h .q<|.a4
    ·rintro s h
     replace h:=(aD s).symm.trans h
     obtain⟨aF,h⟩:=xI h
     let C:=(i64 (aa-(i64 (Int.tdiv (i64 ((i64 ((max (i64 (d-p)) 0)+((nth a.fK b.fQ).yp)))-1)) ((nth a.fK b.fQ).yp)))));refine Lu (fun i=>[15].contains i) []<|Lf 0 U (xB dO)<|Lg 1 U (Nu xL .h2)<|Lf 2 U q_m<|Lf 3 U q_m<|Lf 4 U q_m<|Lf 5 U uH<|Lf 6 U oQ<|Lf 7 U q_m<|Lf 8 U uG<|Lf 9 U uH<|Lf 10 U q_m<|Lf 11 U (eH aF)<|Lf 12 U uH<|Lf 13 U oQ<|Lf 14 U (xB dO)<|Na (i:=15) U (jl (ds:=[vi b.ya,vi b.fQ,vi s,(vi<|max e C)]) px .h2)<|N1<|Lt<|Lb<|D2q U<|WL.nil ?_
     exact N0 ⟨aJ,i64 (d+1),s,max e C⟩ h .q<|.s4 .h1 .h1 .here .here
   ·exact N2<|Ln<|Ln<|Lv<|Lp ⟨n,e⟩ h .q<|.a4
  ·rintro t u h
   replace h:=(aA t u).symm.trans h
   exact B0q<|Le 94 (xB dO)<|Le 95 (Nu xL .h2)<|Q2q U<|Le 98 (xB dO)<|Lk (jl (ds:=[vi b.ya,vi b.fQ,vi t,(vi<|i64 (u+o.2))]) px .h2)<|Q0n<|B0q<|Le 99 (xN zdU (xO .here))<|Lk (xR zj7 .h2)<|Q1n U<|Nz<|oJ h▸Nn results25 (.agg U zdU U (xO .here)<|.tmp U .nil) (.cons .h3 .nil)
def wP(a:ys)(b:ys):Option Int:=
 if decide (a.ya≠b.ya) then some (i64 (a.ya-b.ya)) else some (i64 (a.fQ-b.fQ))
theorem nh{Z a b r}(h:wP a b=some r){Ny}(hz:PZ [] Ny Z):
  RC 27 #[.agg #[vi a.ya,vi a.fQ,vi a.yl,vi a.fT],.agg #[vi b.ya,vi b.fQ,vi b.yl,vi b.fT]] Ny (vi r) [] []:=by
 unfold wP at h
 refine L0 func27 U U<|B0q (Lh 2 (we (cs:=[vi a.ya,vi a.fQ,vi a.yl,vi a.fT])) fun d _=>Lh 3 (we (cs:=[vi b.ya,vi b.fQ,vi b.yl,vi b.fT])) fun e _=>Q1n U<|WC.b<|B0q<|Le 5 (xB rK)<|Le 6 (Nu xL .h1)<|Le 7 (xB rK)<|Le 8 (Nu xL .here)<|Q1n U<|Lj h (fun c h=>?_)<|fun c h=>?_)
 ·exact B0q<|Le 10 (xB rK)<|Le 11 (Nu xL .h1)<|Le 12 (xB rK)<|Le 13 (Nu xL .here)<|Q2n U<|Nz<|Ll<|oJ h▸Nm results27
 ·exact Np<|B0q<|Le 15 (xB lQ)<|Le 16 (Nu xL .h1)<|Le 17 (xB lQ)<|Le 18 (Nu xL .here)<|Q2n U<|Nz<|oJ h▸Nm results27
def kI(b:List ys×Int)(e:zy)(f:List (List zd))(g:(List ys)->Option (yM×Int)):Nat->Int->(List (z6×Int))->(List ys)->Option (yM×Int)
 | 0,_,_,_=>none
 | i+1,a,h,d=>if decide (a<b.1.length) then chk (0<=a/\a<b.1.length) ((uo e f (⟨(nth b.1 a).ya,(nth b.1 a).fQ⟩:z6) h).bind fun c=>if decide (c.2≠0) then some ((⟨([]:List ys),([]:List zw)⟩:yM),c.2) else chk (((d++([c.1]:List ys)).length:Int)*32<=140737488355328/\((d++([c.1]:List ys)).length:Int)<=4611686018427387904) (kI b e f g i (i64 (a+1)) (w7 h (⟨(nth b.1 a).ya,(nth b.1 a).fQ⟩:z6) c.1.yl) (d++([c.1]:List ys)))) else g d
def mf(b:zy)(d:Int)(c:List (List zd)):Option (yM×Int):=
 (mL b d c).bind fun a=>if decide (a.2=310) then some ((⟨([]:List ys),([]:List zw)⟩:yM),a.2) else(tT b d c).bind fun e=>if decide (e.2=350) then some ((⟨([]:List ys),([]:List zw)⟩:yM),e.2) else if decide (a.2≠0) then some ((⟨([]:List ys),([]:List zw)⟩:yM),a.2) else qt (fun(g:List ys)=>(ww g (fun y0 y1=>wP y0 y1)).bind fun f=>(sC b c f).bind fun h=>some ((⟨f,h⟩:yM),0)) fun i=>kI a b c i xT 0 ([]:List (z6×Int)) ([]:List ys)
theorem iE{Z L M N O P Q R S T V W X Y aa ab ad ae af a ag q r}(h:mf a ag q=some r){Ny}(hz:PZ [] Ny Z)(u:ZS Z 4 (kB Z) L M a.fM)(x:ZS Z 4 (g8 Z) N O a.ye)(y:ZS Z 4 (rq kr) P Q a.fS)(z:ZS Z 4 (rq gH) R S a.fK)(B:ZS Z 7 (g7 Z) T V a.yb)(E:ZS Z 5 (rq gf) W X a.fH)(F:ZS Z 3 (g9 Z) Y aa a.fU)(G:ZS Z 4 (rq gg) ab ad a.yf)(H:ZS Z 1 (fm Z) ae af q):
  Calls Tryz.prog 12 #[.agg #[vs L a.fM.length M,vs N a.ye.length O,vs P a.fS.length Q,vs R a.fK.length S,vs T a.yb.length V,vs W a.fH.length X,vs Y a.fU.length aa,vs ab a.yf.length ad],vi ag,vs ae q.length af] Ny fun e w'=>∃ ah:Option Addr,∃ ai:Nat,∃ aj:Option Addr,∃ ak:Nat,e = .returned (.tuple #[.agg #[vs ah r.1.fP.length ai,vs aj r.1.yx.length ak],vi r.2])/\True/\Hp [] Ny w' [row (vs ah r.1.fP.length ai) 37 4 (r.1.fP.flatMap jU),row (vs aj r.1.yx.length ak) 53 3 (r.1.yx.flatMap fI)]:=by
 unfold mf at h
 refine Nl func12 U U ?_
 let A:List Value:=[vs L a.fM.length M,vs N a.ye.length O,vs P a.fS.length Q,vs R a.fK.length S,vs T a.yb.length V,vs W a.fH.length X,vs Y a.fU.length aa,vs ab a.yf.length ad];refine B0q<|Lh 3 (we (cs:=A)) ?_
 intro I _
 refine Lh 6 (xV (cs:=[vn,vn]) zj4 U) fun J _=>Q1n U<|WC.b<|bK h fun c au h=>Ld<|Le 20 (xN z2A (xO .h1))<|Q2q U<|H4 U (Nt call24) .nil (cc hz .nil fun w pz ho=>Qk au pz u x y z B E F G H) ?_
 rintro aH aI _
 refine Q5n U<|WC.b<|B2n U<|Lj h (fun av h=>?_)<|fun av h=>?_
 ·exact B0q<|Le 28 (wl (v:=(.agg #[vn,vn])) (Lq (l:=[]) .nil []))<|La U<|Lk (xR z9s .h1)<|Q1n U<|Nz<|Ll<|WX.nilRow 37 4<|WX.nilRow 53 3<|oJ h▸Li results12 (.agg U z9t U (xO .h2)<|.tmp U .nil) fun w hw=>⟨none,0,none,0,qc,trivial,hw.sub (.s2 .h1 .here)⟩
 ·refine Np<|WC.b<|WC.b<|bK h fun aW aw h=>Ld<|Le 31 (xN z2A (xO .h2))<|Q2q U<|Ol U (Nt call18) .nil (cc hz .nil fun w pz ho=>Wg aw pz u x y z B E F G H) ?_
  rintro aL aM aN aO _
  refine Q2q U<|La U (Lh 10 (xV (cs:=[vn,vn]) zj4 U) fun aP _=>Lk (xR z9s .here)<|Q1n U<|B2n U<|Lj h (fun ax h=>?_)<|fun ax h=>?_)
  ·exact B0q<|Le 39 (wl (v:=(.agg #[vn,vn])) (Lq (l:=[]) .nil []))<|La U<|Lk (xR z9s .h4)<|Q1n U<|Nz<|Ll<|WX.nilRow 37 4<|WX.nilRow 53 3<|oJ h▸Li results12 (.agg U z9t U (xO .h2)<|.tmp U .nil) fun w hw=>⟨none,0,none,0,qc,trivial,hw.sub (.s2 .h1 .here)⟩
  ·refine Np<|WC.b<|B2n U<|Lj h (fun ay h=>?_)<|fun ay h=>?_
   ·exact B0q<|Le 43 (wl (v:=(.agg #[vn,vn])) (Lq (l:=[]) .nil []))<|La U<|Lk (xR z9s .h4)<|Q1n U<|Nz<|Ll<|WX.nilRow 37 4<|WX.nilRow 53 3<|oJ h▸Li results12 (.agg U z9t U (xO .h2)<|.tmp U .nil) fun w hw=>⟨none,0,none,0,qc,trivial,hw.sub (.s2 .h1 .here)⟩
   ·refine Np<|B0q (Lh 45 (kq (ga qF)<|Value.int .i64) fun al _=>Q1n U<|B0q (Lh 13 (xV (cs:=[vn,vn]) zj4 U) fun K _=>Q0n ?_))
    obtain⟨am,az,h⟩:=wg h
    let D:Value:=(vs ae q.length af);refine Ni (fun f g j=>(am f=some r)) (fun f g j=>[(2,D),(3,vp I),(6,vp J),(13,vp K)]) (fun f g j=>[stb I 31 A,stb J 40 [vn,vn],stb K 40 [vs g f.length j,vn],row (vs g f.length j) 37 4 (f.flatMap jU)]) ?_ ?_
    ·let C:Value:=(vs aH c.1.length aI);refine B1q U<|Le 47 (wc underlying33)<|Q1n U<|WC.block<|WC.nilRow 37 4<|O0 (fun s b m d n o=>(kI c a q am s b m d=some r)) (fun s b m d n o=>[(2,D),(3,vp I),(6,vp J),(12,(.map<|some al)),(13,vp K),(46,C),(47,vi (c.1.length:Int)),(48,vi b)]) (fun s b m d n o=>[row C 37 4 (c.1.flatMap jU),stb I 31 A,stb J 40 [vn,vn],xP al (ga qF) vI m,stb K 40 [vs n d.length o,vn],row (vs n d.length o) 37 4 (d.flatMap jU)]) (fun s b m d n o=>s) ⟨xT,0,([]:List (z6×Int)),([]:List ys),none,0⟩ h .q (.s6 .h6 .h7 .h6 .h2 .h1 .here) ?_
     rintro(_|aJ) b m d n o h;·cases h
     rw[kI] at h
     refine B1n U<|WC.b<|Lj h (fun aA h=>?_)<|fun aA h=>?_
     ·refine Np<|WC.b<|WC.block<|WC.b<|cK h fun t h=>Ld<|N5 (fun w hw=>Hp.vf .here hw (by intro hz';have:=t;rw[hz'] at this;omega)) ?_
      rintro⟨aQ,rfl⟩
      refine Le 50 (xZ z8F t.1 t.2 wF)<|Le 51 (wo (cs:=(jU<|nth c.1 b)) zdU<|vQ .here<|wN (enc:=jU) (l:=c.1) (i:=b) (sz:=4) t.1 t.2) (Lh 15 (xV (cs:=[vi 0,vi 0,vi 0,vi 0]) zlY U) fun aS _=>Lk (xR zj7 .here)<|Q0n<|B0q<|Le 52 (xB rK)<|Le 53 (Nu xL .here)<|Le 54 (xB lQ)<|Le 55 (Nu xL .here)<|Le 56 (wl (v:=(.agg #[(vi<|(nth c.1 b).ya),(vi<|(nth c.1 b).fQ)])) (Lq (l:=[.tmp 53,.tmp 55]) (.r2 U U) [0,1])) (Lh 16 (xV (cs:=[vi 0,vi 0]) zXn U) fun aT _=>Lk (xR zXo .here)<|Q0n<|WC.b ?_))
      refine bK h fun p aB h=>Ld<|Le 58 (xN z2A (xO .h3))<|La U<|Le 60 (xN zxP (xO .here))<|La U<|Lo 62 (Nt call25) (.cons .h5 .nil) (cc hz (.cons .h5 .nil) fun w pz ho=>Wi aB pz u x y z B E F G H ho)<|Q2q U<|La U (Lh 17 (xV (cs:=[vi 0,vi 0,vi 0,vi 0]) zlY U) fun aU _=>Lk (xR zj7 .here)<|Q1n U<|WC.b<|B2n U<|Lj h (fun aC h=>?_)<|fun aC h=>?_)
      ·exact B0q<|Le 67 (wl (v:=(.agg #[vn,vn])) (Lq (l:=[]) .nil []))<|La U<|Lk (xR z9s .h6)<|Q1n U<|Nz<|Ll<|Lx<|Ll<|Ll<|Lx<|Ll<|WX.nilRow 37 4<|WX.nilRow 53 3<|oJ h▸Li results12 (.agg U z9t U (xO .h2)<|.tmp U .nil) fun w hw=>⟨none,0,none,0,qc,trivial,hw.sub (.s2 .h1 .here)⟩
      ·refine Np<|B1q U<|Le 70 (xN zxP (xO .h2))<|Le 71 (xB dN)<|Le 72 (Nu xL .here)<|Lk (kJ (k:=(⟨(nth c.1 b).ya,(nth c.1 b).fQ⟩:z6)) (v:=p.1.yl) zCW underlying92 .h1)<|Q0n<|cK h fun aD h=>Ld<|Le 73 (xB mX)<|Le 74 (Nu z8G .h7)<|Le 75 (xN zdU (xO .h1)) (Lh 76 (wn (cs:=([p.1]:List ys).flatMap jU) z8F (Lq (l:=[.tmp 75]) (.cons U .nil) [0])) fun aV _=>WL.fA 77 (jN (enc:=jU) (l1:=d) (l2:=([p.1]:List ys)) z8F (.there<|.there .h7) (j4 .here) (kZ W6) aD) ?_)
       rintro⟨an,ao⟩ _
       exact Le 78 (xB mX)<|Lk (jl (ds:=[vs an ((d++([p.1]:List ys)).length) ao,vn]) zMe (.there<|.there .h7))<|WL.nil<|Lt<|Lb<|D2q U<|WL.nil<|N0 ⟨aJ,i64 (b+1),w7 m (⟨(nth c.1 b).ya,(nth c.1 b).fQ⟩:z6) p.1.yl,d++([p.1]:List ys),an,ao⟩ h .q<|.s6 .h7 .h7 .h7 .h3 .here .here
     ·exact N2<|Ln<|Ln<|Lv<|Lp ⟨d,n,o⟩ h .q<|.s4 .h1 .h1 .h2 .h2
    ·rintro f g j h
     replace h:=(az f).symm.trans h
     refine WC.b<|bK h fun ap aE h=>Ld<|Le 80 (xB mX)<|Le 81 (Nu z8G .h2)<|Nc U (Nt call26) (.cons .h3 .nil) (cc hz (.cons .h3 .nil) fun w pz ho=>f0 (znt:=27) (zw6:=[]) (zns:=(fun y0 y1=>wP y0 y1)) aE pz call27 (fun w' hz' y0 y1  r  hr=>nh hr hz' ) ho) ?_
     rintro  aF
     refine H5 (cs':=[vs g ap.length j,vn]) .h3 (by rw[aF])<|Q0n<|WC.b<|bK h fun aK aG h=>Ld<|Le 83 (xN z2A (xO .h2))<|La U<|Le 85 (xB mX)<|Le 86 (Nu z8G .here)<|H4 U (Nt call28) .nil (uB hz .nil (.cons .h1 .nil) fun w pz ho la=>aR aG pz ((u.mono<|zl).weak (fun _ _ h=>vc zl h)) ((x.mono<|zl).weak (fun _ _ h=>vA zl h)) (y.mono<|zl) (z.mono<|zl) ((B.mono<|zl).weak (fun _ _ h=>ve zl h)) (E.mono<|zl) ((F.mono<|zl).weak (fun _ _ h=>vB zl h)) (G.mono<|zl) ((H.mono<|zl).weak (fun _ _ h=>qe zl h))<|ZA.row (la _ (.head _) _) (RR.flat (enc:=jU)) ⟨w,pz.1⟩) ?_
     rintro aq ar _
     exact Le 88 (xB oE)<|Lk (jl (ds:=[vs g ap.length j,vs aq aK.length ar]) zMf .h1)<|Q0n<|B0q<|Le 89 (xN z9t (xO .here))<|Lk (xR z9s .h4)<|Q1n U<|Nz<|oJ h▸Li results12 (.agg U z9t U (xO .here)<|.tmp U .nil) fun w hw=>⟨g,j,aq,ar,qc,trivial,hw.sub (.s2 .h3 .h2)⟩
def jT(a:List ys):Option (List ys):=
 some a
theorem tU{Z a b c r}(h:jT c=some r){Ny}(hz:PZ [] Ny Z)(i:ZS Z 4 (rq jU) a b c):
  Calls Tryz.prog 70 #[vs a c.length b] Ny fun e w'=>∃ d:Nat,∃ f:Option Addr,∃ g:Nat,e = .returned (.func (.func 113) #[] #[vp d])/\(ZS Z 4 (rq jU) f g r)/\Hp [] Ny w' [stb d 33 [vs f r.length g]]:=by
 unfold jT at h
 refine Nb func70 U U<|B0q (Lh 1 (we (cs:=[vs a c.length b])) fun j _=>Q1n U<|B0q<|Le 3 (wO<|L5 (l:=[.tmp 1])<|.cons U .nil)<|Q1n U<|Nz ?_)
 exact oJ h▸Li results70 (.tmp U .nil) fun w hw=>⟨j,a,b,w3,i,hw.sub (.cons .here .nil)⟩
def vm(z2P:Type)(z54:List ys)(zcJ:(Int×ys)->z2P->Option (Bool×z2P))(c:z2P->Option z2P):Nat->Int->z2P->Option z2P
 | 0,_,_=>none
 | e+1,a,d=>if decide (a>=0) then chk (0<=a/\a<z54.length) ((zcJ (a,(⟨(nth z54 a).ya,(nth z54 a).fQ,(nth z54 a).yl,(nth z54 a).fT⟩:ys)) d).bind fun b=>if !b.1 then some b.2 else vm z2P z54 zcJ c e (i64 (a-1)) b.2) else c d
def jE(z2P:Type)(zcJ:(Int×ys)->z2P->Option (Bool×z2P))(zf6:z2P)(z54:List ys):Option z2P:=
 qt (fun(a:z2P)=>some a) fun b=>vm z2P z54 zcJ b xT (i64 ((z54.length:Int)-1)) zf6
theorem tk{Z}(z2P:Type)(zB3)(zl9:Type)(zcK)(zrL:zl9->z2P->Prop)(znP zB4 zJX zJY zcJ zf6 z54 r){Ny}(hz:Pz [zcK znP zf6] Ny Z)(t:aD Tryz.prog Z zB3 (α:=Int×ys) (σ:=z2P) (G:=zl9) (H:=Unit) (fun h x=>[vi x.1,.agg #[vi x.2.ya,vi x.2.fQ,vi x.2.yl,vi x.2.fT]]) (fun h x=>[]) zcJ zcK zrL)(u:zrL znP zf6)(v:ZS Z 4 (rq jU) zJX zJY z54)(l:ZC Z zB4 [vs zJX z54.length zJY])(h:jE z2P zcJ zf6 z54=some r)(iF:Ho Ny [zcK znP zf6]):
  Calls Tryz.prog 113 #[.func (.yield zB3) #[] #[],vq zB4] Ny fun e w'=>∃ m:zl9,e = .returned (.tuple #[])/\(zrL m r)/\Hp (fps [zcK znP zf6]) Ny w' [zcK m r]:=by
 unfold jE at h
 refine Nj func113 U iF U<|B0q<|Le 4 (xC z8G U<|kz hz.pv l)<|Le 5 (wc underlying33)<|Q2n U<|jK1 h fun n y h=>Oy (fun f i=>(n f=some r)/\(zrL i f)) (fun f i=>[]) (fun f i=>[zcK i f]) ?_ ?_
 ·refine WC.block<|Cv (fun j a c d=>(vm z2P z54 zcJ n j a c=some r)/\(zrL d c)) (fun j a c d=>[(0,.func (.yield zB3) #[] #[]),(1,vq zB4),(3,vi a)]) (fun j a c d=>[zcK d c]) (fun j a c d=>j) ⟨xT,i64 ((z54.length:Int)-1),zf6,znP⟩ ⟨h,u⟩ .q (.cons .here .nil) ?_
  rintro (_|F) a c d ⟨h,o⟩;·cases h
  rw[vm] at h
  refine WC.b<|B2n U<|Lj h (fun z h=>?_)<|fun z h=>?_
  ·refine Np<|WC.b<|WC.block<|WC.b<|cK h fun A h=>bK h fun k B h=>D2q U<|Le 13 (xC z8G U<|kz hz.pv l)<|La U<|L2 (Z:=Z) (Pr:=(rq jU)) z8F v A ?_
   rintro I J C K rfl
   refine Le 16 (xN zdU (qB hz.pv C)) (H8 (x:=(a,(⟨(nth z54 a).ya,(nth z54 a).fQ,(nth z54 a).yl,(nth z54 a).fT⟩:ys))) (h:=()) (g:=d) (s:=c) (b:=k.1) (s':=k.2) t U .q ((.cons .here .nil):Sel _ [zcK d c] _) B o (fun w hw=>hz.call hw ((.cons .here .nil):Sel _ [zcK d c] _)) fun p q=>Q1n U<|Lj h (fun D h=>?_)<|fun D h=>?_)
   ·exact Nz<|Lx<|Ll<|Ll<|Lx<|Ll<|oJ h▸Li results113 .nil fun w hw=>⟨p,ms,q,hw.sub (.cons .here .nil)⟩
   ·exact N3<|Lt<|Lb<|D3q U<|WL.nil<|N0 ⟨F,i64 (a-1),k.2,p⟩ ⟨h,q⟩ .q<|.cons .here .nil
  ·exact N2<|Ln<|Ln<|Lv<|Lp ⟨c,d⟩ ⟨h,o⟩ .nil<|.cons .here .nil
 ·rintro f i ⟨h,E⟩
  replace h:=(y f).symm.trans h
  exact oJ h▸Nh results113 .nil fun w hw=>⟨i,ms,E,hw.sub (.cons .here .nil)⟩
def th(a:Int×ys)(b:List (z6×Int)):Option (Bool×(Nat×(List (z6×Int)))):=
 some (true,(0,w7 b (⟨a.2.ya,a.2.fQ⟩:z6) a.2.yl))
def oz(a:List ys):Option (List (z6×Int)):=
 qt (fun(b:List (z6×Int))=>some b) fun c=>(jT a).bind fun d=>(jE (Nat×(List (z6×Int))) (fun(x:Int×ys) (s:Nat×(List (z6×Int)))=>chk (s.1=0) (th x s.2)) (0,([]:List (z6×Int))) d).bind fun e=>c e.2
theorem Xx{Z u y q r}(h:oz q=some r){Ny}(hz:PZ [] Ny Z)(L:ZS Z 4 (rq jU) u y q):
  Calls Tryz.prog 36 #[vs u q.length y] Ny fun e w'=>∃ F:Nat,e = .returned (.map (some F))/\True/\Hp [] Ny w' [xP F (ga qF) vI r]:=by
 unfold oz at h
 let C:Value:=(vs u q.length y);refine Of (vs:=[C]) (pre:=[]) (env:=[(0,C)]) func36 U ntmps36 U (Hp.nil Ny _) U ?_
 refine B1n U<|B0q (Lh 6 (kq (ga qF)<|Value.int .i64) fun a _=>Lh 3 (xV (cs:=[.map none]) zXt U) fun b _=>Lk (xR zXu .here)<|Q0n ?_)
 refine jK1 h fun W M h=>Rq (fun p o=>(W o=some r)) (fun p o=>[(3,vp b)]) (fun p o=>[stb b 92 [(.map<|some a)],xP a (ga qF) vI o,kp p]) ?_ ?_
 ·refine WC.b<|bK h fun H N h=>D1q U<|P1 U U U (Nt call70) .nil (cc hz .nil fun w pz ho=>tU N pz L) ?_
  rintro c I J O
  refine Q0n<|WC.block<|WC.drop (.s3 .h1 .h1 .here)<|H7 (f:=113) (caps:=[vp c]) U call113 ?_
  intro X Y d j i z P Q w hw
  have hw1:=hw.selAll ((.s3 .h2 .h2 .here):Sel _ [stb b 92 [.map (some a)],xP a (ga qF) vI ([]:List (z6×Int)),wq d (i .ready none)] _)
  let A:List Value:=[vs I H.length J];have pz:=(hz.call hw1 ((.cons .here .nil):Sel [qv [stb b 92 [.map (some a)],xP a (ga qF) vI ([]:List (z6×Int)),wq d (i .ready none)],kp j,stb c 33 A] [qv [stb b 92 [.map (some a)],xP a (ga qF) vI ([]:List (z6×Int)),wq d (i .ready none)]] [kp j,stb c 33 A])).lend hw1 ((.cons .here .nil):Sel [qv [stb b 92 [.map (some a)],xP a (ga qF) vI ([]:List (z6×Int)),wq d (i .ready none)],kp j,stb c 33 A] [qv [stb b 92 [.map (some a)],xP a (ga qF) vI ([]:List (z6×Int)),wq d (i .ready none)]] [kp j,stb c 33 A]) (B:=[stb c 33 A]) (fun _ hx'=>((.cons .h1 .nil):Sel _ [stb c 33 A] _).mem hx')
  refine bK h fun n R h=>Calls.mono (tk (zB3:=d) (zl9:=Unit) (zcK:=(fun(g:Unit) (s:Nat×(List (z6×Int)))=>qv ([stb b 92 [(.map<|some a)],xP a (ga qF) vI s.2]++[wq d (i (rW<|uk [] s.1)<|uk [] s.1)]))) (zrL:=(fun(g:Unit) (s:Nat×(List (z6×Int)))=>True)) (znP:=()) (zB4:=⟨c,0,none⟩) (zJX:=I) (zJY:=J) (z2P:=(Nat×(List (z6×Int)))) (zcJ:=(fun(x:Int×ys) (s:Nat×(List (z6×Int)))=>chk (s.1=0)<|th x s.2)) (zf6:=(0,([]:List (z6×Int)))) (z54:=H) (r:=n) pz ?_ trivial (O.mono<|zl) ((hw1.lent ((.cons .here .nil):Sel [qv [stb b 92 [(.map<|some a)],xP a (ga qF) vI ([]:List (z6×Int)),wq d (i .ready none)],kp j,stb c 33 A] [qv [stb b 92 [(.map<|some a)],xP a (ga qF) vI ([]:List (z6×Int)),wq d (i .ready none)]] [kp j,stb c 33 A]) (B:=[stb c 33 A]) (fun _ hx'=>((.cons .h1 .nil):Sel _ [stb c 33 A] _).mem hx') (.head _) _).stb) R<|hw1.owns ((.cons .here .nil):Sel [qv [stb b 92 [(.map<|some a)],xP a (ga qF) vI ([]:List (z6×Int)),wq d (i .ready none)],kp j,stb c 33 A] [qv [stb b 92 [(.map<|some a)],xP a (ga qF) vI ([]:List (z6×Int)),wq d (i .ready none)]] [kp j,stb c 33 A])) ?_
  ·refine bQ (LI:=(fun(g:Unit) (s:Nat×(List (z6×Int)))=>[stb b 92 [(.map<|some a)],xP a (ga qF) vI s.2])) (pc:=(fun(s:Nat×(List (z6×Int)))=>uk [] s.1)) z P Q ?_
   rintro m _ _ ⟨S,E⟩ T V Fb wb K _ hz
   replace hz:=hz.left
   letI:Rnd:=bP d
   obtain⟨Af,t⟩:=xI K
   replace Af:S=0:=Af;subst Af;clear K
   replace t:th m E=some (T,V):=t
   unfold th at t
   refine WC.restr (env':=[(3,vp b),(9,vi m.1),(10,.agg #[vi m.2.ya,vi m.2.fQ,vi m.2.yl,vi m.2.fT])]) (.qo U)<|Ov (L':=[stb b 92 [(.map<|some a)],xP a (ga qF) vI E,wq d (i .ready none)]) U<|Ld (Lh 5 (xV (cs:=[vi 0,vi 0,vi 0,vi 0]) zlY U) fun aa _=>Lk (xR zj7 .here)<|WL.nil<|Oc z .h3<|WC.block<|Ld<|Le 11 (Nu zMl .h2)<|Le 12 (xB rK)<|Le 13 (Nu xL .h1)<|Le 14 (xB lQ)<|Le 15 (Nu xL .h1)<|Le 16 (wl (v:=(.agg #[vi m.2.ya,vi m.2.fQ])) (Lq (l:=[.tmp 13,.tmp 15]) (.r2 U U) [0,1]))<|Le 17 (xB dN)<|Le 18 (Nu xL .h1)<|Lk (kJ (k:=(⟨m.2.ya,m.2.fQ⟩:z6)) (v:=m.2.yl) zCW underlying92 .h3)<|WL.nil<|Lt ?_)
   obtain⟨rfl,rfl⟩:=cM t
   exact Oj z .h1<|fun w' oL=>⟨(),U,trivial,(oL.selAll ((.s3 .h3 .h1 .here):Sel _ [stb b 92 [(.map<|some a)],xP a (ga qF) vI (w7 E (⟨m.2.ya,m.2.fQ⟩:z6) m.2.yl),wq d (i .ready none)] _)).sub (.cons .here .nil)⟩
  ·rintro _ w' ⟨_,rfl,_,hp⟩
   have zz:=hw1.call ((.cons .here .nil):Sel [qv [stb b 92 [.map (some a)],xP a (ga qF) vI ([]:List (z6×Int)),wq d (i .ready none)],kp j,stb c 33 A] [qv [stb b 92 [.map (some a)],xP a (ga qF) vI ([]:List (z6×Int)),wq d (i .ready none)]] [kp j,stb c 33 A]) hp
   have AO:Hp _ _ w' [stb b 92 [.map (some a)],xP a (ga qF) vI n.2,wq d (i (rW (uk [] n.1)) (uk [] n.1)),kp j,stb c 33 A]:=zz.pickAll .here
   refine⟨_,uk [] n.1,_,U,AO.sub ((.s5 .h2 .here .here .here .here):Sel _ [wq d (i (rW (uk [] n.1)) (uk [] n.1)),stb b 92 [.map (some a)],xP a (ga qF) vI n.2,kp j,stb c 33 A] _),?_⟩
   clear hp zz AO pz hw hw1
   refine wjN ?_
   letI:Rnd:=tn j
   exact Lt<|Oi (D:=fun(g:Nat×(List (z6×Int)))=>g.1) (G:=Nat×(List (z6×Int))) ⟨j,n.2⟩ h (.cons U .nil)<|.a3
 ·rintro p o h
  replace h:=(M o).symm.trans h
  letI:Rnd:=tn p
  refine B0q<|Le 19 (Nu zMl .here)<|Q1n U<|Nz ?_
  obtain rfl:=oJ h
  exact Ok .h2 results36 (.tmp U .nil)<|fun w hw=>⟨a,w3,trivial,hw.sub (.cons .h2 .nil)⟩
def mg(b:List (List zd))(e:zy)(f:(List (z6×Int)))(g:(List (List Int))->Option (List (List Int))):Nat->(List (List Int))->Int->Option (List (List Int))
 | 0,_,_=>none
 | h+1,c,a=>if decide (a<b.length) then chk (0<=a/\a<b.length) ((md e (nth b a) f).bind fun d=>chk ((((c++([d]:List (List Int))).length:Nat):Int)*24<=140737488355328/\(((c++([d]:List (List Int))).length:Nat):Int)<=4611686018427387904) (mg b e f g h (c++([d]:List (List Int))) (i64 (a+1)))) else g c
def pF(a:zy)(b:List (List zd))(c:List ys):Option (List (List Int)):=
 (gc a 0 b).bind fun d=>(if !d then(gc a 1 b).bind fun e=>some (!e) else some false).bind fun f=>if f then some ([]:List (List Int)) else(oz c).bind fun g=>qt (fun(h:List (List Int))=>some h) fun i=>mg b a g i xT ([]:List (List Int)) 0
theorem aS{Z x y z D E F G H I J K L M N O P Q R af ag a o S r}(h:pF a o S=some r){Ny}(hz:PZ [] Ny Z)(T:ZS Z 4 (kB Z) x y a.fM)(V:ZS Z 4 (g8 Z) z D a.ye)(W:ZS Z 4 (rq kr) E F a.fS)(X:ZS Z 4 (rq gH) G H a.fK)(Y:ZS Z 7 (g7 Z) I J a.yb)(aa:ZS Z 5 (rq gf) K L a.fH)(ab:ZS Z 3 (g9 Z) M N a.fU)(ad:ZS Z 4 (rq gg) O P a.yf)(ae:ZS Z 1 (fm Z) Q R o)(aw:ZS Z 4 (rq jU) af ag S):
  Calls Tryz.prog 14 #[.agg #[vs x a.fM.length y,vs z a.ye.length D,vs E a.fS.length F,vs G a.fK.length H,vs I a.yb.length J,vs K a.fH.length L,vs M a.fU.length N,vs O a.yf.length P],vs Q o.length R,vs af S.length ag] Ny fun e w'=>∃ Zn:Zp,∃ ah:Option Addr,∃ ai:Nat,∃ aj:List Value,e = .returned (vs ah r.length ai)/\(RR 1 (aL (Z++Zn)) aj r)/\Hp [] Ny w' [fz Zn,row (vs ah r.length ai) 50 1 aj]:=by
 unfold pF at h
 refine Nl func14 U U ?_
 let A:List Value:=[vs x a.fM.length y,vs z a.ye.length D,vs E a.fS.length F,vs G a.fK.length H,vs I a.yb.length J,vs K a.fH.length L,vs M a.fU.length N,vs O a.yf.length P];refine WC.pool<|B0q<|Lh 3 (we (cs:=A)) ?_
 intro ak _
 refine Q1n U<|WC.b<|WC.b<|bK h fun aZ ax h=>bK h fun aP al h=>Ld<|Le 11 (xN z2A (xO .here))<|La U<|Lo 13 (Nt call22) .nil (mv hz .nil .h1 fun w pz ho=>tK ax pz ((T.mono<|zl).weak (fun _ _ h=>vc zl h)) ((V.mono<|zl).weak (fun _ _ h=>vA zl h)) (W.mono<|zl) (X.mono<|zl) ((Y.mono<|zl).weak (fun _ _ h=>ve zl h)) (aa.mono<|zl) ((ab.mono<|zl).weak (fun _ _ h=>vB zl h)) (ad.mono<|zl)<|(ae.mono<|zl).weak (fun _ _ h=>qe zl h))<|Q2q U<|Ly true 4 15 (B:=aP) (hB:=(fun h=>(oJ<|jv al h).symm)) (fun _ ay=>?_) ?_
 ·have u:=ju al ay
  obtain⟨a0,az,u⟩:=za u
  replace u:=oJ u
  exact Le 16 (xN z2A (xO .here))<|La U<|Lo 18 (Nt call22) .nil (mv hz .nil .h1 fun w pz ho=>tK az pz ((T.mono<|zl).weak (fun _ _ h=>vc zl h)) ((V.mono<|zl).weak (fun _ _ h=>vA zl h)) (W.mono<|zl) (X.mono<|zl) ((Y.mono<|zl).weak (fun _ _ h=>ve zl h)) (aa.mono<|zl) ((ab.mono<|zl).weak (fun _ _ h=>vB zl h)) (ad.mono<|zl)<|(ae.mono<|zl).weak (fun _ _ h=>qe zl h))<|Q2q U<|Lz u U .all
 refine Q0n<|Lj h (fun aA h=>?_)<|fun aA h=>?_
 ·exact B1n U<|Nz<|Ll<|WX.nilRow 50 1<|oJ h▸Li results14 (.tmp U .nil) fun w hw=>⟨[],none,0,[],w3,RR.nil _ _,hw.sub (.s2 .h2 .here)⟩
 ·refine Np<|WC.b<|bK h fun am aB h=>D1q U<|Pg U U U (Nt call36) .nil (mv hz .nil .h1 fun w pz ho=>Xx aB pz<|aw.mono<|zl) ?_
  rintro an _
  refine Q1n U<|B1n U<|jK1 h fun ao aC h=>O8 (fun g i p q s=>(ao g=some r)/\(xF (Z++[]) (Z++i))/\(RR 1 (aL (Z++i)) s g)) (fun g i p q s=>[(8,vs p g.length q)]) (fun g i p q s=>[fz i,row (vs p g.length q) 50 1 s]) ?_ ?_
  ·refine B1q U<|Le 24 (wc underlying32)<|Q1n U<|WC.block<|WC.nilRow 50 1<|Pq (fun t c j d k m f=>(mg o a am ao t c j=some r)/\(xF (Z++[]) (Z++d))/\(RR 1 (aL (Z++d)) f c)) (fun t c j d k m f=>[(3,vp ak),(7,(.map<|some an)),(8,vs k c.length m),(23,vs Q o.length R),(24,vi (o.length:Int)),(25,vi j)]) (fun t c j d k m f=>[fz d,row (vs k c.length m) 50 1 f,stb ak 31 A,xP an (ga qF) vI am]) (fun t c j d k m f=>t) ⟨xT,([]:List (List Int)),0,[],none,0,[]⟩ ⟨h,xF.refl _,RR.nil _ _⟩ .q (.s4 .h3 .here .h1 .here) ?_
   rintro (_|aQ) c j d k m f ⟨h,b,ap⟩;·cases h
   rw[mg] at h
   refine B1n U<|WC.b<|Lj h (fun aD h=>?_)<|fun aD h=>?_
   ·refine Np<|WC.b<|WC.block<|WC.b<|cK h fun aE h=>Ld<|L2 (Z:=(Z++d)) (Pr:=(fm (Z++d))) zc4 ((ae.mono<|zl.trans b).weak (fun _ _ h=>qe (zl.trans b) h)) aE ?_
    rintro aR aT aF aU ⟨aV,aW,rfl,aG⟩
    refine Le 28 (xC zb5 U<|kz (hz.pv2 .here) aF)<|Q1n U<|bK h fun n aH h=>cK h fun aI h=>D1q U<|Le 30 (xN z2A (xO .h2))<|Q2q U<|H4 U (Nt call37) (.cons .h3 .nil) (mv hz (.cons .h3 .nil) .here fun w pz ho=>ui aH pz ((T.mono<|zl.trans b).weak (fun _ _ h=>vc (zl.trans b) h)) ((V.mono<|zl.trans b).weak (fun _ _ h=>vA (zl.trans b) h)) (W.mono<|zl.trans b) (X.mono<|zl.trans b) ((Y.mono<|zl.trans b).weak (fun _ _ h=>ve (zl.trans b) h)) (aa.mono<|zl.trans b) ((ab.mono<|zl.trans b).weak (fun _ _ h=>vB (zl.trans b) h)) (ad.mono<|zl.trans b) aG ho) ?_
    rintro aq ar _
    refine WL.freezeS (ls:=n) .here .h1 hz (RR.flat (enc:=e3)) ?_
    intro v au aJ
    let C:List Value:=[vs aq n.length ar];have av:RR 1 (aL (Z++v)) C ([n]:List (List Int)):=(RR.cons (r:=C) U (show aL _ _ _ from⟨_,_,U,aJ⟩) (RR.nil _ _))
    refine Lh 34 (wn (cs:=[vs aq n.length ar]) zCX (Lq (l:=[.tmp 33]) (.cons U .nil) [0])) ?_
    intro aX _
    have aK:RR 1 (aL (Z++v)) (f++C) (c++([n]:List (List Int))):=RR.app (ap.weak (fun _ _ h=>QY au h)) av
    refine WL.fA 35 (oC (l1:=c) (l2:=([n]:List (List Int))) (vo:=C) (Pr:=(aL (Z++v))) zCX .h3 av (j4 .here) lE aI) ?_
    rintro⟨aM,aN⟩ _
    exact La U<|WL.nil<|Lt<|Lb<|D2q U<|WL.nil<|N0 ⟨aQ,c++([n]:List (List Int)),i64 (j+1),v,aM,aN,f++C⟩ ⟨h,b.trans au,aK⟩ .q<|.s4 .h2 .here .h2 .h1
   ·exact N2<|Ln<|Ln<|Lv<|Lp ⟨c,d,k,m,f⟩ ⟨h,b,ap⟩ (.cons U .nil)<|.a2
  ·rintro g i p q s ⟨h,aY,aO⟩
   replace h:=(aC g).symm.trans h
   exact B2n U<|Nz<|oJ h▸Li results14 (.tmp U .nil) fun w hw=>⟨i,p,q,s,w3,aO,hw.sub .a2⟩
end Go.Proofs.YthjnhebofpebpaaGreat
