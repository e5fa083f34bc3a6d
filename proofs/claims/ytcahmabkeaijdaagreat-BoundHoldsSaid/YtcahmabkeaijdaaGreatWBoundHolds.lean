/- A part of this claim's proof: models of functions, walks, plain laws. No conditions. -/
import Derived.Test.YtcahmabkeaijdaaGreatW35xi
set_option linter.all false
namespace Go.Proofs.YtcahmabkeaijdaaGreat
open Go Go.RowKit Sep Tryz
set_option maxRecDepth 30000
set_option maxHeartbeats 4000000
def ki(b:yM×Int)(c:(List (yI×Int))->Option Bool):Nat->Int->(List (yI×Int))->Option Bool
 | 0,_,_=>none
 | e+1,a,d=>if decide (a<b.1.yv.length) then chk (0<=a/\a<b.1.yv.length) (ki b c e (i64 (a+1)) (w4 d (⟨(nth b.1.yv a).yq,(nth b.1.yv a).ya⟩:yI) ((nth b.1.yv a).yl))) else c d
def kj(b:List yh×List yh×Int)(c:List yB)(d:List (yI×Int))(e:Option Bool):Nat->Int->Option Bool
 | 0,_=>none
 | f+1,a=>if decide (a<b.1.length) then chk (0<=a/\a<b.1.length) (chk (0<=((nth b.1 a).yc)/\((nth b.1 a).yc)<c.length) (chk ((!(wK d (⟨(nth c ((nth b.1 a).yc)).yq,(nth b.1 a).ya⟩:yI)))=false->(0<=((nth b.1 a).yc)/\((nth b.1 a).yc)<c.length)) (if (!(wK d (⟨(nth c ((nth b.1 a).yc)).yq,(nth b.1 a).ya⟩:yI)))||(decide ((i64 (((nth b.1 a).yb)-((nth c ((nth b.1 a).yc)).yb)))>(xC d (⟨(nth c ((nth b.1 a).yc)).yq,(nth b.1 a).ya⟩:yI) 0))) then some false else kj b c d e f (i64 (a+1))))) else e
def km(b:yM×Int)(zg:zV)(d:(List yu)->Option Bool):Nat->Int->(List yu)->Option Bool
 | 0,_,_=>none
 | f+1,a,c=>if decide (a<b.1.fP.length) then qP (fun(g:List yu)=>km b zg d f (i64 (a+1)) g) fun e=>chk (0<=a/\a<b.1.fP.length) (if (decide ((i64 (((nth b.1.fP a).ya)-(zg.fM.length:Int)))>=0))&&(decide ((i64 (((nth b.1.fP a).ya)-(zg.fM.length:Int)))<c.length)) then chk (0<=(i64 (((nth b.1.fP a).ya)-(zg.fM.length:Int)))/\(i64 (((nth b.1.fP a).ya)-(zg.fM.length:Int)))<c.length) (e (c.set ((i64 (((nth b.1.fP a).ya)-(zg.fM.length:Int))):Int).toNat ({(nth c (i64 (((nth b.1.fP a).ya)-(zg.fM.length:Int)))) with fT:=max ((nth c (i64 (((nth b.1.fP a).ya)-(zg.fM.length:Int)))).fT) ((nth b.1.fP a).fT)}:yu))) else e c) else d c
def kn(b:List yh×List yh×Int)(c:List yB)(d:List (yI×Int))(e:Option Bool):Nat->Int->Option Bool
 | 0,_=>none
 | f+1,a=>if decide (a<b.1.length) then chk (0<=a/\a<b.1.length) (chk (0<=((nth b.1 a).yc)/\((nth b.1 a).yc)<c.length) (if decide ((i64 (((nth b.1 a).yb)-((nth c ((nth b.1 a).yc)).yb)))>(xC d (⟨(nth c ((nth b.1 a).yc)).yq,(nth b.1 a).ya⟩:yI) 0)) then some false else kn b c d e f (i64 (a+1)))) else e
def tQ(zg:zV)(z7Z:Int)(z6A:List (List zb))(zqB:List Int)(zqC:List Int)(zqD:List Int):Option Bool:=
 (pZ zg z6A).bind fun f=>if !f then(uj).bind fun g=>some g else(ub zg z7Z z6A).bind fun c=>if decide (c.2≠0) then(uj).bind fun h=>some h else(tO zg zqB zqC zqD).bind fun a=>(my zg z7Z z6A a).bind fun d=>if decide (d.2.2≠0) then(if decide (d.2.2=311) then(uj).bind fun i=>some i else some false).bind fun j=>some j else qP (fun(e:List (yI×Int))=>uB (chk (((([]:List yu)++zg.fS).length:Int)*40<=140737488355328/\((([]:List yu)++zg.fS).length:Int)<=4611686018427387904) (qP (fun(k:List yu)=>(my ({zg with fS:=k}:zV) z7Z z6A a).bind fun b=>if (decide (b.2.2≠0))||(decide ((b.2.1.length:Int)≠0)) then some false else uB ((uj).bind fun l=>some l) fun m=>kn b a e m xR 0) fun n=>km c zg n xR 0 (([]:List yu)++zg.fS))) fun o=>kj d a e o xR 0) fun p=>ki c p xR 0 ([]:List (yI×Int))
theorem Yc(Z z80 z81 z82 z83 zdF zdG z84 z85 z86 z87 z88 z89 z8a z8b z8c z8d zbY zbZ zFk zFl zFm zFn zFo zFp zg z7Z z6A zqB zqC zqD r)(h:tQ zg z7Z z6A zqB zqC zqD=some r){Nv}(hz:PZ [] Nv Z)(af:ZS Z 4 (gk Z) z80 z81 zg.fM)(ag:ZS Z 4 (fJ Z) z82 z83 zg.yf)(ah:ZS Z 4 (rq kT) zdF zdG zg.fS)(ai:ZS Z 4 (rq mM) z84 z85 zg.fK)(aj:ZS Z 7 (f0 Z) z86 z87 zg.yg)(ak:ZS Z 5 (rq mb) z88 z89 zg.fH)(al:ZS Z 3 (fO Z) z8a z8b zg.fU)(am:ZS Z 4 (rq mc) z8c z8d zg.ye)(az:ZS Z 1 (mN Z) zbY zbZ z6A)(aP:ZS Z 1 (rq e5) zFk zFl zqB)(aQ:ZS Z 1 (rq e5) zFm zFn zqC)(aR:ZS Z 1 (rq V5) zFo zFp zqD):
  RC 7 #[.agg #[vs z80 zg.fM.length z81,vs z82 zg.yf.length z83,vs zdF zg.fS.length zdG,vs z84 zg.fK.length z85,vs z86 zg.yg.length z87,vs z88 zg.fH.length z89,vs z8a zg.fU.length z8b,vs z8c zg.ye.length z8d],vi z7Z,vs zbY z6A.length zbZ,vs zFk zqB.length zFl,vs zFm zqC.length zFn,vs zFo zqD.length zFp] Nv (.bool r) [] []:=by
 unfold tQ at h
 refine Oy func7 U U ?_
 let K:Value:=(vs z80 zg.fM.length z81);let L:Value:=(vs z82 zg.yf.length z83);let M:Value:=(vs z84 zg.fK.length z85);let N:Value:=(vs z86 zg.yg.length z87);let O:Value:=(vs z88 zg.fH.length z89);let P:Value:=(vs z8a zg.fU.length z8b);let Q:Value:=(vs z8c zg.ye.length z8d);let A:List Value:=[K,L,vs zdF zg.fS.length zdG,M,N,O,P,Q];refine B0q<|Lh 6 (wg (cs:=A)) ?_
 intro p _
 refine Q1n U<|WC.b<|WC.b<|bK h fun bO aS h=>Ld<|Le 34 (xK z3f (xM .here))<|La U<|Nr call8 hz (fun pz=>KM _ _ _ _ _ _ _ _ _ _ _ _ _ _ _ _ _ _ _ _ _ _ aS pz af ag ah ai aj ak al am az)<|Q1n U<|Lj h (fun aT h=>?_)<|fun aT h=>?_
 ·exact WC.b<|bK h fun bQ aU h=>Ld<|Nr call9 hz (oh _ _ aU)<|Q1n U<|Nw<|Ll<|oJ h▸Nl results7
 ·refine Nn<|WC.b<|bK h fun a aV h=>Ld<|Le 40 (xK z3f (xM .here))<|Q2q U<|Oj (dd:=43) U (Ns call10) .nil (cc hz .nil fun w pz ho=>bP _ _ _ _ _ _ _ _ _ _ _ _ _ _ _ _ _ _ _ _ _ _ _ aV pz af ag ah ai aj ak al am az) ?_
  rintro bm bn bo bp _
  refine Q2q U<|La U (Lh 13 (xW (cs:=[vn,vn]) zqL) fun s _=>Ln (xP zgP .here)<|Q1n U<|WC.b<|B2n U<|Lj h (fun aW h=>?_)<|fun aW h=>?_)
  ·exact WC.b<|bK h fun bR aX h=>Ld<|Nr call9 hz (oh _ _ aX)<|Q1n U<|Nw<|Ll<|oJ h▸Nl results7
  ·refine Nn<|WC.b<|bK h fun f aY h=>Ld<|Le 49 (xK z3f (xM .h3))<|Q3q U<|N9 (dd:=53) U (Ns call15) .nil (cc hz .nil fun w pz ho=>Wh _ _ _ _ _ _ _ _ _ _ _ _ _ _ _ _ _ _ _ _ _ _ _ _ _ _ _ _ aY pz af ag ah ai aj ak al am aP aQ aR) ?_
   rintro bq aF _
   refine Q1n U<|WC.b<|bK h fun c aZ h=>Ld<|Le 55 (xK z3f (xM .h4))<|Q3q U<|Oj (dd:=59) U (Ns call16) .nil (uC hz .nil (.cons .here .nil) fun w pz ho la=>nP _ _ _ _ _ _ _ _ _ _ _ _ _ _ _ _ _ _ _ _ _ _ _ _ _ _ aZ pz ((af.mono<|zl).weak (fun _ _ h=>qQ zl h)) ((ag.mono<|zl).weak (fun _ _ h=>qX zl h)) (ah.mono<|zl) (ai.mono<|zl) ((aj.mono<|zl).weak (fun _ _ h=>qN zl h)) (ak.mono<|zl) ((al.mono<|zl).weak (fun _ _ h=>qY zl h)) (am.mono<|zl) ((az.mono<|zl).weak (fun _ _ h=>jc zl h))<|ZA.row (la _ (.head _) _) (RR.flat (enc:=uo) (fun _=>U) _) ⟨w,pz.1⟩) ?_
   rintro br aG bB bC _
   refine La U<|La U<|La U<|La U<|La U<|La U<|La U<|WL.nil<|Lb<|WC.b<|B2n U<|Lj h (fun a0 h=>?_)<|fun a0 h=>?_
   ·refine WC.b<|bK h fun bs aH h=>D3q U<|Lw true 1 67 (B:=bs) (fun h=>(oJ<|jE aH h).symm) (fun _ a1=>?_) ?_
    ·have an:=jD aH a1
     obtain⟨bS,a2,an⟩:=z8 an
     replace an:=oJ an
     exact Nr call9 hz (oh _ _ a2)<|La U<|Lx an U .all
    exact Q1n U<|Nw<|Ll<|oJ h▸Nl results7
   ·refine Nn<|B0q (Lh 70 (fh (ga nL)<|Value.int .i64) fun j _=>Q1n U ?_)
    obtain⟨aI,a3,h⟩:=wo h
    let C:Value:=(vs bq f.length aF);let D:Value:=(vs bm a.1.fP.length bn);let F:Value:=(vs bo a.1.yv.length bp);let I:Value:=(vs zbY z6A.length zbZ);let J:Value:=(vs br c.1.length aG);refine L5 (fun g=>(aI g=some r)) (fun g=>[(1,vi z7Z),(2,I),(6,vp p),(13,vp s),(15,C),(16,J),(19,(.map<|some j))]) (fun g=>[row C 83 3 (f.flatMap uo),row J 81 3 (c.1.flatMap wd),stb p 31 A,stb s 38 [D,F],row D 58 4 (a.1.fP.flatMap kz),row F 79 3 (a.1.yv.flatMap f5),xU j (ga nL) vI g]) ?_ ?_
    ·refine B0q<|Le 71 (xA lN)<|Le 72 (Nt zm2 .h4)<|Le 73 (w9 underlying36)<|Q1n U<|WC.block<|N7 (fun ao m aa=>(ki a aI ao m aa=some r)) (fun ao m aa=>[(1,vi z7Z),(2,I),(6,vp p),(13,vp s),(15,C),(16,J),(19,(.map<|some j)),(72,F),(73,vi (a.1.yv.length:Int)),(74,vi m)]) (fun ao m aa=>[row C 83 3 (f.flatMap uo),row J 81 3 (c.1.flatMap wd),row F 79 3 (a.1.yv.flatMap f5),stb p 31 A,stb s 38 [D,F],row D 58 4 (a.1.fP.flatMap kz),xU j (ga nL) vI aa]) (fun ao m aa=>ao) ⟨xR,0,([]:List (yI×Int))⟩ h .q (.s7 .h3 .h1 .h4 .h4 .h2 .h2 .here) ?_
     rintro(_|bt) m aa h;·cases h
     rw[ki] at h
     refine B1n U<|WC.b<|Lj h (fun a4 h=>?_)<|fun a4 h=>?_
     ·refine Nn<|WC.b<|WC.block<|WC.b<|cK h fun ap h=>Ld<|Nj (fun w hw=>Hp.vo .h2 hw (by intro hz';have:=ap;rw[hz'] at this;omega)) ?_
      rintro⟨bD,rfl⟩
      refine Le 76 (xY zjz ap.1 ap.2 wz)<|Le 77 (wi (cs:=(f5<|nth a.1.yv m)) zy6<|vB .h2<|wG (enc:=f5) (l:=a.1.yv) (i:=m) (sz:=3) (fun _=>U) ap.1 ap.2) (Lh 21 (xW (cs:=[vi 0,vi 0,vi 0]) zPD) fun bE _=>Ln (xP zPE .here)<|Q0n<|D1q U<|Le 79 (xA Tv)<|Le 80 (Nt xL .here)<|Le 81 (xA Va)<|Le 82 (Nt xL .here)<|Le 83 (wm (v:=(.agg #[(vi<|(nth a.1.yv m).yq),(vi<|(nth a.1.yv m).ya)])) (Lq (l:=[.tmp 80,.tmp 82]) (.r2 U U) [0,1]) (fun _=>by kernel_rfl))<|Le 84 (xA Tw)<|Le 85 (Nt xL .here)<|Ln (mO (k:=(⟨(nth a.1.yv m).yq,(nth a.1.yv m).ya⟩:yI)) (v:=((nth a.1.yv m).yl)) zy7 underlying56 .h7)<|WL.nil<|Lt<|Lb<|D2q U<|WL.nil ?_)
      exact Nx ⟨bt,i64 (m+1),(w4 aa (⟨(nth a.1.yv m).yq,(nth a.1.yv m).ya⟩:yI)<|(nth a.1.yv m).yl)⟩ h (Nat.lt_succ_self _) .q<|.s7 .h2 .h2 .h2 .h2 .h2 .h2 .here
     ·exact Nz<|Lo<|Lo<|Lv<|Lp aa h .q<|.s7 .here .here .h1 .h1 .h1 .here .here
    ·rintro g h
     replace h:=(a3 g).symm.trans h
     refine jK0 h fun aJ a5 h=>Nd (aJ=some r) ([(1,vi z7Z),(2,I),(6,vp p),(13,vp s),(15,C),(19,(.map<|some j))]) ([row C 83 3 (f.flatMap uo),stb p 31 A,stb s 38 [D,F],row D 58 4 (a.1.fP.flatMap kz),row F 79 3 (a.1.yv.flatMap f5),xU j (ga nL) vI g]) ?_ ?_
     ·let V:=(c.1.length:Int);refine B1q U<|Le 88 (w9 underlying75)<|Q1n U<|WC.block<|Ng (fun aq b=>(kj c f g aJ aq b=some r)) (fun aq b=>[(1,vi z7Z),(2,I),(6,vp p),(13,vp s),(15,C),(19,(.map<|some j)),(87,J),(88,vi V),(89,vi b)]) (fun aq b=>[row C 83 3 (f.flatMap uo),row J 81 3 (c.1.flatMap wd),stb p 31 A,stb s 38 [D,F],row D 58 4 (a.1.fP.flatMap kz),row F 79 3 (a.1.yv.flatMap f5),xU j (ga nL) vI g]) (fun aq b=>aq) ⟨xR,0⟩ h .q .a7 ?_
      rintro(_|bu) b h;·cases h
      rw[kj] at h
      refine B1n U<|WC.b<|Lj h (fun a6 h=>?_)<|fun a6 h=>?_
      ·refine Nn<|WC.b<|WC.block<|WC.b<|cK h fun ar h=>Ld<|Nj (fun w hw=>Hp.vo .h1 hw (by intro hz';have:=ar;rw[hz'] at this;omega)) ?_
       rintro⟨aK,rfl⟩
       refine Le 91 (xY z2J ar.1 ar.2 wz)<|Le 92 (wi (cs:=(wd<|nth c.1 b)) z5o<|vB .h1<|wG (enc:=wd) (l:=c.1) (i:=b) (sz:=3) (fun _=>U) ar.1 ar.2) (Lh 23 (xW (cs:=[vi 0,vi 0,vi 0]) zFV) fun aC _=>Ln (xP zc8 .here)<|Q0n<|WC.b ?_)
       refine cK h fun au h=>Lu nc []<|Lf 0 U q_m<|Lf 1 U q_m<|Lf 2 U (xA cy)<|Lg 3 U (Nt xL .here)<|N2 (fun w hw=>Hp.vo .h1 hw (by intro hz';have:=au;rw[hz'] at this;omega)) ?_
       rintro⟨aD,rfl⟩
       let S:Value:=(vi ((nth f ((nth c.1 b).yc)).yq));let T:Value:=(vi ((nth c.1 b).ya));refine Lf 4 U (xY zan au.1 au.2 wz)<|Lf 5 U (xA cx (hA:=⟨Addr.add_lit _ _ _⟩))<|Lg 6 U (xB xL U<|oQ .h1<|(wG (enc:=uo) (l:=f) (i:=((nth c.1 b).yc)) (sz:=3) (fun _=>U) au.1 au.2) 1 _ U)<|Lf 7 U (xA Yp)<|Lg 8 U (Nt xL .here)<|Lf 9 U (wm (v:=(.agg #[S,T])) (Lq (l:=[.tmp 100,.tmp 102]) (.r2 U U) [0,1]) (fun _=>by kernel_rfl))<|Lg 10 U (VW (k:=(⟨(nth f<|(nth c.1 b).yc).yq,(nth c.1 b).ya⟩:yI)) (dflt:=(0:Int)) zy7 underlying56 ms U U U .h7)<|Lf 11 U q_m<|Lf 12 U mv<|Lf 13 U mv<|Lf 14 U q_z<|Lf 15 U q_z<|Ny (by kernel_rfl)<|Lb<|WC.b ?_
       obtain⟨a7,h⟩:=xH h
       let E:Value:=(.bool (wK g (⟨(nth f ((nth c.1 b).yc)).yq,(nth c.1 b).ya⟩:yI)));let G:Value:=(vi (xC g (⟨(nth f ((nth c.1 b).yc)).yq,(nth c.1 b).ya⟩:yI) 0));let R:Value:=(.bool (!(wK g (⟨(nth f ((nth c.1 b).yc)).yq,(nth c.1 b).ya⟩:yI))));let W:Value:=(vs (some ⟨aD,0,none⟩) f.length aF);refine Lu nc []<|Lf 0 U q_m<|Lf 1 U (Yd U)<|Lf 2 U q_m<|L9 (fuel':=0) [(1,vi z7Z),(2,I),(6,vp p),(13,vp s),(15,W),(19,(.map<|some j)),(87,vs (some ⟨aK,0,none⟩) c.1.length aG),(88,vi V),(89,vi b),(90,(.bool<|decide (b<V))),(91,(.pointer<|some ⟨aK,(b:Int).toNat*3,none⟩)),(92,.agg #[(vi<|(nth c.1 b).yc),T,(vi<|(nth c.1 b).yb)]),(23,vp aC),(94,(.map<|some j)),(95,W),(96,vp aC),(97,(vi<|(nth c.1 b).yc)),(98,(.pointer<|some ⟨aD,(((nth c.1 b).yc):Int).toNat*3,none⟩)),(99,(.pointer<|some ⟨aD,(((nth c.1 b).yc):Int).toNat*3+1,none⟩)),(100,S),(101,(.pointer<|some ⟨aC,1,none⟩)),(102,T),(103,.agg #[S,T]),(104,.tuple #[G,E]),(93,.tuple #[G,E]),(105,G),(106,E),(24,G),(25,E),(107,E),(108,R),(109,R),(121,.bool ((!(wK g (⟨(nth f<|(nth c.1 b).yc).yq,(nth c.1 b).ya⟩:yI)))||(decide ((i64 (((nth c.1 b).yb)-((nth f<|(nth c.1 b).yc).yb)))>(xC g (⟨(nth f<|(nth c.1 b).yc).yq,(nth c.1 b).ya⟩:yI) 0)))))] (j7 15 (dn 15)) ?_<|fun aL=>?_
       rotate_left
       ·rcases Bool.eq_false_or_eq_true (!(wK g (⟨(nth f ((nth c.1 b).yc)).yq,(nth c.1 b).ya⟩:yI))) with hb' | hb'
        ·have aE:=hb';clear hb'
         refine L0 (i:=109) U aE<|Lk 3 U<|Lk 4 U<|Lk 5 U<|Lk 6 U<|Lk 7 U<|Lk 8 U<|Lk 9 U<|Lk 10 U<|Lk 11 U<|Lk 12 U<|Lk 13 U<|Lf 14 U qE<|L2 .a8 ?_ aL
         exact(.cons U (.cons U (.cons U (.cons U (.cons U (.cons U (.cons U (.cons U (.cons U (.cons U (.cons U (.cons U (.cons U (.cons U (.cons U (.cons U (.cons U (.cons U (.cons U (.cons U (.cons U (.cons U (.cons U (.cons U (.cons U (.cons U (.cons U (.cons U (.cons U (.cons U (.cons U (.cons (zu (Eq.symm aE)) (.cons (zu (gQ aE)) .nil)))))))))))))))))))))))))))))))))
        ·have aA:=hb';clear hb'
         have aB:=a7 aA
         refine L0 (i:=109) U aA<|Lf 3 U (xA Yo)<|Lg 4 U (Nt xL .here)<|Lf 5 U q_m<|Lf 6 U (xA cy)<|Lg 7 U (Nt xL .here)<|Lf 8 U (xY zan aB.1 aB.2 wz)<|Lf 9 U (xA lO (hA:=⟨Addr.add_lit _ _ _⟩))<|Lg 10 U (xB xL U<|oQ .h1<|(wG (enc:=uo) (l:=f) (i:=((nth c.1 b).yc)) (sz:=3) (fun _=>U) aB.1 aB.2) 0 _ U)<|Lf 11 U sR<|Lf 12 U q_m<|Lf 13 U sT<|Lf 14 U qF<|L2 .a8 ?_ aL
         exact(.cons U (.cons U (.cons U (.cons U (.cons U (.cons U (.cons U (.cons U (.cons U (.cons U (.cons U (.cons U (.cons U (.cons U (.cons U (.cons U (.cons U (.cons U (.cons U (.cons U (.cons U (.cons U (.cons U (.cons U (.cons U (.cons U (.cons U (.cons U (.cons U (.cons U (.cons U (.cons (zu (Eq.symm aA)) (.cons (zu (gR aA)) .nil)))))))))))))))))))))))))))))))))
       refine Ny (by kernel_rfl)<|Lb<|Lj h (fun a8 h=>?_)<|fun a8 h=>?_
       ·exact B1n U<|Nw<|Ly<|Ll<|Ll<|Ly<|Ll<|oJ h▸Nl results7
       ·exact N0<|Lt<|Lb<|D2q U<|WL.nil<|Nx ⟨bu,i64 (b+1)⟩ h (Nat.lt_succ_self _) .q<|.s7 .h1 .h1 .h1 .h1 .h1 .h1 .h1
      ·exact Nz<|Lo<|Lo<|Lv<|Lp () h .q<|.s6 .here .h1 .h1 .h1 .h1 .h1
     ·rintro  h
      replace h:=a5.symm.trans h
      refine B0q<|Le 123 (xK z3f (xM .h1)) (Lh 26 (xW (cs:=[vn,vn,vn,vn,vn,vn,vn,vn]) zu5) fun ae _=>Ln (xP zu6 .here)<|Q0n<|WC.b ?_)
      refine cK h fun a9 h=>Ld (Lh 124 (ws (cs:=([]:List yu).flatMap kT) zc2 (Lq (l:=[]) .nil []) (fun _=>by kernel_rfl) (by unfold maxLen;omega)) fun bF _=>Le 125 (xA tn)<|Le 126 (Nt zal .h3)<|WL.fA 127 (kK (enc:=kT) (l1:=([]:List yu)) (l2:=zg.fS) zc2 .here (fun _=>U) (S6 hz.pv ah) (gN Sa _) a9) ?_)
      rintro⟨ad,t⟩ _
      refine Le 128 (xA tn)<|Ln (kO (ds:=[K,L,vs ad ((([]:List yu)++zg.fS).length) t,M,N,O,P,Q]) zPK .h1)<|Q0n<|jK1 h fun aM ba h=>L5 (fun ab=>(aM ab=some r)) (fun ab=>[(1,vi z7Z),(2,I),(15,C),(19,(.map<|some j)),(26,vp ae)]) (fun ab=>[row C 83 3 (f.flatMap uo),xU j (ga nL) vI g,stb ae 31 [K,L,vs ad ab.length t,M,N,O,P,Q],row (vs ad ab.length t) 66 4 (ab.flatMap kT)]) ?_ ?_
      ·let X:=(a.1.fP.length:Int);refine B0q<|Le 129 (xA rA)<|Le 130 (Nt zdK .h4)<|Le 131 (w9 underlying35)<|Q1n U<|WC.block<|N7 (fun av d e=>(km a zg aM av d e=some r)) (fun av d e=>[(1,vi z7Z),(2,I),(6,vp p),(15,C),(19,(.map<|some j)),(26,vp ae),(130,D),(131,vi X),(132,vi d)]) (fun av d e=>[row C 83 3 (f.flatMap uo),row D 58 4 (a.1.fP.flatMap kz),stb p 31 A,xU j (ga nL) vI g,stb ae 31 [K,L,vs ad e.length t,M,N,O,P,Q],row (vs ad e.length t) 66 4 (e.flatMap kT)]) (fun av d e=>av) ⟨xR,0,([]:List yu)++zg.fS⟩ h .q (.s6 .h2 .h4 .h2 .h4 .here .here) ?_
       rintro(_|bv) d e h;·cases h
       rw[km] at h
       refine B1n U<|WC.b<|Lj h (fun bb h=>?_)<|fun bb h=>?_
       ·refine Nn<|jK1 h fun bw bc h=>L5 (fun x=>(bw x=some r)) (fun x=>[(1,vi z7Z),(2,I),(6,vp p),(15,C),(19,(.map<|some j)),(26,vp ae),(130,D),(131,vi X),(132,vi d)]) (fun x=>[row C 83 3 (f.flatMap uo),row D 58 4 (a.1.fP.flatMap kz),stb p 31 A,xU j (ga nL) vI g,stb ae 31 [K,L,vs ad x.length t,M,N,O,P,Q],row (vs ad x.length t) 66 4 (x.flatMap kT)]) ?_ ?_
        ·refine WC.block<|WC.b<|cK h fun aw h=>Ld<|Nj (fun w hw=>Hp.vo .h1 hw (by intro hz';have:=aw;rw[hz'] at this;omega)) ?_
         rintro⟨bG,rfl⟩
         refine Le 134 (xY z8L aw.1 aw.2 wz)<|Le 135 (wi (cs:=(kz<|nth a.1.fP d)) zm1<|vB .h1<|wG (enc:=kz) (l:=a.1.fP) (i:=d) (sz:=4) (fun _=>U) aw.1 aw.2)<|Lh 28 (xW (cs:=[vi 0,vi 0,vi 0,vi 0]) zFv) ?_
         intro bH _
         let H:=(i64 (((nth a.1.fP d).ya)-(zg.fM.length:Int)));refine Ln (xP zFI .here)<|Q0n<|B0q<|Le 136 (xA Yn)<|Le 137 (Nt xL .here)<|Le 138 (xA tk)<|Le 139 (Nt z9o .h3)<|Le 140 (w9 underlying22)<|Q2n U<|B3q U<|Lw true 5 144 (B:=(decide (H>=0))&&(decide (H<e.length))) (fun h=>(jR h).symm) (fun _ bd=>?_) ?_
         ·exact La U<|Le 146 (xA tn)<|Le 147 (Nt zal .h5)<|Le 148 (w9 underlying24)<|Q2q U<|Lx (jS bd) U .all
         refine Q0n<|Lj h (fun be h=>?_)<|fun be h=>?_
         ·refine cK h fun q h=>Lu (fun i=>[14].contains i) []<|Lf 0 U (xA tn)<|Lg 1 U (Nt zal .h5)<|Lf 2 U q_m<|Lf 3 U (xA tn)<|Lg 4 U (Nt zal .h5)<|Lf 5 U q_m<|N2 (fun w hw=>Hp.vo .h6 hw (by intro hz';have:=q;rw[hz'] at this;omega)) ?_
          rintro⟨aN,rfl⟩
          exact Lf 6 U (xY zc2 q.1 q.2 wz)<|Lf 7 U (xA dM (hA:=⟨Addr.add_lit _ _ _⟩))<|Lg 8 U (xB xL U<|oQ .h6<|(wG (enc:=kT) (l:=e) (i:=i64 (((nth a.1.fP d).ya)-(zg.fM.length:Int))) (sz:=4) (fun _=>U) q.1 q.2) 3 _ U)<|Lf 9 U (xA Tu)<|Lg 10 U (Nt xL .here)<|Lf 11 U Ye<|Lf 12 U (xY zc2 q.1 q.2 wz)<|Lf 13 U (xA dM (hA:=⟨Addr.add_lit _ _ _⟩))<|Nc (i:=14) U (by kernel_rfl) (by kernel_rfl) (kQ (vs:=[(vi<|max ((nth e<|i64 (((nth a.1.fP d).ya)-(zg.fM.length:Int))).fT)<|(nth a.1.fP d).fT)]) (ds:=(e.set ((i64 (((nth a.1.fP d).ya)-(zg.fM.length:Int))):Int).toNat ({(nth e<|i64 (((nth a.1.fP d).ya)-(zg.fM.length:Int))) with fT:=max ((nth e<|i64 (((nth a.1.fP d).ya)-(zg.fM.length:Int))).fT) ((nth a.1.fP d).fT)}:yu)).flatMap kT) dO (Yf U XY) .h6 (ma (enc:=kT) (sz:=4) (k:=3) (fun _=>U) q.1 q.2 (by decide))<|fZ (enc:=kT) (l:=e) (sz:=4) (vs:=[(vi<|max ((nth e<|i64 (((nth a.1.fP d).ya)-(zg.fM.length:Int))).fT)<|(nth a.1.fP d).fT)]) (y:=({(nth e<|i64 (((nth a.1.fP d).ya)-(zg.fM.length:Int))) with fT:=max ((nth e<|i64 (((nth a.1.fP d).ya)-(zg.fM.length:Int))).fT) ((nth a.1.fP d).fT)}:yu)) (k:=3) (fun _=>U) q.1 q.2<|Nat.le_of_ble_eq_true U)<|N4 .here (u:=(vs (some ⟨aN,0,none⟩) ((e.set ((i64 (((nth a.1.fP d).ya)-(zg.fM.length:Int))):Int).toNat ({(nth e<|i64 (((nth a.1.fP d).ya)-(zg.fM.length:Int))) with fT:=max ((nth e<|i64 (((nth a.1.fP d).ya)-(zg.fM.length:Int))).fT) ((nth a.1.fP d).fT)}:yu)).length) t)) (qs (List.length_set).symm)<|O4 (cs':=[vs z80 zg.fM.length z81,vs z82 zg.yf.length z83,vs (some ⟨aN,0,none⟩) ((e.set ((i64 (((nth a.1.fP d).ya)-(zg.fM.length:Int))):Int).toNat ({(nth e<|i64 (((nth a.1.fP d).ya)-(zg.fM.length:Int))) with fT:=max ((nth e<|i64 (((nth a.1.fP d).ya)-(zg.fM.length:Int))).fT) ((nth a.1.fP d).fT)}:yu)).length) t,vs z84 zg.fK.length z85,vs z86 zg.yg.length z87,vs z88 zg.fH.length z89,vs z8a zg.fU.length z8b,vs z8c zg.ye.length z8d]) .h6 (by simp only[List.length_set]<;>rfl)<|Ny (by kernel_rfl)<|Lt<|Lp (e.set (H:Int).toNat ({(nth e H) with fT:=max ((nth e H).fT) ((nth a.1.fP d).fT)}:yu)) h .q<|.s6 .h3 .h3 .h3 .h3 .here .here
         ·exact N0<|Lt<|Lp e h .q<|.s6 .h1 .h1 .h1 .h1 .h1 .h1
        ·rintro x h
         replace h:=(bc x).symm.trans h
         exact D2q U<|WL.nil<|Nx ⟨bv,i64 (d+1),x⟩ h (Nat.lt_succ_self _) .q<|.a6
       ·exact Nz<|Lo<|Lo<|Lv<|Lp e h .q<|.s4 .here .h2 .h2 .h2
      ·rintro ab h
       replace h:=(ba ab).symm.trans h
       refine WC.b<|bK h fun o bf h=>Ld<|Le 167 (xK z3f (xM .h2))<|Q3q U<|Oj (dd:=171) U (Ns call16) .nil (uC hz .nil (.s2 .h3 .here) fun w pz ho la=>nP _ _ _ _ _ _ _ _ _ _ _ _ _ _ _ _ _ _ _ _ _ _ _ _ _ _ bf pz ((af.mono<|zl).weak (fun _ _ h=>qQ zl h)) ((ag.mono<|zl).weak (fun _ _ h=>qX zl h)) (ZA.row (la _ (.head _) _) (RR.flat (enc:=kT) (fun _=>U) _) ⟨w,pz.1⟩) (ai.mono<|zl) ((aj.mono<|zl).weak (fun _ _ h=>qN zl h)) (ak.mono<|zl) ((al.mono<|zl).weak (fun _ _ h=>qY zl h)) (am.mono<|zl) ((az.mono<|zl).weak (fun _ _ h=>jc zl h))<|ZA.row (la _ (.tail _<|.head _) _) (RR.flat (enc:=uo) (fun _=>U) _) ⟨w,pz.1⟩) ?_
       rintro bx bz bI bJ _
       refine La U<|La U<|La U<|La U<|La U<|La U<|La U<|WL.nil<|Lb<|WC.b<|B3q U<|Lw false 3 177 (B:=(decide (o.2.2≠0))||(decide ((o.2.1.length:Int)≠0))) (fun h=>(gQ h).symm) (fun _ bg=>?_) ?_
       ·exact La U<|Le 179 (w9 underlying75)<|Q2q U<|Lx (gR bg) U .all
       refine Q0n<|Lj h (fun bh h=>?_)<|fun bh h=>?_
       ·exact B1n U<|Nw<|Ll<|oJ h▸Nl results7
       ·refine Nn<|jK0 h fun aO bi h=>Nd (aO=some r) ([]) ([]) ?_ ?_
        ·let Y:Value:=(vs bx o.1.length bz);refine B1q U<|Le 183 (w9 underlying75)<|Q1n U<|WC.block<|Ng (fun ax n=>(kn o f g aO ax n=some r)) (fun ax n=>[(15,C),(19,(.map<|some j)),(182,Y),(183,vi (o.1.length:Int)),(184,vi n)]) (fun ax n=>[row C 83 3 (f.flatMap uo),row Y 81 3 (o.1.flatMap wd),xU j (ga nL) vI g]) (fun ax n=>ax) ⟨xR,0⟩ h .q (.s3 .h2 .here .h1) ?_
         rintro(_|bA) n h;·cases h
         rw[kn] at h
         refine B1n U<|WC.b<|Lj h (fun bj h=>?_)<|fun bj h=>?_
         ·refine Nn<|WC.b<|WC.block<|WC.b<|cK h fun ay h=>Ld<|Nj (fun w hw=>Hp.vo .h1 hw (by intro hz';have:=ay;rw[hz'] at this;omega)) ?_
          rintro⟨bL,rfl⟩
          refine Le 186 (xY z2J ay.1 ay.2 wz)<|Le 187 (wi (cs:=(wd<|nth o.1 n)) z5o<|vB .h1<|wG (enc:=wd) (l:=o.1) (i:=n) (sz:=3) (fun _=>U) ay.1 ay.2) (Lh 33 (xW (cs:=[vi 0,vi 0,vi 0]) zFV) fun bM _=>Ln (xP zc8 .here)<|Q0n<|WC.b ?_)
          refine cK h fun z h=>Lu nc []<|Lf 0 U (xA Yo)<|Lg 1 U (Nt xL .here)<|Lf 2 U q_m<|Lf 3 U (xA cy)<|Lg 4 U (Nt xL .here)<|N2 (fun w hw=>Hp.vo .h1 hw (by intro hz';have:=z;rw[hz'] at this;omega)) ?_
          rintro⟨bN,rfl⟩
          refine Lf 5 U (xY zan z.1 z.2 wz)<|Lf 6 U (xA lO (hA:=⟨Addr.add_lit _ _ _⟩))<|Lg 7 U (xB xL U<|oQ .h1<|(wG (enc:=uo) (l:=f) (i:=((nth o.1 n).yc)) (sz:=3) (fun _=>U) z.1 z.2) 0 _ U)<|Lf 8 U sR<|Lf 9 U q_m<|Lf 10 U q_m<|Lf 11 U (xA cy)<|Lg 12 U (Nt xL .here)<|Lf 13 U (xY zan z.1 z.2 wz)<|Lf 14 U (xA cx (hA:=⟨Addr.add_lit _ _ _⟩))<|Lg 15 U (xB xL U<|oQ .h1<|(wG (enc:=uo) (l:=f) (i:=((nth o.1 n).yc)) (sz:=3) (fun _=>U) z.1 z.2) 1 _ U)<|Lf 16 U (xA Yp)<|Lg 17 U (Nt xL .here)<|Lf 18 U (wm (v:=(.agg #[(vi<|(nth f<|(nth o.1 n).yc).yq),(vi<|(nth o.1 n).ya)])) (Lq (l:=[.tmp 203,.tmp 205]) (.r2 U U) [0,1]) (fun _=>by kernel_rfl))<|Lg 19 U (ku (k:=(⟨(nth f<|(nth o.1 n).yc).yq,(nth o.1 n).ya⟩:yI)) (dflt:=(0:Int)) zy7 underlying56 ms .h3)<|Lf 20 U sT<|Ny (by kernel_rfl)<|Lb<|Lj h (fun bk h=>?_)<|fun bk h=>?_
          ·exact B1n U<|Nw<|Ly<|Ll<|Ll<|Ly<|Ll<|oJ h▸Nl results7
          ·exact N0<|Lt<|Lb<|D2q U<|WL.nil<|Nx ⟨bA,i64 (n+1)⟩ h (Nat.lt_succ_self _) .q<|.s3 .h1 .h1 .h1
         ·exact Nz<|Lo<|Lo<|Lv<|Lp () h .nil .nil
        ·rintro  h
         replace h:=bi.symm.trans h
         exact WC.b<|bK h fun bT bl h=>Ld<|Nr call9 hz (oh _ _ bl)<|Q1n U<|Nw<|oJ h▸Nl results7
end Go.Proofs.YtcahmabkeaijdaaGreat
