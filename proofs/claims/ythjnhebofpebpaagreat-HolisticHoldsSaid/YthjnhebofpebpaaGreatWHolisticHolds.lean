/- A part of this claim's proof. No conditions. -/
import Derived.Test.YthjnhebofpebpaaGreatW36m
set_option linter.all false
namespace Go.Proofs.YthjnhebofpebpaaGreat
open Go Go.RowKit Sep Tryz
set_option maxRecDepth 30000
set_option maxHeartbeats 4000000
def jr(b:yM×Int)(c:(List (yR×Int))->Option Bool):Nat->Int->(List (yR×Int))->Option Bool
 | 0,_,_=>none
 | e+1,a,d=>if decide (a<b.1.yx.length) then chk (0<=a/\a<b.1.yx.length) (jr b c e (i64 (a+1)) (w7 d (⟨(nth b.1.yx a).yt,(nth b.1.yx a).ya⟩:yR) ((nth b.1.yx a).yl))) else c d
def js(b:yM×Int)(zm:zy)(d:(List yw)->Option Bool):Nat->Int->(List yw)->Option Bool
 | 0,_,_=>none
 | f+1,a,c=>if decide (a<b.1.fP.length) then qt (fun(g:List yw)=>js b zm d f (i64 (a+1)) g) fun e=>chk (0<=a/\a<b.1.fP.length) (if (decide ((i64 (((nth b.1.fP a).ya)-(zm.fM.length:Int)))>=0))&&(decide ((i64 (((nth b.1.fP a).ya)-(zm.fM.length:Int)))<c.length)) then chk (0<=(i64 (((nth b.1.fP a).ya)-(zm.fM.length:Int)))/\(i64 (((nth b.1.fP a).ya)-(zm.fM.length:Int)))<c.length) (e (c.set ((i64 (((nth b.1.fP a).ya)-(zm.fM.length:Int))):Int).toNat ({(nth c (i64 (((nth b.1.fP a).ya)-(zm.fM.length:Int)))) with fT:=max ((nth c (i64 (((nth b.1.fP a).ya)-(zm.fM.length:Int)))).fT) ((nth b.1.fP a).fT)}:yw))) else e c) else d c
def jt(b:List yh×List yh×Int)(c:List yh×List yh×Int)(d:List yK)(e:List (yR×Int))(f:Option Bool):Nat->Int->Option Bool
 | 0,_=>none
 | g+1,a=>if decide (a<((b.1++c.1).length:Int)) then chk (0<=a/\a<((b.1++c.1).length:Int)) (chk (0<=((nth (b.1++c.1) a).yd)/\((nth (b.1++c.1) a).yd)<d.length) (chk ((!(wS e (⟨(nth d ((nth (b.1++c.1) a).yd)).yt,(nth (b.1++c.1) a).ya⟩:yR)))=false->(0<=((nth (b.1++c.1) a).yd)/\((nth (b.1++c.1) a).yd)<d.length)) (if (!(wS e (⟨(nth d ((nth (b.1++c.1) a).yd)).yt,(nth (b.1++c.1) a).ya⟩:yR)))||(decide ((i64 (((nth (b.1++c.1) a).yc)-((nth d ((nth (b.1++c.1) a).yd)).yc)))>(xK e (⟨(nth d ((nth (b.1++c.1) a).yd)).yt,(nth (b.1++c.1) a).ya⟩:yR) 0))) then some false else jt b c d e f g (i64 (a+1))))) else f
def uu(zm:zy)(zc2:Int)(za3:List (List zd))(ztH:List Int)(ztI:List Int)(ztJ:List Int):Option Bool:=
 (oa zm za3).bind fun e=>if !e then(uz).bind fun f=>some f else(mf zm zc2 za3).bind fun d=>if decide (d.2≠0) then(uz).bind fun g=>some g else(tY zm ztH ztI ztJ).bind fun c=>(mN zm zc2 za3 c).bind fun a=>if decide (a.2.2≠0) then(if decide (a.2.2=311) then(uz).bind fun h=>some h else some false).bind fun i=>some i else qt (fun(j:List (yR×Int))=>chk (((([]:List yw)++zm.fS).length:Int)*40<=140737488355328/\((([]:List yw)++zm.fS).length:Int)<=4611686018427387904) (qt (fun(k:List yw)=>(mN ({zm with fS:=k}:zy) zc2 za3 c).bind fun b=>if (decide (b.2.2≠0))||(decide ((b.2.1.length:Int)≠0)) then some false else uN ((uz).bind fun l=>some l) fun m=>chk (((a.1++b.1).length:Int)*24<=140737488355328/\((a.1++b.1).length:Int)<=4611686018427387904) (jt a b c j m xT 0)) fun n=>js d zm n xT 0 (([]:List yw)++zm.fS))) fun o=>jr d o xT 0 ([]:List (yR×Int))
theorem eE(Z zaQ zaR zaS zaT zlR zlS zaU zaV zaW zaX zaY zaZ zb0 zb1 zb2 zb3 zlT zlU zLQ zLR zLS zLT zLU zLV zm zc2 za3 ztH ztI ztJ r)(h:uu zm zc2 za3 ztH ztI ztJ=some r){Ny}(hz:PZ [] Ny Z)(ad:ZS Z 4 (kB Z) zaQ zaR zm.fM)(ae:ZS Z 4 (g8 Z) zaS zaT zm.ye)(af:ZS Z 4 (rq kr) zlR zlS zm.fS)(ag:ZS Z 4 (rq gH) zaU zaV zm.fK)(ah:ZS Z 7 (g7 Z) zaW zaX zm.yb)(ai:ZS Z 5 (rq gf) zaY zaZ zm.fH)(aj:ZS Z 3 (g9 Z) zb0 zb1 zm.fU)(ak:ZS Z 4 (rq gg) zb2 zb3 zm.yf)(av:ZS Z 1 (fm Z) zlT zlU za3)(aL:ZS Z 1 (rq e5) zLQ zLR ztH)(aM:ZS Z 1 (rq e5) zLS zLT ztI)(aN:ZS Z 1 (rq V3) zLU zLV ztJ):
  RC 8 #[.agg #[vs zaQ zm.fM.length zaR,vs zaS zm.ye.length zaT,vs zlR zm.fS.length zlS,vs zaU zm.fK.length zaV,vs zaW zm.yb.length zaX,vs zaY zm.fH.length zaZ,vs zb0 zm.fU.length zb1,vs zb2 zm.yf.length zb3],vi zc2,vs zlT za3.length zlU,vs zLQ ztH.length zLR,vs zLS ztI.length zLT,vs zLU ztJ.length zLV] Ny (.bool r) [] []:=by
 unfold uu at h
 refine Pc func8 U U ?_
 let J:Value:=(vs zaQ zm.fM.length zaR);let K:Value:=(vs zaS zm.ye.length zaT);let L:Value:=(vs zaU zm.fK.length zaV);let M:Value:=(vs zaW zm.yb.length zaX);let N:Value:=(vs zaY zm.fH.length zaZ);let O:Value:=(vs zb0 zm.fU.length zb1);let P:Value:=(vs zb2 zm.yf.length zb3);let A:List Value:=[J,K,vs zlR zm.fS.length zlS,L,M,N,O,P];refine B0q<|Lh 6 (we (cs:=A)) ?_
 intro s _
 refine Q1n U<|WC.b<|WC.b<|bK h fun bF aO h=>Ld<|Le 33 (xN z2A (xO .here))<|La U<|Ns call10 hz (fun pz=>Kv aO pz ad ae af ag ah ai aj ak av)<|Q1n U<|Lj h (fun aP h=>?_)<|fun aP h=>?_
 ·exact WC.b<|bK h fun bG aQ h=>Ld<|Ns call11 hz (oo aQ)<|Q1n U<|Nz<|Ll<|oJ h▸Nm results8
 ·refine Np<|WC.b<|bK h fun a aR h=>Ld<|Le 39 (xN z2A (xO .here))<|Q2q U<|Ol U (Nt call12) .nil (cc hz .nil fun w pz ho=>iE aR pz ad ae af ag ah ai aj ak av) ?_
  rintro bg bh bi bj _
  refine Q2q U<|La U (Lh 13 (xV (cs:=[vn,vn]) zj4 U) fun aw _=>Lk (xR z9s .here)<|Q1n U<|WC.b<|B2n U<|Lj h (fun aS h=>?_)<|fun aS h=>?_)
  ·exact WC.b<|bK h fun bH aT h=>Ld<|Ns call11 hz (oo aT)<|Q1n U<|Nz<|Ll<|oJ h▸Nm results8
  ·refine Np<|WC.b<|bK h fun g aU h=>Ld<|Le 48 (xN z2A (xO .h3))<|Q3q U<|H4 U (Nt call20) .nil (cc hz .nil fun w pz ho=>Wm aU pz ad ae af ag ah ai aj ak aL aM aN) ?_
   rintro bk aC _
   refine Q1n U<|WC.b<|bK h fun b aV h=>Ld<|Le 54 (xN z2A (xO .h4))<|Q3q U<|Ol U (Nt call21) .nil (uB hz .nil (.cons .here .nil) fun w pz ho la=>ab aV pz ((ad.mono<|zl).weak (fun _ _ h=>vc zl h)) ((ae.mono<|zl).weak (fun _ _ h=>vA zl h)) (af.mono<|zl) (ag.mono<|zl) ((ah.mono<|zl).weak (fun _ _ h=>ve zl h)) (ai.mono<|zl) ((aj.mono<|zl).weak (fun _ _ h=>vB zl h)) (ak.mono<|zl) ((av.mono<|zl).weak (fun _ _ h=>qe zl h))<|ZA.row (la _ (.head _) _) (RR.flat (enc:=tH)) ⟨w,pz.1⟩) ?_
   rintro bl bm bt bu _
   refine La U<|La U<|La U<|La U<|La U<|La U<|La U<|WL.nil<|Lb<|WC.b<|B2n U<|Lj h (fun aW h=>?_)<|fun aW h=>?_
   ·refine WC.b<|bK h fun bn aD h=>D3q U<|Ly true 1 66 (B:=bn) (hB:=(fun h=>(oJ<|jv aD h).symm)) (fun _ aX=>?_) ?_
    ·have al:=ju aD aX
     obtain⟨bI,aY,al⟩:=za al
     replace al:=oJ al
     exact Ns call11 hz (oo aY)<|La U<|Lz al U .all
    exact Q1n U<|Nz<|Ll<|oJ h▸Nm results8
   ·refine Np<|B0q (Lh 69 (kq (ga YW)<|Value.int .i64) fun n _=>Q1n U ?_)
    obtain⟨aE,aZ,h⟩:=wg h
    let E:Value:=(vs bk g.length aC);let F:Value:=(vs bl b.1.length bm);let H:Value:=(vs bg a.1.fP.length bh);let I:Value:=(vs bi a.1.yx.length bj);let Q:Value:=(vs zlT za3.length zlU);refine L6 (fun j=>(aE j=some r)) (fun j=>[(1,vi zc2),(2,Q),(6,vp s),(13,vp aw),(15,E),(16,F),(19,(.map<|some n))]) (fun j=>[row E 86 3 (g.flatMap tH),row F 83 3 (b.1.flatMap wm),stb s 31 A,stb aw 40 [H,I],row H 37 4 (a.1.fP.flatMap jU),row I 53 3 (a.1.yx.flatMap fI),xP n (ga YW) vI j]) ?_ ?_
    ·refine B0q<|Le 70 (xB oE)<|Le 71 (Nu zoN .h4)<|Le 72 (wc underlying38)<|Q1n U<|WC.block<|H0 (fun am m t=>(jr a aE am m t=some r)) (fun am m t=>[(1,vi zc2),(2,Q),(6,vp s),(13,vp aw),(15,E),(16,F),(19,(.map<|some n)),(71,I),(72,vi (a.1.yx.length:Int)),(73,vi m)]) (fun am m t=>[row E 86 3 (g.flatMap tH),row F 83 3 (b.1.flatMap wm),row I 53 3 (a.1.yx.flatMap fI),stb s 31 A,stb aw 40 [H,I],row H 37 4 (a.1.fP.flatMap jU),xP n (ga YW) vI t]) (fun am m t=>am) ⟨xT,0,([]:List (yR×Int))⟩ h .q (.s7 .h3 .h1 .h4 .h4 .h2 .h2 .here) ?_
     rintro(_|bo) m t h;·cases h
     rw[jr] at h
     refine B1n U<|WC.b<|Lj h (fun a0 h=>?_)<|fun a0 h=>?_
     ·refine Np<|WC.b<|WC.block<|WC.b<|cK h fun an h=>Ld<|N5 (fun w hw=>Hp.vf .h2 hw (by intro hz';have:=an;rw[hz'] at this;omega)) ?_
      rintro⟨bv,rfl⟩
      refine Le 75 (xZ zlZ an.1 an.2 wF)<|Le 76 (wo (cs:=(fI<|nth a.1.yx m)) zCY<|vQ .h2<|wN (enc:=fI) (l:=a.1.yx) (i:=m) (sz:=3) an.1 an.2) (Lh 21 (xV (cs:=[vi 0,vi 0,vi 0]) zXy U) fun bw _=>Lk (xR zXz .here)<|Q0n<|D1q U<|Le 78 (xB UH)<|Le 79 (Nu xL .here)<|Le 80 (xB V4)<|Le 81 (Nu xL .here)<|Le 82 (wl (v:=(.agg #[(vi<|(nth a.1.yx m).yt),(vi<|(nth a.1.yx m).ya)])) (Lq (l:=[.tmp 79,.tmp 81]) (.r2 U U) [0,1]))<|Le 83 (xB UI)<|Le 84 (Nu xL .here)<|Lk (kJ (k:=(⟨(nth a.1.yx m).yt,(nth a.1.yx m).ya⟩:yR)) (v:=((nth a.1.yx m).yl)) zMo underlying55 .h7)<|WL.nil<|Lt<|Lb<|D2q U<|WL.nil ?_)
      exact N0 ⟨bo,i64 (m+1),(w7 t (⟨(nth a.1.yx m).yt,(nth a.1.yx m).ya⟩:yR)<|(nth a.1.yx m).yl)⟩ h .q<|.s7 .h2 .h2 .h2 .h2 .h2 .h2 .here
     ·exact N2<|Ln<|Ln<|Lv<|Lp t h .q<|.s7 .here .here .h1 .h1 .h1 .here .here
    ·rintro j h
     replace h:=(aZ j).symm.trans h
     refine B0q<|Le 86 (xN z2A (xO .h2)) (Lh 22 (xV (cs:=[vn,vn,vn,vn,vn,vn,vn,vn]) zxK U) fun aa _=>Lk (xR zxL .here)<|Q0n<|WC.b ?_)
     refine cK h fun a1 h=>Ld (Lh 87 (wn (cs:=([]:List yw).flatMap kr) zc5 (Lq (l:=[]) .nil [])) fun bx _=>Le 88 (xB uS)<|Le 89 (Nu zb4 .h4)<|WL.fA 90 (jN (enc:=kr) (l1:=([]:List yw)) (l2:=zm.fS) zc5 .here (Tj hz.pv af) (kZ Tn) a1) ?_)
     rintro⟨z,p⟩ _
     refine Le 91 (xB uS)<|Lk (jl (ds:=[J,K,vs z ((([]:List yw)++zm.fS).length) p,L,M,N,O,P]) zXA .h1)<|Q0n<|jK1 h fun aF a2 h=>L6 (fun x=>(aF x=some r)) (fun x=>[(1,vi zc2),(2,Q),(15,E),(16,F),(19,(.map<|some n)),(22,vp aa)]) (fun x=>[row E 86 3 (g.flatMap tH),row F 83 3 (b.1.flatMap wm),xP n (ga YW) vI j,stb aa 31 [J,K,vs z x.length p,L,M,N,O,P],row (vs z x.length p) 64 4 (x.flatMap kr)]) ?_ ?_
     ·let Y:=(a.1.fP.length:Int);refine B0q<|Le 92 (xB mX)<|Le 93 (Nu z8G .h5)<|Le 94 (wc underlying33)<|Q1n U<|WC.block<|H0 (fun ao e f=>(js a zm aF ao e f=some r)) (fun ao e f=>[(1,vi zc2),(2,Q),(6,vp s),(15,E),(16,F),(19,(.map<|some n)),(22,vp aa),(93,H),(94,vi Y),(95,vi e)]) (fun ao e f=>[row E 86 3 (g.flatMap tH),row F 83 3 (b.1.flatMap wm),row H 37 4 (a.1.fP.flatMap jU),stb s 31 A,xP n (ga YW) vI j,stb aa 31 [J,K,vs z f.length p,L,M,N,O,P],row (vs z f.length p) 64 4 (f.flatMap kr)]) (fun ao e f=>ao) ⟨xT,0,([]:List yw)++zm.fS⟩ h .q (.s7 .h2 .h2 .h4 .h2 .h4 .here .here) ?_
      rintro(_|bp) e f h;·cases h
      rw[js] at h
      refine B1n U<|WC.b<|Lj h (fun a3 h=>?_)<|fun a3 h=>?_
      ·refine Np<|jK1 h fun bq a4 h=>L6 (fun q=>(bq q=some r)) (fun q=>[(1,vi zc2),(2,Q),(6,vp s),(15,E),(16,F),(19,(.map<|some n)),(22,vp aa),(93,H),(94,vi Y),(95,vi e)]) (fun q=>[row E 86 3 (g.flatMap tH),row F 83 3 (b.1.flatMap wm),row H 37 4 (a.1.fP.flatMap jU),stb s 31 A,xP n (ga YW) vI j,stb aa 31 [J,K,vs z q.length p,L,M,N,O,P],row (vs z q.length p) 64 4 (q.flatMap kr)]) ?_ ?_
       ·refine WC.block<|WC.b<|cK h fun ap h=>Ld<|N5 (fun w hw=>Hp.vf .h2 hw (by intro hz';have:=ap;rw[hz'] at this;omega)) ?_
        rintro⟨bz,rfl⟩
        refine Le 97 (xZ z8F ap.1 ap.2 wF)<|Le 98 (wo (cs:=(jU<|nth a.1.fP e)) zdU<|vQ .h2<|wN (enc:=jU) (l:=a.1.fP) (i:=e) (sz:=4) ap.1 ap.2)<|Lh 24 (xV (cs:=[vi 0,vi 0,vi 0,vi 0]) zlY U) ?_
        intro bA _
        let G:=(i64 (((nth a.1.fP e).ya)-(zm.fM.length:Int)));refine Lk (xR zj7 .here)<|Q0n<|B0q<|Le 99 (xB rK)<|Le 100 (Nu xL .here)<|Le 101 (xB uR)<|Le 102 (Nu za6 .h4)<|Le 103 (wc underlying22)<|Q2n U<|B3q U<|Ly true 5 107 (B:=(decide (G>=0))&&(decide (G<f.length))) (fun _ a5=>?_) ?_
        ·exact La U<|Le 109 (xB uS)<|Le 110 (Nu zb4 .h6)<|Le 111 (wc underlying24)<|Q2q U<|Lz (kR a5) U .all
        refine Q0n<|Lj h (fun a6 h=>?_)<|fun a6 h=>?_
        ·refine cK h fun o h=>Lu (fun i=>[14].contains i) []<|Lf 0 U (xB uS)<|Lg 1 U (Nu zb4 .h6)<|Lf 2 U q_m<|Lf 3 U (xB uS)<|Lg 4 U (Nu zb4 .h6)<|Lf 5 U q_m<|Nk (fun w hw=>Hp.vf .h7 hw (by intro hz';have:=o;rw[hz'] at this;omega)) ?_
         rintro⟨aG,rfl⟩
         exact Lf 6 U (xZ zc5 o.1 o.2 wF)<|Lf 7 U (xB dM (hA:=⟨Addr.add_lit _ _ _⟩))<|Lg 8 U (xC xL U<|sj .h7<|(wN (enc:=kr) (l:=f) (i:=i64 (((nth a.1.fP e).ya)-(zm.fM.length:Int))) (sz:=4) o.1 o.2) 3 _ U)<|Lf 9 U (xB dO)<|Lg 10 U (Nu xL .here)<|Lf 11 U oQ<|Lf 12 U (xZ zc5 o.1 o.2 wF)<|Lf 13 U (xB dM (hA:=⟨Addr.add_lit _ _ _⟩))<|Na (i:=14) U (gb (vs:=[(vi<|max ((nth f<|i64 (((nth a.1.fP e).ya)-(zm.fM.length:Int))).fT)<|(nth a.1.fP e).fT)]) (ds:=(f.set ((i64 (((nth a.1.fP e).ya)-(zm.fM.length:Int))):Int).toNat ({(nth f<|i64 (((nth a.1.fP e).ya)-(zm.fM.length:Int))) with fT:=max ((nth f<|i64 (((nth a.1.fP e).ya)-(zm.fM.length:Int))).fT) ((nth a.1.fP e).fT)}:yw)).flatMap kr) px lE .h7 (mu (enc:=kr) (sz:=4) (k:=3) o.1 o.2)<|mt (enc:=kr) (l:=f) (sz:=4) (vs:=[(vi<|max ((nth f<|i64 (((nth a.1.fP e).ya)-(zm.fM.length:Int))).fT)<|(nth a.1.fP e).fT)]) (y:=({(nth f<|i64 (((nth a.1.fP e).ya)-(zm.fM.length:Int))) with fT:=max ((nth f<|i64 (((nth a.1.fP e).ya)-(zm.fM.length:Int))).fT) ((nth a.1.fP e).fT)}:yw)) (k:=3) o.1 o.2<|Nat.le_of_ble_eq_true U)<|N7 .here (u:=(vs (some ⟨aG,0,none⟩) ((f.set ((i64 (((nth a.1.fP e).ya)-(zm.fM.length:Int))):Int).toNat ({(nth f<|i64 (((nth a.1.fP e).ya)-(zm.fM.length:Int))) with fT:=max ((nth f<|i64 (((nth a.1.fP e).ya)-(zm.fM.length:Int))).fT) ((nth a.1.fP e).fT)}:yw)).length) p)) (qD (List.length_set).symm)<|Pi (cs':=[vs zaQ zm.fM.length zaR,vs zaS zm.ye.length zaT,vs (some ⟨aG,0,none⟩) ((f.set ((i64 (((nth a.1.fP e).ya)-(zm.fM.length:Int))):Int).toNat ({(nth f<|i64 (((nth a.1.fP e).ya)-(zm.fM.length:Int))) with fT:=max ((nth f<|i64 (((nth a.1.fP e).ya)-(zm.fM.length:Int))).fT) ((nth a.1.fP e).fT)}:yw)).length) p,vs zaU zm.fK.length zaV,vs zaW zm.yb.length zaX,vs zaY zm.fH.length zaZ,vs zb0 zm.fU.length zb1,vs zb2 zm.yf.length zb3]) .h7 (by simp only[List.length_set]<;>rfl)<|N1<|Lt<|Lp (f.set (G:Int).toNat ({(nth f G) with fT:=max ((nth f G).fT) ((nth a.1.fP e).fT)}:yw)) h .q<|.s7 .h3 .h3 .h3 .h3 .h3 .here .here
        ·exact N3<|Lt<|Lp f h .q<|.s7 .h1 .h1 .h1 .h1 .h1 .h1 .h1
       ·rintro q h
        replace h:=(a4 q).symm.trans h
        exact D2q U<|WL.nil<|N0 ⟨bp,i64 (e+1),q⟩ h .q<|.a7
      ·exact N2<|Ln<|Ln<|Lv<|Lp f h .q<|.s5 .here .here .h2 .h2 .h2
     ·rintro x h
      replace h:=(a2 x).symm.trans h
      refine WC.b<|bK h fun d a7 h=>Ld<|Le 130 (xN z2A (xO .h3))<|Q3q U<|Ol U (Nt call21) .nil (uB hz .nil (.s2 .h4 .here) fun w pz ho la=>ab a7 pz ((ad.mono<|zl).weak (fun _ _ h=>vc zl h)) ((ae.mono<|zl).weak (fun _ _ h=>vA zl h)) (ZA.row (la _ (.head _) _) (RR.flat (enc:=kr)) ⟨w,pz.1⟩) (ag.mono<|zl) ((ah.mono<|zl).weak (fun _ _ h=>ve zl h)) (ai.mono<|zl) ((aj.mono<|zl).weak (fun _ _ h=>vB zl h)) (ak.mono<|zl) ((av.mono<|zl).weak (fun _ _ h=>qe zl h))<|ZA.row (la _ (.tail _<|.head _) _) (RR.flat (enc:=tH)) ⟨w,pz.1⟩) ?_
      rintro bB bC bD bE _
      refine La U<|La U<|La U<|La U<|La U<|La U<|La U<|WL.nil<|Lb<|WC.b<|B3q U<|Ly false 3 140 (B:=(decide (d.2.2≠0))||(decide ((d.2.1.length:Int)≠0))) (hB:=(fun h=>(fc h).symm)) (fun _ a8=>?_) ?_
      ·exact La U<|Le 142 (wc underlying79)<|Q2q U<|Lz (ff a8) U .all
      refine Q0n<|Lj h (fun a9 h=>?_)<|fun a9 h=>?_
      ·exact B1n U<|Nz<|Ll<|oJ h▸Nm results8
      ·refine Np<|jK0 h fun aH ba h=>Nf (aH=some r) ([]) ([]) ?_ ?_
       ·refine WC.b<|cK h fun bb h=>D2q U<|WL.fA 147 (jN (enc:=wm) (l1:=b.1) (l2:=d.1) z3e .h3 (j4 .here) (kZ QZ) bb) ?_
        rintro⟨br,aI⟩ _
        let V:=((b.1++d.1).length:Int);let X:Value:=(vs br ((b.1++d.1).length) aI);refine Le 148 (wc underlying79)<|Q1n U<|WC.block<|Ng (fun aq c=>(jt b d g j aH aq c=some r)) (fun aq c=>[(15,E),(19,(.map<|some n)),(147,X),(148,vi V),(149,vi c)]) (fun aq c=>[row E 86 3 (g.flatMap tH),row X 83 3 ((b.1++d.1).flatMap wm),xP n (ga YW) vI j]) (fun aq c=>aq) ⟨xT,0⟩ h .q (.s3 .h3 .here .h2) ?_
        rintro(_|bs) c h;·cases h
        rw[jt] at h
        refine B1n U<|WC.b<|Lj h (fun bc h=>?_)<|fun bc h=>?_
        ·refine Np<|WC.b<|WC.block<|WC.b<|cK h fun ar h=>Ld<|N5 (fun w hw=>Hp.vf .h1 hw (by intro hz';have:=ar;rw[hz'] at this;omega)) ?_
         rintro⟨aJ,rfl⟩
         refine Le 151 (xZ z3e ar.1 ar.2 wF)<|Le 152 (wo (cs:=(wm<|nth (b.1++d.1) c)) z72<|vQ .h1<|wN (enc:=wm) (l:=b.1++d.1) (i:=c) (sz:=3) ar.1 ar.2) (Lh 30 (xV (cs:=[vi 0,vi 0,vi 0]) zXE U) fun az _=>Lk (xR zfL .here)<|Q0n<|WC.b ?_)
         refine cK h fun au h=>Lu nc []<|Lf 0 U q_m<|Lf 1 U q_m<|Lf 2 U (xB Yv)<|Lg 3 U (Nu xL .here)<|Nk (fun w hw=>Hp.vf .h1 hw (by intro hz';have:=au;rw[hz'] at this;omega)) ?_
         rintro⟨aA,rfl⟩
         let S:Value:=(vi ((nth (b.1++d.1) c).ya));let T:Value:=(vi ((nth g ((nth (b.1++d.1) c).yd)).yt));refine Lf 4 U (xZ zfJ au.1 au.2 wF)<|Lf 5 U (xB dP (hA:=⟨Addr.add_lit _ _ _⟩))<|Lg 6 U (xC xL U<|sj .h1<|(wN (enc:=tH) (l:=g) (i:=((nth (b.1++d.1) c).yd)) (sz:=3) au.1 au.2) 1 _ U)<|Lf 7 U (xB V8)<|Lg 8 U (Nu xL .here)<|Lf 9 U (wl (v:=(.agg #[T,S])) (Lq (l:=[.tmp 160,.tmp 162]) (.r2 U U) [0,1]))<|Lg 10 U (Vz (k:=(⟨(nth g<|(nth (b.1++d.1) c).yd).yt,(nth (b.1++d.1) c).ya⟩:yR)) (dflt:=(0:Int)) zMo underlying55 jc U U U .h3)<|Lf 11 U q_m<|Lf 12 U mK<|Lf 13 U mK<|Lf 14 U q_z<|Lf 15 U q_z<|N1<|Lb<|WC.b ?_
         obtain⟨bd,h⟩:=xI h
         let C:Value:=(.bool (wS j (⟨(nth g ((nth (b.1++d.1) c).yd)).yt,(nth (b.1++d.1) c).ya⟩:yR)));let D:Value:=(vi (xK j (⟨(nth g ((nth (b.1++d.1) c).yd)).yt,(nth (b.1++d.1) c).ya⟩:yR) 0));let R:Value:=(.bool (!(wS j (⟨(nth g ((nth (b.1++d.1) c).yd)).yt,(nth (b.1++d.1) c).ya⟩:yR))));let W:Value:=(vs (some ⟨aA,0,none⟩) g.length aC);let Aa:Value:=(vi ((nth (b.1++d.1) c).yd));refine Lu nc []<|Lf 0 U q_m<|Lf 1 U (Yo U)<|Lf 2 U q_m<|Nd (fuel':=0) [(15,W),(19,(.map<|some n)),(147,vs (some ⟨aJ,0,none⟩) ((b.1++d.1).length) aI),(148,vi V),(149,vi c),(150,(.bool<|decide (c<V))),(151,(.pointer<|some ⟨aJ,(c:Int).toNat*3,none⟩)),(152,.agg #[Aa,S,(vi<|(nth (b.1++d.1) c).yc)]),(30,vp az),(154,(.map<|some n)),(155,W),(156,vp az),(157,Aa),(158,(.pointer<|some ⟨aA,(((nth (b.1++d.1) c).yd):Int).toNat*3,none⟩)),(159,(.pointer<|some ⟨aA,(((nth (b.1++d.1) c).yd):Int).toNat*3+1,none⟩)),(160,T),(161,(.pointer<|some ⟨az,1,none⟩)),(162,S),(163,.agg #[T,S]),(164,.tuple #[D,C]),(153,.tuple #[D,C]),(165,D),(166,C),(31,D),(32,C),(167,C),(168,R),(169,R),(181,.bool ((!(wS j (⟨(nth g<|(nth (b.1++d.1) c).yd).yt,(nth (b.1++d.1) c).ya⟩:yR)))||(decide ((i64 (((nth (b.1++d.1) c).yc)-((nth g<|(nth (b.1++d.1) c).yd).yc)))>(xK j (⟨(nth g<|(nth (b.1++d.1) c).yd).yt,(nth (b.1++d.1) c).ya⟩:yR) 0)))))] (vE 15 (dn 15)) ?_<|fun aK=>?_
         rotate_left
         ·rcases Bool.eq_false_or_eq_true (!(wS j (⟨(nth g ((nth (b.1++d.1) c).yd)).yt,(nth (b.1++d.1) c).ya⟩:yR))) with hb' | hb'
          ·have aB:=hb';clear hb'
           refine L3 (i:=169) U aB<|Lm 3 U<|Lm 4 U<|Lm 5 U<|Lm 6 U<|Lm 7 U<|Lm 8 U<|Lm 9 U<|Lm 10 U<|Lm 11 U<|Lm 12 U<|Lm 13 U<|Lf 14 U qO<|Lw .a4 ?_ aK
           exact .t 27<|.r2 (zx<|Eq.symm aB)<|zx<|fc aB
          ·have ax:=hb';clear hb'
           have ay:=bd ax
           refine L3 (i:=169) U ax<|Lf 3 U (xB V7)<|Lg 4 U (Nu xL .here)<|Lf 5 U q_m<|Lf 6 U (xB Yv)<|Lg 7 U (Nu xL .here)<|Lf 8 U (xZ zfJ ay.1 ay.2 wF)<|Lf 9 U (xB cz (hA:=⟨Addr.add_lit _ _ _⟩))<|Lg 10 U (xC xL U<|sj .h1<|(wN (enc:=tH) (l:=g) (i:=((nth (b.1++d.1) c).yd)) (sz:=3) ay.1 ay.2) 0 _ U)<|Lf 11 U uH<|Lf 12 U q_m<|Lf 13 U rV<|Lf 14 U qP<|Lw .a4 ?_ aK
           exact .t 27<|.r2 (zx<|Eq.symm ax)<|zx<|ff ax
         refine N1<|Lb<|Lj h (fun be h=>?_)<|fun be h=>?_
         ·exact B1n U<|Nz<|Lx<|Ll<|Ll<|Lx<|Ll<|oJ h▸Nm results8
         ·exact N3<|Lt<|Lb<|D2q U<|WL.nil<|N0 ⟨bs,i64 (c+1)⟩ h .q<|.s3 .h1 .h1 .h1
        ·exact N2<|Ln<|Ln<|Lv<|Lp () h .nil .nil
       ·rintro  h
        replace h:=ba.symm.trans h
        exact WC.b<|bK h fun bJ bf h=>Ld<|Ns call11 hz (oo bf)<|Q1n U<|Nz<|oJ h▸Nm results8
end Go.Proofs.YthjnhebofpebpaaGreat
