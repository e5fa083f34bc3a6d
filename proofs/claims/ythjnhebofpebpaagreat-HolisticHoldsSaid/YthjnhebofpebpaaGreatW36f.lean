/- A part of this claim's proof: models of functions, walks, plain laws. No conditions. -/
import Derived.Test.YthjnhebofpebpaaGreatW36e
set_option linter.all false
namespace Go.Proofs.YthjnhebofpebpaaGreat
open Go Go.RowKit Sep Tryz
set_option maxRecDepth 30000
set_option maxHeartbeats 4000000
def ja(a:List zw)(zrf:zw->zw->Option Int):Option (List zw):=
 (fj (u64 (a.length:Int))).bind fun b=>(mo a 0 (a.length:Int) b zrf).bind fun c=>some c
theorem oh{Z b c}(zrg zA7){a}(zrf){r}(h:ja a zrf=some r){Ny}(hz:Pz [row (vs b a.length c) 53 3 (a.flatMap fI)] Ny Z)(j:∀ args w,(callFunc zrg args).run Tryz.prog w = .ok (.enter zrg args) w)(k:∀ w:World,PZ [] w Z->∀(x0:zw) (x1:zw) (r:Int),zrf x0 x1=some r->Calls Tryz.prog zrg (([.agg #[vi x0.yt,vi x0.ya,vi x0.yl],.agg #[vi x1.yt,vi x1.ya,vi x1.yl]]:List Value)++zA7).toArray w fun e w'=>e = .returned (vi r)/\Hp [] w w' [])(iF:Ho Ny [row (vs b a.length c) 53 3 (a.flatMap fI)]):
  Calls Tryz.prog 61 #[vs b a.length c,.func (.func zrg) #[] (zA7).toArray] Ny fun e w'=>e = .returned (.tuple #[])/\(r.length=a.length)/\Hp (fps [row (vs b a.length c) 53 3 (a.flatMap fI)]) Ny w' [row (vs b r.length c) 53 3 (r.flatMap fI)]:=by
 unfold ja at h
 refine Nj func61 U iF U<|B1q U<|Le 6 (wc underlying38)<|Q1n U<|bK h fun d l h=>bK h fun f m h=>D3q U<|Le 10 (fF underlying3 underlying147)<|Ns call57 hz (fun pz=>oZ  (zba:=(u64 (a.length:Int))) (r:=d) pz  l)<|La U<|Nc U (Nt call110) (.cons .here .nil) (cc hz (.cons .here .nil) fun w pz ho=>oM (znx:=b) (zny:=c) (zwa:=zrg) (zIn:=zA7) (z7C:=a) (zw8:=0) (zw9:=(a.length:Int)) (zre:=d) (znw:=zrf) (r:=f) pz j k m ho) ?_
 rintro  g
 exact L9 (i:=0) U (u:=(vs b f.length c)) (qD g.symm)<|WL.nil<|oJ h▸Nh results61 .nil fun w hw=>⟨ms,g.trans U,hw.sub (.cons .here .nil)⟩
def mB(b:List ys)(c:(List (z6×Int))->Option (List zw)):Nat->Int->(List (z6×Int))->Option (List zw)
 | 0,_,_=>none
 | e+1,a,d=>if decide (a>=0) then chk (0<=a/\a<b.length) (mB b c e (i64 (a-1)) (w7 d (⟨(nth b a).ya,(nth b a).fQ⟩:z6) ((nth b a).yl))) else c d
def mC(b:List (List zd))(a:Int)(j:zy)(e:List (z6×Int))(i:(List zw)->Option (List zw)):Nat->(List zw)->Int->(List (Int×Int))->Option (List zw)
 | 0,_,_,_=>none
 | k+1,f,c,d=>if decide (c<((nth b a).length:Int)) then sm (fun(l:List zw) (m:List (Int×Int))=>mC b a j e i k l (i64 (c+1)) m) fun h=>chk (0<=c/\c<((nth b a).length:Int)) (chk ((wS d ((nth (nth b a) c).fX))=false->((0:Int)<=0/\0<((nth b a).length:Int))) (if (wS d ((nth (nth b a) c).fX))||(decide (((nth (nth b a) c).fX)=((nth (nth b a) 0).ya))) then h f d else(mw (⟨(nth (nth b a) c).ya,(nth (nth b a) c).fX,(nth (nth b a) c).fQ⟩:zd)).bind fun g=>if (decide (((nth (nth b a) c).fX)>=0))&&(decide (((nth (nth b a) c).fX)<j.fM.length)) then chk ((((f++([(⟨a,(nth (nth b a) c).fX,xK (w7 d ((nth (nth b a) c).fX) (i64 ((xK d ((nth (nth b a) c).ya) 0)+(xK e g 0)))) ((nth (nth b a) c).fX) 0⟩:zw)]:List zw)).length:Nat):Int)*24<=140737488355328/\(((f++([(⟨a,(nth (nth b a) c).fX,xK (w7 d ((nth (nth b a) c).fX) (i64 ((xK d ((nth (nth b a) c).ya) 0)+(xK e g 0)))) ((nth (nth b a) c).fX) 0⟩:zw)]:List zw)).length:Nat):Int)<=4611686018427387904) (h (f++([(⟨a,(nth (nth b a) c).fX,xK (w7 d ((nth (nth b a) c).fX) (i64 ((xK d ((nth (nth b a) c).ya) 0)+(xK e g 0)))) ((nth (nth b a) c).fX) 0⟩:zw)]:List zw)) (w7 d ((nth (nth b a) c).fX) (i64 ((xK d ((nth (nth b a) c).ya) 0)+(xK e g 0))))) else h f (w7 d ((nth (nth b a) c).fX) (i64 ((xK d ((nth (nth b a) c).ya) 0)+(xK e g 0)))))) else i f
def mD(c:List (List zd))(g:zy)(e:List (z6×Int))(f:(List zw)->Option (List zw)):Nat->(List zw)->Int->Option (List zw)
 | 0,_,_=>none
 | h+1,b,a=>if decide (a<c.length) then qt (fun(i:List zw)=>mD c g e f h i (i64 (a+1))) fun j=>chk (0<=a/\a<c.length) (qt (fun(k:List zw)=>(ja k (fun y0 y1=>kG y0 y1)).bind fun d=>chk (((b++d).length:Int)*24<=140737488355328/\((b++d).length:Int)<=4611686018427387904) (j (b++d))) fun l=>mC c a g e l xT ([]:List zw) 0 ([]:List (Int×Int))) else f b
def sC(h:zy)(b:List (List zd))(a:List ys):Option (List zw):=
 (wU b (fun y0=>fZ y0)).bind fun c=>if c then some ([]:List zw) else qt (fun(d:List (z6×Int))=>qt (fun(e:List zw)=>some e) fun f=>mD b h d f xT ([]:List zw) 0) fun g=>mB a g xT (i64 ((a.length:Int)-1)) ([]:List (z6×Int))
theorem aR{Z ai aj ak al am an ao ap aq ar au av aw ax ay az aA aB aC aD d b q r}(h:sC d b q=some r){Ny}(hz:PZ [] Ny Z)(bw:ZS Z 4 (kB Z) ai aj d.fM)(bx:ZS Z 4 (g8 Z) ak al d.ye)(bz:ZS Z 4 (rq kr) am an d.fS)(bA:ZS Z 4 (rq gH) ao ap d.fK)(bB:ZS Z 7 (g7 Z) aq ar d.yb)(bC:ZS Z 5 (rq gf) au av d.fH)(bD:ZS Z 3 (g9 Z) aw ax d.fU)(bE:ZS Z 4 (rq gg) ay az d.yf)(aI:ZS Z 1 (fm Z) aA aB b)(aE:ZS Z 4 (rq jU) aC aD q):
  Calls Tryz.prog 28 #[.agg #[vs ai d.fM.length aj,vs ak d.ye.length al,vs am d.fS.length an,vs ao d.fK.length ap,vs aq d.yb.length ar,vs au d.fH.length av,vs aw d.fU.length ax,vs ay d.yf.length az],vs aA b.length aB,vs aC q.length aD] Ny fun e w'=>∃ aJ:Option Addr,∃ aK:Nat,e = .returned (vs aJ r.length aK)/\True/\Hp [] Ny w' [row (vs aJ r.length aK) 53 3 (r.flatMap fI)]:=by
 unfold sC at h
 refine Nl func28 U U ?_
 let A:List Value:=[vs ai d.fM.length aj,vs ak d.ye.length al,vs am d.fS.length an,vs ao d.fK.length ap,vs aq d.yb.length ar,vs au d.fH.length av,vs aw d.fU.length ax,vs ay d.yf.length az];refine B0q<|Lh 3 (we (cs:=A)) ?_
 intro m _
 refine Q1n U<|WC.b<|WC.b<|bK h fun bY aS h=>D1q U<|Ns call50 hz (fun pz=>mr (zm3:=58) (zuh:=[]) (zm2:=(fun y0=>fZ y0)) aS pz aI call58<|fun w' hz' y0 ga0 gc0 r DI hr=>Vf hr hz' DI)<|Q0n<|Lj h (fun aT h=>?_)<|fun aT h=>?_
 ·exact B1n U<|Nz<|Ll<|WX.nilRow 53 3<|oJ h▸Li results28 (.tmp U .nil) fun w hw=>⟨none,0,w3,trivial,hw.sub (.cons .here .nil)⟩
 ·refine Np<|B0q (Lh 20 (kq (ga wd)<|Value.int .i64) fun n _=>Q1n U ?_)
  obtain⟨aL,aU,h⟩:=wg h
  let E:Value:=(vs aA b.length aB);refine L6 (fun g=>(aL g=some r)) (fun g=>[(1,E),(3,vp m),(7,(.map<|some n))]) (fun g=>[stb m 31 A,xP n (ga wd) vI g]) ?_ ?_
  ·refine B1q U<|Le 22 (wc underlying33)<|Q2n U<|WC.block<|H0 (fun ae o L=>(mB q aL ae o L=some r)) (fun ae o L=>[(1,E),(2,vs aC q.length aD),(3,vp m),(7,(.map<|some n)),(8,vi o)]) (fun ae o L=>[stb m 31 A,xP n (ga wd) vI L]) (fun ae o L=>ae) ⟨xT,i64 ((q.length:Int)-1),([]:List (z6×Int))⟩ h .q (.s2 .h1 .here) ?_
   rintro(_|bp) o L h;·cases h
   rw[mB] at h
   refine WC.b<|B2n U<|Lj h (fun aV h=>?_)<|fun aV h=>?_
   ·refine Np<|WC.b<|WC.block<|cK h fun aF h=>Lu (fun i=>[17].contains i) []<|Lf 0 U q_m<|Lf 1 U q_m<|Lf 2 U q_m<|L7 (j:=3) (Z:=Z) (Pr:=(rq jU)) z8F aE aF ?_
    rintro bF bG aW bH rfl
    refine Lf 4 U (xB rK)<|Lg 5 U (xC xL U<|wt hz.pv aW)<|Lf 6 U q_m<|Lf 7 U q_m<|L7 (j:=8) (Z:=Z) (Pr:=(rq jU)) z8F aE aF ?_
    rintro bI bJ aX bL rfl
    refine Lf 9 U (xB lQ)<|Lg 10 U (xC xL U<|wt hz.pv aX)<|Lf 11 U (wl (v:=(.agg #[(vi<|(nth q o).ya),(vi<|(nth q o).fQ)])) (Lq (l:=[.tmp 33,.tmp 38]) (.r2 U U) [0,1]))<|Lf 12 U q_m<|Lf 13 U q_m<|L7 (j:=14) (Z:=Z) (Pr:=(rq jU)) z8F aE aF ?_
    rintro bM bN aY bO rfl
    exact Lf 15 U (xB dN)<|Lg 16 U (xC xL U<|wt hz.pv aY)<|Na (i:=17) U (kJ (k:=(⟨(nth q o).ya,(nth q o).fQ⟩:z6)) (v:=((nth q o).yl)) zj5 underlying117 .h1)<|N1<|Lt<|Lb<|D3q U<|WL.nil<|N0 ⟨bp,i64 (o-1),(w7 L (⟨(nth q o).ya,(nth q o).fQ⟩:z6)<|(nth q o).yl)⟩ h .q<|.s2 .h1 .here
   ·exact N2<|Ln<|Ln<|Lv<|Lp L h .q<|.a2
  ·rintro g h
   replace h:=(aU g).symm.trans h
   refine B1n U<|jK1 h fun aM aZ h=>Ni (fun M R S=>(aM M=some r)) (fun M R S=>[(9,vs R M.length S)]) (fun M R S=>[row (vs R M.length S) 53 3 (M.flatMap fI)]) ?_ ?_
   ·let I:Value:=(vi (b.length:Int));refine B1q U<|Le 46 (wc underlying32)<|Q1n U<|WC.block<|WC.nilRow 53 3<|Oe (fun af p a N O=>(mD b d g aM af p a=some r)) (fun af p a N O=>[(3,vp m),(7,(.map<|some n)),(9,vs N p.length O),(45,E),(46,I),(47,vi a)]) (fun af p a N O=>[row (vs N p.length O) 53 3 (p.flatMap fI),stb m 31 A,xP n (ga wd) vI g]) (fun af p a N O=>af) ⟨xT,([]:List zw),0,none,0⟩ h .q .a3 ?_
    rintro(_|bq) p a N O h;·cases h
    rw[mD] at h
    refine B1n U<|WC.b<|Lj h (fun a0 h=>?_)<|fun a0 h=>?_
    ·refine Np<|jK1 h fun br a1 h=>Ni (fun y T V=>(br y=some r)) (fun y T V=>[(3,vp m),(7,(.map<|some n)),(9,vs T y.length V),(45,E),(46,I),(47,vi a)]) (fun y T V=>[row (vs T y.length V) 53 3 (y.flatMap fI),stb m 31 A,xP n (ga wd) vI g]) ?_ ?_
     ·refine WC.block<|WC.b<|cK h fun a2 h=>D1q U<|L2 (Z:=Z) (Pr:=(fm Z)) zc4 aI a2 ?_
      rintro bP bQ a3 bR ⟨bs,bt,rfl,aN⟩
      refine Le 51 (xC zb5 U<|kz hz.pv a3)<|Q2n U<|B0q (Lh 52 (kq vI<|Value.int .i64) fun W _=>Q1n U<|B1n U ?_)
      obtain⟨aO,a4,h⟩:=wg h
      let F:Value:=(vs N p.length O);refine Ni (fun P X Y=>(aO P=some r)) (fun P X Y=>[(3,vp m),(7,(.map<|some n)),(9,F),(13,vs X P.length Y),(45,E),(46,I),(47,vi a)]) (fun P X Y=>[row F 53 3 (p.flatMap fI),row (vs X P.length Y) 53 3 (P.flatMap fI),stb m 31 A,xP n (ga wd) vI g]) ?_ ?_
      ·let D:Value:=(vs bs ((nth b a).length) bt);refine B1q U<|Le 54 (wc underlying58)<|Q1n U<|WC.block<|WC.nilRow 53 3<|O0 (fun ag s c f t x=>(mC b a d g aO ag s c f=some r)) (fun ag s c f t x=>[(3,vp m),(7,(.map<|some n)),(9,F),(10,vi a),(11,D),(12,(.map<|some W)),(13,vs t s.length x),(45,E),(46,vi (b.length:Int)),(47,vi a),(53,D),(54,vi ((nth b a).length:Int)),(55,vi c)]) (fun ag s c f t x=>[row F 53 3 (p.flatMap fI),row (vs t s.length x) 53 3 (s.flatMap fI),stb m 31 A,xP n (ga wd) vI g,xP W vI vI f]) (fun ag s c f t x=>ag) ⟨xT,([]:List zw),0,([]:List (Int×Int)),none,0⟩ h .q (.s5 .h2 .here .h1 .h1 .here) ?_
       rintro(_|bu) s c f t x h;·cases h
       rw[mC] at h
       refine B1n U<|WC.b<|Lj h (fun a5 h=>?_)<|fun a5 h=>?_
       ·refine Np<|jK2 h fun bv a6 h=>O9 (fun z Q aa ab=>(bv z Q=some r)) (fun z Q aa ab=>[(3,vp m),(7,(.map<|some n)),(9,F),(10,vi a),(11,D),(12,(.map<|some W)),(13,vs aa z.length ab),(45,E),(46,vi (b.length:Int)),(47,vi a),(53,D),(54,vi ((nth b a).length:Int)),(55,vi c)]) (fun z Q aa ab=>[row F 53 3 (p.flatMap fI),row (vs aa z.length ab) 53 3 (z.flatMap fI),stb m 31 A,xP n (ga wd) vI g,xP W vI vI Q]) ?_ ?_
        ·refine WC.block<|WC.b<|cK h fun a7 h=>Ld<|L2 (Z:=Z) (Pr:=(rq mQ)) z7O aN a7 ?_
         rintro a8 bS a9 bT rfl
         refine Le 58 (xN z5e (qB hz.pv a9)) (Lh 15 (xV (cs:=[vi 0,vi 0,vi 0]) zdR U) fun aP _=>Lk (xR zc6 .here)<|Q0n<|WC.b<|B1q U<|Le 61 (xB mH)<|Le 62 (Nu xL .here)<|Le 63 (Vz (k:=((nth (nth b a) c).fX)) (dflt:=(0:Int)) gP underlying148 jc U U U .h5)<|Q5n U<|WC.b ?_)
         obtain⟨ba,h⟩:=xI h
         let C:Value:=(.bool (wS f ((nth (nth b a) c).fX)));let H:Value:=(vi (xK f ((nth (nth b a) c).fX) 0));let J:=((nth b a).length:Int);let K:Value:=(vi ((nth (nth b a) c).fX));refine Lu nc []<|Lf 0 U q_m<|Lf 1 U q_m<|Nd (fuel':=0) [(3,vp m),(7,(.map<|some n)),(9,F),(10,vi a),(11,D),(12,(.map<|some W)),(13,vs t s.length x),(45,E),(46,I),(47,vi a),(53,D),(54,vi J),(55,vi c),(56,(.bool<|decide (c<J))),(57,vq a8),(58,.agg #[(vi<|(nth (nth b a) c).ya),K,(vi<|(nth (nth b a) c).fQ)]),(15,vp aP),(60,(.map<|some W)),(61,(.pointer<|some ⟨aP,1,none⟩)),(62,K),(63,.tuple #[H,C]),(59,.tuple #[H,C]),(64,H),(65,C),(16,H),(17,C),(66,C),(67,C),(75,.bool ((wS f<|(nth (nth b a) c).fX)||(decide (((nth (nth b a) c).fX)=((nth (nth b a) 0).ya)))))] (vE 10 (dn 10)) ?_<|fun aQ=>?_
         rotate_left
         ·rcases Bool.eq_false_or_eq_true (wS f ((nth (nth b a) c).fX)) with hb' | hb'
          ·have aG:=hb';clear hb'
           refine L3 (i:=67) U aG<|Lm 2 U<|Lm 3 U<|Lm 4 U<|Lm 5 U<|Lm 6 U<|Lm 7 U<|Lm 8 U<|Lf 9 U qO<|Lw .a6 ?_ aQ
           exact .t 27<|.r2 (zx<|Eq.symm aG)<|zx<|fc aG
          ·have ah:=hb';clear hb'
           have bb:=ba ah
           refine L3 (i:=67) U ah<|Lf 2 U (xB mH)<|Lg 3 U (Nu xL .here)<|Lf 4 U q_m<|L7 (j:=5) (Z:=Z) (Pr:=(rq mQ)) z7O aN bb ?_
           rintro bU bV bc bW rfl
           refine Lf 6 U (xB kC)<|Lg 7 U (xC xL U<|wt hz.pv bc)<|Lf 8 U (eI U U)<|Lf 9 U qP<|Lw .a6 ?_ aQ
           exact .t 27<|.r2 (zx<|Eq.symm ah)<|zx<|ff ah
         refine N1<|Lb<|Lj h (fun bd h=>?_)<|fun bd h=>?_
         ·exact N2<|Ln<|Lv<|Lp ⟨s,f,t,x⟩ h .q<|.s5 .h1 .h1 .h1 .h1 .h1
         ·refine Np<|WC.b<|bK h fun ad be h=>Lu (fun i=>[12].contains i) []<|Lf 0 U q_m<|Lf 1 U (xB mH)<|Lg 2 U (Nu xL .here)<|Lf 3 U q_m<|Lf 4 U (xB kC)<|Lg 5 U (Nu xL .here)<|Lg 6 U (jk (k:=((nth (nth b a) c).ya)) (dflt:=(0:Int)) gP underlying148 jc .h5)<|Lf 7 U q_m<|Lg 8 U (xN z5e (xO .here))<|L4 9 U (Nt call60) (cc hz .nil fun w pz ho=>tL be pz )<|Lg 10 U (jk (k:=ad) (dflt:=(0:Int)) zj5 underlying117 jc .h4)<|Lf 11 U uG<|Na (i:=12) U (kJ (k:=((nth (nth b a) c).fX)) (v:=i64 ((xK f ((nth (nth b a) c).ya) 0)+(xK g ad 0))) gP underlying148 .h5)<|N1<|Lb<|B0q<|Le 88 (xB mH)<|Le 89 (Nu xL .h1)<|Q2q U<|Ly true 6 91 (B:=(decide (((nth (nth b a) c).fX)>=0))&&(decide (((nth (nth b a) c).fX)<d.fM.length))) (fun _ bf=>?_) ?_
          ·exact Le 92 (xB mH)<|Le 93 (Nu xL .h1)<|Le 94 (xB uR)<|Le 95 (Nu za6 .h4)<|Le 96 (wc underlying22)<|Q2q U<|Lz (kR bf) U .all
          refine Q0n<|Lj h (fun bg h=>?_)<|fun bg h=>?_
          ·refine cK h fun bh h=>D2q U<|Le 101 (xB mH)<|Le 102 (Nu xL .h1)<|La U<|Le 104 (xB mH)<|Le 105 (Nu xL .h1)<|Le 106 (jk (k:=((nth (nth b a) c).fX)) (dflt:=(0:Int)) gP underlying148 jc .here)<|Le 107 (wl (v:=(.agg #[vi a,(vi<|(nth (nth b a) c).fX),(vi<|xK (w7 f ((nth (nth b a) c).fX)<|i64 ((xK f ((nth (nth b a) c).ya) 0)+(xK g ad 0))) ((nth (nth b a) c).fX) 0)])) (Lq (l:=[.tmp 100,.tmp 102,.tmp 106]) (.r3 U U U) [0,1,2]))<|Lh 108 (wn (cs:=([(⟨a,(nth (nth b a) c).fX,xK (w7 f ((nth (nth b a) c).fX)<|i64 ((xK f ((nth (nth b a) c).ya) 0)+(xK g ad 0))) ((nth (nth b a) c).fX) 0⟩:zw)]:List zw).flatMap fI) zlZ (Lq (l:=[.tmp 107]) (.cons U .nil) [0])) ?_
           intro bX _
           let G:=(i64 ((xK f ((nth (nth b a) c).ya) 0)+(xK g ad 0)));refine WL.fA 109 (jN (enc:=fI) (l1:=s) (l2:=([(⟨a,(nth (nth b a) c).fX,xK (w7 f ((nth (nth b a) c).fX) G) ((nth (nth b a) c).fX) 0⟩:zw)]:List zw)) zlZ .h4 (j4 .here) (kZ QX) bh) ?_
           rintro⟨bi,bj⟩ _
           exact La U<|WL.nil<|Lt<|Lp ⟨s++([(⟨a,(nth (nth b a) c).fX,xK (w7 f ((nth (nth b a) c).fX) G) ((nth (nth b a) c).fX) 0⟩:zw)]:List zw),w7 f ((nth (nth b a) c).fX) G,bi,bj⟩ h .q<|.s5 .h4 .here .h3 .h3 .h1
          ·exact N3<|Lt<|Lp ⟨s,(w7 f ((nth (nth b a) c).fX)<|i64 ((xK f ((nth (nth b a) c).ya) 0)+(xK g ad 0))),t,x⟩ h .q<|.s5 .h2 .h2 .h2 .h2 .here
        ·rintro z Q aa ab h
         replace h:=(a6 z Q).symm.trans h
         exact D2q U<|WL.nil<|N0 ⟨bu,z,i64 (c+1),Q,aa,ab⟩ h .q<|.a5
       ·exact N2<|Ln<|Ln<|Lv<|Lp ⟨s,t,x⟩ h .q<|.a4
      ·rintro P X Y h
       replace h:=(a4 P).symm.trans h
       refine WC.b<|bK h fun aH bk h=>D1q U<|Nc U (Nt call61) (.cons .h1 .nil) (cc hz (.cons .h1 .nil) fun w pz ho=>oh (zrg:=62) (zA7:=[]) (zrf:=(fun y0 y1=>kG y0 y1)) bk pz call62 (fun w' hz' y0 y1  r  hr=>Vg hr hz' ) ho) ?_
       rintro  bl
       refine L9 (i:=13) U (u:=(vs X aH.length Y)) (qD bl.symm)<|Q0n<|cK h fun bm h=>D2q U<|WL.fA 115 (jN (enc:=fI) (l1:=p) (l2:=aH) zlZ .h1 (j4 .here) (kZ QX) bm) ?_
       rintro⟨bn,bo⟩ _
       exact La U<|WL.nil<|Lt<|Lp ⟨p++aH,bn,bo⟩ h .q<|.s3 .here .h1 .h1
     ·rintro y T V h
      replace h:=(a1 y).symm.trans h
      exact D2q U<|WL.nil<|N0 ⟨bq,y,i64 (a+1),T,V⟩ h .q<|.a3
    ·exact N2<|Ln<|Ln<|Lv<|Lp ⟨p,N,O⟩ h (.cons U .nil)<|.cons .here .nil
   ·rintro M R S h
    replace h:=(aZ M).symm.trans h
    exact B2n U<|Nz<|oJ h▸Li results28 (.tmp U .nil) fun w hw=>⟨R,S,w3,trivial,hw.sub (.cons .here .nil)⟩
def jS(c:List z6×Int)(e:zy)(f:List (List zd))(g:(List ys)->Option (yM×Int)):Nat->Int->Int->(List ys)->(List (ym×z2))->(List (z6×Int))->Option (yM×Int)
 | 0,_,_,_,_,_=>none
 | h+1,b,i,d,j,k=>if decide (b<c.1.length) then chk (0<=b/\b<c.1.length) ((uE e f j k i (⟨(nth c.1 b).ya,(nth c.1 b).fQ⟩:z6)).bind fun a=>chk (((d++([a.1]:List ys)).length:Int)*32<=140737488355328/\((d++([a.1]:List ys)).length:Int)<=4611686018427387904) (if decide (a.2.1≠0) then some ((⟨([]:List ys),([]:List zw)⟩:yM),a.2.1) else jS c e f g h (i64 (b+1)) a.2.1 (d++([a.1]:List ys)) a.2.2.1 a.2.2.2)) else g d
def tT(a:zy)(e:Int)(b:List (List zd)):Option (yM×Int):=
 (gc a e b).bind fun f=>if !f then some ((⟨([]:List ys),([]:List zw)⟩:yM),310) else(qR a.yb (fun y0=>ky y0)).bind fun g=>if g then some ((⟨([]:List ys),([]:List zw)⟩:yM),350) else(ux b).bind fun c=>if decide (c.2≠0) then some ((⟨([]:List ys),([]:List zw)⟩:yM),c.2) else qt (fun(h:List ys)=>(ww h (fun y0 y1=>qY y0 y1)).bind fun d=>(sC a b d).bind fun i=>some ((⟨d,i⟩:yM),0)) fun j=>jS c a b j xT 0 0 ([]:List ys) ([]:List (ym×z2)) ([]:List (z6×Int))
theorem Wg{Z Q R S T V W X Y ab ad ae af ag ah ai aj ak al a aw s r}(h:tT a aw s=some r){Ny}(hz:PZ [] Ny Z)(am:ZS Z 4 (kB Z) Q R a.fM)(an:ZS Z 4 (g8 Z) S T a.ye)(ao:ZS Z 4 (rq kr) V W a.fS)(ap:ZS Z 4 (rq gH) X Y a.fK)(z:ZS Z 7 (g7 Z) ab ad a.yb)(aq:ZS Z 5 (rq gf) ae af a.fH)(ar:ZS Z 3 (g9 Z) ag ah a.fU)(au:ZS Z 4 (rq gg) ai aj a.yf)(B:ZS Z 1 (fm Z) ak al s):
  Calls Tryz.prog 18 #[.agg #[vs Q a.fM.length R,vs S a.ye.length T,vs V a.fS.length W,vs X a.fK.length Y,vs ab a.yb.length ad,vs ae a.fH.length af,vs ag a.fU.length ah,vs ai a.yf.length aj],vi aw,vs ak s.length al] Ny fun e w'=>∃ ax:Option Addr,∃ ay:Nat,∃ az:Option Addr,∃ aA:Nat,e = .returned (.tuple #[.agg #[vs ax r.1.fP.length ay,vs az r.1.yx.length aA],vi r.2])/\True/\Hp [] Ny w' [row (vs ax r.1.fP.length ay) 37 4 (r.1.fP.flatMap jU),row (vs az r.1.yx.length aA) 53 3 (r.1.yx.flatMap fI)]:=by
 unfold tT at h
 refine Nl func18 U U ?_
 let D:Value:=(vs Q a.fM.length R);let E:Value:=(vs S a.ye.length T);let F:Value:=(vs V a.fS.length W);let G:Value:=(vs X a.fK.length Y);let H:Value:=(vs ab a.yb.length ad);let I:Value:=(vs ae a.fH.length af);let J:Value:=(vs ag a.fU.length ah);let K:Value:=(vs ai a.yf.length aj);let A:List Value:=[D,E,F,G,H,I,J,K];refine B0q<|Lh 3 (we (cs:=A)) ?_
 intro M _
 refine Lh 6 (xV (cs:=[vn,vn]) zj4 U) fun N _=>Q1n U<|WC.b<|WC.b<|bK h fun a3 aH h=>Ld<|Le 14 (xN z2A (xO .h1))<|Q2q U<|Ns call22 hz (fun pz=>tK aH pz am an ao ap z aq ar au B)<|Q1n U<|Lj h (fun aI h=>?_)<|fun aI h=>?_
 ·exact B0q<|Le 19 (wl (v:=(.agg #[vn,vn])) (Lq (l:=[]) .nil []))<|Lk (xR z9s .here)<|Q1n U<|Nz<|Ll<|WX.nilRow 37 4<|WX.nilRow 53 3<|oJ h▸Li results18 (.agg U z9t U (xO .h2)<|.tmp U .nil) fun w hw=>⟨none,0,none,0,qc,trivial,hw.sub (.s2 .h1 .here)⟩
 ·refine Np<|WC.b<|WC.b<|bK h fun a4 aJ h=>Ld<|Le 20 (xB mW)<|Le 21 (Nu z8E .h1)<|Ns call39 hz (fun pz=>pQ (zpy:=40) (zyA:=[]) (zpx:=(fun y0=>ky y0)) aJ pz z call40<|fun w' hz' y0 ga0 gc0 r DI hr=>YJ hr hz' DI)<|Q0n<|Lj h (fun aK h=>?_)<|fun aK h=>?_
  ·exact B0q<|Le 23 (wl (v:=(.agg #[vn,vn])) (Lq (l:=[]) .nil []))<|Lk (xR z9s .here)<|Q1n U<|Nz<|Ll<|WX.nilRow 37 4<|WX.nilRow 53 3<|oJ h▸Li results18 (.agg U z9t U (xO .h2)<|.tmp U .nil) fun w hw=>⟨none,0,none,0,qc,trivial,hw.sub (.s2 .h1 .here)⟩
  ·refine Np<|WC.b<|bK h fun n aL h=>D1q U<|H4 U (Nt call42) .nil (cc hz .nil fun w pz ho=>aa aL pz B) ?_
   rintro aW aX _
   refine Q5n U<|WC.b<|B2n U<|Lj h (fun aM h=>?_)<|fun aM h=>?_
   ·exact B0q<|Le 31 (wl (v:=(.agg #[vn,vn])) (Lq (l:=[]) .nil []))<|La U<|Lk (xR z9s .h1)<|Q1n U<|Nz<|Ll<|WX.nilRow 37 4<|WX.nilRow 53 3<|oJ h▸Li results18 (.agg U z9t U (xO .h2)<|.tmp U .nil) fun w hw=>⟨none,0,none,0,qc,trivial,hw.sub (.s2 .h1 .here)⟩
   ·refine Np<|B0q<|Le 33 (xN z2A (xO .h2))<|La U (Lh 35 (kq (ga jQ)<|fun x=>Value.agg (w4 x).toArray) fun O _=>Lh 36 (kq (ga wd)<|Value.int .i64) ?_)
    intro P _
    let C:Value:=(vs ak s.length al);refine Le 37 (wl (v:=(.agg #[D,E,F,G,H,I,J,K,C,(.map<|some O),(.map<|some P),vi 0])) (Lq (l:=[.tmp 33,.tmp 34,.tmp 35,.tmp 36,.const (vi 0)]) (.r5 U U U U U) [0,1,2,3,4]))<|Lh 38 (we (cs:=[D,E,F,G,H,I,J,K,C,(.map<|some O),(.map<|some P),vi 0])) ?_
    intro av _
    refine Q1n U<|B0q (Lh 11 (xV (cs:=[vn,vn]) zj4 U) fun t _=>Q0n ?_)
    refine jK1 h fun aB aN h=>Ni (fun d f g=>(aB d=some r)) (fun d f g=>[(2,C),(3,vp M),(6,vp N),(11,vp t)]) (fun d f g=>[stb M 31 A,stb N 40 [vn,vn],stb t 40 [vs f d.length g,vn],row (vs f d.length g) 37 4 (d.flatMap jU)]) ?_ ?_
    ·let L:Value:=(vs aW n.1.length aX);refine B1q U<|Le 40 (wc underlying112)<|Q1n U<|WC.block<|WC.nilRow 37 4<|Oz (fun u c o b p q j k=>(jS n a s aB u c o b p q=some r)) (fun u c o b p q j k=>[(2,C),(3,vp M),(6,vp N),(10,vp av),(11,vp t),(39,L),(40,vi (n.1.length:Int)),(41,vi c)]) (fun u c o b p q j k=>[row L 121 2 (n.1.flatMap wd),stb M 31 A,stb N 40 [vn,vn],stb av 119 [D,E,F,G,H,I,J,K,C,(.map<|some O),(.map<|some P),vi o],stb t 40 [vs j b.length k,vn],row (vs j b.length k) 37 4 (b.flatMap jU),xP O (ga jQ) (ga w4) p,xP P (ga wd) vI q]) (fun u c o b p q j k=>u) ⟨xT,0,0,([]:List ys),([]:List (ym×z2)),([]:List (z6×Int)),none,0⟩ h .q (.s8 .h5 .h6 .h5 .h2 .h1 .here .h1 .here) ?_
     rintro(_|aY) c o b p q j k h;·cases h
     rw[jS] at h
     refine B1n U<|WC.b<|Lj h (fun aO h=>?_)<|fun aO h=>?_
     ·refine Np<|WC.b<|WC.block<|WC.b<|cK h fun y h=>Ld<|N5 (fun w hw=>Hp.vf .here hw (by intro hz';have:=y;rw[hz'] at this;omega)) ?_
      rintro⟨a0,rfl⟩
      refine Le 43 (xZ z9r y.1 y.2 wF)<|Le 44 (wo (cs:=(wd<|nth n.1 c)) z71<|vQ .here<|wN (enc:=wd) (l:=n.1) (i:=c) (sz:=2) y.1 y.2) (Lh 13 (xV (cs:=[vi 0,vi 0]) ztO U) fun a1 _=>Lk (xR zxM .here)<|Q0n<|WC.b ?_)
      refine bK h fun m aP h=>cK h fun aQ h=>Lu (fun i=>[4,6,8].contains i) [rb t 40 [(0,vs j b.length k)]]<|Lf 0 U (xB mX)<|L8 1 U (wJ.wk (.cons .h5 .nil)<|.stb (.cons U .nil) .nil) (xC z8G U<|mG .here<|.head _)<|Lf 2 U q_m<|Lg 3 U (xN z71 (xO .here)) (WD.call0 (i:=4) U U (.inl ⟨U,(wJ.wk (.cons .h7 .nil)<|.stb (.cons U .nil) .nil)⟩) (Nt call43) (.s3 .h4 .h6 .h6) (cc hz (.s3 .h4 .h6 .h6) fun w pz ho=>Calls.mono (YL aP pz am an ao ap z aq ar au B ho)<|fun _ _ h'=>⟨h'.1,trivial,h'.2⟩) fun _=>WD.new (i:=5) U U (wn (cs:=([m.1]:List ys).flatMap jU) z8F (Lq (l:=[.tmp 49]) (.cons U .nil) [0])) (fun h'=>absurd h' (by decide)) fun a2 _=>WD.old (i:=6) U U (fun _=>(wJ.wk (.cons (.there<|.there .h7) .nil)<|.stb (.cons U .nil) .nil)) (jN (enc:=jU) (l1:=b) (l2:=([m.1]:List ys)) z8F (.there<|.there .h7) (j4 .here) (kZ W6) aQ) ?_)
      rintro⟨aC,aD⟩ _
      refine Lf 7 U (xB mX)<|Na (i:=8) U (jl (ds:=[vs aC ((b++([m.1]:List ys)).length) aD,vn]) zMe (.there<|.there .h7))<|N1<|Lb<|B1q U<|Le 54 w5<|Le 55 (xB lN)<|Le 56 (Nu z6q .h3)<|Q1n U<|Lj h (fun aS h=>?_)<|fun aS h=>?_
      ·exact WC.b<|Lu (fun i=>[5].contains i) [rb av 119 [(11,vi m.2.1)]]<|Lf 0 U (wl (v:=(.agg #[vn,vn])) (Lq (l:=[]) .nil []))<|Lf 1 U q_m<|Lf 2 U w5<|Lf 3 U (xB lN)<|L8 4 U (wJ.wk (.cons .h3 .nil)<|.stb (.cons U .nil) .nil) (xC z6q U<|mG .here<|.head _)<|WD.forced0 (i:=5) U (wJ.wk (.cons .h4 .nil)<|.stb (.cons U .nil) .nil) (xR z9s (.there<|.there .h7))<|Lf 6 U q_z<|N1<|Lb<|Nz<|Lx<|Ll<|Ll<|Lx<|Ll<|WX.nilRow 37 4<|WX.nilRow 53 3<|oJ h▸Li results18 (.agg U z9t U (xO .h2)<|.tmp U .nil) fun w hw=>⟨none,0,none,0,qc,trivial,hw.sub (.s2 .h1 .here)⟩
      ·exact N3<|Lt<|Lb<|D2q U<|WL.nil<|N0 ⟨aY,i64 (c+1),m.2.1,b++([m.1]:List ys),m.2.2.1,m.2.2.2,aC,aD⟩ h .q<|.s8 .h7 .h7 .h7 .h3 .here .here .h1 .h1
     ·exact N2<|Ln<|Ln<|Lv<|Lp ⟨b,j,k⟩ h .q<|.s4 .h1 .h1 .h2 .h2
    ·rintro d f g h
     replace h:=(aN d).symm.trans h
     refine WC.b<|bK h fun aE aT h=>Ld<|Le 64 (xB mX)<|Le 65 (Nu z8G .h2)<|Nc U (Nt call26) (.cons .h3 .nil) (cc hz (.cons .h3 .nil) fun w pz ho=>f0 (znt:=44) (zw6:=[]) (zns:=(fun y0 y1=>qY y0 y1)) aT pz call44 (fun w' hz' y0 y1  r  hr=>YM hr hz' ) ho) ?_
     rintro  aU
     refine H5 (cs':=[vs f aE.length g,vn]) .h3 (by rw[aU])<|Q0n<|WC.b<|bK h fun aZ aV h=>Ld<|Le 67 (xN z2A (xO .h2))<|La U<|Le 69 (xB mX)<|Le 70 (Nu z8G .here)<|H4 U (Nt call28) .nil (uB hz .nil (.cons .h1 .nil) fun w pz ho la=>aR aV pz ((am.mono<|zl).weak (fun _ _ h=>vc zl h)) ((an.mono<|zl).weak (fun _ _ h=>vA zl h)) (ao.mono<|zl) (ap.mono<|zl) ((z.mono<|zl).weak (fun _ _ h=>ve zl h)) (aq.mono<|zl) ((ar.mono<|zl).weak (fun _ _ h=>vB zl h)) (au.mono<|zl) ((B.mono<|zl).weak (fun _ _ h=>qe zl h))<|ZA.row (la _ (.head _) _) (RR.flat (enc:=jU)) ⟨w,pz.1⟩) ?_
     rintro aF aG _
     exact Le 72 (xB oE)<|Lk (jl (ds:=[vs f aE.length g,vs aF aZ.length aG]) zMf .h1)<|Q0n<|B0q<|Le 73 (xN z9t (xO .here))<|Lk (xR z9s .h4)<|Q1n U<|Nz<|oJ h▸Li results18 (.agg U z9t U (xO .here)<|.tmp U .nil) fun w hw=>⟨f,g,aF,aG,qc,trivial,hw.sub (.s2 .h3 .h2)⟩
def ku(b:List (Int->Option Int))(c:Int)(d:Int->Option Int):Nat->Int->Int->Option Int
 | 0,_,_=>none
 | f+1,e,a=>if decide (a<b.length) then chk (0<=a/\a<b.length) (((nth b a) c).bind fun g=>ku b c d f (i64 (e+g)) (i64 (a+1))) else d e
def o6(a:List (Int->Option Int))(b:Int):Option Int:=
 qt (fun(c:Int)=>some c) fun d=>ku a b d xT 0 0
theorem YN{Z i j c e r}(h:o6 c e=some r){Ny}(hz:PZ [] Ny Z)(n:ZS Z 1 (tq Z) i j c):
  RC 55 #[vs i c.length j,vi e] Ny (vi r) [] []:=by
 unfold o6 at h
 refine L0 func55 U U<|B1n U<|B1n U<|jK1 h fun k o h=>L6 (fun d=>(k d=some r)) (fun d=>[(5,vi d)]) (fun d=>[]) ?_ ?_
 ·refine B1q U<|Le 9 (wc underlying140)<|Q1n U<|WC.block<|H0 (fun g a b=>(ku c e k g a b=some r)) (fun g a b=>[(1,vi e),(5,vi a),(8,vs i c.length j),(9,vi (c.length:Int)),(10,vi b)]) (fun g a b=>[]) (fun g a b=>g) ⟨xT,0,0⟩ h .q .nil ?_
  rintro(_|z) a b h;·cases h
  rw[ku] at h
  refine B1n U<|WC.b<|Lj h (fun p h=>?_)<|fun p h=>?_
  ·refine Np<|WC.b<|WC.block<|WC.b<|cK h fun q h=>Ld<|L2 (Z:=Z) (Pr:=(tq Z)) ztS n q ?_
   rintro A B s C ⟨t,u,rfl,v,x⟩
   exact Le 13 (xC zXp U<|kz hz.pv s)<|Q1n U<|bK h fun m y h=>D3q U<|Lo 17 (qk (l:=[.tmp 16]) (f:=t) (caps:=u) v<|.cons U .nil) .nil (fun w hw=>x w (hz.now hw) e m  y)<|Q2q U<|WL.nil<|Lt<|Lb<|D2q U<|WL.nil<|N0 ⟨z,i64 (a+m),i64 (b+1)⟩ h .q .nil
  ·exact N2<|Ln<|Ln<|Lv<|Lp a h (.cons U .nil) .nil
 ·rintro d h
  replace h:=(o d).symm.trans h
  exact B2n U<|Nz<|oJ h▸Nm results55
def pE:List (Int->Option Int)->Int->Int->Option Int
 | [],_,s=>some s
 | f::l,t,s=>(f t).bind fun x=>pE l t (i64 (s+x))
theorem YY(a b:Int):i64 (i64 a+b)=i64 (a+b):=by
 unfold i64 IntKind.wrap
 simp only[IntKind.signed,IntKind.bits]
 simp
 omega
theorem Fs{t l l'}(h:l.Perm l'):∀ {s:Int},pE l t s=pE l' t s:=by
 induction h with
 | nil=>intro s;rfl
 | cons f _ ih=>intro s;rw[pE,pE];cases f t with
  | none=>rfl
  | some x=>exact ih
 | swap f g l=>
  intro s
  rw[pE,pE]
  cases hf:f t with
  | none=>
   cases hg:g t with
   | none=>rfl
   | some y=>simp only[oB,Option.bind_none,pE,hf]
  | some x=>
   cases hg:g t with
   | none=>simp only[oB,Option.bind_none,pE,hg]
   | some y=>
    simp only[oB,pE,hf,hg]
    rw[YY,YY,show s+y+x=s+x+y by omega]
 | trans _ _ ih1 ih2=>intro s;exact ih1.trans ih2
theorem Wh{l:List (Int->Option Int)}{t:Int}{k:Int->Option Int}(hl:l.length<=4611686018427387904):∀(n:Nat) (s v:Int),0<=v->v<=l.length->l.length<n+v->ku l t k n s v=(pE (l.drop v.toNat) t s).bind k
 | 0,s,v,h0,h1,h2=>by omega
 | n+1,s,v,h0,h1,h2=>by
  rw[ku]
  by_cases h:v<l.length
  ·rw[if_pos (decide_eq_true h),xM ⟨h0,h⟩,List.drop_eq_getElem_cons (show v.toNat<l.length by omega),pE]
   have e:nth l v=l[v.toNat]'(by omega):=by unfold nth;simp[show v.toNat<l.length by omega]
   rw[e]
   cases (l[v.toNat]'(by omega)) t with
   | none=>rfl
   | some x=>
    rw[oB,oB,xS (x:=v+1) (by omega),Wh hl n _ (v+1) (by omega) (by omega) (by omega),show(v+1).toNat=v.toNat+1 by omega]
  ·rw[if_neg (by simpa using h),List.drop_eq_nil_of_le (by omega)];rfl
theorem Ft{l:List (Int->Option Int)}{t:Int}(hl:l.length<=4611686018427387904):o6 l t=pE l t 0:=by
 show ku l t (fun s=>some s) xT 0 0=_
 rw[Wh hl xT 0 0 (by omega) (by omega) (by rw[show xT=18446744073709551616 from U];omega)]
 simp
def qU(l:List (Int->Option Int))(t:Int):Option Int:=chk (l.length<=4611686018427387904) (pE l t 0)
theorem ri{Z ao cap l t r}(h:qU l t=some r){Ny}(hz:PZ [] Ny Z)(hs:W4 Z (tq Z) ao cap l):
  RC 55 #[vs ao l.length cap,vi t] Ny (vi r) [] []:=by
 obtain⟨l',hp,hs⟩:=hs
 obtain⟨hb,h⟩:=xI h
 rw[<- hp.length_eq] at hb ⊢
 exact YN ((Ft hb).trans ((Fs hp).trans h)) hz hs
def ma(znC:Int)(zcG:Int)(znD:List (Int->Option Int))(zwf:List (Int×Int))(z4X:zy):Option Int:=
 if decide (zcG<0) then(qU znD znC).bind fun a=>some a else(qU znD znC).bind fun b=>chk (0<=zcG/\zcG<z4X.fK.length) (chk ((((nth z4X.fK zcG).yp):Int)≠0) (some (min b (i64 ((xK zwf zcG 0)+(i64 (Int.tdiv znC ((nth z4X.fK zcG).yp))))))))
theorem dY(Z zIK zIL zIM zIN zIO zIP zIQ zIR zIS zIT zIU zIV zIW zIX zIY zIZ zJ0 zJ1 zJ2 zJ3 zJ4 zJ5 zJ6 znC zcG znD zwf z4X r)(h:ma znC zcG znD zwf z4X=some r)(Ny)(hz:PZ [] Ny Z)(hmW:ZA Z (xP zIP vI vI zwf))(zAh:ZC Z zIK [vi zcG])(zJ7:W4 Z (tq Z) zIM zIN znD)(zJ8:ZC Z zIL [vs zIM znD.length zIN])(zSW:ZC Z zIO [.map (some zIP)])(z1c5:ZS Z 4 (kB Z) zIR zIS z4X.fM)(z1c6:ZS Z 4 (g8 Z) zIT zIU z4X.ye)(z1c7:ZS Z 4 (rq kr) zIV zIW z4X.fS)(zSX:ZS Z 4 (rq gH) zIX zIY z4X.fK)(z1c8:ZS Z 7 (g7 Z) zIZ zJ0 z4X.yb)(z1c9:ZS Z 5 (rq gf) zJ1 zJ2 z4X.fH)(z1ca:ZS Z 3 (g9 Z) zJ3 zJ4 z4X.fU)(z1cb:ZS Z 4 (rq gg) zJ5 zJ6 z4X.yf)(zSY:ZC Z zIQ [vs zIR z4X.fM.length zIS,vs zIT z4X.ye.length zIU,vs zIV z4X.fS.length zIW,vs zIX z4X.fK.length zIY,vs zIZ z4X.yb.length zJ0,vs zJ1 z4X.fH.length zJ2,vs zJ3 z4X.fU.length zJ4,vs zJ5 z4X.yf.length zJ6]):
  RC 99 #[vi znC,vq zIK,vq zIL,vq zIO,vq zIQ] Ny (vi r) [] []:=by
 unfold ma at h
 refine Oo func99 U U<|B1n U<|WC.b<|B0q<|Le 7 (xC xL U<|kz hz.pv zAh)<|Q1n U<|Lj h (fun a h=>?_)<|fun a h=>?_
 ·exact WC.b<|bK h fun m b h=>Ld<|Le 9 (xC zMg U<|kz hz.pv zJ8)<|La U<|Ns call55 hz (fun pz=>ri b pz zJ7)<|Q1n U<|Nz<|Ll<|oJ h▸Nm results99
 ·refine Np<|WC.b<|bK h fun n c h=>cK h fun d h=>cK h fun e h=>Lu nc []<|Lg 0 U (xC zMg U<|kz hz.pv zJ8)<|Lf 1 U q_m<|L4 2 U (Nt call55) (cc hz .nil fun w pz ho=>ri c pz zJ7)<|Lg 3 U (xC zCV U<|kz hz.pv zSW)<|Lg 4 U (xC xL U<|kz hz.pv zAh)<|Lg 5 U (Fk (k:=zcG) (dflt:=(0:Int)) gP underlying148 jc U U U hz.pv hmW)<|Lf 6 U q_m<|Lf 7 U (xB rI)<|Lg 8 U (xC zdP U<|wt hz.pv zSY)<|Lg 9 U (xC xL U<|kz hz.pv zAh)<|L7 (j:=10) (Z:=Z) (Pr:=(rq gH)) zj3 zSX d ?_
  rintro g i f l rfl
  exact Lf 11 U (xB oD)<|Lg 12 U (xC xL U<|wt hz.pv f)<|Lf 13 U (eH e)<|Lf 14 U uG<|Lf 15 U (Ui U U U)<|Lf 16 U q_z<|N1<|Lb<|Nz<|oJ h▸Nm results99
def mb(a:zd)(b:z6):Option Bool:=
 some (decide ((⟨a.ya,a.fQ⟩:z6)=b))
theorem dZ{Z e c d r}(h:mb c d=some r){Ny}(hz:PZ [] Ny Z)(f:ZC Z e [vi d.ya,vi d.fQ]):
  RC 95 #[.agg #[vi c.ya,vi c.fX,vi c.fQ],vq e] Ny (.bool r) [] []:=by
 unfold mb at h
 refine L0 func95 U U<|B0q (Lh 2 (we (cs:=[vi c.ya,vi c.fX,vi c.fQ])) fun g _=>Q1n U<|B0q<|Le 4 (xB kC)<|Le 5 (Nu xL .here)<|Le 6 (xB sr)<|Le 7 (Nu xL .here)<|Le 8 (wl (v:=(.agg #[vi c.ya,vi c.fQ])) (Lq (l:=[.tmp 5,.tmp 7]) (.r2 U U) [0,1]))<|Le 9 (xN zxP (qB hz.pv f))<|Le 10 (lF (enc:=qF) (a:=(⟨c.ya,c.fQ⟩:z6)) (b:=d) zMh)<|Q1n U<|Nz ?_)
 exact oJ h▸Nm results95
def mc(a:zy)(b:Int):Option Int:=
 if decide ((i64 (b-(a.fM.length:Int)))>=0) then chk (0<=(i64 (b-(a.fM.length:Int)))/\(i64 (b-(a.fM.length:Int)))<a.fS.length) (some ((nth a.fS (i64 (b-(a.fM.length:Int)))).yl)) else some 0
theorem iC{Z b c d e f g i j k l m n o p q s a t r}(h:mc a t=some r){Ny}(hz:PZ [] Ny Z)(z:ZS Z 4 (kB Z) b c a.fM)(A:ZS Z 4 (g8 Z) d e a.ye)(u:ZS Z 4 (rq kr) f g a.fS)(B:ZS Z 4 (rq gH) i j a.fK)(C:ZS Z 7 (g7 Z) k l a.yb)(D:ZS Z 5 (rq gf) m n a.fH)(E:ZS Z 3 (g9 Z) o p a.fU)(F:ZS Z 4 (rq gg) q s a.yf):
  RC 54 #[.agg #[vs b a.fM.length c,vs d a.ye.length e,vs f a.fS.length g,vs i a.fK.length j,vs k a.yb.length l,vs m a.fH.length n,vs o a.fU.length p,vs q a.yf.length s],vi t] Ny (vi r) [] []:=by
 unfold mc at h
 refine L0 func54 U U<|B0q (Lh 2 (we (cs:=[vs b a.fM.length c,vs d a.ye.length e,vs f a.fS.length g,vs i a.fK.length j,vs k a.yb.length l,vs m a.fH.length n,vs o a.fU.length p,vs q a.yf.length s])) fun G _=>Q1n U<|WC.b<|B1q U<|Le 7 (xB uR)<|Le 8 (Nu za6 .here)<|Le 9 (wc underlying22)<|Q2n U<|B2n U<|Lj h (fun v h=>?_)<|fun v h=>?_)
 ·refine WC.b<|cK h fun x h=>Ld<|Le 13 (xB uS)<|Le 14 (Nu zb4 .here)<|La U<|L2 (Z:=Z) (Pr:=(rq kr)) zc5 u x ?_
  rintro H I y J rfl
  exact Le 17 (xB dL)<|Le 18 (xC xL U<|wt hz.pv y)<|Q1n U<|Nz<|Ll<|oJ h▸Nm results54
 ·exact Np<|B1n U<|Nz<|oJ h▸Nm results54
def kH(b:List zd)(d:zy)(f:List (z6×Int))(g:(List Int)->Option (List Int)):Nat->(List Int)->Int->(List (Int×Int))->Option (List Int)
 | 0,_,_,_=>none
 | h+1,e,a,c=>if decide (a<b.length) then chk (0<=a/\a<b.length) (chk ((((e++([xK c ((nth b a).ya) 0]:List Int)).length:Nat):Int)*8<=140737488355328/\(((e++([xK c ((nth b a).ya) 0]:List Int)).length:Nat):Int)<=4611686018427387904) ((mc d ((nth b a).ya)).bind fun i=>chk (0<=((nth b a).fQ)/\((nth b a).fQ)<d.fK.length) (kH b d f g h (e++([xK c ((nth b a).ya) 0]:List Int)) (i64 (a+1)) (w7 c ((nth b a).fX) (i64 ((i64 ((i64 ((xK c ((nth b a).ya) 0)+(xK f (⟨(nth b a).ya,(nth b a).fQ⟩:z6) 0)))-i))-((nth d.fK ((nth b a).fQ)).yp))))))) else g e
def md(a:zy)(b:List zd)(c:List (z6×Int)):Option (List Int):=
 qt (fun(d:List Int)=>some d) fun e=>kH b a c e xT ([]:List Int) 0 ([]:List (Int×Int))
theorem ui{Z u x y z B D E F G H I J K L M N O P m a c g r}(h:md a c g=some r){Ny}(hz:Pz [xP m (ga qF) vI g] Ny Z)(X:ZS Z 4 (kB Z) u x a.fM)(Y:ZS Z 4 (g8 Z) y z a.ye)(aa:ZS Z 4 (rq kr) B D a.fS)(Q:ZS Z 4 (rq gH) E F a.fK)(ab:ZS Z 7 (g7 Z) G H a.yb)(ad:ZS Z 5 (rq gf) I J a.fH)(ae:ZS Z 3 (g9 Z) K L a.fU)(af:ZS Z 4 (rq gg) M N a.yf)(ag:ZS Z 3 (rq mQ) O P c)(iF:Ho Ny [xP m (ga qF) vI g]):
  Calls Tryz.prog 37 #[.agg #[vs u a.fM.length x,vs y a.ye.length z,vs B a.fS.length D,vs E a.fK.length F,vs G a.yb.length H,vs I a.fH.length J,vs K a.fU.length L,vs M a.yf.length N],vs O c.length P,.map (some m)] Ny fun e w'=>∃ R:Option Addr,∃ S:Nat,e = .returned (vs R r.length S)/\True/\Hp (fps [xP m (ga qF) vI g]) Ny w' [row (vs R r.length S) 3 1 (r.flatMap e3),xP m (ga qF) vI g]:=by
 unfold md at h
 refine N8 func37 U iF U ?_
 let A:List Value:=[vs u a.fM.length x,vs y a.ye.length z,vs B a.fS.length D,vs E a.fK.length F,vs G a.yb.length H,vs I a.fH.length J,vs K a.fU.length L,vs M a.yf.length N];refine B0q<|Lh 3 (we (cs:=A)) ?_
 intro T _
 refine Q1n U<|B0q (Lh 11 (kq vI<|Value.int .i64) fun V _=>Q1n U<|B1n U ?_)
 refine jK1 h fun W ah h=>Ni (fun n q s=>(W n=some r)) (fun n q s=>[(8,vs q n.length s)]) (fun n q s=>[row (vs q n.length s) 3 1 (n.flatMap e3),xP m (ga qF) vI g]) ?_ ?_
 ·refine B1q U<|Le 13 (wc underlying58)<|Q1n U<|WC.block<|WC.nilRow 3 1<|O0 (fun t d b f o p=>(kH c a g W t d b f=some r)) (fun t d b f o p=>[(2,(.map<|some m)),(3,vp T),(7,(.map<|some V)),(8,vs o d.length p),(12,vs O c.length P),(13,vi (c.length:Int)),(14,vi b)]) (fun t d b f o p=>[row (vs o d.length p) 3 1 (d.flatMap e3),xP m (ga qF) vI g,stb T 31 A,xP V vI vI f]) (fun t d b f o p=>t) ⟨xT,([]:List Int),0,([]:List (Int×Int)),none,0⟩ h .q (.s4 .here .h2 .h1 .here) ?_
  rintro(_|ar) d b f o p h;·cases h
  rw[kH] at h
  refine B1n U<|WC.b<|Lj h (fun ai h=>?_)<|fun ai h=>?_
  ·refine Np<|WC.b<|WC.block<|WC.b<|cK h fun aj h=>Ld<|L2 (Z:=Z) (Pr:=(rq mQ)) z7O ag aj ?_
   rintro av aw ak ax rfl
   refine Le 17 (xN z5e (qB hz.pv ak)) (Lh 10 (xV (cs:=[vi 0,vi 0,vi 0]) zdR U) fun ay _=>Lk (xR zc6 .here)<|Q0n<|WC.b ?_)
   refine cK h fun al h=>D2q U<|Le 20 (xB kC)<|Le 21 (Nu xL .here)<|Le 22 (jk (k:=((nth c b).ya)) (dflt:=(0:Int)) gP underlying148 jc .h4) (Lh 23 (wn (cs:=([xK f ((nth c b).ya) 0]:List Int).flatMap e3) z5U (Lq (l:=[.tmp 22]) (.cons U .nil) [0])) fun az _=>WL.fA 24 (jN (enc:=e3) (l1:=d) (l2:=([xK f ((nth c b).ya) 0]:List Int)) z5U .h2 (j4 .here) (kZ Ul) al) ?_)
   rintro⟨am,an⟩ _
   refine Q1n U<|bK h fun au ao h=>cK h fun ap h=>Lu (fun i=>[28].contains i) []<|Lf 0 U q_m<|Lf 1 U (xB mH)<|Lg 2 U (Nu xL .h2)<|Lf 3 U q_m<|Lf 4 U (xB kC)<|Lg 5 U (Nu xL .h2)<|Lg 6 U (jk (k:=((nth c b).ya)) (dflt:=(0:Int)) gP underlying148 jc .h5)<|Lf 7 U q_m<|Lf 8 U (xB kC)<|Lg 9 U (Nu xL .h2)<|Lf 10 U (xB sr)<|Lg 11 U (Nu xL .h2)<|Lf 12 U (wl (v:=(.agg #[(vi<|(nth c b).ya),(vi<|(nth c b).fQ)])) (Lq (l:=[.tmp 34,.tmp 36]) (.r2 U U) [0,1]))<|Lg 13 U (jk (k:=(⟨(nth c b).ya,(nth c b).fQ⟩:z6)) (dflt:=(0:Int)) zCW underlying92 jc .h3)<|Lf 14 U uG<|Lg 15 U (xN z2A (xO .h4))<|Lf 16 U (xB kC)<|Lg 17 U (Nu xL .h2)<|L4 18 U (Nt call54) (cc hz .nil fun w pz ho=>iC ao pz X Y aa Q ab ad ae af)<|Lf 19 U uH<|Lf 20 U (xB rI)<|Lg 21 U (Nu zdP .h4)<|Lf 22 U (xB sr)<|Lg 23 U (Nu xL .h2)<|L7 (j:=24) (Z:=Z) (Pr:=(rq gH)) zj3 Q ap ?_
   rintro aA aB aq aC rfl
   let C:=(i64 ((i64 ((xK f ((nth c b).ya) 0)+(xK g (⟨(nth c b).ya,(nth c b).fQ⟩:z6) 0)))-au));refine Lf 25 U (xB oD)<|Lg 26 U (xC xL U<|wt hz.pv aq)<|Lf 27 U uH<|Na (i:=28) U (kJ (k:=((nth c b).fX)) (v:=i64 (C-((nth a.fK<|(nth c b).fQ).yp))) gP underlying148 .h5)<|N1<|Lt<|Lb<|D2q U<|WL.nil ?_
   exact N0 ⟨ar,d++([xK f ((nth c b).ya) 0]:List Int),i64 (b+1),(w7 f ((nth c b).fX)<|i64 (C-((nth a.fK<|(nth c b).fQ).yp))),am,an⟩ h .q<|.s4 .h1 .h3 .h3 .here
  ·exact N2<|Ln<|Ln<|Lv<|Lp ⟨d,o,p⟩ h (.cons U .nil)<|.a2
 ·rintro n q s h
  replace h:=(ah n).symm.trans h
  exact B2n U<|Nz<|oJ h▸Li results37 (.tmp U .nil) fun w hw=>⟨q,s,w3,trivial,hw.sub .a2⟩
def me(a:zd)(b:z6):Option Bool:=
 some (decide (a.fX=b.ya))
theorem e8{Z c a b r}(h:me a b=some r){Ny}(hz:PZ [] Ny Z)(d:ZC Z c [vi b.ya,vi b.fQ]):
  RC 96 #[.agg #[vi a.ya,vi a.fX,vi a.fQ],vq c] Ny (.bool r) [] []:=by
 unfold me at h
 refine L0 func96 U U<|B0q (Lh 2 (we (cs:=[vi a.ya,vi a.fX,vi a.fQ])) fun e _=>Q1n U<|B0q<|Le 4 (xB mH)<|Le 5 (Nu xL .here)<|Le 6 (xB V5)<|Le 7 (xC xL U<|wt hz.pv d)<|Q2n U<|Nz ?_)
 exact oJ h▸Nm results96
def rj(a:yy)(b:Int)(c:Int):Option Int:=
 chk ((a.yD:Int)≠0) (some (i64 (a.yz*(i64 ((i64 (Int.tdiv (i64 (c+b)) a.yD))+1)))))
theorem Xw{Z b c a d e r}(h:rj a d e=some r){Ny}(hz:PZ [] Ny Z)(g:ZS Z 3 (rq dJ) b c a.yN):
  RC 98 #[.agg #[.string a.yB,.string a.yq.yA,.string a.yq.yF,.string a.yq.yI,vi a.yD,vi a.yz,vs b a.yN.length c],vi d,vi e] Ny (vi r) [] []:=by
 unfold rj at h
 refine Nl func98 U U<|B0q (Lh 3 (we (cs:=[.string a.yB,.string a.yq.yA,.string a.yq.yF,.string a.yq.yI,vi a.yD,vi a.yz,vs b a.yN.length c])) fun i _=>Q1n U<|WC.b ?_)
 exact cK h fun f h=>Lu nc []<|Lf 0 U (xB rJ)<|Lg 1 U (Nu xL .here)<|Lf 2 U q_m<|Lf 3 U q_m<|Lf 4 U uG<|Lf 5 U (xB Yu)<|Lg 6 U (Nu xL .here)<|Lf 7 U (eH f)<|Lf 8 U uG<|Lf 9 U sX<|Lf 10 U q_z<|N1<|Lb<|Nz<|oJ h▸Nm results98
def vu(a:Int)(b:yy)(c:Int):Option Int:=
 (rj b c a).bind fun d=>some d
theorem eb{Z b c d e f a g r}(h:vu f a g=some r){Ny}(hz:PZ [] Ny Z)(i:ZS Z 3 (rq dJ) c d a.yN)(j:ZC Z b [.string a.yB,.string a.yq.yA,.string a.yq.yF,.string a.yq.yI,vi a.yD,vi a.yz,vs c a.yN.length d])(k:ZC Z e [vi g]):
  RC 97 #[vi f,vq b,vq e] Ny (vi r) [] []:=by
 unfold vu at h
 exact Nl func97 U U<|B1n U<|WC.b<|bK h fun m l h=>Ld<|Le 5 (xN zCN (qB hz.pv j))<|Le 6 (xC xL U<|kz hz.pv k)<|La U<|Ns call98 hz (fun pz=>Xw l pz i)<|Q1n U<|Nz<|oJ h▸Nm results97
end Go.Proofs.YthjnhebofpebpaaGreat
