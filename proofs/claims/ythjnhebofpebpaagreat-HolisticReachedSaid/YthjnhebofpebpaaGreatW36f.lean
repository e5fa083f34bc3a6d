/- A part of this claim's proof: models of functions, walks, plain laws. No conditions. -/
import Derived.Test.YthjnhebofpebpaaGreatW36e
set_option linter.all false
namespace Go.Proofs.YthjnhebofpebpaaGreat
open Go Go.RowKit Sep Tryz
set_option maxRecDepth 30000
set_option maxHeartbeats 4000000
def j8(a:List zt)(zqH:zt->zt->Option Int):Option (List zt):=
 (fj (u64 (a.length:Int))).bind fun b=>(mm a 0 (a.length:Int) b zqH).bind fun c=>some c
theorem ol{Z b c}(zqI zzC){a}(zqH){r}(h:j8 a zqH=some r){Nx}(hz:Pz [row (vs b a.length c) 53 3 (a.flatMap fg)] Nx Z)(j:∀ args w,(callFunc zqI args).run Tryz.prog w = .ok (.enter zqI args) w)(k:∀ w:World,PZ [] w Z->∀(x0:zt) (x1:zt) (r:Int),zqH x0 x1=some r->Calls Tryz.prog zqI (([.agg #[vi x0.yx,vi x0.ya,vi x0.yl],.agg #[vi x1.yx,vi x1.ya,vi x1.yl]]:List Value)++zzC).toArray w fun e w'=>e = .returned (vi r)/\Hp [] w w' [])(eO:Ho Nx [row (vs b a.length c) 53 3 (a.flatMap fg)]):
  Calls Tryz.prog 61 #[vs b a.length c,.func (.func zqI) #[] (zzC).toArray] Nx fun e w'=>e = .returned (.tuple #[])/\(r.length=a.length)/\Hp (fps [row (vs b a.length c) 53 3 (a.flatMap fg)]) Nx w' [row (vs b r.length c) 53 3 (r.flatMap fg)]:=by
 unfold j8 at h
 refine Ni func61 U eO U<|B1q U<|Le 6 (w9 underlying38)<|Q1n U<|bK h fun d l h=>bK h fun f m h=>D3q U<|Le 10 (mL underlying3 underlying147)<|Nr call57 hz (fun pz=>oZ  (zaZ:=(u64 (a.length:Int))) (r:=d) pz  l)<|La U<|Nb U (Ns call110) (.cons .here .nil) (cc hz (.cons .here .nil) fun w pz ho=>oI (znc:=b) (znd:=c) (zvG:=zqI) (zHY:=zzC) (z7s:=a) (zvE:=0) (zvF:=(a.length:Int)) (zqG:=d) (znb:=zqH) (r:=f) pz j k m ho) ?_
 rintro  g
 exact L9 (i:=0) U (u:=(vs b f.length c)) (qB g.symm)<|WL.nil<|oJ h▸Nh results61 .nil fun w hw=>⟨mq,g.trans U,hw.sub (.cons .here .nil)⟩
def my(b:List ys)(c:(List (z6×Int))->Option (List zt)):Nat->Int->(List (z6×Int))->Option (List zt)
 | 0,_,_=>none
 | e+1,a,d=>if decide (a>=0) then chk (0<=a/\a<b.length) (my b c e (i64 (a-1)) (w6 d (⟨(nth b a).ya,(nth b a).fQ⟩:z6) ((nth b a).yl))) else c d
def mz(b:List (List zd))(a:Int)(j:zu)(e:List (z6×Int))(i:(List zt)->Option (List zt)):Nat->(List zt)->Int->(List (Int×Int))->Option (List zt)
 | 0,_,_,_=>none
 | k+1,f,c,d=>if decide (c<((nth b a).length:Int)) then sk (fun(l:List zt) (m:List (Int×Int))=>mz b a j e i k l (i64 (c+1)) m) fun h=>chk (0<=c/\c<((nth b a).length:Int)) (chk ((vH d ((nth (nth b a) c).fX))=false->((0:Int)<=0/\0<((nth b a).length:Int))) (if (vH d ((nth (nth b a) c).fX))||(decide (((nth (nth b a) c).fX)=((nth (nth b a) 0).ya))) then h f d else(mt (⟨(nth (nth b a) c).ya,(nth (nth b a) c).fX,(nth (nth b a) c).fQ⟩:zd)).bind fun g=>if (decide (((nth (nth b a) c).fX)>=0))&&(decide (((nth (nth b a) c).fX)<j.fM.length)) then chk ((((f++([(⟨a,(nth (nth b a) c).fX,xI (w6 d ((nth (nth b a) c).fX) (i64 ((xI d ((nth (nth b a) c).ya) 0)+(xI e g 0)))) ((nth (nth b a) c).fX) 0⟩:zt)]:List zt)).length:Nat):Int)*24<=140737488355328/\(((f++([(⟨a,(nth (nth b a) c).fX,xI (w6 d ((nth (nth b a) c).fX) (i64 ((xI d ((nth (nth b a) c).ya) 0)+(xI e g 0)))) ((nth (nth b a) c).fX) 0⟩:zt)]:List zt)).length:Nat):Int)<=4611686018427387904) (h (f++([(⟨a,(nth (nth b a) c).fX,xI (w6 d ((nth (nth b a) c).fX) (i64 ((xI d ((nth (nth b a) c).ya) 0)+(xI e g 0)))) ((nth (nth b a) c).fX) 0⟩:zt)]:List zt)) (w6 d ((nth (nth b a) c).fX) (i64 ((xI d ((nth (nth b a) c).ya) 0)+(xI e g 0))))) else h f (w6 d ((nth (nth b a) c).fX) (i64 ((xI d ((nth (nth b a) c).ya) 0)+(xI e g 0)))))) else i f
def mA(c:List (List zd))(g:zu)(e:List (z6×Int))(f:(List zt)->Option (List zt)):Nat->(List zt)->Int->Option (List zt)
 | 0,_,_=>none
 | h+1,b,a=>if decide (a<c.length) then qI (fun(i:List zt)=>mA c g e f h i (i64 (a+1))) fun j=>chk (0<=a/\a<c.length) (qI (fun(k:List zt)=>(j8 k (fun y0 y1=>jI y0 y1)).bind fun d=>chk (((b++d).length:Int)*24<=140737488355328/\((b++d).length:Int)<=4611686018427387904) (j (b++d))) fun l=>mz c a g e l xR ([]:List zt) 0 ([]:List (Int×Int))) else f b
def sy(h:zu)(b:List (List zd))(a:List ys):Option (List zt):=
 (wN b (fun y0=>fY y0)).bind fun c=>if c then some ([]:List zt) else qI (fun(d:List (z6×Int))=>qI (fun(e:List zt)=>some e) fun f=>mA b h d f xR ([]:List zt) 0) fun g=>my a g xR (i64 ((a.length:Int)-1)) ([]:List (z6×Int))
theorem aD{Z ai aj ak al am an ao ap aq ar au av aw ax ay az aA aB aC aE d b q r}(h:sy d b q=some r){Nx}(hz:PZ [] Nx Z)(bw:ZS Z 4 (kr Z) ai aj d.fM)(bx:ZS Z 4 (g5 Z) ak al d.yd)(bz:ZS Z 4 (rq ki) am an d.fS)(bA:ZS Z 4 (rq gg) ao ap d.fK)(bB:ZS Z 7 (g8 Z) aq ar d.yc)(bC:ZS Z 5 (rq gc) au av d.fH)(bD:ZS Z 3 (g6 Z) aw ax d.fU)(bE:ZS Z 4 (rq ge) ay az d.ye)(aJ:ZS Z 1 (g9 Z) aA aB b)(aF:ZS Z 4 (rq km) aC aE q):
  Calls Tryz.prog 28 #[.agg #[vs ai d.fM.length aj,vs ak d.yd.length al,vs am d.fS.length an,vs ao d.fK.length ap,vs aq d.yc.length ar,vs au d.fH.length av,vs aw d.fU.length ax,vs ay d.ye.length az],vs aA b.length aB,vs aC q.length aE] Nx fun e w'=>∃ aK:Option Addr,∃ aL:Nat,e = .returned (vs aK r.length aL)/\True/\Hp [] Nx w' [row (vs aK r.length aL) 53 3 (r.flatMap fg)]:=by
 unfold sy at h
 refine Nk func28 U U ?_
 let A:List Value:=[vs ai d.fM.length aj,vs ak d.yd.length al,vs am d.fS.length an,vs ao d.fK.length ap,vs aq d.yc.length ar,vs au d.fH.length av,vs aw d.fU.length ax,vs ay d.ye.length az];refine B0q<|Lg 3 (wa (cs:=A)) ?_
 intro m _
 refine Q1n U<|WC.b<|WC.b<|bK h fun bY aS h=>D1q U<|Nr call50 hz (fun pz=>mn (zlI:=58) (ztN:=[]) (zlH:=(fun y0=>fY y0)) aS pz aJ call58<|fun w' hz' y0 ga0 gc0 r DD hr=>WP hr hz' DD)<|Q0n<|Lj h (fun aT h=>?_)<|fun aT h=>?_
 ·exact B1n U<|Ny<|Lk<|WX.nilRow 53 3<|oJ h▸Li results28 (.tmp U .nil) fun w hw=>⟨none,0,xZ,trivial,hw.sub (.cons .here .nil)⟩
 ·refine Nn<|B0q (Lg 20 (kH (ga w8)<|Value.int .i64) fun n _=>Q1n U ?_)
  obtain⟨aM,aU,h⟩:=wg h
  let E:Value:=(vs aA b.length aB);refine Na (fun g=>(aM g=some r)) (fun g=>[(1,E),(3,vp m),(7,(.map<|some n))]) (fun g=>[stb m 31 A,xN n (ga w8) vI g]) ?_ ?_
  ·refine B1q U<|Le 22 (w9 underlying33)<|Q2n U<|WC.block<|H4 (fun ae o L=>(my q aM ae o L=some r)) (fun ae o L=>[(1,E),(2,vs aC q.length aE),(3,vp m),(7,(.map<|some n)),(8,vi o)]) (fun ae o L=>[stb m 31 A,xN n (ga w8) vI L]) (fun ae o L=>ae) ⟨xR,i64 ((q.length:Int)-1),([]:List (z6×Int))⟩ h .q (.s2 .h1 .here) ?_
   rintro(_|bp) o L h;·cases h
   rw[my] at h
   refine WC.b<|B2n U<|Lj h (fun aV h=>?_)<|fun aV h=>?_
   ·refine Nn<|WC.b<|WC.block<|cK h fun aG h=>Lu (fun i=>[17].contains i) []<|Lf 0 U q_m<|Lf 1 U q_m<|Lf 2 U q_m<|L5 (j:=3) (Z:=Z) (Pr:=(rq km)) z9x aF aG ?_
    rintro bF bG aW bH rfl
    refine Lf 4 U (xz pN)<|Lh 5 U (xA xJ U<|wq hz.pv aW)<|Lf 6 U q_m<|Lf 7 U q_m<|L5 (j:=8) (Z:=Z) (Pr:=(rq km)) z9x aF aG ?_
    rintro bI bJ aX bL rfl
    refine Lf 9 U (xz lM)<|Lh 10 U (xA xJ U<|wq hz.pv aX)<|Lf 11 U (we (v:=(.agg #[(vi<|(nth q o).ya),(vi<|(nth q o).fQ)])) (Lq (l:=[.tmp 33,.tmp 38]) (.r2 U U) [0,1]))<|Lf 12 U q_m<|Lf 13 U q_m<|L5 (j:=14) (Z:=Z) (Pr:=(rq km)) z9x aF aG ?_
    rintro bM bN aY bO rfl
    exact Lf 15 U (xz dA)<|Lh 16 U (xA xJ U<|wq hz.pv aY)<|Nc (i:=17) U (kV (k:=(⟨(nth q o).ya,(nth q o).fQ⟩:z6)) (v:=((nth q o).yl)) ziM underlying117 .h1)<|N0<|Lt<|Lb<|D3q U<|WL.nil<|Nz ⟨bp,i64 (o-1),(w6 L (⟨(nth q o).ya,(nth q o).fQ⟩:z6)<|(nth q o).yl)⟩ h .q<|.s2 .h1 .here
   ·exact N1<|Lm<|Lm<|Lv<|Lo L h .q<|.a2
  ·rintro g h
   replace h:=(aU g).symm.trans h
   refine B1n U<|jK1 h fun aN aZ h=>Nj (fun M R S=>(aN M=some r)) (fun M R S=>[(9,vs R M.length S)]) (fun M R S=>[row (vs R M.length S) 53 3 (M.flatMap fg)]) ?_ ?_
   ·let I:Value:=(vi (b.length:Int));refine B1q U<|Le 46 (w9 underlying32)<|Q1n U<|WC.block<|WC.nilRow 53 3<|Oa (fun af p a N O=>(mA b d g aN af p a=some r)) (fun af p a N O=>[(3,vp m),(7,(.map<|some n)),(9,vs N p.length O),(45,E),(46,I),(47,vi a)]) (fun af p a N O=>[row (vs N p.length O) 53 3 (p.flatMap fg),stb m 31 A,xN n (ga w8) vI g]) (fun af p a N O=>af) ⟨xR,([]:List zt),0,none,0⟩ h .q .a3 ?_
    rintro(_|bq) p a N O h;·cases h
    rw[mA] at h
    refine B1n U<|WC.b<|Lj h (fun a0 h=>?_)<|fun a0 h=>?_
    ·refine Nn<|jK1 h fun br a1 h=>Nj (fun y T V=>(br y=some r)) (fun y T V=>[(3,vp m),(7,(.map<|some n)),(9,vs T y.length V),(45,E),(46,I),(47,vi a)]) (fun y T V=>[row (vs T y.length V) 53 3 (y.flatMap fg),stb m 31 A,xN n (ga w8) vI g]) ?_ ?_
     ·refine WC.block<|WC.b<|cK h fun a2 h=>D1q U<|L2 (Z:=Z) (Pr:=(g9 Z)) z8K aJ a2 ?_
      rintro bP bQ a3 bR ⟨bs,bt,rfl,aO⟩
      refine Le 51 (xA z9v U<|kN hz.pv a3)<|Q2n U<|B0q (Lg 52 (kH vI<|Value.int .i64) fun W _=>Q1n U<|B1n U ?_)
      obtain⟨aP,a4,h⟩:=wg h
      let F:Value:=(vs N p.length O);refine Nj (fun P X Y=>(aP P=some r)) (fun P X Y=>[(3,vp m),(7,(.map<|some n)),(9,F),(13,vs X P.length Y),(45,E),(46,I),(47,vi a)]) (fun P X Y=>[row F 53 3 (p.flatMap fg),row (vs X P.length Y) 53 3 (P.flatMap fg),stb m 31 A,xN n (ga w8) vI g]) ?_ ?_
      ·let D:Value:=(vs bs ((nth b a).length) bt);refine B1q U<|Le 54 (w9 underlying58)<|Q1n U<|WC.block<|WC.nilRow 53 3<|Oi (fun ag s c f t x=>(mz b a d g aP ag s c f=some r)) (fun ag s c f t x=>[(3,vp m),(7,(.map<|some n)),(9,F),(10,vi a),(11,D),(12,(.map<|some W)),(13,vs t s.length x),(45,E),(46,vi (b.length:Int)),(47,vi a),(53,D),(54,vi ((nth b a).length:Int)),(55,vi c)]) (fun ag s c f t x=>[row F 53 3 (p.flatMap fg),row (vs t s.length x) 53 3 (s.flatMap fg),stb m 31 A,xN n (ga w8) vI g,xN W vI vI f]) (fun ag s c f t x=>ag) ⟨xR,([]:List zt),0,([]:List (Int×Int)),none,0⟩ h .q (.s5 .h2 .here .h1 .h1 .here) ?_
       rintro(_|bu) s c f t x h;·cases h
       rw[mz] at h
       refine B1n U<|WC.b<|Lj h (fun a5 h=>?_)<|fun a5 h=>?_
       ·refine Nn<|jK2 h fun bv a6 h=>Ow (fun z Q aa ab=>(bv z Q=some r)) (fun z Q aa ab=>[(3,vp m),(7,(.map<|some n)),(9,F),(10,vi a),(11,D),(12,(.map<|some W)),(13,vs aa z.length ab),(45,E),(46,vi (b.length:Int)),(47,vi a),(53,D),(54,vi ((nth b a).length:Int)),(55,vi c)]) (fun z Q aa ab=>[row F 53 3 (p.flatMap fg),row (vs aa z.length ab) 53 3 (z.flatMap fg),stb m 31 A,xN n (ga w8) vI g,xN W vI vI Q]) ?_ ?_
        ·refine WC.block<|WC.b<|cK h fun a7 h=>Ld<|L2 (Z:=Z) (Pr:=(rq mN)) z7F aO a7 ?_
         rintro a8 bS a9 bT rfl
         refine Le 58 (xK z54 (qx hz.pv a9)) (Lg 15 (xT (cs:=[vi 0,vi 0,vi 0]) zdE) fun aQ _=>Ll (xP zbS .here)<|Q0n<|WC.b<|B1q U<|Le 61 (xz mD)<|Le 62 (Nt xJ .here)<|Le 63 (GQ (k:=((nth (nth b a) c).fX)) (dflt:=(0:Int)) gM underlying148 jF U U U .h5)<|Q5n U<|WC.b ?_)
         obtain⟨ba,h⟩:=xG h
         let C:Value:=(.bool (vH f ((nth (nth b a) c).fX)));let H:Value:=(vi (xI f ((nth (nth b a) c).fX) 0));let J:=((nth b a).length:Int);let K:Value:=(vi ((nth (nth b a) c).fX));refine Lu nc []<|Lf 0 U q_m<|Lf 1 U q_m<|Nf (fuel':=0) [(3,vp m),(7,(.map<|some n)),(9,F),(10,vi a),(11,D),(12,(.map<|some W)),(13,vs t s.length x),(45,E),(46,I),(47,vi a),(53,D),(54,vi J),(55,vi c),(56,(.bool<|decide (c<J))),(57,vq a8),(58,.agg #[(vi<|(nth (nth b a) c).ya),K,(vi<|(nth (nth b a) c).fQ)]),(15,vp aQ),(60,(.map<|some W)),(61,(.pointer<|some ⟨aQ,1,none⟩)),(62,K),(63,.tuple #[H,C]),(59,.tuple #[H,C]),(64,H),(65,C),(16,H),(17,C),(66,C),(67,C),(75,.bool ((vH f<|(nth (nth b a) c).fX)||(decide (((nth (nth b a) c).fX)=((nth (nth b a) 0).ya)))))] (vA 10 (dn 10)) ?_<|fun aR=>?_
         rotate_left
         ·rcases Bool.eq_false_or_eq_true (vH f ((nth (nth b a) c).fX)) with hb' | hb'
          ·have aH:=hb';clear hb'
           refine L3 (i:=67) U aH<|Lp 2 U<|Lp 3 U<|Lp 4 U<|Lp 5 U<|Lp 6 U<|Lp 7 U<|Lp 8 U<|Lf 9 U qW<|Lx .a6 ?_ aR
           exact .t 27<|.r2 (zA<|Eq.symm aH)<|zA<|gO aH
          ·have ah:=hb';clear hb'
           have bb:=ba ah
           refine L3 (i:=67) U ah<|Lf 2 U (xz mD)<|Lh 3 U (Nt xJ .here)<|Lf 4 U q_m<|L5 (j:=5) (Z:=Z) (Pr:=(rq mN)) z7F aO bb ?_
           rintro bU bV bc bW rfl
           refine Lf 6 U (xz ku)<|Lh 7 U (xA xJ U<|wq hz.pv bc)<|Lf 8 U (e8 U U)<|Lf 9 U qX<|Lx .a6 ?_ aR
           exact .t 27<|.r2 (zA<|Eq.symm ah)<|zA<|gP ah
         refine N0<|Lb<|Lj h (fun bd h=>?_)<|fun bd h=>?_
         ·exact N1<|Lm<|Lv<|Lo ⟨s,f,t,x⟩ h .q<|.s5 .h1 .h1 .h1 .h1 .h1
         ·refine Nn<|WC.b<|bK h fun ad be h=>Lu (fun i=>[12].contains i) []<|Lf 0 U q_m<|Lf 1 U (xz mD)<|Lh 2 U (Nt xJ .here)<|Lf 3 U q_m<|Lf 4 U (xz ku)<|Lh 5 U (Nt xJ .here)<|Lh 6 U (jg (k:=((nth (nth b a) c).ya)) (dflt:=(0:Int)) gM underlying148 jF .h5)<|Lf 7 U q_m<|Lh 8 U (xK z54 (xM .here))<|L4 9 U (Ns call60) (cc hz .nil fun w pz ho=>tL be pz )<|Lh 10 U (jg (k:=ad) (dflt:=(0:Int)) ziM underlying117 jF .h4)<|Lf 11 U uC<|Nc (i:=12) U (kV (k:=((nth (nth b a) c).fX)) (v:=i64 ((xI f ((nth (nth b a) c).ya) 0)+(xI g ad 0))) gM underlying148 .h5)<|N0<|Lb<|B0q<|Le 88 (xz mD)<|Le 89 (Nt xJ .h1)<|Q2q U<|Ly true 6 91 (B:=(decide (((nth (nth b a) c).fX)>=0))&&(decide (((nth (nth b a) c).fX)<d.fM.length))) (fun _ bf=>?_) ?_
          ·exact Le 92 (xz mD)<|Le 93 (Nt xJ .h1)<|Le 94 (xz tw)<|Le 95 (Nt zaS .h4)<|Le 96 (w9 underlying22)<|Q2q U<|Lz (kS bf) U .all
          refine Q0n<|Lj h (fun bg h=>?_)<|fun bg h=>?_
          ·refine cK h fun bh h=>D2q U<|Le 101 (xz mD)<|Le 102 (Nt xJ .h1)<|La U<|Le 104 (xz mD)<|Le 105 (Nt xJ .h1)<|Le 106 (jg (k:=((nth (nth b a) c).fX)) (dflt:=(0:Int)) gM underlying148 jF .here)<|Le 107 (we (v:=(.agg #[vi a,(vi<|(nth (nth b a) c).fX),(vi<|xI (w6 f ((nth (nth b a) c).fX)<|i64 ((xI f ((nth (nth b a) c).ya) 0)+(xI g ad 0))) ((nth (nth b a) c).fX) 0)])) (Lq (l:=[.tmp 100,.tmp 102,.tmp 106]) (.r3 U U U) [0,1,2]))<|Lg 108 (wj (cs:=([(⟨a,(nth (nth b a) c).fX,xI (w6 f ((nth (nth b a) c).fX)<|i64 ((xI f ((nth (nth b a) c).ya) 0)+(xI g ad 0))) ((nth (nth b a) c).fX) 0⟩:zt)]:List zt).flatMap fg) zlD (Lq (l:=[.tmp 107]) (.cons U .nil) [0])) ?_
           intro bX _
           let G:=(i64 ((xI f ((nth (nth b a) c).ya) 0)+(xI g ad 0)));refine WL.fA 109 (kG (enc:=fg) (l1:=s) (l2:=([(⟨a,(nth (nth b a) c).fX,xI (w6 f ((nth (nth b a) c).fX) G) ((nth (nth b a) c).fX) 0⟩:zt)]:List zt)) zlD .h4 (jB .here) (gF QF) bh) ?_
           rintro⟨bi,bj⟩ _
           exact La U<|WL.nil<|Lt<|Lo ⟨s++([(⟨a,(nth (nth b a) c).fX,xI (w6 f ((nth (nth b a) c).fX) G) ((nth (nth b a) c).fX) 0⟩:zt)]:List zt),w6 f ((nth (nth b a) c).fX) G,bi,bj⟩ h .q<|.s5 .h4 .here .h3 .h3 .h1
          ·exact N2<|Lt<|Lo ⟨s,(w6 f ((nth (nth b a) c).fX)<|i64 ((xI f ((nth (nth b a) c).ya) 0)+(xI g ad 0))),t,x⟩ h .q<|.s5 .h2 .h2 .h2 .h2 .here
        ·rintro z Q aa ab h
         replace h:=(a6 z Q).symm.trans h
         exact D2q U<|WL.nil<|Nz ⟨bu,z,i64 (c+1),Q,aa,ab⟩ h .q<|.a5
       ·exact N1<|Lm<|Lm<|Lv<|Lo ⟨s,t,x⟩ h .q<|.a4
      ·rintro P X Y h
       replace h:=(a4 P).symm.trans h
       refine WC.b<|bK h fun aI bk h=>D1q U<|Nb U (Ns call61) (.cons .h1 .nil) (cc hz (.cons .h1 .nil) fun w pz ho=>ol (zqI:=62) (zzC:=[]) (zqH:=(fun y0 y1=>jI y0 y1)) bk pz call62 (fun w' hz' y0 y1  r  hr=>WQ hr hz' ) ho) ?_
       rintro  bl
       refine L9 (i:=13) U (u:=(vs X aI.length Y)) (qB bl.symm)<|Q0n<|cK h fun bm h=>D2q U<|WL.fA 115 (kG (enc:=fg) (l1:=p) (l2:=aI) zlD .h1 (jB .here) (gF QF) bm) ?_
       rintro⟨bn,bo⟩ _
       exact La U<|WL.nil<|Lt<|Lo ⟨p++aI,bn,bo⟩ h .q<|.s3 .here .h1 .h1
     ·rintro y T V h
      replace h:=(a1 y).symm.trans h
      exact D2q U<|WL.nil<|Nz ⟨bq,y,i64 (a+1),T,V⟩ h .q<|.a3
    ·exact N1<|Lm<|Lm<|Lv<|Lo ⟨p,N,O⟩ h (.cons U .nil)<|.cons .here .nil
   ·rintro M R S h
    replace h:=(aZ M).symm.trans h
    exact B2n U<|Ny<|oJ h▸Li results28 (.tmp U .nil) fun w hw=>⟨R,S,xZ,trivial,hw.sub (.cons .here .nil)⟩
def jO(c:List z6×Int)(g:zu)(e:List (List zd))(f:(List ys)->Option (yL×Int)):Nat->Int->Int->(List ys)->(List (ym×z2))->(List (z6×Int))->Option (yL×Int)
 | 0,_,_,_,_,_=>none
 | h+1,b,i,d,j,k=>if decide (b<c.1.length) then chk (0<=b/\b<c.1.length) ((uA g e j k i (⟨(nth c.1 b).ya,(nth c.1 b).fQ⟩:z6)).bind fun a=>chk (((d++([a.1]:List ys)).length:Int)*32<=140737488355328/\((d++([a.1]:List ys)).length:Int)<=4611686018427387904) (if decide (a.2.1≠0) then some ((⟨([]:List ys),([]:List zt)⟩:yL),a.2.1) else jO c g e f h (i64 (b+1)) a.2.1 (d++([a.1]:List ys)) a.2.2.1 a.2.2.2)) else f d
def tT(b:zu)(e:Int)(a:List (List zd)):Option (yL×Int):=
 (kE b e a).bind fun f=>if !f then some ((⟨([]:List ys),([]:List zt)⟩:yL),310) else(qL b.yc (fun y0=>kq y0)).bind fun g=>if g then some ((⟨([]:List ys),([]:List zt)⟩:yL),350) else(ur a).bind fun c=>if decide (c.2≠0) then some ((⟨([]:List ys),([]:List zt)⟩:yL),c.2) else qI (fun(h:List ys)=>(wt h (fun y0 y1=>qV y0 y1)).bind fun d=>(sy b a d).bind fun i=>some ((⟨d,i⟩:yL),0)) fun j=>jO c b a j xR 0 0 ([]:List ys) ([]:List (ym×z2)) ([]:List (z6×Int))
theorem XU{Z Q R S T V W X Y aa ab ad ae af ag ah ai aj ak a av s r}(h:tT a av s=some r){Nx}(hz:PZ [] Nx Z)(al:ZS Z 4 (kr Z) Q R a.fM)(am:ZS Z 4 (g5 Z) S T a.yd)(an:ZS Z 4 (rq ki) V W a.fS)(ao:ZS Z 4 (rq gg) X Y a.fK)(z:ZS Z 7 (g8 Z) aa ab a.yc)(ap:ZS Z 5 (rq gc) ad ae a.fH)(aq:ZS Z 3 (g6 Z) af ag a.fU)(ar:ZS Z 4 (rq ge) ah ai a.ye)(B:ZS Z 1 (g9 Z) aj ak s):
  Calls Tryz.prog 18 #[.agg #[vs Q a.fM.length R,vs S a.yd.length T,vs V a.fS.length W,vs X a.fK.length Y,vs aa a.yc.length ab,vs ad a.fH.length ae,vs af a.fU.length ag,vs ah a.ye.length ai],vi av,vs aj s.length ak] Nx fun e w'=>∃ aw:Option Addr,∃ ax:Nat,∃ ay:Option Addr,∃ az:Nat,e = .returned (.tuple #[.agg #[vs aw r.1.fP.length ax,vs ay r.1.yy.length az],vi r.2])/\True/\Hp [] Nx w' [row (vs aw r.1.fP.length ax) 37 4 (r.1.fP.flatMap km),row (vs ay r.1.yy.length az) 53 3 (r.1.yy.flatMap fg)]:=by
 unfold tT at h
 refine Nk func18 U U ?_
 let D:Value:=(vs Q a.fM.length R);let E:Value:=(vs S a.yd.length T);let F:Value:=(vs V a.fS.length W);let G:Value:=(vs X a.fK.length Y);let H:Value:=(vs aa a.yc.length ab);let I:Value:=(vs ad a.fH.length ae);let J:Value:=(vs af a.fU.length ag);let K:Value:=(vs ah a.ye.length ai);let A:List Value:=[D,E,F,G,H,I,J,K];refine B0q<|Lg 3 (wa (cs:=A)) ?_
 intro M _
 refine Lg 6 (xT (cs:=[vn,vn]) ziL) fun N _=>Q1n U<|WC.b<|WC.b<|bK h fun a2 aH h=>Ld<|Le 14 (xK z2v (xM .h1))<|Q2q U<|Nr call22 hz (fun pz=>uh aH pz al am an ao z ap aq ar B)<|Q1n U<|Lj h (fun aI h=>?_)<|fun aI h=>?_
 ·exact B0q<|Le 19 (we (v:=(.agg #[vn,vn])) (Lq (l:=[]) .nil []))<|Ll (xP z9y .here)<|Q1n U<|Ny<|Lk<|WX.nilRow 37 4<|WX.nilRow 53 3<|oJ h▸Li results18 (.agg U z9z U (xM .h2)<|.tmp U .nil) fun w hw=>⟨none,0,none,0,q9,trivial,hw.sub (.s2 .h1 .here)⟩
 ·refine Nn<|WC.b<|WC.b<|bK h fun a3 aJ h=>Ld<|Le 20 (xz uO)<|Le 21 (Nt zab .h1)<|Nr call39 hz (fun pz=>pQ (zp0:=40) (zy5:=[]) (zoZ:=(fun y0=>kq y0)) aJ pz z call40<|fun w' hz' y0 ga0 gc0 r DD hr=>Yo hr hz' DD)<|Q0n<|Lj h (fun aK h=>?_)<|fun aK h=>?_
  ·exact B0q<|Le 23 (we (v:=(.agg #[vn,vn])) (Lq (l:=[]) .nil []))<|Ll (xP z9y .here)<|Q1n U<|Ny<|Lk<|WX.nilRow 37 4<|WX.nilRow 53 3<|oJ h▸Li results18 (.agg U z9z U (xM .h2)<|.tmp U .nil) fun w hw=>⟨none,0,none,0,q9,trivial,hw.sub (.s2 .h1 .here)⟩
  ·refine Nn<|WC.b<|bK h fun n aL h=>D1q U<|H5 U (Ns call42) .nil (cc hz .nil fun w pz ho=>nK aL pz B) ?_
   rintro aV aW _
   refine Q5n U<|WC.b<|B2n U<|Lj h (fun aM h=>?_)<|fun aM h=>?_
   ·exact B0q<|Le 31 (we (v:=(.agg #[vn,vn])) (Lq (l:=[]) .nil []))<|La U<|Ll (xP z9y .h1)<|Q1n U<|Ny<|Lk<|WX.nilRow 37 4<|WX.nilRow 53 3<|oJ h▸Li results18 (.agg U z9z U (xM .h2)<|.tmp U .nil) fun w hw=>⟨none,0,none,0,q9,trivial,hw.sub (.s2 .h1 .here)⟩
   ·refine Nn<|B0q<|Le 33 (xK z2v (xM .h2))<|La U (Lg 35 (kH (ga jM)<|fun x=>Value.agg (xX x).toArray) fun O _=>Lg 36 (kH (ga w8)<|Value.int .i64) ?_)
    intro P _
    let C:Value:=(vs aj s.length ak);refine Le 37 (we (v:=(.agg #[D,E,F,G,H,I,J,K,C,(.map<|some O),(.map<|some P),vi 0])) (Lq (l:=[.tmp 33,.tmp 34,.tmp 35,.tmp 36,.const (vi 0)]) (.r5 U U U U U) [0,1,2,3,4]))<|Lg 38 (wa (cs:=[D,E,F,G,H,I,J,K,C,(.map<|some O),(.map<|some P),vi 0])) ?_
    intro au _
    refine Q1n U<|B0q (Lg 11 (xT (cs:=[vn,vn]) ziL) fun t _=>Q0n ?_)
    refine jK1 h fun aA aN h=>Nj (fun d f g=>(aA d=some r)) (fun d f g=>[(2,C),(3,vp M),(6,vp N),(11,vp t)]) (fun d f g=>[stb M 31 A,stb N 40 [vn,vn],stb t 40 [vs f d.length g,vn],row (vs f d.length g) 37 4 (d.flatMap km)]) ?_ ?_
    ·let L:Value:=(vs aV n.1.length aW);refine B1q U<|Le 40 (w9 underlying112)<|Q1n U<|WC.block<|WC.nilRow 37 4<|Ox (fun u c o b p q j k=>(jO n a s aA u c o b p q=some r)) (fun u c o b p q j k=>[(2,C),(3,vp M),(6,vp N),(10,vp au),(11,vp t),(39,L),(40,vi (n.1.length:Int)),(41,vi c)]) (fun u c o b p q j k=>[row L 121 2 (n.1.flatMap w8),stb M 31 A,stb N 40 [vn,vn],stb au 119 [D,E,F,G,H,I,J,K,C,(.map<|some O),(.map<|some P),vi o],stb t 40 [vs j b.length k,vn],row (vs j b.length k) 37 4 (b.flatMap km),xN O (ga jM) (ga xX) p,xN P (ga w8) vI q]) (fun u c o b p q j k=>u) ⟨xR,0,0,([]:List ys),([]:List (ym×z2)),([]:List (z6×Int)),none,0⟩ h .q (.s8 .h5 .h6 .h5 .h2 .h1 .here .h1 .here) ?_
     rintro(_|aX) c o b p q j k h;·cases h
     rw[jO] at h
     refine B1n U<|WC.b<|Lj h (fun aO h=>?_)<|fun aO h=>?_
     ·refine Nn<|WC.b<|WC.block<|WC.b<|cK h fun y h=>Ld<|N4 (fun w hw=>Hp.vr .here hw (by intro hz';have:=y;rw[hz'] at this;omega)) ?_
      rintro⟨aZ,rfl⟩
      refine Le 43 (w3 z9w y.1 y.2 wI)<|Le 44 (wn (cs:=(w8<|nth n.1 c)) z6Q<|vU .here<|wU (enc:=w8) (l:=n.1) (i:=c) (sz:=2) y.1 y.2) (Lg 13 (xT (cs:=[vi 0,vi 0]) ztk) fun a0 _=>Ll (xP zxi .here)<|Q0n<|WC.b ?_)
      refine bK h fun m aP h=>cK h fun aQ h=>Lu (fun i=>[4,6,8].contains i) [re t 40 [(0,vs j b.length k)]]<|Lf 0 U (xz ug)<|L7 1 U (wB.wk (.cons .h5 .nil)<|.stb (.cons U .nil) .nil) (xA z9A U<|mC .here<|.head _)<|Lf 2 U q_m<|Lh 3 U (xK z6Q (xM .here)) (WD.call0 (i:=4) U U (.inl ⟨U,(wB.wk (.cons .h7 .nil)<|.stb (.cons U .nil) .nil)⟩) (Ns call43) (.s3 .h4 .h6 .h6) (cc hz (.s3 .h4 .h6 .h6) fun w pz ho=>Calls.mono (Yq aP pz al am an ao z ap aq ar B ho)<|fun _ _ h'=>⟨h'.1,trivial,h'.2⟩) fun _=>WD.new (i:=5) U U (wj (cs:=([m.1]:List ys).flatMap km) z9x (Lq (l:=[.tmp 49]) (.cons U .nil) [0])) (fun h'=>absurd h' (by decide)) fun a1 _=>WD.old (i:=6) U U (fun _=>(wB.wk (.cons (.there<|.there .h7) .nil)<|.stb (.cons U .nil) .nil)) (kG (enc:=km) (l1:=b) (l2:=([m.1]:List ys)) z9x (.there<|.there .h7) (jB .here) (gF XK) aQ) ?_)
      rintro⟨aB,aC⟩ _
      refine Lf 7 U (xz ug)<|Nc (i:=8) U (jh (ds:=[vs aB ((b++([m.1]:List ys)).length) aC,vn]) zLM (.there<|.there .h7))<|N0<|Lb<|B1q U<|Le 54 xY<|Le 55 (xz lJ)<|Le 56 (Nt z6h .h3)<|Q1n U<|Lj h (fun aR h=>?_)<|fun aR h=>?_
      ·exact WC.b<|Lu (fun i=>[5].contains i) [re au 119 [(11,vi m.2.1)]]<|Lf 0 U (we (v:=(.agg #[vn,vn])) (Lq (l:=[]) .nil []))<|Lf 1 U q_m<|Lf 2 U xY<|Lf 3 U (xz lJ)<|L7 4 U (wB.wk (.cons .h3 .nil)<|.stb (.cons U .nil) .nil) (xA z6h U<|mC .here<|.head _)<|WD.forced0 (i:=5) U (wB.wk (.cons .h4 .nil)<|.stb (.cons U .nil) .nil) (xP z9y (.there<|.there .h7))<|Lf 6 U q_z<|N0<|Lb<|Ny<|Lw<|Lk<|Lk<|Lw<|Lk<|WX.nilRow 37 4<|WX.nilRow 53 3<|oJ h▸Li results18 (.agg U z9z U (xM .h2)<|.tmp U .nil) fun w hw=>⟨none,0,none,0,q9,trivial,hw.sub (.s2 .h1 .here)⟩
      ·exact N2<|Lt<|Lb<|D2q U<|WL.nil<|Nz ⟨aX,i64 (c+1),m.2.1,b++([m.1]:List ys),m.2.2.1,m.2.2.2,aB,aC⟩ h .q<|.s8 .h7 .h7 .h7 .h3 .here .here .h1 .h1
     ·exact N1<|Lm<|Lm<|Lv<|Lo ⟨b,j,k⟩ h .q<|.s4 .h1 .h1 .h2 .h2
    ·rintro d f g h
     replace h:=(aN d).symm.trans h
     refine WC.b<|bK h fun aE aS h=>Ld<|Le 64 (xz ug)<|Le 65 (Nt z9A .h2)<|Nb U (Ns call26) (.cons .h3 .nil) (cc hz (.cons .h3 .nil) fun w pz ho=>f5 (zn8:=44) (zvC:=[]) (zn7:=(fun y0 y1=>qV y0 y1)) aS pz call44 (fun w' hz' y0 y1  r  hr=>Yr hr hz' ) ho) ?_
     rintro  aT
     refine N9 (cs':=[vs f aE.length g,vn]) .h3 (by rw[aT])<|Q0n<|WC.b<|bK h fun aY aU h=>Ld<|Le 67 (xK z2v (xM .h2))<|La U<|Le 69 (xz ug)<|Le 70 (Nt z9A .here)<|H5 U (Ns call28) .nil (ux hz .nil (.cons .h1 .nil) fun w pz ho la=>aD aU pz ((al.mono<|zl).weak (fun _ _ h=>wV zl h)) ((am.mono<|zl).weak (fun _ _ h=>vt zl h)) (an.mono<|zl) (ao.mono<|zl) ((z.mono<|zl).weak (fun _ _ h=>wX zl h)) (ap.mono<|zl) ((aq.mono<|zl).weak (fun _ _ h=>vu zl h)) (ar.mono<|zl) ((B.mono<|zl).weak (fun _ _ h=>qa zl h))<|ZA.row (la _ (.head _) _) (RR.flat (enc:=km)) ⟨w,pz.1⟩) ?_
     rintro aF aG _
     exact Le 72 (xz pO)<|Ll (jh (ds:=[vs f aE.length g,vs aF aY.length aG]) zLN .h1)<|Q0n<|B0q<|Le 73 (xK z9z (xM .here))<|Ll (xP z9y .h4)<|Q1n U<|Ny<|oJ h▸Li results18 (.agg U z9z U (xM .here)<|.tmp U .nil) fun w hw=>⟨f,g,aF,aG,q9,trivial,hw.sub (.s2 .h3 .h2)⟩
def kn(b:List (Int->Option Int))(c:Int)(d:Int->Option Int):Nat->Int->Int->Option Int
 | 0,_,_=>none
 | f+1,e,a=>if decide (a<b.length) then chk (0<=a/\a<b.length) (((nth b a) c).bind fun g=>kn b c d f (i64 (e+g)) (i64 (a+1))) else d e
def o8(a:List (Int->Option Int))(b:Int):Option Int:=
 qI (fun(c:Int)=>some c) fun d=>kn a b d xR 0 0
theorem Ys{Z i j c e r}(h:o8 c e=some r){Nx}(hz:PZ [] Nx Z)(n:ZS Z 1 (tj Z) i j c):
  RC 55 #[vs i c.length j,vi e] Nx (vi r) [] []:=by
 unfold o8 at h
 refine L0 func55 U U<|B1n U<|B1n U<|jK1 h fun k o h=>Na (fun d=>(k d=some r)) (fun d=>[(5,vi d)]) (fun d=>[]) ?_ ?_
 ·refine B1q U<|Le 9 (w9 underlying140)<|Q1n U<|WC.block<|H4 (fun g a b=>(kn c e k g a b=some r)) (fun g a b=>[(1,vi e),(5,vi a),(8,vs i c.length j),(9,vi (c.length:Int)),(10,vi b)]) (fun g a b=>[]) (fun g a b=>g) ⟨xR,0,0⟩ h .q .nil ?_
  rintro(_|z) a b h;·cases h
  rw[kn] at h
  refine B1n U<|WC.b<|Lj h (fun p h=>?_)<|fun p h=>?_
  ·refine Nn<|WC.b<|WC.block<|WC.b<|cK h fun q h=>Ld<|L2 (Z:=Z) (Pr:=(tj Z)) zto n q ?_
   rintro A B s C ⟨t,u,rfl,v,x⟩
   exact Le 13 (xA zWR U<|kN hz.pv s)<|Q1n U<|bK h fun m y h=>D3q U<|Ln 17 (qg (l:=[.tmp 16]) (f:=t) (caps:=u) v<|.cons U .nil) .nil (fun w hw=>x w (hz.now hw) e m  y)<|Q2q U<|WL.nil<|Lt<|Lb<|D2q U<|WL.nil<|Nz ⟨z,i64 (a+m),i64 (b+1)⟩ h .q .nil
  ·exact N1<|Lm<|Lm<|Lv<|Lo a h (.cons U .nil) .nil
 ·rintro d h
  replace h:=(o d).symm.trans h
  exact B2n U<|Ny<|oJ h▸Nl results55
def pD:List (Int->Option Int)->Int->Int->Option Int
 | [],_,s=>some s
 | f::l,t,s=>(f t).bind fun x=>pD l t (i64 (s+x))
theorem YC(a b:Int):i64 (i64 a+b)=i64 (a+b):=by
 unfold i64 IntKind.wrap
 simp only[IntKind.signed,IntKind.bits]
 simp
 omega
theorem Fc{t l l'}(h:l.Perm l'):∀ {s:Int},pD l t s=pD l' t s:=by
 induction h with
 | nil=>intro s;rfl
 | cons f _ ih=>intro s;rw[pD,pD];cases f t with
  | none=>rfl
  | some x=>exact ih
 | swap f g l=>
  intro s
  rw[pD,pD]
  cases hf:f t with
  | none=>
   cases hg:g t with
   | none=>rfl
   | some y=>simp only[oB,Option.bind_none,pD,hf]
  | some x=>
   cases hg:g t with
   | none=>simp only[oB,Option.bind_none,pD,hg]
   | some y=>
    simp only[oB,pD,hf,hg]
    rw[YC,YC,show s+y+x=s+x+y by omega]
 | trans _ _ ih1 ih2=>intro s;exact ih1.trans ih2
theorem XV{l:List (Int->Option Int)}{t:Int}{k:Int->Option Int}(hl:l.length<=4611686018427387904):∀(n:Nat) (s v:Int),0<=v->v<=l.length->l.length<n+v->kn l t k n s v=(pD (l.drop v.toNat) t s).bind k
 | 0,s,v,h0,h1,h2=>by omega
 | n+1,s,v,h0,h1,h2=>by
  rw[kn]
  by_cases h:v<l.length
  ·rw[if_pos (decide_eq_true h),xL ⟨h0,h⟩,List.drop_eq_getElem_cons (show v.toNat<l.length by omega),pD]
   have e:nth l v=l[v.toNat]'(by omega):=by unfold nth;simp[show v.toNat<l.length by omega]
   rw[e]
   cases (l[v.toNat]'(by omega)) t with
   | none=>rfl
   | some x=>
    rw[oB,oB,xQ (x:=v+1) (by omega),XV hl n _ (v+1) (by omega) (by omega) (by omega),show(v+1).toNat=v.toNat+1 by omega]
  ·rw[if_neg (by simpa using h),List.drop_eq_nil_of_le (by omega)];rfl
theorem Fd{l:List (Int->Option Int)}{t:Int}(hl:l.length<=4611686018427387904):o8 l t=pD l t 0:=by
 show kn l t (fun s=>some s) xR 0 0=_
 rw[XV hl xR 0 0 (by omega) (by omega) (by rw[show xR=18446744073709551616 from U];omega)]
 simp
def qO(l:List (Int->Option Int))(t:Int):Option Int:=chk (l.length<=4611686018427387904) (pD l t 0)
theorem rl{Z ao cap l t r}(h:qO l t=some r){Nx}(hz:PZ [] Nx Z)(hs:XI Z (tj Z) ao cap l):
  RC 55 #[vs ao l.length cap,vi t] Nx (vi r) [] []:=by
 obtain⟨l',hp,hs⟩:=hs
 obtain⟨hb,h⟩:=xG h
 rw[<- hp.length_eq] at hb ⊢
 exact Ys ((Fd hb).trans ((Fc hp).trans h)) hz hs
def fZ(znh:Int)(zcs:Int)(zni:List (Int->Option Int))(zvL:List (Int×Int))(z4O:zu):Option Int:=
 if decide (zcs<0) then(qO zni znh).bind fun a=>some a else(qO zni znh).bind fun b=>chk (0<=zcs/\zcs<z4O.fK.length) (chk ((((nth z4O.fK zcs).yp):Int)≠0) (some (min b (i64 ((xI zvL zcs 0)+(i64 (Int.tdiv znh ((nth z4O.fK zcs).yp))))))))
theorem dL(Z zIl zIm zIn zIo zIp zIq zIr zIs zIt zIu zIv zIw zIx zIy zIz zIA zIB zIC zID zIE zIF zIG zIH znh zcs zni zvL z4O r)(h:fZ znh zcs zni zvL z4O=some r)(Nx)(hz:PZ [] Nx Z)(hmW:ZA Z (xN zIq vI vI zvL))(zzM:ZC Z zIl [vi zcs])(zII:XI Z (tj Z) zIn zIo zni)(zIJ:ZC Z zIm [vs zIn zni.length zIo])(zSr:ZC Z zIp [.map (some zIq)])(z1bx:ZS Z 4 (kr Z) zIs zIt z4O.fM)(z1by:ZS Z 4 (g5 Z) zIu zIv z4O.yd)(z1bz:ZS Z 4 (rq ki) zIw zIx z4O.fS)(zSs:ZS Z 4 (rq gg) zIy zIz z4O.fK)(z1bA:ZS Z 7 (g8 Z) zIA zIB z4O.yc)(z1bB:ZS Z 5 (rq gc) zIC zID z4O.fH)(z1bC:ZS Z 3 (g6 Z) zIE zIF z4O.fU)(z1bD:ZS Z 4 (rq ge) zIG zIH z4O.ye)(zSu:ZC Z zIr [vs zIs z4O.fM.length zIt,vs zIu z4O.yd.length zIv,vs zIw z4O.fS.length zIx,vs zIy z4O.fK.length zIz,vs zIA z4O.yc.length zIB,vs zIC z4O.fH.length zID,vs zIE z4O.fU.length zIF,vs zIG z4O.ye.length zIH]):
  RC 99 #[vi znh,vq zIl,vq zIm,vq zIp,vq zIr] Nx (vi r) [] []:=by
 unfold fZ at h
 refine Ol func99 U U<|B1n U<|WC.b<|B0q<|Le 7 (xA xJ U<|kN hz.pv zzM)<|Q1n U<|Lj h (fun a h=>?_)<|fun a h=>?_
 ·exact WC.b<|bK h fun m b h=>Ld<|Le 9 (xA zLO U<|kN hz.pv zIJ)<|La U<|Nr call55 hz (fun pz=>rl b pz zII)<|Q1n U<|Ny<|Lk<|oJ h▸Nl results99
 ·refine Nn<|WC.b<|bK h fun n c h=>cK h fun d h=>cK h fun e h=>Lu nc []<|Lh 0 U (xA zLO U<|kN hz.pv zIJ)<|Lf 1 U q_m<|L4 2 U (Ns call55) (cc hz .nil fun w pz ho=>rl c pz zII)<|Lh 3 U (xA zCw U<|kN hz.pv zSr)<|Lh 4 U (xA xJ U<|kN hz.pv zzM)<|Lh 5 U (F4 (k:=zcs) (dflt:=(0:Int)) gM underlying148 jF U U U hz.pv hmW)<|Lf 6 U q_m<|Lf 7 U (xz tx)<|Lh 8 U (xA zaU U<|wq hz.pv zSu)<|Lh 9 U (xA xJ U<|kN hz.pv zzM)<|L5 (j:=10) (Z:=Z) (Pr:=(rq gg)) zdD zSs d ?_
  rintro g i f l rfl
  exact Lf 11 U (xz rK)<|Lh 12 U (xA xJ U<|wq hz.pv f)<|Lf 13 U (e7 e)<|Lf 14 U uC<|Lf 15 U (q_min U U U)<|Lf 16 U q_z<|N0<|Lb<|Ny<|oJ h▸Nl results99
def ma(a:zd)(b:z6):Option Bool:=
 some (decide ((⟨a.ya,a.fQ⟩:z6)=b))
theorem dM{Z e c d r}(h:ma c d=some r){Nx}(hz:PZ [] Nx Z)(f:ZC Z e [vi d.ya,vi d.fQ]):
  RC 95 #[.agg #[vi c.ya,vi c.fX,vi c.fQ],vq e] Nx (.bool r) [] []:=by
 unfold ma at h
 refine L0 func95 U U<|B0q (Lg 2 (wa (cs:=[vi c.ya,vi c.fX,vi c.fQ])) fun g _=>Q1n U<|B0q<|Le 4 (xz ku)<|Le 5 (Nt xJ .here)<|Le 6 (xz sq)<|Le 7 (Nt xJ .here)<|Le 8 (we (v:=(.agg #[vi c.ya,vi c.fQ])) (Lq (l:=[.tmp 5,.tmp 7]) (.r2 U U) [0,1]))<|Le 9 (xK zxl (qx hz.pv f))<|Le 10 (lz (enc:=qE) (a:=(⟨c.ya,c.fQ⟩:z6)) (b:=d) zLP)<|Q1n U<|Ny ?_)
 exact oJ h▸Nl results95
def mb(a:zu)(b:Int):Option Int:=
 if decide ((i64 (b-(a.fM.length:Int)))>=0) then chk (0<=(i64 (b-(a.fM.length:Int)))/\(i64 (b-(a.fM.length:Int)))<a.fS.length) (some ((nth a.fS (i64 (b-(a.fM.length:Int)))).yl)) else some 0
theorem iu{Z b c d e f g i j k l m n o p q s a t r}(h:mb a t=some r){Nx}(hz:PZ [] Nx Z)(z:ZS Z 4 (kr Z) b c a.fM)(A:ZS Z 4 (g5 Z) d e a.yd)(u:ZS Z 4 (rq ki) f g a.fS)(B:ZS Z 4 (rq gg) i j a.fK)(C:ZS Z 7 (g8 Z) k l a.yc)(D:ZS Z 5 (rq gc) m n a.fH)(E:ZS Z 3 (g6 Z) o p a.fU)(F:ZS Z 4 (rq ge) q s a.ye):
  RC 54 #[.agg #[vs b a.fM.length c,vs d a.yd.length e,vs f a.fS.length g,vs i a.fK.length j,vs k a.yc.length l,vs m a.fH.length n,vs o a.fU.length p,vs q a.ye.length s],vi t] Nx (vi r) [] []:=by
 unfold mb at h
 refine L0 func54 U U<|B0q (Lg 2 (wa (cs:=[vs b a.fM.length c,vs d a.yd.length e,vs f a.fS.length g,vs i a.fK.length j,vs k a.yc.length l,vs m a.fH.length n,vs o a.fU.length p,vs q a.ye.length s])) fun G _=>Q1n U<|WC.b<|B1q U<|Le 7 (xz tw)<|Le 8 (Nt zaS .here)<|Le 9 (w9 underlying22)<|Q2n U<|B2n U<|Lj h (fun v h=>?_)<|fun v h=>?_)
 ·refine WC.b<|cK h fun x h=>Ld<|Le 13 (xz uN)<|Le 14 (Nt zaT .here)<|La U<|L2 (Z:=Z) (Pr:=(rq ki)) zbR u x ?_
  rintro H I y J rfl
  exact Le 17 (xz dz)<|Le 18 (xA xJ U<|wq hz.pv y)<|Q1n U<|Ny<|Lk<|oJ h▸Nl results54
 ·exact Nn<|B1n U<|Ny<|oJ h▸Nl results54
def kz(b:List zd)(d:zu)(f:List (z6×Int))(g:(List Int)->Option (List Int)):Nat->(List Int)->Int->(List (Int×Int))->Option (List Int)
 | 0,_,_,_=>none
 | h+1,e,a,c=>if decide (a<b.length) then chk (0<=a/\a<b.length) (chk ((((e++([xI c ((nth b a).ya) 0]:List Int)).length:Nat):Int)*8<=140737488355328/\(((e++([xI c ((nth b a).ya) 0]:List Int)).length:Nat):Int)<=4611686018427387904) ((mb d ((nth b a).ya)).bind fun i=>chk (0<=((nth b a).fQ)/\((nth b a).fQ)<d.fK.length) (kz b d f g h (e++([xI c ((nth b a).ya) 0]:List Int)) (i64 (a+1)) (w6 c ((nth b a).fX) (i64 ((i64 ((i64 ((xI c ((nth b a).ya) 0)+(xI f (⟨(nth b a).ya,(nth b a).fQ⟩:z6) 0)))-i))-((nth d.fK ((nth b a).fQ)).yp))))))) else g e
def mc(a:zu)(b:List zd)(c:List (z6×Int)):Option (List Int):=
 qI (fun(d:List Int)=>some d) fun e=>kz b a c e xR ([]:List Int) 0 ([]:List (Int×Int))
theorem ud{Z u x y z B D E F G H I J K L M N O P m a c g r}(h:mc a c g=some r){Nx}(hz:Pz [xN m (ga qE) vI g] Nx Z)(X:ZS Z 4 (kr Z) u x a.fM)(Y:ZS Z 4 (g5 Z) y z a.yd)(aa:ZS Z 4 (rq ki) B D a.fS)(Q:ZS Z 4 (rq gg) E F a.fK)(ab:ZS Z 7 (g8 Z) G H a.yc)(ad:ZS Z 5 (rq gc) I J a.fH)(ae:ZS Z 3 (g6 Z) K L a.fU)(af:ZS Z 4 (rq ge) M N a.ye)(ag:ZS Z 3 (rq mN) O P c)(eO:Ho Nx [xN m (ga qE) vI g]):
  Calls Tryz.prog 37 #[.agg #[vs u a.fM.length x,vs y a.yd.length z,vs B a.fS.length D,vs E a.fK.length F,vs G a.yc.length H,vs I a.fH.length J,vs K a.fU.length L,vs M a.ye.length N],vs O c.length P,.map (some m)] Nx fun e w'=>∃ R:Option Addr,∃ S:Nat,e = .returned (vs R r.length S)/\True/\Hp (fps [xN m (ga qE) vI g]) Nx w' [row (vs R r.length S) 3 1 (r.flatMap e3),xN m (ga qE) vI g]:=by
 unfold mc at h
 refine N8 func37 U eO U ?_
 let A:List Value:=[vs u a.fM.length x,vs y a.yd.length z,vs B a.fS.length D,vs E a.fK.length F,vs G a.yc.length H,vs I a.fH.length J,vs K a.fU.length L,vs M a.ye.length N];refine B0q<|Lg 3 (wa (cs:=A)) ?_
 intro T _
 refine Q1n U<|B0q (Lg 11 (kH vI<|Value.int .i64) fun V _=>Q1n U<|B1n U ?_)
 refine jK1 h fun W ah h=>Nj (fun n q s=>(W n=some r)) (fun n q s=>[(8,vs q n.length s)]) (fun n q s=>[row (vs q n.length s) 3 1 (n.flatMap e3),xN m (ga qE) vI g]) ?_ ?_
 ·refine B1q U<|Le 13 (w9 underlying58)<|Q1n U<|WC.block<|WC.nilRow 3 1<|Oi (fun t d b f o p=>(kz c a g W t d b f=some r)) (fun t d b f o p=>[(2,(.map<|some m)),(3,vp T),(7,(.map<|some V)),(8,vs o d.length p),(12,vs O c.length P),(13,vi (c.length:Int)),(14,vi b)]) (fun t d b f o p=>[row (vs o d.length p) 3 1 (d.flatMap e3),xN m (ga qE) vI g,stb T 31 A,xN V vI vI f]) (fun t d b f o p=>t) ⟨xR,([]:List Int),0,([]:List (Int×Int)),none,0⟩ h .q (.s4 .here .h2 .h1 .here) ?_
  rintro(_|ar) d b f o p h;·cases h
  rw[kz] at h
  refine B1n U<|WC.b<|Lj h (fun ai h=>?_)<|fun ai h=>?_
  ·refine Nn<|WC.b<|WC.block<|WC.b<|cK h fun aj h=>Ld<|L2 (Z:=Z) (Pr:=(rq mN)) z7F ag aj ?_
   rintro av aw ak ax rfl
   refine Le 17 (xK z54 (qx hz.pv ak)) (Lg 10 (xT (cs:=[vi 0,vi 0,vi 0]) zdE) fun ay _=>Ll (xP zbS .here)<|Q0n<|WC.b ?_)
   refine cK h fun al h=>D2q U<|Le 20 (xz ku)<|Le 21 (Nt xJ .here)<|Le 22 (jg (k:=((nth c b).ya)) (dflt:=(0:Int)) gM underlying148 jF .h4) (Lg 23 (wj (cs:=([xI f ((nth c b).ya) 0]:List Int).flatMap e3) z7G (Lq (l:=[.tmp 22]) (.cons U .nil) [0])) fun az _=>WL.fA 24 (kG (enc:=e3) (l1:=d) (l2:=([xI f ((nth c b).ya) 0]:List Int)) z7G .h2 (jB .here) (gF U3) al) ?_)
   rintro⟨am,an⟩ _
   refine Q1n U<|bK h fun au ao h=>cK h fun ap h=>Lu (fun i=>[28].contains i) []<|Lf 0 U q_m<|Lf 1 U (xz mD)<|Lh 2 U (Nt xJ .h2)<|Lf 3 U q_m<|Lf 4 U (xz ku)<|Lh 5 U (Nt xJ .h2)<|Lh 6 U (jg (k:=((nth c b).ya)) (dflt:=(0:Int)) gM underlying148 jF .h5)<|Lf 7 U q_m<|Lf 8 U (xz ku)<|Lh 9 U (Nt xJ .h2)<|Lf 10 U (xz sq)<|Lh 11 U (Nt xJ .h2)<|Lf 12 U (we (v:=(.agg #[(vi<|(nth c b).ya),(vi<|(nth c b).fQ)])) (Lq (l:=[.tmp 34,.tmp 36]) (.r2 U U) [0,1]))<|Lh 13 U (jg (k:=(⟨(nth c b).ya,(nth c b).fQ⟩:z6)) (dflt:=(0:Int)) zCx underlying92 jF .h3)<|Lf 14 U uC<|Lh 15 U (xK z2v (xM .h4))<|Lf 16 U (xz ku)<|Lh 17 U (Nt xJ .h2)<|L4 18 U (Ns call54) (cc hz .nil fun w pz ho=>iu ao pz X Y aa Q ab ad ae af)<|Lf 19 U td<|Lf 20 U (xz tx)<|Lh 21 U (Nt zaU .h4)<|Lf 22 U (xz sq)<|Lh 23 U (Nt xJ .h2)<|L5 (j:=24) (Z:=Z) (Pr:=(rq gg)) zdD Q ap ?_
   rintro aA aB aq aC rfl
   let C:=(i64 ((i64 ((xI f ((nth c b).ya) 0)+(xI g (⟨(nth c b).ya,(nth c b).fQ⟩:z6) 0)))-au));refine Lf 25 U (xz rK)<|Lh 26 U (xA xJ U<|wq hz.pv aq)<|Lf 27 U td<|Nc (i:=28) U (kV (k:=((nth c b).fX)) (v:=i64 (C-((nth a.fK<|(nth c b).fQ).yp))) gM underlying148 .h5)<|N0<|Lt<|Lb<|D2q U<|WL.nil ?_
   exact Nz ⟨ar,d++([xI f ((nth c b).ya) 0]:List Int),i64 (b+1),(w6 f ((nth c b).fX)<|i64 (C-((nth a.fK<|(nth c b).fQ).yp))),am,an⟩ h .q<|.s4 .h1 .h3 .h3 .here
  ·exact N1<|Lm<|Lm<|Lv<|Lo ⟨d,o,p⟩ h (.cons U .nil)<|.a2
 ·rintro n q s h
  replace h:=(ah n).symm.trans h
  exact B2n U<|Ny<|oJ h▸Li results37 (.tmp U .nil) fun w hw=>⟨q,s,xZ,trivial,hw.sub .a2⟩
def md(a:zd)(b:z6):Option Bool:=
 some (decide (a.fX=b.ya))
theorem dN{Z c a b r}(h:md a b=some r){Nx}(hz:PZ [] Nx Z)(d:ZC Z c [vi b.ya,vi b.fQ]):
  RC 96 #[.agg #[vi a.ya,vi a.fX,vi a.fQ],vq c] Nx (.bool r) [] []:=by
 unfold md at h
 refine L0 func96 U U<|B0q (Lg 2 (wa (cs:=[vi a.ya,vi a.fX,vi a.fQ])) fun e _=>Q1n U<|B0q<|Le 4 (xz mD)<|Le 5 (Nt xJ .here)<|Le 6 (xz WE)<|Le 7 (xA xJ U<|wq hz.pv d)<|Q2n U<|Ny ?_)
 exact oJ h▸Nl results96
def rm(a:yw)(b:Int)(c:Int):Option Int:=
 chk ((a.yE:Int)≠0) (some (i64 (a.yA*(i64 ((i64 (Int.tdiv (i64 (c+b)) a.yE))+1)))))
theorem X9{Z b c a d e r}(h:rm a d e=some r){Nx}(hz:PZ [] Nx Z)(g:ZS Z 3 (rq dx) b c a.yM):
  RC 98 #[.agg #[.string a.yB,.string a.yq.yz,.string a.yq.yF,.string a.yq.yI,vi a.yE,vi a.yA,vs b a.yM.length c],vi d,vi e] Nx (vi r) [] []:=by
 unfold rm at h
 refine Nk func98 U U<|B0q (Lg 3 (wa (cs:=[.string a.yB,.string a.yq.yz,.string a.yq.yF,.string a.yq.yI,vi a.yE,vi a.yA,vs b a.yM.length c])) fun i _=>Q1n U<|WC.b ?_)
 exact cK h fun f h=>Lu nc []<|Lf 0 U (xz rL)<|Lh 1 U (Nt xJ .here)<|Lf 2 U q_m<|Lf 3 U q_m<|Lf 4 U uC<|Lf 5 U (xz WA)<|Lh 6 U (Nt xJ .here)<|Lf 7 U (e7 f)<|Lf 8 U uC<|Lf 9 U sZ<|Lf 10 U q_z<|N0<|Lb<|Ny<|oJ h▸Nl results98
def vh(a:Int)(b:yw)(c:Int):Option Int:=
 (rm b c a).bind fun d=>some d
theorem dO{Z b c d e f a g r}(h:vh f a g=some r){Nx}(hz:PZ [] Nx Z)(i:ZS Z 3 (rq dx) c d a.yM)(j:ZC Z b [.string a.yB,.string a.yq.yz,.string a.yq.yF,.string a.yq.yI,vi a.yE,vi a.yA,vs c a.yM.length d])(k:ZC Z e [vi g]):
  RC 97 #[vi f,vq b,vq e] Nx (vi r) [] []:=by
 unfold vh at h
 exact Nk func97 U U<|B1n U<|WC.b<|bK h fun m l h=>Ld<|Le 5 (xK zCo (qx hz.pv j))<|Le 6 (xA xJ U<|kN hz.pv k)<|La U<|Nr call98 hz (fun pz=>X9 l pz i)<|Q1n U<|Ny<|oJ h▸Nl results97
end Go.Proofs.YthjnhebofpebpaaGreat
