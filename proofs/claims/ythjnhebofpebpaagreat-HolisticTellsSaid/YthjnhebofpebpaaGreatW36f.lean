/- A part of this claim's proof: models of functions, walks, plain laws. No conditions. -/
import Derived.Test.YthjnhebofpebpaaGreatW36e
set_option linter.all false
namespace Go.Proofs.YthjnhebofpebpaaGreat
open Go Go.RowKit Sep Tryz
set_option maxRecDepth 30000
set_option maxHeartbeats 4000000
def ql(a:List zf)(zqE:zf->zf->Option Int):Option (List zf):=
 (gb (u64 (a.length:Int))).bind fun b=>(gJ a 0 (a.length:Int) b zqE).bind fun c=>some c
theorem rl(Z:Zp)(b:Option Addr)(c:Nat)(zqF:FuncId)(zzi:List Value)(a:List zf)(zqE:zf->zf->Option Int)(r:List zf)(h:ql a zqE=some r)(w₀:World)(hz:Pz [row (vs b a.length c) 53 3 (a.flatMap jI)] w₀ Z)(j:∀ args w,(callFunc zqF args).run Tryz.prog w = .ok (.enter zqF args) w)(k:∀ w:World,PZ [] w Z->∀(x0:zf) (x1:zf) (r:Int),zqE x0 x1=some r->Calls Tryz.prog zqF (([.agg #[vi x0.yL,vi x0.ya,vi x0.yf],.agg #[vi x1.yL,vi x1.ya,vi x1.yf]]:List Value)++zzi).toArray w fun e w'=>e = .returned (vi r)/\Hp [] w w' [])(iq:Ho w₀ [row (vs b a.length c) 53 3 (a.flatMap jI)]):
  Calls Tryz.prog 61 #[vs b a.length c,.func (.func zqF) #[] (zzi).toArray] w₀ fun e w'=>e = .returned (.tuple #[])/\(r.length=a.length)/\Hp (fps [row (vs b a.length c) 53 3 (a.flatMap jI)]) w₀ w' [row (vs b r.length c) 53 3 (r.flatMap jI)]:=by
 unfold ql at h
 refine Mf func61 ntmps61 iq ?_
 refine B1q U<|Le 6 (xK underlying38 U)<|Q1n U<|bK h fun d l h=>bK h fun f m h=>D3q U<|Le 10 (rN underlying3 underlying147 U U)<|Lp 11 (zb call57<|.cons U .nil) .nil (cc hz .nil fun w pz ho=>rV (Z:=_)  (zaY:=(u64 (a.length:Int))) (r:=d) w pz  l)<|La U<|WL.fy (dd:=13) U U U (zb call110<|.r5 U U U U U) (.cons .here .nil) (cc hz (.cons .here .nil) fun w pz ho=>rK (Z:=_) (znt:=b) (znu:=c) (zvF:=zqF) (zHs:=zzi) (z7J:=a) (zvD:=0) (zvE:=(a.length:Int)) (zqD:=d) (zns:=zqE) (r:=f) w pz j k m ho) ?_
 rintro  g
 refine Mh (i:=0) U (u:=(vs b f.length c)) (px g.symm)<|WL.nil ?_
 obtain rfl:=oJ h
 exact WX.my results61 .nil<|fun w hw=>⟨pp,g.trans U,hw.sub (.cons .here .nil)⟩
def gQ(b:List ye)(c:(List (z7×Int))->Option (List zf)):Nat->Int->(List (z7×Int))->Option (List zf)
 | 0,_,_=>none
 | e+1,a,d=>if decide (a>=0) then chk (0<=a/\a<b.length) (gQ b c e (i64 (a-1)) (xT d (⟨(nth b a).ya,(nth b a).fQ⟩:z7) ((nth b a).yf))) else c d
def gR(b:List (List za))(a:Int)(j:zi)(e:List (z7×Int))(i:(List zf)->Option (List zf)):Nat->(List zf)->Int->(List (Int×Int))->Option (List zf)
 | 0,_,_,_=>none
 | k+1,f,c,d=>if decide (c<((nth b a).length:Int)) then tZ (fun(l:List zf) (m:List (Int×Int))=>gR b a j e i k l (i64 (c+1)) m) fun h=>chk (0<=c/\c<((nth b a).length:Int)) (chk ((ji d ((nth (nth b a) c).fX))=false->((0:Int)<=0/\0<((nth b a).length:Int))) (if (ji d ((nth (nth b a) c).fX))||(decide (((nth (nth b a) c).fX)=((nth (nth b a) 0).ya))) then h f d else(gM (⟨(nth (nth b a) c).ya,(nth (nth b a) c).fX,(nth (nth b a) c).fQ⟩:za)).bind fun g=>if (decide (((nth (nth b a) c).fX)>=0))&&(decide (((nth (nth b a) c).fX)<j.fM.length)) then chk ((((f++([(⟨a,(nth (nth b a) c).fX,xx (xT d ((nth (nth b a) c).fX) (i64 ((xx d ((nth (nth b a) c).ya) 0)+(xx e g 0)))) ((nth (nth b a) c).fX) 0⟩:zf)]:List zf)).length:Nat):Int)*24<=140737488355328/\(((f++([(⟨a,(nth (nth b a) c).fX,xx (xT d ((nth (nth b a) c).fX) (i64 ((xx d ((nth (nth b a) c).ya) 0)+(xx e g 0)))) ((nth (nth b a) c).fX) 0⟩:zf)]:List zf)).length:Nat):Int)<=4611686018427387904) (h (f++([(⟨a,(nth (nth b a) c).fX,xx (xT d ((nth (nth b a) c).fX) (i64 ((xx d ((nth (nth b a) c).ya) 0)+(xx e g 0)))) ((nth (nth b a) c).fX) 0⟩:zf)]:List zf)) (xT d ((nth (nth b a) c).fX) (i64 ((xx d ((nth (nth b a) c).ya) 0)+(xx e g 0))))) else h f (xT d ((nth (nth b a) c).fX) (i64 ((xx d ((nth (nth b a) c).ya) 0)+(xx e g 0)))))) else i f
def gS(c:List (List za))(g:zi)(e:List (z7×Int))(f:(List zf)->Option (List zf)):Nat->(List zf)->Int->Option (List zf)
 | 0,_,_=>none
 | h+1,b,a=>if decide (a<c.length) then vk (fun(i:List zf)=>gS c g e f h i (i64 (a+1))) fun j=>chk (0<=a/\a<c.length) (vk (fun(k:List zf)=>(ql k (fun(y0:zf) (y1:zf)=>vj y0 y1)).bind fun d=>chk (((b++d).length:Int)*24<=140737488355328/\((b++d).length:Int)<=4611686018427387904) (j (b++d))) fun l=>gR c a g e l xC ([]:List zf) 0 ([]:List (Int×Int))) else f b
def uR(h:zi)(b:List (List za))(a:List ye):Option (List zf):=
 (wy b (fun(y0:List za)=>gA y0)).bind fun c=>if c then some ([]:List zf) else vk (fun(d:List (z7×Int))=>vk (fun(e:List zf)=>some e) fun f=>gS b h d f xC ([]:List zf) 0) fun g=>gQ a g xC (i64 ((a.length:Int)-1)) ([]:List (z7×Int))
theorem dB(Z:Zp)(aj:Option Addr)(ak:Nat)(al:Option Addr)(am:Nat)(an:Option Addr)(ao:Nat)(ap:Option Addr)(aq:Nat)(ar:Option Addr)(au:Nat)(av:Option Addr)(aw:Nat)(ax:Option Addr)(ay:Nat)(az:Option Addr)(aA:Nat)(aB:Option Addr)(aC:Nat)(aD:Option Addr)(aE:Nat)(d:zi)(b:List (List za))(q:List ye)(r:List zf)(h:uR d b q=some r)(w₀:World)(hz:PZ [] w₀ Z)(bw:ZS Z 4 (vU Z) aj ak d.fM)(bx:ZS Z 4 (qr Z) al am d.yc)(bz:ZS Z 4 (rq jm) an ao d.fS)(bA:ZS Z 4 (rq qm) ap aq d.fK)(bB:ZS Z 7 (qK Z) ar au d.yd)(bC:ZS Z 5 (rq qI) av aw d.fH)(bD:ZS Z 3 (qs Z) ax ay d.fU)(bE:ZS Z 4 (rq qJ) az aA d.yb)(aJ:ZS Z 1 (qt Z) aB aC b)(aF:ZS Z 4 (rq xY) aD aE q):
  Calls Tryz.prog 28 #[.agg #[vs aj d.fM.length ak,vs al d.yc.length am,vs an d.fS.length ao,vs ap d.fK.length aq,vs ar d.yd.length au,vs av d.fH.length aw,vs ax d.fU.length ay,vs az d.yb.length aA],vs aB b.length aC,vs aD q.length aE] w₀ fun e w'=>∃ aK:Option Addr,∃ aL:Nat,e = .returned (vs aK r.length aL)/\True/\Hp [] w₀ w' [row (vs aK r.length aL) 53 3 (r.flatMap jI)]:=by
 unfold uR at h
 refine Me func28 ntmps28 ?_
 let A:List Value:=[vs aj d.fM.length ak,vs al d.yc.length am,vs an d.fS.length ao,vs ap d.fK.length aq,vs ar d.yd.length au,vs av d.fH.length aw,vs ax d.fU.length ay,vs az d.yb.length aA];refine B0q<|Lg 3 (xO (cs:=A) U U) ?_
 intro m _
 refine Q1n U<|WC.b<|WC.b<|bK h fun bY aS h=>D1q U<|Lp 19 (zb call50<|.r2 U U) .nil (cc hz .nil fun w pz ho=>gK _ _ _ (zlZ:=58) (ztM:=[]) _ (zlY:=(fun(y0:List za)=>gA y0)) _ aS w pz aJ call58<|fun w' iT y0 ga0 gc0 r CL hr=>Ye _ _ _ _ _ hr w' iT CL)<|Q0n<|Lk U h (fun aT h=>?_)<|fun aT h=>?_
 ·refine B1n U<|WC.ret<|Ll<|WX.nilRow 53 3 ?_
  obtain rfl:=oJ h
  exact Li results28 (.tmp U .nil)<|fun w hw=>⟨none,0,xJ U,trivial,hw.sub (.cons .here .nil)⟩
 ·refine WC.skip<|Lb<|WC.b<|Ld (Lg 20 (jN (ga xP)<|Value.int .i64) fun n _=>Q1n U ?_)
  obtain⟨aM,aU,h⟩:=xS h
  let E:Value:=(vs aB b.length aC);refine Ma (fun(g:List (z7×Int))=>(aM g=some r)) (fun g=>[(1,E),(3,vp m),(7,(.map<|some n))]) (fun g=>[stb m 31 A,xB n (ga xP) vI g]) ?_ ?_
  ·refine B1q U<|Le 22 (xK underlying33 U)<|Q2n U<|WC.block<|WC.sk (fun(ae:Nat) (o:Int) (L:List (z7×Int))=>(gQ q aM ae o L=some r)) (fun ae o L=>[(1,E),(2,vs aD q.length aE),(3,vp m),(7,(.map<|some n)),(8,vi o)]) (fun ae o L=>[stb m 31 A,xB n (ga xP) vI L]) (fun ae o L=>ae) ⟨xC,i64 ((q.length:Int)-1),([]:List (z7×Int))⟩ h (.q U) (.s2 .h1 .here) ?_
   rintro(_|bp) o L h;·cases h
   rw[gQ] at h
   refine WC.b<|B2n U<|Lk U h (fun aV h=>?_)<|fun aV h=>?_
   ·refine WC.skip<|Lb<|WC.b<|WC.block<|cK h fun aG h=>Lz (fun i=>[17].contains i) [] U<|Lf 0 28 U (q_m U)<|Lf 1 29 U (q_m U)<|Lf 2 30 U (q_m U)<|L2 (j:=3) (dd:=31) (by kernel_rfl) U zO zP U U (Z:=Z) (Pr:=(rq xY)) z1r U U aF aG ?_
    rintro bF bG aW bH rfl
    refine Lf 4 32 U (xk gt U U)<|Lh 5 33 U (xl xu U<|xM hz.pv aW U)<|Lf 6 34 U (q_m U)<|Lf 7 35 U (q_m U)<|L2 (j:=8) (dd:=36) (by kernel_rfl) U zO zP U U (Z:=Z) (Pr:=(rq xY)) z1r U U aF aG ?_
    rintro bI bJ aX bL rfl
    refine Lf 9 37 U (xk mb U U)<|Lh 10 38 U (xl xu U<|xM hz.pv aX U)<|Lf 11 39 U (w3 (v:=(.agg #[(vi<|(nth q o).ya),(vi<|(nth q o).fQ)])) (Lq (l:=[.tmp 33,.tmp 38]) (.r2 U U) [0,1]) (fun _=>by kernel_rfl))<|Lf 12 40 U (q_m U)<|Lf 13 41 U (q_m U)<|L2 (j:=14) (dd:=42) (by kernel_rfl) U zO zP U U (Z:=Z) (Pr:=(rq xY)) z1r U U aF aG ?_
    rintro bM bN aY bO rfl
    exact Lf 15 43 U (xk uM U U)<|Lh 16 44 U (xl xu U<|xM hz.pv aY U)<|WD.jD (i:=17) U (by kernel_rfl) U U U (by kernel_rfl) (kw (k:=(⟨(nth q o).ya,(nth q o).fQ⟩:z7)) (v:=((nth q o).yf)) zj8 underlying117 U U U U .h1)<|WD.done (by kernel_rfl)<|Lt<|Lb<|D3q U<|WL.nil<|WX.round ⟨bp,i64 (o-1),(xT L (⟨(nth q o).ya,(nth q o).fQ⟩:z7)<|(nth q o).yf)⟩ h (Nat.lt_succ_self _) (.q U)<|.s2 .h1 .here
   ·exact WC.exit<|Lm<|Lm<|Lv<|Ln L h (.q U)<|.a2
  ·rintro g h
   replace h:=(aU g).symm.trans h
   refine B1n U<|jK1 h fun aN aZ h=>Md (fun(M:List zf) (R:Option Addr) (S:Nat)=>(aN M=some r)) (fun M R S=>[(9,vs R M.length S)]) (fun M R S=>[row (vs R M.length S) 53 3 (M.flatMap jI)]) ?_ ?_
   ·let I:Value:=(vi (b.length:Int));refine B1q U<|Le 46 (xK underlying32 U)<|Q1n U<|WC.block<|WC.nilRow 53 3<|WC.fk (fun(ag:Nat) (p:List zf) (a:Int) (N:Option Addr) (O:Nat)=>(gS b d g aN ag p a=some r)) (fun ag p a N O=>[(3,vp m),(7,(.map<|some n)),(9,vs N p.length O),(45,E),(46,I),(47,vi a)]) (fun ag p a N O=>[row (vs N p.length O) 53 3 (p.flatMap jI),stb m 31 A,xB n (ga xP) vI g]) (fun ag p a N O=>ag) ⟨xC,([]:List zf),0,none,0⟩ h (.q U) (.a3) ?_
    rintro(_|bq) p a N O h;·cases h
    rw[gS] at h
    refine B1n U<|WC.b<|Lk U h (fun a0 h=>?_)<|fun a0 h=>?_
    ·refine WC.skip<|Lb<|jK1 h fun br a1 h=>Md (fun(y:List zf) (T:Option Addr) (V:Nat)=>(br y=some r)) (fun y T V=>[(3,vp m),(7,(.map<|some n)),(9,vs T y.length V),(45,E),(46,I),(47,vi a)]) (fun y T V=>[row (vs T y.length V) 53 3 (y.flatMap jI),stb m 31 A,xB n (ga xP) vI g]) ?_ ?_
     ·refine WC.block<|WC.b<|cK h fun a2 h=>D1q U<|L0 (dd:=50) U U (Z:=Z) (Pr:=(qt Z)) z3K U U aJ a2 ?_
      rintro bP bQ a3 bR ⟨bs,bt,rfl,aO⟩
      refine Le 51 (xl z3q U<|q9 hz.pv a3 U)<|Q2n U<|WC.b<|Ld (Lg 52 (jN vI<|Value.int .i64) fun W _=>Q1n U<|B1n U ?_)
      obtain⟨aP,a4,h⟩:=xS h
      let F:Value:=(vs N p.length O);refine Md (fun(P:List zf) (X:Option Addr) (Y:Nat)=>(aP P=some r)) (fun P X Y=>[(3,vp m),(7,(.map<|some n)),(9,F),(13,vs X P.length Y),(45,E),(46,I),(47,vi a)]) (fun P X Y=>[row F 53 3 (p.flatMap jI),row (vs X P.length Y) 53 3 (P.flatMap jI),stb m 31 A,xB n (ga xP) vI g]) ?_ ?_
      ·let D:Value:=(vs bs ((nth b a).length) bt);refine B1q U<|Le 54 (xK underlying58 U)<|Q1n U<|WC.block<|WC.nilRow 53 3<|WC.rx (fun(ah:Nat) (s:List zf) (c:Int) (f:List (Int×Int)) (t:Option Addr) (x:Nat)=>(gR b a d g aP ah s c f=some r)) (fun ah s c f t x=>[(3,vp m),(7,(.map<|some n)),(9,F),(10,vi a),(11,D),(12,(.map<|some W)),(13,vs t s.length x),(45,E),(46,vi (b.length:Int)),(47,vi a),(53,D),(54,vi ((nth b a).length:Int)),(55,vi c)]) (fun ah s c f t x=>[row F 53 3 (p.flatMap jI),row (vs t s.length x) 53 3 (s.flatMap jI),stb m 31 A,xB n (ga xP) vI g,xB W vI vI f]) (fun ah s c f t x=>ah) ⟨xC,([]:List zf),0,([]:List (Int×Int)),none,0⟩ h (.q U) (.s5 .h2 .here .h1 .h1 .here) ?_
       rintro(_|bu) s c f t x h;·cases h
       rw[gR] at h
       refine B1n U<|WC.b<|Lk U h (fun a5 h=>?_)<|fun a5 h=>?_
       ·refine WC.skip<|Lb<|jK2 h fun bv a6 h=>WC.tm (fun(z:List zf) (Q:List (Int×Int)) (aa:Option Addr) (ab:Nat)=>(bv z Q=some r)) (fun z Q aa ab=>[(3,vp m),(7,(.map<|some n)),(9,F),(10,vi a),(11,D),(12,(.map<|some W)),(13,vs aa z.length ab),(45,E),(46,vi (b.length:Int)),(47,vi a),(53,D),(54,vi ((nth b a).length:Int)),(55,vi c)]) (fun z Q aa ab=>[row F 53 3 (p.flatMap jI),row (vs aa z.length ab) 53 3 (z.flatMap jI),stb m 31 A,xB n (ga xP) vI g,xB W vI vI Q]) ?_ ?_
        ·refine WC.block<|WC.b<|cK h fun a7 h=>Ld<|L0 (dd:=57) U U (Z:=Z) (Pr:=(rq vw)) z1v U U aO a7 ?_
         rintro a8 bS a9 bT rfl
         refine Le 58 (xw z5b U (vQ hz.pv a9) U) (Lg 15 (xG (cs:=[vi 0,vi 0,vi 0]) zaS U) fun aQ _=>Lo U U (xz za4 U U U .here U U U)<|Q0n<|WC.b<|B1q U<|Le 61 (xk jR U U)<|Le 62 (xl xu U<|xt .here U)<|Le 63 (QT (k:=((nth (nth b a) c).fX)) (dflt:=(0:Int)) kG underlying148 qS U U U .h5)<|Q5n U<|WC.b ?_)
         obtain⟨ba,h⟩:=xq h
         let C:Value:=(.bool (ji f ((nth (nth b a) c).fX)));let H:Value:=(vi (xx f ((nth (nth b a) c).fX) 0));let J:=((nth b a).length:Int);let K:Value:=(vi ((nth (nth b a) c).fX));refine Lz nc [] U<|Lf 0 66 U (q_m U)<|Lf 1 67 U (q_m U)<|Mc (fuel':=0) [(3,vp m),(7,(.map<|some n)),(9,F),(10,vi a),(11,D),(12,(.map<|some W)),(13,vs t s.length x),(45,E),(46,I),(47,vi a),(53,D),(54,vi J),(55,vi c),(56,(.bool<|decide (c<J))),(57,vq a8),(58,.agg #[(vi<|(nth (nth b a) c).ya),K,(vi<|(nth (nth b a) c).fQ)]),(15,vp aQ),(60,(.map<|some W)),(61,(.pointer<|some ⟨aQ,1,none⟩)),(62,K),(63,.tuple #[H,C]),(59,.tuple #[H,C]),(64,H),(65,C),(16,H),(17,C),(66,C),(67,C),(75,.bool ((ji f<|(nth (nth b a) c).fX)||(decide (((nth (nth b a) c).fX)=((nth (nth b a) 0).ya)))))] (wl 10 (dn 10)) ?_<|fun aR=>?_
         rotate_left
         ·rcases Bool.eq_false_or_eq_true (ji f ((nth (nth b a) c).fX)) with hb' | hb'
          ·have aH:=hb';clear hb'
           refine L4 (i:=67) U aH<|Lj 2 68 U<|Lj 3 69 U<|Lj 4 70 U<|Lj 5 71 U<|Lj 6 72 U<|Lj 7 73 U<|Lj 8 74 U<|Lf 9 75 U (qe U U)<|Lw (.a6) ?_ aR
           exact .r29 U U U U U U U U U U U U U U U U U U U U U U U U U U U (zt<|Eq.symm aH)<|zt<|kx aH
          ·have ai:=hb';clear hb'
           have bb:=ba ai
           refine L4 (i:=67) U ai<|Lf 2 68 U (xk jR U U)<|Lh 3 69 U (xl xu U<|xt .here U)<|Lf 4 70 U (q_m U)<|L2 (j:=5) (dd:=71) (by kernel_rfl) U zO zP U U (Z:=Z) (Pr:=(rq vw)) z1v U U aO bb ?_
           rintro bU bV bc bW rfl
           refine Lf 6 72 U (xk ww U U)<|Lh 7 73 U (xl xu U<|xM hz.pv bc U)<|Lf 8 74 U (sG U U)<|Lf 9 75 U (qf U U)<|Lw (.a6) ?_ aR
           exact .r29 U U U U U U U U U U U U U U U U U U U U U U U U U U U (zt<|Eq.symm ai)<|zt<|ky ai
         refine WD.done (by kernel_rfl)<|Lb<|Lk U h (fun bd h=>?_)<|fun bd h=>?_
         ·exact WC.exit<|Lm<|Lv<|Ln ⟨s,f,t,x⟩ h (.q U)<|.s5 .h1 .h1 .h1 .h1 .h1
         ·refine WC.skip<|Lb<|WC.b<|bK h fun ad be h=>Lz (fun i=>[12].contains i) [] U<|Lf 0 76 U (q_m U)<|Lf 1 77 U (xk jR U U)<|Lh 2 78 U (xl xu U<|xt .here U)<|Lf 3 79 U (q_m U)<|Lf 4 80 U (xk ww U U)<|Lh 5 81 U (xl xu U<|xt .here U)<|Lh 6 82 U (j8 (k:=((nth (nth b a) c).ya)) (dflt:=(0:Int)) kG underlying148 qS U U U .h5)<|Lf 7 83 U (q_m U)<|Lh 8 84 U (xw z5b U (xy .here) U)<|L5 9 85 U (zb call60<|.cons U .nil) (cc hz .nil fun w pz ho=>uj _ _ _ be w pz )<|Lh 10 86 U (j8 (k:=ad) (dflt:=(0:Int)) zj8 underlying117 qS U U U .h4)<|Lf 11 87 U (tY U U U)<|WD.jD (i:=12) U (by kernel_rfl) U U U (by kernel_rfl) (kw (k:=((nth (nth b a) c).fX)) (v:=i64 ((xx f ((nth (nth b a) c).ya) 0)+(xx g ad 0))) kG underlying148 U U U U .h5)<|WD.done (by kernel_rfl)<|Lb<|B0q<|Le 88 (xk jR U U)<|Le 89 (xl xu U<|xt .h1 U)<|Q2q U<|Lx true 6 91 (B:=(decide (((nth (nth b a) c).fX)>=0))&&(decide (((nth (nth b a) c).fX)<d.fM.length))) U U U U U U (fun h=>(vy h).symm) (fun _ bf=>?_) ?_
          ·exact Le 92 (xk jR U U)<|Le 93 (xl xu U<|xt .h1 U)<|Le 94 (xk jB U U)<|Le 95 (xl z4F U<|xt .h4 U)<|Le 96 (xK underlying22 U)<|Q2q U<|Ly (vz bf) U U .all
          refine Q0n<|Lk U h (fun bg h=>?_)<|fun bg h=>?_
          ·refine cK h fun bh h=>D2q U<|Le 101 (xk jR U U)<|Le 102 (xl xu U<|xt .h1 U)<|La U<|Le 104 (xk jR U U)<|Le 105 (xl xu U<|xt .h1 U)<|Le 106 (j8 (k:=((nth (nth b a) c).fX)) (dflt:=(0:Int)) kG underlying148 qS U U U .here)<|Le 107 (w3 (v:=(.agg #[vi a,(vi<|(nth (nth b a) c).fX),(vi<|xx (xT f ((nth (nth b a) c).fX)<|i64 ((xx f ((nth (nth b a) c).ya) 0)+(xx g ad 0))) ((nth (nth b a) c).fX) 0)])) (Lq (l:=[.tmp 100,.tmp 102,.tmp 106]) (.r3 U U U) [0,1,2]) (fun _=>by kernel_rfl))<|Lg 108 (xU (cs:=([(⟨a,(nth (nth b a) c).fX,xx (xT f ((nth (nth b a) c).fX)<|i64 ((xx f ((nth (nth b a) c).ya) 0)+(xx g ad 0))) ((nth (nth b a) c).fX) 0⟩:zf)]:List zf).flatMap jI) zja (Lq (l:=[.tmp 107]) (.cons U .nil) [0]) (fun _=>by kernel_rfl) U (by unfold maxLen;omega)) ?_
           intro bX _
           let G:=(i64 ((xx f ((nth (nth b a) c).ya) 0)+(xx g ad 0)));refine WL.fA 109 (vT (enc:=jI) (l1:=s) (l2:=([(⟨a,(nth (nth b a) c).fX,xx (xT f ((nth (nth b a) c).fX) G) ((nth (nth b a) c).fX) 0⟩:zf)]:List zf)) zja U U .h4 (fun _=>U) U U (vL .here) (qR af _) bh) ?_
           rintro⟨bi,bj⟩ _
           exact La U<|WL.nil<|Lt<|Ln ⟨s++([(⟨a,(nth (nth b a) c).fX,xx (xT f ((nth (nth b a) c).fX) G) ((nth (nth b a) c).fX) 0⟩:zf)]:List zf),xT f ((nth (nth b a) c).fX) G,bi,bj⟩ h (.q U)<|.s5 .h4 .here .h3 .h3 .h1
          ·exact WC.skip<|Lt<|Ln ⟨s,(xT f ((nth (nth b a) c).fX)<|i64 ((xx f ((nth (nth b a) c).ya) 0)+(xx g ad 0))),t,x⟩ h (.q U)<|.s5 .h2 .h2 .h2 .h2 .here
        ·rintro z Q aa ab h
         replace h:=(a6 z Q).symm.trans h
         exact D2q U<|WL.nil<|WX.round ⟨bu,z,i64 (c+1),Q,aa,ab⟩ h (Nat.lt_succ_self _) (.q U)<|.a5
       ·exact WC.exit<|Lm<|Lm<|Lv<|Ln ⟨s,t,x⟩ h (.q U)<|.a4
      ·rintro P X Y h
       replace h:=(a4 P).symm.trans h
       refine WC.b<|bK h fun aI bk h=>D1q U<|WL.fy (dd:=112) U U U (zb call61<|.r2 U U) (.cons .h1 .nil) (cc hz (.cons .h1 .nil) fun w pz ho=>rl _ _ _ (zqF:=62) (zzi:=[]) _ (zqE:=(fun(y0:zf) (y1:zf)=>vj y0 y1)) _ bk w pz call62 (fun w' iT y0 y1  r  hr=>Yf _ _ _ _ hr w' iT ) ho) ?_
       rintro  bl
       refine Mh (i:=13) U (u:=(vs X aI.length Y)) (px bl.symm)<|Q0n<|cK h fun bm h=>D2q U<|WL.fA 115 (vT (enc:=jI) (l1:=p) (l2:=aI) zja U U .h1 (fun _=>U) U U (vL .here) (qR af _) bm) ?_
       rintro⟨bn,bo⟩ _
       exact La U<|WL.nil<|Lt<|Ln ⟨p++aI,bn,bo⟩ h (.q U)<|.s3 .here .h1 .h1
     ·rintro y T V h
      replace h:=(a1 y).symm.trans h
      exact D2q U<|WL.nil<|WX.round ⟨bq,y,i64 (a+1),T,V⟩ h (Nat.lt_succ_self _) (.q U)<|.a3
    ·exact WC.exit<|Lm<|Lm<|Lv<|Ln ⟨p,N,O⟩ h (.cons U .nil)<|.cons .here .nil
   ·rintro M R S h
    replace h:=(aZ M).symm.trans h
    refine B2n U<|WC.ret ?_
    obtain rfl:=oJ h
    exact Li results28 (.tmp U .nil)<|fun w hw=>⟨R,S,xJ U,trivial,hw.sub (.cons .here .nil)⟩
def j4(c:List z7×Int)(g:zi)(e:List (List za))(f:(List ye)->Option (yw×Int)):Nat->Int->Int->(List ye)->(List (yh×z1))->(List (z7×Int))->Option (yw×Int)
 | 0,_,_,_,_,_=>none
 | h+1,b,i,d,j,k=>if decide (b<c.1.length) then chk (0<=b/\b<c.1.length) ((mu g e j k i (⟨(nth c.1 b).ya,(nth c.1 b).fQ⟩:z7)).bind fun a=>chk (((d++([a.1]:List ye)).length:Int)*32<=140737488355328/\((d++([a.1]:List ye)).length:Int)<=4611686018427387904) (if decide (a.2.1≠0) then some ((⟨([]:List ye),([]:List zf)⟩:yw),a.2.1) else j4 c g e f h (i64 (b+1)) a.2.1 (d++([a.1]:List ye)) a.2.2.1 a.2.2.2)) else f d
def uu(b:zi)(e:Int)(a:List (List za)):Option (yw×Int):=
 (kT b e a).bind fun f=>if !f then some ((⟨([]:List ye),([]:List zf)⟩:yw),310) else(vV b.yd (fun(y0:ym)=>jp y0)).bind fun g=>if g then some ((⟨([]:List ye),([]:List zf)⟩:yw),350) else(mm a).bind fun c=>if decide (c.2≠0) then some ((⟨([]:List ye),([]:List zf)⟩:yw),c.2) else vk (fun(h:List ye)=>(wc h (fun(y0:ye) (y1:ye)=>qc y0 y1)).bind fun d=>(uR b a d).bind fun i=>some ((⟨d,i⟩:yw),0)) fun j=>j4 c b a j xC 0 0 ([]:List ye) ([]:List (yh×z1)) ([]:List (z7×Int))
theorem aq(Z:Zp)(Q:Option Addr)(R:Nat)(S:Option Addr)(T:Nat)(V:Option Addr)(W:Nat)(X:Option Addr)(Y:Nat)(aa:Option Addr)(ab:Nat)(ad:Option Addr)(ae:Nat)(af:Option Addr)(ag:Nat)(ah:Option Addr)(ai:Nat)(aj:Option Addr)(ak:Nat)(a:zi)(aw:Int)(s:List (List za))(r:yw×Int)(h:uu a aw s=some r)(w₀:World)(hz:PZ [] w₀ Z)(al:ZS Z 4 (vU Z) Q R a.fM)(am:ZS Z 4 (qr Z) S T a.yc)(an:ZS Z 4 (rq jm) V W a.fS)(ao:ZS Z 4 (rq qm) X Y a.fK)(z:ZS Z 7 (qK Z) aa ab a.yd)(ap:ZS Z 5 (rq qI) ad ae a.fH)(ar:ZS Z 3 (qs Z) af ag a.fU)(au:ZS Z 4 (rq qJ) ah ai a.yb)(B:ZS Z 1 (qt Z) aj ak s):
  Calls Tryz.prog 18 #[.agg #[vs Q a.fM.length R,vs S a.yc.length T,vs V a.fS.length W,vs X a.fK.length Y,vs aa a.yd.length ab,vs ad a.fH.length ae,vs af a.fU.length ag,vs ah a.yb.length ai],vi aw,vs aj s.length ak] w₀ fun e w'=>∃ ax:Option Addr,∃ ay:Nat,∃ az:Option Addr,∃ aA:Nat,e = .returned (.tuple #[.agg #[vs ax r.1.fP.length ay,vs az r.1.ys.length aA],vi r.2])/\True/\Hp [] w₀ w' [row (vs ax r.1.fP.length ay) 37 4 (r.1.fP.flatMap xY),row (vs az r.1.ys.length aA) 53 3 (r.1.ys.flatMap jI)]:=by
 unfold uu at h
 refine Me func18 ntmps18 ?_
 let D:Value:=(vs Q a.fM.length R);let E:Value:=(vs S a.yc.length T);let F:Value:=(vs V a.fS.length W);let G:Value:=(vs X a.fK.length Y);let H:Value:=(vs aa a.yd.length ab);let I:Value:=(vs ad a.fH.length ae);let J:Value:=(vs af a.fU.length ag);let K:Value:=(vs ah a.yb.length ai);let A:List Value:=[D,E,F,G,H,I,J,K];refine B0q<|Lg 3 (xO (cs:=A) U U) ?_
 intro M _
 refine Lg 6 (xG (cs:=[vn,vn]) zbU U) fun N _=>Q1n U<|WC.b<|WC.b<|bK h fun a2 aH h=>Ld<|Le 14 (xw z1j U (xy .h1) U)<|Q2q U<|Lp 17 (zb call22<|.r3 U U U) .nil (cc hz .nil fun w pz ho=>sd _ _ _ _ _ _ _ _ _ _ _ _ _ _ _ _ _ _ _ _ _ _ _ aH w pz al am an ao z ap ar au B)<|Q1n U<|Lk U h (fun aI h=>?_)<|fun aI h=>?_
 ·refine B0q<|Le 19 (w3 (v:=(.agg #[vn,vn])) (Lq (l:=[]) .nil []) (fun _=>by kernel_rfl))<|Lo U U (xz z5c U U U .here U U U)<|Q1n U<|WC.ret<|Ll<|WX.nilRow 37 4<|WX.nilRow 53 3 ?_
  obtain rfl:=oJ h
  exact Li results18 (.agg U z4G U (xy .h2)<|.tmp U .nil)<|fun w hw=>⟨none,0,none,0,wV U U,trivial,hw.sub (.s2 .h1 .here)⟩
 ·refine WC.skip<|Lb<|WC.b<|WC.b<|bK h fun a3 aJ h=>Ld<|Le 20 (xk ma U U)<|Le 21 (xl z9f U<|xt .h1 U)<|Lp 22 (zb call39<|.r2 U U) .nil (cc hz .nil fun w pz ho=>sL _ _ _ (zoX:=40) (zxL:=[]) _ (zoW:=(fun(y0:ym)=>jp y0)) _ aJ w pz z call40<|fun w' iT y0 ga0 gc0 r CL hr=>eP _ _ _ _ _ hr w' iT CL)<|Q0n<|Lk U h (fun aK h=>?_)<|fun aK h=>?_
  ·refine B0q<|Le 23 (w3 (v:=(.agg #[vn,vn])) (Lq (l:=[]) .nil []) (fun _=>by kernel_rfl))<|Lo U U (xz z5c U U U .here U U U)<|Q1n U<|WC.ret<|Ll<|WX.nilRow 37 4<|WX.nilRow 53 3 ?_
   obtain rfl:=oJ h
   exact Li results18 (.agg U z4G U (xy .h2)<|.tmp U .nil)<|fun w hw=>⟨none,0,none,0,wV U U,trivial,hw.sub (.s2 .h1 .here)⟩
  ·refine WC.skip<|Lb<|WC.b<|bK h fun n aL h=>D1q U<|WL.jk (dd:=26) U U U (zb call42<|.cons U .nil) .nil (cc hz .nil fun w pz ho=>bR _ _ _ _ _ aL w pz B) ?_
   rintro aV aW _
   refine Q5n U<|WC.b<|B2n U<|Lk U h (fun aM h=>?_)<|fun aM h=>?_
   ·refine B0q<|Le 31 (w3 (v:=(.agg #[vn,vn])) (Lq (l:=[]) .nil []) (fun _=>by kernel_rfl))<|La U<|Lo U U (xz z5c U U U .h1 U U U)<|Q1n U<|WC.ret<|Ll<|WX.nilRow 37 4<|WX.nilRow 53 3 ?_
    obtain rfl:=oJ h
    exact Li results18 (.agg U z4G U (xy .h2)<|.tmp U .nil)<|fun w hw=>⟨none,0,none,0,wV U U,trivial,hw.sub (.s2 .h1 .here)⟩
   ·refine WC.skip<|Lb<|B0q<|Le 33 (xw z1j U (xy .h2) U)<|La U (Lg 35 (jN (ga qY)<|fun x=>Value.agg (xL x).toArray) fun O _=>Lg 36 (jN (ga xP)<|Value.int .i64) ?_)
    intro P _
    let C:Value:=(vs aj s.length ak);refine Le 37 (w3 (v:=(.agg #[D,E,F,G,H,I,J,K,C,(.map<|some O),(.map<|some P),vi 0])) (Lq (l:=[.tmp 33,.tmp 34,.tmp 35,.tmp 36,.const (vi 0)]) (.r5 U U U U U) [0,1,2,3,4]) (fun _=>by kernel_rfl))<|Lg 38 (xO (cs:=[D,E,F,G,H,I,J,K,C,(.map<|some O),(.map<|some P),vi 0]) U U) ?_
    intro av _
    refine Q1n U<|WC.b<|Ld (Lg 11 (xG (cs:=[vn,vn]) zbU U) fun t _=>Q0n ?_)
    refine jK1 h fun aB aN h=>Md (fun(d:List ye) (f:Option Addr) (g:Nat)=>(aB d=some r)) (fun d f g=>[(2,C),(3,vp M),(6,vp N),(11,vp t)]) (fun d f g=>[stb M 31 A,stb N 40 [vn,vn],stb t 40 [vs f d.length g,vn],row (vs f d.length g) 37 4 (d.flatMap xY)]) ?_ ?_
    ·let L:Value:=(vs aV n.1.length aW);refine B1q U<|Le 40 (xK underlying112 U)<|Q1n U<|WC.block<|WC.nilRow 37 4<|WC.l6 (fun(u:Nat) (c:Int) (o:Int) (b:List ye) (p:List (yh×z1)) (q:List (z7×Int)) (j:Option Addr) (k:Nat)=>(j4 n a s aB u c o b p q=some r)) (fun u c o b p q j k=>[(2,C),(3,vp M),(6,vp N),(10,vp av),(11,vp t),(39,L),(40,vi (n.1.length:Int)),(41,vi c)]) (fun u c o b p q j k=>[row L 121 2 (n.1.flatMap xP),stb M 31 A,stb N 40 [vn,vn],stb av 119 [D,E,F,G,H,I,J,K,C,(.map<|some O),(.map<|some P),vi o],stb t 40 [vs j b.length k,vn],row (vs j b.length k) 37 4 (b.flatMap xY),xB O (ga qY) (ga xL) p,xB P (ga xP) vI q]) (fun u c o b p q j k=>u) ⟨xC,0,0,([]:List ye),([]:List (yh×z1)),([]:List (z7×Int)),none,0⟩ h (.q U) (.s8 .h5 .h6 .h5 .h2 .h1 .here .h1 .here) ?_
     rintro(_|aX) c o b p q j k h;·cases h
     rw[j4] at h
     refine B1n U<|WC.b<|Lk U h (fun aO h=>?_)<|fun aO h=>?_
     ·refine WC.skip<|Lb<|WC.b<|WC.block<|WC.b<|cK h fun y h=>Ld<|WL.know (fun w hw=>Hp.vB .here hw (by intro iT;have:=y;rw[iT] at this;omega)) ?_
      rintro⟨aZ,rfl⟩
      refine Le 43 (w7 z9g U U y.1 y.2 vN)<|Le 44 (wu (cs:=(xP<|nth n.1 c)) z7b U U<|g5 .here<|vt (enc:=xP) (l:=n.1) (i:=c) (sz:=2) (fun _=>U) y.1 y.2) (Lg 13 (xG (cs:=[vi 0,vi 0]) zth U) fun a0 _=>Lo U U (xz zwZ U U U .here U U U)<|Q0n<|WC.b ?_)
      refine bK h fun m aP h=>cK h fun aQ h=>Lz (fun i=>[4,6,8].contains i) [sq t 40 [(0,vs j b.length k)]] U<|Lf 0 45 U (xk kB U U)<|Mb 1 46 U (wB.wk (.cons .h5 .nil)<|.stb (.cons U .nil) .nil) (xl z64 U<|fZ .here<|.head _)<|Lf 2 47 U (q_m U)<|Lh 3 48 U (xw z7b U (xy .here) U) (WD.call0 (i:=4) (dd:=49) U (by kernel_rfl) U U U (.inl ⟨U,(wB.wk (.cons .h7 .nil)<|.stb (.cons U .nil) .nil)⟩) (zb call43<|.r2 U U) (.s3 .h4 .h6 .h6) (cc hz (.s3 .h4 .h6 .h6) fun w pz ho=>Calls.mono (eR _ _ _ _ _ _ _ _ _ _ _ _ _ _ _ _ _ _ _ _ _ _ _ _ _ _ _ _ _ aP w pz al am an ao z ap ar au B ho)<|fun _ _ h'=>⟨h'.1,trivial,h'.2⟩) fun _=>WD.new (i:=5) (dd:=50) U (by kernel_rfl) U U U (xU (cs:=([m.1]:List ye).flatMap xY) z1r (Lq (l:=[.tmp 49]) (.cons U .nil) [0]) (fun _=>by kernel_rfl) U (by unfold maxLen;omega)) (fun h'=>absurd h' (by decide)) fun a1 _=>WD.old (i:=6) (dd:=51) U (by kernel_rfl) U U U U (fun _=>(wB.wk (.cons (.there<|.there .h7) .nil)<|.stb (.cons U .nil) .nil)) (vT (enc:=xY) (l1:=b) (l2:=([m.1]:List ye)) z1r U U (.there<|.there .h7) (fun _=>U) U U (vL .here) (qR tE _) aQ) ?_)
      rintro⟨aC,aD⟩ _
      refine Lf 7 52 U (xk kB U U)<|WD.jD (i:=8) U (by kernel_rfl) U U U (by kernel_rfl) (jF (ds:=[vs aC ((b++([m.1]:List ye)).length) aD,vn]) zMA U U U U U (.there<|.there .h7) U U)<|WD.done (by kernel_rfl)<|Lb<|B1q U<|Le 54 (wG U)<|Le 55 (xk pI U U)<|Le 56 (xl z6z U<|xt .h3 U)<|Q1n U<|Lk U h (fun aR h=>?_)<|fun aR h=>?_
      ·refine WC.b<|Lz (fun i=>[5].contains i) [sq av 119 [(11,vi m.2.1)]] U<|Lf 0 58 U (w3 (v:=(.agg #[vn,vn])) (Lq (l:=[]) .nil []) (fun _=>by kernel_rfl))<|Lf 1 59 U (q_m U)<|Lf 2 60 U (wG U)<|Lf 3 61 U (xk pI U U)<|Mb 4 62 U (wB.wk (.cons .h3 .nil)<|.stb (.cons U .nil) .nil) (xl z6z U<|fZ .here<|.head _)<|WD.forced0 (i:=5) U (by kernel_rfl) U U U (wB.wk (.cons .h4 .nil)<|.stb (.cons U .nil) .nil) (xz z5c U U U (.there<|.there .h7) U U U)<|Lf 6 7 U (q_z U)<|WD.done (by kernel_rfl)<|Lb<|WC.ret<|Lu<|Ll<|Ll<|Lu<|Ll<|WX.nilRow 37 4<|WX.nilRow 53 3 ?_
       obtain rfl:=oJ h
       exact Li results18 (.agg U z4G U (xy .h2)<|.tmp U .nil)<|fun w hw=>⟨none,0,none,0,wV U U,trivial,hw.sub (.s2 .h1 .here)⟩
      ·exact WC.skip<|Lt<|Lb<|D2q U<|WL.nil<|WX.round ⟨aX,i64 (c+1),m.2.1,b++([m.1]:List ye),m.2.2.1,m.2.2.2,aC,aD⟩ h (Nat.lt_succ_self _) (.q U)<|.s8 .h7 .h7 .h7 .h3 .here .here .h1 .h1
     ·exact WC.exit<|Lm<|Lm<|Lv<|Ln ⟨b,j,k⟩ h (.q U)<|.s4 .h1 .h1 .h2 .h2
    ·rintro d f g h
     replace h:=(aN d).symm.trans h
     refine WC.b<|bK h fun aE aS h=>Ld<|Le 64 (xk kB U U)<|Le 65 (xl z64 U<|xt .h2 U)<|WL.fy (dd:=66) U U U (zb call26<|.r2 U U) (.cons .h3 .nil) (cc hz (.cons .h3 .nil) fun w pz ho=>kX _ _ _ (znp:=44) (zvB:=[]) _ (zno:=(fun(y0:ye) (y1:ye)=>qc y0 y1)) _ aS w pz call44 (fun w' iT y0 y1  r  hr=>eS _ _ _ _ hr w' iT ) ho) ?_
     rintro  aT
     refine WL.restb (cs':=[vs f aE.length g,vn]) .h3 (by rw[aT])<|Q0n<|WC.b<|bK h fun aY aU h=>Ld<|Le 67 (xw z1j U (xy .h2) U)<|La U<|Le 69 (xk kB U U)<|Le 70 (xl z64 U<|xt .here U)<|WL.jk (dd:=71) U U U (zb call28<|.r3 U U U) .nil (sc hz .nil (.cons .h1 .nil) fun w pz ho la=>dB _ _ _ _ _ _ _ _ _ _ _ _ _ _ _ _ _ _ _ _ _ _ _ _ _ aU w pz ((al.mono<|zl).weak (fun _ _ h=>wg zl h)) ((am.mono<|zl).weak (fun _ _ h=>wp zl h)) (an.mono<|zl) (ao.mono<|zl) ((z.mono<|zl).weak (fun _ _ h=>wi zl h)) (ap.mono<|zl) ((ar.mono<|zl).weak (fun _ _ h=>wq zl h)) (au.mono<|zl) ((B.mono<|zl).weak (fun _ _ h=>wv zl h))<|ZA.row (la _ (.head _) _) (RR.flat (enc:=xY) (fun _=>U) _) ⟨w,pz.1⟩) ?_
     rintro aF aG _
     refine Le 72 (xk rD U U)<|Lo U U (jF (ds:=[vs f aE.length g,vs aF aY.length aG]) zC6 U U U U U .h1 U U)<|Q0n<|B0q<|Le 73 (xw z4G U (xy .here) U)<|Lo U U (xz z5c U U U .h4 U U U)<|Q1n U<|WC.ret ?_
     obtain rfl:=oJ h
     exact Li results18 (.agg U z4G U (xy .here)<|.tmp U .nil)<|fun w hw=>⟨f,g,aF,aG,wV U U,trivial,hw.sub (.s2 .h3 .h2)⟩
def jo(b:List (Int->Option Int))(c:Int)(d:Int->Option Int):Nat->Int->Int->Option Int
 | 0,_,_=>none
 | f+1,e,a=>if decide (a<b.length) then chk (0<=a/\a<b.length) (((nth b a) c).bind fun g=>jo b c d f (i64 (e+g)) (i64 (a+1))) else d e
def rd(a:List (Int->Option Int))(b:Int):Option Int:=
 vk (fun(c:Int)=>some c) fun d=>jo a b d xC 0 0
theorem eT(Z:Zp)(i:Option Addr)(j:Nat)(c:List (Int->Option Int))(e:Int)(r:Int)(h:rd c e=some r)(w₀:World)(hz:PZ [] w₀ Z)(n:ZS Z 1 (mS Z) i j c):
  RC 55 #[vs i c.length j,vi e] w₀ (vi r) [] []:=by
 unfold rd at h
 refine L3 func55 ntmps55 ?_
 refine B1n U<|B1n U<|jK1 h fun k o h=>Ma (fun(d:Int)=>(k d=some r)) (fun d=>[(5,vi d)]) (fun d=>[]) ?_ ?_
 ·refine B1q U<|Le 9 (xK underlying140 U)<|Q1n U<|WC.block<|WC.sk (fun(g:Nat) (a:Int) (b:Int)=>(jo c e k g a b=some r)) (fun g a b=>[(1,vi e),(5,vi a),(8,vs i c.length j),(9,vi (c.length:Int)),(10,vi b)]) (fun g a b=>[]) (fun g a b=>g) ⟨xC,0,0⟩ h (.q U) .nil ?_
  rintro(_|z) a b h;·cases h
  rw[jo] at h
  refine B1n U<|WC.b<|Lk U h (fun p h=>?_)<|fun p h=>?_
  ·refine WC.skip<|Lb<|WC.b<|WC.block<|WC.b<|cK h fun q h=>Ld<|L0 (dd:=12) U U (Z:=Z) (Pr:=(mS Z)) ztm U U n q ?_
   rintro A B s C ⟨t,u,rfl,v,x⟩
   exact Le 13 (xl zWx U<|q9 hz.pv s U)<|Q1n U<|bK h fun m y h=>D3q U<|Lp 17 (qW (l:=[.tmp 16]) (f:=t) (caps:=u) v U<|.cons U .nil) .nil (fun w hw=>x w (hz.now hw) e m  y)<|Q2q U<|WL.nil<|Lt<|Lb<|D2q U<|WL.nil<|WX.round ⟨z,i64 (a+m),i64 (b+1)⟩ h (Nat.lt_succ_self _) (.q U) .nil
  ·exact WC.exit<|Lm<|Lm<|Lv<|Ln a h (.cons U .nil) .nil
 ·rintro d h
  replace h:=(o d).symm.trans h
  refine B2n U<|WC.ret ?_
  obtain rfl:=oJ h
  exact Li results55 (.tmp U .nil)<|fun w hw=>⟨xJ U,hw.sub .nil⟩
def sC:List (Int->Option Int)->Int->Int->Option Int
 | [],_,s=>some s
 | f::l,t,s=>(f t).bind fun x=>sC l t (i64 (s+x))
theorem n5(a b:Int):i64 (i64 a+b)=i64 (a+b):=by
 unfold i64 IntKind.wrap
 simp only[IntKind.signed,IntKind.bits]
 simp
 omega
theorem J7{t:Int}{l l':List (Int->Option Int)}(h:l.Perm l'):∀ {s:Int},sC l t s=sC l' t s:=by
 induction h with
 | nil=>intro s;rfl
 | cons f _ ih=>intro s;rw[sC,sC];cases f t with
  | none=>rfl
  | some x=>exact ih
 | swap f g l=>
  intro s
  rw[sC,sC]
  cases hf:f t with
  | none=>
   cases hg:g t with
   | none=>rfl
   | some y=>simp only[oB,Option.bind_none,sC,hf]
  | some x=>
   cases hg:g t with
   | none=>simp only[oB,Option.bind_none,sC,hg]
   | some y=>
    simp only[oB,sC,hf,hg]
    rw[n5,n5,show s+y+x=s+x+y by omega]
 | trans _ _ ih1 ih2=>intro s;exact ih1.trans ih2
theorem au{l:List (Int->Option Int)}{t:Int}{k:Int->Option Int}(hl:l.length<=4611686018427387904):∀(n:Nat) (s v:Int),0<=v->v<=l.length->l.length<n+v->jo l t k n s v=(sC (l.drop v.toNat) t s).bind k
 | 0,s,v,h0,h1,h2=>by omega
 | n+1,s,v,h0,h1,h2=>by
  rw[jo]
  by_cases h:v<l.length
  ·rw[if_pos (decide_eq_true h),xr ⟨h0,h⟩,List.drop_eq_getElem_cons (show v.toNat<l.length by omega),sC]
   have e:nth l v=l[v.toNat]'(by omega):=by unfold nth;simp[show v.toNat<l.length by omega]
   rw[e]
   cases (l[v.toNat]'(by omega)) t with
   | none=>rfl
   | some x=>
    rw[oB,oB,xD (x:=v+1) (by omega),au hl n _ (v+1) (by omega) (by omega) (by omega),show(v+1).toNat=v.toNat+1 by omega]
  ·rw[if_neg (by simpa using h),List.drop_eq_nil_of_le (by omega)];rfl
theorem J8{l:List (Int->Option Int)}{t:Int}(hl:l.length<=4611686018427387904):rd l t=sC l t 0:=by
 show jo l t (fun s=>some s) xC 0 0=_
 rw[au hl xC 0 0 (by omega) (by omega) (by rw[show xC=18446744073709551616 from U];omega)]
 simp
def vY(l:List (Int->Option Int))(t:Int):Option Int:=chk (l.length<=4611686018427387904) (sC l t 0)
theorem tw(Z:Zp)(ao:Option Addr)(cap:Nat)(l:List (Int->Option Int))(t:Int)(r:Int)(h:vY l t=some r)(w₀:World)(hz:PZ [] w₀ Z)(hs:ad Z (mS Z) ao cap l):
  RC 55 #[vs ao l.length cap,vi t] w₀ (vi r) [] []:=by
 obtain⟨l',hp,hs⟩:=hs
 obtain⟨hb,h⟩:=xq h
 rw[<- hp.length_eq] at hb ⊢
 exact eT _ _ _ _ _ _ ((J8 hb).trans ((J7 hp).trans h)) w₀ hz hs
def gB(zny:Int)(zcv:Int)(znz:List (Int->Option Int))(zvK:List (Int×Int))(z4X:zi):Option Int:=
 if decide (zcv<0) then(vY znz zny).bind fun a=>some a else(vY znz zny).bind fun b=>chk (0<=zcv/\zcv<z4X.fK.length) (chk ((((nth z4X.fK zcv).yj):Int)≠0) (some (min b (i64 ((xx zvK zcv 0)+(i64 (Int.tdiv zny ((nth z4X.fK zcv).yj))))))))
theorem iY(Z:Zp)(zHP:Addr)(zHQ:Addr)(zHR:Option Addr)(zHS:Nat)(zHT:Addr)(zHU:Nat)(zHV:Addr)(zHW:Option Addr)(zHX:Nat)(zHY:Option Addr)(zHZ:Nat)(zI0:Option Addr)(zI1:Nat)(zI2:Option Addr)(zI3:Nat)(zI4:Option Addr)(zI5:Nat)(zI6:Option Addr)(zI7:Nat)(zI8:Option Addr)(zI9:Nat)(zIa:Option Addr)(zIb:Nat)(zny:Int)(zcv:Int)(znz:List (Int->Option Int))(zvK:List (Int×Int))(z4X:zi)(r:Int)(h:gB zny zcv znz zvK z4X=some r)(w₀:World)(hz:PZ [] w₀ Z)(hmW:ZA Z (xB zHU vI vI zvK))(zzs:ZC Z zHP [vi zcv])(zIc:ad Z (mS Z) zHR zHS znz)(zId:ZC Z zHQ [vs zHR znz.length zHS])(zT7:ZC Z zHT [.map (some zHU)])(z1b6:ZS Z 4 (vU Z) zHW zHX z4X.fM)(z1b7:ZS Z 4 (qr Z) zHY zHZ z4X.yc)(z1b8:ZS Z 4 (rq jm) zI0 zI1 z4X.fS)(zT8:ZS Z 4 (rq qm) zI2 zI3 z4X.fK)(z1b9:ZS Z 7 (qK Z) zI4 zI5 z4X.yd)(z1ba:ZS Z 5 (rq qI) zI6 zI7 z4X.fH)(z1bb:ZS Z 3 (qs Z) zI8 zI9 z4X.fU)(z1bc:ZS Z 4 (rq qJ) zIa zIb z4X.yb)(zT9:ZC Z zHV [vs zHW z4X.fM.length zHX,vs zHY z4X.yc.length zHZ,vs zI0 z4X.fS.length zI1,vs zI2 z4X.fK.length zI3,vs zI4 z4X.yd.length zI5,vs zI6 z4X.fH.length zI7,vs zI8 z4X.fU.length zI9,vs zIa z4X.yb.length zIb]):
  RC 99 #[vi zny,vq zHP,vq zHQ,vq zHT,vq zHV] w₀ (vi r) [] []:=by
 unfold gB at h
 refine Calls.on5 func99 ntmps99 ?_
 refine B1n U<|WC.b<|B0q<|Le 7 (xl xu U<|q9 hz.pv zzs U)<|Q1n U<|Lk U h (fun a h=>?_)<|fun a h=>?_
 ·refine WC.b<|bK h fun m b h=>Ld<|Le 9 (xl zMB U<|q9 hz.pv zId U)<|La U<|Lp 11 (zb call55<|.r2 U U) .nil (cc hz .nil fun w pz ho=>tw _ _ _ _ _ _ b w pz zIc)<|Q1n U<|WC.ret<|Ll ?_
  obtain rfl:=oJ h
  exact Li results99 (.tmp U .nil)<|fun w hw=>⟨xJ U,hw.sub .nil⟩
 ·refine WC.skip<|Lb<|WC.b<|bK h fun n c h=>cK h fun d h=>cK h fun e h=>Lz nc [] U<|Lh 0 12 U (xl zMB U<|q9 hz.pv zId U)<|Lf 1 13 U (q_m U)<|L5 2 14 U (zb call55<|.r2 U U) (cc hz .nil fun w pz ho=>tw _ _ _ _ _ _ c w pz zIc)<|Lh 3 15 U (xl zC7 U<|q9 hz.pv zT7 U)<|Lh 4 16 U (xl xu U<|q9 hz.pv zzs U)<|Lh 5 17 U (J1 (k:=zcv) (dflt:=(0:Int)) kG underlying148 qS U U U hz.pv hmW)<|Lf 6 18 U (q_m U)<|Lf 7 19 U (xk jQ U U)<|Lh 8 20 U (xl z5E U<|xM hz.pv zT9 U)<|Lh 9 21 U (xl xu U<|q9 hz.pv zzs U)<|L2 (j:=10) (dd:=22) (by kernel_rfl) U zO zP U U (Z:=Z) (Pr:=(rq qm)) z7V U U zT8 d ?_
  rintro g i f l rfl
  refine Lf 11 23 U (xk mz U U)<|Lh 12 24 U (xl xu U<|xM hz.pv f U)<|Lf 13 25 U (rM U U e U)<|Lf 14 26 U (tY U U U)<|Lf 15 27 U (q_min U U U)<|Lf 16 6 U (q_z U)<|WD.done (by kernel_rfl)<|Lb<|WC.ret ?_
  obtain rfl:=oJ h
  exact Li results99 (.tmp U .nil)<|fun w hw=>⟨xJ U,hw.sub .nil⟩
def gC(a:za)(b:z7):Option Bool:=
 some (decide ((⟨a.ya,a.fQ⟩:z7)=b))
theorem iZ(Z:Zp)(e:Addr)(c:za)(d:z7)(r:Bool)(h:gC c d=some r)(w₀:World)(hz:PZ [] w₀ Z)(f:ZC Z e [vi d.ya,vi d.fQ]):
  RC 95 #[.agg #[vi c.ya,vi c.fX,vi c.fQ],vq e] w₀ (.bool r) [] []:=by
 unfold gC at h
 refine L3 func95 ntmps95 ?_
 refine WC.b<|Ld (Lg 2 (xO (cs:=[vi c.ya,vi c.fX,vi c.fQ]) U U) fun g _=>Q1n U<|B0q<|Le 4 (xk ww U U)<|Le 5 (xl xu U<|xt .here U)<|Le 6 (xk kz U U)<|Le 7 (xl xu U<|xt .here U)<|Le 8 (w3 (v:=(.agg #[vi c.ya,vi c.fQ])) (Lq (l:=[.tmp 5,.tmp 7]) (.r2 U U) [0,1]) (fun _=>by kernel_rfl))<|Le 9 (xw zx3 U (vQ hz.pv f) U)<|Le 10 (pw (enc:=vO) (a:=(⟨c.ya,c.fQ⟩:z7)) (b:=d) zMC U U)<|Q1n U<|WC.ret ?_)
 obtain rfl:=oJ h
 exact Li results95 (.tmp U .nil)<|fun w hw=>⟨xJ U,hw.sub .nil⟩
def gD(a:zi)(b:Int):Option Int:=
 if decide ((i64 (b-(a.fM.length:Int)))>=0) then chk (0<=(i64 (b-(a.fM.length:Int)))/\(i64 (b-(a.fM.length:Int)))<a.fS.length) (some ((nth a.fS (i64 (b-(a.fM.length:Int)))).yf)) else some 0
theorem oa(Z:Zp)(b:Option Addr)(c:Nat)(d:Option Addr)(e:Nat)(f:Option Addr)(g:Nat)(i:Option Addr)(j:Nat)(k:Option Addr)(l:Nat)(m:Option Addr)(n:Nat)(o:Option Addr)(p:Nat)(q:Option Addr)(s:Nat)(a:zi)(t:Int)(r:Int)(h:gD a t=some r)(w₀:World)(hz:PZ [] w₀ Z)(z:ZS Z 4 (vU Z) b c a.fM)(A:ZS Z 4 (qr Z) d e a.yc)(u:ZS Z 4 (rq jm) f g a.fS)(B:ZS Z 4 (rq qm) i j a.fK)(C:ZS Z 7 (qK Z) k l a.yd)(D:ZS Z 5 (rq qI) m n a.fH)(E:ZS Z 3 (qs Z) o p a.fU)(F:ZS Z 4 (rq qJ) q s a.yb):
  RC 54 #[.agg #[vs b a.fM.length c,vs d a.yc.length e,vs f a.fS.length g,vs i a.fK.length j,vs k a.yd.length l,vs m a.fH.length n,vs o a.fU.length p,vs q a.yb.length s],vi t] w₀ (vi r) [] []:=by
 unfold gD at h
 refine L3 func54 ntmps54 ?_
 refine WC.b<|Ld (Lg 2 (xO (cs:=[vs b a.fM.length c,vs d a.yc.length e,vs f a.fS.length g,vs i a.fK.length j,vs k a.yd.length l,vs m a.fH.length n,vs o a.fU.length p,vs q a.yb.length s]) U U) fun G _=>Q1n U<|WC.b<|B1q U<|Le 7 (xk jB U U)<|Le 8 (xl z4F U<|xt .here U)<|Le 9 (xK underlying22 U)<|Q2n U<|B2n U<|Lk U h (fun v h=>?_)<|fun v h=>?_)
 ·refine WC.b<|cK h fun x h=>Ld<|Le 13 (xk uL U U)<|Le 14 (xl zbS U<|xt .here U)<|La U<|L0 (dd:=16) U U (Z:=Z) (Pr:=(rq jm)) zj7 U U u x ?_
  rintro H I y J rfl
  refine Le 17 (xk pG U U)<|Le 18 (xl xu U<|xM hz.pv y U)<|Q1n U<|WC.ret<|Ll ?_
  obtain rfl:=oJ h
  exact Li results54 (.tmp U .nil)<|fun w hw=>⟨xJ U,hw.sub .nil⟩
 ·refine WC.skip<|Lb<|B1n U<|WC.ret ?_
  obtain rfl:=oJ h
  exact Li results54 (.tmp U .nil)<|fun w hw=>⟨xJ U,hw.sub .nil⟩
def ju(b:List za)(d:zi)(f:List (z7×Int))(g:(List Int)->Option (List Int)):Nat->(List Int)->Int->(List (Int×Int))->Option (List Int)
 | 0,_,_,_=>none
 | h+1,e,a,c=>if decide (a<b.length) then chk (0<=a/\a<b.length) (chk ((((e++([xx c ((nth b a).ya) 0]:List Int)).length:Nat):Int)*8<=140737488355328/\(((e++([xx c ((nth b a).ya) 0]:List Int)).length:Nat):Int)<=4611686018427387904) ((gD d ((nth b a).ya)).bind fun i=>chk (0<=((nth b a).fQ)/\((nth b a).fQ)<d.fK.length) (ju b d f g h (e++([xx c ((nth b a).ya) 0]:List Int)) (i64 (a+1)) (xT c ((nth b a).fX) (i64 ((i64 ((i64 ((xx c ((nth b a).ya) 0)+(xx f (⟨(nth b a).ya,(nth b a).fQ⟩:z7) 0)))-i))-((nth d.fK ((nth b a).fQ)).yj))))))) else g e
def gE(a:zi)(b:List za)(c:List (z7×Int)):Option (List Int):=
 vk (fun(d:List Int)=>some d) fun e=>ju b a c e xC ([]:List Int) 0 ([]:List (Int×Int))
theorem fJ(Z:Zp)(u:Option Addr)(x:Nat)(y:Option Addr)(z:Nat)(B:Option Addr)(D:Nat)(E:Option Addr)(F:Nat)(G:Option Addr)(H:Nat)(I:Option Addr)(J:Nat)(K:Option Addr)(L:Nat)(M:Option Addr)(N:Nat)(O:Option Addr)(P:Nat)(m:Nat)(a:zi)(c:List za)(g:List (z7×Int))(r:List Int)(h:gE a c g=some r)(w₀:World)(hz:Pz [xB m (ga vO) vI g] w₀ Z)(X:ZS Z 4 (vU Z) u x a.fM)(Y:ZS Z 4 (qr Z) y z a.yc)(aa:ZS Z 4 (rq jm) B D a.fS)(Q:ZS Z 4 (rq qm) E F a.fK)(ab:ZS Z 7 (qK Z) G H a.yd)(ad:ZS Z 5 (rq qI) I J a.fH)(ae:ZS Z 3 (qs Z) K L a.fU)(af:ZS Z 4 (rq qJ) M N a.yb)(ag:ZS Z 3 (rq vw) O P c)(iq:Ho w₀ [xB m (ga vO) vI g]):
  Calls Tryz.prog 37 #[.agg #[vs u a.fM.length x,vs y a.yc.length z,vs B a.fS.length D,vs E a.fK.length F,vs G a.yd.length H,vs I a.fH.length J,vs K a.fU.length L,vs M a.yb.length N],vs O c.length P,.map (some m)] w₀ fun e w'=>∃ R:Option Addr,∃ S:Nat,e = .returned (vs R r.length S)/\True/\Hp (fps [xB m (ga vO) vI g]) w₀ w' [row (vs R r.length S) 3 1 (r.flatMap e3),xB m (ga vO) vI g]:=by
 unfold gE at h
 refine Calls.oh3 func37 ntmps37 iq ?_
 let A:List Value:=[vs u a.fM.length x,vs y a.yc.length z,vs B a.fS.length D,vs E a.fK.length F,vs G a.yd.length H,vs I a.fH.length J,vs K a.fU.length L,vs M a.yb.length N];refine B0q<|Lg 3 (xO (cs:=A) U U) ?_
 intro T _
 refine Q1n U<|WC.b<|Ld (Lg 11 (jN vI<|Value.int .i64) fun V _=>Q1n U<|B1n U ?_)
 refine jK1 h fun W ah h=>Md (fun(n:List Int) (q:Option Addr) (s:Nat)=>(W n=some r)) (fun n q s=>[(8,vs q n.length s)]) (fun n q s=>[row (vs q n.length s) 3 1 (n.flatMap e3),xB m (ga vO) vI g]) ?_ ?_
 ·refine B1q U<|Le 13 (xK underlying58 U)<|Q1n U<|WC.block<|WC.nilRow 3 1<|WC.rx (fun(t:Nat) (d:List Int) (b:Int) (f:List (Int×Int)) (o:Option Addr) (p:Nat)=>(ju c a g W t d b f=some r)) (fun t d b f o p=>[(2,(.map<|some m)),(3,vp T),(7,(.map<|some V)),(8,vs o d.length p),(12,vs O c.length P),(13,vi (c.length:Int)),(14,vi b)]) (fun t d b f o p=>[row (vs o d.length p) 3 1 (d.flatMap e3),xB m (ga vO) vI g,stb T 31 A,xB V vI vI f]) (fun t d b f o p=>t) ⟨xC,([]:List Int),0,([]:List (Int×Int)),none,0⟩ h (.q U) (.s4 .here .h2 .h1 .here) ?_
  rintro(_|ar) d b f o p h;·cases h
  rw[ju] at h
  refine B1n U<|WC.b<|Lk U h (fun ai h=>?_)<|fun ai h=>?_
  ·refine WC.skip<|Lb<|WC.b<|WC.block<|WC.b<|cK h fun aj h=>Ld<|L0 (dd:=16) U U (Z:=Z) (Pr:=(rq vw)) z1v U U ag aj ?_
   rintro av aw ak ax rfl
   refine Le 17 (xw z5b U (vQ hz.pv ak) U) (Lg 10 (xG (cs:=[vi 0,vi 0,vi 0]) zaS U) fun ay _=>Lo U U (xz za4 U U U .here U U U)<|Q0n<|WC.b ?_)
   refine cK h fun al h=>D2q U<|Le 20 (xk ww U U)<|Le 21 (xl xu U<|xt .here U)<|Le 22 (j8 (k:=((nth c b).ya)) (dflt:=(0:Int)) kG underlying148 qS U U U .h4) (Lg 23 (xU (cs:=([xx f ((nth c b).ya) 0]:List Int).flatMap e3) z7W (Lq (l:=[.tmp 22]) (.cons U .nil) [0]) (fun _=>by kernel_rfl) U (by unfold maxLen;omega)) fun az _=>WL.fA 24 (vT (enc:=e3) (l1:=d) (l2:=([xx f ((nth c b).ya) 0]:List Int)) z7W U U .h2 (fun _=>U) U U (vL .here) (qR Qm _) al) ?_)
   rintro⟨am,an⟩ _
   refine Q1n U<|bK h fun au ao h=>cK h fun ap h=>Lz (fun i=>[28].contains i) [] U<|Lf 0 25 U (q_m U)<|Lf 1 26 U (xk jR U U)<|Lh 2 27 U (xl xu U<|xt .h2 U)<|Lf 3 28 U (q_m U)<|Lf 4 29 U (xk ww U U)<|Lh 5 30 U (xl xu U<|xt .h2 U)<|Lh 6 31 U (j8 (k:=((nth c b).ya)) (dflt:=(0:Int)) kG underlying148 qS U U U .h5)<|Lf 7 32 U (q_m U)<|Lf 8 33 U (xk ww U U)<|Lh 9 34 U (xl xu U<|xt .h2 U)<|Lf 10 35 U (xk kz U U)<|Lh 11 36 U (xl xu U<|xt .h2 U)<|Lf 12 37 U (w3 (v:=(.agg #[(vi<|(nth c b).ya),(vi<|(nth c b).fQ)])) (Lq (l:=[.tmp 34,.tmp 36]) (.r2 U U) [0,1]) (fun _=>by kernel_rfl))<|Lh 13 38 U (j8 (k:=(⟨(nth c b).ya,(nth c b).fQ⟩:z7)) (dflt:=(0:Int)) zC8 underlying92 qS U U U .h3)<|Lf 14 39 U (tY U U U)<|Lh 15 40 U (xw z1j U (xy .h4) U)<|Lf 16 41 U (xk ww U U)<|Lh 17 42 U (xl xu U<|xt .h2 U)<|L5 18 43 U (zb call54<|.r2 U U) (cc hz .nil fun w pz ho=>oa _ _ _ _ _ _ _ _ _ _ _ _ _ _ _ _ _ _ _ _ ao w pz X Y aa Q ab ad ae af)<|Lf 19 44 U (tj U U U)<|Lf 20 45 U (xk jQ U U)<|Lh 21 46 U (xl z5E U<|xt .h4 U)<|Lf 22 47 U (xk kz U U)<|Lh 23 48 U (xl xu U<|xt .h2 U)<|L2 (j:=24) (dd:=49) (by kernel_rfl) U zO zP U U (Z:=Z) (Pr:=(rq qm)) z7V U U Q ap ?_
   rintro aA aB aq aC rfl
   let C:=(i64 ((i64 ((xx f ((nth c b).ya) 0)+(xx g (⟨(nth c b).ya,(nth c b).fQ⟩:z7) 0)))-au));refine Lf 25 50 U (xk mz U U)<|Lh 26 51 U (xl xu U<|xM hz.pv aq U)<|Lf 27 52 U (tj U U U)<|WD.jD (i:=28) U (by kernel_rfl) U U U (by kernel_rfl) (kw (k:=((nth c b).fX)) (v:=i64 (C-((nth a.fK<|(nth c b).fQ).yj))) kG underlying148 U U U U .h5)<|WD.done (by kernel_rfl)<|Lt<|Lb<|D2q U<|WL.nil ?_
   exact WX.round ⟨ar,d++([xx f ((nth c b).ya) 0]:List Int),i64 (b+1),(xT f ((nth c b).fX)<|i64 (C-((nth a.fK<|(nth c b).fQ).yj))),am,an⟩ h (Nat.lt_succ_self _) (.q U)<|.s4 .h1 .h3 .h3 .here
  ·exact WC.exit<|Lm<|Lm<|Lv<|Ln ⟨d,o,p⟩ h (.cons U .nil)<|.a2
 ·rintro n q s h
  replace h:=(ah n).symm.trans h
  refine B2n U<|WC.ret ?_
  obtain rfl:=oJ h
  exact Li results37 (.tmp U .nil)<|fun w hw=>⟨q,s,xJ U,trivial,hw.sub (.a2)⟩
def gF(a:za)(b:z7):Option Bool:=
 some (decide (a.fX=b.ya))
theorem c0(Z:Zp)(c:Addr)(a:za)(b:z7)(r:Bool)(h:gF a b=some r)(w₀:World)(hz:PZ [] w₀ Z)(d:ZC Z c [vi b.ya,vi b.fQ]):
  RC 96 #[.agg #[vi a.ya,vi a.fX,vi a.fQ],vq c] w₀ (.bool r) [] []:=by
 unfold gF at h
 refine L3 func96 ntmps96 ?_
 refine WC.b<|Ld (Lg 2 (xO (cs:=[vi a.ya,vi a.fX,vi a.fQ]) U U) fun e _=>Q1n U<|B0q<|Le 4 (xk jR U U)<|Le 5 (xl xu U<|xt .here U)<|Le 6 (xk Y7 U U)<|Le 7 (xl xu U<|xM hz.pv d U)<|Q2n U<|WC.ret ?_)
 obtain rfl:=oJ h
 exact Li results96 (.tmp U .nil)<|fun w hw=>⟨xJ U,hw.sub .nil⟩
def tx(a:ym)(b:Int)(c:Int):Option Int:=
 chk ((a.yo:Int)≠0) (some (i64 (a.yn*(i64 ((i64 (Int.tdiv (i64 (c+b)) a.yo))+1)))))
theorem nC(Z:Zp)(b:Option Addr)(c:Nat)(a:ym)(d:Int)(e:Int)(r:Int)(h:tx a d e=some r)(w₀:World)(hz:PZ [] w₀ Z)(g:ZS Z 3 (rq lZ) b c a.yy):
  RC 98 #[.agg #[.string a.yq,.string a.yi.yp,.string a.yi.yt,.string a.yi.yu,vi a.yo,vi a.yn,vs b a.yy.length c],vi d,vi e] w₀ (vi r) [] []:=by
 unfold tx at h
 refine Me func98 ntmps98 ?_
 refine WC.b<|Ld (Lg 3 (xO (cs:=[.string a.yq,.string a.yi.yp,.string a.yi.yt,.string a.yi.yu,vi a.yo,vi a.yn,vs b a.yy.length c]) U U) fun i _=>Q1n U<|WC.b ?_)
 refine cK h fun f h=>Lz nc [] U<|Lf 0 7 U (xk mY U U)<|Lh 1 8 U (xl xu U<|xt .here U)<|Lf 2 9 U (q_m U)<|Lf 3 10 U (q_m U)<|Lf 4 11 U (tY U U U)<|Lf 5 12 U (xk oY U U)<|Lh 6 13 U (xl xu U<|xt .here U)<|Lf 7 14 U (rM U U f U)<|Lf 8 15 U (tY U U U)<|Lf 9 16 U (tk U U U)<|Lf 10 6 U (q_z U)<|WD.done (by kernel_rfl)<|Lb<|WC.ret ?_
 obtain rfl:=oJ h
 exact Li results98 (.tmp U .nil)<|fun w hw=>⟨xJ U,hw.sub .nil⟩
def wL(a:Int)(b:ym)(c:Int):Option Int:=
 (tx b c a).bind fun d=>some d
theorem c4(Z:Zp)(b:Addr)(c:Option Addr)(d:Nat)(e:Addr)(f:Int)(a:ym)(g:Int)(r:Int)(h:wL f a g=some r)(w₀:World)(hz:PZ [] w₀ Z)(i:ZS Z 3 (rq lZ) c d a.yy)(j:ZC Z b [.string a.yq,.string a.yi.yp,.string a.yi.yt,.string a.yi.yu,vi a.yo,vi a.yn,vs c a.yy.length d])(k:ZC Z e [vi g]):
  RC 97 #[vi f,vq b,vq e] w₀ (vi r) [] []:=by
 unfold wL at h
 refine Me func97 ntmps97 ?_
 refine B1n U<|WC.b<|bK h fun m l h=>Ld<|Le 5 (xw zx1 U (vQ hz.pv j) U)<|Le 6 (xl xu U<|q9 hz.pv k U)<|La U<|Lp 8 (zb call98<|.r3 U U U) .nil (cc hz .nil fun w pz ho=>nC _ _ _ _ _ _ _ l w pz i)<|Q1n U<|WC.ret ?_
 obtain rfl:=oJ h
 exact Li results97 (.tmp U .nil)<|fun w hw=>⟨xJ U,hw.sub .nil⟩
end Go.Proofs.YthjnhebofpebpaaGreat
