/- A part of this claim's proof: models of functions, walks, plain laws. No conditions. -/
import Derived.Test.YthjnhebofpebpaaGreatW36we
set_option linter.all false
namespace Go.Proofs.YthjnhebofpebpaaGreat
open Go Go.RowKit Sep Tryz
set_option maxRecDepth 30000
set_option maxHeartbeats 4000000
def vO(a:List zo)(zkN:zo->zo->Option Int):Option (List zo):=
 (kq (u64 (a.length:Int))).bind fun b=>(kN a 0 (a.length:Int) b zkN).bind fun c=>some c
theorem tu(Z:Zp)(b:Option Addr)(c:Nat)(zkO:FuncId)(zrh:List Value)(a:List zo)(zkN:zo->zo->Option Int)(r:List zo)(h:vO a zkN=some r)(w₀:World)(hz:Pz [row (vs b a.length c) 53 3 (a.flatMap vC)] w₀ Z)(j:∀ args w,(callFunc zkO args).run Tryz.prog w = .ok (.enter zkO args) w)(k:∀ w:World,PZ [] w Z->∀(x0:zo) (x1:zo) (r:Int),zkN x0 x1=some r->Calls Tryz.prog zkO (([.agg #[vi x0.yJ,vi x0.ya,vi x0.yj],.agg #[vi x1.yJ,vi x1.ya,vi x1.yj]]:List Value)++zrh).toArray w fun e w'=>e = .returned (vi r)/\Hp [] w w' [])(fh:Ho w₀ [row (vs b a.length c) 53 3 (a.flatMap vC)]):
  Calls Tryz.prog 61 #[vs b a.length c,.func (.func zkO) #[] (zrh).toArray] w₀ fun e w'=>e = .returned (.tuple #[])/\(r.length=a.length)/\Hp (fps [row (vs b a.length c) 53 3 (a.flatMap vC)]) w₀ w' [row (vs b r.length c) 53 3 (r.flatMap vC)]:=by
 unfold vO at h
 refine Kd func61 ntmps61 fh ?_
 refine B1q U<|Le 6 (xQ underlying38 U)<|Q1n U<|bK h fun d l h=>bK h fun f m h=>D3q U<|Le 10 (tk underlying3 underlying147 U U)<|Lm 11 (zf call57<|.cons U .nil) .nil (cc hz .nil fun w pz ho=>tZ (Z:=_)  (z9m:=(u64 (a.length:Int))) (r:=d) w pz  l)<|La U<|WL.gj (dd:=13) U U U (zf call110<|.r5 U U U U U) (.cons .here .nil) (cc hz (.cons .here .nil) fun w pz ho=>tP (Z:=_) (zhJ:=b) (zhK:=c) (zoa:=zkO) (zyj:=zrh) (z6Y:=a) (zo8:=0) (zo9:=(a.length:Int)) (zkM:=d) (zhI:=zkN) (r:=f) w pz j k m ho) ?_
 rintro  g
 refine Ke (i:=0) U (u:=(vs b f.length c)) (ue g.symm)<|WL.nil ?_
 obtain rfl:=oJ h
 exact WX.gP results61 .nil<|fun w hw=>⟨sp,g.trans U,hw.sub (.cons .here .nil)⟩
def kU(b:List yl)(c:(List (za×Int))->Option (List zo)):Nat->Int->(List (za×Int))->Option (List zo)
 | 0,_,_=>none
 | e+1,a,d=>if decide (a>=0) then chk (0<=a/\a<b.length) (kU b c e (i64 (a-1)) (xM d (⟨(nth b a).ya,(nth b a).fQ⟩:za) ((nth b a).yj))) else c d
def kV(b:List (List zd))(a:Int)(j:zt)(e:List (za×Int))(i:(List zo)->Option (List zo)):Nat->(List zo)->Int->(List (Int×Int))->Option (List zo)
 | 0,_,_,_=>none
 | k+1,f,c,d=>if decide (c<((nth b a).length:Int)) then si (fun(l:List zo) (m:List (Int×Int))=>kV b a j e i k l (i64 (c+1)) m) fun h=>chk (0<=c/\c<((nth b a).length:Int)) (chk ((qK d ((nth (nth b a) c).yh))=false->((0:Int)<=0/\0<((nth b a).length:Int))) (if (qK d ((nth (nth b a) c).yh))||(decide (((nth (nth b a) c).yh)=((nth (nth b a) 0).ya))) then h f d else(kQ (⟨(nth (nth b a) c).ya,(nth (nth b a) c).yh,(nth (nth b a) c).fQ⟩:zd)).bind fun g=>if (decide (((nth (nth b a) c).yh)>=0))&&(decide (((nth (nth b a) c).yh)<j.fM.length)) then chk ((((f++([(⟨a,(nth (nth b a) c).yh,xp (xM d ((nth (nth b a) c).yh) (i64 ((xp d ((nth (nth b a) c).ya) 0)+(xp e g 0)))) ((nth (nth b a) c).yh) 0⟩:zo)]:List zo)).length:Nat):Int)*24<=140737488355328/\(((f++([(⟨a,(nth (nth b a) c).yh,xp (xM d ((nth (nth b a) c).yh) (i64 ((xp d ((nth (nth b a) c).ya) 0)+(xp e g 0)))) ((nth (nth b a) c).yh) 0⟩:zo)]:List zo)).length:Nat):Int)<=4611686018427387904) (h (f++([(⟨a,(nth (nth b a) c).yh,xp (xM d ((nth (nth b a) c).yh) (i64 ((xp d ((nth (nth b a) c).ya) 0)+(xp e g 0)))) ((nth (nth b a) c).yh) 0⟩:zo)]:List zo)) (xM d ((nth (nth b a) c).yh) (i64 ((xp d ((nth (nth b a) c).ya) 0)+(xp e g 0))))) else h f (xM d ((nth (nth b a) c).yh) (i64 ((xp d ((nth (nth b a) c).ya) 0)+(xp e g 0)))))) else i f
def kW(c:List (List zd))(g:zt)(e:List (za×Int))(f:(List zo)->Option (List zo)):Nat->(List zo)->Int->Option (List zo)
 | 0,_,_=>none
 | h+1,b,a=>if decide (a<c.length) then jG (fun(i:List zo)=>kW c g e f h i (i64 (a+1))) fun j=>chk (0<=a/\a<c.length) (jG (fun(k:List zo)=>(vO k (fun(y0:zo) (y1:zo)=>jd y0 y1)).bind fun d=>chk (((b++d).length:Int)*24<=140737488355328/\((b++d).length:Int)<=4611686018427387904) (j (b++d))) fun l=>kV c a g e l xI ([]:List zo) 0 ([]:List (Int×Int))) else f b
def mu(h:zt)(b:List (List zd))(a:List yl):Option (List zo):=
 (wn b (fun(y0:List zd)=>kE y0)).bind fun c=>if c then some ([]:List zo) else jG (fun(d:List (za×Int))=>jG (fun(e:List zo)=>some e) fun f=>kW b h d f xI ([]:List zo) 0) fun g=>kU a g xI (i64 ((a.length:Int)-1)) ([]:List (za×Int))
theorem iU(Z:Zp)(aj:Option Addr)(ak:Nat)(al:Option Addr)(am:Nat)(an:Option Addr)(ao:Nat)(ap:Option Addr)(aq:Nat)(ar:Option Addr)(au:Nat)(av:Option Addr)(aw:Nat)(ax:Option Addr)(ay:Nat)(az:Option Addr)(aA:Nat)(aB:Option Addr)(aC:Nat)(aD:Option Addr)(aE:Nat)(d:zt)(b:List (List zd))(q:List yl)(r:List zo)(h:mu d b q=some r)(w₀:World)(hz:PZ [] w₀ Z)(bw:ZS Z 4 (ju Z) aj ak d.fM)(bx:ZS Z 4 (kv Z) al am d.yd)(bz:ZS Z 4 (rq qJ) an ao d.fS)(bA:ZS Z 4 (rq qt) ap aq d.fK)(bB:ZS Z 7 (vK Z) ar au d.yb)(bC:ZS Z 5 (rq kK) av aw d.fH)(bD:ZS Z 3 (kw Z) ax ay d.fU)(bE:ZS Z 4 (rq kL) az aA d.yc)(aJ:ZS Z 1 (wT Z) aB aC b)(aF:ZS Z 4 (rq wP) aD aE q):
  Calls Tryz.prog 28 #[.agg #[vs aj d.fM.length ak,vs al d.yd.length am,vs an d.fS.length ao,vs ap d.fK.length aq,vs ar d.yb.length au,vs av d.fH.length aw,vs ax d.fU.length ay,vs az d.yc.length aA],vs aB b.length aC,vs aD q.length aE] w₀ fun e w'=>∃ aK:Option Addr,∃ aL:Nat,e = .returned (vs aK r.length aL)/\True/\Hp [] w₀ w' [row (vs aK r.length aL) 53 3 (r.flatMap vC)]:=by
 unfold mu at h
 refine Kc func28 ntmps28 ?_
 let A:List Value:=[vs aj d.fM.length ak,vs al d.yd.length am,vs an d.fS.length ao,vs ap d.fK.length aq,vs ar d.yb.length au,vs av d.fH.length aw,vs ax d.fU.length ay,vs az d.yc.length aA];refine B0q<|Lg 3 (xP (cs:=A) U U) ?_
 intro m _
 refine Q1n U<|WC.b<|WC.b<|bK h fun bY aS h=>D1q U<|Lm 19 (zf call50<|.r2 U U) .nil (cc hz .nil fun w pz ho=>kO _ _ _ (zgf:=58) (zmh:=[]) _ (zge:=(fun(y0:List zd)=>kE y0)) _ aS w pz aJ call58<|fun w' il y0 ga0 gc0 r C0 hr=>ez _ _ _ _ _ hr w' il C0)<|Q0n<|Lj U h (fun aT h=>?_)<|fun aT h=>?_
 ·refine B1n U<|WC.ret<|Ll<|WX.nilRow 53 3 ?_
  obtain rfl:=oJ h
  exact Lh results28 (.tmp U .nil)<|fun w hw=>⟨none,0,xK U,trivial,hw.sub (.cons .here .nil)⟩
 ·refine WC.skip<|Lb<|WC.b<|Ld (Lg 20 (je (ga xL)<|Value.int .i64) fun n _=>Q1n U ?_)
  obtain⟨aM,aU,h⟩:=wv h
  let E:Value:=(vs aB b.length aC);refine WC.jh (fun(g:List (za×Int))=>(aM g=some r)) (fun g=>[(1,E),(3,vp m),(7,(.map<|some n))]) (fun g=>[stb m 31 A,xy n (ga xL) vI g]) ?_ ?_
  ·refine B1q U<|Le 22 (xQ underlying33 U)<|Q2n U<|WC.block<|WC.p9 (fun(af:Nat) (o:Int) (L:List (za×Int))=>(kU q aM af o L=some r)) (fun af o L=>[(1,E),(2,vs aD q.length aE),(3,vp m),(7,(.map<|some n)),(8,vi o)]) (fun af o L=>[stb m 31 A,xy n (ga xL) vI L]) (fun af o L=>af) ⟨xI,i64 ((q.length:Int)-1),([]:List (za×Int))⟩ h (.q U) (.s2 .h1 .here) ?_
   rintro(_|aV) o L h;·cases h
   rw[kU] at h
   refine WC.b<|B2n U<|Lj U h (fun aW h=>?_)<|fun aW h=>?_
   ·refine WC.skip<|Lb<|WC.b<|WC.block<|cK h fun aG h=>Lw (fun i=>[17].contains i) [] U<|Lf 0 28 U (q_m U)<|Lf 1 29 U (q_m U)<|Lf 2 30 U (q_m U)<|L8 (j:=3) (dd:=31) (by kernel_rfl) U z2J z2K U U (Z:=Z) (Pr:=(rq wP)) z8h U U aF aG ?_
    rintro bF bG aX bH rfl
    refine Lf 4 32 U (xk uU U U)<|Li 5 33 U (xl xB U<|wy hz.pv aX U)<|Lf 6 34 U (q_m U)<|Lf 7 35 U (q_m U)<|L8 (j:=8) (dd:=36) (by kernel_rfl) U z2J z2K U U (Z:=Z) (Pr:=(rq wP)) z8h U U aF aG ?_
    rintro bI bJ aY bL rfl
    refine Lf 9 37 U (xk sI U U)<|Li 10 38 U (xl xB U<|wy hz.pv aY U)<|Lf 11 39 U (xU (v:=(.agg #[(vi<|(nth q o).ya),(vi<|(nth q o).fQ)])) (Lq (l:=[.tmp 33,.tmp 38]) (.r2 U U) [0,1]) (fun _=>by kernel_rfl))<|Lf 12 40 U (q_m U)<|Lf 13 41 U (q_m U)<|L8 (j:=14) (dd:=42) (by kernel_rfl) U z2J z2K U U (Z:=Z) (Pr:=(rq wP)) z8h U U aF aG ?_
    rintro bM bN aZ bO rfl
    exact Lf 15 43 U (xk oE U U)<|Li 16 44 U (xl xB U<|wy hz.pv aZ U)<|WD.jf (i:=17) U (by kernel_rfl) U U U (by kernel_rfl) (jE (k:=(⟨(nth q o).ya,(nth q o).fQ⟩:za)) (v:=((nth q o).yj)) ze3 underlying117 U U U U .h1)<|WD.done (by kernel_rfl)<|Lu<|Lb<|D3q U<|WL.nil<|WX.round ⟨aV,i64 (o-1),(xM L (⟨(nth q o).ya,(nth q o).fQ⟩:za)<|(nth q o).yj)⟩ h (Nat.lt_succ_self _) (.q U)<|.s2 .h1 .here
   ·exact WC.exit<|Ln<|Ln<|Lx<|Lp L h (.q U)<|.a2
  ·rintro g h
   replace h:=(aU g).symm.trans h
   refine B1n U<|jK1 h fun aN a0 h=>WC.qN (fun(M:List zo) (R:Option Addr) (S:Nat)=>(aN M=some r)) (fun M R S=>[(9,vs R M.length S)]) (fun M R S=>[row (vs R M.length S) 53 3 (M.flatMap vC)]) ?_ ?_
   ·let I:Value:=(vi (b.length:Int));refine B1q U<|Le 46 (xQ underlying32 U)<|Q1n U<|WC.block<|WC.nilRow 53 3<|WC.tz (fun(ag:Nat) (p:List zo) (a:Int) (N:Option Addr) (O:Nat)=>(kW b d g aN ag p a=some r)) (fun ag p a N O=>[(3,vp m),(7,(.map<|some n)),(9,vs N p.length O),(45,E),(46,I),(47,vi a)]) (fun ag p a N O=>[row (vs N p.length O) 53 3 (p.flatMap vC),stb m 31 A,xy n (ga xL) vI g]) (fun ag p a N O=>ag) ⟨xI,([]:List zo),0,none,0⟩ h (.q U) (.a3) ?_
    rintro(_|a1) p a N O h;·cases h
    rw[kW] at h
    refine B1n U<|WC.b<|Lj U h (fun a2 h=>?_)<|fun a2 h=>?_
    ·refine WC.skip<|Lb<|jK1 h fun a3 a4 h=>WC.qN (fun(y:List zo) (T:Option Addr) (V:Nat)=>(a3 y=some r)) (fun y T V=>[(3,vp m),(7,(.map<|some n)),(9,vs T y.length V),(45,E),(46,I),(47,vi a)]) (fun y T V=>[row (vs T y.length V) 53 3 (y.flatMap vC),stb m 31 A,xy n (ga xL) vI g]) ?_ ?_
     ·refine WC.block<|WC.b<|cK h fun a5 h=>D1q U<|L2 (dd:=50) U U (Z:=Z) (Pr:=(wT Z)) z4O U U aJ a5 ?_
      rintro bP bQ a6 bR ⟨a7,a8,rfl,aO⟩
      refine Le 51 (xl z9h U<|jS hz.pv a6 U)<|Q2n U<|WC.b<|Ld (Lg 52 (je vI<|Value.int .i64) fun W _=>Q1n U<|B1n U ?_)
      obtain⟨aP,a9,h⟩:=wv h
      let F:Value:=(vs N p.length O);refine WC.qN (fun(P:List zo) (X:Option Addr) (Y:Nat)=>(aP P=some r)) (fun P X Y=>[(3,vp m),(7,(.map<|some n)),(9,F),(13,vs X P.length Y),(45,E),(46,I),(47,vi a)]) (fun P X Y=>[row F 53 3 (p.flatMap vC),row (vs X P.length Y) 53 3 (P.flatMap vC),stb m 31 A,xy n (ga xL) vI g]) ?_ ?_
      ·let D:Value:=(vs a7 ((nth b a).length) a8);refine B1q U<|Le 54 (xQ underlying58 U)<|Q1n U<|WC.block<|WC.nilRow 53 3<|WC.pa (fun(ah:Nat) (s:List zo) (c:Int) (f:List (Int×Int)) (t:Option Addr) (x:Nat)=>(kV b a d g aP ah s c f=some r)) (fun ah s c f t x=>[(3,vp m),(7,(.map<|some n)),(9,F),(10,vi a),(11,D),(12,(.map<|some W)),(13,vs t s.length x),(45,E),(46,vi (b.length:Int)),(47,vi a),(53,D),(54,vi ((nth b a).length:Int)),(55,vi c)]) (fun ah s c f t x=>[row F 53 3 (p.flatMap vC),row (vs t s.length x) 53 3 (s.flatMap vC),stb m 31 A,xy n (ga xL) vI g,xy W vI vI f]) (fun ah s c f t x=>ah) ⟨xI,([]:List zo),0,([]:List (Int×Int)),none,0⟩ h (.q U) (.s5 .h2 .here .h1 .h1 .here) ?_
       rintro(_|ba) s c f t x h;·cases h
       rw[kV] at h
       refine B1n U<|WC.b<|Lj U h (fun bb h=>?_)<|fun bb h=>?_
       ·refine WC.skip<|Lb<|jK2 h fun bc bd h=>WC.rK (fun(z:List zo) (Q:List (Int×Int)) (ab:Option Addr) (ad:Nat)=>(bc z Q=some r)) (fun z Q ab ad=>[(3,vp m),(7,(.map<|some n)),(9,F),(10,vi a),(11,D),(12,(.map<|some W)),(13,vs ab z.length ad),(45,E),(46,vi (b.length:Int)),(47,vi a),(53,D),(54,vi ((nth b a).length:Int)),(55,vi c)]) (fun z Q ab ad=>[row F 53 3 (p.flatMap vC),row (vs ab z.length ad) 53 3 (z.flatMap vC),stb m 31 A,xy n (ga xL) vI g,xy W vI vI Q]) ?_ ?_
        ·refine WC.block<|WC.b<|cK h fun be h=>Ld<|L2 (dd:=57) U U (Z:=Z) (Pr:=(rq gk)) z8e U U aO be ?_
         rintro bf bS bg bT rfl
         refine Le 58 (xq z5R U (vY hz.pv bg) U) (Lg 15 (xC (cs:=[vi 0,vi 0,vi 0]) zc0 U) fun aQ _=>Lk U U (xx zaG U U U .here U U U)<|Q0n<|WC.b<|B1q U<|Le 61 (xk gR U U)<|Le 62 (xl xB U<|xu .here U)<|Le 63 (XK (k:=((nth (nth b a) c).yh)) (dflt:=(0:Int)) jR underlying148 qk U U U .h5)<|Q5n U<|WC.b ?_)
         obtain⟨bh,h⟩:=xv h
         let C:Value:=(.bool (qK f ((nth (nth b a) c).yh)));let H:Value:=(vi (xp f ((nth (nth b a) c).yh) 0));let J:=((nth b a).length:Int);let K:Value:=(vi ((nth (nth b a) c).yh));refine Lw nc [] U<|Lf 0 66 U (q_m U)<|Lf 1 67 U (q_m U)<|Kb (fuel':=0) [(3,vp m),(7,(.map<|some n)),(9,F),(10,vi a),(11,D),(12,(.map<|some W)),(13,vs t s.length x),(45,E),(46,I),(47,vi a),(53,D),(54,vi J),(55,vi c),(56,(.bool<|decide (c<J))),(57,vq bf),(58,.agg #[(vi<|(nth (nth b a) c).ya),K,(vi<|(nth (nth b a) c).fQ)]),(15,vp aQ),(60,(.map<|some W)),(61,(.pointer<|some ⟨aQ,1,none⟩)),(62,K),(63,.tuple #[H,C]),(59,.tuple #[H,C]),(64,H),(65,C),(16,H),(17,C),(66,C),(67,C),(75,.bool ((qK f<|(nth (nth b a) c).yh)||(decide (((nth (nth b a) c).yh)=((nth (nth b a) 0).ya)))))] (wm 10 (dn 10)) ?_<|fun aR=>?_
         rotate_left
         ·rcases Bool.eq_false_or_eq_true (qK f ((nth (nth b a) c).yh)) with hb' | hb'
          ·have aH:=hb';clear hb'
           refine L3 (i:=67) U aH<|Lo 2 68 U<|Lo 3 69 U<|Lo 4 70 U<|Lo 5 71 U<|Lo 6 72 U<|Lo 7 73 U<|Lo 8 74 U<|Lf 9 75 U (jI U U)<|Lt (.a6) ?_ aR
           exact .r29 U U U U U U U U U U U U U U U U U U U U U U U U U U U (zL<|Eq.symm aH)<|zL<|uz aH
          ·have ai:=hb';clear hb'
           have bi:=bh ai
           refine L3 (i:=67) U ai<|Lf 2 68 U (xk gR U U)<|Li 3 69 U (xl xB U<|xu .here U)<|Lf 4 70 U (q_m U)<|L8 (j:=5) (dd:=71) (by kernel_rfl) U z2J z2K U U (Z:=Z) (Pr:=(rq gk)) z8e U U aO bi ?_
           rintro bU bV bj bW rfl
           refine Lf 6 72 U (xk km U U)<|Li 7 73 U (xl xB U<|wy hz.pv bj U)<|Lf 8 74 U (l4 U U)<|Lf 9 75 U (jJ U U)<|Lt (.a6) ?_ aR
           exact .r29 U U U U U U U U U U U U U U U U U U U U U U U U U U U (zL<|Eq.symm ai)<|zL<|uA ai
         refine WD.done (by kernel_rfl)<|Lb<|Lj U h (fun bk h=>?_)<|fun bk h=>?_
         ·exact WC.exit<|Ln<|Lx<|Lp ⟨s,f,t,x⟩ h (.q U)<|.s5 .h1 .h1 .h1 .h1 .h1
         ·refine WC.skip<|Lb<|WC.b<|bK h fun ae bl h=>Lw (fun i=>[12].contains i) [] U<|Lf 0 76 U (q_m U)<|Lf 1 77 U (xk gR U U)<|Li 2 78 U (xl xB U<|xu .here U)<|Lf 3 79 U (q_m U)<|Lf 4 80 U (xk km U U)<|Li 5 81 U (xl xB U<|xu .here U)<|Li 6 82 U (qz (k:=((nth (nth b a) c).ya)) (dflt:=(0:Int)) jR underlying148 qk U U U .h5)<|Lf 7 83 U (q_m U)<|Li 8 84 U (xq z5R U (xt .here) U)<|L5 9 85 U (zf call60<|.cons U .nil) (cc hz .nil fun w pz ho=>fu _ _ _ bl w pz )<|Li 10 86 U (qz (k:=ae) (dflt:=(0:Int)) ze3 underlying117 qk U U U .h4)<|Lf 11 87 U (tR U U U)<|WD.jf (i:=12) U (by kernel_rfl) U U U (by kernel_rfl) (jE (k:=((nth (nth b a) c).yh)) (v:=i64 ((xp f ((nth (nth b a) c).ya) 0)+(xp g ae 0))) jR underlying148 U U U U .h5)<|WD.done (by kernel_rfl)<|Lb<|B0q<|Le 88 (xk gR U U)<|Le 89 (xl xB U<|xu .h1 U)<|Q2q U<|Ly true 6 91 (B:=(decide (((nth (nth b a) c).yh)>=0))&&(decide (((nth (nth b a) c).yh)<d.fM.length))) U U U U U U (fun h=>(kb h).symm) (fun _ bm=>?_) ?_
          ·exact Le 92 (xk gR U U)<|Le 93 (xl xB U<|xu .h1 U)<|Le 94 (xk uc U U)<|Le 95 (xl zaF U<|xu .h4 U)<|Le 96 (xQ underlying22 U)<|Q2q U<|Lz (kc bm) U U .all
          refine Q0n<|Lj U h (fun bn h=>?_)<|fun bn h=>?_
          ·refine cK h fun bo h=>D2q U<|Le 101 (xk gR U U)<|Le 102 (xl xB U<|xu .h1 U)<|La U<|Le 104 (xk gR U U)<|Le 105 (xl xB U<|xu .h1 U)<|Le 106 (qz (k:=((nth (nth b a) c).yh)) (dflt:=(0:Int)) jR underlying148 qk U U U .here)<|Le 107 (xU (v:=(.agg #[vi a,(vi<|(nth (nth b a) c).yh),(vi<|xp (xM f ((nth (nth b a) c).yh)<|i64 ((xp f ((nth (nth b a) c).ya) 0)+(xp g ae 0))) ((nth (nth b a) c).yh) 0)])) (Lq (l:=[.tmp 100,.tmp 102,.tmp 106]) (.r3 U U U) [0,1,2]) (fun _=>by kernel_rfl))<|Lg 108 (xV (cs:=([(⟨a,(nth (nth b a) c).yh,xp (xM f ((nth (nth b a) c).yh)<|i64 ((xp f ((nth (nth b a) c).ya) 0)+(xp g ae 0))) ((nth (nth b a) c).yh) 0⟩:zo)]:List zo).flatMap vC) zil (Lq (l:=[.tmp 107]) (.cons U .nil) [0]) (fun _=>by kernel_rfl) U (by unfold maxLen;omega)) ?_
           intro bX _
           let G:=(i64 ((xp f ((nth (nth b a) c).ya) 0)+(xp g ae 0)));refine WL.fA 109 (kZ (enc:=vC) (l1:=s) (l2:=([(⟨a,(nth (nth b a) c).yh,xp (xM f ((nth (nth b a) c).yh) G) ((nth (nth b a) c).yh) 0⟩:zo)]:List zo)) zil U U .h4 (fun _=>U) U U (qg .here) (gr aa _) bo) ?_
           rintro⟨bp,bq⟩ _
           exact La U<|WL.nil<|Lu<|Lp ⟨s++([(⟨a,(nth (nth b a) c).yh,xp (xM f ((nth (nth b a) c).yh) G) ((nth (nth b a) c).yh) 0⟩:zo)]:List zo),xM f ((nth (nth b a) c).yh) G,bp,bq⟩ h (.q U)<|.s5 .h4 .here .h3 .h3 .h1
          ·exact WC.skip<|Lu<|Lp ⟨s,(xM f ((nth (nth b a) c).yh)<|i64 ((xp f ((nth (nth b a) c).ya) 0)+(xp g ae 0))),t,x⟩ h (.q U)<|.s5 .h2 .h2 .h2 .h2 .here
        ·rintro z Q ab ad h
         replace h:=(bd z Q).symm.trans h
         exact D2q U<|WL.nil<|WX.round ⟨ba,z,i64 (c+1),Q,ab,ad⟩ h (Nat.lt_succ_self _) (.q U)<|.a5
       ·exact WC.exit<|Ln<|Ln<|Lx<|Lp ⟨s,t,x⟩ h (.q U)<|.a4
      ·rintro P X Y h
       replace h:=(a9 P).symm.trans h
       refine WC.b<|bK h fun aI br h=>D1q U<|WL.gj (dd:=112) U U U (zf call61<|.r2 U U) (.cons .h1 .nil) (cc hz (.cons .h1 .nil) fun w pz ho=>tu _ _ _ (zkO:=62) (zrh:=[]) _ (zkN:=(fun(y0:zo) (y1:zo)=>jd y0 y1)) _ br w pz call62 (fun w' il y0 y1  r  hr=>eB _ _ _ _ hr w' il ) ho) ?_
       rintro  bs
       refine Ke (i:=13) U (u:=(vs X aI.length Y)) (ue bs.symm)<|Q0n<|cK h fun bt h=>D2q U<|WL.fA 115 (kZ (enc:=vC) (l1:=p) (l2:=aI) zil U U .h1 (fun _=>U) U U (qg .here) (gr aa _) bt) ?_
       rintro⟨bu,bv⟩ _
       exact La U<|WL.nil<|Lu<|Lp ⟨p++aI,bu,bv⟩ h (.q U)<|.s3 .here .h1 .h1
     ·rintro y T V h
      replace h:=(a4 y).symm.trans h
      exact D2q U<|WL.nil<|WX.round ⟨a1,y,i64 (a+1),T,V⟩ h (Nat.lt_succ_self _) (.q U)<|.a3
    ·exact WC.exit<|Ln<|Ln<|Lx<|Lp ⟨p,N,O⟩ h (.cons U .nil)<|.cons .here .nil
   ·rintro M R S h
    replace h:=(a0 M).symm.trans h
    refine B2n U<|WC.ret ?_
    obtain rfl:=oJ h
    exact Lh results28 (.tmp U .nil)<|fun w hw=>⟨R,S,xK U,trivial,hw.sub (.cons .here .nil)⟩
def qw(c:List za×Int)(g:zt)(e:List (List zd))(f:(List yl)->Option (yz×Int)):Nat->Int->Int->(List yl)->(List (zT×z1))->(List (za×Int))->Option (yz×Int)
 | 0,_,_,_,_,_=>none
 | h+1,b,i,d,j,k=>if decide (b<c.1.length) then chk (0<=b/\b<c.1.length) ((gJ g e j k i (⟨(nth c.1 b).ya,(nth c.1 b).fQ⟩:za)).bind fun a=>chk (((d++([a.1]:List yl)).length:Int)*32<=140737488355328/\((d++([a.1]:List yl)).length:Int)<=4611686018427387904) (if decide (a.2.1≠0) then some ((⟨([]:List yl),([]:List zo)⟩:yz),a.2.1) else qw c g e f h (i64 (b+1)) a.2.1 (d++([a.1]:List yl)) a.2.2.1 a.2.2.2)) else f d
def fO(b:zt)(e:Int)(a:List (List zd)):Option (yz×Int):=
 (kf b e a).bind fun f=>if !f then some ((⟨([]:List yl),([]:List zo)⟩:yz),310) else(vz b.yb (fun(y0:z6)=>qO y0)).bind fun g=>if g then some ((⟨([]:List yl),([]:List zo)⟩:yz),350) else(gE a).bind fun c=>if decide (c.2≠0) then some ((⟨([]:List yl),([]:List zo)⟩:yz),c.2) else jG (fun(h:List yl)=>(xY h (fun(y0:yl) (y1:yl)=>vG y0 y1)).bind fun d=>(mu b a d).bind fun i=>some ((⟨d,i⟩:yz),0)) fun j=>qw c b a j xI 0 0 ([]:List yl) ([]:List (zT×z1)) ([]:List (za×Int))
theorem dx(Z:Zp)(Q:Option Addr)(R:Nat)(S:Option Addr)(T:Nat)(V:Option Addr)(W:Nat)(X:Option Addr)(Y:Nat)(aa:Option Addr)(ab:Nat)(ad:Option Addr)(ae:Nat)(af:Option Addr)(ag:Nat)(ah:Option Addr)(ai:Nat)(aj:Option Addr)(ak:Nat)(a:zt)(av:Int)(s:List (List zd))(r:yz×Int)(h:fO a av s=some r)(w₀:World)(hz:PZ [] w₀ Z)(al:ZS Z 4 (ju Z) Q R a.fM)(am:ZS Z 4 (kv Z) S T a.yd)(an:ZS Z 4 (rq qJ) V W a.fS)(ao:ZS Z 4 (rq qt) X Y a.fK)(z:ZS Z 7 (vK Z) aa ab a.yb)(ap:ZS Z 5 (rq kK) ad ae a.fH)(aq:ZS Z 3 (kw Z) af ag a.fU)(ar:ZS Z 4 (rq kL) ah ai a.yc)(B:ZS Z 1 (wT Z) aj ak s):
  Calls Tryz.prog 18 #[.agg #[vs Q a.fM.length R,vs S a.yd.length T,vs V a.fS.length W,vs X a.fK.length Y,vs aa a.yb.length ab,vs ad a.fH.length ae,vs af a.fU.length ag,vs ah a.yc.length ai],vi av,vs aj s.length ak] w₀ fun e w'=>∃ aw:Option Addr,∃ ax:Nat,∃ ay:Option Addr,∃ az:Nat,e = .returned (.tuple #[.agg #[vs aw r.1.fP.length ax,vs ay r.1.yi.length az],vi r.2])/\True/\Hp [] w₀ w' [row (vs aw r.1.fP.length ax) 37 4 (r.1.fP.flatMap wP),row (vs ay r.1.yi.length az) 53 3 (r.1.yi.flatMap vC)]:=by
 unfold fO at h
 refine Kc func18 ntmps18 ?_
 let D:Value:=(vs Q a.fM.length R);let E:Value:=(vs S a.yd.length T);let F:Value:=(vs V a.fS.length W);let G:Value:=(vs X a.fK.length Y);let H:Value:=(vs aa a.yb.length ab);let I:Value:=(vs ad a.fH.length ae);let J:Value:=(vs af a.fU.length ag);let K:Value:=(vs ah a.yc.length ai);let A:List Value:=[D,E,F,G,H,I,J,K];refine B0q<|Lg 3 (xP (cs:=A) U U) ?_
 intro M _
 refine Lg 6 (xC (cs:=[vn,vn]) z6o U) fun N _=>Q1n U<|WC.b<|WC.b<|bK h fun a1 aG h=>Ld<|Le 14 (xq z2j U (xt .h1) U)<|Q2q U<|Lm 17 (zf call22<|.r3 U U U) .nil (cc hz .nil fun w pz ho=>uo _ _ _ _ _ _ _ _ _ _ _ _ _ _ _ _ _ _ _ _ _ _ _ aG w pz al am an ao z ap aq ar B)<|Q1n U<|Lj U h (fun aH h=>?_)<|fun aH h=>?_
 ·refine B0q<|Le 19 (xU (v:=(.agg #[vn,vn])) (Lq (l:=[]) .nil []) (fun _=>by kernel_rfl))<|Lk U U (xx z6q U U U .here U U U)<|Q1n U<|WC.ret<|Ll<|WX.nilRow 37 4<|WX.nilRow 53 3 ?_
  obtain rfl:=oJ h
  exact Lh results18 (.agg U z8i U (xt .h2)<|.tmp U .nil)<|fun w hw=>⟨none,0,none,0,vg U U,trivial,hw.sub (.s2 .h1 .here)⟩
 ·refine WC.skip<|Lb<|WC.b<|WC.b<|bK h fun a2 aI h=>Ld<|Le 20 (xk jK U U)<|Le 21 (xl z6n U<|xu .h1 U)<|Lm 22 (zf call39<|.r2 U U) .nil (cc hz .nil fun w pz ho=>uW _ _ _ (zj6:=40) (zpK:=[]) _ (zj5:=(fun(y0:z6)=>qO y0)) _ aI w pz z call40<|fun w' il y0 ga0 gc0 r C0 hr=>cW _ _ _ _ _ hr w' il C0)<|Q0n<|Lj U h (fun aJ h=>?_)<|fun aJ h=>?_
  ·refine B0q<|Le 23 (xU (v:=(.agg #[vn,vn])) (Lq (l:=[]) .nil []) (fun _=>by kernel_rfl))<|Lk U U (xx z6q U U U .here U U U)<|Q1n U<|WC.ret<|Ll<|WX.nilRow 37 4<|WX.nilRow 53 3 ?_
   obtain rfl:=oJ h
   exact Lh results18 (.agg U z8i U (xt .h2)<|.tmp U .nil)<|fun w hw=>⟨none,0,none,0,vg U U,trivial,hw.sub (.s2 .h1 .here)⟩
  ·refine WC.skip<|Lb<|WC.b<|bK h fun n aK h=>D1q U<|WL.kY (dd:=26) U U U (zf call42<|.cons U .nil) .nil (cc hz .nil fun w pz ho=>lZ _ _ _ _ _ aK w pz B) ?_
   rintro aL aM _
   refine Q5n U<|WC.b<|B2n U<|Lj U h (fun aN h=>?_)<|fun aN h=>?_
   ·refine B0q<|Le 31 (xU (v:=(.agg #[vn,vn])) (Lq (l:=[]) .nil []) (fun _=>by kernel_rfl))<|La U<|Lk U U (xx z6q U U U .h1 U U U)<|Q1n U<|WC.ret<|Ll<|WX.nilRow 37 4<|WX.nilRow 53 3 ?_
    obtain rfl:=oJ h
    exact Lh results18 (.agg U z8i U (xt .h2)<|.tmp U .nil)<|fun w hw=>⟨none,0,none,0,vg U U,trivial,hw.sub (.s2 .h1 .here)⟩
   ·refine WC.skip<|Lb<|B0q<|Le 33 (xq z2j U (xt .h2) U)<|La U (Lg 35 (je (ga qu)<|fun x=>Value.agg (xG x).toArray) fun O _=>Lg 36 (je (ga xL)<|Value.int .i64) ?_)
    intro P _
    let C:Value:=(vs aj s.length ak);refine Le 37 (xU (v:=(.agg #[D,E,F,G,H,I,J,K,C,(.map<|some O),(.map<|some P),vi 0])) (Lq (l:=[.tmp 33,.tmp 34,.tmp 35,.tmp 36,.const (vi 0)]) (.r5 U U U U U) [0,1,2,3,4]) (fun _=>by kernel_rfl))<|Lg 38 (xP (cs:=[D,E,F,G,H,I,J,K,C,(.map<|some O),(.map<|some P),vi 0]) U U) ?_
    intro au _
    refine Q1n U<|WC.b<|Ld (Lg 11 (xC (cs:=[vn,vn]) z6o U) fun t _=>Q0n ?_)
    refine jK1 h fun aA aO h=>WC.qN (fun(d:List yl) (f:Option Addr) (g:Nat)=>(aA d=some r)) (fun d f g=>[(2,C),(3,vp M),(6,vp N),(11,vp t)]) (fun d f g=>[stb M 31 A,stb N 40 [vn,vn],stb t 40 [vs f d.length g,vn],row (vs f d.length g) 37 4 (d.flatMap wP)]) ?_ ?_
    ·let L:Value:=(vs aL n.1.length aM);refine B1q U<|Le 40 (xQ underlying112 U)<|Q1n U<|WC.block<|WC.nilRow 37 4<|WC.pb (fun(u:Nat) (c:Int) (o:Int) (b:List yl) (p:List (zT×z1)) (q:List (za×Int)) (j:Option Addr) (k:Nat)=>(qw n a s aA u c o b p q=some r)) (fun u c o b p q j k=>[(2,C),(3,vp M),(6,vp N),(10,vp au),(11,vp t),(39,L),(40,vi (n.1.length:Int)),(41,vi c)]) (fun u c o b p q j k=>[row L 121 2 (n.1.flatMap xL),stb M 31 A,stb N 40 [vn,vn],stb au 119 [D,E,F,G,H,I,J,K,C,(.map<|some O),(.map<|some P),vi o],stb t 40 [vs j b.length k,vn],row (vs j b.length k) 37 4 (b.flatMap wP),xy O (ga qu) (ga xG) p,xy P (ga xL) vI q]) (fun u c o b p q j k=>u) ⟨xI,0,0,([]:List yl),([]:List (zT×z1)),([]:List (za×Int)),none,0⟩ h (.q U) (.s8 .h5 .h6 .h5 .h2 .h1 .here .h1 .here) ?_
     rintro(_|aP) c o b p q j k h;·cases h
     rw[qw] at h
     refine B1n U<|WC.b<|Lj U h (fun aQ h=>?_)<|fun aQ h=>?_
     ·refine WC.skip<|Lb<|WC.b<|WC.block<|WC.b<|cK h fun y h=>Ld<|Kf (fun w hw=>Hp.vJ .here hw (by intro il;have:=y;rw[il] at this;omega)) ?_
      rintro⟨aY,rfl⟩
      refine Le 43 (w7 z8f U U y.1 y.2 qQ)<|Le 44 (wp (cs:=(xL<|nth n.1 c)) z6p U U<|gq .here<|jb (enc:=xL) (l:=n.1) (i:=c) (sz:=2) (fun _=>U) y.1 y.2) (Lg 13 (xC (cs:=[vi 0,vi 0]) zlN U) fun aZ _=>Lk U U (xx zoZ U U U .here U U U)<|Q0n<|WC.b ?_)
      refine bK h fun m aR h=>cK h fun aS h=>Lw (fun i=>[4,6,8].contains i) [uE t 40 [(0,vs j b.length k)]] U<|Lf 0 45 U (xk g9 U U)<|L6 1 46 U (ws.wk (.cons .h5 .nil)<|.stb (.cons U .nil) .nil) (xl z7H U<|gQ .here<|.head _)<|Lf 2 47 U (q_m U)<|Li 3 48 U (xq z6p U (xt .here) U) (WD.call0 (i:=4) (dd:=49) U (by kernel_rfl) U U U (.inl ⟨U,(ws.wk (.cons .h7 .nil)<|.stb (.cons U .nil) .nil)⟩) (zf call43<|.r2 U U) (.s3 .h4 .h6 .h6) (cc hz (.s3 .h4 .h6 .h6) fun w pz ho=>Calls.mono (cY _ _ _ _ _ _ _ _ _ _ _ _ _ _ _ _ _ _ _ _ _ _ _ _ _ _ _ _ _ aR w pz al am an ao z ap aq ar B ho)<|fun _ _ h'=>⟨h'.1,trivial,h'.2⟩) fun _=>WD.new (i:=5) (dd:=50) U (by kernel_rfl) U U U (xV (cs:=([m.1]:List yl).flatMap wP) z8h (Lq (l:=[.tmp 49]) (.cons U .nil) [0]) (fun _=>by kernel_rfl) U (by unfold maxLen;omega)) (fun h'=>absurd h' (by decide)) fun a0 _=>WD.old (i:=6) (dd:=51) U (by kernel_rfl) U U U U (fun _=>(ws.wk (.cons (.there<|.there .h7) .nil)<|.stb (.cons U .nil) .nil)) (kZ (enc:=wP) (l1:=b) (l2:=([m.1]:List yl)) z8h U U (.there<|.there .h7) (fun _=>U) U U (qg .here) (gr di _) aS) ?_)
      rintro⟨aB,aC⟩ _
      refine Lf 7 52 U (xk g9 U U)<|WD.jf (i:=8) U (by kernel_rfl) U U U (by kernel_rfl) (jU (ds:=[vs aB ((b++([m.1]:List yl)).length) aC,vn]) zAK U U U U U (.there<|.there .h7) U U)<|WD.done (by kernel_rfl)<|Lb<|B1q U<|Le 54 (wx U)<|Le 55 (xk sF U U)<|Le 56 (xl z5S U<|xu .h3 U)<|Q1n U<|Lj U h (fun aT h=>?_)<|fun aT h=>?_
      ·refine WC.b<|Lw (fun i=>[5].contains i) [uE au 119 [(11,vi m.2.1)]] U<|Lf 0 58 U (xU (v:=(.agg #[vn,vn])) (Lq (l:=[]) .nil []) (fun _=>by kernel_rfl))<|Lf 1 59 U (q_m U)<|Lf 2 60 U (wx U)<|Lf 3 61 U (xk sF U U)<|L6 4 62 U (ws.wk (.cons .h3 .nil)<|.stb (.cons U .nil) .nil) (xl z5S U<|gQ .here<|.head _)<|WD.forced0 (i:=5) U (by kernel_rfl) U U U (ws.wk (.cons .h4 .nil)<|.stb (.cons U .nil) .nil) (xx z6q U U U (.there<|.there .h7) U U U)<|Lf 6 7 U (q_z U)<|WD.done (by kernel_rfl)<|Lb<|WC.ret<|Lv<|Ll<|Ll<|Lv<|Ll<|WX.nilRow 37 4<|WX.nilRow 53 3 ?_
       obtain rfl:=oJ h
       exact Lh results18 (.agg U z8i U (xt .h2)<|.tmp U .nil)<|fun w hw=>⟨none,0,none,0,vg U U,trivial,hw.sub (.s2 .h1 .here)⟩
      ·exact WC.skip<|Lu<|Lb<|D2q U<|WL.nil<|WX.round ⟨aP,i64 (c+1),m.2.1,b++([m.1]:List yl),m.2.2.1,m.2.2.2,aB,aC⟩ h (Nat.lt_succ_self _) (.q U)<|.s8 .h7 .h7 .h7 .h3 .here .here .h1 .h1
     ·exact WC.exit<|Ln<|Ln<|Lx<|Lp ⟨b,j,k⟩ h (.q U)<|.s4 .h1 .h1 .h2 .h2
    ·rintro d f g h
     replace h:=(aO d).symm.trans h
     refine WC.b<|bK h fun aD aU h=>Ld<|Le 64 (xk g9 U U)<|Le 65 (xl z7H U<|xu .h2 U)<|WL.gj (dd:=66) U U U (zf call26<|.r2 U U) (.cons .h3 .nil) (cc hz (.cons .h3 .nil) fun w pz ho=>kj _ _ _ (zhF:=44) (zo6:=[]) _ (zhE:=(fun(y0:yl) (y1:yl)=>vG y0 y1)) _ aU w pz call44 (fun w' il y0 y1  r  hr=>cZ _ _ _ _ hr w' il ) ho) ?_
     rintro  aV
     refine WL.restb (cs':=[vs f aD.length g,vn]) .h3 (by rw[aV])<|Q0n<|WC.b<|bK h fun aW aX h=>Ld<|Le 67 (xq z2j U (xt .h2) U)<|La U<|Le 69 (xk g9 U U)<|Le 70 (xl z7H U<|xu .here U)<|WL.kY (dd:=71) U U U (zf call28<|.r3 U U U) .nil (sX hz .nil (.cons .h1 .nil) fun w pz ho la=>iU _ _ _ _ _ _ _ _ _ _ _ _ _ _ _ _ _ _ _ _ _ _ _ _ _ aX w pz ((al.mono<|zl).weak (fun _ _ h=>w3 zl h)) ((am.mono<|zl).weak (fun _ _ h=>w9 zl h)) (an.mono<|zl) (ao.mono<|zl) ((z.mono<|zl).weak (fun _ _ h=>wh zl h)) (ap.mono<|zl) ((aq.mono<|zl).weak (fun _ _ h=>wa zl h)) (ar.mono<|zl) ((B.mono<|zl).weak (fun _ _ h=>wd zl h))<|ZA.row (la _ (.head _) _) (RR.flat (enc:=wP) (fun _=>U) _) ⟨w,pz.1⟩) ?_
     rintro aE aF _
     refine Le 72 (xk tK U U)<|Lk U U (jU (ds:=[vs f aD.length g,vs aE aW.length aF]) zAL U U U U U .h1 U U)<|Q0n<|B0q<|Le 73 (xq z8i U (xt .here) U)<|Lk U U (xx z6q U U U .h4 U U U)<|Q1n U<|WC.ret ?_
     obtain rfl:=oJ h
     exact Lh results18 (.agg U z8i U (xt .here)<|.tmp U .nil)<|fun w hw=>⟨f,g,aE,aF,vg U U,trivial,hw.sub (.s2 .h3 .h2)⟩
def qM(b:List (Int->Option Int))(c:Int)(d:Int->Option Int):Nat->Int->Int->Option Int
 | 0,_,_=>none
 | f+1,e,a=>if decide (a<b.length) then chk (0<=a/\a<b.length) (((nth b a) c).bind fun g=>qM b c d f (i64 (e+g)) (i64 (a+1))) else d e
def ti(a:List (Int->Option Int))(b:Int):Option Int:=
 jG (fun(c:Int)=>some c) fun d=>qM a b d xI 0 0
theorem hI(Z:Zp)(i:Option Addr)(j:Nat)(c:List (Int->Option Int))(e:Int)(r:Int)(h:ti c e=some r)(w₀:World)(hz:PZ [] w₀ Z)(n:ZS Z 1 (ff Z) i j c):
  RC 55 #[vs i c.length j,vi e] w₀ (vi r) [] []:=by
 unfold ti at h
 refine L0 func55 ntmps55 ?_
 refine B1n U<|B1n U<|jK1 h fun k o h=>WC.jh (fun(d:Int)=>(k d=some r)) (fun d=>[(5,vi d)]) (fun d=>[]) ?_ ?_
 ·refine B1q U<|Le 9 (xQ underlying140 U)<|Q1n U<|WC.block<|WC.p9 (fun(g:Nat) (a:Int) (b:Int)=>(qM c e k g a b=some r)) (fun g a b=>[(1,vi e),(5,vi a),(8,vs i c.length j),(9,vi (c.length:Int)),(10,vi b)]) (fun g a b=>[]) (fun g a b=>g) ⟨xI,0,0⟩ h (.q U) .nil ?_
  rintro(_|p) a b h;·cases h
  rw[qM] at h
  refine B1n U<|WC.b<|Lj U h (fun q h=>?_)<|fun q h=>?_
  ·refine WC.skip<|Lb<|WC.b<|WC.block<|WC.b<|cK h fun s h=>Ld<|L2 (dd:=12) U U (Z:=Z) (Pr:=(ff Z)) zlS U U n s ?_
   rintro A B t C ⟨u,v,rfl,x,y⟩
   exact Le 13 (xl zJk U<|jS hz.pv t U)<|Q1n U<|bK h fun m z h=>D3q U<|Lm 17 (qp (l:=[.tmp 16]) (f:=u) (caps:=v) x U<|.cons U .nil) .nil (fun w hw=>y w (hz.now hw) e m  z)<|Q2q U<|WL.nil<|Lu<|Lb<|D2q U<|WL.nil<|WX.round ⟨p,i64 (a+m),i64 (b+1)⟩ h (Nat.lt_succ_self _) (.q U) .nil
  ·exact WC.exit<|Ln<|Ln<|Lx<|Lp a h (.cons U .nil) .nil
 ·rintro d h
  replace h:=(o d).symm.trans h
  refine B2n U<|WC.ret ?_
  obtain rfl:=oJ h
  exact Lh results55 (.tmp U .nil)<|fun w hw=>⟨xK U,hw.sub .nil⟩
def uN:List (Int->Option Int)->Int->Int->Option Int
 | [],_,s=>some s
 | f::l,t,s=>(f t).bind fun x=>uN l t (i64 (s+x))
theorem bd(a b:Int):i64 (i64 a+b)=i64 (a+b):=by
 unfold i64 IntKind.wrap
 simp only[IntKind.signed,IntKind.bits]
 simp
 omega
theorem XZ{t:Int}{l l':List (Int->Option Int)}(h:l.Perm l'):∀ {s:Int},uN l t s=uN l' t s:=by
 induction h with
 | nil=>intro s;rfl
 | cons f _ ih=>intro s;rw[uN,uN];cases f t with
  | none=>rfl
  | some x=>exact ih
 | swap f g l=>
  intro s
  rw[uN,uN]
  cases hf:f t with
  | none=>
   cases hg:g t with
   | none=>rfl
   | some y=>simp only[oB,Option.bind_none,uN,hf]
  | some x=>
   cases hg:g t with
   | none=>simp only[oB,Option.bind_none,uN,hg]
   | some y=>
    simp only[oB,uN,hf,hg]
    rw[bd,bd,show s+y+x=s+x+y by omega]
 | trans _ _ ih1 ih2=>intro s;exact ih1.trans ih2
theorem dy{l:List (Int->Option Int)}{t:Int}{k:Int->Option Int}(hl:l.length<=4611686018427387904):∀(n:Nat) (s v:Int),0<=v->v<=l.length->l.length<n+v->qM l t k n s v=(uN (l.drop v.toNat) t s).bind k
 | 0,s,v,h0,h1,h2=>by omega
 | n+1,s,v,h0,h1,h2=>by
  rw[qM]
  by_cases h:v<l.length
  ·rw[if_pos (decide_eq_true h),xA ⟨h0,h⟩,List.drop_eq_getElem_cons (show v.toNat<l.length by omega),uN]
   have e:nth l v=l[v.toNat]'(by omega):=by unfold nth;simp[show v.toNat<l.length by omega]
   rw[e]
   cases (l[v.toNat]'(by omega)) t with
   | none=>rfl
   | some x=>
    rw[oB,oB,xD (x:=v+1) (by omega),dy hl n _ (v+1) (by omega) (by omega) (by omega),show(v+1).toNat=v.toNat+1 by omega]
  ·rw[if_neg (by simpa using h),List.drop_eq_nil_of_le (by omega)];rfl
theorem W0{l:List (Int->Option Int)}{t:Int}(hl:l.length<=4611686018427387904):ti l t=uN l t 0:=by
 show qM l t (fun s=>some s) xI 0 0=_
 rw[dy hl xI 0 0 (by omega) (by omega) (by rw[show xI=18446744073709551616 from U];omega)]
 simp
def vB(l:List (Int->Option Int))(t:Int):Option Int:=chk (l.length<=4611686018427387904) (uN l t 0)
theorem mN(Z:Zp)(ao:Option Addr)(cap:Nat)(l:List (Int->Option Int))(t:Int)(r:Int)(h:vB l t=some r)(w₀:World)(hz:PZ [] w₀ Z)(hs:dg Z (ff Z) ao cap l):
  RC 55 #[vs ao l.length cap,vi t] w₀ (vi r) [] []:=by
 obtain⟨l',hp,hs⟩:=hs
 obtain⟨hb,h⟩:=xv h
 rw[<- hp.length_eq] at hb ⊢
 exact hI _ _ _ _ _ _ ((W0 hb).trans ((XZ hp).trans h)) w₀ hz hs
def kF(zhO:Int)(zax:Int)(zhP:List (Int->Option Int))(zof:List (Int×Int))(z4H:zt):Option Int:=
 if decide (zax<0) then(vB zhP zhO).bind fun a=>some a else(vB zhP zhO).bind fun b=>chk (0<=zax/\zax<z4H.fK.length) (chk ((((nth z4H.fK zax).yp):Int)≠0) (some (min b (i64 ((xp zof zax 0)+(i64 (Int.tdiv zhO ((nth z4H.fK zax).yp))))))))
theorem oO(Z:Zp)(zyG:Addr)(zyH:Addr)(zyI:Option Addr)(zyJ:Nat)(zyK:Addr)(zyL:Nat)(zyM:Addr)(zyN:Option Addr)(zyO:Nat)(zyP:Option Addr)(zyQ:Nat)(zyR:Option Addr)(zyS:Nat)(zyT:Option Addr)(zyU:Nat)(zyV:Option Addr)(zyW:Nat)(zyX:Option Addr)(zyY:Nat)(zyZ:Option Addr)(zz0:Nat)(zz1:Option Addr)(zz2:Nat)(zhO:Int)(zax:Int)(zhP:List (Int->Option Int))(zof:List (Int×Int))(z4H:zt)(r:Int)(h:kF zhO zax zhP zof z4H=some r)(w₀:World)(hz:PZ [] w₀ Z)(hmW:ZA Z (xy zyL vI vI zof))(zrr:ZC Z zyG [vi zax])(zz3:dg Z (ff Z) zyI zyJ zhP)(zz4:ZC Z zyH [vs zyI zhP.length zyJ])(zHe:ZC Z zyK [.map (some zyL)])(zXT:ZS Z 4 (ju Z) zyN zyO z4H.fM)(zXU:ZS Z 4 (kv Z) zyP zyQ z4H.yd)(zXV:ZS Z 4 (rq qJ) zyR zyS z4H.fS)(zHf:ZS Z 4 (rq qt) zyT zyU z4H.fK)(zXW:ZS Z 7 (vK Z) zyV zyW z4H.yb)(zXX:ZS Z 5 (rq kK) zyX zyY z4H.fH)(zXY:ZS Z 3 (kw Z) zyZ zz0 z4H.fU)(zXZ:ZS Z 4 (rq kL) zz1 zz2 z4H.yc)(zHg:ZC Z zyM [vs zyN z4H.fM.length zyO,vs zyP z4H.yd.length zyQ,vs zyR z4H.fS.length zyS,vs zyT z4H.fK.length zyU,vs zyV z4H.yb.length zyW,vs zyX z4H.fH.length zyY,vs zyZ z4H.fU.length zz0,vs zz1 z4H.yc.length zz2]):
  RC 99 #[vi zhO,vq zyG,vq zyH,vq zyK,vq zyM] w₀ (vi r) [] []:=by
 unfold kF at h
 refine Calls.on5 func99 ntmps99 ?_
 refine B1n U<|WC.b<|B0q<|Le 7 (xl xB U<|jS hz.pv zrr U)<|Q1n U<|Lj U h (fun a h=>?_)<|fun a h=>?_
 ·refine WC.b<|bK h fun m b h=>Ld<|Le 9 (xl zAM U<|jS hz.pv zz4 U)<|La U<|Lm 11 (zf call55<|.r2 U U) .nil (cc hz .nil fun w pz ho=>mN _ _ _ _ _ _ b w pz zz3)<|Q1n U<|WC.ret<|Ll ?_
  obtain rfl:=oJ h
  exact Lh results99 (.tmp U .nil)<|fun w hw=>⟨xK U,hw.sub .nil⟩
 ·refine WC.skip<|Lb<|WC.b<|bK h fun n c h=>cK h fun d h=>cK h fun e h=>Lw nc [] U<|Li 0 12 U (xl zAM U<|jS hz.pv zz4 U)<|Lf 1 13 U (q_m U)<|L5 2 14 U (zf call55<|.r2 U U) (cc hz .nil fun w pz ho=>mN _ _ _ _ _ _ c w pz zz3)<|Li 3 15 U (xl zsY U<|jS hz.pv zHe U)<|Li 4 16 U (xl xB U<|jS hz.pv zrr U)<|Li 5 17 U (XT (k:=zax) (dflt:=(0:Int)) jR underlying148 qk U U U hz.pv hmW)<|Lf 6 18 U (q_m U)<|Lf 7 19 U (xk uT U U)<|Li 8 20 U (xl zbZ U<|wy hz.pv zHg U)<|Li 9 21 U (xl xB U<|jS hz.pv zrr U)<|L8 (j:=10) (dd:=22) (by kernel_rfl) U z2J z2K U U (Z:=Z) (Pr:=(rq qt)) zga U U zHf d ?_
  rintro g i f l rfl
  refine Lf 11 23 U (xk sD U U)<|Li 12 24 U (xl xB U<|wy hz.pv f U)<|Lf 13 25 U (l3 U U e U)<|Lf 14 26 U (tR U U U)<|Lf 15 27 U (q_min U U U)<|Lf 16 6 U (q_z U)<|WD.done (by kernel_rfl)<|Lb<|WC.ret ?_
  obtain rfl:=oJ h
  exact Lh results99 (.tmp U .nil)<|fun w hw=>⟨xK U,hw.sub .nil⟩
def kG(a:zd)(b:za):Option Bool:=
 some (decide ((⟨a.ya,a.fQ⟩:za)=b))
theorem oP(Z:Zp)(e:Addr)(c:zd)(d:za)(r:Bool)(h:kG c d=some r)(w₀:World)(hz:PZ [] w₀ Z)(f:ZC Z e [vi d.ya,vi d.fQ]):
  RC 95 #[.agg #[vi c.ya,vi c.yh,vi c.fQ],vq e] w₀ (.bool r) [] []:=by
 unfold kG at h
 refine L0 func95 ntmps95 ?_
 refine WC.b<|Ld (Lg 2 (xP (cs:=[vi c.ya,vi c.yh,vi c.fQ]) U U) fun g _=>Q1n U<|B0q<|Le 4 (xk km U U)<|Le 5 (xl xB U<|xu .here U)<|Le 6 (xk tJ U U)<|Le 7 (xl xB U<|xu .here U)<|Le 8 (xU (v:=(.agg #[vi c.ya,vi c.fQ])) (Lq (l:=[.tmp 5,.tmp 7]) (.r2 U U) [0,1]) (fun _=>by kernel_rfl))<|Le 9 (xq zp2 U (vY hz.pv f) U)<|Le 10 (su (enc:=vo) (a:=(⟨c.ya,c.fQ⟩:za)) (b:=d) zAN U U)<|Q1n U<|WC.ret ?_)
 obtain rfl:=oJ h
 exact Lh results95 (.tmp U .nil)<|fun w hw=>⟨xK U,hw.sub .nil⟩
def kH(a:zt)(b:Int):Option Int:=
 if decide ((i64 (b-(a.fM.length:Int)))>=0) then chk (0<=(i64 (b-(a.fM.length:Int)))/\(i64 (b-(a.fM.length:Int)))<a.fS.length) (some ((nth a.fS (i64 (b-(a.fM.length:Int)))).yj)) else some 0
theorem rh(Z:Zp)(b:Option Addr)(c:Nat)(d:Option Addr)(e:Nat)(f:Option Addr)(g:Nat)(i:Option Addr)(j:Nat)(k:Option Addr)(l:Nat)(m:Option Addr)(n:Nat)(o:Option Addr)(p:Nat)(q:Option Addr)(s:Nat)(a:zt)(t:Int)(r:Int)(h:kH a t=some r)(w₀:World)(hz:PZ [] w₀ Z)(z:ZS Z 4 (ju Z) b c a.fM)(A:ZS Z 4 (kv Z) d e a.yd)(u:ZS Z 4 (rq qJ) f g a.fS)(B:ZS Z 4 (rq qt) i j a.fK)(C:ZS Z 7 (vK Z) k l a.yb)(D:ZS Z 5 (rq kK) m n a.fH)(E:ZS Z 3 (kw Z) o p a.fU)(F:ZS Z 4 (rq kL) q s a.yc):
  RC 54 #[.agg #[vs b a.fM.length c,vs d a.yd.length e,vs f a.fS.length g,vs i a.fK.length j,vs k a.yb.length l,vs m a.fH.length n,vs o a.fU.length p,vs q a.yc.length s],vi t] w₀ (vi r) [] []:=by
 unfold kH at h
 refine L0 func54 ntmps54 ?_
 refine WC.b<|Ld (Lg 2 (xP (cs:=[vs b a.fM.length c,vs d a.yd.length e,vs f a.fS.length g,vs i a.fK.length j,vs k a.yb.length l,vs m a.fH.length n,vs o a.fU.length p,vs q a.yc.length s]) U U) fun G _=>Q1n U<|WC.b<|B1q U<|Le 7 (xk uc U U)<|Le 8 (xl zaF U<|xu .here U)<|Le 9 (xQ underlying22 U)<|Q2n U<|B2n U<|Lj U h (fun v h=>?_)<|fun v h=>?_)
 ·refine WC.b<|cK h fun x h=>Ld<|Le 13 (xk rZ U U)<|Le 14 (xl zih U<|xu .here U)<|La U<|L2 (dd:=16) U U (Z:=Z) (Pr:=(rq qJ)) zlL U U u x ?_
  rintro H I y J rfl
  refine Le 17 (xk cG U U)<|Le 18 (xl xB U<|wy hz.pv y U)<|Q1n U<|WC.ret<|Ll ?_
  obtain rfl:=oJ h
  exact Lh results54 (.tmp U .nil)<|fun w hw=>⟨xK U,hw.sub .nil⟩
 ·refine WC.skip<|Lb<|B1n U<|WC.ret ?_
  obtain rfl:=oJ h
  exact Lh results54 (.tmp U .nil)<|fun w hw=>⟨xK U,hw.sub .nil⟩
def qU(b:List zd)(d:zt)(f:List (za×Int))(g:(List Int)->Option (List Int)):Nat->(List Int)->Int->(List (Int×Int))->Option (List Int)
 | 0,_,_,_=>none
 | h+1,e,a,c=>if decide (a<b.length) then chk (0<=a/\a<b.length) (chk ((((e++([xp c ((nth b a).ya) 0]:List Int)).length:Nat):Int)*8<=140737488355328/\(((e++([xp c ((nth b a).ya) 0]:List Int)).length:Nat):Int)<=4611686018427387904) ((kH d ((nth b a).ya)).bind fun i=>chk (0<=((nth b a).fQ)/\((nth b a).fQ)<d.fK.length) (qU b d f g h (e++([xp c ((nth b a).ya) 0]:List Int)) (i64 (a+1)) (xM c ((nth b a).yh) (i64 ((i64 ((i64 ((xp c ((nth b a).ya) 0)+(xp f (⟨(nth b a).ya,(nth b a).fQ⟩:za) 0)))-i))-((nth d.fK ((nth b a).fQ)).yp))))))) else g e
def kI(a:zt)(b:List zd)(c:List (za×Int)):Option (List Int):=
 jG (fun(d:List Int)=>some d) fun e=>qU b a c e xI ([]:List Int) 0 ([]:List (Int×Int))
theorem go(Z:Zp)(u:Option Addr)(x:Nat)(y:Option Addr)(z:Nat)(B:Option Addr)(D:Nat)(E:Option Addr)(F:Nat)(G:Option Addr)(H:Nat)(I:Option Addr)(J:Nat)(K:Option Addr)(L:Nat)(M:Option Addr)(N:Nat)(O:Option Addr)(P:Nat)(m:Nat)(a:zt)(c:List zd)(g:List (za×Int))(r:List Int)(h:kI a c g=some r)(w₀:World)(hz:Pz [xy m (ga vo) vI g] w₀ Z)(X:ZS Z 4 (ju Z) u x a.fM)(Y:ZS Z 4 (kv Z) y z a.yd)(aa:ZS Z 4 (rq qJ) B D a.fS)(Q:ZS Z 4 (rq qt) E F a.fK)(ab:ZS Z 7 (vK Z) G H a.yb)(ad:ZS Z 5 (rq kK) I J a.fH)(ae:ZS Z 3 (kw Z) K L a.fU)(af:ZS Z 4 (rq kL) M N a.yc)(ag:ZS Z 3 (rq gk) O P c)(fh:Ho w₀ [xy m (ga vo) vI g]):
  Calls Tryz.prog 37 #[.agg #[vs u a.fM.length x,vs y a.yd.length z,vs B a.fS.length D,vs E a.fK.length F,vs G a.yb.length H,vs I a.fH.length J,vs K a.fU.length L,vs M a.yc.length N],vs O c.length P,.map (some m)] w₀ fun e w'=>∃ R:Option Addr,∃ S:Nat,e = .returned (vs R r.length S)/\True/\Hp (fps [xy m (ga vo) vI g]) w₀ w' [row (vs R r.length S) 3 1 (r.flatMap e3),xy m (ga vo) vI g]:=by
 unfold kI at h
 refine Calls.oh3 func37 ntmps37 fh ?_
 let A:List Value:=[vs u a.fM.length x,vs y a.yd.length z,vs B a.fS.length D,vs E a.fK.length F,vs G a.yb.length H,vs I a.fH.length J,vs K a.fU.length L,vs M a.yc.length N];refine B0q<|Lg 3 (xP (cs:=A) U U) ?_
 intro T _
 refine Q1n U<|WC.b<|Ld (Lg 11 (je vI<|Value.int .i64) fun V _=>Q1n U<|B1n U ?_)
 refine jK1 h fun W ah h=>WC.qN (fun(n:List Int) (q:Option Addr) (s:Nat)=>(W n=some r)) (fun n q s=>[(8,vs q n.length s)]) (fun n q s=>[row (vs q n.length s) 3 1 (n.flatMap e3),xy m (ga vo) vI g]) ?_ ?_
 ·refine B1q U<|Le 13 (xQ underlying58 U)<|Q1n U<|WC.block<|WC.nilRow 3 1<|WC.pa (fun(t:Nat) (d:List Int) (b:Int) (f:List (Int×Int)) (o:Option Addr) (p:Nat)=>(qU c a g W t d b f=some r)) (fun t d b f o p=>[(2,(.map<|some m)),(3,vp T),(7,(.map<|some V)),(8,vs o d.length p),(12,vs O c.length P),(13,vi (c.length:Int)),(14,vi b)]) (fun t d b f o p=>[row (vs o d.length p) 3 1 (d.flatMap e3),xy m (ga vo) vI g,stb T 31 A,xy V vI vI f]) (fun t d b f o p=>t) ⟨xI,([]:List Int),0,([]:List (Int×Int)),none,0⟩ h (.q U) (.s4 .here .h2 .h1 .here) ?_
  rintro(_|ai) d b f o p h;·cases h
  rw[qU] at h
  refine B1n U<|WC.b<|Lj U h (fun aj h=>?_)<|fun aj h=>?_
  ·refine WC.skip<|Lb<|WC.b<|WC.block<|WC.b<|cK h fun ak h=>Ld<|L2 (dd:=16) U U (Z:=Z) (Pr:=(rq gk)) z8e U U ag ak ?_
   rintro av aw al ax rfl
   refine Le 17 (xq z5R U (vY hz.pv al) U) (Lg 10 (xC (cs:=[vi 0,vi 0,vi 0]) zc0 U) fun ay _=>Lk U U (xx zaG U U U .here U U U)<|Q0n<|WC.b ?_)
   refine cK h fun am h=>D2q U<|Le 20 (xk km U U)<|Le 21 (xl xB U<|xu .here U)<|Le 22 (qz (k:=((nth c b).ya)) (dflt:=(0:Int)) jR underlying148 qk U U U .h4) (Lg 23 (xV (cs:=([xp f ((nth c b).ya) 0]:List Int).flatMap e3) z8g (Lq (l:=[.tmp 22]) (.cons U .nil) [0]) (fun _=>by kernel_rfl) U (by unfold maxLen;omega)) fun az _=>WL.fA 24 (kZ (enc:=e3) (l1:=d) (l2:=([xp f ((nth c b).ya) 0]:List Int)) z8g U U .h2 (fun _=>U) U U (qg .here) (gr Vl _) am) ?_)
   rintro⟨an,ao⟩ _
   refine Q1n U<|bK h fun ap aq h=>cK h fun ar h=>Lw (fun i=>[28].contains i) [] U<|Lf 0 25 U (q_m U)<|Lf 1 26 U (xk gR U U)<|Li 2 27 U (xl xB U<|xu .h2 U)<|Lf 3 28 U (q_m U)<|Lf 4 29 U (xk km U U)<|Li 5 30 U (xl xB U<|xu .h2 U)<|Li 6 31 U (qz (k:=((nth c b).ya)) (dflt:=(0:Int)) jR underlying148 qk U U U .h5)<|Lf 7 32 U (q_m U)<|Lf 8 33 U (xk km U U)<|Li 9 34 U (xl xB U<|xu .h2 U)<|Lf 10 35 U (xk tJ U U)<|Li 11 36 U (xl xB U<|xu .h2 U)<|Lf 12 37 U (xU (v:=(.agg #[(vi<|(nth c b).ya),(vi<|(nth c b).fQ)])) (Lq (l:=[.tmp 34,.tmp 36]) (.r2 U U) [0,1]) (fun _=>by kernel_rfl))<|Li 13 38 U (qz (k:=(⟨(nth c b).ya,(nth c b).fQ⟩:za)) (dflt:=(0:Int)) zsZ underlying92 qk U U U .h3)<|Lf 14 39 U (tR U U U)<|Li 15 40 U (xq z2j U (xt .h4) U)<|Lf 16 41 U (xk km U U)<|Li 17 42 U (xl xB U<|xu .h2 U)<|L5 18 43 U (zf call54<|.r2 U U) (cc hz .nil fun w pz ho=>rh _ _ _ _ _ _ _ _ _ _ _ _ _ _ _ _ _ _ _ _ aq w pz X Y aa Q ab ad ae af)<|Lf 19 44 U (sM U U U)<|Lf 20 45 U (xk uT U U)<|Li 21 46 U (xl zbZ U<|xu .h4 U)<|Lf 22 47 U (xk tJ U U)<|Li 23 48 U (xl xB U<|xu .h2 U)<|L8 (j:=24) (dd:=49) (by kernel_rfl) U z2J z2K U U (Z:=Z) (Pr:=(rq qt)) zga U U Q ar ?_
   rintro aA aB au aC rfl
   let C:=(i64 ((i64 ((xp f ((nth c b).ya) 0)+(xp g (⟨(nth c b).ya,(nth c b).fQ⟩:za) 0)))-ap));refine Lf 25 50 U (xk sD U U)<|Li 26 51 U (xl xB U<|wy hz.pv au U)<|Lf 27 52 U (sM U U U)<|WD.jf (i:=28) U (by kernel_rfl) U U U (by kernel_rfl) (jE (k:=((nth c b).yh)) (v:=i64 (C-((nth a.fK<|(nth c b).fQ).yp))) jR underlying148 U U U U .h5)<|WD.done (by kernel_rfl)<|Lu<|Lb<|D2q U<|WL.nil ?_
   exact WX.round ⟨ai,d++([xp f ((nth c b).ya) 0]:List Int),i64 (b+1),(xM f ((nth c b).yh)<|i64 (C-((nth a.fK<|(nth c b).fQ).yp))),an,ao⟩ h (Nat.lt_succ_self _) (.q U)<|.s4 .h1 .h3 .h3 .here
  ·exact WC.exit<|Ln<|Ln<|Lx<|Lp ⟨d,o,p⟩ h (.cons U .nil)<|.a2
 ·rintro n q s h
  replace h:=(ah n).symm.trans h
  refine B2n U<|WC.ret ?_
  obtain rfl:=oJ h
  exact Lh results37 (.tmp U .nil)<|fun w hw=>⟨q,s,xK U,trivial,hw.sub (.a2)⟩
def kJ(a:zd)(b:za):Option Bool:=
 some (decide (a.yh=b.ya))
theorem oQ(Z:Zp)(c:Addr)(a:zd)(b:za)(r:Bool)(h:kJ a b=some r)(w₀:World)(hz:PZ [] w₀ Z)(d:ZC Z c [vi b.ya,vi b.fQ]):
  RC 96 #[.agg #[vi a.ya,vi a.yh,vi a.fQ],vq c] w₀ (.bool r) [] []:=by
 unfold kJ at h
 refine L0 func96 ntmps96 ?_
 refine WC.b<|Ld (Lg 2 (xP (cs:=[vi a.ya,vi a.yh,vi a.fQ]) U U) fun e _=>Q1n U<|B0q<|Le 4 (xk gR U U)<|Le 5 (xl xB U<|xu .here U)<|Le 6 (xk eh U U)<|Le 7 (xl xB U<|wy hz.pv d U)<|Q2n U<|WC.ret ?_)
 obtain rfl:=oJ h
 exact Lh results96 (.tmp U .nil)<|fun w hw=>⟨xK U,hw.sub .nil⟩
def mO(a:z6)(b:Int)(c:Int):Option Int:=
 chk ((a.yr:Int)≠0) (some (i64 (a.yo*(i64 ((i64 (Int.tdiv (i64 (c+b)) a.yr))+1)))))
theorem bN(Z:Zp)(b:Option Addr)(c:Nat)(a:z6)(d:Int)(e:Int)(r:Int)(h:mO a d e=some r)(w₀:World)(hz:PZ [] w₀ Z)(g:ZS Z 3 (rq oA) b c a.yy):
  RC 98 #[.agg #[.string a.ys,.string a.yk.yq,.string a.yk.yu,.string a.yk.yv,vi a.yr,vi a.yo,vs b a.yy.length c],vi d,vi e] w₀ (vi r) [] []:=by
 unfold mO at h
 refine Kc func98 ntmps98 ?_
 refine WC.b<|Ld (Lg 3 (xP (cs:=[.string a.ys,.string a.yk.yq,.string a.yk.yu,.string a.yk.yv,vi a.yr,vi a.yo,vs b a.yy.length c]) U U) fun i _=>Q1n U<|WC.b ?_)
 refine cK h fun f h=>Lw nc [] U<|Lf 0 7 U (xk fj U U)<|Li 1 8 U (xl xB U<|xu .here U)<|Lf 2 9 U (q_m U)<|Lf 3 10 U (q_m U)<|Lf 4 11 U (tR U U U)<|Lf 5 12 U (xk oD U U)<|Li 6 13 U (xl xB U<|xu .here U)<|Lf 7 14 U (l3 U U f U)<|Lf 8 15 U (tR U U U)<|Lf 9 16 U (uk U U U)<|Lf 10 6 U (q_z U)<|WD.done (by kernel_rfl)<|Lb<|WC.ret ?_
 obtain rfl:=oJ h
 exact Lh results98 (.tmp U .nil)<|fun w hw=>⟨xK U,hw.sub .nil⟩
def wA(a:Int)(b:z6)(c:Int):Option Int:=
 (mO b c a).bind fun d=>some d
theorem oR(Z:Zp)(b:Addr)(c:Option Addr)(d:Nat)(e:Addr)(f:Int)(a:z6)(g:Int)(r:Int)(h:wA f a g=some r)(w₀:World)(hz:PZ [] w₀ Z)(i:ZS Z 3 (rq oA) c d a.yy)(j:ZC Z b [.string a.ys,.string a.yk.yq,.string a.yk.yu,.string a.yk.yv,vi a.yr,vi a.yo,vs c a.yy.length d])(k:ZC Z e [vi g]):
  RC 97 #[vi f,vq b,vq e] w₀ (vi r) [] []:=by
 unfold wA at h
 refine Kc func97 ntmps97 ?_
 refine B1n U<|WC.b<|bK h fun m l h=>Ld<|Le 5 (xq zsQ U (vY hz.pv j) U)<|Le 6 (xl xB U<|jS hz.pv k U)<|La U<|Lm 8 (zf call98<|.r3 U U U) .nil (cc hz .nil fun w pz ho=>bN _ _ _ _ _ _ _ l w pz i)<|Q1n U<|WC.ret ?_
 obtain rfl:=oJ h
 exact Lh results97 (.tmp U .nil)<|fun w hw=>⟨xK U,hw.sub .nil⟩
end Go.Proofs.YthjnhebofpebpaaGreat
