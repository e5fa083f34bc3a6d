/- A part of this claim's proof: models of functions, walks, plain laws. No conditions. -/
import Derived.Test.YtcahmabkeaijdaaGreatW35xe
set_option linter.all false
namespace Go.Proofs.YtcahmabkeaijdaaGreat
open Go Go.RowKit Sep Tryz
set_option maxRecDepth 30000
set_option maxHeartbeats 4000000
theorem z12S:∀ w,(isAgg (Tryz.gt.t 24)).run Tryz.prog w = .ok true w:=fun _=>by kernel_rfl
theorem z12T:∀ w,(Go.sizeOf (Tryz.gt.t 24)).run Tryz.prog w = .ok 3 w:=fun _=>by kernel_rfl
def fW(z6r:List zw)(zt3:Int)(zt4:Int)(zot:Int)(zl2:zw->zw->Option Int):Option (List zw):=chk ((zt3=0/\zt4=(z6r.length:Int))/\(0<=zot/\zot<4611686018427387904/\z6r.length<4611686018427387904)) (chk (ot zl2 (wH zl2 z6r)=true) (some (wH zl2 z6r)))
theorem oM(Z zl3 zl4 zt5 zDf z6r zt3 zt4 zot zl2 r){Nv}(hz:Pz [row (vs zl3 z6r.length zl4) 79 3 (z6r.flatMap f5)] Nv Z)(a:∀ args w,(callFunc zt5 args).run Tryz.prog w = .ok (.enter zt5 args) w)(b:∀ w:World,PZ [] w Z->∀(x0:zw) (x1:zw) (r:Int),zl2 x0 x1=some r->Calls Tryz.prog zt5 (([.agg #[vi x0.yq,vi x0.ya,vi x0.yl],.agg #[vi x1.yq,vi x1.ya,vi x1.yl]]:List Value)++zDf).toArray w fun e w'=>e = .returned (vi r)/\Hp [] w w' [])(h:fW z6r zt3 zt4 zot zl2=some r)(ip:Ho Nv [row (vs zl3 z6r.length zl4) 79 3 (z6r.flatMap f5)]):
  Calls Tryz.prog 92 #[vs zl3 z6r.length zl4,vi zt3,vi zt4,vi zot,.func (.func zt5) #[] (zDf).toArray] Nv fun e w'=>e = .returned (.tuple #[])/\(r.length=z6r.length)/\Hp (fps [row (vs zl3 z6r.length zl4) 79 3 (z6r.flatMap f5)]) Nv w' [row (vs zl3 r.length zl4) 79 3 (r.flatMap f5)]:=by
 obtain⟨h0,h⟩:=xH h
 obtain⟨h1,h⟩:=xH h
 have hr:=(oJ h).symm
 exact ii (P:=Tryz.prog) (f:=92) (e:=79) (k:=3) (enc:=f5) (fun _=>U) (by decide) Jk (fun β _ enc cf g cb hO wr off cap d0 w0 eg hC R=>Tryz.il 3 z12S z12T enc cf g cb hO wr off cap d0 w0 eg hC R) (Tryz.lH (α:=Unit)) hz a b h0 h1 hr ip
def j5(a:List zw)(zou:zw->zw->Option Int):Option (List zw):=
 (mg (u64 (a.length:Int))).bind fun b=>(fW a 0 (a.length:Int) b zou).bind fun c=>some c
theorem o8(Z b c zov zwr a zou r)(h:j5 a zou=some r){Nv}(hz:Pz [row (vs b a.length c) 79 3 (a.flatMap f5)] Nv Z)(j:∀ args w,(callFunc zov args).run Tryz.prog w = .ok (.enter zov args) w)(k:∀ w:World,PZ [] w Z->∀(x0:zw) (x1:zw) (r:Int),zou x0 x1=some r->Calls Tryz.prog zov (([.agg #[vi x0.yq,vi x0.ya,vi x0.yl],.agg #[vi x1.yq,vi x1.ya,vi x1.yl]]:List Value)++zwr).toArray w fun e w'=>e = .returned (vi r)/\Hp [] w w' [])(ip:Ho Nv [row (vs b a.length c) 79 3 (a.flatMap f5)]):
  Calls Tryz.prog 53 #[vs b a.length c,.func (.func zov) #[] (zwr).toArray] Nv fun e w'=>e = .returned (.tuple #[])/\(r.length=a.length)/\Hp (fps [row (vs b a.length c) 79 3 (a.flatMap f5)]) Nv w' [row (vs b r.length c) 79 3 (r.flatMap f5)]:=by
 unfold j5 at h
 refine Ni func53 U ip U<|B1q U<|Le 6 (w9 underlying36)<|Q1n U<|bK h fun d l h=>bK h fun f m h=>D3q U<|Le 10 (fg underlying3 underlying142)<|Nr call48 hz (fun pz=>oZ (Z:=_)  (z9t:=(u64 (a.length:Int))) (r:=d) pz  l)<|La U<|Na (dd:=13) U (Ns call92) (.cons .here .nil) (cc hz (.cons .here .nil) fun w pz ho=>oM (Z:=_) (zl3:=b) (zl4:=c) (zt5:=zov) (zDf:=zwr) (z6r:=a) (zt3:=0) (zt4:=(a.length:Int)) (zot:=d) (zl2:=zou) (r:=f) pz j k m ho) ?_
 rintro  g
 exact L7 (i:=0) U (u:=(vs b f.length c)) (qs g.symm)<|WL.nil<|oJ h▸Nh results53 .nil fun w hw=>⟨mF,g.trans U,hw.sub (.cons .here .nil)⟩
def mj(b:List zp)(c:(List (z7×Int))->Option (List zw)):Nat->Int->(List (z7×Int))->Option (List zw)
 | 0,_,_=>none
 | e+1,a,d=>if decide (a>=0) then chk (0<=a/\a<b.length) (mj b c e (i64 (a-1)) (w4 d (⟨(nth b a).ya,(nth b a).fQ⟩:z7) ((nth b a).yl))) else c d
def mm(b:List (List zb))(a:Int)(j:zV)(e:List (z7×Int))(i:(List zw)->Option (List zw)):Nat->(List zw)->Int->(List (Int×Int))->Option (List zw)
 | 0,_,_,_=>none
 | k+1,f,c,d=>if decide (c<((nth b a).length:Int)) then sK (fun(l:List zw) (m:List (Int×Int))=>mm b a j e i k l (i64 (c+1)) m) fun h=>chk (0<=c/\c<((nth b a).length:Int)) (chk ((wK d ((nth (nth b a) c).fX))=false->((0:Int)<=0/\0<((nth b a).length:Int))) (if (wK d ((nth (nth b a) c).fX))||(decide (((nth (nth b a) c).fX)=((nth (nth b a) 0).ya))) then h f d else(me (⟨(nth (nth b a) c).ya,(nth (nth b a) c).fX,(nth (nth b a) c).fQ⟩:zb)).bind fun g=>if (decide (((nth (nth b a) c).fX)>=0))&&(decide (((nth (nth b a) c).fX)<j.fM.length)) then chk ((((f++([(⟨a,(nth (nth b a) c).fX,xC (w4 d ((nth (nth b a) c).fX) (i64 ((xC d ((nth (nth b a) c).ya) 0)+(xC e g 0)))) ((nth (nth b a) c).fX) 0⟩:zw)]:List zw)).length:Nat):Int)*24<=140737488355328/\(((f++([(⟨a,(nth (nth b a) c).fX,xC (w4 d ((nth (nth b a) c).fX) (i64 ((xC d ((nth (nth b a) c).ya) 0)+(xC e g 0)))) ((nth (nth b a) c).fX) 0⟩:zw)]:List zw)).length:Nat):Int)<=4611686018427387904) (h (f++([(⟨a,(nth (nth b a) c).fX,xC (w4 d ((nth (nth b a) c).fX) (i64 ((xC d ((nth (nth b a) c).ya) 0)+(xC e g 0)))) ((nth (nth b a) c).fX) 0⟩:zw)]:List zw)) (w4 d ((nth (nth b a) c).fX) (i64 ((xC d ((nth (nth b a) c).ya) 0)+(xC e g 0))))) else h f (w4 d ((nth (nth b a) c).fX) (i64 ((xC d ((nth (nth b a) c).ya) 0)+(xC e g 0)))))) else i f
def mn(c:List (List zb))(g:zV)(e:List (z7×Int))(f:(List zw)->Option (List zw)):Nat->(List zw)->Int->Option (List zw)
 | 0,_,_=>none
 | h+1,b,a=>if decide (a<c.length) then qP (fun(i:List zw)=>mn c g e f h i (i64 (a+1))) fun j=>chk (0<=a/\a<c.length) (qP (fun(k:List zw)=>(j5 k (fun y0 y1=>kg y0 y1)).bind fun d=>chk (((b++d).length:Int)*24<=140737488355328/\((b++d).length:Int)<=4611686018427387904) (j (b++d))) fun l=>mm c a g e l xR ([]:List zw) 0 ([]:List (Int×Int))) else f b
def pp(h:zV)(b:List (List zb))(a:List zp):Option (List zw):=
 (wM b (fun y0=>fq y0)).bind fun c=>if c then some ([]:List zw) else qP (fun(d:List (z7×Int))=>qP (fun(e:List zw)=>some e) fun f=>mn b h d f xR ([]:List zw) 0) fun g=>mj a g xR (i64 ((a.length:Int)-1)) ([]:List (z7×Int))
theorem Jw(Z ai aj ak al am an ao ap aq ar au av aw ax ay az aA aB aC aD d b q r)(h:pp d b q=some r){Nv}(hz:PZ [] Nv Z)(bv:ZS Z 4 (gk Z) ai aj d.fM)(bw:ZS Z 4 (fJ Z) ak al d.yf)(bx:ZS Z 4 (rq kT) am an d.fS)(bz:ZS Z 4 (rq mM) ao ap d.fK)(bA:ZS Z 7 (f0 Z) aq ar d.yg)(bB:ZS Z 5 (rq mb) au av d.fH)(bC:ZS Z 3 (fO Z) aw ax d.fU)(bD:ZS Z 4 (rq mc) ay az d.ye)(aI:ZS Z 1 (mN Z) aA aB b)(aE:ZS Z 4 (rq kz) aC aD q):
  Calls Tryz.prog 26 #[.agg #[vs ai d.fM.length aj,vs ak d.yf.length al,vs am d.fS.length an,vs ao d.fK.length ap,vs aq d.yg.length ar,vs au d.fH.length av,vs aw d.fU.length ax,vs ay d.ye.length az],vs aA b.length aB,vs aC q.length aD] Nv fun e w'=>∃ aJ:Option Addr,∃ aK:Nat,e = .returned (vs aJ r.length aK)/\True/\Hp [] Nv w' [row (vs aJ r.length aK) 79 3 (r.flatMap f5)]:=by
 unfold pp at h
 refine N1 func26 U U ?_
 let A:List Value:=[vs ai d.fM.length aj,vs ak d.yf.length al,vs am d.fS.length an,vs ao d.fK.length ap,vs aq d.yg.length ar,vs au d.fH.length av,vs aw d.fU.length ax,vs ay d.ye.length az];refine B0q<|Lh 3 (wg (cs:=A)) ?_
 intro m _
 refine Q1n U<|WC.b<|WC.b<|bK h fun bX aR h=>D1q U<|Nr call27 hz (fun pz=>fY _ _ _ (zjD:=51) (zre:=[]) _ (zjC:=(fun y0=>fq y0)) _ aR pz aI call51<|fun w' hz' y0 ga0 gc0 r DC hr=>Vi _ _ _ _ _ hr hz' DC)<|Q0n<|Lj h (fun aS h=>?_)<|fun aS h=>?_
 ·exact B1n U<|Nw<|Ll<|WX.nilRow 79 3<|oJ h▸Li results26 (.tmp U .nil) fun w hw=>⟨none,0,w6,trivial,hw.sub (.cons .here .nil)⟩
 ·refine Nn<|B0q (Lh 20 (fh (ga wp)<|Value.int .i64) fun n _=>Q1n U ?_)
  obtain⟨aL,aT,h⟩:=wo h
  let E:Value:=(vs aA b.length aB);refine L5 (fun g=>(aL g=some r)) (fun g=>[(1,E),(3,vp m),(7,(.map<|some n))]) (fun g=>[stb m 31 A,xU n (ga wp) vI g]) ?_ ?_
  ·refine B1q U<|Le 22 (w9 underlying35)<|Q2n U<|WC.block<|N7 (fun ae o L=>(mj q aL ae o L=some r)) (fun ae o L=>[(1,E),(2,vs aC q.length aD),(3,vp m),(7,(.map<|some n)),(8,vi o)]) (fun ae o L=>[stb m 31 A,xU n (ga wp) vI L]) (fun ae o L=>ae) ⟨xR,i64 ((q.length:Int)-1),([]:List (z7×Int))⟩ h .q (.s2 .h1 .here) ?_
   rintro(_|bo) o L h;·cases h
   rw[mj] at h
   refine WC.b<|B2n U<|Lj h (fun aU h=>?_)<|fun aU h=>?_
   ·refine Nn<|WC.b<|WC.block<|cK h fun aF h=>Lu (fun i=>[17].contains i) []<|Lf 0 U q_m<|Lf 1 U q_m<|Lf 2 U q_m<|Nf (j:=3) (dd:=31) (by kernel_rfl) z2B z2C (Z:=Z) (Pr:=(rq kz)) z8L aE aF ?_
    rintro bE bF aV bG rfl
    refine Lf 4 U (xA Yn)<|Lg 5 U (xB xL U<|wA hz.pv aV)<|Lf 6 U q_m<|Lf 7 U q_m<|Nf (j:=8) (dd:=36) (by kernel_rfl) z2B z2C (Z:=Z) (Pr:=(rq kz)) z8L aE aF ?_
    rintro bH bI aW bJ rfl
    refine Lf 9 U (xA V9)<|Lg 10 U (xB xL U<|wA hz.pv aW)<|Lf 11 U (wm (v:=(.agg #[(vi<|(nth q o).ya),(vi<|(nth q o).fQ)])) (Lq (l:=[.tmp 33,.tmp 38]) (.r2 U U) [0,1]) (fun _=>by kernel_rfl))<|Lf 12 U q_m<|Lf 13 U q_m<|Nf (j:=14) (dd:=42) (by kernel_rfl) z2B z2C (Z:=Z) (Pr:=(rq kz)) z8L aE aF ?_
    rintro bL bM aX bN rfl
    exact Lf 15 U (xA Tt)<|Lg 16 U (xB xL U<|wA hz.pv aX)<|Nc (i:=17) U (by kernel_rfl) (by kernel_rfl) (mO (k:=(⟨(nth q o).ya,(nth q o).fQ⟩:z7)) (v:=((nth q o).yl)) zgR underlying93 .h1)<|Ny (by kernel_rfl)<|Lt<|Lb<|D3q U<|WL.nil<|Nx ⟨bo,i64 (o-1),(w4 L (⟨(nth q o).ya,(nth q o).fQ⟩:z7)<|(nth q o).yl)⟩ h (Nat.lt_succ_self _) .q<|.s2 .h1 .here
   ·exact Nz<|Lo<|Lo<|Lv<|Lp L h .q<|.a2
  ·rintro g h
   replace h:=(aT g).symm.trans h
   refine B1n U<|jK1 h fun aM aY h=>N5 (fun M R S=>(aM M=some r)) (fun M R S=>[(9,vs R M.length S)]) (fun M R S=>[row (vs R M.length S) 79 3 (M.flatMap f5)]) ?_ ?_
   ·let I:Value:=(vi (b.length:Int));refine B1q U<|Le 46 (w9 underlying32)<|Q1n U<|WC.block<|WC.nilRow 79 3<|Dy (fun af p a N O=>(mn b d g aM af p a=some r)) (fun af p a N O=>[(3,vp m),(7,(.map<|some n)),(9,vs N p.length O),(45,E),(46,I),(47,vi a)]) (fun af p a N O=>[row (vs N p.length O) 79 3 (p.flatMap f5),stb m 31 A,xU n (ga wp) vI g]) (fun af p a N O=>af) ⟨xR,([]:List zw),0,none,0⟩ h .q .a3 ?_
    rintro(_|bp) p a N O h;·cases h
    rw[mn] at h
    refine B1n U<|WC.b<|Lj h (fun aZ h=>?_)<|fun aZ h=>?_
    ·refine Nn<|jK1 h fun bq a0 h=>N5 (fun y T V=>(bq y=some r)) (fun y T V=>[(3,vp m),(7,(.map<|some n)),(9,vs T y.length V),(45,E),(46,I),(47,vi a)]) (fun y T V=>[row (vs T y.length V) 79 3 (y.flatMap f5),stb m 31 A,xU n (ga wp) vI g]) ?_ ?_
     ·refine WC.block<|WC.b<|cK h fun a1 h=>D1q U<|L3 (dd:=50) (Z:=Z) (Pr:=(mN Z)) zdH aI a1 ?_
      rintro bO bP a2 bQ ⟨br,bs,rfl,aN⟩
      refine Le 51 (xB zc1 U<|mG hz.pv a2)<|Q2n U<|B0q (Lh 52 (fh vI<|Value.int .i64) fun W _=>Q1n U<|B1n U ?_)
      obtain⟨aO,a3,h⟩:=wo h
      let F:Value:=(vs N p.length O);refine N5 (fun P X Y=>(aO P=some r)) (fun P X Y=>[(3,vp m),(7,(.map<|some n)),(9,F),(13,vs X P.length Y),(45,E),(46,I),(47,vi a)]) (fun P X Y=>[row F 79 3 (p.flatMap f5),row (vs X P.length Y) 79 3 (P.flatMap f5),stb m 31 A,xU n (ga wp) vI g]) ?_ ?_
      ·let D:Value:=(vs br ((nth b a).length) bs);refine B1q U<|Le 54 (w9 underlying48)<|Q1n U<|WC.block<|WC.nilRow 79 3<|Pa (fun ag s c f t x=>(mm b a d g aO ag s c f=some r)) (fun ag s c f t x=>[(3,vp m),(7,(.map<|some n)),(9,F),(10,vi a),(11,D),(12,(.map<|some W)),(13,vs t s.length x),(45,E),(46,vi (b.length:Int)),(47,vi a),(53,D),(54,vi ((nth b a).length:Int)),(55,vi c)]) (fun ag s c f t x=>[row F 79 3 (p.flatMap f5),row (vs t s.length x) 79 3 (s.flatMap f5),stb m 31 A,xU n (ga wp) vI g,xU W vI vI f]) (fun ag s c f t x=>ag) ⟨xR,([]:List zw),0,([]:List (Int×Int)),none,0⟩ h .q (.s5 .h2 .here .h1 .h1 .here) ?_
       rintro(_|bt) s c f t x h;·cases h
       rw[mm] at h
       refine B1n U<|WC.b<|Lj h (fun a4 h=>?_)<|fun a4 h=>?_
       ·refine Nn<|jK2 h fun bu a5 h=>Ou (fun z Q aa ab=>(bu z Q=some r)) (fun z Q aa ab=>[(3,vp m),(7,(.map<|some n)),(9,F),(10,vi a),(11,D),(12,(.map<|some W)),(13,vs aa z.length ab),(45,E),(46,vi (b.length:Int)),(47,vi a),(53,D),(54,vi ((nth b a).length:Int)),(55,vi c)]) (fun z Q aa ab=>[row F 79 3 (p.flatMap f5),row (vs aa z.length ab) 79 3 (z.flatMap f5),stb m 31 A,xU n (ga wp) vI g,xU W vI vI Q]) ?_ ?_
        ·refine WC.block<|WC.b<|cK h fun a6 h=>Ld<|L3 (dd:=57) (Z:=Z) (Pr:=(rq mW)) z8g aN a6 ?_
         rintro a7 bR a8 bS rfl
         refine Le 58 (xK z4D (qV hz.pv a8)) (Lh 15 (xW (cs:=[vi 0,vi 0,vi 0]) zdJ) fun aP _=>Ln (xP zc3 .here)<|Q0n<|WC.b<|B1q U<|Le 61 (xA mY)<|Le 62 (Nt xL .here)<|Le 63 (VW (k:=((nth (nth b a) c).fX)) (dflt:=(0:Int)) tA underlying145 ms U U U .h5)<|Q5n U<|WC.b ?_)
         obtain⟨a9,h⟩:=xH h
         let C:Value:=(.bool (wK f ((nth (nth b a) c).fX)));let H:Value:=(vi (xC f ((nth (nth b a) c).fX) 0));let J:=((nth b a).length:Int);let K:Value:=(vi ((nth (nth b a) c).fX));refine Lu nc []<|Lf 0 U q_m<|Lf 1 U q_m<|L9 (fuel':=0) [(3,vp m),(7,(.map<|some n)),(9,F),(10,vi a),(11,D),(12,(.map<|some W)),(13,vs t s.length x),(45,E),(46,I),(47,vi a),(53,D),(54,vi J),(55,vi c),(56,(.bool<|decide (c<J))),(57,vq a7),(58,.agg #[(vi<|(nth (nth b a) c).ya),K,(vi<|(nth (nth b a) c).fQ)]),(15,vp aP),(60,(.map<|some W)),(61,(.pointer<|some ⟨aP,1,none⟩)),(62,K),(63,.tuple #[H,C]),(59,.tuple #[H,C]),(64,H),(65,C),(16,H),(17,C),(66,C),(67,C),(75,.bool ((wK f<|(nth (nth b a) c).fX)||(decide (((nth (nth b a) c).fX)=((nth (nth b a) 0).ya)))))] (j7 10 (dn 10)) ?_<|fun aQ=>?_
         rotate_left
         ·rcases Bool.eq_false_or_eq_true (wK f ((nth (nth b a) c).fX)) with hb' | hb'
          ·have aG:=hb';clear hb'
           refine L0 (i:=67) U aG<|Lk 2 U<|Lk 3 U<|Lk 4 U<|Lk 5 U<|Lk 6 U<|Lk 7 U<|Lk 8 U<|Lf 9 U qE<|L2 .a6 ?_ aQ
           exact .t 27<|.r2 (zu<|Eq.symm aG)<|zu<|gQ aG
          ·have ah:=hb';clear hb'
           have ba:=a9 ah
           refine L0 (i:=67) U ah<|Lf 2 U (xA mY)<|Lg 3 U (Nt xL .here)<|Lf 4 U q_m<|Nf (j:=5) (dd:=71) (by kernel_rfl) z2B z2C (Z:=Z) (Pr:=(rq mW)) z8g aN ba ?_
           rintro bT bU bb bV rfl
           refine Lf 6 U (xA gO)<|Lg 7 U (xB xL U<|wA hz.pv bb)<|Lf 8 U (eH U U)<|Lf 9 U qF<|L2 .a6 ?_ aQ
           exact .t 27<|.r2 (zu<|Eq.symm ah)<|zu<|gR ah
         refine Ny (by kernel_rfl)<|Lb<|Lj h (fun bc h=>?_)<|fun bc h=>?_
         ·exact Nz<|Lo<|Lv<|Lp ⟨s,f,t,x⟩ h .q<|.s5 .h1 .h1 .h1 .h1 .h1
         ·refine Nn<|WC.b<|bK h fun ad bd h=>Lu (fun i=>[12].contains i) []<|Lf 0 U q_m<|Lf 1 U (xA mY)<|Lg 2 U (Nt xL .here)<|Lf 3 U q_m<|Lf 4 U (xA gO)<|Lg 5 U (Nt xL .here)<|Lg 6 U (ku (k:=((nth (nth b a) c).ya)) (dflt:=(0:Int)) tA underlying145 ms .h5)<|Lf 7 U q_m<|Lg 8 U (xK z4D (xM .here))<|L4 9 U (Ns call40) (cc hz .nil fun w pz ho=>tD _ _ _ bd pz )<|Lg 10 U (ku (k:=ad) (dflt:=(0:Int)) zgR underlying93 ms .h4)<|Lf 11 U rP<|Nc (i:=12) U (by kernel_rfl) (by kernel_rfl) (mO (k:=((nth (nth b a) c).fX)) (v:=i64 ((xC f ((nth (nth b a) c).ya) 0)+(xC g ad 0))) tA underlying145 .h5)<|Ny (by kernel_rfl)<|Lb<|B0q<|Le 88 (xA mY)<|Le 89 (Nt xL .h1)<|Q2q U<|Lw true 6 91 (B:=(decide (((nth (nth b a) c).fX)>=0))&&(decide (((nth (nth b a) c).fX)<d.fM.length))) (fun h=>(jR h).symm) (fun _ be=>?_) ?_
          ·exact Le 92 (xA mY)<|Le 93 (Nt xL .h1)<|Le 94 (xA tk)<|Le 95 (Nt z9o .h4)<|Le 96 (w9 underlying22)<|Q2q U<|Lx (jS be) U .all
          refine Q0n<|Lj h (fun bf h=>?_)<|fun bf h=>?_
          ·refine cK h fun bg h=>D2q U<|Le 101 (xA mY)<|Le 102 (Nt xL .h1)<|La U<|Le 104 (xA mY)<|Le 105 (Nt xL .h1)<|Le 106 (ku (k:=((nth (nth b a) c).fX)) (dflt:=(0:Int)) tA underlying145 ms .here)<|Le 107 (wm (v:=(.agg #[vi a,(vi<|(nth (nth b a) c).fX),(vi<|xC (w4 f ((nth (nth b a) c).fX)<|i64 ((xC f ((nth (nth b a) c).ya) 0)+(xC g ad 0))) ((nth (nth b a) c).fX) 0)])) (Lq (l:=[.tmp 100,.tmp 102,.tmp 106]) (.r3 U U U) [0,1,2]) (fun _=>by kernel_rfl))<|Lh 108 (ws (cs:=([(⟨a,(nth (nth b a) c).fX,xC (w4 f ((nth (nth b a) c).fX)<|i64 ((xC f ((nth (nth b a) c).ya) 0)+(xC g ad 0))) ((nth (nth b a) c).fX) 0⟩:zw)]:List zw).flatMap f5) zjz (Lq (l:=[.tmp 107]) (.cons U .nil) [0]) (fun _=>by kernel_rfl) (by unfold maxLen;omega)) ?_
           intro bW _
           let G:=(i64 ((xC f ((nth (nth b a) c).ya) 0)+(xC g ad 0)));refine WL.fA 109 (kK (enc:=f5) (l1:=s) (l2:=([(⟨a,(nth (nth b a) c).fX,xC (w4 f ((nth (nth b a) c).fX) G) ((nth (nth b a) c).fX) 0⟩:zw)]:List zw)) zjz .h4 (fun _=>U) (kN .here) (gN Jk _) bg) ?_
           rintro⟨bh,bi⟩ _
           exact La U<|WL.nil<|Lt<|Lp ⟨s++([(⟨a,(nth (nth b a) c).fX,xC (w4 f ((nth (nth b a) c).fX) G) ((nth (nth b a) c).fX) 0⟩:zw)]:List zw),w4 f ((nth (nth b a) c).fX) G,bh,bi⟩ h .q<|.s5 .h4 .here .h3 .h3 .h1
          ·exact N0<|Lt<|Lp ⟨s,(w4 f ((nth (nth b a) c).fX)<|i64 ((xC f ((nth (nth b a) c).ya) 0)+(xC g ad 0))),t,x⟩ h .q<|.s5 .h2 .h2 .h2 .h2 .here
        ·rintro z Q aa ab h
         replace h:=(a5 z Q).symm.trans h
         exact D2q U<|WL.nil<|Nx ⟨bt,z,i64 (c+1),Q,aa,ab⟩ h (Nat.lt_succ_self _) .q<|.a5
       ·exact Nz<|Lo<|Lo<|Lv<|Lp ⟨s,t,x⟩ h .q<|.a4
      ·rintro P X Y h
       replace h:=(a3 P).symm.trans h
       refine WC.b<|bK h fun aH bj h=>D1q U<|Na (dd:=112) U (Ns call53) (.cons .h1 .nil) (cc hz (.cons .h1 .nil) fun w pz ho=>o8 _ _ _ (zov:=54) (zwr:=[]) _ (zou:=(fun y0 y1=>kg y0 y1)) _ bj pz call54 (fun w' hz' y0 y1  r  hr=>Vj _ _ _ _ hr hz' ) ho) ?_
       rintro  bk
       refine L7 (i:=13) U (u:=(vs X aH.length Y)) (qs bk.symm)<|Q0n<|cK h fun bl h=>D2q U<|WL.fA 115 (kK (enc:=f5) (l1:=p) (l2:=aH) zjz .h1 (fun _=>U) (kN .here) (gN Jk _) bl) ?_
       rintro⟨bm,bn⟩ _
       exact La U<|WL.nil<|Lt<|Lp ⟨p++aH,bm,bn⟩ h .q<|.s3 .here .h1 .h1
     ·rintro y T V h
      replace h:=(a0 y).symm.trans h
      exact D2q U<|WL.nil<|Nx ⟨bp,y,i64 (a+1),T,V⟩ h (Nat.lt_succ_self _) .q<|.a3
    ·exact Nz<|Lo<|Lo<|Lv<|Lp ⟨p,N,O⟩ h (.cons U .nil)<|.cons .here .nil
   ·rintro M R S h
    replace h:=(aY M).symm.trans h
    exact B2n U<|Nw<|oJ h▸Li results26 (.tmp U .nil) fun w hw=>⟨R,S,w6,trivial,hw.sub (.cons .here .nil)⟩
def jI(c:List z7×Int)(g:zV)(e:List (List zb))(f:(List zp)->Option (yM×Int)):Nat->Int->Int->(List zp)->(List (ym×z2))->(List (z7×Int))->Option (yM×Int)
 | 0,_,_,_,_,_=>none
 | h+1,b,i,d,j,k=>if decide (b<c.1.length) then chk (0<=b/\b<c.1.length) ((uv g e j k i (⟨(nth c.1 b).ya,(nth c.1 b).fQ⟩:z7)).bind fun a=>chk (((d++([a.1]:List zp)).length:Int)*32<=140737488355328/\((d++([a.1]:List zp)).length:Int)<=4611686018427387904) (if decide (a.2.1≠0) then some ((⟨([]:List zp),([]:List zw)⟩:yM),a.2.1) else jI c g e f h (i64 (b+1)) a.2.1 (d++([a.1]:List zp)) a.2.2.1 a.2.2.2)) else f d
def ub(b:zV)(e:Int)(a:List (List zb)):Option (yM×Int):=
 (md b e a).bind fun f=>if !f then some ((⟨([]:List zp),([]:List zw)⟩:yM),310) else(qH b.yg (fun y0=>jW y0)).bind fun g=>if g then some ((⟨([]:List zp),([]:List zw)⟩:yM),350) else(ug a).bind fun c=>if decide (c.2≠0) then some ((⟨([]:List zp),([]:List zw)⟩:yM),c.2) else qP (fun(h:List zp)=>(vM h (fun y0 y1=>qh y0 y1)).bind fun d=>(pp b a d).bind fun i=>some ((⟨d,i⟩:yM),0)) fun j=>jI c b a j xR 0 0 ([]:List zp) ([]:List (ym×z2)) ([]:List (z7×Int))
theorem bP(Z Q R S T V W X Y aa ab ad ae af ag ah ai aj ak a av s r)(h:ub a av s=some r){Nv}(hz:PZ [] Nv Z)(al:ZS Z 4 (gk Z) Q R a.fM)(am:ZS Z 4 (fJ Z) S T a.yf)(an:ZS Z 4 (rq kT) V W a.fS)(ao:ZS Z 4 (rq mM) X Y a.fK)(z:ZS Z 7 (f0 Z) aa ab a.yg)(ap:ZS Z 5 (rq mb) ad ae a.fH)(aq:ZS Z 3 (fO Z) af ag a.fU)(ar:ZS Z 4 (rq mc) ah ai a.ye)(B:ZS Z 1 (mN Z) aj ak s):
  Calls Tryz.prog 10 #[.agg #[vs Q a.fM.length R,vs S a.yf.length T,vs V a.fS.length W,vs X a.fK.length Y,vs aa a.yg.length ab,vs ad a.fH.length ae,vs af a.fU.length ag,vs ah a.ye.length ai],vi av,vs aj s.length ak] Nv fun e w'=>∃ aw:Option Addr,∃ ax:Nat,∃ ay:Option Addr,∃ az:Nat,e = .returned (.tuple #[.agg #[vs aw r.1.fP.length ax,vs ay r.1.yv.length az],vi r.2])/\True/\Hp [] Nv w' [row (vs aw r.1.fP.length ax) 58 4 (r.1.fP.flatMap kz),row (vs ay r.1.yv.length az) 79 3 (r.1.yv.flatMap f5)]:=by
 unfold ub at h
 refine N1 func10 U U ?_
 let D:Value:=(vs Q a.fM.length R);let E:Value:=(vs S a.yf.length T);let F:Value:=(vs V a.fS.length W);let G:Value:=(vs X a.fK.length Y);let H:Value:=(vs aa a.yg.length ab);let I:Value:=(vs ad a.fH.length ae);let J:Value:=(vs af a.fU.length ag);let K:Value:=(vs ah a.ye.length ai);let A:List Value:=[D,E,F,G,H,I,J,K];refine B0q<|Lh 3 (wg (cs:=A)) ?_
 intro M _
 refine Lh 6 (xW (cs:=[vn,vn]) zqL) fun N _=>Q1n U<|WC.b<|WC.b<|bK h fun a1 aG h=>Ld<|Le 14 (xK z3f (xM .h1))<|Q2q U<|Nr call12 hz (fun pz=>oX _ _ _ _ _ _ _ _ _ _ _ _ _ _ _ _ _ _ _ _ _ _ _ aG pz al am an ao z ap aq ar B)<|Q1n U<|Lj h (fun aH h=>?_)<|fun aH h=>?_
 ·exact B0q<|Le 19 (wm (v:=(.agg #[vn,vn])) (Lq (l:=[]) .nil []) (fun _=>by kernel_rfl))<|Ln (xP zgP .here)<|Q1n U<|Nw<|Ll<|WX.nilRow 58 4<|WX.nilRow 79 3<|oJ h▸Li results10 (.agg U zgQ U (xM .h2)<|.tmp U .nil) fun w hw=>⟨none,0,none,0,qz,trivial,hw.sub (.s2 .h1 .here)⟩
 ·refine Nn<|WC.b<|WC.b<|bK h fun a2 aI h=>Ld<|Le 20 (xA mX)<|Le 21 (Nt z8f .h1)<|Nr call18 hz (fun pz=>pJ _ _ _ (zmd:=19) (zuH:=[]) _ (zmc:=(fun y0=>jW y0)) _ aI pz z call19<|fun w' hz' y0 ga0 gc0 r DC hr=>YN _ _ _ _ _ hr hz' DC)<|Q0n<|Lj h (fun aJ h=>?_)<|fun aJ h=>?_
  ·exact B0q<|Le 23 (wm (v:=(.agg #[vn,vn])) (Lq (l:=[]) .nil []) (fun _=>by kernel_rfl))<|Ln (xP zgP .here)<|Q1n U<|Nw<|Ll<|WX.nilRow 58 4<|WX.nilRow 79 3<|oJ h▸Li results10 (.agg U zgQ U (xM .h2)<|.tmp U .nil) fun w hw=>⟨none,0,none,0,qz,trivial,hw.sub (.s2 .h1 .here)⟩
  ·refine Nn<|WC.b<|bK h fun n aK h=>D1q U<|N9 (dd:=26) U (Ns call21) .nil (cc hz .nil fun w pz ho=>nO _ _ _ _ _ aK pz B) ?_
   rintro aU aV _
   refine Q5n U<|WC.b<|B2n U<|Lj h (fun aL h=>?_)<|fun aL h=>?_
   ·exact B0q<|Le 31 (wm (v:=(.agg #[vn,vn])) (Lq (l:=[]) .nil []) (fun _=>by kernel_rfl))<|La U<|Ln (xP zgP .h1)<|Q1n U<|Nw<|Ll<|WX.nilRow 58 4<|WX.nilRow 79 3<|oJ h▸Li results10 (.agg U zgQ U (xM .h2)<|.tmp U .nil) fun w hw=>⟨none,0,none,0,qz,trivial,hw.sub (.s2 .h1 .here)⟩
   ·refine Nn<|B0q<|Le 33 (xK z3f (xM .h2))<|La U (Lh 35 (fh (ga jH)<|fun x=>Value.agg (xZ x).toArray) fun O _=>Lh 36 (fh (ga wp)<|Value.int .i64) ?_)
    intro P _
    let C:Value:=(vs aj s.length ak);refine Le 37 (wm (v:=(.agg #[D,E,F,G,H,I,J,K,C,(.map<|some O),(.map<|some P),vi 0])) (Lq (l:=[.tmp 33,.tmp 34,.tmp 35,.tmp 36,.const (vi 0)]) (.r5 U U U U U) [0,1,2,3,4]) (fun _=>by kernel_rfl))<|Lh 38 (wg (cs:=[D,E,F,G,H,I,J,K,C,(.map<|some O),(.map<|some P),vi 0])) ?_
    intro au _
    refine Q1n U<|B0q (Lh 11 (xW (cs:=[vn,vn]) zqL) fun t _=>Q0n ?_)
    refine jK1 h fun aA aM h=>N5 (fun d f g=>(aA d=some r)) (fun d f g=>[(2,C),(3,vp M),(6,vp N),(11,vp t)]) (fun d f g=>[stb M 31 A,stb N 38 [vn,vn],stb t 38 [vs f d.length g,vn],row (vs f d.length g) 58 4 (d.flatMap kz)]) ?_ ?_
    ·let L:Value:=(vs aU n.1.length aV);refine B1q U<|Le 40 (w9 underlying88)<|Q1n U<|WC.block<|WC.nilRow 58 4<|Ot (fun u c o b p q j k=>(jI n a s aA u c o b p q=some r)) (fun u c o b p q j k=>[(2,C),(3,vp M),(6,vp N),(10,vp au),(11,vp t),(39,L),(40,vi (n.1.length:Int)),(41,vi c)]) (fun u c o b p q j k=>[row L 97 2 (n.1.flatMap wp),stb M 31 A,stb N 38 [vn,vn],stb au 95 [D,E,F,G,H,I,J,K,C,(.map<|some O),(.map<|some P),vi o],stb t 38 [vs j b.length k,vn],row (vs j b.length k) 58 4 (b.flatMap kz),xU O (ga jH) (ga xZ) p,xU P (ga wp) vI q]) (fun u c o b p q j k=>u) ⟨xR,0,0,([]:List zp),([]:List (ym×z2)),([]:List (z7×Int)),none,0⟩ h .q (.s8 .h5 .h6 .h5 .h2 .h1 .here .h1 .here) ?_
     rintro(_|aW) c o b p q j k h;·cases h
     rw[jI] at h
     refine B1n U<|WC.b<|Lj h (fun aN h=>?_)<|fun aN h=>?_
     ·refine Nn<|WC.b<|WC.block<|WC.b<|cK h fun y h=>Ld<|Nj (fun w hw=>Hp.vo .here hw (by intro hz';have:=y;rw[hz'] at this;omega)) ?_
      rintro⟨aY,rfl⟩
      refine Le 43 (xY z8h y.1 y.2 wz)<|Le 44 (wi (cs:=(wp<|nth n.1 c)) z5S<|vB .here<|wG (enc:=wp) (l:=n.1) (i:=c) (sz:=2) (fun _=>U) y.1 y.2) (Lh 13 (xW (cs:=[vi 0,vi 0]) zqM) fun aZ _=>Ln (xP zu7 .here)<|Q0n<|WC.b ?_)
      refine bK h fun m aO h=>cK h fun aP h=>Lu (fun i=>[4,6,8].contains i) [rG t 38 [(0,vs j b.length k)]]<|Lf 0 U (xA rA)<|Nb 1 U (wT.wk (.cons .h5 .nil)<|.stb (.cons U .nil) .nil) (xB zdK U<|mH .here<|.head _)<|Lf 2 U q_m<|Lg 3 U (xK z5S (xM .here)) (WD.call0 (i:=4) (dd:=49) U (by kernel_rfl) U (.inl ⟨U,(wT.wk (.cons .h7 .nil)<|.stb (.cons U .nil) .nil)⟩) (Ns call22) (.s3 .h4 .h6 .h6) (cc hz (.s3 .h4 .h6 .h6) fun w pz ho=>Calls.mono (YQ _ _ _ _ _ _ _ _ _ _ _ _ _ _ _ _ _ _ _ _ _ _ _ _ _ _ _ _ _ aO pz al am an ao z ap aq ar B ho)<|fun _ _ h'=>⟨h'.1,trivial,h'.2⟩) fun _=>WD.new (i:=5) (dd:=50) U (by kernel_rfl) U (ws (cs:=([m.1]:List zp).flatMap kz) z8L (Lq (l:=[.tmp 49]) (.cons U .nil) [0]) (fun _=>by kernel_rfl) (by unfold maxLen;omega)) (fun h'=>absurd h' (by decide)) fun a0 _=>WD.old (i:=6) (dd:=51) U (by kernel_rfl) U (fun _=>(wT.wk (.cons (.there<|.there .h7) .nil)<|.stb (.cons U .nil) .nil)) (kK (enc:=kz) (l1:=b) (l2:=([m.1]:List zp)) z8L (.there<|.there .h7) (fun _=>U) (kN .here) (gN Jj _) aP) ?_)
      rintro⟨aB,aC⟩ _
      refine Lf 7 U (xA rA)<|Nc (i:=8) U (by kernel_rfl) (by kernel_rfl) (kO (ds:=[vs aB ((b++([m.1]:List zp)).length) aC,vn]) zPA (.there<|.there .h7))<|Ny (by kernel_rfl)<|Lb<|B1q U<|Le 54 w3<|Le 55 (xA cw)<|Le 56 (Nt z5n .h3)<|Q1n U<|Lj h (fun aQ h=>?_)<|fun aQ h=>?_
      ·exact WC.b<|Lu (fun i=>[5].contains i) [rG au 95 [(11,vi m.2.1)]]<|Lf 0 U (wm (v:=(.agg #[vn,vn])) (Lq (l:=[]) .nil []) (fun _=>by kernel_rfl))<|Lf 1 U q_m<|Lf 2 U w3<|Lf 3 U (xA cw)<|Nb 4 U (wT.wk (.cons .h3 .nil)<|.stb (.cons U .nil) .nil) (xB z5n U<|mH .here<|.head _)<|WD.forced0 (i:=5) U (by kernel_rfl) (wT.wk (.cons .h4 .nil)<|.stb (.cons U .nil) .nil) (xP zgP (.there<|.there .h7))<|Lf 6 U q_z<|Ny (by kernel_rfl)<|Lb<|Nw<|Ly<|Ll<|Ll<|Ly<|Ll<|WX.nilRow 58 4<|WX.nilRow 79 3<|oJ h▸Li results10 (.agg U zgQ U (xM .h2)<|.tmp U .nil) fun w hw=>⟨none,0,none,0,qz,trivial,hw.sub (.s2 .h1 .here)⟩
      ·exact N0<|Lt<|Lb<|D2q U<|WL.nil<|Nx ⟨aW,i64 (c+1),m.2.1,b++([m.1]:List zp),m.2.2.1,m.2.2.2,aB,aC⟩ h (Nat.lt_succ_self _) .q<|.s8 .h7 .h7 .h7 .h3 .here .here .h1 .h1
     ·exact Nz<|Lo<|Lo<|Lv<|Lp ⟨b,j,k⟩ h .q<|.s4 .h1 .h1 .h2 .h2
    ·rintro d f g h
     replace h:=(aM d).symm.trans h
     refine WC.b<|bK h fun aD aR h=>Ld<|Le 64 (xA rA)<|Le 65 (Nt zdK .h2)<|Na (dd:=66) U (Ns call23) (.cons .h3 .nil) (cc hz (.cons .h3 .nil) fun w pz ho=>tL _ _ _ (zor:=24) (zwn:=[]) _ (zoq:=(fun y0 y1=>qh y0 y1)) _ aR pz call24 (fun w' hz' y0 y1  r  hr=>YR _ _ _ _ hr hz' ) ho) ?_
     rintro  aS
     refine H3 (cs':=[vs f aD.length g,vn]) .h3 (by rw[aS])<|Q0n<|WC.b<|bK h fun aX aT h=>Ld<|Le 67 (xK z3f (xM .h2))<|La U<|Le 69 (xA rA)<|Le 70 (Nt zdK .here)<|N9 (dd:=71) U (Ns call26) .nil (uC hz .nil (.cons .h1 .nil) fun w pz ho la=>Jw _ _ _ _ _ _ _ _ _ _ _ _ _ _ _ _ _ _ _ _ _ _ _ _ _ aT pz ((al.mono<|zl).weak (fun _ _ h=>qQ zl h)) ((am.mono<|zl).weak (fun _ _ h=>qX zl h)) (an.mono<|zl) (ao.mono<|zl) ((z.mono<|zl).weak (fun _ _ h=>qN zl h)) (ap.mono<|zl) ((aq.mono<|zl).weak (fun _ _ h=>qY zl h)) (ar.mono<|zl) ((B.mono<|zl).weak (fun _ _ h=>jc zl h))<|ZA.row (la _ (.head _) _) (RR.flat (enc:=kz) (fun _=>U) _) ⟨w,pz.1⟩) ?_
     rintro aE aF _
     exact Le 72 (xA lN)<|Ln (kO (ds:=[vs f aD.length g,vs aE aX.length aF]) zPB .h1)<|Q0n<|B0q<|Le 73 (xK zgQ (xM .here))<|Ln (xP zgP .h4)<|Q1n U<|Nw<|oJ h▸Li results10 (.agg U zgQ U (xM .here)<|.tmp U .nil) fun w hw=>⟨f,g,aE,aF,qz,trivial,hw.sub (.s2 .h3 .h2)⟩
def uU(b:List z7×Int)(d:(List zp)->Option (List zp×Int)):Nat->(List zp)->Int->Option (List zp×Int)
 | 0,_,_=>none
 | e+1,c,a=>if decide (a<b.1.length) then chk (0<=a/\a<b.1.length) (chk ((((c++([({(nth b.1 a) with yl:=0,fT:=0}:zp)]:List zp)).length:Nat):Int)*32<=140737488355328/\(((c++([({(nth b.1 a) with yl:=0,fT:=0}:zp)]:List zp)).length:Nat):Int)<=4611686018427387904) (uU b d e (c++([({(nth b.1 a) with yl:=0,fT:=0}:zp)]:List zp)) (i64 (a+1)))) else d c
def iL(c:zV)(d:Int)(a:List (List zb)):Option (List zp×Int):=
 (md c d a).bind fun e=>if !e then some (([]:List zp),310) else(ug a).bind fun b=>qP (fun(f:List zp)=>some (f,b.2)) fun g=>uU b g xR ([]:List zp) 0
theorem QG(Z p q s t u x y z B C D E F G H I K L a M J r)(h:iL a M J=some r){Nv}(hz:PZ [] Nv Z)(R:ZS Z 4 (gk Z) p q a.fM)(S:ZS Z 4 (fJ Z) s t a.yf)(T:ZS Z 4 (rq kT) u x a.fS)(V:ZS Z 4 (rq mM) y z a.fK)(W:ZS Z 7 (f0 Z) B C a.yg)(X:ZS Z 5 (rq mb) D E a.fH)(Y:ZS Z 3 (fO Z) F G a.fU)(aa:ZS Z 4 (rq mc) H I a.ye)(N:ZS Z 1 (mN Z) K L J):
  Calls Tryz.prog 13 #[.agg #[vs p a.fM.length q,vs s a.yf.length t,vs u a.fS.length x,vs y a.fK.length z,vs B a.yg.length C,vs D a.fH.length E,vs F a.fU.length G,vs H a.ye.length I],vi M,vs K J.length L] Nv fun e w'=>∃ O:Option Addr,∃ P:Nat,e = .returned (.tuple #[vs O r.1.length P,vi r.2])/\True/\Hp [] Nv w' [row (vs O r.1.length P) 58 4 (r.1.flatMap kz)]:=by
 unfold iL at h
 refine N1 func13 U U<|B0q (Lh 3 (wg (cs:=[vs p a.fM.length q,vs s a.yf.length t,vs u a.fS.length x,vs y a.fK.length z,vs B a.yg.length C,vs D a.fH.length E,vs F a.fU.length G,vs H a.ye.length I])) fun an _=>Q2n U<|WC.b<|WC.b ?_)
 refine bK h fun ar ab h=>Ld<|Le 13 (xK z3f (xM .here))<|Q2q U<|Nr call12 hz (fun pz=>oX _ _ _ _ _ _ _ _ _ _ _ _ _ _ _ _ _ _ _ _ _ _ _ ab pz R S T V W X Y aa N)<|Q1n U<|Lj h (fun ad h=>?_)<|fun ad h=>?_
 ·exact B2n U<|Nw<|Ll<|WX.nilRow 58 4<|oJ h▸Li results13 (.tmp U<|.tmp U .nil) fun w hw=>⟨none,0,qz,trivial,hw.sub (.cons .here .nil)⟩
 ·refine Nn<|WC.b<|bK h fun c ae h=>D1q U<|N9 (dd:=20) U (Ns call21) .nil (cc hz .nil fun w pz ho=>nO _ _ _ _ _ ae pz N) ?_
  rintro ak al _
  refine Q5n U<|B1n U<|jK1 h fun Q af h=>N5 (fun f k m=>(Q f=some r)) (fun f k m=>[(9,vi c.2),(10,vs k f.length m)]) (fun f k m=>[row (vs k f.length m) 58 4 (f.flatMap kz)]) ?_ ?_
  ·let A:Value:=(vs ak c.1.length al);refine B1q U<|Le 24 (w9 underlying88)<|Q1n U<|WC.block<|WC.nilRow 58 4<|Dy (fun n d b g j=>(uU c Q n d b=some r)) (fun n d b g j=>[(9,vi c.2),(10,vs g d.length j),(23,A),(24,vi (c.1.length:Int)),(25,vi b)]) (fun n d b g j=>[row (vs g d.length j) 58 4 (d.flatMap kz),row A 97 2 (c.1.flatMap wp)]) (fun n d b g j=>n) ⟨xR,([]:List zp),0,none,0⟩ h .q .a2 ?_
   rintro(_|am) d b g j h;·cases h
   rw[uU] at h
   refine B1n U<|WC.b<|Lj h (fun ag h=>?_)<|fun ag h=>?_
   ·refine Nn<|WC.b<|WC.block<|WC.b<|cK h fun o h=>Ld<|Nj (fun w hw=>Hp.vo .h1 hw (by intro hz';have:=o;rw[hz'] at this;omega)) ?_
    rintro⟨ao,rfl⟩
    refine Le 27 (xY z8h o.1 o.2 wz)<|Le 28 (wi (cs:=(wp<|nth c.1 b)) z5S<|vB .h1<|wG (enc:=wp) (l:=c.1) (i:=b) (sz:=2) (fun _=>U) o.1 o.2) (Lh 12 (xW (cs:=[vi 0,vi 0]) zqM) fun ap _=>Ln (xP zu7 .here)<|Q0n ?_)
    refine cK h fun ah h=>D1q U<|Le 30 (xA cv)<|Le 31 (Nt xL .here)<|Le 32 (xA dN)<|Le 33 (Nt xL .here)<|Le 34 (wm (v:=(.agg #[(vi<|(nth c.1 b).ya),(vi<|(nth c.1 b).fQ),vi 0,vi 0])) (Lq (l:=[.tmp 31,.tmp 33]) (.r2 U U) [0,1]) (fun _=>by kernel_rfl)) (Lh 35 (ws (cs:=([({(nth c.1 b) with yl:=0,fT:=0}:zp)]:List zp).flatMap kz) z8L (Lq (l:=[.tmp 34]) (.cons U .nil) [0]) (fun _=>by kernel_rfl) (by unfold maxLen;omega)) fun aq _=>WL.fA 36 (kK (enc:=kz) (l1:=d) (l2:=([({(nth c.1 b) with yl:=0,fT:=0}:zp)]:List zp)) z8L .h2 (fun _=>U) (kN .here) (gN Jj _) ah) ?_)
    rintro⟨ai,aj⟩ _
    exact La U<|WL.nil<|Lt<|Lb<|D2q U<|WL.nil<|Nx ⟨am,d++([({(nth c.1 b) with yl:=0,fT:=0}:zp)]:List zp),i64 (b+1),ai,aj⟩ h (Nat.lt_succ_self _) .q<|.s2 .here .h2
   ·exact Nz<|Lo<|Lo<|Lv<|Lp ⟨d,g,j⟩ h .q<|.cons .here .nil
  ·rintro f k m h
   replace h:=(af f).symm.trans h
   exact B4n U<|Nw<|oJ h▸Li results13 (.tmp U<|.tmp U .nil) fun w hw=>⟨k,m,qz,trivial,hw.sub (.cons .here .nil)⟩
def tM(b:yM)(c:yM)(d:Option Bool):Nat->Int->Option Bool
 | 0,_=>none
 | e+1,a=>if decide (a<b.fP.length) then chk (0<=a/\a<b.fP.length) (chk (0<=a/\a<c.fP.length) (if decide ((⟨(nth b.fP a).ya,(nth b.fP a).fQ,(nth b.fP a).yl,(nth b.fP a).fT⟩:zp)≠(⟨(nth c.fP a).ya,(nth c.fP a).fQ,(nth c.fP a).yl,(nth c.fP a).fT⟩:zp)) then some false else tM b c d e (i64 (a+1)))) else d
def tN(b:yM)(c:yM)(d:Option Bool):Nat->Int->Option Bool
 | 0,_=>none
 | e+1,a=>if decide (a<b.yv.length) then chk (0<=a/\a<b.yv.length) (chk (0<=a/\a<c.yv.length) (if decide ((⟨(nth b.yv a).yq,(nth b.yv a).ya,(nth b.yv a).yl⟩:zw)≠(⟨(nth c.yv a).yq,(nth c.yv a).ya,(nth c.yv a).yl⟩:zw)) then some false else tN b c d e (i64 (a+1)))) else d
def cT(a:yM)(b:yM):Option Bool:=
 if (decide ((a.fP.length:Int)≠(b.fP.length:Int)))||(decide ((a.yv.length:Int)≠(b.yv.length:Int))) then some false else uB (uB (some true) fun c=>tN a b c xR 0) fun d=>tM a b d xR 0
theorem Jx(Z m n o p q s t u c d r)(h:cT c d=some r){Nv}(hz:PZ [] Nv Z)(y:ZS Z 4 (rq kz) m n c.fP)(z:ZS Z 3 (rq f5) o p c.yv)(D:ZS Z 4 (rq kz) q s d.fP)(E:ZS Z 3 (rq f5) t u d.yv):
  RC 17 #[.agg #[vs m c.fP.length n,vs o c.yv.length p],.agg #[vs q d.fP.length s,vs t d.yv.length u]] Nv (.bool r) [] []:=by
 unfold cT at h
 refine Lz func17 U U ?_
 let A:List Value:=[vs m c.fP.length n,vs o c.yv.length p];refine B0q<|Lh 2 (wg (cs:=A)) ?_
 intro g _
 let C:List Value:=[vs q d.fP.length s,vs t d.yv.length u];refine Lh 3 (wg (cs:=C)) ?_
 intro i _
 refine Q1n U<|WC.b<|B0q<|Le 7 (xA rA)<|Le 8 (Nt zdK .h1)<|Le 9 (w9 underlying35)<|Le 10 (xA rA)<|Le 11 (Nt zdK .here)<|Le 12 (w9 underlying35)<|Q2q U<|Lw false 7 14 (B:=(decide ((c.fP.length:Int)≠(d.fP.length:Int)))||(decide ((c.yv.length:Int)≠(d.yv.length:Int)))) (fun h=>(gQ h).symm) (fun _ F=>?_) ?_
 ·exact Le 15 (xA lN)<|Le 16 (Nt zm2 .h1)<|Le 17 (w9 underlying36)<|Le 18 (xA lN)<|Le 19 (Nt zm2 .here)<|Le 20 (w9 underlying36)<|Q2q U<|Lx (gR F) U .all
 refine Q0n<|Lj h (fun G h=>?_)<|fun G h=>?_
 ·exact B1n U<|Nw<|Ll<|oJ h▸Nl results17
 ·refine Nn<|jK0 h fun v H h=>Nd (v=some r) ([(2,vp g),(3,vp i)]) ([stb g 38 A,stb i 38 C]) ?_ ?_
  ·refine B1n U<|WC.block<|Ng (fun k e=>(tM c d v k e=some r)) (fun k e=>[(2,vp g),(3,vp i),(5,vi e)]) (fun k e=>[stb g 38 A,stb i 38 C]) (fun k e=>k) ⟨xR,0⟩ h .q (.s2 .h1 .here) ?_
   rintro(_|W) e h;·cases h
   rw[tM] at h
   refine WC.b<|B1q U<|Le 24 (xA rA)<|Le 25 (Nt zdK .here)<|Le 26 (w9 underlying35)<|Q1n U<|Lj h (fun I h=>?_)<|fun I h=>?_
   ·refine Nn<|WC.b<|WC.block<|WC.b<|cK h fun J h=>cK h fun K h=>Lu nc []<|Lf 0 U (xA rA)<|Lg 1 U (Nt zdK .here)<|Lf 2 U q_m<|Nf (j:=3) (dd:=33) (by kernel_rfl) z2B z2C (Z:=Z) (Pr:=(rq kz)) z8L y J ?_
    rintro Y aa L ab rfl
    refine Lg 4 U (xK zm1 (qV hz.pv L))<|Lf 5 U (xA rA)<|Lg 6 U (Nt zdK .h1)<|Lf 7 U q_m<|Nf (j:=8) (dd:=38) (by kernel_rfl) z2B z2C (Z:=Z) (Pr:=(rq kz)) z8L D K ?_
    rintro ad ae M af rfl
    refine Lg 9 U (xK zm1 (qV hz.pv M))<|Lf 10 U (eN (enc:=kz) (a:=(⟨(nth c.fP e).ya,(nth c.fP e).fQ,(nth c.fP e).yl,(nth c.fP e).fT⟩:zp)) (b:=(⟨(nth d.fP e).ya,(nth d.fP e).fQ,(nth d.fP e).yl,(nth d.fP e).fT⟩:zp)) zy5 U U)<|Ny (by kernel_rfl)<|Lb<|Lj h (fun N h=>?_)<|fun N h=>?_
    ·exact B1n U<|Nw<|Ly<|Ll<|Ll<|Ly<|Ll<|oJ h▸Nl results17
    ·exact N0<|Lt<|Lb<|D3q U<|WL.nil<|Nx ⟨W,i64 (e+1)⟩ h (Nat.lt_succ_self _) .q<|.a2
   ·exact Nz<|Lo<|Lo<|Lv<|Lp () h .q<|.a2
  ·rintro  h
   replace h:=H.symm.trans h
   refine jK0 h fun x O h=>Nd (x=some r) ([]) ([]) ?_ ?_
   ·refine B1n U<|WC.block<|Ng (fun l f=>(tN c d x l f=some r)) (fun l f=>[(2,vp g),(3,vp i),(6,vi f)]) (fun l f=>[stb g 38 A,stb i 38 C]) (fun l f=>l) ⟨xR,0⟩ h .q .a2 ?_
    rintro(_|X) f h;·cases h
    rw[tN] at h
    refine WC.b<|B1q U<|Le 42 (xA lN)<|Le 43 (Nt zm2 .here)<|Le 44 (w9 underlying36)<|Q1n U<|Lj h (fun P h=>?_)<|fun P h=>?_
    ·refine Nn<|WC.b<|WC.block<|WC.b<|cK h fun Q h=>cK h fun R h=>Lu nc []<|Lf 0 U (xA lN)<|Lg 1 U (Nt zm2 .here)<|Lf 2 U q_m<|Nf (j:=3) (dd:=51) (by kernel_rfl) z2B z2C (Z:=Z) (Pr:=(rq f5)) zjz z Q ?_
     rintro ag ah S ai rfl
     refine Lg 4 U (xK zy6 (qV hz.pv S))<|Lf 5 U (xA lN)<|Lg 6 U (Nt zm2 .h1)<|Lf 7 U q_m<|Nf (j:=8) (dd:=56) (by kernel_rfl) z2B z2C (Z:=Z) (Pr:=(rq f5)) zjz E R ?_
     rintro aj ak T al rfl
     refine Lg 9 U (xK zy6 (qV hz.pv T))<|Lf 10 U (eN (enc:=f5) (a:=(⟨(nth c.yv f).yq,(nth c.yv f).ya,(nth c.yv f).yl⟩:zw)) (b:=(⟨(nth d.yv f).yq,(nth d.yv f).ya,(nth d.yv f).yl⟩:zw)) zPC U U)<|Ny (by kernel_rfl)<|Lb<|Lj h (fun V h=>?_)<|fun V h=>?_
     ·exact B1n U<|Nw<|Ly<|Ll<|Ll<|Ly<|Ll<|oJ h▸Nl results17
     ·exact N0<|Lt<|Lb<|D3q U<|WL.nil<|Nx ⟨X,i64 (f+1)⟩ h (Nat.lt_succ_self _) .q<|.a2
    ·exact Nz<|Lo<|Lo<|Lv<|Lp () h .nil .nil
   ·rintro  h
    replace h:=O.symm.trans h
    exact B1n U<|Nw<|oJ h▸Nl results17
def uj  : Option Bool:=
 (oW).bind fun b=>(ub b.1 0 b.2).bind fun d=>(iL b.1 0 b.2).bind fun a=>(if (decide (d.2=0))&&(decide (a.2=0)) then(cT d.1 (⟨([(⟨0,0,40,80⟩:zp),(⟨2,1,56,91⟩:zp)]:List zp),([(⟨0,1,96⟩:zw)]:List zw)⟩:yM)).bind fun e=>some e else some false).bind fun c=>chk ((c&&(decide ((a.1.length:Int)=2)))=true->((0:Int)<=0/\0<(a.1.length:Int))) (chk (((c&&(decide ((a.1.length:Int)=2)))&&(decide ((⟨(nth a.1 0).ya,(nth a.1 0).fQ,(nth a.1 0).yl,(nth a.1 0).fT⟩:zp)=(⟨0,0,0,0⟩:zp))))=true->((0:Int)<=1/\1<(a.1.length:Int))) (some (((c&&(decide ((a.1.length:Int)=2)))&&(decide ((⟨(nth a.1 0).ya,(nth a.1 0).fQ,(nth a.1 0).yl,(nth a.1 0).fT⟩:zp)=(⟨0,0,0,0⟩:zp))))&&(decide ((⟨(nth a.1 1).ya,(nth a.1 1).fQ,(nth a.1 1).yl,(nth a.1 1).fT⟩:zp)=(⟨2,1,0,0⟩:zp))))))
theorem oh(Z r)(h:uj=some r){Nv}(hz:PZ [] Nv Z):
  RC 9 #[] Nv (.bool r) [] []:=by
 unfold uj at h
 refine Co func9 U U<|WC.pool<|B1n U<|WC.b<|bK h fun ax x h=>Ld<|P2 (dd:=9) U U U (Ns call14) .nil (sO hz .nil .here fun w pz ho=>W9 _ _ x pz ) ?_
 rintro L M N O P Q R S T V W X Y aa ab ad ae af ag ah ai aj ⟨j,k,m,n,o,p,q⟩
 refine WL.merge .here .h5<|Q2q U<|La U (Lh 1 (xW (cs:=[vn,vn,vn,vn,vn,vn,vn,vn]) zu5) fun ak _=>Ln (xP zu6 .here)<|Q1n U<|WC.b ?_)
 refine bK h fun K y h=>Ld<|Le 13 (xK z3f (xM .here))<|La U<|Oj (dd:=15) U (Ns call10) .nil (eQ hz .nil .h1 (.s5 .h2 .h2 .h2 .h2 .h2) fun w pz ho la=>bP _ _ _ _ _ _ _ _ _ _ _ _ _ _ _ _ _ _ _ _ _ _ _ y pz (ZA.row (la _ (.head _) _) ((j.weak<|fun _ _ h=>qQ (xN.qC _ _ _) h).weak (fun _ _ h=>qQ zl h)) ⟨w,pz.1⟩) ((((k.mono<|xN.qC _ _ _).weak (fun _ _ h=>qX (xN.qC _ _ _) h)).mono zl).weak (fun _ _ h=>qX zl h)) (ZA.row (la _ (.tail _<|.head _) _) (RR.flat (enc:=kT) (fun _=>U) _) ⟨w,pz.1⟩) (ZA.row (la _ (.tail _<|.tail _<|.head _) _) (RR.flat (enc:=mM) (fun _=>U) _) ⟨w,pz.1⟩) (ZA.row (la _ (.tail _<|.tail _<|.tail _<|.head _) _) ((m.weak<|fun _ _ h=>qN (xN.qC _ _ _) h).weak (fun _ _ h=>qN zl h)) ⟨w,pz.1⟩) ((n.mono<|xN.qC _ _ _).mono zl) ((((o.mono<|xN.qC _ _ _).weak (fun _ _ h=>qY (xN.qC _ _ _) h)).mono zl).weak (fun _ _ h=>qY zl h)) ((p.mono<|xN.qC _ _ _).mono zl)<|ZA.row (la _ (.tail _<|.tail _<|.tail _<|.tail _<|.head _) _) ((q.weak<|fun _ _ h=>jc (xN.qC _ _ _) h).weak (fun _ _ h=>jc zl h)) ⟨w,pz.1⟩) ?_
 rintro al am an ao _
 refine Q2q U<|La U (Lh 3 (xW (cs:=[vn,vn]) zqL) fun ap _=>Ln (xP zgP .here)<|Q1n U<|WC.b ?_)
 refine bK h fun c z h=>Ld<|Le 19 (xK z3f (xM .h3))<|La U<|N9 (dd:=21) U (Ns call13) .nil (eQ hz .nil .h4 (.s5 .h5 .h5 .h5 .h5 .h5) fun w pz ho la=>QG _ _ _ _ _ _ _ _ _ _ _ _ _ _ _ _ _ _ _ _ _ _ _ z pz (ZA.row (la _ (.head _) _) ((j.weak<|fun _ _ h=>qQ (xN.qC _ _ _) h).weak (fun _ _ h=>qQ zl h)) ⟨w,pz.1⟩) ((((k.mono<|xN.qC _ _ _).weak (fun _ _ h=>qX (xN.qC _ _ _) h)).mono zl).weak (fun _ _ h=>qX zl h)) (ZA.row (la _ (.tail _<|.head _) _) (RR.flat (enc:=kT) (fun _=>U) _) ⟨w,pz.1⟩) (ZA.row (la _ (.tail _<|.tail _<|.head _) _) (RR.flat (enc:=mM) (fun _=>U) _) ⟨w,pz.1⟩) (ZA.row (la _ (.tail _<|.tail _<|.tail _<|.head _) _) ((m.weak<|fun _ _ h=>qN (xN.qC _ _ _) h).weak (fun _ _ h=>qN zl h)) ⟨w,pz.1⟩) ((n.mono<|xN.qC _ _ _).mono zl) ((((o.mono<|xN.qC _ _ _).weak (fun _ _ h=>qY (xN.qC _ _ _) h)).mono zl).weak (fun _ _ h=>qY zl h)) ((p.mono<|xN.qC _ _ _).mono zl)<|ZA.row (la _ (.tail _<|.tail _<|.tail _<|.tail _<|.head _) _) ((q.weak<|fun _ _ h=>jc (xN.qC _ _ _) h).weak (fun _ _ h=>jc zl h)) ⟨w,pz.1⟩) ?_
 rintro aq ar _
 refine Q5n U<|B0q<|Le 24 (wm (v:=(.agg #[vi 0,vi 0,vi 40,vi 80])) (Lq (l:=[.const (vi 0),.const (vi 0),.const (vi 40),.const (vi 80)]) (.r4 U U U U) [0,1,2,3]) (fun _=>by kernel_rfl))<|Le 25 (wm (v:=(.agg #[vi 2,vi 1,vi 56,vi 91])) (Lq (l:=[.const (vi 2),.const (vi 1),.const (vi 56),.const (vi 91)]) (.r4 U U U U) [0,1,2,3]) (fun _=>by kernel_rfl)) (Lh 26 (ws (cs:=([(⟨0,0,40,80⟩:zp),(⟨2,1,56,91⟩:zp)]:List zp).flatMap kz) z8L (Lq (l:=[.tmp 24,.tmp 25]) (.r2 U U) [0,1]) (fun _=>by kernel_rfl) (by unfold maxLen;omega)) fun C _=>Le 27 (wm (v:=(.agg #[vi 0,vi 1,vi 96])) (Lq (l:=[.const (vi 0),.const (vi 1),.const (vi 96)]) (.r3 U U U) [0,1,2]) (fun _=>by kernel_rfl)) (Lh 28 (ws (cs:=([(⟨0,1,96⟩:zw)]:List zw).flatMap f5) zjz (Lq (l:=[.tmp 27]) (.cons U .nil) [0]) (fun _=>by kernel_rfl) (by unfold maxLen;omega)) fun D _=>Le 29 (wm (v:=(.agg #[vs (some ⟨C,0,none⟩) (([(⟨0,0,40,80⟩:zp),(⟨2,1,56,91⟩:zp)]:List zp).length) 2,vs (some ⟨D,0,none⟩) (([(⟨0,1,96⟩:zw)]:List zw).length) 1])) (Lq (l:=[.tmp 26,.tmp 28]) (.r2 U U) [0,1]) (fun _=>by kernel_rfl)) (Lh 7 (xW (cs:=[vn,vn]) zqL) fun au _=>Ln (xP zgP .here)<|Q0n<|WC.b ?_)))
 refine bK h fun g s h=>cK h fun E h=>cK h fun F h=>D3q U<|Lw true 2 32 (B:=(decide (K.2=0))&&(decide (c.2=0))) (fun h=>(jR h).symm) (fun _ G=>?_) ?_
 ·exact Q3q U<|Lx (jS G) U .all
 refine La U<|Lw true 3 36 (B:=g) (fun h=>(oJ<|jE s h).symm) (fun _ H=>?_) ?_
 ·have d:=jD s H
  obtain⟨ay,I,d⟩:=z8 d
  replace d:=oJ d
  exact Le 37 (xK zgQ (xM .h4))<|Le 38 (xK zgQ (xM .here))<|Lm 39 (Ns call17) .nil (eQ hz .nil (.there .h7) (.s4 .h5 .h5 .h2 .h1) fun w pz ho la=>Jx _ _ _ _ _ _ _ _ _ _ _ _ I pz (ZA.row (la _ (.head _) _) (RR.flat (enc:=kz) (fun _=>U) _) ⟨w,pz.1⟩) (ZA.row (la _ (.tail _<|.head _) _) (RR.flat (enc:=f5) (fun _=>U) _) ⟨w,pz.1⟩) (ZA.row (la _ (.tail _<|.tail _<|.head _) _) (RR.flat (enc:=kz) (fun _=>U) _) ⟨w,pz.1⟩)<|ZA.row (la _ (.tail _<|.tail _<|.tail _<|.head _) _) (RR.flat (enc:=f5) (fun _=>U) _) ⟨w,pz.1⟩)<|La U<|Lx d U .all
 let A:=(c.1.length:Int);refine La U<|Lw true 3 41 (B:=g&&(decide (A=2))) (fun h=>(jR h).symm) (fun _ J=>?_) ?_
 ·exact La U<|Le 43 (w9 underlying35)<|Q2q U<|Lx (jS J) U .all
 refine La U<|Lw true 5 46 (B:=(g&&(decide (A=2)))&&(decide ((⟨(nth c.1 0).ya,(nth c.1 0).fQ,(nth c.1 0).yl,(nth c.1 0).fT⟩:zp)=(⟨0,0,0,0⟩:zp)))) (fun h=>(jR h).symm) (fun _ t=>?_) ?_
 ·have e:=E t
  refine La U<|Nj (fun w hw=>Hp.vo .h3 hw (by intro hz';have:=e;rw[hz'] at this;omega)) ?_
  rintro⟨av,rfl⟩
  exact Le 48 (xY z8L e.1 e.2 wz)<|Le 49 (wi (cs:=(kz<|nth c.1 0)) zm1<|vB .h3<|wG (enc:=kz) (l:=c.1) (i:=0) (sz:=4) (fun _=>U) e.1 e.2)<|Le 50 (wm (v:=(.agg #[vi 0,vi 0,vi 0,vi 0])) (Lq (l:=[]) .nil []) (fun _=>by kernel_rfl))<|Le 51 (oq (enc:=kz) (a:=(⟨(nth c.1 0).ya,(nth c.1 0).fQ,(nth c.1 0).yl,(nth c.1 0).fT⟩:zp)) (b:=(⟨0,0,0,0⟩:zp)) zy5)<|La U<|Lx (jS t) U .all
 refine La U<|Lw true 5 53 (B:=((g&&(decide (A=2)))&&(decide ((⟨(nth c.1 0).ya,(nth c.1 0).fQ,(nth c.1 0).yl,(nth c.1 0).fT⟩:zp)=(⟨0,0,0,0⟩:zp))))&&(decide ((⟨(nth c.1 1).ya,(nth c.1 1).fQ,(nth c.1 1).yl,(nth c.1 1).fT⟩:zp)=(⟨2,1,0,0⟩:zp)))) (fun h=>(jR h).symm) (fun _ u=>?_) ?_
 ·have f:=F u
  refine La U<|Nj (fun w hw=>Hp.vo .h3 hw (by intro hz';have:=f;rw[hz'] at this;omega)) ?_
  rintro⟨aw,rfl⟩
  exact Le 55 (xY z8L f.1 f.2 wz)<|Le 56 (wi (cs:=(kz<|nth c.1 1)) zm1<|vB .h3<|wG (enc:=kz) (l:=c.1) (i:=1) (sz:=4) (fun _=>U) f.1 f.2)<|Le 57 (wm (v:=(.agg #[vi 2,vi 1,vi 0,vi 0])) (Lq (l:=[.const (vi 2),.const (vi 1)]) (.r2 U U) [0,1]) (fun _=>by kernel_rfl))<|Le 58 (oq (enc:=kz) (a:=(⟨(nth c.1 1).ya,(nth c.1 1).fQ,(nth c.1 1).yl,(nth c.1 1).fT⟩:zp)) (b:=(⟨2,1,0,0⟩:zp)) zy5)<|La U<|Lx (jS u) U .all
 exact Q1n U<|Nw<|oJ h▸Nl results9
def gg(a:List Int)(c:zV)(e:List Int)(h:List Int)(k:(List yB)->Option (List yB)):Nat->(List yB)->(List Int)->Int->Int->Option (List yB)
 | 0,_,_,_,_=>none
 | p+1,i,d,f,b=>if decide (b<(((a.take ((min (a.length:Int) 40):Int).toNat).length:Nat):Int)) then chk (0<=b/\b<(((a.take ((min (a.length:Int) 40):Int).toNat).length:Nat):Int)) (chk (((c.yg.length:Int):Int)≠0) (qP (fun(l:Int)=>chk (0<=(Int.tmod (i64 (nth (a.take ((min (a.length:Int) 40):Int).toNat) b)) (c.yg.length:Int))/\(Int.tmod (i64 (nth (a.take ((min (a.length:Int) 40):Int).toNat) b)) (c.yg.length:Int))<c.yg.length) (qP (fun(j:Int)=>chk (0<=(Int.tmod (i64 (nth (a.take ((min (a.length:Int) 40):Int).toNat) b)) (c.yg.length:Int))/\(Int.tmod (i64 (nth (a.take ((min (a.length:Int) 40):Int).toNat) b)) (c.yg.length:Int))<d.length) (qP (fun(g:Int)=>chk (0<=(Int.tmod (i64 (nth (a.take ((min (a.length:Int) 40):Int).toNat) b)) (c.yg.length:Int))/\(Int.tmod (i64 (nth (a.take ((min (a.length:Int) 40):Int).toNat) b)) (c.yg.length:Int))<c.yg.length) (chk (0<=(Int.tmod (i64 (nth (a.take ((min (a.length:Int) 40):Int).toNat) b)) (c.yg.length:Int))/\(Int.tmod (i64 (nth (a.take ((min (a.length:Int) 40):Int).toNat) b)) (c.yg.length:Int))<d.length) (chk ((((i++([(⟨i64 ((max f (nth d (Int.tmod (i64 (nth (a.take ((min (a.length:Int) 40):Int).toNat) b)) (c.yg.length:Int))))+g),Int.tmod (i64 (nth (a.take ((min (a.length:Int) 40):Int).toNat) b)) (c.yg.length:Int),j⟩:yB)]:List yB)).length:Nat):Int)*24<=140737488355328/\(((i++([(⟨i64 ((max f (nth d (Int.tmod (i64 (nth (a.take ((min (a.length:Int) 40):Int).toNat) b)) (c.yg.length:Int))))+g),Int.tmod (i64 (nth (a.take ((min (a.length:Int) 40):Int).toNat) b)) (c.yg.length:Int),j⟩:yB)]:List yB)).length:Nat):Int)<=4611686018427387904) (gg a c e h k p (i++([(⟨i64 ((max f (nth d (Int.tmod (i64 (nth (a.take ((min (a.length:Int) 40):Int).toNat) b)) (c.yg.length:Int))))+g),Int.tmod (i64 (nth (a.take ((min (a.length:Int) 40):Int).toNat) b)) (c.yg.length:Int),j⟩:yB)]:List yB)) (d.set ((Int.tmod (i64 (nth (a.take ((min (a.length:Int) 40):Int).toNat) b)) (c.yg.length:Int)):Int).toNat (i64 ((i64 ((max f (nth d (Int.tmod (i64 (nth (a.take ((min (a.length:Int) 40):Int).toNat) b)) (c.yg.length:Int))))+g))+((nth c.yg (Int.tmod (i64 (nth (a.take ((min (a.length:Int) 40):Int).toNat) b)) (c.yg.length:Int))).yK)))) (i64 ((max f (nth d (Int.tmod (i64 (nth (a.take ((min (a.length:Int) 40):Int).toNat) b)) (c.yg.length:Int))))+g)) (i64 (b+1)))))) fun m=>if decide (l<1000) then m 0 else m l)) fun n=>chk ((decide (b<e.length))=true->(0<=b/\b<e.length)) (if (decide (b<e.length))&&(decide ((bits .and .u8 (nth e b) 1)=1)) then chk (0<=b/\b<e.length) (chk ((((nth c.yg (Int.tmod (i64 (nth (a.take ((min (a.length:Int) 40):Int).toNat) b)) (c.yg.length:Int))).yC):Int)≠0) (n (i64 (1+(Int.tmod (i64 (nth e b)) ((nth c.yg (Int.tmod (i64 (nth (a.take ((min (a.length:Int) 40):Int).toNat) b)) (c.yg.length:Int))).yC)))))) else n ((nth c.yg (Int.tmod (i64 (nth (a.take ((min (a.length:Int) 40):Int).toNat) b)) (c.yg.length:Int))).yC)))) fun o=>if decide (b<h.length) then chk (0<=b/\b<h.length) (o (Int.tmod (i64 (nth h b)) 2000)) else o 0)) else k i
def tO(a:zV)(b:List Int)(c:List Int)(d:List Int):Option (List yB):=
 if decide ((a.yg.length:Int)=0) then some ([]:List yB) else chk (0<=(a.yg.length:Int)/\((a.yg.length:Int):Int)<=a.yg.length/\((a.yg.length:Int):Int)*8<=140737488355328/\((a.yg.length:Int):Int)<=4611686018427387904) (qP (fun(e:List yB)=>some e) fun f=>chk ((0:Int)<=0/\(0:Int)<=(min (b.length:Int) 40)/\(min (b.length:Int) 40)<=b.length) (gg b a c d f xR ([]:List yB) (List.replicate ((a.yg.length:Int):Int).toNat (0:Int)) 0 0))
theorem Wh(Z T V W X Y aa ab ad ae af ag ah ai aj ak al aq ar am an ao ap a d n t r)(h:tO a d n t=some r){Nv}(hz:PZ [] Nv Z)(bc:ZS Z 4 (gk Z) T V a.fM)(bd:ZS Z 4 (fJ Z) W X a.yf)(be:ZS Z 4 (rq kT) Y aa a.fS)(bf:ZS Z 4 (rq mM) ab ad a.fK)(au:ZS Z 7 (f0 Z) ae af a.yg)(bg:ZS Z 5 (rq mb) ag ah a.fH)(bh:ZS Z 3 (fO Z) ai aj a.fU)(bi:ZS Z 4 (rq mc) ak al a.ye)(aA:ZS Z 1 (rq e5) aq ar d)(av:ZS Z 1 (rq e5) am an n)(aB:ZS Z 1 (rq V5) ao ap t):
  Calls Tryz.prog 15 #[.agg #[vs T a.fM.length V,vs W a.yf.length X,vs Y a.fS.length aa,vs ab a.fK.length ad,vs ae a.yg.length af,vs ag a.fH.length ah,vs ai a.fU.length aj,vs ak a.ye.length al],vs aq d.length ar,vs am n.length an,vs ao t.length ap] Nv fun e w'=>∃ aw:Option Addr,∃ ax:Nat,e = .returned (vs aw r.length ax)/\True/\Hp [] Nv w' [row (vs aw r.length ax) 83 3 (r.flatMap uo)]:=by
 unfold tO at h
 refine Oe func15 U U ?_
 let C:List Value:=[vs T a.fM.length V,vs W a.yf.length X,vs Y a.fS.length aa,vs ab a.fK.length ad,vs ae a.yg.length af,vs ag a.fH.length ah,vs ai a.fU.length aj,vs ak a.ye.length al];refine B0q<|Lh 4 (wg (cs:=C)) ?_
 intro x _
 refine Q1n U<|WC.b<|B0q<|Le 17 (xA mX)<|Le 18 (Nt z8f .here)<|Le 19 (w9 underlying26)<|Q1n U<|Lj h (fun aC h=>?_)<|fun aC h=>?_
 ·exact B1n U<|Nw<|Ll<|WX.nilRow 83 3<|oJ h▸Li results15 (.tmp U .nil) fun w hw=>⟨none,0,w6,trivial,hw.sub (.cons .here .nil)⟩
 ·refine Nn<|B1n U<|WC.b<|cK h fun aD h=>Ld<|Le 21 (xA mX)<|Le 22 (Nt z8f .here)<|Le 23 (w9 underlying26)<|Lh 24 (KG (r:=[vi 0]) (z0:=(0:Int)) zc4 ms U U U U aD) ?_
  intro Q _
  let F:=(a.yg.length:Int);refine Ow .here (cs':=(List.replicate (F:Int).toNat (0:Int)).flatMap e3) (U7 (enc:=e3) (0:Int) _)<|Q1n U<|B1n U ?_
  refine jK1 h fun ay aE h=>N5 (fun o z O=>(ay o=some r)) (fun o z O=>[(9,vs z o.length O)]) (fun o z O=>[row (vs z o.length O) 83 3 (o.flatMap uo)]) ?_ ?_
  ·refine WC.b<|cK h fun aF h=>D2q U<|Le 27 (w9 underlying71)<|Le 28 (q_min U U U)<|Pb (dd:=29) U U (Z:=Z) (Pr:=(rq e5)) zua U aA ixn (ixo U) U U aF (List.drop_zero).symm ?_
   rintro a6 a7 aG
   let G:Value:=(vs a6 ((d.take ((min (d.length:Int) 40):Int).toNat).length) a7);let H:Value:=(vi (((d.take ((min (d.length:Int) 40):Int).toNat).length:Nat):Int));let K:Value:=(vs am n.length an);let L:Value:=(vs ao t.length ap);refine Le 30 (w9 underlying71)<|Q1n U<|WC.block<|WC.nilRow 83 3<|O6 (fun R g b f c p q=>(gg d a n t ay R g b f c=some r)) (fun R g b f c p q=>[(2,K),(3,L),(4,vp x),(9,vs p g.length q),(10,(vs (some ⟨Q,0,none⟩) b.length<|(F:Int).toNat)),(11,vi f),(29,G),(30,H),(31,vi c)]) (fun R g b f c p q=>[row (vs p g.length q) 83 3 (g.flatMap uo),row (vs (some ⟨Q,0,none⟩) b.length<|(F:Int).toNat) 3 1 (b.flatMap e3),stb x 31 C]) (fun R g b f c p q=>R) ⟨xR,([]:List yB),List.replicate (F:Int).toNat (0:Int),0,0,none,0⟩ h .q .a3 ?_
   rintro(_|a8) g b f c p q h;·cases h
   rw[gg] at h
   refine B1n U<|WC.b<|Lj h (fun aH h=>?_)<|fun aH h=>?_
   ·refine Nn<|WC.b<|WC.block<|WC.b<|cK h fun aI h=>D1q U<|L3 (dd:=34) (Z:=Z) (Pr:=(rq e5)) zua aG aI ?_
    rintro bj bk aJ bl rfl
    refine Le 35 (xB Jm U<|mG hz.pv aJ)<|Q2n U<|WC.b<|cK h fun aK h=>D1q U<|Le 37 (fg underlying5 underlying3)<|Le 38 (xA mX)<|Le 39 (Nt z8f .h2)<|Le 40 (w9 underlying26)<|Le 41 (XX aK)<|Q1n U<|B1n U ?_
    obtain⟨a9,aL,h⟩:=wo h
    let D:Value:=(vs (some ⟨Q,0,none⟩) b.length ((F:Int).toNat));let I:=(i64 (nth (d.take ((min (d.length:Int) 40):Int).toNat) c));let A:=(Int.tmod I F);let M:Value:=(vs p g.length q);let J:List Asrt:=[row M 83 3 (g.flatMap uo),row D 3 1 (b.flatMap e3),stb x 31 C];refine L5 (fun s=>(a9 s=some r)) (fun s=>[(2,K),(3,L),(4,vp x),(9,M),(10,D),(11,vi f),(12,vi c),(14,vi A),(15,vi s),(29,G),(30,H),(31,vi c)]) (fun s=>J) ?_ ?_
    ·refine B2q U<|Le 44 (w9 underlying72)<|Q1n U<|Lj h (fun aM h=>?_)<|fun aM h=>?_
     ·refine cK h fun aN h=>D2q U<|L3 (dd:=48) (Z:=Z) (Pr:=(rq V5)) zPF aB aN ?_
      rintro bm bn aO bo rfl
      exact Le 49 (xB zPG U<|mG hz.pv aO)<|Le 50 (fg underlying110 underlying3)<|Le 51 (XX (by decide))<|La U<|WL.nil<|Lp (Int.tmod (i64<|nth t c) 2000) h .q<|.a3
     ·exact N0<|Lp 0 h .q<|.a3
    ·rintro s h
     replace h:=(aL s).symm.trans h
     refine WC.b<|cK h fun aP h=>Ld<|Le 52 (xA mX)<|Le 53 (Nt z8f .h2)<|La U<|L3 (dd:=55) (Z:=Z) (Pr:=(f0 Z)) zdI au aP ?_
     rintro bp bq aQ br ⟨bs,bt,rfl,bu⟩
     refine Le 56 (xA lK)<|Le 57 (xB xL U<|wA hz.pv aQ)<|Q1n U<|jK1 h fun ba aR h=>L5 (fun j=>(ba j=some r)) (fun j=>[(2,K),(3,L),(4,vp x),(9,M),(10,D),(11,vi f),(14,vi A),(15,vi s),(16,vi j),(29,G),(30,H),(31,vi c)]) (fun j=>J) ?_ ?_
     ·refine WC.b<|cK h fun aS h=>D2q U<|Le 60 (w9 underlying71)<|Q2q U<|Lw true 6 62 (B:=(decide (c<n.length))&&(decide ((bits .and .u8 (nth n c) 1)=1))) (fun h=>(jR h).symm) (fun _ az=>?_) ?_
      ·have aT:=aS az
       refine Q2q U<|L3 (dd:=65) (Z:=Z) (Pr:=(rq e5)) zua av aT ?_
       rintro bv bw aU bx rfl
       exact Le 66 (xB Jm U<|mG hz.pv aU)<|Le 67 (q_and U U U)<|Q2q U<|Lx (jS az) U .all
      refine Q0n<|Lj h (fun aV h=>?_)<|fun aV h=>?_
      ·refine cK h fun aW h=>cK h fun aX h=>D2q U<|L3 (dd:=72) (Z:=Z) (Pr:=(rq e5)) zua av aW ?_
       rintro bz bA aY bB rfl
       exact Le 73 (xB Jm U<|mG hz.pv aY)<|Le 74 (fg underlying5 underlying3)<|La U<|Le 76 (XX aX)<|Q2q U<|WL.nil<|Lp (i64 (1+(Int.tmod (i64<|nth n c)<|(nth a.yg A).yC))) h .q<|.a3
      ·exact N0<|Lp ((nth a.yg A).yC) h .q<|.a3
     ·rintro j h
      replace h:=(aR j).symm.trans h
      refine WC.b<|cK h fun S h=>D3q U<|Le 81 (xY zc4 S.1 S.2 wz)<|Le 82 (xB xL U<|oQ .h1<|(wG (enc:=e3) (l:=b) (i:=Int.tmod I F) (sz:=1) (fun _=>U) S.1 S.2) 0 _ U)<|Le 83 Ye<|Q1n U<|jK1 h fun bb aZ h=>L5 (fun m=>(bb m=some r)) (fun m=>[(2,K),(3,L),(4,vp x),(9,M),(10,D),(11,(vi<|max f<|nth b A)),(14,vi A),(15,vi m),(16,vi j),(29,G),(30,H),(31,vi c)]) (fun m=>J) ?_ ?_
      ·refine B2n U<|Lj h (fun a0 h=>?_)<|fun a0 h=>?_
       ·exact D1q U<|WL.nil<|Lp 0 h .q<|.a3
       ·exact N0<|Lp s h .q<|.a3
      ·rintro m h
       replace h:=(aZ m).symm.trans h
       refine B4n U<|WC.b<|cK h fun a1 h=>cK h fun P h=>D3q U<|Le 92 (xA mX)<|Le 93 (Nt z8f .h2)<|La U<|L3 (dd:=95) (Z:=Z) (Pr:=(f0 Z)) zdI au a1 ?_
       rintro bC bD a2 bE ⟨bF,bG,rfl,bH⟩
       let N:=(i64 ((max f (nth b A))+m));let E:=(i64 (N+((nth a.yg A).yK)));refine Le 96 (xA V6)<|Le 97 (xB xL U<|wA hz.pv a2)<|La U<|Le 99 (xY zc4 P.1 P.2 wz)<|Ln (kQ (vs:=[vi E]) (ds:=(b.set (A:Int).toNat E).flatMap e3) dO (Yf U XY) .h1 (ma (enc:=e3) (sz:=1) (k:=0) (fun _=>U) P.1 P.2 (by decide))<|fZ (enc:=e3) (l:=b) (sz:=1) (vs:=[vi E]) (y:=i64 (N+((nth a.yg A).yK))) (k:=0) (fun _=>U) P.1 P.2<|Nat.le_of_ble_eq_true U)<|H9 .here (u:=(vs (some ⟨Q,0,none⟩) ((b.set (A:Int).toNat E).length)<|(F:Int).toNat)) (qs (List.length_set).symm)<|L7 (i:=10) U (u:=(vs (some ⟨Q,0,none⟩) ((b.set (A:Int).toNat E).length)<|(F:Int).toNat)) (qs (List.length_set).symm)<|Q0n ?_
       refine cK h fun a3 h=>D4q U<|Le 104 (wm (v:=(.agg #[(vi<|i64 ((max f<|nth b<|Int.tmod (i64<|nth (d.take ((min (d.length:Int) 40):Int).toNat) c) (a.yg.length:Int))+m)),(vi<|Int.tmod (i64<|nth (d.take ((min (d.length:Int) 40):Int).toNat) c) (a.yg.length:Int)),vi j])) (Lq (l:=[.tmp 101,.tmp 102,.tmp 103]) (.r3 U U U) [0,1,2]) (fun _=>by kernel_rfl)) (Lh 105 (ws (cs:=([(⟨i64 ((max f<|nth b<|Int.tmod (i64<|nth (d.take ((min (d.length:Int) 40):Int).toNat) c) (a.yg.length:Int))+m),Int.tmod (i64<|nth (d.take ((min (d.length:Int) 40):Int).toNat) c) (a.yg.length:Int),j⟩:yB)]:List yB).flatMap uo) zan (Lq (l:=[.tmp 104]) (.cons U .nil) [0]) (fun _=>by kernel_rfl) (by unfold maxLen;omega)) fun bI _=>WL.fA 106 (kK (enc:=uo) (l1:=g) (l2:=([(⟨i64 ((max f<|nth b A)+m),Int.tmod I F,j⟩:yB)]:List yB)) zan .h2 (fun _=>U) (kN .here) (gN Sb _) a3) ?_)
       rintro⟨a4,a5⟩ _
       exact La U<|WL.nil<|Lt<|Lb<|D2q U<|WL.nil<|Nx ⟨a8,g++([(⟨i64 ((max f<|nth b A)+m),Int.tmod I F,j⟩:yB)]:List yB),b.set (A:Int).toNat E,N,i64 (c+1),a4,a5⟩ h (Nat.lt_succ_self _) .q<|.s3 .here .h1 .h1
   ·exact Nz<|Lo<|Lo<|Lv<|Lp ⟨g,p,q⟩ h (.cons U .nil)<|.cons .here .nil
  ·rintro o z O h
   replace h:=(aE o).symm.trans h
   exact B2n U<|Nw<|oJ h▸Li results15 (.tmp U .nil) fun w hw=>⟨z,O,w6,trivial,hw.sub (.cons .here .nil)⟩
end Go.Proofs.YtcahmabkeaijdaaGreat
