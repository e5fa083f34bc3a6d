/- A part of this claim's proof: models of functions, walks, plain laws. No conditions. -/
import Derived.Test.YtcahmabkeaijdaaGreatW35xa
set_option linter.all false
namespace Go.Proofs.YtcahmabkeaijdaaGreat
open Go Go.RowKit Sep Tryz
set_option maxRecDepth 30000
set_option maxHeartbeats 4000000
def gC(b:List (List zb))(c:Int)(f:(List z7)->Option (List z7)):Nat->(List z7)->Int->Option (List z7)
 | 0,_,_=>none
 | h+1,d,a=>if decide (a<((nth b c).length:Int)) then qP (fun(i:List z7)=>gC b c f h i (i64 (a+1))) fun g=>chk (0<=a/\a<((nth b c).length:Int)) ((me (⟨(nth (nth b c) a).ya,(nth (nth b c) a).fX,(nth (nth b c) a).fQ⟩:zb)).bind fun j=>(q8 d j).bind fun k=>if !k then(me (⟨(nth (nth b c) a).ya,(nth (nth b c) a).fX,(nth (nth b c) a).fQ⟩:zb)).bind fun e=>chk (((d++([e]:List z7)).length:Int)*16<=140737488355328/\((d++([e]:List z7)).length:Int)<=4611686018427387904) (g (d++([e]:List z7))) else g d) else f d
def gD(b:List (List zb))(c:(List z7)->Option (List z7)):Nat->(List z7)->Int->Option (List z7)
 | 0,_,_=>none
 | e+1,d,a=>if decide (a<b.length) then qP (fun(f:List z7)=>gD b c e f (i64 (a+1))) fun g=>chk (0<=a/\a<b.length) (qP (fun h=>g h) fun i=>gC b a i xR d 0) else c d
def sa(a:List (List zb)):Option (List z7):=
 qP (fun(b:List z7)=>(q9 b (fun y0 y1=>vR y0 y1)).bind fun c=>some c) fun d=>gD a d xR ([]:List z7) 0
theorem Vd(Z I J d r)(h:sa d=some r){Nv}(hz:PZ [] Nv Z)(P:ZS Z 1 (mN Z) I J d):
  Calls Tryz.prog 35 #[vs I d.length J] Nv fun e w'=>∃ L:Option Addr,∃ M:Nat,e = .returned (vs L r.length M)/\True/\Hp [] Nv w' [row (vs L r.length M) 97 2 (r.flatMap wp)]:=by
 unfold sa at h
 refine L8 func35 U U<|B1n U<|B1n U<|jK1 h fun N Q h=>N5 (fun k s t=>(N k=some r)) (fun k s t=>[(3,vs s k.length t)]) (fun k s t=>[row (vs s k.length t) 97 2 (k.flatMap wp)]) ?_ ?_
 ·let A:Value:=(vs I d.length J);let C:Value:=(vi (d.length:Int));refine B1q U<|Le 9 (w9 underlying32)<|Q1n U<|WC.block<|WC.nilRow 97 2<|Dy (fun G c a m n=>(gD d N G c a=some r)) (fun G c a m n=>[(3,vs m c.length n),(8,A),(9,C),(10,vi a)]) (fun G c a m n=>[row (vs m c.length n) 97 2 (c.flatMap wp)]) (fun G c a m n=>G) ⟨xR,([]:List z7),0,none,0⟩ h .q (.cons .here .nil) ?_
  rintro(_|R) c a m n h;·cases h
  rw[gD] at h
  refine B1n U<|WC.b<|Lj h (fun S h=>?_)<|fun S h=>?_
  ·refine Nn<|jK1 h fun T V h=>N5 (fun f v x=>(T f=some r)) (fun f v x=>[(3,vs v f.length x),(8,A),(9,C),(10,vi a)]) (fun f v x=>[row (vs v f.length x) 97 2 (f.flatMap wp)]) ?_ ?_
   ·refine WC.block<|WC.b<|cK h fun W h=>Ld<|L3 (dd:=12) (Z:=Z) (Pr:=(mN Z)) zdH P W ?_
    rintro aw ax X az ⟨Y,aa,rfl,ab⟩
    refine Le 13 (xB zc1 U<|mG hz.pv X)<|Q1n U<|B1q U<|Le 15 (w9 underlying48)<|Q1n U<|jK1 h fun O ad h=>Oq (fun g y z=>(O g=some r)) (fun g y z=>[(3,vs y g.length z),(8,A),(9,C),(10,vi a)]) (fun g y z=>[row (vs y g.length z) 97 2 (g.flatMap wp)]) ?_ ?_
    ·let D:Value:=(vs Y ((nth d a).length) aa);let E:=((nth d a).length:Int);refine WC.block<|Dy (fun H b o p q=>(gC d a O H b o=some r)) (fun H b o p q=>[(3,vs p b.length q),(8,A),(9,C),(10,vi a),(14,D),(15,vi E),(16,vi o)]) (fun H b o p q=>[row (vs p b.length q) 97 2 (b.flatMap wp)]) (fun H b o p q=>H) ⟨xR,c,0,m,n⟩ h .q (.cons .here .nil) ?_
     rintro(_|ae) b o p q h;·cases h
     rw[gC] at h
     refine B1n U<|WC.b<|Lj h (fun af h=>?_)<|fun af h=>?_
     ·refine Nn<|jK1 h fun ag ah h=>N5 (fun j B F=>(ag j=some r)) (fun j B F=>[(3,vs B j.length F),(8,A),(9,C),(10,vi a),(14,D),(15,vi E),(16,vi o)]) (fun j B F=>[row (vs B j.length F) 97 2 (j.flatMap wp)]) ?_ ?_
      ·refine WC.block<|WC.b<|cK h fun ai h=>Ld<|L3 (dd:=18) (Z:=Z) (Pr:=(rq mW)) z8g ab ai ?_
       rintro aA aB aj aC rfl
       refine Le 19 (xK z4D (qV hz.pv aj)) (Lh 7 (xW (cs:=[vi 0,vi 0,vi 0]) zdJ) fun aD _=>Ln (xP zc3 .here)<|Q0n<|WC.b ?_)
       refine bK h fun aF ak h=>bK h fun aG al h=>D1q U<|Le 21 (xK z4D (xM .here))<|Nr call40 hz (tD _ _ _ ak)<|Lm 23 (Ns call63) .nil (uC hz .nil (.cons .h1 .nil) fun w pz ho la=>sx _ _ _ _ _ _ al pz<|ZA.row (la _ (.head _) _) (RR.flat (enc:=wp) (fun _=>U) _) ⟨w,pz.1⟩)<|Q1n U<|Lj h (fun am h=>?_)<|fun am h=>?_
       ·refine bK h fun K an h=>cK h fun ao h=>D1q U<|Le 26 (xK z4D (xM .here))<|Nr call40 hz (tD _ _ _ an) (Lh 28 (ws (cs:=([K]:List z7).flatMap wp) z8h (Lq (l:=[.tmp 27]) (.cons U .nil) [0]) (fun _=>by kernel_rfl) (by unfold maxLen;omega)) fun aE _=>WL.fA 29 (kK (enc:=wp) (l1:=b) (l2:=([K]:List z7)) z8h .h2 (fun _=>U) (kN .here) (gN ay _) ao) ?_)
        rintro⟨ap,aq⟩ _
        exact La U<|WL.nil<|Lt<|Lp ⟨b++([K]:List z7),ap,aq⟩ h .q<|.cons .here .nil
       ·exact N0<|Lt<|Lp ⟨b,p,q⟩ h .q<|.cons .h1 .nil
      ·rintro j B F h
       replace h:=(ah j).symm.trans h
       exact D2q U<|WL.nil<|Nx ⟨ae,j,i64 (o+1),B,F⟩ h (Nat.lt_succ_self _) .q<|.cons .here .nil
     ·exact Nz<|Lo<|Lo<|Lv<|Lp ⟨b,p,q⟩ h .q<|.cons .here .nil
    ·rintro g y z h
     replace h:=(ad g).symm.trans h
     exact Lt<|Lp ⟨g,y,z⟩ h .q<|.cons .here .nil
   ·rintro f v x h
    replace h:=(V f).symm.trans h
    exact D2q U<|WL.nil<|Nx ⟨R,f,i64 (a+1),v,x⟩ h (Nat.lt_succ_self _) .q<|.cons .here .nil
  ·exact Nz<|Lo<|Lo<|Lv<|Lp ⟨c,m,n⟩ h (.cons U .nil)<|.cons .here .nil
 ·rintro k s t h
  replace h:=(Q k).symm.trans h
  refine WC.b<|bK h fun ar au h=>D1q U<|Na (dd:=33) U (Ns call64) (.cons .here .nil) (cc hz (.cons .here .nil) fun w pz ho=>sy _ _ _ (zmk:=25) (zuK:=[]) _ (zmj:=(fun y0 y1=>vR y0 y1)) _ au pz call25 (fun w' hz' y0 y1  r  hr=>oY _ _ _ _ hr hz' ) ho) ?_
  rintro  av
  exact L7 (i:=3) U (u:=(vs s ar.length t)) (qs av.symm)<|Q0n<|B2n U<|Nw<|oJ h▸Li results35 (.tmp U .nil) fun w hw=>⟨s,t,w6,trivial,hw.sub (.cons .here .nil)⟩
def sd(a:zb)(b:Int):Option Bool:=
 some (decide (a.fX=b))
theorem Ve(Z b a c r)(h:sd a c=some r){Nv}(hz:PZ [] Nv Z)(d:ZC Z b [vi c]):
  RC 66 #[.agg #[vi a.ya,vi a.fX,vi a.fQ],vq b] Nv (.bool r) [] []:=by
 unfold sd at h
 refine Lz func66 U U<|B0q (Lh 2 (wg (cs:=[vi a.ya,vi a.fX,vi a.fQ])) fun e _=>Q1n U<|B0q<|Le 4 (xA mY)<|Le 5 (Nt xL .here)<|Le 6 (xB xL U<|mG hz.pv d)<|Q2n U<|Nw ?_)
 exact oJ h▸Nl results66
def wF(b:List zb)(z9u:zb->Option Bool)(c:Option Int):Nat->Int->Option Int
 | 0,_=>none
 | d+1,a=>if decide (a<b.length) then chk (0<=a/\a<b.length) ((z9u (⟨(nth b a).ya,(nth b a).fX,(nth b a).fQ⟩:zb)).bind fun e=>if e then some a else wF b z9u c d (i64 (a+1))) else c
def vt(a:List zb)(z9u:zb->Option Bool):Option Int:=
 uB (some (-1)) fun b=>wF a z9u b xR 0
theorem mR(Z d g zh2 zmt b z9u r)(h:vt b z9u=some r){Nv}(hz:PZ [] Nv Z)(j:ZS Z 3 (rq mW) d g b)(k:∀ args w,(callFunc zh2 args).run Tryz.prog w = .ok (.enter zh2 args) w)(m:∀ w:World,PZ [] w Z->∀(x0:zb) (r:Bool),z9u x0=some r->Calls Tryz.prog zh2 (([.agg #[vi x0.ya,vi x0.fX,vi x0.fQ]]:List Value)++zmt).toArray w fun e w'=>e = .returned (.bool r)/\Hp [] w w' []):
  RC 65 #[vs d b.length g,.func (.func zh2) #[] (zmt).toArray] Nv (vi r) [] []:=by
 unfold vt at h
 refine Lz func65 U U<|B1n U<|jK0 h fun i n h=>Nd (i=some r) ([]) ([]) ?_ ?_
 ·refine B1q U<|Le 7 (w9 underlying48)<|Q1n U<|WC.block<|Ng (fun c a=>(wF b z9u i c a=some r)) (fun c a=>[(0,vs d b.length g),(1,.func (.func zh2) #[] (zmt).toArray),(7,vi (b.length:Int)),(8,vi a)]) (fun c a=>[]) (fun c a=>c) ⟨xR,0⟩ h .q .nil ?_
  rintro(_|o) a h;·cases h
  rw[wF] at h
  refine B1n U<|WC.b<|Lj h (fun p h=>?_)<|fun p h=>?_
  ·refine Nn<|WC.b<|WC.block<|B2n U<|WC.b<|cK h fun q h=>bK h fun s t h=>D3q U<|L3 (dd:=14) (Z:=Z) (Pr:=(rq mW)) z8g j q ?_
   rintro x y u z rfl
   refine Le 15 (xK z4D (qV hz.pv u))<|Lm 16 (qi (l:=[.tmp 15]) (f:=zh2) (caps:=zmt) k<|.cons U .nil) .nil (fun w hw=>m w (hz.now hw) (⟨(nth b a).ya,(nth b a).fX,(nth b a).fQ⟩:zb) s  t)<|Q0n<|Lj h (fun v h=>?_)<|fun v h=>?_
   ·exact B2n U<|Nw<|Ly<|Ll<|Ll<|Ly<|Ll<|oJ h▸Nl results65
   ·exact N0<|Lt<|Lb<|D2q U<|WL.nil<|Nx ⟨o,i64 (a+1)⟩ h (Nat.lt_succ_self _) .q .nil
  ·exact Nz<|Lo<|Lo<|Lv<|Lp () h .nil .nil
 ·rintro  h
  replace h:=n.symm.trans h
  exact B1n U<|Nw<|oJ h▸Nl results65
def uO(b:List zb)(c:Int):Option (zb×Bool):=
 (vt b (fun(y0:zb)=>sd y0 c)).bind fun a=>if decide (a<0) then some ((⟨0,0,0⟩:zb),false) else chk (0<=a/\a<b.length) (some ((⟨(nth b a).ya,(nth b a).fX,(nth b a).fQ⟩:zb),true))
theorem cO(Z c d b a r)(h:uO b a=some r){Nv}(hz:PZ [] Nv Z)(e:ZS Z 3 (rq mW) c d b):
  RC 39 #[vs c b.length d,vi a] Nv (.tuple #[.agg #[vi r.1.ya,vi r.1.fX,vi r.1.fQ],.bool r.2]) [] []:=by
 unfold uO at h
 refine Lz func39 U U<|B0q (Lh 3 (wg (cs:=[vi a])) fun f _=>Lh 4 (xW (cs:=[vi 0,vi 0,vi 0]) zdJ) fun m _=>Q1n U<|WC.b ?_)
 refine bK h fun q g h=>D1q U<|Le 8 (vf<|L6 (l:=[.tmp 3])<|.cons U .nil)<|Lm 9 (Ns call65) .nil (uC hz .nil (.cons .h1 .nil) fun w pz ho la=>mR _ _ _ (zh2:=66) (zmt:=[vp f]) _ (z9u:=(fun(y0:zb)=>sd y0 a)) _ g pz (e.mono<|zl) call66<|fun w' hz' y0  r  hr=>Ve _ _ _ _ _ hr hz'<|(la _ (.head _) _).stb)<|Q1n U<|WC.b<|B2n U<|Lj h (fun i h=>?_)<|fun i h=>?_
 ·exact B0q<|Le 12 (wm (v:=(.agg #[vi 0,vi 0,vi 0])) (Lq (l:=[]) .nil []) (fun _=>by kernel_rfl))<|Ln (xP zc3 .here)<|Q1n U<|Nw<|Ll<|oJ h▸Nm results39 (.agg U z4D U (xM .here)<|.tmp U .nil) .nil
 ·refine Nn<|WC.b<|cK h fun j h=>D2q U<|L3 (dd:=15) (Z:=Z) (Pr:=(rq mW)) z8g e j ?_
  rintro n o k p rfl
  exact Le 16 (xK z4D (qV hz.pv k))<|Ln (xP zc3 .here)<|Q1n U<|Nw<|oJ h▸Nm results39 (.agg U z4D U (xM .here)<|.tmp U .nil) .nil
def uq(a:zb)(c:List zb)(d:z7)(e:List (z7×Int)):Option Bool:=
 (uO c a.ya).bind fun b=>(me a).bind fun f=>(if (decide (f=d))&&b.2 then(me b.1).bind fun g=>some (decide ((xC e g 0)=0)) else some false).bind fun h=>some h
theorem YO(Z m s t n o g d p e j r)(h:uq d p e j=some r){Nv}(hz:Pz [xU g (ga wp) vI j] Nv Z)(L:ZS Z 3 (rq mW) s t p)(M:ZC Z m [vs s p.length t])(N:ZC Z n [vi e.ya,vi e.fQ])(O:ZC Z o [.map (some g)])(ip:Ho Nv [xU g (ga wp) vI j]):
  RF 38 #[.agg #[vi d.ya,vi d.fX,vi d.fQ],vq m,vq n,vq o] Nv (.bool r) [xU g (ga wp) vI j] [xU g (ga wp) vI j]:=by
 unfold uq at h
 refine H4 func38 U ip U<|B0q (Lh 4 (wg (cs:=[vi d.ya,vi d.fX,vi d.fQ])) fun q _=>Q1n U<|WC.b ?_)
 refine bK h fun c P h=>Ld<|Le 9 (xB zc1 U<|mG hz.pv M)<|Le 10 (xA gO)<|Le 11 (Nt xL .here)<|Nr call39 hz (fun pz=>cO _ _ _ _ _ _ P pz L)<|Q2q U<|La U (Lh 6 (xW (cs:=[vi 0,vi 0,vi 0]) zdJ) fun B _=>Ln (xP zc3 .here)<|Q1n U<|WC.b ?_)
 obtain⟨f,Q,h⟩:=z8 h
 obtain⟨R,I,h⟩:=z8 h
 let A:Value:=(.agg #[vi c.1.ya,vi c.1.fX,vi c.1.fQ]);let C:Value:=(.agg #[vi d.ya,vi d.fX,vi d.fQ]);let D:Value:=(.bool (decide (f=e)));let E:Value:=(.bool ((decide (f=e))&&c.2));let F:Value:=(.agg #[vi f.ya,vi f.fQ]);let G:Value:=(.agg #[vi e.ya,vi e.fQ]);let H:Value:=(vs s p.length t);refine Lu nc []<|Lg 0 U (xK z4D (xM .h1))<|L4 1 U (Ns call40) (cc hz .nil fun w pz ho=>tD _ _ _ Q pz )<|Lg 2 U (xK z5S (qV hz.pv N))<|Lf 3 U (oq (enc:=wp) (a:=f) (b:=e) zu8)<|Lf 4 U q_m<|L9 (fuel':=8) [(0,C),(1,vq m),(2,vq n),(3,vq o),(4,vp q),(5,.bool false),(9,H),(10,vp q),(11,vi d.ya),(12,.tuple #[A,.bool c.2]),(8,.tuple #[A,.bool c.2]),(13,A),(14,.bool c.2),(6,vp B),(7,.bool c.2),(15,C),(16,F),(17,G),(18,D),(19,D),(21,E)] (j7 15 (dn 7)) ?_<|fun J=>?_
 rotate_left
 ·rcases Bool.eq_false_or_eq_true (decide (f=e)) with hb' | hb'
  ·have u:=hb';clear hb'
   refine L0 (i:=19) U u<|Lf 5 U q_m<|Lf 6 U qE<|L2 .a3 ?_ J
   exact .t 19<|.r2 (zu<|Eq.symm u)<|zu<|jS u
  ·have v:=hb';clear hb'
   refine L0 (i:=19) U v<|Lk 5 U<|Lf 6 U qF<|L2 .a3 ?_ J
   exact .t 19<|.r2 (zu<|Eq.symm v)<|zu<|jR v
 refine Lf 7 U q_m<|L9 (fuel':=1) [(0,C),(1,vq m),(2,vq n),(3,vq o),(4,vp q),(5,.bool false),(9,H),(10,vp q),(11,vi d.ya),(12,.tuple #[A,.bool c.2]),(8,.tuple #[A,.bool c.2]),(13,A),(14,.bool c.2),(6,vp B),(7,.bool c.2),(15,C),(16,F),(17,G),(18,D),(19,D),(21,E),(22,E),(28,.bool R)] (j7 15 (dn 14)) ?_<|fun K=>?_
 rotate_left
 ·rcases Bool.eq_false_or_eq_true ((decide (f=e))&&c.2) with hb' | hb'
  ·have x:=hb';clear hb'
   have l:=jD I x
   obtain⟨S,T,l⟩:=z8 l
   replace l:=oJ l
   refine L0 (i:=22) U x<|Lg 8 U (xB zqN U<|mG hz.pv O)<|Lg 9 U (xK z4D (xM .here))<|L4 10 U (Ns call40) (cc hz .nil fun w pz ho=>tD _ _ _ T pz )<|Lg 11 U (ku (k:=S) (dflt:=(0:Int)) zgR underlying93 ms .h2)<|Lf 12 U (eH U U)<|Lf 13 U qE<|L2 .a3 ?_ K
   exact .t 21<|.r2 (zu<|Eq.symm x)<|zu l
  ·have y:=hb';clear hb'
   have z:=jE I y
   replace z:=oJ z
   refine L0 (i:=22) U y<|Lk 8 U<|Lk 9 U<|Lk 10 U<|Lk 11 U<|Lk 12 U<|Lf 13 U qF<|L2 .a3 ?_ K
   exact .t 21<|.r2 (zu<|Eq.symm y)<|zu z
 exact Lf 14 U q_z<|Ny (by kernel_rfl)<|Lb<|Nw<|oJ h▸Nm results38 (.tmp U .nil) (.cons .h2 .nil)
def wB(b:List zb)(c:List zb)(d:z7)(e:List (z7×Int))(f:Option Int):Nat->Int->Option Int
 | 0,_=>none
 | g+1,a=>if decide (a<b.length) then chk (0<=a/\a<b.length) ((uq (⟨(nth b a).ya,(nth b a).fX,(nth b a).fQ⟩:zb) c d e).bind fun h=>if h then some a else wB b c d e f g (i64 (a+1))) else f
def jx(a:List zb)(b:List zb)(c:z7)(d:List (z7×Int)):Option Int:=
 uB (some (-1)) fun e=>wB a b c d e xR 0
theorem rW(Z i j k o p m n b d f g a r)(h:jx d f g a=some r){Nv}(hz:Pz [xU b (ga wp) vI a] Nv Z)(s:ZS Z 3 (rq mW) i j d)(t:ZS Z 3 (rq mW) o p f)(u:ZC Z k [vs o f.length p])(v:ZC Z m [vi g.ya,vi g.fQ])(x:ZC Z n [.map (some b)])(ip:Ho Nv [xU b (ga wp) vI a]):
  RF 65 #[vs i d.length j,.func (.func 38) #[] #[vq k,vq m,vq n]] Nv (vi r) [xU b (ga wp) vI a] [xU b (ga wp) vI a]:=by
 unfold jx at h
 refine Ni func65 U ip U<|B1n U<|jK0 h fun q y h=>Nd (q=some r) ([]) ([xU b (ga wp) vI a]) ?_ ?_
 ·refine B1q U<|Le 7 (w9 underlying48)<|Q1n U<|WC.block<|Ng (fun e c=>(wB d f g a q e c=some r)) (fun e c=>[(0,vs i d.length j),(1,.func (.func 38) #[] #[vq k,vq m,vq n]),(7,vi (d.length:Int)),(8,vi c)]) (fun e c=>[xU b (ga wp) vI a]) (fun e c=>e) ⟨xR,0⟩ h .q (.cons .here .nil) ?_
  rintro(_|z) c h;·cases h
  rw[wB] at h
  refine B1n U<|WC.b<|Lj h (fun A h=>?_)<|fun A h=>?_
  ·refine Nn<|WC.b<|WC.block<|B2n U<|WC.b<|cK h fun B h=>bK h fun I C h=>D3q U<|L3 (dd:=14) (Z:=Z) (Pr:=(rq mW)) z8g s B ?_
   rintro F G D H rfl
   refine Le 15 (xK z4D (qV hz.pv D))<|Lm 16 (qi (l:=[.tmp 15]) call38<|.cons U .nil) (.cons .here .nil) (cc hz (.cons .here .nil) fun w pz ho=>YO _ _ _ _ _ _ _ _ _ _ _ _ C pz t u v x ho)<|Q0n<|Lj h (fun E h=>?_)<|fun E h=>?_
   ·exact B2n U<|Nw<|Ly<|Ll<|Ll<|Ly<|Ll<|oJ h▸Nm results65 (.tmp U .nil) (.cons .here .nil)
   ·exact N0<|Lt<|Lb<|D2q U<|WL.nil<|Nx ⟨z,i64 (c+1)⟩ h (Nat.lt_succ_self _) .q<|.cons .here .nil
  ·exact Nz<|Lo<|Lo<|Lv<|Lp () h .nil<|.cons .here .nil
 ·rintro  h
  replace h:=y.symm.trans h
  exact B1n U<|Nw<|oJ h▸Nm results65 (.tmp U .nil) (.cons .here .nil)
def j9(a:List zb)(b:List zb)(c:z7)(d:List (z7×Int)):Option Bool:=
 (jx a b c d).bind fun e=>some (decide (e>=0))
theorem rh(Z f g i j k l m a c d e b r)(h:j9 c d e b=some r){Nv}(hz:Pz [xU a (ga wp) vI b] Nv Z)(n:ZS Z 3 (rq mW) f g c)(o:ZS Z 3 (rq mW) j k d)(p:ZC Z i [vs j d.length k])(q:ZC Z l [vi e.ya,vi e.fQ])(s:ZC Z m [.map (some a)])(ip:Ho Nv [xU a (ga wp) vI b]):
  RF 37 #[vs f c.length g,.func (.func 38) #[] #[vq i,vq l,vq m]] Nv (.bool r) [xU a (ga wp) vI b] [xU a (ga wp) vI b]:=by
 unfold j9 at h
 exact Ni func37 U ip U<|B1n U<|WC.b<|bK h fun u t h=>D2q U<|Lm 7 (Ns call65) (.cons .here .nil) (cc hz (.cons .here .nil) fun w pz ho=>rW _ _ _ _ _ _ _ _ _ _ _ _ _ _ t pz n o p q s ho)<|Q2n U<|Nw<|oJ h▸Nm results37 (.tmp U .nil) (.cons .here .nil)
def tG(a:List zb)(b:z7)(c:List (z7×Int)):Option Bool:=
 (j9 a a b c).bind fun d=>some d
theorem Wc(Z d e g i a c f b r)(h:tG c f b=some r){Nv}(hz:Pz [xU a (ga wp) vI b] Nv Z)(j:ZS Z 3 (rq mW) d e c)(k:ZC Z g [vi f.ya,vi f.fQ])(m:ZC Z i [.map (some a)])(ip:Ho Nv [xU a (ga wp) vI b]):
  RF 36 #[vs d c.length e,vq g,vq i] Nv (.bool r) [xU a (ga wp) vI b] [xU a (ga wp) vI b]:=by
 unfold tG at h
 refine N6 func36 U ip U<|B0q (Lh 3 (wg (cs:=[vs d c.length e])) fun o _=>Q1n U<|WC.b ?_)
 exact bK h fun p n h=>Ld<|Le 5 (Nt zc1 .here)<|Le 6 (vf<|L6 (l:=[.tmp 3,.tmp 1,.tmp 2])<|.r3 U U U)<|Lm 7 (Ns call37) (.cons .h1 .nil) (uC hz (.cons .h1 .nil) (.cons .here .nil) fun w pz ho la=>rh _ _ _ _ _ _ _ _ _ _ _ _ _ _ n pz (j.mono<|zl) (j.mono<|zl) ((la _ (.head _) _).stb) (k.mono<|zl) (m.mono<|zl) ho)<|Q1n U<|Nw<|oJ h▸Nm results36 (.tmp U .nil) (.cons .here .nil)
def wx(b:List (List zb))(c:z7)(d:List (z7×Int))(e:Option Int):Nat->Int->Option Int
 | 0,_=>none
 | f+1,a=>if decide (a<b.length) then chk (0<=a/\a<b.length) ((tG (nth b a) c d).bind fun g=>if g then some a else wx b c d e f (i64 (a+1))) else e
def ja(a:List (List zb))(b:z7)(c:List (z7×Int)):Option Int:=
 uB (some (-1)) fun d=>wx a b c d xR 0
theorem ri(Z g i j k b d f a r)(h:ja d f a=some r){Nv}(hz:Pz [xU b (ga wp) vI a] Nv Z)(n:ZS Z 1 (mN Z) g i d)(o:ZC Z j [vi f.ya,vi f.fQ])(p:ZC Z k [.map (some b)])(ip:Ho Nv [xU b (ga wp) vI a]):
  RF 55 #[vs g d.length i,.func (.func 36) #[] #[vq j,vq k]] Nv (vi r) [xU b (ga wp) vI a] [xU b (ga wp) vI a]:=by
 unfold ja at h
 refine Ni func55 U ip U<|B1n U<|jK0 h fun m q h=>Nd (m=some r) ([]) ([xU b (ga wp) vI a]) ?_ ?_
 ·refine B1q U<|Le 7 (w9 underlying32)<|Q1n U<|WC.block<|Ng (fun e c=>(wx d f a m e c=some r)) (fun e c=>[(0,vs g d.length i),(1,.func (.func 36) #[] #[vq j,vq k]),(7,vi (d.length:Int)),(8,vi c)]) (fun e c=>[xU b (ga wp) vI a]) (fun e c=>e) ⟨xR,0⟩ h .q (.cons .here .nil) ?_
  rintro(_|s) c h;·cases h
  rw[wx] at h
  refine B1n U<|WC.b<|Lj h (fun t h=>?_)<|fun t h=>?_
  ·refine Nn<|WC.b<|WC.block<|B2n U<|WC.b<|cK h fun u h=>bK h fun F v h=>D3q U<|L3 (dd:=14) (Z:=Z) (Pr:=(mN Z)) zdH n u ?_
   rintro A B x C ⟨D,E,rfl,y⟩
   refine Le 15 (xB zc1 U<|mG hz.pv x)<|Lm 16 (qi (l:=[.tmp 15]) call36<|.cons U .nil) (.cons .here .nil) (cc hz (.cons .here .nil) fun w pz ho=>Wc _ _ _ _ _ _ _ _ _ _ v pz y o p ho)<|Q0n<|Lj h (fun z h=>?_)<|fun z h=>?_
   ·exact B2n U<|Nw<|Ly<|Ll<|Ll<|Ly<|Ll<|oJ h▸Nm results55 (.tmp U .nil) (.cons .here .nil)
   ·exact N0<|Lt<|Lb<|D2q U<|WL.nil<|Nx ⟨s,i64 (c+1)⟩ h (Nat.lt_succ_self _) .q<|.cons .here .nil
  ·exact Nz<|Lo<|Lo<|Lv<|Lp () h .nil<|.cons .here .nil
 ·rintro  h
  replace h:=q.symm.trans h
  exact B1n U<|Nw<|oJ h▸Nm results55 (.tmp U .nil) (.cons .here .nil)
def vX(a:List (List zb))(b:z7)(c:List (z7×Int)):Option Bool:=
 (ja a b c).bind fun d=>some (decide (d>=0))
theorem se(Z e f g i a c d b r)(h:vX c d b=some r){Nv}(hz:Pz [xU a (ga wp) vI b] Nv Z)(j:ZS Z 1 (mN Z) e f c)(k:ZC Z g [vi d.ya,vi d.fQ])(l:ZC Z i [.map (some a)])(ip:Ho Nv [xU a (ga wp) vI b]):
  RF 27 #[vs e c.length f,.func (.func 36) #[] #[vq g,vq i]] Nv (.bool r) [xU a (ga wp) vI b] [xU a (ga wp) vI b]:=by
 unfold vX at h
 exact Ni func27 U ip U<|B1n U<|WC.b<|bK h fun n m h=>D2q U<|Lm 7 (Ns call55) (.cons .here .nil) (cc hz (.cons .here .nil) fun w pz ho=>ri _ _ _ _ _ _ _ _ _ _ m pz j k l ho)<|Q2n U<|Nw<|oJ h▸Nm results27 (.tmp U .nil) (.cons .here .nil)
def l3(l:List z7)(i j:Int):Option (List z7):=chk ((0<=i/\i<=j/\j<=l.length)/\l.length*16<=140737488355328) (some (l.take i.toNat++l.drop j.toNat))
theorem Wd(Z ao cap l i j r){Nv}(hz:Pz [row (vs ao l.length cap) 97 2 (l.flatMap wp)] Nv Z)(h:l3 l i j=some r)(ip:Ho Nv [row (vs ao l.length cap) 97 2 (l.flatMap wp)]):
  Calls Tryz.prog 41 #[.slice ao l.length cap,.int .i64 i,.int .i64 j] Nv fun e w'=>∃ aor:Option Addr,∃ EO:Nat,e = .returned (vs aor r.length EO)/\True/\Hp (fps [row (vs ao l.length cap) 97 2 (l.flatMap wp)]) Nv w' [row (vs aor r.length EO) 97 2 (r.flatMap wp)]:=by
 obtain⟨⟨c1,c2⟩,h⟩:=xH h
 obtain rfl:=oJ h
 clear h
 refine N6 func41 U ip U<|B1n U<|B0q<|La U<|La U<|La U<|La U<|Le 12 (w9 underlying88) (Nj (fun w h=>h.rowShape .here) fun hs=>?_)
 obtain⟨hs1,hs2,hs3,_⟩:=hs
 refine Le 13 (Ue z8h U U U U (by omega) (by omega) (by omega) (by omega))<|Q0n<|WC.b<|B3n U<|WC.cond U (fun hb=>?_)<|fun hb=>?_
 ·have e:i=j:=by simpa using hb
  refine B2n U<|Nw<|Ll<|Li results41 (.tmp U .nil)<|fun w hw=>?_
  have e2:l.take i.toNat++l.drop j.toNat=l:=by subst e;exact List.take_append_drop _ _
  rw[e2];exact⟨ao,cap,w6,trivial,hw.sub (.cons .here .nil)⟩
 ·have n9:i<j:=by
   have:i≠j:=by simpa using hb
   omega
  clear hb
  refine Nn<|B1q U<|Le 19 (w9 underlying88)<|Q1n U<|WC.b<|Pf (fun w hw=>Hp.vo .here hw (by omega)) ?_
  rintro⟨b,rfl⟩
  have jy:(l.take i.toNat++l.drop j.toNat).length=i.toNat+(l.length-j.toNat):=by rw[List.length_append,List.length_take,List.length_drop];omega
  refine Lu (fun i=>[6].contains i) []<|Lf 0 U q_m<|Lf 1 U q_m<|Lf 2 U (pF (lo:=0) (hi:=i.toNat) (lv:=none) (hv:=some (vi i)) z8h U (fun _ _ _=>U) (fun a w h=>by rw[Option.map_some,h.eval U]) U (by show i=_;omega) (by omega) (by omega) (by simp))<|Nk (i:=22) U (u:=.slice (some ⟨b,0,none⟩) i.toNat cap) (by split <;> simp[Addr.add])<|Lf 3 U q_m<|Lf 4 U q_m<|Lf 5 U (pF (lo:=j.toNat) (hi:=l.length) (lv:=some (vi j)) (hv:=none) z8h U (fun a w h=>by rw[Option.map_some,h.eval U]) (fun _ _ _=>U) (by show j=_;omega) U (by omega) (by omega)<|fun _=>hs2) (WD.old (i:=6) (dd:=26) U (by kernel_rfl) U (fun _=>wT.of .nil) (GZ (i:=i.toNat) (j:=j.toNat) (m:=l.length) (cs:=l.flatMap wp) z8h U U (fun hk=>if_neg (by omega)) .here (by omega) (by omega) (gN ay _) (by omega)) fun tl _=>Lf 7 U q_z<|Ny (by kernel_rfl)<|Lb<|B2q U<|Le 29 (w9 underlying88)<|La U<|Le 31 (pF (lo:=i.toNat+(l.length-j.toNat)) (hi:=l.length) (lv:=some (vi ((i.toNat+(l.length-j.toNat):Nat):Int))) (hv:=some (vi (l.length:Int))) z8h U (fun a w h=>by rw[Option.map_some,h.eval U]) (fun a w h=>by rw[Option.map_some,h.eval U]) U U (by omega) (by omega) (by simp))<|Ln (YT (i:=i.toNat+(l.length-j.toNat)) z8h zqM U U (by omega) (G4 (enc:=wp) (sz:=2) (z0:=((⟨0,0⟩:z7):z7)) (fun _=>U) (by decide) U ay) .here U)<|Q0n<|B2n U<|Nw<|Li results41 (.tmp U .nil)<|fun w hw=>?_)
  rw[jy]
  refine⟨some ⟨b,0,none⟩,cap,w6,trivial,?_⟩
  have h5:=Hp.rowShort (m:=l.length) (i:=i.toNat+(l.length-j.toNat)) (R:=[]) .here (by omega) hw
  have e1:(l.flatMap wp).take (i.toNat*2)=(l.take i.toNat).flatMap wp:=bG (enc:=wp) (sz:=2) (fun _=>U) l i.toNat (by omega)
  have e2:(l.flatMap wp).drop (j.toNat*2)=(l.drop j.toNat).flatMap wp:=ab (enc:=wp) (sz:=2) (fun _=>U) l j.toNat (by omega)
  have e3:((l.take i.toNat++l.drop j.toNat).flatMap wp).length=(i.toNat+(l.length-j.toNat))*2:=by rw[pg (sz:=2) (fun _=>U),jy]
  rw[e1,e2,<- List.flatMap_append,<- e3,List.take_left,List.take_left] at h5
  exact h5.sub<|.cons .here .nil
def g9(b:List z7)(e:List (List zb))(c:List (z7×Int))(d:List z7)(f:(List z7)->(List z7)->(List (z7×Int))->Option (List z7×Int))(g:Option (List z7×Int)):Nat->Int->Option (List z7×Int)
 | 0,_=>none
 | h+1,a=>if decide (a<b.length) then chk (0<=a/\a<b.length) ((vX e (⟨(nth b a).ya,(nth b a).fQ⟩:z7) c).bind fun i=>if !i then chk ((((d++([(⟨(nth b a).ya,(nth b a).fQ⟩:z7)]:List z7)).length:Nat):Int)*16<=140737488355328/\(((d++([(⟨(nth b a).ya,(nth b a).fQ⟩:z7)]:List z7)).length:Nat):Int)<=4611686018427387904) ((l3 b a (i64 (a+1))).bind fun j=>f j (d++([(⟨(nth b a).ya,(nth b a).fQ⟩:z7)]:List z7)) (w4 c (⟨(nth b a).ya,(nth b a).fQ⟩:z7) (i64 ((xC c (⟨(nth b a).ya,(nth b a).fQ⟩:z7) 0)+1)))) else g9 b e c d f g h (i64 (a+1))) else g
def gb(a:List (List zb))(b:(List z7)->Option (List z7×Int)):Nat->(List z7)->(List z7)->(List (z7×Int))->Option (List z7×Int)
 | 0,_,_,_=>none
 | e+1,c,d,f=>if decide ((c.length:Int)>0) then jp3 (fun(g:List z7) (h:List z7) (i:List (z7×Int))=>gb a b e g h i) fun j=>uB (some (([]:List z7),351)) fun k=>g9 c a f d j k xR 0 else b d
def ug(a:List (List zb)):Option (List z7×Int):=
 (sa a).bind fun b=>qP (fun(c:List z7)=>some (c,0)) fun d=>gb a d xR b ([]:List z7) ([]:List (z7×Int))
theorem nO(Z K L u r)(h:ug u=some r){Nv}(hz:PZ [] Nv Z)(M:ZS Z 1 (mN Z) K L u):
  Calls Tryz.prog 21 #[vs K u.length L] Nv fun e w'=>∃ N:Option Addr,∃ O:Nat,e = .returned (.tuple #[vs N r.1.length O,vi r.2])/\True/\Hp [] Nv w' [row (vs N r.1.length O) 97 2 (r.1.flatMap wp)]:=by
 unfold ug at h
 refine L8 func21 U U<|B2n U<|O5<|WC.b<|bK h fun T V h=>D1q U<|N9 (dd:=11) U (Ns call35) .nil (cc hz .nil fun w pz ho=>Vd _ _ _ _ _ V pz M) ?_
 rintro W X _
 refine Q1n U<|B0q (Lh 12 (fh (ga wp)<|Value.int .i64) fun q _=>Lh 5 (xW (cs:=[.map none]) zPr) fun x _=>Ln (xP zPs .here)<|Q0n<|B1n U<|WC.b<|O7<|Lb ?_)
 refine jK1 h fun P Y h=>N5 (fun m y z=>(P m=some r)) (fun m y z=>[(6,vs y m.length z)]) (fun m y z=>[row (vs y m.length z) 97 2 (m.flatMap wp)]) ?_ ?_
 ·let A:Value:=(vs K u.length L);refine WC.block<|WC.nilRow 97 2<|Ot (fun H a c d s n o p=>(gb u P H a c d=some r)) (fun H a c d s n o p=>[(0,A),(4,vs s a.length n),(5,vp x),(6,vs o c.length p)]) (fun H a c d s n o p=>[row (vs s a.length n) 97 2 (a.flatMap wp),row (vs o c.length p) 97 2 (c.flatMap wp),stb x 93 [(.map<|some q)],xU q (ga wp) vI d]) (fun H a c d s n o p=>H) ⟨xR,T,([]:List z7),([]:List (z7×Int)),W,X,none,0⟩ h .q (.s4 .h3 .here .here .here) ?_
  rintro(_|aa) a c d s n o p h;·cases h
  rw[gb] at h
  refine WC.b<|B1q U<|Le 14 (w9 underlying88)<|Q1n U<|Lj h (fun ab h=>?_)<|fun ab h=>?_
  ·refine Nn<|jK3 h fun Q ad h=>Pe (fun f g t B E F G=>(Q f g t=some r)) (fun f g t B E F G=>[(0,A),(4,vs B f.length E),(5,vp x),(6,vs F g.length G)]) (fun f g t B E F G=>[row (vs B f.length E) 97 2 (f.flatMap wp),row (vs F g.length G) 97 2 (g.flatMap wp),stb x 93 [(.map<|some q)],xU q (ga wp) vI t]) ?_ ?_
   ·refine WC.block<|jK0 h fun R ae h=>Nd (R=some r) ([]) ([]) ?_ ?_
    ·let C:Value:=(vs s a.length n);let D:Value:=(vs o c.length p);refine B1q U<|Le 17 (w9 underlying88)<|Q1n U<|WC.block<|Ng (fun I b=>(g9 a u d c Q R I b=some r)) (fun I b=>[(0,A),(4,C),(5,vp x),(6,D),(16,C),(17,vi (a.length:Int)),(18,vi b)]) (fun I b=>[row C 97 2 (a.flatMap wp),row D 97 2 (c.flatMap wp),stb x 93 [(.map<|some q)],xU q (ga wp) vI d]) (fun I b=>I) ⟨xR,0⟩ h .q .a4 ?_
     rintro(_|af) b h;·cases h
     rw[g9] at h
     refine B1n U<|WC.b<|Lj h (fun ag h=>?_)<|fun ag h=>?_
     ·refine Nn<|WC.b<|WC.block<|WC.b<|cK h fun J h=>D1q U<|Nj (fun w hw=>Hp.vo .here hw (by intro hz';have:=J;rw[hz'] at this;omega)) ?_
      rintro⟨ah,rfl⟩
      refine Le 21 (xY z8h J.1 J.2 wz)<|Le 22 (wi (cs:=(wp<|nth a b)) z5S<|vB .here<|wG (enc:=wp) (l:=a) (i:=b) (sz:=2) (fun _=>U) J.1 J.2) (Lh 8 (xW (cs:=[vi 0,vi 0]) zqM) fun ar _=>La U<|Ln (xP zu7 .here)<|Q0n<|WC.b ?_)
      refine bK h fun aw ai h=>D1q U<|Le 24 (vf<|L6 (l:=[.tmp 8,.tmp 5])<|.r2 U U)<|Lm 25 (Ns call27) (.cons .h4 .nil) (uC hz (.cons .h4 .nil) (.s2 .here .h2) fun w pz ho la=>se _ _ _ _ _ _ _ _ _ _ ai pz ((M.mono<|zl).weak (fun _ _ h=>jc zl h)) ((la _ (.head _) _).stb) ((la _ (.tail _<|.head _) _).stb) ho)<|Q2n U<|B1n U<|Lj h (fun aj h=>?_)<|fun aj h=>?_
      ·refine WC.b<|Lu (fun i=>[4,6].contains i) [W7 q (ga wp) vI (⟨(nth a b).ya,(nth a b).fQ⟩:z7) (0:Int) (xC d (⟨(nth a b).ya,(nth a b).fQ⟩:z7) 0)]<|Lg 0 U (Nt zqN .h4)<|Lg 1 U (xK z5S (xM .h1))<|Nb 2 U (wT.wk (.cons .here .nil)<|.any U (fun _ h=>pj h) .nil) (Q2 (k:=(⟨(nth a b).ya,(nth a b).fQ⟩:z7)) (dflt:=(0:Int)) zgR underlying93 ms U U U .here)<|Lf 3 U rP<|Pd (i:=4) (dd:=32) U (by kernel_rfl) U U U U (GU (k:=(⟨(nth a b).ya,(nth a b).fQ⟩:z7)) (dflt:=(0:Int)) zgR underlying93 ms U U U .here) (fun _=>(wT.wk (.cons .here .nil)<|.any U (fun _ h=>FV h) .nil)) ?_
       rintro au _
       refine Lf 5 U mv<|Nc (i:=6) U (by kernel_rfl) (by kernel_rfl) (QB (k:=(⟨(nth a b).ya,(nth a b).fQ⟩:z7)) (v:=i64 ((xC d (⟨(nth a b).ya,(nth a b).fQ⟩:z7) 0)+1)) U U U U .here)<|Ny (by kernel_rfl)<|Lb<|WC.b<|cK h fun ak h=>D1q U<|Le 35 (xK z5S (xM .h1)) (Lh 36 (ws (cs:=([(⟨(nth a b).ya,(nth a b).fQ⟩:z7)]:List z7).flatMap wp) z8h (Lq (l:=[.tmp 35]) (.cons U .nil) [0]) (fun _=>by kernel_rfl) (by unfold maxLen;omega)) fun av _=>WL.fA 37 (kK (enc:=wp) (l1:=c) (l2:=([(⟨(nth a b).ya,(nth a b).fQ⟩:z7)]:List z7)) z8h .h4 (fun _=>U) (kN .here) (gN ay _) ak) ?_)
       rintro⟨al,am⟩ _
       refine Q1n U<|WC.b<|bK h fun S an h=>D4q U<|N9 (dd:=42) U (Ns call41) (.cons .h4 .nil) (cc hz (.cons .h4 .nil) fun w pz ho=>Wd (Z:=_) (ao:=(some ⟨ah,0,none⟩)) (cap:=n) (l:=a) (i:=b) (j:=(i64 (b+1))) (r:=S) pz  an ho) ?_
       rintro ap aq _
       exact Q1n U<|Nz<|Oi U<|Lo<|Lo<|Oi U<|Lo<|Lv<|Lp ⟨S,c++([(⟨(nth a b).ya,(nth a b).fQ⟩:z7)]:List z7),(w4 d (⟨(nth a b).ya,(nth a b).fQ⟩:z7)<|i64 ((xC d (⟨(nth a b).ya,(nth a b).fQ⟩:z7) 0)+1)),ap,aq,al,am⟩ h .q<|.s4 .here .here .h3 .h1
      ·exact N0<|Lt<|Lb<|D2q U<|WL.nil<|Nx ⟨af,i64 (b+1)⟩ h (Nat.lt_succ_self _) .q<|.s4 .h2 .h2 .h2 .here
     ·exact Nz<|Lo<|Lo<|Lv<|Lp () h .nil .nil
    ·rintro  h
     replace h:=ae.symm.trans h
     exact B2n U<|Nw<|Ly<|Ll<|Ll<|Ly<|Ll<|Pg<|WX.nilRow 97 2<|oJ h▸Li results21 (.tmp U<|.tmp U .nil) fun w hw=>⟨none,0,qz,trivial,hw.sub (.cons .here .nil)⟩
   ·rintro f g t B E F G h
    replace h:=(ad f g t).symm.trans h
    exact Nx ⟨aa,f,g,t,B,E,F,G⟩ h (Nat.lt_succ_self _) .q<|.a4
  ·exact Nz<|Lo<|Lo<|Lv<|Lp ⟨c,o,p⟩ h (.cons U .nil)<|.cons .h1 .nil
 ·rintro m y z h
  replace h:=(Y m).symm.trans h
  exact B3n U<|Nw<|Pg<|oJ h▸Li results21 (.tmp U<|.tmp U .nil) fun w hw=>⟨y,z,qz,trivial,hw.sub (.cons .here .nil)⟩
def fl(a:zb)(b:z7):Option Bool:=
 (me a).bind fun c=>some (decide (c=b))
theorem dT(Z e c d r)(h:fl c d=some r){Nv}(hz:PZ [] Nv Z)(f:ZC Z e [vi d.ya,vi d.fQ]):
  RC 67 #[.agg #[vi c.ya,vi c.fX,vi c.fQ],vq e] Nv (.bool r) [] []:=by
 unfold fl at h
 refine Lz func67 U U<|B0q (Lh 2 (wg (cs:=[vi c.ya,vi c.fX,vi c.fQ])) fun j _=>Q1n U<|WC.b ?_)
 exact bK h fun g i h=>Lu nc []<|Lg 0 U (xK z4D (xM .here))<|L4 1 U (Ns call40) (cc hz .nil fun w pz ho=>tD _ _ _ i pz )<|Lg 2 U (xK z5S (qV hz.pv f))<|Lf 3 U (oq (enc:=wp) (a:=g) (b:=d) zu8)<|Lf 4 U q_z<|Ny (by kernel_rfl)<|Lb<|Nw<|oJ h▸Nl results67
def vC(a:List zb)(zmM:zb->Option Bool):Option Bool:=
 (vt a zmM).bind fun b=>some (decide (b>=0))
theorem sW(Z b c zmN zuU a zmM r)(h:vC a zmM=some r){Nv}(hz:PZ [] Nv Z)(d:ZS Z 3 (rq mW) b c a)(f:∀ args w,(callFunc zmN args).run Tryz.prog w = .ok (.enter zmN args) w)(g:∀ w:World,PZ [] w Z->∀(x0:zb) (r:Bool),zmM x0=some r->Calls Tryz.prog zmN (([.agg #[vi x0.ya,vi x0.fX,vi x0.fQ]]:List Value)++zuU).toArray w fun e w'=>e = .returned (.bool r)/\Hp [] w w' []):
  RC 37 #[vs b a.length c,.func (.func zmN) #[] (zuU).toArray] Nv (.bool r) [] []:=by
 unfold vC at h
 exact Lz func37 U U<|B1n U<|WC.b<|bK h fun j i h=>D2q U<|Nr call65 hz (fun pz=>mR _ _ _ (zh2:=zmN) (zmt:=zuU) _ (z9u:=zmM) _ i pz d f g)<|Q2n U<|Nw<|oJ h▸Nl results37
def jB(a:Int):Option z2:=
 some (⟨a,1⟩:z2)
theorem ui(Z a r)(h:jB a=some r){Nv}(hz:PZ [] Nv Z):
  RC 43 #[vi a] Nv (.agg #[vi r.fN,vi r.fD]) [] []:=by
 unfold jB at h
 refine L8 func43 U U<|B0q (Lh 2 (xW (cs:=[vi 0,vi 0]) z1s) fun b _=>Q0n<|B1q U<|Le 4 (wm (v:=(.agg #[vi a,vi 1])) (Lq (l:=[.tmp 3,.const (vi 1)]) (.r2 U U) [0,1]) (fun _=>by kernel_rfl))<|Ln (xP z12 .here)<|Q0n<|Nw ?_)
 exact oJ h▸Nm results43 (.agg U ze U (xM .here) .nil) .nil
def tH(a:Int):Option Int:=
 if decide (a<0) then some (u64 ((u64 (i64 (0-(i64 (a+1)))))+1)) else some (u64 a)
theorem c7(Z a r)(h:tH a=some r){Nv}(hz:PZ [] Nv Z):
  RC 112 #[vi a] Nv (.int .u64 r) [] []:=by
 unfold tH at h
 refine L8 func112 U U<|B1n U<|WC.b<|B2n U<|Lj h (fun b h=>?_)<|fun b h=>?_
 ·exact B2q U<|Le 7 (QL U U)<|Le 8 (fg underlying3 underlying193)<|Q2n U<|Nw<|Ll<|oJ h▸Nl results112
 ·exact Nn<|B1q U<|Le 11 (fg underlying3 underlying193)<|Q1n U<|Nw<|oJ h▸Nl results112
def jm(b:Int->Option Int):Nat->Int->Int->Option Int
 | 0,_,_=>none
 | d+1,c,a=>if decide (a≠0) then chk ((a:Int)≠0) (jm b d a (Int.tmod c a)) else b c
def mJ(a:Int)(b:Int):Option Int:=
 qP (fun(c:Int)=>some c) fun d=>jm d xR a b
theorem cQ(Z e f r)(h:mJ e f=some r){Nv}(hz:PZ [] Nv Z):
  RC 111 #[.int .u64 e,.int .u64 f] Nv (.int .u64 r) [] []:=by
 unfold mJ at h
 refine Lz func111 U U<|B1n U<|jK1 h fun g i h=>L5 (fun c=>(g c=some r)) (fun c=>[(0,.int .u64 c)]) (fun c=>[]) ?_ ?_
 ·refine WC.block<|N7 (fun d a b=>(jm g d a b=some r)) (fun d a b=>[(0,.int .u64 a),(1,.int .u64 b)]) (fun d a b=>[]) (fun d a b=>d) ⟨xR,e,f⟩ h .q .nil ?_
  rintro(_|j) a b h;·cases h
  rw[jm] at h
  refine WC.b<|B2n U<|Lj h (fun k h=>?_)<|fun k h=>?_
  ·exact Nn<|WC.block<|cK h fun l h=>Lu nc []<|Lf 0 U q_m<|Lf 1 U q_m<|Lf 2 U q_m<|Lf 3 U (XX l)<|Lf 4 U q_z<|Lf 5 U q_z<|Ny (by kernel_rfl)<|Lt<|Nx ⟨j,b,Int.tmod a b⟩ h (Nat.lt_succ_self _) .q .nil
  ·exact Nz<|Lo<|Lo<|Lv<|Lp a h (.cons U .nil) .nil
 ·rintro c h
  replace h:=(i c).symm.trans h
  exact B2n U<|Nw<|oJ h▸Nl results111
def uw(e:Int)(c:Int):Option (z2×Int):=
 if decide (c=0) then some ((⟨0,0⟩:z2),2) else(tH e).bind fun b=>(tH c).bind fun d=>(mJ b d).bind fun a=>chk ((a:Int)≠0) (if (decide ((u64 (Int.tdiv b a))>1073741824))||(decide ((u64 (Int.tdiv d a))>1073741824)) then some ((⟨0,0⟩:z2),3) else qP (fun(g:Int)=>some ((⟨g,i64 (u64 (Int.tdiv d a))⟩:z2),0)) fun f=>if (decide (e<0)) != (decide (c<0)) then f (i64 (0-(i64 (u64 (Int.tdiv b a))))) else f (i64 (u64 (Int.tdiv b a))))
theorem l4(Z c d r)(h:uw c d=some r){Nv}(hz:PZ [] Nv Z):
  RC 106 #[vi c,vi d] Nv (.tuple #[.agg #[vi r.1.fN,vi r.1.fD],vi r.2]) [] []:=by
 unfold uw at h
 refine Lz func106 U U<|B0q (Lh 4 (xW (cs:=[vi 0,vi 0]) z1s) fun e _=>Q1n U<|WC.b<|B2n U<|Lj h (fun k h=>?_)<|fun k h=>?_)
 ·exact B0q<|Le 12 (wm (v:=(.agg #[vi 0,vi 0])) (Lq (l:=[]) .nil []) (fun _=>by kernel_rfl))<|Ln (xP z12 .here)<|Q1n U<|Nw<|Ll<|oJ h▸Nm results106 (.agg U ze U (xM .here)<|.tmp U .nil) .nil
 ·refine Nn<|WC.b<|bK h fun f m h=>bK h fun g n h=>D1q U<|Nr call112 hz (c7 _ _ _ m)<|La U<|Nr call112 hz (c7 _ _ _ n)<|Q2n U<|WC.b<|bK h fun b o h=>D2q U<|Nr call111 hz (cQ _ _ _ _ o)<|Q1n U<|WC.b<|cK h fun i h=>Lu nc []<|Lf 0 U q_m<|Lf 1 U q_m<|Lf 2 U (QI U U i U)<|Lf 3 U q_m<|Lf 4 U q_m<|Lf 5 U (QI U U i U)<|Lf 6 U q_z<|Lf 7 U q_z<|Ny (by kernel_rfl)<|Lb<|WC.b<|B3q U<|Lw false 2 28 (B:=(decide ((u64<|Int.tdiv f b)>1073741824))||(decide ((u64<|Int.tdiv g b)>1073741824))) (fun h=>(gQ h).symm) (fun _ p=>?_) ?_
  ·exact Q3q U<|Lx (gR p) U .all
  refine Q0n<|Lj h (fun q h=>?_)<|fun q h=>?_
  ·exact B0q<|Le 32 (wm (v:=(.agg #[vi 0,vi 0])) (Lq (l:=[]) .nil []) (fun _=>by kernel_rfl))<|Ln (xP z12 .here)<|Q1n U<|Nw<|Ll<|oJ h▸Nm results106 (.agg U ze U (xM .here)<|.tmp U .nil) .nil
  ·let A:=(i64 (u64 (Int.tdiv f b)));let C:Value:=(vi (i64 (u64 (Int.tdiv g b))));refine Nn<|B1q U<|Le 34 (fg underlying193 underlying3)<|La U<|Le 36 (fg underlying193 underlying3)<|Le 37 (wm (v:=(.agg #[vi A,C])) (Lq (l:=[.tmp 34,.tmp 36]) (.r2 U U) [0,1]) (fun _=>by kernel_rfl))<|Lh 9 (xW (cs:=[vi 0,vi 0]) z1s) ?_
   intro j _
   refine Ln (xP z12 .here)<|Q0n<|jK1 h fun s t h=>L5 (fun a=>(s a=some r)) (fun a=>[(4,vp e),(9,vp j)]) (fun a=>[stb e 132 [vi 0,vi 0],stb j 132 [vi a,C]]) ?_ ?_
   ·refine B0q<|La U<|La U<|La U<|La U<|Le 42 (S7 underlying4 U U)<|Q0n<|Lj h (fun u h=>?_)<|fun u h=>?_
    ·exact Ld<|Le 43 (xA jz)<|Le 44 (Nt xL .here)<|Le 45 (QL U U)<|Le 46 (xA jz)<|Ln (kO (ds:=[(vi<|i64 (0-A)),C]) dO .here)<|WL.nil<|Lp (i64 (0-A)) h .q<|.s2 .h1 .here
    ·exact N0<|Lp A h .q<|.s2 .h1 .here
   ·rintro a h
    replace h:=(t a).symm.trans h
    exact B0q<|Le 47 (xK ze (xM .h1))<|Ln (xP z12 .here)<|Q1n U<|Nw<|oJ h▸Nm results106 (.agg U ze U (xM .here)<|.tmp U .nil) .nil
def gE(b:zV)(d:List (List zb))(e:List (ym×z2))(f:List (z7×Int))(g:Int)(a:Int):Option z2:=
 chk (0<=a/\a<b.yg.length) ((uw ((nth b.yg a).yC) ((nth b.yg a).yK)).bind fun c=>some c.1)
theorem pS(Z g k l m n o p q s t u v x y z A B C D b c a f d e E F r)(h:gE a f d e E F=some r){Nv}(hz:Pz [xU b (ga jH) (ga xZ) d,xU c (ga wp) vI e] Nv Z)(M:ZS Z 4 (gk Z) k l a.fM)(N:ZS Z 4 (fJ Z) m n a.yf)(O:ZS Z 4 (rq kT) o p a.fS)(P:ZS Z 4 (rq mM) q s a.fK)(G:ZS Z 7 (f0 Z) t u a.yg)(Q:ZS Z 5 (rq mb) v x a.fH)(R:ZS Z 3 (fO Z) y z a.fU)(S:ZS Z 4 (rq mc) A B a.ye)(T:ZS Z 1 (mN Z) C D f)(H:ZC Z g [vs k a.fM.length l,vs m a.yf.length n,vs o a.fS.length p,vs q a.fK.length s,vs t a.yg.length u,vs v a.fH.length x,vs y a.fU.length z,vs A a.ye.length B,vs C f.length D,.map (some b),.map (some c),vi E])(ip:Ho Nv [xU b (ga jH) (ga xZ) d,xU c (ga wp) vI e]):
  RF 71 #[vq g,vi F] Nv (.agg #[vi r.fN,vi r.fD]) [xU b (ga jH) (ga xZ) d,xU c (ga wp) vI e] [xU b (ga jH) (ga xZ) d,xU c (ga wp) vI e]:=by
 unfold gE at h
 refine Ni func71 U ip U<|B0q (Lh 4 (xW (cs:=[vi 0,vi 0]) z1s) fun V _=>Q0n<|WC.b ?_)
 refine cK h fun I h=>bK h fun al J h=>Lu (fun i=>[23].contains i) []<|Lf 0 U q_m<|Lf 1 U w3<|Lf 2 U (xA rB)<|Lf 3 U (xA mX)<|Lg 4 U (xB z8f U<|wA hz.pv H)<|Lf 5 U q_m<|Nf (j:=6) (dd:=14) (by kernel_rfl) z2B z2C (Z:=Z) (Pr:=(f0 Z)) zdI G I ?_
 rintro W X K Y ⟨aa,ab,rfl,ad⟩
 refine Lf 7 U (xA lK)<|Lg 8 U (xB xL U<|wA hz.pv K)<|Lf 9 U q_m<|Lf 10 U w3<|Lf 11 U (xA rB)<|Lf 12 U (xA mX)<|Lg 13 U (xB z8f U<|wA hz.pv H)<|Lf 14 U q_m<|Nf (j:=15) (dd:=23) (by kernel_rfl) z2B z2C (Z:=Z) (Pr:=(f0 Z)) zdI G I ?_
 rintro ae af L ag ⟨ah,ai,rfl,aj⟩
 refine Lf 16 U (xA V6)<|Lg 17 U (xB xL U<|wA hz.pv L)<|L4 18 U (Ns call106) (cc hz .nil fun w pz ho=>l4 _ _ _ _ J pz )<|Lf 19 U q_m<|Lf 20 U mv<|Lf 21 U mv (WD.new (i:=22) (dd:=5) U (by kernel_rfl) U (xW (cs:=[vi 0,vi 0]) z1s) (fun h'=>absurd h' (by decide)) fun ak _=>WD.forced0 (i:=23) U (by kernel_rfl) (wT.of .nil) (xP z12 .here)<|Lf 24 U q_z<|Ny (by kernel_rfl)<|Lb<|B0q<|Le 29 (xK ze (xM .here))<|Ln (xP z12 .h1)<|Q0n<|Nw ?_)
 exact oJ h▸Nm results71 (.agg U ze U (xM .here) .nil) (.s2 .h2 .h2)
def qw(a:z2):Option Bool:=
 (if (((decide (a.fD>=1))&&(decide (a.fD<=1073741824)))&&(decide (a.fN>=(-1073741824))))&&(decide (a.fN<=1073741824)) then(tH a.fN).bind fun b=>(tH a.fD).bind fun c=>(mJ b c).bind fun d=>some (decide (d=1)) else some false).bind fun e=>some e
theorem jK(Z a r)(h:qw a=some r){Nv}(hz:PZ [] Nv Z):
  RC 80 #[.agg #[vi a.fN,vi a.fD]] Nv (.bool r) [] []:=by
 unfold qw at h
 refine L8 func80 U U<|B0q (Lh 1 (wg (cs:=[vi a.fN,vi a.fD])) fun c _=>Q1n U<|WC.b ?_)
 obtain⟨u,o,h⟩:=z8 h
 let D:Value:=(.bool ((decide (a.fD>=1))&&(decide (a.fD<=1073741824))));refine Lu nc []<|Lf 0 U (xA kd)<|Lg 1 U (Nt xL .here)<|Lf 2 U (QK U U)<|Lf 3 U q_m<|L9 (fuel':=21) [(1,vp c),(2,.bool false),(6,(.bool<|decide (a.fD>=1))),(10,D)] (j7 29 (dn 8)) ?_<|fun p=>?_
 rotate_left
 ·rcases Bool.eq_false_or_eq_true (decide (a.fD>=1)) with hb' | hb'
  ·have d:=hb';clear hb'
   refine L0 (i:=6) U d<|Lf 4 U (xA kd)<|Lg 5 U (Nt xL .here)<|Lf 6 U (GK U U)<|Lf 7 U qE<|L2 (.cons .here .nil) ?_ p
   exact .r4 U U (zu<|Eq.symm d)<|zu<|jS d
  ·have e:=hb';clear hb'
   refine L0 (i:=6) U e<|Lk 4 U<|Lk 5 U<|Lk 6 U<|Lf 7 U qF<|L2 (.cons .here .nil) ?_ p
   exact .r4 U U (zu<|Eq.symm e)<|zu<|jR e
 let C:Value:=(.bool (((decide (a.fD>=1))&&(decide (a.fD<=1073741824)))&&(decide (a.fN>=(-1073741824)))));refine WD.d (bz 8 21) (by kernel_rfl)<|Lf 8 U q_m<|L9 (fuel':=16) [(1,vp c),(2,.bool false),(11,D),(15,C)] (j7 29 (dn 13)) ?_<|fun q=>?_
 rotate_left
 ·rcases Bool.eq_false_or_eq_true ((decide (a.fD>=1))&&(decide (a.fD<=1073741824))) with hb' | hb'
  ·have f:=hb';clear hb'
   refine L0 (i:=11) U f<|Lf 9 U (xA jz)<|Lg 10 U (Nt xL .here)<|Lf 11 U (QK U U)<|Lf 12 U qE<|L2 (.cons .here .nil) ?_ q
   exact .r4 U U (zu<|Eq.symm f)<|zu<|jS f
  ·have g:=hb';clear hb'
   refine L0 (i:=11) U g<|Lk 9 U<|Lk 10 U<|Lk 11 U<|Lf 12 U qF<|L2 (.cons .here .nil) ?_ q
   exact .r4 U U (zu<|Eq.symm g)<|zu<|jR g
 let A:Value:=(.bool ((((decide (a.fD>=1))&&(decide (a.fD<=1073741824)))&&(decide (a.fN>=(-1073741824))))&&(decide (a.fN<=1073741824))));refine WD.d (bz 13 16) (by kernel_rfl)<|Lf 13 U q_m<|L9 (fuel':=11) [(1,vp c),(2,.bool false),(16,C),(20,A)] (j7 29 (dn 18)) ?_<|fun s=>?_
 rotate_left
 ·rcases Bool.eq_false_or_eq_true (((decide (a.fD>=1))&&(decide (a.fD<=1073741824)))&&(decide (a.fN>=(-1073741824)))) with hb' | hb'
  ·have j:=hb';clear hb'
   refine L0 (i:=16) U j<|Lf 14 U (xA jz)<|Lg 15 U (Nt xL .here)<|Lf 16 U (GK U U)<|Lf 17 U qE<|L2 (.cons .here .nil) ?_ s
   exact .r4 U U (zu<|Eq.symm j)<|zu<|jS j
  ·have k:=hb';clear hb'
   refine L0 (i:=16) U k<|Lk 14 U<|Lk 15 U<|Lk 16 U<|Lf 17 U qF<|L2 (.cons .here .nil) ?_ s
   exact .r4 U U (zu<|Eq.symm k)<|zu<|jR k
 refine WD.d (bz 18 11) (by kernel_rfl)<|Lf 18 U q_m<|L9 (fuel':=1) [(2,.bool false),(21,A),(30,.bool u)] (j7 29 (dn 28)) ?_<|fun t=>?_
 rotate_left
 ·rcases Bool.eq_false_or_eq_true ((((decide (a.fD>=1))&&(decide (a.fD<=1073741824)))&&(decide (a.fN>=(-1073741824))))&&(decide (a.fN<=1073741824))) with hb' | hb'
  ·have l:=hb';clear hb'
   have b:=jD o l
   obtain⟨z,v,b⟩:=z8 b
   obtain⟨B,x,b⟩:=z8 b
   obtain⟨E,y,b⟩:=z8 b
   replace b:=oJ b
   refine L0 (i:=21) U l<|Lf 19 U (xA jz)<|Lg 20 U (Nt xL .here)<|L4 21 U (Ns call112) (cc hz .nil fun w pz ho=>c7 _ _ _ v pz )<|Lf 22 U (xA kd)<|Lg 23 U (Nt xL .here)<|L4 24 U (Ns call112) (cc hz .nil fun w pz ho=>c7 _ _ _ x pz )<|L4 25 U (Ns call111) (cc hz .nil fun w pz ho=>cQ _ _ _ _ y pz )<|Lf 26 U (eH U U)<|Lf 27 U qE<|L2 (.cons .here .nil) ?_ t
   exact .r3 U (zu<|Eq.symm l)<|zu b
  ·have m:=hb';clear hb'
   have n:=jE o m
   replace n:=oJ n
   refine L0 (i:=21) U m<|Lk 19 U<|Lk 20 U<|Lk 21 U<|Lk 22 U<|Lk 23 U<|Lk 24 U<|Lk 25 U<|Lk 26 U<|Lf 27 U qF<|L2 (.cons .here .nil) ?_ t
   exact .r3 U (zu<|Eq.symm m)<|zu n
 exact WD.d (bz 28 1) (by kernel_rfl)<|Lf 28 U q_z<|Ny (by kernel_rfl)<|Lb<|Nw<|oJ h▸Nl results80
def c8(a:z2)(b:z2):Option (Int×Int):=
 some (i64 (a.fN*b.fN),i64 (a.fD*b.fD))
theorem F3(Z c d a b r)(h:c8 a b=some r){Nv}(hz:PZ [] Nv Z)(e:ZC Z c [vi a.fN,vi a.fD])(f:ZC Z d [vi b.fN,vi b.fD]):
  RC 143 #[vq c,vq d] Nv (.tuple #[vi r.1,vi r.2]) [] []:=by
 unfold c8 at h
 exact Lz func143 U U<|B2n U<|WC.b<|Lu nc []<|Lf 0 U (xA jz)<|Lg 1 U (xB xL U<|wA hz.pv e)<|Lf 2 U (xA jz)<|Lg 3 U (xB xL U<|wA hz.pv f)<|Lf 4 U rQ<|Lf 5 U (xA kd)<|Lg 6 U (xB xL U<|wA hz.pv e)<|Lf 7 U (xA kd)<|Lg 8 U (xB xL U<|wA hz.pv f)<|Lf 9 U rQ<|Lf 10 U q_z<|Lf 11 U q_z<|Ny (by kernel_rfl)<|Lb<|Nw<|oJ h▸Nm results143 (.tmp U<|.tmp U .nil) .nil
def cR(a:z2)(b:z2):Option (z2×Int):=
 (qw a).bind fun e=>(if !e then some true else(qw b).bind fun f=>some (!f)).bind fun g=>if g then some ((⟨0,0⟩:z2),2) else(c8 a b).bind fun c=>(uw c.1 c.2).bind fun d=>some (d.1,d.2)
theorem Ul(Z a b r)(h:cR a b=some r){Nv}(hz:PZ [] Nv Z):
  RC 105 #[.string ⟨#[42]⟩,.agg #[vi a.fN,vi a.fD],.agg #[vi b.fN,vi b.fD]] Nv (.tuple #[.agg #[vi r.1.fN,vi r.1.fD],vi r.2]) [] []:=by
 unfold cR at h
 refine N1 func105 U U<|B0q (Lh 4 (wg (cs:=[vi a.fN,vi a.fD])) fun d _=>Lh 5 (wg (cs:=[vi b.fN,vi b.fD])) fun e _=>Lh 6 (xW (cs:=[vi 0,vi 0]) z1s) fun s _=>Q1n U<|WC.b<|WC.b ?_)
 refine bK h fun u i h=>bK h fun f g h=>Ld<|Le 9 (xK ze (xM .h2))<|Nr call80 hz (jK _ _ _ i)<|Q2q U<|Lw false 3 12 (B:=f) (fun h=>(oJ<|jD g h).symm) (fun _ j=>?_) ?_
 ·have c:=jE g j
  obtain⟨y,m,c⟩:=z8 c
  replace c:=oJ c
  exact Le 13 (xK ze (xM .h1))<|Nr call80 hz (jK _ _ _ m)<|Q2q U<|Lx c U .all
 refine La U<|Lw false 7 17 (B:=f) (fun h=>h) (fun _ n=>?_) ?_
 ·exact La U<|Le 19 (Yk (r:=false) (by decide) U U)<|La U<|WL.e U U<|WL.e U U<|WL.e U U<|Q2q U<|Lx (Eq.symm n) U .all
 refine Q0n<|Lj h (fun o h=>?_)<|fun o h=>?_
 ·exact B0q<|Le 26 (wm (v:=(.agg #[vi 0,vi 0])) (Lq (l:=[]) .nil []) (fun _=>by kernel_rfl))<|Ln (xP z12 .here)<|Q1n U<|Nw<|Ll<|oJ h▸Nm results105 (.agg U ze U (xM .here)<|.tmp U .nil) .nil
 ·refine Nn<|B0q<|Lh 27 (fh Value.string<|fun x=>x) ?_
  intro t _
  let A:Value:=(.func (.func 143) #[] #[vp d,vp e]);refine Le 28 (vf<|L6 (l:=[.tmp 4,.tmp 5])<|.r2 U U)<|Ln (gB (k:=⟨#[43]⟩) (v:=(.func (.func 141) #[] #[vp d,vp e])) fj underlying258 .here)<|Le 29 (vf<|L6 (l:=[.tmp 4,.tmp 5])<|.r2 U U)<|Ln (gB (k:=⟨#[45]⟩) (v:=(.func (.func 142) #[] #[vp d,vp e])) fj underlying258 .here)<|Le 30 (vf<|L6 (l:=[.tmp 4,.tmp 5])<|.r2 U U)<|Ln (gB (k:=⟨#[42]⟩) (v:=A) fj underlying258 .here)<|Le 31 (vf<|L6 (l:=[.tmp 4,.tmp 5])<|.r2 U U)<|Ln (gB (k:=⟨#[47]⟩) (v:=(.func (.func 144) #[] #[vp d,vp e])) fj underlying258 .here)<|Q2n U<|WC.b ?_
  exact bK h fun z p h=>bK h fun C q h=>D2q U<|Le 35 (Yj (k:=⟨#[42]⟩) (dflt:=.nilFunc) (r:=A) fj underlying258 zu9 U U U .here (by rfl))<|Lm 36 (qi (l:=[]) call143 .nil) .nil (uC hz .nil (.s2 .h3 .h2) fun w pz ho la=>F3 _ _ _ _ _ _ p pz ((la _ (.head _) _).stb)<|(la _ (.tail _<|.head _) _).stb)<|Q2q U<|Nr call106 hz (l4 _ _ _ _ q)<|Q2q U<|Ln (xP z12 .h1)<|Q1n U<|Nw<|oJ h▸Nm results105 (.agg U ze U (xM .here)<|.tmp U .nil) .nil
def gc(b:z2)(c:z2):Option (z2×Int):=
 (cR b c).bind fun a=>some (a.1,a.2)
theorem az(Z a b r)(h:gc a b=some r){Nv}(hz:PZ [] Nv Z):
  RC 70 #[.agg #[vi a.fN,vi a.fD],.agg #[vi b.fN,vi b.fD]] Nv (.tuple #[.agg #[vi r.1.fN,vi r.1.fD],vi r.2]) [] []:=by
 unfold gc at h
 refine Lz func70 U U<|B0q (Lh 2 (wg (cs:=[vi a.fN,vi a.fD])) fun d _=>Lh 3 (wg (cs:=[vi b.fN,vi b.fD])) fun e _=>Lh 4 (xW (cs:=[vi 0,vi 0]) z1s) fun f _=>Q1n U<|WC.b ?_)
 exact bK h fun g c h=>Ld<|Le 6 (xK ze (xM .h2))<|Le 7 (xK ze (xM .h1))<|Nr call105 hz (Ul _ _ _ _ c)<|Q2q U<|Ln (xP z12 .here)<|Q1n U<|Nw<|oJ h▸Nm results70 (.agg U ze U (xM .here)<|.tmp U .nil) .nil
def gH(h:zV)(i:List (List zb))(j:List (ym×z2))(k:List (z7×Int))(b:Int)(zhg:z2->z2->Option (z2×Int))(e:z2)(f:z2):Option (z2×Int):=
 (zhg e f).bind fun a=>qP (fun(c:Int)=>if decide (a.2≠0) then(jB 0).bind fun g=>some (g,c) else some (a.1,c)) fun d=>if decide (b=0) then d a.2 else d b
theorem rT(Z g i j k m n o p q s t u v x y z B K L b c zej zjY a d M N S zhg O P r)(h:gH a d M N S zhg O P=some r){Nv}(hz:Pz [stb g 95 [vs i a.fM.length j,vs k a.yf.length m,vs n a.fS.length o,vs p a.fK.length q,vs s a.yg.length t,vs u a.fH.length v,vs x a.fU.length y,vs z a.ye.length B,vs K d.length L,.map (some b),.map (some c),vi S],xU b (ga jH) (ga xZ) M,xU c (ga wp) vI N] Nv Z)(ag:ZS Z 4 (gk Z) i j a.fM)(ah:ZS Z 4 (fJ Z) k m a.yf)(ai:ZS Z 4 (rq kT) n o a.fS)(aj:ZS Z 4 (rq mM) p q a.fK)(ak:ZS Z 7 (f0 Z) s t a.yg)(al:ZS Z 5 (rq mb) u v a.fH)(am:ZS Z 3 (fO Z) x y a.fU)(an:ZS Z 4 (rq mc) z B a.ye)(ao:ZS Z 1 (mN Z) K L d)(W:∀ args w,(callFunc zej args).run Tryz.prog w = .ok (.enter zej args) w)(X:∀ w:World,PZ [] w Z->∀(x0:z2) (x1:z2) (r:z2×Int),zhg x0 x1=some r->Calls Tryz.prog zej (([.agg #[vi x0.fN,vi x0.fD],.agg #[vi x1.fN,vi x1.fD]]:List Value)++zjY).toArray w fun e w'=>e = .returned (.tuple #[.agg #[vi r.1.fN,vi r.1.fD],vi r.2])/\Hp [] w w' [])(ip:Ho Nv [stb g 95 [vs i a.fM.length j,vs k a.yf.length m,vs n a.fS.length o,vs p a.fK.length q,vs s a.yg.length t,vs u a.fH.length v,vs x a.fU.length y,vs z a.ye.length B,vs K d.length L,.map (some b),.map (some c),vi S],xU b (ga jH) (ga xZ) M,xU c (ga wp) vI N]):
  RF 68 #[vp g,.func (.func zej) #[] (zjY).toArray,.agg #[vi O.fN,vi O.fD],.agg #[vi P.fN,vi P.fD]] Nv (.agg #[vi r.1.fN,vi r.1.fD]) [stb g 95 [vs i a.fM.length j,vs k a.yf.length m,vs n a.fS.length o,vs p a.fK.length q,vs s a.yg.length t,vs u a.fH.length v,vs x a.fU.length y,vs z a.ye.length B,vs K d.length L,.map (some b),.map (some c),vi S],xU b (ga jH) (ga xZ) M,xU c (ga wp) vI N] [stb g 95 [vs i a.fM.length j,vs k a.yf.length m,vs n a.fS.length o,vs p a.fK.length q,vs s a.yg.length t,vs u a.fH.length v,vs x a.fU.length y,vs z a.ye.length B,vs K d.length L,.map (some b),.map (some c),vi r.2],xU b (ga jH) (ga xZ) M,xU c (ga wp) vI N]:=by
 unfold gH at h
 refine H4 func68 U ip U<|B0q (Lh 6 (wg (cs:=[vi O.fN,vi O.fD])) fun ap _=>Lh 7 (wg (cs:=[vi P.fN,vi P.fD])) fun aq _=>Lh 8 (xW (cs:=[vi 0,vi 0]) z1s) fun T _=>Q0n<|WC.b ?_)
 refine bK h fun Q Y h=>D1q U<|Le 13 (xK ze (xM .h2))<|Le 14 (xK ze (xM .h1))<|Lm 15 (qi (l:=[.tmp 13,.tmp 14]) (f:=zej) (caps:=zjY) W<|.r2 U U) .nil (fun w hw=>X w (hz.now hw) O P Q  Y)<|Q2q U<|La U (Lh 9 (xW (cs:=[vi 0,vi 0]) z1s) fun V _=>Ln (xP z12 .here)<|Q1n U ?_)
 obtain⟨aa,ab,h⟩:=wo h
 let A:Value:=(vs i a.fM.length j);let C:Value:=(vs k a.yf.length m);let D:Value:=(vs n a.fS.length o);let E:Value:=(vs p a.fK.length q);let F:Value:=(vs s a.yg.length t);let G:Value:=(vs u a.fH.length v);let H:Value:=(vs x a.fU.length y);let I:Value:=(vs z a.ye.length B);let J:Value:=(vs K d.length L);refine L5 (fun R=>(aa R=some r)) (fun R=>[(8,vp T),(9,vp V),(10,vi Q.2)]) (fun R=>[stb T 132 [vi 0,vi 0],stb V 132 [vi Q.1.fN,vi Q.1.fD],stb g 95 [A,C,D,E,F,G,H,I,J,(.map<|some b),(.map<|some c),vi R],xU b (ga jH) (ga xZ) M,xU c (ga wp) vI N]) ?_ ?_
 ·refine B1q U<|Le 19 w3<|Le 20 (xA cw)<|Le 21 (Nt z5n .h4)<|Q1n U<|Lj h (fun ad h=>?_)<|fun ad h=>?_
  ·exact D2q U<|Le 25 w3<|Le 26 (xA cw)<|Ln (kO (ds:=[A,C,D,E,F,G,H,I,J,(.map<|some b),(.map<|some c),vi Q.2]) zqO .h4)<|WL.nil<|Lp Q.2 h .q<|.s5 .h2 .h1 .here .h2 .h2
  ·exact N0<|Lp S h .q<|.s5 .h1 .here .h2 .h2 .h2
 ·rintro R h
  replace h:=(ab R).symm.trans h
  refine WC.b<|B2n U<|Lj h (fun ae h=>?_)<|fun ae h=>?_
  ·exact WC.b<|bK h fun ar af h=>Ld<|Nr call43 hz (ui _ _ _ af)<|Ln (xP z12 .here)<|Q0n<|Nw<|Ll<|oJ h▸Nm results68 (.agg U ze U (xM .here) .nil) (.s3 .h2 .h2 .h2)
  ·exact Nn<|B0q<|Le 30 (xK ze (xM .h1))<|Ln (xP z12 .here)<|Q0n<|Nw<|oJ h▸Nm results68 (.agg U ze U (xM .here) .nil) (.s3 .h2 .h2 .h2)
def c9(a:z2)(b:z2):Option (Int×Int):=
 some (i64 ((i64 (a.fN*b.fD))+(i64 (b.fN*a.fD))),i64 (a.fD*b.fD))
theorem F4(Z e f a b r)(h:c9 a b=some r){Nv}(hz:PZ [] Nv Z)(c:ZC Z e [vi a.fN,vi a.fD])(d:ZC Z f [vi b.fN,vi b.fD]):
  RC 141 #[vq e,vq f] Nv (.tuple #[vi r.1,vi r.2]) [] []:=by
 unfold c9 at h
 exact Lz func141 U U<|B2n U<|WC.b<|Lu nc []<|Lf 0 U (xA jz)<|Lg 1 U (xB xL U<|wA hz.pv c)<|Lf 2 U (xA kd)<|Lg 3 U (xB xL U<|wA hz.pv d)<|Lf 4 U rQ<|Lf 5 U (xA jz)<|Lg 6 U (xB xL U<|wA hz.pv d)<|Lf 7 U (xA kd)<|Lg 8 U (xB xL U<|wA hz.pv c)<|Lf 9 U rQ<|Lf 10 U rP<|Lf 11 U (xA kd)<|Lg 12 U (xB xL U<|wA hz.pv c)<|Lf 13 U (xA kd)<|Lg 14 U (xB xL U<|wA hz.pv d)<|Lf 15 U rQ<|Lf 16 U q_z<|Lf 17 U q_z<|Ny (by kernel_rfl)<|Lb<|Nw<|oJ h▸Nm results141 (.tmp U<|.tmp U .nil) .nil
def im(a:z2)(b:z2):Option (z2×Int):=
 (qw a).bind fun e=>(if !e then some true else(qw b).bind fun f=>some (!f)).bind fun g=>if g then some ((⟨0,0⟩:z2),2) else(c9 a b).bind fun c=>(uw c.1 c.2).bind fun d=>some (d.1,d.2)
theorem FZ(Z a b r)(h:im a b=some r){Nv}(hz:PZ [] Nv Z):
  RC 105 #[.string ⟨#[43]⟩,.agg #[vi a.fN,vi a.fD],.agg #[vi b.fN,vi b.fD]] Nv (.tuple #[.agg #[vi r.1.fN,vi r.1.fD],vi r.2]) [] []:=by
 unfold im at h
 refine N1 func105 U U<|B0q (Lh 4 (wg (cs:=[vi a.fN,vi a.fD])) fun d _=>Lh 5 (wg (cs:=[vi b.fN,vi b.fD])) fun e _=>Lh 6 (xW (cs:=[vi 0,vi 0]) z1s) fun s _=>Q1n U<|WC.b<|WC.b ?_)
 refine bK h fun u i h=>bK h fun f g h=>Ld<|Le 9 (xK ze (xM .h2))<|Nr call80 hz (jK _ _ _ i)<|Q2q U<|Lw false 3 12 (B:=f) (fun h=>(oJ<|jD g h).symm) (fun _ j=>?_) ?_
 ·have c:=jE g j
  obtain⟨y,m,c⟩:=z8 c
  replace c:=oJ c
  exact Le 13 (xK ze (xM .h1))<|Nr call80 hz (jK _ _ _ m)<|Q2q U<|Lx c U .all
 refine La U<|Lw false 7 17 (B:=f) (fun h=>h) (fun _ n=>?_) ?_
 ·exact La U<|Le 19 (Yk (r:=false) (by decide) U U)<|La U<|WL.e U U<|WL.e U U<|WL.e U U<|Q2q U<|Lx (Eq.symm n) U .all
 refine Q0n<|Lj h (fun o h=>?_)<|fun o h=>?_
 ·exact B0q<|Le 26 (wm (v:=(.agg #[vi 0,vi 0])) (Lq (l:=[]) .nil []) (fun _=>by kernel_rfl))<|Ln (xP z12 .here)<|Q1n U<|Nw<|Ll<|oJ h▸Nm results105 (.agg U ze U (xM .here)<|.tmp U .nil) .nil
 ·refine Nn<|B0q<|Lh 27 (fh Value.string<|fun x=>x) ?_
  intro t _
  let A:Value:=(.func (.func 141) #[] #[vp d,vp e]);refine Le 28 (vf<|L6 (l:=[.tmp 4,.tmp 5])<|.r2 U U)<|Ln (gB (k:=⟨#[43]⟩) (v:=A) fj underlying258 .here)<|Le 29 (vf<|L6 (l:=[.tmp 4,.tmp 5])<|.r2 U U)<|Ln (gB (k:=⟨#[45]⟩) (v:=(.func (.func 142) #[] #[vp d,vp e])) fj underlying258 .here)<|Le 30 (vf<|L6 (l:=[.tmp 4,.tmp 5])<|.r2 U U)<|Ln (gB (k:=⟨#[42]⟩) (v:=(.func (.func 143) #[] #[vp d,vp e])) fj underlying258 .here)<|Le 31 (vf<|L6 (l:=[.tmp 4,.tmp 5])<|.r2 U U)<|Ln (gB (k:=⟨#[47]⟩) (v:=(.func (.func 144) #[] #[vp d,vp e])) fj underlying258 .here)<|Q2n U<|WC.b ?_
  exact bK h fun z p h=>bK h fun C q h=>D2q U<|Le 35 (Yj (k:=⟨#[43]⟩) (dflt:=.nilFunc) (r:=A) fj underlying258 zu9 U U U .here (by rfl))<|Lm 36 (qi (l:=[]) call141 .nil) .nil (uC hz .nil (.s2 .h3 .h2) fun w pz ho la=>F4 _ _ _ _ _ _ p pz ((la _ (.head _) _).stb)<|(la _ (.tail _<|.head _) _).stb)<|Q2q U<|Nr call106 hz (l4 _ _ _ _ q)<|Q2q U<|Ln (xP z12 .h1)<|Q1n U<|Nw<|oJ h▸Nm results105 (.agg U ze U (xM .here)<|.tmp U .nil) .nil
def vQ(b:z2)(c:z2):Option (z2×Int):=
 (im b c).bind fun a=>some (a.1,a.2)
theorem pl(Z a b r)(h:vQ a b=some r){Nv}(hz:PZ [] Nv Z):
  RC 69 #[.agg #[vi a.fN,vi a.fD],.agg #[vi b.fN,vi b.fD]] Nv (.tuple #[.agg #[vi r.1.fN,vi r.1.fD],vi r.2]) [] []:=by
 unfold vQ at h
 refine Lz func69 U U<|B0q (Lh 2 (wg (cs:=[vi a.fN,vi a.fD])) fun d _=>Lh 3 (wg (cs:=[vi b.fN,vi b.fD])) fun e _=>Lh 4 (xW (cs:=[vi 0,vi 0]) z1s) fun f _=>Q1n U<|WC.b ?_)
 exact bK h fun g c h=>Ld<|Le 6 (xK ze (xM .h2))<|Le 7 (xK ze (xM .h1))<|Nr call105 hz (FZ _ _ _ _ c)<|Q2q U<|Ln (xP z12 .here)<|Q1n U<|Nw<|oJ h▸Nm results69 (.agg U ze U (xM .here)<|.tmp U .nil) .nil
end Go.Proofs.YtcahmabkeaijdaaGreat
