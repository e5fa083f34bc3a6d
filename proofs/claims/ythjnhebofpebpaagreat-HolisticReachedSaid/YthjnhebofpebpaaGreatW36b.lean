/- A part of this claim's proof: models of functions, walks, plain laws. No conditions. -/
import Derived.Test.YthjnhebofpebpaaGreatW36a
set_option linter.all false
namespace Go.Proofs.YthjnhebofpebpaaGreat
open Go Go.RowKit Sep Tryz
set_option maxRecDepth 30000
set_option maxHeartbeats 4000000
def gR(b:List (List zd))(c:Int)(f:(List z6)->Option (List z6)):Nat->(List z6)->Int->Option (List z6)
 | 0,_,_=>none
 | h+1,d,a=>if decide (a<((nth b c).length:Int)) then qI (fun(i:List z6)=>gR b c f h i (i64 (a+1))) fun g=>chk (0<=a/\a<((nth b c).length:Int)) ((mt (⟨(nth (nth b c) a).ya,(nth (nth b c) a).fX,(nth (nth b c) a).fQ⟩:zd)).bind fun j=>(qb d j).bind fun k=>if !k then(mt (⟨(nth (nth b c) a).ya,(nth (nth b c) a).fX,(nth (nth b c) a).fQ⟩:zd)).bind fun e=>chk (((d++([e]:List z6)).length:Int)*16<=140737488355328/\((d++([e]:List z6)).length:Int)<=4611686018427387904) (g (d++([e]:List z6))) else g d) else f d
def gS(b:List (List zd))(c:(List z6)->Option (List z6)):Nat->(List z6)->Int->Option (List z6)
 | 0,_,_=>none
 | e+1,d,a=>if decide (a<b.length) then qI (fun(f:List z6)=>gS b c e f (i64 (a+1))) fun g=>chk (0<=a/\a<b.length) (qI (fun h=>g h) fun i=>gR b a i xR d 0) else c d
def sr(a:List (List zd)):Option (List z6):=
 qI (fun(b:List z6)=>(qc b (fun y0 y1=>vS y0 y1)).bind fun c=>some c) fun d=>gS a d xR ([]:List z6) 0
theorem WI{Z I J d r}(h:sr d=some r){Nx}(hz:PZ [] Nx Z)(P:ZS Z 1 (g9 Z) I J d):
  Calls Tryz.prog 73 #[vs I d.length J] Nx fun e w'=>∃ L:Option Addr,∃ M:Nat,e = .returned (vs L r.length M)/\True/\Hp [] Nx w' [row (vs L r.length M) 121 2 (r.flatMap w8)]:=by
 unfold sr at h
 refine L8 func73 U U<|B1n U<|B1n U<|jK1 h fun N Q h=>Nj (fun k s t=>(N k=some r)) (fun k s t=>[(3,vs s k.length t)]) (fun k s t=>[row (vs s k.length t) 121 2 (k.flatMap w8)]) ?_ ?_
 ·let A:Value:=(vs I d.length J);let C:Value:=(vi (d.length:Int));refine B1q U<|Le 9 (w9 underlying32)<|Q1n U<|WC.block<|WC.nilRow 121 2<|Oa (fun G c a m n=>(gS d N G c a=some r)) (fun G c a m n=>[(3,vs m c.length n),(8,A),(9,C),(10,vi a)]) (fun G c a m n=>[row (vs m c.length n) 121 2 (c.flatMap w8)]) (fun G c a m n=>G) ⟨xR,([]:List z6),0,none,0⟩ h .q (.cons .here .nil) ?_
  rintro(_|R) c a m n h;·cases h
  rw[gS] at h
  refine B1n U<|WC.b<|Lj h (fun S h=>?_)<|fun S h=>?_
  ·refine Nn<|jK1 h fun T V h=>Nj (fun f v x=>(T f=some r)) (fun f v x=>[(3,vs v f.length x),(8,A),(9,C),(10,vi a)]) (fun f v x=>[row (vs v f.length x) 121 2 (f.flatMap w8)]) ?_ ?_
   ·refine WC.block<|WC.b<|cK h fun W h=>Ld<|L2 (Z:=Z) (Pr:=(g9 Z)) z8K P W ?_
    rintro aw ax X ay ⟨Y,aa,rfl,ab⟩
    refine Le 13 (xA z9v U<|kN hz.pv X)<|Q1n U<|B1q U<|Le 15 (w9 underlying58)<|Q1n U<|jK1 h fun O ad h=>O4 (fun g y z=>(O g=some r)) (fun g y z=>[(3,vs y g.length z),(8,A),(9,C),(10,vi a)]) (fun g y z=>[row (vs y g.length z) 121 2 (g.flatMap w8)]) ?_ ?_
    ·let D:Value:=(vs Y ((nth d a).length) aa);let E:=((nth d a).length:Int);refine WC.block<|Oa (fun H b o p q=>(gR d a O H b o=some r)) (fun H b o p q=>[(3,vs p b.length q),(8,A),(9,C),(10,vi a),(14,D),(15,vi E),(16,vi o)]) (fun H b o p q=>[row (vs p b.length q) 121 2 (b.flatMap w8)]) (fun H b o p q=>H) ⟨xR,c,0,m,n⟩ h .q (.cons .here .nil) ?_
     rintro(_|ae) b o p q h;·cases h
     rw[gR] at h
     refine B1n U<|WC.b<|Lj h (fun af h=>?_)<|fun af h=>?_
     ·refine Nn<|jK1 h fun ag ah h=>Nj (fun j B F=>(ag j=some r)) (fun j B F=>[(3,vs B j.length F),(8,A),(9,C),(10,vi a),(14,D),(15,vi E),(16,vi o)]) (fun j B F=>[row (vs B j.length F) 121 2 (j.flatMap w8)]) ?_ ?_
      ·refine WC.block<|WC.b<|cK h fun ai h=>Ld<|L2 (Z:=Z) (Pr:=(rq mN)) z7F ab ai ?_
       rintro az aA aj aB rfl
       refine Le 19 (xK z54 (qx hz.pv aj)) (Lg 7 (xT (cs:=[vi 0,vi 0,vi 0]) zdE) fun aC _=>Ll (xP zbS .here)<|Q0n<|WC.b ?_)
       refine bK h fun aE ak h=>bK h fun aF al h=>D1q U<|Le 21 (xK z54 (xM .here))<|Nr call60 hz (tL ak)<|Ln 23 (Ns call114) .nil (ux hz .nil (.cons .h1 .nil) fun w pz ho la=>sM al pz<|ZA.row (la _ (.head _) _) (RR.flat (enc:=w8)) ⟨w,pz.1⟩)<|Q1n U<|Lj h (fun am h=>?_)<|fun am h=>?_
       ·refine bK h fun K an h=>cK h fun ao h=>D1q U<|Le 26 (xK z54 (xM .here))<|Nr call60 hz (tL an) (Lg 28 (wj (cs:=([K]:List z6).flatMap w8) z9w (Lq (l:=[.tmp 27]) (.cons U .nil) [0])) fun aD _=>WL.fA 29 (kG (enc:=w8) (l1:=b) (l2:=([K]:List z6)) z9w .h2 (jB .here) (gF dy) ao) ?_)
        rintro⟨ap,aq⟩ _
        exact La U<|WL.nil<|Lt<|Lo ⟨b++([K]:List z6),ap,aq⟩ h .q<|.cons .here .nil
       ·exact N2<|Lt<|Lo ⟨b,p,q⟩ h .q<|.cons .h1 .nil
      ·rintro j B F h
       replace h:=(ah j).symm.trans h
       exact D2q U<|WL.nil<|Nz ⟨ae,j,i64 (o+1),B,F⟩ h .q<|.cons .here .nil
     ·exact N1<|Lm<|Lm<|Lv<|Lo ⟨b,p,q⟩ h .q<|.cons .here .nil
    ·rintro g y z h
     replace h:=(ad g).symm.trans h
     exact Lt<|Lo ⟨g,y,z⟩ h .q<|.cons .here .nil
   ·rintro f v x h
    replace h:=(V f).symm.trans h
    exact D2q U<|WL.nil<|Nz ⟨R,f,i64 (a+1),v,x⟩ h .q<|.cons .here .nil
  ·exact N1<|Lm<|Lm<|Lv<|Lo ⟨c,m,n⟩ h (.cons U .nil)<|.cons .here .nil
 ·rintro k s t h
  replace h:=(Q k).symm.trans h
  refine WC.b<|bK h fun ar au h=>D1q U<|Nb U (Ns call115) (.cons .here .nil) (cc hz (.cons .here .nil) fun w pz ho=>sN (zot:=45) (zxT:=[]) (zos:=(fun y0 y1=>vS y0 y1)) au pz call45 (fun w' hz' y0 y1  r  hr=>oY hr hz' ) ho) ?_
  rintro  av
  exact L9 (i:=3) U (u:=(vs s ar.length t)) (qB av.symm)<|Q0n<|B2n U<|Ny<|oJ h▸Li results73 (.tmp U .nil) fun w hw=>⟨s,t,xZ,trivial,hw.sub (.cons .here .nil)⟩
def ss(a:zd)(b:Int):Option Bool:=
 some (decide (a.fX=b))
theorem WK{Z b a c r}(h:ss a c=some r){Nx}(hz:PZ [] Nx Z)(d:ZC Z b [vi c]):
  RC 116 #[.agg #[vi a.ya,vi a.fX,vi a.fQ],vq b] Nx (.bool r) [] []:=by
 unfold ss at h
 refine L0 func116 U U<|B0q (Lg 2 (wa (cs:=[vi a.ya,vi a.fX,vi a.fQ])) fun e _=>Q1n U<|B0q<|Le 4 (xz mD)<|Le 5 (Nt xJ .here)<|Le 6 (xA xJ U<|kN hz.pv d)<|Q2n U<|Ny ?_)
 exact oJ h▸Nl results116
def wG(b:List zd)(z9D:zd->Option Bool)(c:Option Int):Nat->Int->Option Int
 | 0,_=>none
 | d+1,a=>if decide (a<b.length) then chk (0<=a/\a<b.length) ((z9D (⟨(nth b a).ya,(nth b a).fX,(nth b a).fQ⟩:zd)).bind fun e=>if e then some a else wG b z9D c d (i64 (a+1))) else c
def wC(a:List zd)(z9D:zd->Option Bool):Option Int:=
 mZ (some (-1)) fun b=>wG a z9D b xR 0
theorem jN{Z d g}(zdK ziX){b}(z9D){r}(h:wC b z9D=some r){Nx}(hz:PZ [] Nx Z)(j:ZS Z 3 (rq mN) d g b)(k:∀ args w,(callFunc zdK args).run Tryz.prog w = .ok (.enter zdK args) w)(m:∀ w:World,PZ [] w Z->∀(x0:zd) (r:Bool),z9D x0=some r->Calls Tryz.prog zdK (([.agg #[vi x0.ya,vi x0.fX,vi x0.fQ]]:List Value)++ziX).toArray w fun e w'=>e = .returned (.bool r)/\Hp [] w w' []):
  RC 94 #[vs d b.length g,.func (.func zdK) #[] (ziX).toArray] Nx (vi r) [] []:=by
 unfold wC at h
 refine L0 func94 U U<|B1n U<|jK0 h fun i n h=>Nd (i=some r) ([]) ([]) ?_ ?_
 ·refine B1q U<|Le 7 (w9 underlying58)<|Q1n U<|WC.block<|Ng (fun c a=>(wG b z9D i c a=some r)) (fun c a=>[(0,vs d b.length g),(1,.func (.func zdK) #[] (ziX).toArray),(7,vi (b.length:Int)),(8,vi a)]) (fun c a=>[]) (fun c a=>c) ⟨xR,0⟩ h .q .nil ?_
  rintro(_|u) a h;·cases h
  rw[wG] at h
  refine B1n U<|WC.b<|Lj h (fun o h=>?_)<|fun o h=>?_
  ·refine Nn<|WC.b<|WC.block<|B2n U<|WC.b<|cK h fun p h=>bK h fun v q h=>D3q U<|L2 (Z:=Z) (Pr:=(rq mN)) z7F j p ?_
   rintro x y s z rfl
   refine Le 15 (xK z54 (qx hz.pv s))<|Ln 16 (qg (l:=[.tmp 15]) (f:=zdK) (caps:=ziX) k<|.cons U .nil) .nil (fun w hw=>m w (hz.now hw) (⟨(nth b a).ya,(nth b a).fX,(nth b a).fQ⟩:zd) v  q)<|Q0n<|Lj h (fun t h=>?_)<|fun t h=>?_
   ·exact B2n U<|Ny<|Lw<|Lk<|Lk<|Lw<|Lk<|oJ h▸Nl results94
   ·exact N2<|Lt<|Lb<|D2q U<|WL.nil<|Nz ⟨u,i64 (a+1)⟩ h .q .nil
  ·exact N1<|Lm<|Lm<|Lv<|Lo () h .nil .nil
 ·rintro  h
  replace h:=n.symm.trans h
  exact B1n U<|Ny<|oJ h▸Nl results94
def uU(b:List zd)(c:Int):Option (zd×Bool):=
 (wC b (fun(y0:zd)=>ss y0 c)).bind fun a=>if decide (a<0) then some ((⟨0,0,0⟩:zd),false) else chk (0<=a/\a<b.length) (some ((⟨(nth b a).ya,(nth b a).fX,(nth b a).fQ⟩:zd),true))
theorem cN{Z c d b a r}(h:uU b a=some r){Nx}(hz:PZ [] Nx Z)(e:ZS Z 3 (rq mN) c d b):
  RC 77 #[vs c b.length d,vi a] Nx (.tuple #[.agg #[vi r.1.ya,vi r.1.fX,vi r.1.fQ],.bool r.2]) [] []:=by
 unfold uU at h
 refine L0 func77 U U<|B0q (Lg 3 (wa (cs:=[vi a])) fun f _=>Lg 4 (xT (cs:=[vi 0,vi 0,vi 0]) zdE) fun m _=>Q1n U<|WC.b ?_)
 refine bK h fun q g h=>D1q U<|Le 8 (wJ<|L6 (l:=[.tmp 3])<|.cons U .nil)<|Ln 9 (Ns call94) .nil (ux hz .nil (.cons .h1 .nil) fun w pz ho la=>jN (zdK:=116) (ziX:=[vp f]) (z9D:=(fun(y0:zd)=>ss y0 a)) g pz (e.mono<|zl) call116<|fun w' hz' y0  r  hr=>WK hr hz'<|(la _ (.head _) _).stb)<|Q1n U<|WC.b<|B2n U<|Lj h (fun i h=>?_)<|fun i h=>?_
 ·exact B0q<|Le 12 (we (v:=(.agg #[vi 0,vi 0,vi 0])) (Lq (l:=[]) .nil []))<|Ll (xP zbS .here)<|Q1n U<|Ny<|Lk<|oJ h▸Nm results77 (.agg U z54 U (xM .here)<|.tmp U .nil) .nil
 ·refine Nn<|WC.b<|cK h fun j h=>D2q U<|L2 (Z:=Z) (Pr:=(rq mN)) z7F e j ?_
  rintro n o k p rfl
  exact Le 16 (xK z54 (qx hz.pv k))<|Ll (xP zbS .here)<|Q1n U<|Ny<|oJ h▸Nm results77 (.agg U z54 U (xM .here)<|.tmp U .nil) .nil
def uy(a:zd)(c:List zd)(d:z6)(e:List (z6×Int)):Option Bool:=
 (uU c a.ya).bind fun b=>(mt a).bind fun f=>(if (decide (f=d))&&b.2 then(mt b.1).bind fun g=>some (decide ((xI e g 0)=0)) else some false).bind fun h=>some h
theorem Yn{Z m s t n o g d p e j r}(h:uy d p e j=some r){Nx}(hz:Pz [xN g (ga w8) vI j] Nx Z)(L:ZS Z 3 (rq mN) s t p)(M:ZC Z m [vs s p.length t])(N:ZC Z n [vi e.ya,vi e.fQ])(O:ZC Z o [.map (some g)])(eO:Ho Nx [xN g (ga w8) vI j]):
  RF 76 #[.agg #[vi d.ya,vi d.fX,vi d.fQ],vq m,vq n,vq o] Nx (.bool r) [xN g (ga w8) vI j] [xN g (ga w8) vI j]:=by
 unfold uy at h
 refine H3 func76 U eO U<|B0q (Lg 4 (wa (cs:=[vi d.ya,vi d.fX,vi d.fQ])) fun q _=>Q1n U<|WC.b ?_)
 refine bK h fun c P h=>Ld<|Le 9 (xA z9v U<|kN hz.pv M)<|Le 10 (xz ku)<|Le 11 (Nt xJ .here)<|Nr call77 hz (fun pz=>cN P pz L)<|Q2q U<|La U (Lg 6 (xT (cs:=[vi 0,vi 0,vi 0]) zdE) fun B _=>Ll (xP zbS .here)<|Q1n U<|WC.b ?_)
 obtain⟨f,Q,h⟩:=za h
 obtain⟨S,I,h⟩:=za h
 let A:Value:=(.agg #[vi c.1.ya,vi c.1.fX,vi c.1.fQ]);let C:Value:=(.agg #[vi d.ya,vi d.fX,vi d.fQ]);let D:Value:=(.bool (decide (f=e)));let E:Value:=(.bool ((decide (f=e))&&c.2));let F:Value:=(.agg #[vi f.ya,vi f.fQ]);let G:Value:=(.agg #[vi e.ya,vi e.fQ]);let H:Value:=(vs s p.length t);refine Lu nc []<|Lh 0 U (xK z54 (xM .h1))<|L4 1 U (Ns call60) (cc hz .nil fun w pz ho=>tL Q pz )<|Lh 2 U (xK z6Q (qx hz.pv N))<|Lf 3 U (lz (enc:=w8) (a:=f) (b:=e) zxj)<|Lf 4 U q_m<|Nf (fuel':=8) [(0,C),(1,vq m),(2,vq n),(3,vq o),(4,vp q),(5,.bool false),(9,H),(10,vp q),(11,vi d.ya),(12,.tuple #[A,.bool c.2]),(8,.tuple #[A,.bool c.2]),(13,A),(14,.bool c.2),(6,vp B),(7,.bool c.2),(15,C),(16,F),(17,G),(18,D),(19,D),(21,E)] (vA 15 (dn 7)) ?_<|fun J=>?_
 rotate_left
 ·rcases Bool.eq_false_or_eq_true (decide (f=e)) with hb' | hb'
  ·have u:=hb';clear hb'
   refine L3 (i:=19) U u<|Lf 5 U q_m<|Lf 6 U qW<|Lx .a3 ?_ J
   exact .t 19<|.r2 (zA<|Eq.symm u)<|zA<|kS u
  ·have v:=hb';clear hb'
   refine L3 (i:=19) U v<|Lp 5 U<|Lf 6 U qX<|Lx .a3 ?_ J
   exact .t 19<|.r2 (zA<|Eq.symm v)<|zA<|kR v
 refine Lf 7 U q_m<|Nf (fuel':=1) [(0,C),(1,vq m),(2,vq n),(3,vq o),(4,vp q),(5,.bool false),(9,H),(10,vp q),(11,vi d.ya),(12,.tuple #[A,.bool c.2]),(8,.tuple #[A,.bool c.2]),(13,A),(14,.bool c.2),(6,vp B),(7,.bool c.2),(15,C),(16,F),(17,G),(18,D),(19,D),(21,E),(22,E),(28,.bool S)] (vA 15 (dn 14)) ?_<|fun K=>?_
 rotate_left
 ·rcases Bool.eq_false_or_eq_true ((decide (f=e))&&c.2) with hb' | hb'
  ·have x:=hb';clear hb'
   have l:=qY I x
   obtain⟨T,R,l⟩:=za l
   replace l:=oJ l
   refine L3 (i:=22) U x<|Lh 8 U (xA ztl U<|kN hz.pv O)<|Lh 9 U (xK z54 (xM .here))<|L4 10 U (Ns call60) (cc hz .nil fun w pz ho=>tL R pz )<|Lh 11 U (jg (k:=T) (dflt:=(0:Int)) ziM underlying117 jF .h2)<|Lf 12 U (e8 U U)<|Lf 13 U qW<|Lx .a3 ?_ K
   exact .t 21<|.r2 (zA<|Eq.symm x)<|zA l
  ·have y:=hb';clear hb'
   have z:=qZ I y
   replace z:=oJ z
   refine L3 (i:=22) U y<|Lp 8 U<|Lp 9 U<|Lp 10 U<|Lp 11 U<|Lp 12 U<|Lf 13 U qX<|Lx .a3 ?_ K
   exact .t 21<|.r2 (zA<|Eq.symm y)<|zA z
 exact Lf 14 U q_z<|N0<|Lb<|Ny<|oJ h▸Nm results76 (.tmp U .nil) (.cons .h2 .nil)
def wD(b:List zd)(c:List zd)(d:z6)(e:List (z6×Int))(f:Option Int):Nat->Int->Option Int
 | 0,_=>none
 | g+1,a=>if decide (a<b.length) then chk (0<=a/\a<b.length) ((uy (⟨(nth b a).ya,(nth b a).fX,(nth b a).fQ⟩:zd) c d e).bind fun h=>if h then some a else wD b c d e f g (i64 (a+1))) else f
def jz(a:List zd)(b:List zd)(c:z6)(d:List (z6×Int)):Option Int:=
 mZ (some (-1)) fun e=>wD a b c d e xR 0
theorem pg{Z i j k o p m n b d f g a r}(h:jz d f g a=some r){Nx}(hz:Pz [xN b (ga w8) vI a] Nx Z)(s:ZS Z 3 (rq mN) i j d)(t:ZS Z 3 (rq mN) o p f)(u:ZC Z k [vs o f.length p])(v:ZC Z m [vi g.ya,vi g.fQ])(x:ZC Z n [.map (some b)])(eO:Ho Nx [xN b (ga w8) vI a]):
  RF 94 #[vs i d.length j,.func (.func 76) #[] #[vq k,vq m,vq n]] Nx (vi r) [xN b (ga w8) vI a] [xN b (ga w8) vI a]:=by
 unfold jz at h
 refine Ni func94 U eO U<|B1n U<|jK0 h fun q y h=>Nd (q=some r) ([]) ([xN b (ga w8) vI a]) ?_ ?_
 ·refine B1q U<|Le 7 (w9 underlying58)<|Q1n U<|WC.block<|Ng (fun e c=>(wD d f g a q e c=some r)) (fun e c=>[(0,vs i d.length j),(1,.func (.func 76) #[] #[vq k,vq m,vq n]),(7,vi (d.length:Int)),(8,vi c)]) (fun e c=>[xN b (ga w8) vI a]) (fun e c=>e) ⟨xR,0⟩ h .q (.cons .here .nil) ?_
  rintro(_|E) c h;·cases h
  rw[wD] at h
  refine B1n U<|WC.b<|Lj h (fun z h=>?_)<|fun z h=>?_
  ·refine Nn<|WC.b<|WC.block<|B2n U<|WC.b<|cK h fun A h=>bK h fun I B h=>D3q U<|L2 (Z:=Z) (Pr:=(rq mN)) z7F s A ?_
   rintro F G C H rfl
   refine Le 15 (xK z54 (qx hz.pv C))<|Ln 16 (qg (l:=[.tmp 15]) call76<|.cons U .nil) (.cons .here .nil) (cc hz (.cons .here .nil) fun w pz ho=>Yn B pz t u v x ho)<|Q0n<|Lj h (fun D h=>?_)<|fun D h=>?_
   ·exact B2n U<|Ny<|Lw<|Lk<|Lk<|Lw<|Lk<|oJ h▸Nm results94 (.tmp U .nil) (.cons .here .nil)
   ·exact N2<|Lt<|Lb<|D2q U<|WL.nil<|Nz ⟨E,i64 (c+1)⟩ h .q<|.cons .here .nil
  ·exact N1<|Lm<|Lm<|Lv<|Lo () h .nil<|.cons .here .nil
 ·rintro  h
  replace h:=y.symm.trans h
  exact B1n U<|Ny<|oJ h▸Nm results94 (.tmp U .nil) (.cons .here .nil)
def jc(a:List zd)(b:List zd)(c:z6)(d:List (z6×Int)):Option Bool:=
 (jz a b c d).bind fun e=>some (decide (e>=0))
theorem rA{Z f g i j k l m a c d e b r}(h:jc c d e b=some r){Nx}(hz:Pz [xN a (ga w8) vI b] Nx Z)(n:ZS Z 3 (rq mN) f g c)(o:ZS Z 3 (rq mN) j k d)(p:ZC Z i [vs j d.length k])(q:ZC Z l [vi e.ya,vi e.fQ])(s:ZC Z m [.map (some a)])(eO:Ho Nx [xN a (ga w8) vI b]):
  RF 75 #[vs f c.length g,.func (.func 76) #[] #[vq i,vq l,vq m]] Nx (.bool r) [xN a (ga w8) vI b] [xN a (ga w8) vI b]:=by
 unfold jc at h
 exact Ni func75 U eO U<|B1n U<|WC.b<|bK h fun u t h=>D2q U<|Ln 7 (Ns call94) (.cons .here .nil) (cc hz (.cons .here .nil) fun w pz ho=>pg t pz n o p q s ho)<|Q2n U<|Ny<|oJ h▸Nm results75 (.tmp U .nil) (.cons .here .nil)
def tO(a:List zd)(b:z6)(c:List (z6×Int)):Option Bool:=
 (jc a a b c).bind fun d=>some d
theorem XP{Z d e g i a c f b r}(h:tO c f b=some r){Nx}(hz:Pz [xN a (ga w8) vI b] Nx Z)(j:ZS Z 3 (rq mN) d e c)(k:ZC Z g [vi f.ya,vi f.fQ])(m:ZC Z i [.map (some a)])(eO:Ho Nx [xN a (ga w8) vI b]):
  RF 74 #[vs d c.length e,vq g,vq i] Nx (.bool r) [xN a (ga w8) vI b] [xN a (ga w8) vI b]:=by
 unfold tO at h
 refine N8 func74 U eO U<|B0q (Lg 3 (wa (cs:=[vs d c.length e])) fun o _=>Q1n U<|WC.b ?_)
 exact bK h fun p n h=>Ld<|Le 5 (Nt z9v .here)<|Le 6 (wJ<|L6 (l:=[.tmp 3,.tmp 1,.tmp 2])<|.r3 U U U)<|Ln 7 (Ns call75) (.cons .h1 .nil) (ux hz (.cons .h1 .nil) (.cons .here .nil) fun w pz ho la=>rA n pz (j.mono<|zl) (j.mono<|zl) ((la _ (.head _) _).stb) (k.mono<|zl) (m.mono<|zl) ho)<|Q1n U<|Ny<|oJ h▸Nm results74 (.tmp U .nil) (.cons .here .nil)
def wy(b:List (List zd))(c:z6)(d:List (z6×Int))(e:Option Int):Nat->Int->Option Int
 | 0,_=>none
 | f+1,a=>if decide (a<b.length) then chk (0<=a/\a<b.length) ((tO (nth b a) c d).bind fun g=>if g then some a else wy b c d e f (i64 (a+1))) else e
def jd(a:List (List zd))(b:z6)(c:List (z6×Int)):Option Int:=
 mZ (some (-1)) fun d=>wy a b c d xR 0
theorem rB{Z g i j k b d f a r}(h:jd d f a=some r){Nx}(hz:Pz [xN b (ga w8) vI a] Nx Z)(n:ZS Z 1 (g9 Z) g i d)(o:ZC Z j [vi f.ya,vi f.fQ])(p:ZC Z k [.map (some b)])(eO:Ho Nx [xN b (ga w8) vI a]):
  RF 92 #[vs g d.length i,.func (.func 74) #[] #[vq j,vq k]] Nx (vi r) [xN b (ga w8) vI a] [xN b (ga w8) vI a]:=by
 unfold jd at h
 refine Ni func92 U eO U<|B1n U<|jK0 h fun m q h=>Nd (m=some r) ([]) ([xN b (ga w8) vI a]) ?_ ?_
 ·refine B1q U<|Le 7 (w9 underlying32)<|Q1n U<|WC.block<|Ng (fun e c=>(wy d f a m e c=some r)) (fun e c=>[(0,vs g d.length i),(1,.func (.func 74) #[] #[vq j,vq k]),(7,vi (d.length:Int)),(8,vi c)]) (fun e c=>[xN b (ga w8) vI a]) (fun e c=>e) ⟨xR,0⟩ h .q (.cons .here .nil) ?_
  rintro(_|z) c h;·cases h
  rw[wy] at h
  refine B1n U<|WC.b<|Lj h (fun s h=>?_)<|fun s h=>?_
  ·refine Nn<|WC.b<|WC.block<|B2n U<|WC.b<|cK h fun t h=>bK h fun F u h=>D3q U<|L2 (Z:=Z) (Pr:=(g9 Z)) z8K n t ?_
   rintro A B v C ⟨D,E,rfl,x⟩
   refine Le 15 (xA z9v U<|kN hz.pv v)<|Ln 16 (qg (l:=[.tmp 15]) call74<|.cons U .nil) (.cons .here .nil) (cc hz (.cons .here .nil) fun w pz ho=>XP u pz x o p ho)<|Q0n<|Lj h (fun y h=>?_)<|fun y h=>?_
   ·exact B2n U<|Ny<|Lw<|Lk<|Lk<|Lw<|Lk<|oJ h▸Nm results92 (.tmp U .nil) (.cons .here .nil)
   ·exact N2<|Lt<|Lb<|D2q U<|WL.nil<|Nz ⟨z,i64 (c+1)⟩ h .q<|.cons .here .nil
  ·exact N1<|Lm<|Lm<|Lv<|Lo () h .nil<|.cons .here .nil
 ·rintro  h
  replace h:=q.symm.trans h
  exact B1n U<|Ny<|oJ h▸Nm results92 (.tmp U .nil) (.cons .here .nil)
def vZ(a:List (List zd))(b:z6)(c:List (z6×Int)):Option Bool:=
 (jd a b c).bind fun d=>some (decide (d>=0))
theorem su{Z e f g i a c d b r}(h:vZ c d b=some r){Nx}(hz:Pz [xN a (ga w8) vI b] Nx Z)(j:ZS Z 1 (g9 Z) e f c)(k:ZC Z g [vi d.ya,vi d.fQ])(l:ZC Z i [.map (some a)])(eO:Ho Nx [xN a (ga w8) vI b]):
  RF 50 #[vs e c.length f,.func (.func 74) #[] #[vq g,vq i]] Nx (.bool r) [xN a (ga w8) vI b] [xN a (ga w8) vI b]:=by
 unfold vZ at h
 exact Ni func50 U eO U<|B1n U<|WC.b<|bK h fun n m h=>D2q U<|Ln 7 (Ns call92) (.cons .here .nil) (cc hz (.cons .here .nil) fun w pz ho=>rB m pz j k l ho)<|Q2n U<|Ny<|oJ h▸Nm results50 (.tmp U .nil) (.cons .here .nil)
def l3(l:List z6)(i j:Int):Option (List z6):=chk ((0<=i/\i<=j/\j<=l.length)/\l.length*16<=140737488355328) (some (l.take i.toNat++l.drop j.toNat))
theorem XQ{Z}(ao cap l i j r){Nx}(hz:Pz [row (vs ao l.length cap) 121 2 (l.flatMap w8)] Nx Z)(h:l3 l i j=some r)(eO:Ho Nx [row (vs ao l.length cap) 121 2 (l.flatMap w8)]):
  Calls Tryz.prog 78 #[.slice ao l.length cap,.int .i64 i,.int .i64 j] Nx fun e w'=>∃ EK:Option Addr,∃ BI:Nat,e = .returned (vs EK r.length BI)/\True/\Hp (fps [row (vs ao l.length cap) 121 2 (l.flatMap w8)]) Nx w' [row (vs EK r.length BI) 121 2 (r.flatMap w8)]:=by
 obtain⟨⟨c1,c2⟩,h⟩:=xG h
 obtain rfl:=oJ h
 clear h
 refine N8 func78 U eO U<|B1n U<|B0q<|La U<|La U<|La U<|La U<|Le 12 (w9 underlying112) (N4 (fun w h=>h.rowShape .here) fun hs=>?_)
 obtain⟨hs1,hs2,hs3,_⟩:=hs
 refine Le 13 (Mk z9w U U U U (by omega) (by omega) (by omega) (by omega))<|Q0n<|WC.b<|B3n U<|WC.cond U (fun hb=>?_)<|fun hb=>?_
 ·have e:i=j:=by simpa using hb
  refine B2n U<|Ny<|Lk<|Li results78 (.tmp U .nil)<|fun w hw=>?_
  have e2:l.take i.toNat++l.drop j.toNat=l:=by subst e;exact List.take_append_drop _ _
  rw[e2];exact⟨ao,cap,xZ,trivial,hw.sub (.cons .here .nil)⟩
 ·have oM:i<j:=by
   have:i≠j:=by simpa using hb
   omega
  clear hb
  refine Nn<|B1q U<|Le 19 (w9 underlying112)<|Q1n U<|WC.b<|Pm (fun w hw=>Hp.vr .here hw (by omega)) ?_
  rintro⟨b,rfl⟩
  have eW:(l.take i.toNat++l.drop j.toNat).length=i.toNat+(l.length-j.toNat):=by rw[List.length_append,List.length_take,List.length_drop];omega
  refine Lu (fun i=>[6].contains i) []<|Lf 0 U q_m<|Lf 1 U q_m<|Lf 2 U (pK (lo:=0) (hi:=i.toNat) (lv:=none) (hv:=some (vi i)) z9w U (fun _ _ _=>U) (fun a w h=>by rw[Option.map_some,h.eval U]) U (by show i=_;omega) (by simp))<|N3 (i:=22) U (u:=.slice (some ⟨b,0,none⟩) i.toNat cap) (by split <;> simp[Addr.add])<|Lf 3 U q_m<|Lf 4 U q_m<|Lf 5 U (pK (lo:=j.toNat) (hi:=l.length) (lv:=some (vi j)) (hv:=none) z9w U (fun a w h=>by rw[Option.map_some,h.eval U]) (fun _ _ _=>U) (by show j=_;omega) U<|fun _=>hs2) (WD.old (i:=6) U U (fun _=>wB.of .nil) (Ge (i:=i.toNat) (j:=j.toNat) (m:=l.length) (cs:=l.flatMap w8) z9w U U (fun hk=>if_neg (by omega)) .here (by omega) (by omega) (gF dy) (by omega)) fun tl _=>Lf 7 U q_z<|N0<|Lb<|B2q U<|Le 29 (w9 underlying112)<|La U<|Le 31 (pK (lo:=i.toNat+(l.length-j.toNat)) (hi:=l.length) (lv:=some (vi ((i.toNat+(l.length-j.toNat):Nat):Int))) (hv:=some (vi (l.length:Int))) z9w U (fun a w h=>by rw[Option.map_some,h.eval U]) (fun a w h=>by rw[Option.map_some,h.eval U]) U U (by simp))<|Ll (Yu (i:=i.toNat+(l.length-j.toNat)) z9w ztk U U (by omega) (Kt (enc:=w8) (sz:=2) (z0:=((⟨0,0⟩:z6):z6)) (fun _=>U) (by decide) U dy) .here U)<|Q0n<|B2n U<|Ny<|Li results78 (.tmp U .nil)<|fun w hw=>?_)
  rw[eW]
  refine⟨some ⟨b,0,none⟩,cap,xZ,trivial,?_⟩
  have h5:=Hp.rowShort (m:=l.length) (i:=i.toNat+(l.length-j.toNat)) (R:=[]) .here (by omega) hw
  have e1:(l.flatMap w8).take (i.toNat*2)=(l.take i.toNat).flatMap w8:=bF (enc:=w8) (sz:=2) (fun _=>U) l i.toNat (by omega)
  have e2:(l.flatMap w8).drop (j.toNat*2)=(l.drop j.toNat).flatMap w8:=ab (enc:=w8) (sz:=2) (fun _=>U) l j.toNat (by omega)
  have e3:((l.take i.toNat++l.drop j.toNat).flatMap w8).length=(i.toNat+(l.length-j.toNat))*2:=by rw[pp (sz:=2) (fun _=>U),eW]
  rw[e1,e2,<- List.flatMap_append,<- e3,List.take_left,List.take_left] at h5
  exact h5.sub<|.cons .here .nil
def gt(b:List z6)(e:List (List zd))(c:List (z6×Int))(d:List z6)(f:(List z6)->(List z6)->(List (z6×Int))->Option (List z6×Int))(g:Option (List z6×Int)):Nat->Int->Option (List z6×Int)
 | 0,_=>none
 | h+1,a=>if decide (a<b.length) then chk (0<=a/\a<b.length) ((vZ e (⟨(nth b a).ya,(nth b a).fQ⟩:z6) c).bind fun i=>if !i then chk ((((d++([(⟨(nth b a).ya,(nth b a).fQ⟩:z6)]:List z6)).length:Nat):Int)*16<=140737488355328/\(((d++([(⟨(nth b a).ya,(nth b a).fQ⟩:z6)]:List z6)).length:Nat):Int)<=4611686018427387904) ((l3 b a (i64 (a+1))).bind fun j=>f j (d++([(⟨(nth b a).ya,(nth b a).fQ⟩:z6)]:List z6)) (w6 c (⟨(nth b a).ya,(nth b a).fQ⟩:z6) (i64 ((xI c (⟨(nth b a).ya,(nth b a).fQ⟩:z6) 0)+1)))) else gt b e c d f g h (i64 (a+1))) else g
def gv(a:List (List zd))(b:(List z6)->Option (List z6×Int)):Nat->(List z6)->(List z6)->(List (z6×Int))->Option (List z6×Int)
 | 0,_,_,_=>none
 | e+1,c,d,f=>if decide ((c.length:Int)>0) then Va (fun(g:List z6) (h:List z6) (i:List (z6×Int))=>gv a b e g h i) fun j=>mZ (some (([]:List z6),351)) fun k=>gt c a f d j k xR 0 else b d
def ur(a:List (List zd)):Option (List z6×Int):=
 (sr a).bind fun b=>qI (fun(c:List z6)=>some (c,0)) fun d=>gv a d xR b ([]:List z6) ([]:List (z6×Int))
theorem nK{Z K L u r}(h:ur u=some r){Nx}(hz:PZ [] Nx Z)(M:ZS Z 1 (g9 Z) K L u):
  Calls Tryz.prog 42 #[vs K u.length L] Nx fun e w'=>∃ N:Option Addr,∃ O:Nat,e = .returned (.tuple #[vs N r.1.length O,vi r.2])/\True/\Hp [] Nx w' [row (vs N r.1.length O) 121 2 (r.1.flatMap w8)]:=by
 unfold ur at h
 refine L8 func42 U U<|B2n U<|Pd<|WC.b<|bK h fun an T h=>D1q U<|H5 U (Ns call73) .nil (cc hz .nil fun w pz ho=>WI T pz M) ?_
 rintro V W _
 refine Q1n U<|B0q (Lg 12 (kH (ga w8)<|Value.int .i64) fun q _=>Lg 5 (xT (cs:=[.map none]) zWG) fun x _=>Ll (xP zWH .here)<|Q0n<|B1n U<|WC.b<|Pe<|Lb ?_)
 refine jK1 h fun P X h=>Nj (fun m y z=>(P m=some r)) (fun m y z=>[(6,vs y m.length z)]) (fun m y z=>[row (vs y m.length z) 121 2 (m.flatMap w8)]) ?_ ?_
 ·let A:Value:=(vs K u.length L);refine WC.block<|WC.nilRow 121 2<|Ox (fun H a c d s n o p=>(gv u P H a c d=some r)) (fun H a c d s n o p=>[(0,A),(4,vs s a.length n),(5,vp x),(6,vs o c.length p)]) (fun H a c d s n o p=>[row (vs s a.length n) 121 2 (a.flatMap w8),row (vs o c.length p) 121 2 (c.flatMap w8),stb x 117 [(.map<|some q)],xN q (ga w8) vI d]) (fun H a c d s n o p=>H) ⟨xR,an,([]:List z6),([]:List (z6×Int)),V,W,none,0⟩ h .q (.s4 .h3 .here .here .here) ?_
  rintro(_|ap) a c d s n o p h;·cases h
  rw[gv] at h
  refine WC.b<|B1q U<|Le 14 (w9 underlying112)<|Q1n U<|Lj h (fun Y h=>?_)<|fun Y h=>?_
  ·refine Nn<|jK3 h fun Q aa h=>Pk (fun f g t B E F G=>(Q f g t=some r)) (fun f g t B E F G=>[(0,A),(4,vs B f.length E),(5,vp x),(6,vs F g.length G)]) (fun f g t B E F G=>[row (vs B f.length E) 121 2 (f.flatMap w8),row (vs F g.length G) 121 2 (g.flatMap w8),stb x 117 [(.map<|some q)],xN q (ga w8) vI t]) ?_ ?_
   ·refine WC.block<|jK0 h fun R ab h=>Nd (R=some r) ([]) ([]) ?_ ?_
    ·let C:Value:=(vs s a.length n);let D:Value:=(vs o c.length p);refine B1q U<|Le 17 (w9 underlying112)<|Q1n U<|WC.block<|Ng (fun I b=>(gt a u d c Q R I b=some r)) (fun I b=>[(0,A),(4,C),(5,vp x),(6,D),(16,C),(17,vi (a.length:Int)),(18,vi b)]) (fun I b=>[row C 121 2 (a.flatMap w8),row D 121 2 (c.flatMap w8),stb x 117 [(.map<|some q)],xN q (ga w8) vI d]) (fun I b=>I) ⟨xR,0⟩ h .q .a4 ?_
     rintro(_|aq) b h;·cases h
     rw[gt] at h
     refine B1n U<|WC.b<|Lj h (fun ad h=>?_)<|fun ad h=>?_
     ·refine Nn<|WC.b<|WC.block<|WC.b<|cK h fun J h=>D1q U<|N4 (fun w hw=>Hp.vr .here hw (by intro hz';have:=J;rw[hz'] at this;omega)) ?_
      rintro⟨ae,rfl⟩
      refine Le 21 (w3 z9w J.1 J.2 wI)<|Le 22 (wn (cs:=(w8<|nth a b)) z6Q<|vU .here<|wU (enc:=w8) (l:=a) (i:=b) (sz:=2) J.1 J.2) (Lg 8 (xT (cs:=[vi 0,vi 0]) ztk) fun ar _=>La U<|Ll (xP zxi .here)<|Q0n<|WC.b ?_)
      refine bK h fun aw af h=>D1q U<|Le 24 (wJ<|L6 (l:=[.tmp 8,.tmp 5])<|.r2 U U)<|Ln 25 (Ns call50) (.cons .h4 .nil) (ux hz (.cons .h4 .nil) (.s2 .here .h2) fun w pz ho la=>su af pz ((M.mono<|zl).weak (fun _ _ h=>qa zl h)) ((la _ (.head _) _).stb) ((la _ (.tail _<|.head _) _).stb) ho)<|Q2n U<|B1n U<|Lj h (fun ag h=>?_)<|fun ag h=>?_
      ·refine WC.b<|Lu (fun i=>[4,6].contains i) [XF q (ga w8) vI (⟨(nth a b).ya,(nth a b).fQ⟩:z6) (0:Int) (xI d (⟨(nth a b).ya,(nth a b).fQ⟩:z6) 0)]<|Lh 0 U (Nt ztl .h4)<|Lh 1 U (xK z6Q (xM .h1))<|L7 2 U (wB.wk (.cons .here .nil)<|.any U (fun _ h=>pt h) .nil) (Vj (k:=(⟨(nth a b).ya,(nth a b).fQ⟩:z6)) (dflt:=(0:Int)) ziM underlying117 jF U U U .here)<|Lf 3 U uC<|Pj (i:=4) U (by kernel_rfl) U U U U (Gb (k:=(⟨(nth a b).ya,(nth a b).fQ⟩:z6)) (dflt:=(0:Int)) ziM underlying117 jF U U U .here) (fun _=>(wB.wk (.cons .here .nil)<|.any U (fun _ h=>GZ h) .nil)) ?_
       rintro au _
       refine Lf 5 U fF<|Nc (i:=6) U (VZ (k:=(⟨(nth a b).ya,(nth a b).fQ⟩:z6)) (v:=i64 ((xI d (⟨(nth a b).ya,(nth a b).fQ⟩:z6) 0)+1)) U U U U .here)<|N0<|Lb<|WC.b<|cK h fun ah h=>D1q U<|Le 35 (xK z6Q (xM .h1)) (Lg 36 (wj (cs:=([(⟨(nth a b).ya,(nth a b).fQ⟩:z6)]:List z6).flatMap w8) z9w (Lq (l:=[.tmp 35]) (.cons U .nil) [0])) fun av _=>WL.fA 37 (kG (enc:=w8) (l1:=c) (l2:=([(⟨(nth a b).ya,(nth a b).fQ⟩:z6)]:List z6)) z9w .h4 (jB .here) (gF dy) ah) ?_)
       rintro⟨ai,aj⟩ _
       refine Q1n U<|WC.b<|bK h fun S ak h=>D4q U<|H5 U (Ns call78) (.cons .h4 .nil) (cc hz (.cons .h4 .nil) fun w pz ho=>XQ (ao:=(some ⟨ae,0,none⟩)) (cap:=n) (l:=a) (i:=b) (j:=(i64 (b+1))) (r:=S) pz  ak ho) ?_
       rintro al am _
       exact Q1n U<|N1<|Ot U<|Lm<|Lm<|Ot U<|Lm<|Lv<|Lo ⟨S,c++([(⟨(nth a b).ya,(nth a b).fQ⟩:z6)]:List z6),(w6 d (⟨(nth a b).ya,(nth a b).fQ⟩:z6)<|i64 ((xI d (⟨(nth a b).ya,(nth a b).fQ⟩:z6) 0)+1)),al,am,ai,aj⟩ h .q<|.s4 .here .here .h3 .h1
      ·exact N2<|Lt<|Lb<|D2q U<|WL.nil<|Nz ⟨aq,i64 (b+1)⟩ h .q<|.s4 .h2 .h2 .h2 .here
     ·exact N1<|Lm<|Lm<|Lv<|Lo () h .nil .nil
    ·rintro  h
     replace h:=ab.symm.trans h
     exact B2n U<|Ny<|Lw<|Lk<|Lk<|Lw<|Lk<|Pn<|WX.nilRow 121 2<|oJ h▸Li results42 (.tmp U<|.tmp U .nil) fun w hw=>⟨none,0,q9,trivial,hw.sub (.cons .here .nil)⟩
   ·rintro f g t B E F G h
    replace h:=(aa f g t).symm.trans h
    exact Nz ⟨ap,f,g,t,B,E,F,G⟩ h .q<|.a4
  ·exact N1<|Lm<|Lm<|Lv<|Lo ⟨c,o,p⟩ h (.cons U .nil)<|.cons .h1 .nil
 ·rintro m y z h
  replace h:=(X m).symm.trans h
  exact B3n U<|Ny<|Pn<|oJ h▸Li results42 (.tmp U<|.tmp U .nil) fun w hw=>⟨y,z,q9,trivial,hw.sub (.cons .here .nil)⟩
def fu(b:List z6×Int)(d:(List ys)->Option (List ys×Int)):Nat->(List ys)->Int->Option (List ys×Int)
 | 0,_,_=>none
 | e+1,c,a=>if decide (a<b.1.length) then chk (0<=a/\a<b.1.length) (chk ((((c++([({(nth b.1 a) with yl:=0,fT:=0}:ys)]:List ys)).length:Nat):Int)*32<=140737488355328/\(((c++([({(nth b.1 a) with yl:=0,fT:=0}:ys)]:List ys)).length:Nat):Int)<=4611686018427387904) (fu b d e (c++([({(nth b.1 a) with yl:=0,fT:=0}:ys)]:List ys)) (i64 (a+1)))) else d c
def mG(c:zu)(d:Int)(a:List (List zd)):Option (List ys×Int):=
 (kE c d a).bind fun e=>if !e then some (([]:List ys),310) else(ur a).bind fun b=>qI (fun(f:List ys)=>some (f,b.2)) fun g=>fu b g xR ([]:List ys) 0
theorem Q1{Z p q s t u x y z B C D E F G H I K L a M J r}(h:mG a M J=some r){Nx}(hz:PZ [] Nx Z)(R:ZS Z 4 (kr Z) p q a.fM)(S:ZS Z 4 (g5 Z) s t a.yd)(T:ZS Z 4 (rq ki) u x a.fS)(V:ZS Z 4 (rq gg) y z a.fK)(W:ZS Z 7 (g8 Z) B C a.yc)(X:ZS Z 5 (rq gc) D E a.fH)(Y:ZS Z 3 (g6 Z) F G a.fU)(aa:ZS Z 4 (rq ge) H I a.ye)(N:ZS Z 1 (g9 Z) K L J):
  Calls Tryz.prog 24 #[.agg #[vs p a.fM.length q,vs s a.yd.length t,vs u a.fS.length x,vs y a.fK.length z,vs B a.yc.length C,vs D a.fH.length E,vs F a.fU.length G,vs H a.ye.length I],vi M,vs K J.length L] Nx fun e w'=>∃ O:Option Addr,∃ P:Nat,e = .returned (.tuple #[vs O r.1.length P,vi r.2])/\True/\Hp [] Nx w' [row (vs O r.1.length P) 37 4 (r.1.flatMap km)]:=by
 unfold mG at h
 refine Nk func24 U U<|B0q (Lg 3 (wa (cs:=[vs p a.fM.length q,vs s a.yd.length t,vs u a.fS.length x,vs y a.fK.length z,vs B a.yc.length C,vs D a.fH.length E,vs F a.fU.length G,vs H a.ye.length I])) fun an _=>Q2n U<|WC.b<|WC.b ?_)
 refine bK h fun ar ab h=>Ld<|Le 13 (xK z2v (xM .here))<|Q2q U<|Nr call22 hz (fun pz=>uh ab pz R S T V W X Y aa N)<|Q1n U<|Lj h (fun ad h=>?_)<|fun ad h=>?_
 ·exact B2n U<|Ny<|Lk<|WX.nilRow 37 4<|oJ h▸Li results24 (.tmp U<|.tmp U .nil) fun w hw=>⟨none,0,q9,trivial,hw.sub (.cons .here .nil)⟩
 ·refine Nn<|WC.b<|bK h fun c ae h=>D1q U<|H5 U (Ns call42) .nil (cc hz .nil fun w pz ho=>nK ae pz N) ?_
  rintro ak al _
  refine Q5n U<|B1n U<|jK1 h fun Q af h=>Nj (fun f k m=>(Q f=some r)) (fun f k m=>[(9,vi c.2),(10,vs k f.length m)]) (fun f k m=>[row (vs k f.length m) 37 4 (f.flatMap km)]) ?_ ?_
  ·let A:Value:=(vs ak c.1.length al);refine B1q U<|Le 24 (w9 underlying112)<|Q1n U<|WC.block<|WC.nilRow 37 4<|Oa (fun n d b g j=>(fu c Q n d b=some r)) (fun n d b g j=>[(9,vi c.2),(10,vs g d.length j),(23,A),(24,vi (c.1.length:Int)),(25,vi b)]) (fun n d b g j=>[row (vs g d.length j) 37 4 (d.flatMap km),row A 121 2 (c.1.flatMap w8)]) (fun n d b g j=>n) ⟨xR,([]:List ys),0,none,0⟩ h .q .a2 ?_
   rintro(_|am) d b g j h;·cases h
   rw[fu] at h
   refine B1n U<|WC.b<|Lj h (fun ag h=>?_)<|fun ag h=>?_
   ·refine Nn<|WC.b<|WC.block<|WC.b<|cK h fun o h=>Ld<|N4 (fun w hw=>Hp.vr .h1 hw (by intro hz';have:=o;rw[hz'] at this;omega)) ?_
    rintro⟨ao,rfl⟩
    refine Le 27 (w3 z9w o.1 o.2 wI)<|Le 28 (wn (cs:=(w8<|nth c.1 b)) z6Q<|vU .h1<|wU (enc:=w8) (l:=c.1) (i:=b) (sz:=2) o.1 o.2) (Lg 12 (xT (cs:=[vi 0,vi 0]) ztk) fun ap _=>Ll (xP zxi .here)<|Q0n ?_)
    refine cK h fun ah h=>D1q U<|Le 30 (xz lI)<|Le 31 (Nt xJ .here)<|Le 32 (xz cF)<|Le 33 (Nt xJ .here)<|Le 34 (we (v:=(.agg #[(vi<|(nth c.1 b).ya),(vi<|(nth c.1 b).fQ),vi 0,vi 0])) (Lq (l:=[.tmp 31,.tmp 33]) (.r2 U U) [0,1])) (Lg 35 (wj (cs:=([({(nth c.1 b) with yl:=0,fT:=0}:ys)]:List ys).flatMap km) z9x (Lq (l:=[.tmp 34]) (.cons U .nil) [0])) fun aq _=>WL.fA 36 (kG (enc:=km) (l1:=d) (l2:=([({(nth c.1 b) with yl:=0,fT:=0}:ys)]:List ys)) z9x .h2 (jB .here) (gF XK) ah) ?_)
    rintro⟨ai,aj⟩ _
    exact La U<|WL.nil<|Lt<|Lb<|D2q U<|WL.nil<|Nz ⟨am,d++([({(nth c.1 b) with yl:=0,fT:=0}:ys)]:List ys),i64 (b+1),ai,aj⟩ h .q<|.s2 .here .h2
   ·exact N1<|Lm<|Lm<|Lv<|Lo ⟨d,g,j⟩ h .q<|.cons .here .nil
  ·rintro f k m h
   replace h:=(af f).symm.trans h
   exact B4n U<|Ny<|oJ h▸Li results24 (.tmp U<|.tmp U .nil) fun w hw=>⟨k,m,q9,trivial,hw.sub (.cons .here .nil)⟩
def kW(b:Int)(c:Option Bool):Nat->Int->Option Bool
 | 0,_=>none
 | d+1,a=>if decide (a<=12800) then if decide (a=b) then some true else kW b c d (i64 (a*2)) else c
def od(a:Int):Option Bool:=
 mZ (some false) fun b=>kW a b xR 100
theorem Ka{Z c r}(h:od c=some r){Nx}(hz:PZ [] Nx Z):
  RC 41 #[vi c] Nx (.bool r) [] []:=by
 unfold od at h
 refine L8 func41 U U<|B1n U<|jK0 h fun d e h=>Nd (d=some r) ([]) ([]) ?_ ?_
 ·refine B1n U<|WC.block<|Ng (fun b a=>(kW c d b a=some r)) (fun b a=>[(0,vi c),(3,vi a)]) (fun b a=>[]) (fun b a=>b) ⟨xR,100⟩ h .q .nil ?_
  rintro(_|i) a h;·cases h
  rw[kW] at h
  refine WC.b<|B2n U<|Lj h (fun f h=>?_)<|fun f h=>?_
  ·refine Nn<|WC.b<|WC.block<|B3n U<|Lj h (fun g h=>?_)<|fun g h=>?_
   ·exact B1n U<|Ny<|Lw<|Lk<|Lk<|Lw<|Lk<|oJ h▸Nl results41
   ·exact N2<|Lt<|Lb<|D3q U<|WL.nil<|Nz ⟨i,i64 (a*2)⟩ h .q .nil
  ·exact N1<|Lm<|Lm<|Lv<|Lo () h .nil .nil
 ·rintro  h
  replace h:=e.symm.trans h
  exact B1n U<|Ny<|oJ h▸Nl results41
def kq(a:yw):Option Bool:=
 (od a.yE).bind fun b=>some (((!b)||(decide (a.yA<1)))||(decide (a.yA>72)))
theorem Yo{Z b c a r}(h:kq a=some r){Nx}(hz:PZ [] Nx Z)(i:ZS Z 3 (rq dx) b c a.yM):
  RC 40 #[.agg #[.string a.yB,.string a.yq.yz,.string a.yq.yF,.string a.yq.yI,vi a.yE,vi a.yA,vs b a.yM.length c]] Nx (.bool r) [] []:=by
 unfold kq at h
 refine L8 func40 U U<|B0q (Lg 1 (wa (cs:=[.string a.yB,.string a.yq.yz,.string a.yq.yF,.string a.yq.yI,vi a.yE,vi a.yA,vs b a.yM.length c])) fun j _=>Q1n U<|WC.b ?_)
 refine bK h fun d e h=>Ld<|Le 3 (xz WA)<|Le 4 (Nt xJ .here)<|Nr call41 hz (Ka e)<|Q2q U<|Ly false 3 7 (B:=(!d)||(decide (a.yA<1))) (hB:=(fun h=>(gO h).symm)) (fun _ f=>?_) ?_
 ·exact Le 8 (xz rL)<|Le 9 (Nt xJ .here)<|Q2q U<|Lz (gP f) U .all
 refine La U<|Ly false 3 12 (B:=((!d)||(decide (a.yA<1)))||(decide (a.yA>72))) (hB:=(fun h=>(gO h).symm)) (fun _ g=>?_) ?_
 ·exact Le 13 (xz rL)<|Le 14 (Nt xJ .here)<|Q2q U<|Lz (gP g) U .all
 exact Q1n U<|Ny<|oJ h▸Nl results40
def wW(b:List yw)(zc6:yw->Option Bool)(c:Option Int):Nat->Int->Option Int
 | 0,_=>none
 | d+1,a=>if decide (a<b.length) then chk (0<=a/\a<b.length) ((zc6 (⟨(nth b a).yB,(⟨((nth b a).yq).yz,((nth b a).yq).yF,((nth b a).yq).yI⟩:yG),(nth b a).yE,(nth b a).yA,(nth b a).yM⟩:yw)).bind fun e=>if e then some a else wW b zc6 c d (i64 (a+1))) else c
def kO(a:List yw)(zc6:yw->Option Bool):Option Int:=
 mZ (some (-1)) fun b=>wW a zc6 b xR 0
theorem ot{Z d g}(zlY zu5){b}(zc6){r}(h:kO b zc6=some r){Nx}(hz:PZ [] Nx Z)(j:ZS Z 7 (g8 Z) d g b)(k:∀ args w,(callFunc zlY args).run Tryz.prog w = .ok (.enter zlY args) w)(m:∀ w:World,PZ [] w Z->∀(x0:yw) (im:Option Addr) (eR:Nat) (r:Bool),ZS Z 3 (rq dx) im eR x0.yM->zc6 x0=some r->Calls Tryz.prog zlY (([.agg #[.string x0.yB,.string x0.yq.yz,.string x0.yq.yF,.string x0.yq.yI,vi x0.yE,vi x0.yA,vs im x0.yM.length eR]]:List Value)++zu5).toArray w fun e w'=>e = .returned (.bool r)/\Hp [] w w' []):
  RC 72 #[vs d b.length g,.func (.func zlY) #[] (zu5).toArray] Nx (vi r) [] []:=by
 unfold kO at h
 refine L0 func72 U U<|B1n U<|jK0 h fun i n h=>Nd (i=some r) ([]) ([]) ?_ ?_
 ·refine B1q U<|Le 7 (w9 underlying26)<|Q1n U<|WC.block<|Ng (fun c a=>(wW b zc6 i c a=some r)) (fun c a=>[(0,vs d b.length g),(1,.func (.func zlY) #[] (zu5).toArray),(7,vi (b.length:Int)),(8,vi a)]) (fun c a=>[]) (fun c a=>c) ⟨xR,0⟩ h .q .nil ?_
  rintro(_|y) a h;·cases h
  rw[wW] at h
  refine B1n U<|WC.b<|Lj h (fun o h=>?_)<|fun o h=>?_
  ·refine Nn<|WC.b<|WC.block<|B2n U<|WC.b<|cK h fun p h=>bK h fun z q h=>D3q U<|L2 (Z:=Z) (Pr:=(g8 Z)) zfn j p ?_
   rintro A B s C ⟨t,u,rfl,v⟩
   refine Le 15 (xK zCo (qx hz.pv s))<|Ln 16 (qg (l:=[.tmp 15]) (f:=zlY) (caps:=zu5) k<|.cons U .nil) .nil (fun w hw=>m w (hz.now hw) (⟨(nth b a).yB,(⟨((nth b a).yq).yz,((nth b a).yq).yF,((nth b a).yq).yI⟩:yG),(nth b a).yE,(nth b a).yA,(nth b a).yM⟩:yw) t u z v q)<|Q0n<|Lj h (fun x h=>?_)<|fun x h=>?_
   ·exact B2n U<|Ny<|Lw<|Lk<|Lk<|Lw<|Lk<|oJ h▸Nl results72
   ·exact N2<|Lt<|Lb<|D2q U<|WL.nil<|Nz ⟨y,i64 (a+1)⟩ h .q .nil
  ·exact N1<|Lm<|Lm<|Lv<|Lo () h .nil .nil
 ·rintro  h
  replace h:=n.symm.trans h
  exact B1n U<|Ny<|oJ h▸Nl results72
def qL(a:List yw)(zoZ:yw->Option Bool):Option Bool:=
 (kO a zoZ).bind fun b=>some (decide (b>=0))
theorem pQ{Z b c}(zp0 zy5){a}(zoZ){r}(h:qL a zoZ=some r){Nx}(hz:PZ [] Nx Z)(d:ZS Z 7 (g8 Z) b c a)(f:∀ args w,(callFunc zp0 args).run Tryz.prog w = .ok (.enter zp0 args) w)(g:∀ w:World,PZ [] w Z->∀(x0:yw) (im:Option Addr) (eR:Nat) (r:Bool),ZS Z 3 (rq dx) im eR x0.yM->zoZ x0=some r->Calls Tryz.prog zp0 (([.agg #[.string x0.yB,.string x0.yq.yz,.string x0.yq.yF,.string x0.yq.yI,vi x0.yE,vi x0.yA,vs im x0.yM.length eR]]:List Value)++zy5).toArray w fun e w'=>e = .returned (.bool r)/\Hp [] w w' []):
  RC 39 #[vs b a.length c,.func (.func zp0) #[] (zy5).toArray] Nx (.bool r) [] []:=by
 unfold qL at h
 exact L0 func39 U U<|B1n U<|WC.b<|bK h fun j i h=>D2q U<|Nr call72 hz (fun pz=>ot (zlY:=zp0) (zu5:=zy5) (zc6:=zoZ) i pz d f g)<|Q2n U<|Ny<|oJ h▸Nl results39
def fO(a:zd)(b:z6):Option Bool:=
 (mt a).bind fun c=>some (decide (c=b))
theorem dI{Z e c d r}(h:fO c d=some r){Nx}(hz:PZ [] Nx Z)(f:ZC Z e [vi d.ya,vi d.fQ]):
  RC 117 #[.agg #[vi c.ya,vi c.fX,vi c.fQ],vq e] Nx (.bool r) [] []:=by
 unfold fO at h
 refine L0 func117 U U<|B0q (Lg 2 (wa (cs:=[vi c.ya,vi c.fX,vi c.fQ])) fun j _=>Q1n U<|WC.b ?_)
 exact bK h fun i g h=>Lu nc []<|Lh 0 U (xK z54 (xM .here))<|L4 1 U (Ns call60) (cc hz .nil fun w pz ho=>tL g pz )<|Lh 2 U (xK z6Q (qx hz.pv f))<|Lf 3 U (lz (enc:=w8) (a:=i) (b:=d) zxj)<|Lf 4 U q_z<|N0<|Lb<|Ny<|oJ h▸Nl results117
def vC(a:List zd)(zp2:zd->Option Bool):Option Bool:=
 (wC a zp2).bind fun b=>some (decide (b>=0))
theorem rg{Z b c}(zp3 zy6){a}(zp2){r}(h:vC a zp2=some r){Nx}(hz:PZ [] Nx Z)(d:ZS Z 3 (rq mN) b c a)(f:∀ args w,(callFunc zp3 args).run Tryz.prog w = .ok (.enter zp3 args) w)(g:∀ w:World,PZ [] w Z->∀(x0:zd) (r:Bool),zp2 x0=some r->Calls Tryz.prog zp3 (([.agg #[vi x0.ya,vi x0.fX,vi x0.fQ]]:List Value)++zy6).toArray w fun e w'=>e = .returned (.bool r)/\Hp [] w w' []):
  RC 75 #[vs b a.length c,.func (.func zp3) #[] (zy6).toArray] Nx (.bool r) [] []:=by
 unfold vC at h
 exact L0 func75 U U<|B1n U<|WC.b<|bK h fun j i h=>D2q U<|Nr call94 hz (fun pz=>jN (zdK:=zp3) (ziX:=zy6) (z9D:=zp2) i pz d f g)<|Q2n U<|Ny<|oJ h▸Nl results75
def jG(a:Int):Option z2:=
 some (⟨a,1⟩:z2)
theorem uu{Z a r}(h:jG a=some r){Nx}(hz:PZ [] Nx Z):
  RC 80 #[vi a] Nx (.agg #[vi r.fN,vi r.fD]) [] []:=by
 unfold jG at h
 refine L8 func80 U U<|B0q (Lg 2 (xT (cs:=[vi 0,vi 0]) z1z) fun b _=>Q0n<|B1q U<|Le 4 (we (v:=(.agg #[vi a,vi 1])) (Lq (l:=[.tmp 3,.const (vi 1)]) (.r2 U U) [0,1]))<|Ll (xP zZ .here)<|Q0n<|Ny ?_)
 exact oJ h▸Nm results80 (.agg U zh U (xM .here) .nil) .nil
def tP(a:Int):Option Int:=
 if decide (a<0) then some (u64 ((u64 (i64 (0-(i64 (a+1)))))+1)) else some (u64 a)
theorem c0{Z a r}(h:tP a=some r){Nx}(hz:PZ [] Nx Z):
  RC 166 #[vi a] Nx (.int .u64 r) [] []:=by
 unfold tP at h
 refine L8 func166 U U<|B1n U<|WC.b<|B2n U<|Lj h (fun b h=>?_)<|fun b h=>?_
 ·exact B2q U<|Le 7 (Q6 U U)<|Le 8 (mL underlying3 underlying212)<|Q2n U<|Ny<|Lk<|oJ h▸Nl results166
 ·exact Nn<|B1q U<|Le 11 (mL underlying3 underlying212)<|Q1n U<|Ny<|oJ h▸Nl results166
def jq(b:Int->Option Int):Nat->Int->Int->Option Int
 | 0,_,_=>none
 | d+1,c,a=>if decide (a≠0) then chk ((a:Int)≠0) (jq b d a (Int.tmod c a)) else b c
def mU(a:Int)(b:Int):Option Int:=
 qI (fun(c:Int)=>some c) fun d=>jq d xR a b
theorem cP{Z e f r}(h:mU e f=some r){Nx}(hz:PZ [] Nx Z):
  RC 165 #[.int .u64 e,.int .u64 f] Nx (.int .u64 r) [] []:=by
 unfold mU at h
 refine L0 func165 U U<|B1n U<|jK1 h fun g i h=>Na (fun c=>(g c=some r)) (fun c=>[(0,.int .u64 c)]) (fun c=>[]) ?_ ?_
 ·refine WC.block<|H4 (fun d a b=>(jq g d a b=some r)) (fun d a b=>[(0,.int .u64 a),(1,.int .u64 b)]) (fun d a b=>[]) (fun d a b=>d) ⟨xR,e,f⟩ h .q .nil ?_
  rintro(_|l) a b h;·cases h
  rw[jq] at h
  refine WC.b<|B2n U<|Lj h (fun j h=>?_)<|fun j h=>?_
  ·exact Nn<|WC.block<|cK h fun k h=>Lu nc []<|Lf 0 U q_m<|Lf 1 U q_m<|Lf 2 U q_m<|Lf 3 U (G3 U U k U)<|Lf 4 U q_z<|Lf 5 U q_z<|N0<|Lt<|Nz ⟨l,b,Int.tmod a b⟩ h .q .nil
  ·exact N1<|Lm<|Lm<|Lv<|Lo a h (.cons U .nil) .nil
 ·rintro c h
  replace h:=(i c).symm.trans h
  exact B2n U<|Ny<|oJ h▸Nl results165
def uF(e:Int)(c:Int):Option (z2×Int):=
 if decide (c=0) then some ((⟨0,0⟩:z2),2) else(tP e).bind fun b=>(tP c).bind fun d=>(mU b d).bind fun a=>chk ((a:Int)≠0) (if (decide ((u64 (Int.tdiv b a))>1073741824))||(decide ((u64 (Int.tdiv d a))>1073741824)) then some ((⟨0,0⟩:z2),3) else qI (fun(g:Int)=>some ((⟨g,i64 (u64 (Int.tdiv d a))⟩:z2),0)) fun f=>if (decide (e<0)) != (decide (c<0)) then f (i64 (0-(i64 (u64 (Int.tdiv b a))))) else f (i64 (u64 (Int.tdiv b a))))
theorem l4{Z c d r}(h:uF c d=some r){Nx}(hz:PZ [] Nx Z):
  RC 160 #[vi c,vi d] Nx (.tuple #[.agg #[vi r.1.fN,vi r.1.fD],vi r.2]) [] []:=by
 unfold uF at h
 refine L0 func160 U U<|B0q (Lg 4 (xT (cs:=[vi 0,vi 0]) z1z) fun e _=>Q1n U<|WC.b<|B2n U<|Lj h (fun k h=>?_)<|fun k h=>?_)
 ·exact B0q<|Le 12 (we (v:=(.agg #[vi 0,vi 0])) (Lq (l:=[]) .nil []))<|Ll (xP zZ .here)<|Q1n U<|Ny<|Lk<|oJ h▸Nm results160 (.agg U zh U (xM .here)<|.tmp U .nil) .nil
 ·refine Nn<|WC.b<|bK h fun f m h=>bK h fun g n h=>D1q U<|Nr call166 hz (c0 m)<|La U<|Nr call166 hz (c0 n)<|Q2n U<|WC.b<|bK h fun b o h=>D2q U<|Nr call165 hz (cP o)<|Q1n U<|WC.b<|cK h fun i h=>Lu nc []<|Lf 0 U q_m<|Lf 1 U q_m<|Lf 2 U (e7 i)<|Lf 3 U q_m<|Lf 4 U q_m<|Lf 5 U (e7 i)<|Lf 6 U q_z<|Lf 7 U q_z<|N0<|Lb<|WC.b<|B3q U<|Ly false 2 28 (B:=(decide ((u64<|Int.tdiv f b)>1073741824))||(decide ((u64<|Int.tdiv g b)>1073741824))) (hB:=(fun h=>(gO h).symm)) (fun _ p=>?_) ?_
  ·exact La U<|La U<|La U<|Lz (gP p) U .all
  refine Q0n<|Lj h (fun q h=>?_)<|fun q h=>?_
  ·exact B0q<|Le 32 (we (v:=(.agg #[vi 0,vi 0])) (Lq (l:=[]) .nil []))<|Ll (xP zZ .here)<|Q1n U<|Ny<|Lk<|oJ h▸Nm results160 (.agg U zh U (xM .here)<|.tmp U .nil) .nil
  ·let A:=(i64 (u64 (Int.tdiv f b)));let C:Value:=(vi (i64 (u64 (Int.tdiv g b))));refine Nn<|B1q U<|Le 34 (mL underlying212 underlying3)<|La U<|Le 36 (mL underlying212 underlying3)<|Le 37 (we (v:=(.agg #[vi A,C])) (Lq (l:=[.tmp 34,.tmp 36]) (.r2 U U) [0,1]))<|Lg 9 (xT (cs:=[vi 0,vi 0]) z1z) ?_
   intro j _
   refine Ll (xP zZ .here)<|Q0n<|jK1 h fun u s h=>Na (fun a=>(u a=some r)) (fun a=>[(4,vp e),(9,vp j)]) (fun a=>[stb e 175 [vi 0,vi 0],stb j 175 [vi a,C]]) ?_ ?_
   ·refine B0q<|La U<|La U<|La U<|La U<|Le 42 (T1 underlying4 U U)<|Q0n<|Lj h (fun t h=>?_)<|fun t h=>?_
    ·exact Ld<|Le 43 (xz jC)<|Le 44 (Nt xJ .here)<|Le 45 (Q6 U U)<|Le 46 (xz jC)<|Ll (jh (ds:=[(vi<|i64 (0-A)),C]) oa .here)<|WL.nil<|Lo (i64 (0-A)) h .q<|.s2 .h1 .here
    ·exact N2<|Lo A h .q<|.s2 .h1 .here
   ·rintro a h
    replace h:=(s a).symm.trans h
    exact B0q<|Le 47 (xK zh (xM .h1))<|Ll (xP zZ .here)<|Q1n U<|Ny<|oJ h▸Nm results160 (.agg U zh U (xM .here)<|.tmp U .nil) .nil
def gT(b:zu)(d:List (List zd))(e:List (ym×z2))(f:List (z6×Int))(g:Int)(a:Int):Option z2:=
 chk (0<=a/\a<b.yc.length) ((uF ((nth b.yc a).yA) ((nth b.yc a).yE)).bind fun c=>some c.1)
theorem pY{Z g k l m n o p q s t u v x y z A B C D b c a f d e E F r}(h:gT a f d e E F=some r){Nx}(hz:Pz [xN b (ga jM) (ga xX) d,xN c (ga w8) vI e] Nx Z)(M:ZS Z 4 (kr Z) k l a.fM)(N:ZS Z 4 (g5 Z) m n a.yd)(O:ZS Z 4 (rq ki) o p a.fS)(P:ZS Z 4 (rq gg) q s a.fK)(G:ZS Z 7 (g8 Z) t u a.yc)(Q:ZS Z 5 (rq gc) v x a.fH)(R:ZS Z 3 (g6 Z) y z a.fU)(S:ZS Z 4 (rq ge) A B a.ye)(T:ZS Z 1 (g9 Z) C D f)(H:ZC Z g [vs k a.fM.length l,vs m a.yd.length n,vs o a.fS.length p,vs q a.fK.length s,vs t a.yc.length u,vs v a.fH.length x,vs y a.fU.length z,vs A a.ye.length B,vs C f.length D,.map (some b),.map (some c),vi E])(eO:Ho Nx [xN b (ga jM) (ga xX) d,xN c (ga w8) vI e]):
  RF 121 #[vq g,vi F] Nx (.agg #[vi r.fN,vi r.fD]) [xN b (ga jM) (ga xX) d,xN c (ga w8) vI e] [xN b (ga jM) (ga xX) d,xN c (ga w8) vI e]:=by
 unfold gT at h
 refine Ni func121 U eO U<|B0q (Lg 4 (xT (cs:=[vi 0,vi 0]) z1z) fun V _=>Q0n<|WC.b ?_)
 refine cK h fun I h=>bK h fun al J h=>Lu (fun i=>[23].contains i) []<|Lf 0 U q_m<|Lf 1 U xY<|Lf 2 U (xz sd)<|Lf 3 U (xz uO)<|Lh 4 U (xA zab U<|wq hz.pv H)<|Lf 5 U q_m<|L5 (j:=6) (Z:=Z) (Pr:=(g8 Z)) zfn G I ?_
 rintro W X K Y ⟨aa,ab,rfl,ad⟩
 refine Lf 7 U (xz rL)<|Lh 8 U (xA xJ U<|wq hz.pv K)<|Lf 9 U q_m<|Lf 10 U xY<|Lf 11 U (xz sd)<|Lf 12 U (xz uO)<|Lh 13 U (xA zab U<|wq hz.pv H)<|Lf 14 U q_m<|L5 (j:=15) (Z:=Z) (Pr:=(g8 Z)) zfn G I ?_
 rintro ae af L ag ⟨ah,ai,rfl,aj⟩
 refine Lf 16 U (xz WA)<|Lh 17 U (xA xJ U<|wq hz.pv L)<|L4 18 U (Ns call160) (cc hz .nil fun w pz ho=>l4 J pz )<|Lf 19 U q_m<|Lf 20 U fF<|Lf 21 U fF (WD.new (i:=22) U U (xT (cs:=[vi 0,vi 0]) z1z) (fun h'=>absurd h' (by decide)) fun ak _=>WD.forced0 (i:=23) U (wB.of .nil) (xP zZ .here)<|Lf 24 U q_z<|N0<|Lb<|B0q<|Le 29 (xK zh (xM .here))<|Ll (xP zZ .h1)<|Q0n<|Ny ?_)
 exact oJ h▸Nm results121 (.agg U zh U (xM .here) .nil) (.s2 .h2 .h2)
def qG(a:z2):Option Bool:=
 (if (((decide (a.fD>=1))&&(decide (a.fD<=1073741824)))&&(decide (a.fN>=(-1073741824))))&&(decide (a.fN<=1073741824)) then(tP a.fN).bind fun b=>(tP a.fD).bind fun c=>(mU b c).bind fun d=>some (decide (d=1)) else some false).bind fun e=>some e
theorem jU{Z a r}(h:qG a=some r){Nx}(hz:PZ [] Nx Z):
  RC 130 #[.agg #[vi a.fN,vi a.fD]] Nx (.bool r) [] []:=by
 unfold qG at h
 refine L8 func130 U U<|B0q (Lg 1 (wa (cs:=[vi a.fN,vi a.fD])) fun c _=>Q1n U<|WC.b ?_)
 obtain⟨y,o,h⟩:=za h
 let D:Value:=(.bool ((decide (a.fD>=1))&&(decide (a.fD<=1073741824))));refine Lu nc []<|Lf 0 U (xz kw)<|Lh 1 U (Nt xJ .here)<|Lf 2 U (Q5 U U)<|Lf 3 U q_m<|Nf (fuel':=21) [(1,vp c),(2,.bool false),(6,(.bool<|decide (a.fD>=1))),(10,D)] (vA 29 (dn 8)) ?_<|fun p=>?_
 rotate_left
 ·rcases Bool.eq_false_or_eq_true (decide (a.fD>=1)) with hb' | hb'
  ·have d:=hb';clear hb'
   refine L3 (i:=6) U d<|Lf 4 U (xz kw)<|Lh 5 U (Nt xJ .here)<|Lf 6 U (G4 U U)<|Lf 7 U qW<|Lx (.cons .here .nil) ?_ p
   exact .r4 U U (zA<|Eq.symm d)<|zA<|kS d
  ·have e:=hb';clear hb'
   refine L3 (i:=6) U e<|Lp 4 U<|Lp 5 U<|Lp 6 U<|Lf 7 U qX<|Lx (.cons .here .nil) ?_ p
   exact .r4 U U (zA<|Eq.symm e)<|zA<|kR e
 let C:Value:=(.bool (((decide (a.fD>=1))&&(decide (a.fD<=1073741824)))&&(decide (a.fN>=(-1073741824)))));refine WD.d (bz 8 21)<|Lf 8 U q_m<|Nf (fuel':=16) [(1,vp c),(2,.bool false),(11,D),(15,C)] (vA 29 (dn 13)) ?_<|fun q=>?_
 rotate_left
 ·rcases Bool.eq_false_or_eq_true ((decide (a.fD>=1))&&(decide (a.fD<=1073741824))) with hb' | hb'
  ·have f:=hb';clear hb'
   refine L3 (i:=11) U f<|Lf 9 U (xz jC)<|Lh 10 U (Nt xJ .here)<|Lf 11 U (Q5 U U)<|Lf 12 U qW<|Lx (.cons .here .nil) ?_ q
   exact .r4 U U (zA<|Eq.symm f)<|zA<|kS f
  ·have g:=hb';clear hb'
   refine L3 (i:=11) U g<|Lp 9 U<|Lp 10 U<|Lp 11 U<|Lf 12 U qX<|Lx (.cons .here .nil) ?_ q
   exact .r4 U U (zA<|Eq.symm g)<|zA<|kR g
 let A:Value:=(.bool ((((decide (a.fD>=1))&&(decide (a.fD<=1073741824)))&&(decide (a.fN>=(-1073741824))))&&(decide (a.fN<=1073741824))));refine WD.d (bz 13 16)<|Lf 13 U q_m<|Nf (fuel':=11) [(1,vp c),(2,.bool false),(16,C),(20,A)] (vA 29 (dn 18)) ?_<|fun s=>?_
 rotate_left
 ·rcases Bool.eq_false_or_eq_true (((decide (a.fD>=1))&&(decide (a.fD<=1073741824)))&&(decide (a.fN>=(-1073741824)))) with hb' | hb'
  ·have j:=hb';clear hb'
   refine L3 (i:=16) U j<|Lf 14 U (xz jC)<|Lh 15 U (Nt xJ .here)<|Lf 16 U (G4 U U)<|Lf 17 U qW<|Lx (.cons .here .nil) ?_ s
   exact .r4 U U (zA<|Eq.symm j)<|zA<|kS j
  ·have k:=hb';clear hb'
   refine L3 (i:=16) U k<|Lp 14 U<|Lp 15 U<|Lp 16 U<|Lf 17 U qX<|Lx (.cons .here .nil) ?_ s
   exact .r4 U U (zA<|Eq.symm k)<|zA<|kR k
 refine WD.d (bz 18 11)<|Lf 18 U q_m<|Nf (fuel':=1) [(2,.bool false),(21,A),(30,.bool y)] (vA 29 (dn 28)) ?_<|fun t=>?_
 rotate_left
 ·rcases Bool.eq_false_or_eq_true ((((decide (a.fD>=1))&&(decide (a.fD<=1073741824)))&&(decide (a.fN>=(-1073741824))))&&(decide (a.fN<=1073741824))) with hb' | hb'
  ·have l:=hb';clear hb'
   have b:=qY o l
   obtain⟨z,u,b⟩:=za b
   obtain⟨B,v,b⟩:=za b
   obtain⟨E,x,b⟩:=za b
   replace b:=oJ b
   refine L3 (i:=21) U l<|Lf 19 U (xz jC)<|Lh 20 U (Nt xJ .here)<|L4 21 U (Ns call166) (cc hz .nil fun w pz ho=>c0 u pz )<|Lf 22 U (xz kw)<|Lh 23 U (Nt xJ .here)<|L4 24 U (Ns call166) (cc hz .nil fun w pz ho=>c0 v pz )<|L4 25 U (Ns call165) (cc hz .nil fun w pz ho=>cP x pz )<|Lf 26 U (e8 U U)<|Lf 27 U qW<|Lx (.cons .here .nil) ?_ t
   exact .r3 U (zA<|Eq.symm l)<|zA b
  ·have m:=hb';clear hb'
   have n:=qZ o m
   replace n:=oJ n
   refine L3 (i:=21) U m<|Lp 19 U<|Lp 20 U<|Lp 21 U<|Lp 22 U<|Lp 23 U<|Lp 24 U<|Lp 25 U<|Lp 26 U<|Lf 27 U qX<|Lx (.cons .here .nil) ?_ t
   exact .r3 U (zA<|Eq.symm m)<|zA n
 exact WD.d (bz 28 1)<|Lf 28 U q_z<|N0<|Lb<|Ny<|oJ h▸Nl results130
def c4(a:z2)(b:z2):Option (Int×Int):=
 some (i64 (a.fN*b.fN),i64 (a.fD*b.fD))
theorem Gi{Z c d a b r}(h:c4 a b=some r){Nx}(hz:PZ [] Nx Z)(e:ZC Z c [vi a.fN,vi a.fD])(f:ZC Z d [vi b.fN,vi b.fD]):
  RC 189 #[vq c,vq d] Nx (.tuple #[vi r.1,vi r.2]) [] []:=by
 unfold c4 at h
 exact L0 func189 U U<|B2n U<|WC.b<|Lu nc []<|Lf 0 U (xz jC)<|Lh 1 U (xA xJ U<|wq hz.pv e)<|Lf 2 U (xz jC)<|Lh 3 U (xA xJ U<|wq hz.pv f)<|Lf 4 U sZ<|Lf 5 U (xz kw)<|Lh 6 U (xA xJ U<|wq hz.pv e)<|Lf 7 U (xz kw)<|Lh 8 U (xA xJ U<|wq hz.pv f)<|Lf 9 U sZ<|Lf 10 U q_z<|Lf 11 U q_z<|N0<|Lb<|Ny<|oJ h▸Nm results189 (.tmp U<|.tmp U .nil) .nil
def cQ(a:z2)(b:z2):Option (z2×Int):=
 (qG a).bind fun e=>(if !e then some true else(qG b).bind fun f=>some (!f)).bind fun g=>if g then some ((⟨0,0⟩:z2),2) else(c4 a b).bind fun c=>(uF c.1 c.2).bind fun d=>some (d.1,d.2)
theorem Ms{Z a b r}(h:cQ a b=some r){Nx}(hz:PZ [] Nx Z):
  RC 159 #[.string ⟨#[42]⟩,.agg #[vi a.fN,vi a.fD],.agg #[vi b.fN,vi b.fD]] Nx (.tuple #[.agg #[vi r.1.fN,vi r.1.fD],vi r.2]) [] []:=by
 unfold cQ at h
 refine Nk func159 U U<|B0q (Lg 4 (wa (cs:=[vi a.fN,vi a.fD])) fun d _=>Lg 5 (wa (cs:=[vi b.fN,vi b.fD])) fun e _=>Lg 6 (xT (cs:=[vi 0,vi 0]) z1z) fun s _=>Q1n U<|WC.b<|WC.b ?_)
 refine bK h fun u i h=>bK h fun f g h=>Ld<|Le 9 (xK zh (xM .h2))<|Nr call130 hz (jU i)<|Q2q U<|Ly false 3 12 (B:=f) (hB:=(fun h=>(oJ<|qY g h).symm)) (fun _ j=>?_) ?_
 ·have c:=qZ g j
  obtain⟨y,m,c⟩:=za c
  replace c:=oJ c
  exact Le 13 (xK zh (xM .h1))<|Nr call130 hz (jU m)<|Q2q U<|Lz c U .all
 refine La U<|Ly false 7 17 (B:=f) (hB:=(fun h=>h)) (fun _ n=>?_) ?_
 ·exact La U<|Le 19 (Y7 (r:=false) U U)<|La U<|WL.e U U<|WL.e U U<|WL.e U U<|Q2q U<|Lz (Eq.symm n) U .all
 refine Q0n<|Lj h (fun o h=>?_)<|fun o h=>?_
 ·exact B0q<|Le 26 (we (v:=(.agg #[vi 0,vi 0])) (Lq (l:=[]) .nil []))<|Ll (xP zZ .here)<|Q1n U<|Ny<|Lk<|oJ h▸Nm results159 (.agg U zh U (xM .here)<|.tmp U .nil) .nil
 ·refine Nn<|B0q<|Lg 27 (kH Value.string<|fun x=>x) ?_
  intro t _
  let A:Value:=(.func (.func 189) #[] #[vp d,vp e]);refine Le 28 (wJ<|L6 (l:=[.tmp 4,.tmp 5])<|.r2 U U)<|Ll (gQ (k:=⟨#[43]⟩) (v:=(.func (.func 187) #[] #[vp d,vp e])) fI underlying304 .here)<|Le 29 (wJ<|L6 (l:=[.tmp 4,.tmp 5])<|.r2 U U)<|Ll (gQ (k:=⟨#[45]⟩) (v:=(.func (.func 188) #[] #[vp d,vp e])) fI underlying304 .here)<|Le 30 (wJ<|L6 (l:=[.tmp 4,.tmp 5])<|.r2 U U)<|Ll (gQ (k:=⟨#[42]⟩) (v:=A) fI underlying304 .here)<|Le 31 (wJ<|L6 (l:=[.tmp 4,.tmp 5])<|.r2 U U)<|Ll (gQ (k:=⟨#[47]⟩) (v:=(.func (.func 190) #[] #[vp d,vp e])) fI underlying304 .here)<|Q2n U<|WC.b ?_
  exact bK h fun z p h=>bK h fun C q h=>D2q U<|Le 35 (Y6 (k:=⟨#[42]⟩) (dflt:=.nilFunc) (r:=A) fI underlying304 zxk U U U .here)<|Ln 36 (qg (l:=[]) call189 .nil) .nil (ux hz .nil (.s2 .h3 .h2) fun w pz ho la=>Gi p pz ((la _ (.head _) _).stb)<|(la _ (.tail _<|.head _) _).stb)<|Q2q U<|Nr call160 hz (l4 q)<|Q2q U<|Ll (xP zZ .h1)<|Q1n U<|Ny<|oJ h▸Nm results159 (.agg U zh U (xM .here)<|.tmp U .nil) .nil
def gw(b:z2)(c:z2):Option (z2×Int):=
 (cQ b c).bind fun a=>some (a.1,a.2)
theorem ay{Z a b r}(h:gw a b=some r){Nx}(hz:PZ [] Nx Z):
  RC 120 #[.agg #[vi a.fN,vi a.fD],.agg #[vi b.fN,vi b.fD]] Nx (.tuple #[.agg #[vi r.1.fN,vi r.1.fD],vi r.2]) [] []:=by
 unfold gw at h
 refine L0 func120 U U<|B0q (Lg 2 (wa (cs:=[vi a.fN,vi a.fD])) fun d _=>Lg 3 (wa (cs:=[vi b.fN,vi b.fD])) fun e _=>Lg 4 (xT (cs:=[vi 0,vi 0]) z1z) fun f _=>Q1n U<|WC.b ?_)
 exact bK h fun g c h=>Ld<|Le 6 (xK zh (xM .h2))<|Le 7 (xK zh (xM .h1))<|Nr call159 hz (Ms c)<|Q2q U<|Ll (xP zZ .here)<|Q1n U<|Ny<|oJ h▸Nm results120 (.agg U zh U (xM .here)<|.tmp U .nil) .nil
def gY(h:zu)(i:List (List zd))(j:List (ym×z2))(k:List (z6×Int))(b:Int)(zjb:z2->z2->Option (z2×Int))(e:z2)(f:z2):Option (z2×Int):=
 (zjb e f).bind fun a=>qI (fun(c:Int)=>if decide (a.2≠0) then(jG 0).bind fun g=>some (g,c) else some (a.1,c)) fun d=>if decide (b=0) then d a.2 else d b
theorem rZ{Z g i j k m n o p q s t u v x y z B K L b c}(zfZ zm5){a d M N S}(zjb){O P r}(h:gY a d M N S zjb O P=some r){Nx}(hz:Pz [stb g 119 [vs i a.fM.length j,vs k a.yd.length m,vs n a.fS.length o,vs p a.fK.length q,vs s a.yc.length t,vs u a.fH.length v,vs x a.fU.length y,vs z a.ye.length B,vs K d.length L,.map (some b),.map (some c),vi S],xN b (ga jM) (ga xX) M,xN c (ga w8) vI N] Nx Z)(ag:ZS Z 4 (kr Z) i j a.fM)(ah:ZS Z 4 (g5 Z) k m a.yd)(ai:ZS Z 4 (rq ki) n o a.fS)(aj:ZS Z 4 (rq gg) p q a.fK)(ak:ZS Z 7 (g8 Z) s t a.yc)(al:ZS Z 5 (rq gc) u v a.fH)(am:ZS Z 3 (g6 Z) x y a.fU)(an:ZS Z 4 (rq ge) z B a.ye)(ao:ZS Z 1 (g9 Z) K L d)(W:∀ args w,(callFunc zfZ args).run Tryz.prog w = .ok (.enter zfZ args) w)(X:∀ w:World,PZ [] w Z->∀(x0:z2) (x1:z2) (r:z2×Int),zjb x0 x1=some r->Calls Tryz.prog zfZ (([.agg #[vi x0.fN,vi x0.fD],.agg #[vi x1.fN,vi x1.fD]]:List Value)++zm5).toArray w fun e w'=>e = .returned (.tuple #[.agg #[vi r.1.fN,vi r.1.fD],vi r.2])/\Hp [] w w' [])(eO:Ho Nx [stb g 119 [vs i a.fM.length j,vs k a.yd.length m,vs n a.fS.length o,vs p a.fK.length q,vs s a.yc.length t,vs u a.fH.length v,vs x a.fU.length y,vs z a.ye.length B,vs K d.length L,.map (some b),.map (some c),vi S],xN b (ga jM) (ga xX) M,xN c (ga w8) vI N]):
  RF 118 #[vp g,.func (.func zfZ) #[] (zm5).toArray,.agg #[vi O.fN,vi O.fD],.agg #[vi P.fN,vi P.fD]] Nx (.agg #[vi r.1.fN,vi r.1.fD]) [stb g 119 [vs i a.fM.length j,vs k a.yd.length m,vs n a.fS.length o,vs p a.fK.length q,vs s a.yc.length t,vs u a.fH.length v,vs x a.fU.length y,vs z a.ye.length B,vs K d.length L,.map (some b),.map (some c),vi S],xN b (ga jM) (ga xX) M,xN c (ga w8) vI N] [stb g 119 [vs i a.fM.length j,vs k a.yd.length m,vs n a.fS.length o,vs p a.fK.length q,vs s a.yc.length t,vs u a.fH.length v,vs x a.fU.length y,vs z a.ye.length B,vs K d.length L,.map (some b),.map (some c),vi r.2],xN b (ga jM) (ga xX) M,xN c (ga w8) vI N]:=by
 unfold gY at h
 refine H3 func118 U eO U<|B0q (Lg 6 (wa (cs:=[vi O.fN,vi O.fD])) fun ap _=>Lg 7 (wa (cs:=[vi P.fN,vi P.fD])) fun aq _=>Lg 8 (xT (cs:=[vi 0,vi 0]) z1z) fun T _=>Q0n<|WC.b ?_)
 refine bK h fun Q Y h=>D1q U<|Le 13 (xK zh (xM .h2))<|Le 14 (xK zh (xM .h1))<|Ln 15 (qg (l:=[.tmp 13,.tmp 14]) (f:=zfZ) (caps:=zm5) W<|.r2 U U) .nil (fun w hw=>X w (hz.now hw) O P Q  Y)<|Q2q U<|La U (Lg 9 (xT (cs:=[vi 0,vi 0]) z1z) fun V _=>Ll (xP zZ .here)<|Q1n U ?_)
 obtain⟨af,aa,h⟩:=wg h
 let A:Value:=(vs i a.fM.length j);let C:Value:=(vs k a.yd.length m);let D:Value:=(vs n a.fS.length o);let E:Value:=(vs p a.fK.length q);let F:Value:=(vs s a.yc.length t);let G:Value:=(vs u a.fH.length v);let H:Value:=(vs x a.fU.length y);let I:Value:=(vs z a.ye.length B);let J:Value:=(vs K d.length L);refine Na (fun R=>(af R=some r)) (fun R=>[(8,vp T),(9,vp V),(10,vi Q.2)]) (fun R=>[stb T 175 [vi 0,vi 0],stb V 175 [vi Q.1.fN,vi Q.1.fD],stb g 119 [A,C,D,E,F,G,H,I,J,(.map<|some b),(.map<|some c),vi R],xN b (ga jM) (ga xX) M,xN c (ga w8) vI N]) ?_ ?_
 ·refine B1q U<|Le 19 xY<|Le 20 (xz lJ)<|Le 21 (Nt z6h .h4)<|Q1n U<|Lj h (fun ab h=>?_)<|fun ab h=>?_
  ·exact D2q U<|Le 25 xY<|Le 26 (xz lJ)<|Ll (jh (ds:=[A,C,D,E,F,G,H,I,J,(.map<|some b),(.map<|some c),vi Q.2]) ztm .h4)<|WL.nil<|Lo Q.2 h .q<|.s5 .h2 .h1 .here .h2 .h2
  ·exact N2<|Lo S h .q<|.s5 .h1 .here .h2 .h2 .h2
 ·rintro R h
  replace h:=(aa R).symm.trans h
  refine WC.b<|B2n U<|Lj h (fun ad h=>?_)<|fun ad h=>?_
  ·exact WC.b<|bK h fun ar ae h=>Ld<|Nr call80 hz (uu ae)<|Ll (xP zZ .here)<|Q0n<|Ny<|Lk<|oJ h▸Nm results118 (.agg U zh U (xM .here) .nil) (.s3 .h2 .h2 .h2)
  ·exact Nn<|B0q<|Le 30 (xK zh (xM .h1))<|Ll (xP zZ .here)<|Q0n<|Ny<|oJ h▸Nm results118 (.agg U zh U (xM .here) .nil) (.s3 .h2 .h2 .h2)
def c5(a:z2)(b:z2):Option (Int×Int):=
 some (i64 ((i64 (a.fN*b.fD))+(i64 (b.fN*a.fD))),i64 (a.fD*b.fD))
theorem Gj{Z e f a b r}(h:c5 a b=some r){Nx}(hz:PZ [] Nx Z)(c:ZC Z e [vi a.fN,vi a.fD])(d:ZC Z f [vi b.fN,vi b.fD]):
  RC 187 #[vq e,vq f] Nx (.tuple #[vi r.1,vi r.2]) [] []:=by
 unfold c5 at h
 exact L0 func187 U U<|B2n U<|WC.b<|Lu nc []<|Lf 0 U (xz jC)<|Lh 1 U (xA xJ U<|wq hz.pv c)<|Lf 2 U (xz kw)<|Lh 3 U (xA xJ U<|wq hz.pv d)<|Lf 4 U sZ<|Lf 5 U (xz jC)<|Lh 6 U (xA xJ U<|wq hz.pv d)<|Lf 7 U (xz kw)<|Lh 8 U (xA xJ U<|wq hz.pv c)<|Lf 9 U sZ<|Lf 10 U uC<|Lf 11 U (xz kw)<|Lh 12 U (xA xJ U<|wq hz.pv c)<|Lf 13 U (xz kw)<|Lh 14 U (xA xJ U<|wq hz.pv d)<|Lf 15 U sZ<|Lf 16 U q_z<|Lf 17 U q_z<|N0<|Lb<|Ny<|oJ h▸Nm results187 (.tmp U<|.tmp U .nil) .nil
def ik(a:z2)(b:z2):Option (z2×Int):=
 (qG a).bind fun e=>(if !e then some true else(qG b).bind fun f=>some (!f)).bind fun g=>if g then some ((⟨0,0⟩:z2),2) else(c5 a b).bind fun c=>(uF c.1 c.2).bind fun d=>some (d.1,d.2)
theorem F8{Z a b r}(h:ik a b=some r){Nx}(hz:PZ [] Nx Z):
  RC 159 #[.string ⟨#[43]⟩,.agg #[vi a.fN,vi a.fD],.agg #[vi b.fN,vi b.fD]] Nx (.tuple #[.agg #[vi r.1.fN,vi r.1.fD],vi r.2]) [] []:=by
 unfold ik at h
 refine Nk func159 U U<|B0q (Lg 4 (wa (cs:=[vi a.fN,vi a.fD])) fun d _=>Lg 5 (wa (cs:=[vi b.fN,vi b.fD])) fun e _=>Lg 6 (xT (cs:=[vi 0,vi 0]) z1z) fun s _=>Q1n U<|WC.b<|WC.b ?_)
 refine bK h fun u i h=>bK h fun f g h=>Ld<|Le 9 (xK zh (xM .h2))<|Nr call130 hz (jU i)<|Q2q U<|Ly false 3 12 (B:=f) (hB:=(fun h=>(oJ<|qY g h).symm)) (fun _ j=>?_) ?_
 ·have c:=qZ g j
  obtain⟨y,m,c⟩:=za c
  replace c:=oJ c
  exact Le 13 (xK zh (xM .h1))<|Nr call130 hz (jU m)<|Q2q U<|Lz c U .all
 refine La U<|Ly false 7 17 (B:=f) (hB:=(fun h=>h)) (fun _ n=>?_) ?_
 ·exact La U<|Le 19 (Y7 (r:=false) U U)<|La U<|WL.e U U<|WL.e U U<|WL.e U U<|Q2q U<|Lz (Eq.symm n) U .all
 refine Q0n<|Lj h (fun o h=>?_)<|fun o h=>?_
 ·exact B0q<|Le 26 (we (v:=(.agg #[vi 0,vi 0])) (Lq (l:=[]) .nil []))<|Ll (xP zZ .here)<|Q1n U<|Ny<|Lk<|oJ h▸Nm results159 (.agg U zh U (xM .here)<|.tmp U .nil) .nil
 ·refine Nn<|B0q<|Lg 27 (kH Value.string<|fun x=>x) ?_
  intro t _
  let A:Value:=(.func (.func 187) #[] #[vp d,vp e]);refine Le 28 (wJ<|L6 (l:=[.tmp 4,.tmp 5])<|.r2 U U)<|Ll (gQ (k:=⟨#[43]⟩) (v:=A) fI underlying304 .here)<|Le 29 (wJ<|L6 (l:=[.tmp 4,.tmp 5])<|.r2 U U)<|Ll (gQ (k:=⟨#[45]⟩) (v:=(.func (.func 188) #[] #[vp d,vp e])) fI underlying304 .here)<|Le 30 (wJ<|L6 (l:=[.tmp 4,.tmp 5])<|.r2 U U)<|Ll (gQ (k:=⟨#[42]⟩) (v:=(.func (.func 189) #[] #[vp d,vp e])) fI underlying304 .here)<|Le 31 (wJ<|L6 (l:=[.tmp 4,.tmp 5])<|.r2 U U)<|Ll (gQ (k:=⟨#[47]⟩) (v:=(.func (.func 190) #[] #[vp d,vp e])) fI underlying304 .here)<|Q2n U<|WC.b ?_
  exact bK h fun z p h=>bK h fun C q h=>D2q U<|Le 35 (Y6 (k:=⟨#[43]⟩) (dflt:=.nilFunc) (r:=A) fI underlying304 zxk U U U .here)<|Ln 36 (qg (l:=[]) call187 .nil) .nil (ux hz .nil (.s2 .h3 .h2) fun w pz ho la=>Gj p pz ((la _ (.head _) _).stb)<|(la _ (.tail _<|.head _) _).stb)<|Q2q U<|Nr call160 hz (l4 q)<|Q2q U<|Ll (xP zZ .h1)<|Q1n U<|Ny<|oJ h▸Nm results159 (.agg U zh U (xM .here)<|.tmp U .nil) .nil
def vR(b:z2)(c:z2):Option (z2×Int):=
 (ik b c).bind fun a=>some (a.1,a.2)
theorem px{Z a b r}(h:vR a b=some r){Nx}(hz:PZ [] Nx Z):
  RC 119 #[.agg #[vi a.fN,vi a.fD],.agg #[vi b.fN,vi b.fD]] Nx (.tuple #[.agg #[vi r.1.fN,vi r.1.fD],vi r.2]) [] []:=by
 unfold vR at h
 refine L0 func119 U U<|B0q (Lg 2 (wa (cs:=[vi a.fN,vi a.fD])) fun d _=>Lg 3 (wa (cs:=[vi b.fN,vi b.fD])) fun e _=>Lg 4 (xT (cs:=[vi 0,vi 0]) z1z) fun f _=>Q1n U<|WC.b ?_)
 exact bK h fun g c h=>Ld<|Le 6 (xK zh (xM .h2))<|Le 7 (xK zh (xM .h1))<|Nr call159 hz (F8 c)<|Q2q U<|Ll (xP zZ .here)<|Q1n U<|Ny<|oJ h▸Nm results119 (.agg U zh U (xM .here)<|.tmp U .nil) .nil
end Go.Proofs.YthjnhebofpebpaaGreat
