/- A part of this claim's proof: models of functions, walks, plain laws. No conditions. -/
import Derived.Test.YthjnhebofpebpaaGreatW36a
set_option linter.all false
namespace Go.Proofs.YthjnhebofpebpaaGreat
open Go Go.RowKit Sep Tryz
set_option maxRecDepth 30000
set_option maxHeartbeats 4000000
def kI(b:List (List za))(c:Int)(f:(List z7)->Option (List z7)):Nat->(List z7)->Int->Option (List z7)
 | 0,_,_=>none
 | h+1,d,a=>if decide (a<((nth b c).length:Int)) then vk (fun(i:List z7)=>kI b c f h i (i64 (a+1))) fun g=>chk (0<=a/\a<((nth b c).length:Int)) ((gM (⟨(nth (nth b c) a).ya,(nth (nth b c) a).fX,(nth (nth b c) a).fQ⟩:za)).bind fun j=>(vm d j).bind fun k=>if !k then(gM (⟨(nth (nth b c) a).ya,(nth (nth b c) a).fX,(nth (nth b c) a).fQ⟩:za)).bind fun e=>chk (((d++([e]:List z7)).length:Int)*16<=140737488355328/\((d++([e]:List z7)).length:Int)<=4611686018427387904) (g (d++([e]:List z7))) else g d) else f d
def kJ(b:List (List za))(c:(List z7)->Option (List z7)):Nat->(List z7)->Int->Option (List z7)
 | 0,_,_=>none
 | e+1,d,a=>if decide (a<b.length) then vk (fun(f:List z7)=>kJ b c e f (i64 (a+1))) fun g=>chk (0<=a/\a<b.length) (vk (fun(h:List z7)=>g h) fun i=>kI b a i xC d 0) else c d
def uN(a:List (List za)):Option (List z7):=
 vk (fun(b:List z7)=>(vo b (fun(y0:z7) (y1:z7)=>vc y0 y1)).bind fun c=>some c) fun d=>kJ a d xC ([]:List z7) 0
theorem Y9(Z:Zp)(I:Option Addr)(J:Nat)(d:List (List za))(r:List z7)(h:uN d=some r)(w₀:World)(hz:PZ [] w₀ Z)(P:ZS Z 1 (qt Z) I J d):
  Calls Tryz.prog 73 #[vs I d.length J] w₀ fun e w'=>∃ L:Option Addr,∃ M:Nat,e = .returned (vs L r.length M)/\True/\Hp [] w₀ w' [row (vs L r.length M) 121 2 (r.flatMap xP)]:=by
 unfold uN at h
 refine L9 func73 ntmps73 ?_
 refine B1n U<|B1n U<|jK1 h fun N Q h=>Md (fun(k:List z7) (s:Option Addr) (t:Nat)=>(N k=some r)) (fun k s t=>[(3,vs s k.length t)]) (fun k s t=>[row (vs s k.length t) 121 2 (k.flatMap xP)]) ?_ ?_
 ·let A:Value:=(vs I d.length J);let C:Value:=(vi (d.length:Int));refine B1q U<|Le 9 (xK underlying32 U)<|Q1n U<|WC.block<|WC.nilRow 121 2<|WC.fk (fun(G:Nat) (c:List z7) (a:Int) (m:Option Addr) (n:Nat)=>(kJ d N G c a=some r)) (fun G c a m n=>[(3,vs m c.length n),(8,A),(9,C),(10,vi a)]) (fun G c a m n=>[row (vs m c.length n) 121 2 (c.flatMap xP)]) (fun G c a m n=>G) ⟨xC,([]:List z7),0,none,0⟩ h (.q U) (.cons .here .nil) ?_
  rintro(_|R) c a m n h;·cases h
  rw[kJ] at h
  refine B1n U<|WC.b<|Lk U h (fun S h=>?_)<|fun S h=>?_
  ·refine WC.skip<|Lb<|jK1 h fun T V h=>Md (fun(f:List z7) (v:Option Addr) (x:Nat)=>(T f=some r)) (fun f v x=>[(3,vs v f.length x),(8,A),(9,C),(10,vi a)]) (fun f v x=>[row (vs v f.length x) 121 2 (f.flatMap xP)]) ?_ ?_
   ·refine WC.block<|WC.b<|cK h fun W h=>Ld<|L0 (dd:=12) U U (Z:=Z) (Pr:=(qt Z)) z3K U U P W ?_
    rintro aw ax X ay ⟨Y,aa,rfl,ab⟩
    refine Le 13 (xl z3q U<|q9 hz.pv X U)<|Q1n U<|B1q U<|Le 15 (xK underlying58 U)<|Q1n U<|jK1 h fun O ad h=>WC.ei (fun(g:List z7) (y:Option Addr) (z:Nat)=>(O g=some r)) (fun g y z=>[(3,vs y g.length z),(8,A),(9,C),(10,vi a)]) (fun g y z=>[row (vs y g.length z) 121 2 (g.flatMap xP)]) ?_ ?_
    ·let D:Value:=(vs Y ((nth d a).length) aa);let E:=((nth d a).length:Int);refine WC.block<|WC.fk (fun(H:Nat) (b:List z7) (o:Int) (p:Option Addr) (q:Nat)=>(kI d a O H b o=some r)) (fun H b o p q=>[(3,vs p b.length q),(8,A),(9,C),(10,vi a),(14,D),(15,vi E),(16,vi o)]) (fun H b o p q=>[row (vs p b.length q) 121 2 (b.flatMap xP)]) (fun H b o p q=>H) ⟨xC,c,0,m,n⟩ h (.q U) (.cons .here .nil) ?_
     rintro(_|ae) b o p q h;·cases h
     rw[kI] at h
     refine B1n U<|WC.b<|Lk U h (fun af h=>?_)<|fun af h=>?_
     ·refine WC.skip<|Lb<|jK1 h fun ag ah h=>Md (fun(j:List z7) (B:Option Addr) (F:Nat)=>(ag j=some r)) (fun j B F=>[(3,vs B j.length F),(8,A),(9,C),(10,vi a),(14,D),(15,vi E),(16,vi o)]) (fun j B F=>[row (vs B j.length F) 121 2 (j.flatMap xP)]) ?_ ?_
      ·refine WC.block<|WC.b<|cK h fun ai h=>Ld<|L0 (dd:=18) U U (Z:=Z) (Pr:=(rq vw)) z1v U U ab ai ?_
       rintro az aA aj aB rfl
       refine Le 19 (xw z5b U (vQ hz.pv aj) U) (Lg 7 (xG (cs:=[vi 0,vi 0,vi 0]) zaS U) fun aC _=>Lo U U (xz za4 U U U .here U U U)<|Q0n<|WC.b ?_)
       refine bK h fun aE ak h=>bK h fun aF al h=>D1q U<|Le 21 (xw z5b U (xy .here) U)<|Lp 22 (zb call60<|.cons U .nil) .nil (cc hz .nil fun w pz ho=>uj _ _ _ ak w pz )<|Lp 23 (zb call114<|.r2 U U) .nil (sc hz .nil (.cons .h1 .nil) fun w pz ho la=>t8 _ _ _ _ _ _ al w pz<|ZA.row (la _ (.head _) _) (RR.flat (enc:=xP) (fun _=>U) _) ⟨w,pz.1⟩)<|Q1n U<|Lk U h (fun am h=>?_)<|fun am h=>?_
       ·refine bK h fun K an h=>cK h fun ao h=>D1q U<|Le 26 (xw z5b U (xy .here) U)<|Lp 27 (zb call60<|.cons U .nil) .nil (cc hz .nil fun w pz ho=>uj _ _ _ an w pz ) (Lg 28 (xU (cs:=([K]:List z7).flatMap xP) z9g (Lq (l:=[.tmp 27]) (.cons U .nil) [0]) (fun _=>by kernel_rfl) U (by unfold maxLen;omega)) fun aD _=>WL.fA 29 (vT (enc:=xP) (l1:=b) (l2:=([K]:List z7)) z9g U U .h2 (fun _=>U) U U (vL .here) (qR iP _) ao) ?_)
        rintro⟨ap,aq⟩ _
        exact La U<|WL.nil<|Lt<|Ln ⟨b++([K]:List z7),ap,aq⟩ h (.q U)<|.cons .here .nil
       ·exact WC.skip<|Lt<|Ln ⟨b,p,q⟩ h (.q U)<|.cons .h1 .nil
      ·rintro j B F h
       replace h:=(ah j).symm.trans h
       exact D2q U<|WL.nil<|WX.round ⟨ae,j,i64 (o+1),B,F⟩ h (Nat.lt_succ_self _) (.q U)<|.cons .here .nil
     ·exact WC.exit<|Lm<|Lm<|Lv<|Ln ⟨b,p,q⟩ h (.q U)<|.cons .here .nil
    ·rintro g y z h
     replace h:=(ad g).symm.trans h
     exact Lt<|Ln ⟨g,y,z⟩ h (.q U)<|.cons .here .nil
   ·rintro f v x h
    replace h:=(V f).symm.trans h
    exact D2q U<|WL.nil<|WX.round ⟨R,f,i64 (a+1),v,x⟩ h (Nat.lt_succ_self _) (.q U)<|.cons .here .nil
  ·exact WC.exit<|Lm<|Lm<|Lv<|Ln ⟨c,m,n⟩ h (.cons U .nil)<|.cons .here .nil
 ·rintro k s t h
  replace h:=(Q k).symm.trans h
  refine WC.b<|bK h fun ar au h=>D1q U<|WL.fy (dd:=33) U U U (zb call115<|.r2 U U) (.cons .here .nil) (cc hz (.cons .here .nil) fun w pz ho=>ta _ _ _ (zoq:=45) (zxz:=[]) _ (zop:=(fun(y0:z7) (y1:z7)=>vc y0 y1)) _ au w pz call45 (fun w' iT y0 y1  r  hr=>rU _ _ _ _ hr w' iT ) ho) ?_
  rintro  av
  refine Mh (i:=3) U (u:=(vs s ar.length t)) (px av.symm)<|Q0n<|B2n U<|WC.ret ?_
  obtain rfl:=oJ h
  exact Li results73 (.tmp U .nil)<|fun w hw=>⟨s,t,xJ U,trivial,hw.sub (.cons .here .nil)⟩
def uO(a:za)(b:Int):Option Bool:=
 some (decide (a.fX=b))
theorem Ya(Z:Zp)(b:Addr)(a:za)(c:Int)(r:Bool)(h:uO a c=some r)(w₀:World)(hz:PZ [] w₀ Z)(d:ZC Z b [vi c]):
  RC 116 #[.agg #[vi a.ya,vi a.fX,vi a.fQ],vq b] w₀ (.bool r) [] []:=by
 unfold uO at h
 refine L3 func116 ntmps116 ?_
 refine WC.b<|Ld (Lg 2 (xO (cs:=[vi a.ya,vi a.fX,vi a.fQ]) U U) fun e _=>Q1n U<|B0q<|Le 4 (xk jR U U)<|Le 5 (xl xu U<|xt .here U)<|Le 6 (xl xu U<|q9 hz.pv d U)<|Q2n U<|WC.ret ?_)
 obtain rfl:=oJ h
 exact Li results116 (.tmp U .nil)<|fun w hw=>⟨xJ U,hw.sub .nil⟩
def wt(b:List za)(z9j:za->Option Bool)(c:Option Int):Nat->Int->Option Int
 | 0,_=>none
 | d+1,a=>if decide (a<b.length) then chk (0<=a/\a<b.length) ((z9j (⟨(nth b a).ya,(nth b a).fX,(nth b a).fQ⟩:za)).bind fun e=>if e then some a else wt b z9j c d (i64 (a+1))) else c
def wr(a:List za)(z9j:za->Option Bool):Option Int:=
 g8 (some (-1)) fun b=>wt a z9j b xC 0
theorem qZ(Z:Zp)(d:Option Addr)(g:Nat)(zdb:FuncId)(zjk:List Value)(b:List za)(z9j:za->Option Bool)(r:Int)(h:wr b z9j=some r)(w₀:World)(hz:PZ [] w₀ Z)(j:ZS Z 3 (rq vw) d g b)(k:∀ args w,(callFunc zdb args).run Tryz.prog w = .ok (.enter zdb args) w)(m:∀ w:World,PZ [] w Z->∀(x0:za) (r:Bool),z9j x0=some r->Calls Tryz.prog zdb (([.agg #[vi x0.ya,vi x0.fX,vi x0.fQ]]:List Value)++zjk).toArray w fun e w'=>e = .returned (.bool r)/\Hp [] w w' []):
  RC 94 #[vs d b.length g,.func (.func zdb) #[] (zjk).toArray] w₀ (vi r) [] []:=by
 unfold wr at h
 refine L3 func94 ntmps94 ?_
 refine B1n U<|jK0 h fun i n h=>L7 (i=some r) ([]) ([]) ?_ ?_
 ·refine B1q U<|Le 7 (xK underlying58 U)<|Q1n U<|WC.block<|L6 (fun(c:Nat) (a:Int)=>(wt b z9j i c a=some r)) (fun c a=>[(0,vs d b.length g),(1,.func (.func zdb) #[] (zjk).toArray),(7,vi (b.length:Int)),(8,vi a)]) (fun c a=>[]) (fun c a=>c) ⟨xC,0⟩ h (.q U) .nil ?_
  rintro(_|o) a h;·cases h
  rw[wt] at h
  refine B1n U<|WC.b<|Lk U h (fun p h=>?_)<|fun p h=>?_
  ·refine WC.skip<|Lb<|WC.b<|WC.block<|B2n U<|WC.b<|cK h fun q h=>bK h fun s t h=>D3q U<|L0 (dd:=14) U U (Z:=Z) (Pr:=(rq vw)) z1v U U j q ?_
   rintro x y u z rfl
   refine Le 15 (xw z5b U (vQ hz.pv u) U)<|Lp 16 (qW (l:=[.tmp 15]) (f:=zdb) (caps:=zjk) k U<|.cons U .nil) .nil (fun w hw=>m w (hz.now hw) (⟨(nth b a).ya,(nth b a).fX,(nth b a).fQ⟩:za) s  t)<|Q0n<|Lk U h (fun v h=>?_)<|fun v h=>?_
   ·refine B2n U<|WC.ret<|Lu<|Ll<|Ll<|Lu<|Ll ?_
    obtain rfl:=oJ h
    exact Li results94 (.tmp U .nil)<|fun w hw=>⟨xJ U,hw.sub .nil⟩
   ·exact WC.skip<|Lt<|Lb<|D2q U<|WL.nil<|WX.round ⟨o,i64 (a+1)⟩ h (Nat.lt_succ_self _) (.q U) .nil
  ·exact WC.exit<|Lm<|Lm<|Lv<|Ln () h .nil .nil
 ·rintro  h
  replace h:=n.symm.trans h
  refine B1n U<|WC.ret ?_
  obtain rfl:=oJ h
  exact Li results94 (.tmp U .nil)<|fun w hw=>⟨xJ U,hw.sub .nil⟩
def mE(b:List za)(c:Int):Option (za×Bool):=
 (wr b (fun(y0:za)=>uO y0 c)).bind fun a=>if decide (a<0) then some ((⟨0,0,0⟩:za),false) else chk (0<=a/\a<b.length) (some ((⟨(nth b a).ya,(nth b a).fX,(nth b a).fQ⟩:za),true))
theorem li(Z:Zp)(c:Option Addr)(d:Nat)(b:List za)(a:Int)(r:za×Bool)(h:mE b a=some r)(w₀:World)(hz:PZ [] w₀ Z)(e:ZS Z 3 (rq vw) c d b):
  RC 77 #[vs c b.length d,vi a] w₀ (.tuple #[.agg #[vi r.1.ya,vi r.1.fX,vi r.1.fQ],.bool r.2]) [] []:=by
 unfold mE at h
 refine L3 func77 ntmps77 ?_
 refine WC.b<|Ld (Lg 3 (xO (cs:=[vi a]) U U) fun f _=>Lg 4 (xG (cs:=[vi 0,vi 0,vi 0]) zaS U) fun m _=>Q1n U<|WC.b ?_)
 refine bK h fun q g h=>D1q U<|Le 8 (wC<|L8 (l:=[.tmp 3])<|.cons U .nil)<|Lp 9 (zb call94<|.r2 U U) .nil (sc hz .nil (.cons .h1 .nil) fun w pz ho la=>qZ _ _ _ (zdb:=116) (zjk:=[vp f]) _ (z9j:=(fun(y0:za)=>uO y0 a)) _ g w pz (e.mono<|zl) call116<|fun w' iT y0  r  hr=>Ya _ _ _ _ _ hr w' iT<|(la _ (.head _) _).stb)<|Q1n U<|WC.b<|B2n U<|Lk U h (fun i h=>?_)<|fun i h=>?_
 ·refine B0q<|Le 12 (w3 (v:=(.agg #[vi 0,vi 0,vi 0])) (Lq (l:=[]) .nil []) (fun _=>by kernel_rfl))<|Lo U U (xz za4 U U U .here U U U)<|Q1n U<|WC.ret<|Ll ?_
  obtain rfl:=oJ h
  exact Li results77 (.agg U z5b U (xy .here)<|.tmp U .nil)<|fun w hw=>⟨wV U U,hw.sub .nil⟩
 ·refine WC.skip<|Lb<|WC.b<|cK h fun j h=>D2q U<|L0 (dd:=15) U U (Z:=Z) (Pr:=(rq vw)) z1v U U e j ?_
  rintro n o k p rfl
  refine Le 16 (xw z5b U (vQ hz.pv k) U)<|Lo U U (xz za4 U U U .here U U U)<|Q1n U<|WC.ret ?_
  obtain rfl:=oJ h
  exact Li results77 (.agg U z5b U (xy .here)<|.tmp U .nil)<|fun w hw=>⟨wV U U,hw.sub .nil⟩
def mr(a:za)(c:List za)(d:z7)(e:List (z7×Int)):Option Bool:=
 (mE c a.ya).bind fun b=>(gM a).bind fun f=>(if (decide (f=d))&&b.2 then(gM b.1).bind fun g=>some (decide ((xx e g 0)=0)) else some false).bind fun h=>some h
theorem eO(Z:Zp)(m:Addr)(s:Option Addr)(t:Nat)(n:Addr)(o:Addr)(g:Nat)(d:za)(p:List za)(e:z7)(j:List (z7×Int))(r:Bool)(h:mr d p e j=some r)(w₀:World)(hz:Pz [xB g (ga xP) vI j] w₀ Z)(L:ZS Z 3 (rq vw) s t p)(M:ZC Z m [vs s p.length t])(N:ZC Z n [vi e.ya,vi e.fQ])(O:ZC Z o [.map (some g)])(iq:Ho w₀ [xB g (ga xP) vI j]):
  RF 76 #[.agg #[vi d.ya,vi d.fX,vi d.fQ],vq m,vq n,vq o] w₀ (.bool r) [xB g (ga xP) vI j] [xB g (ga xP) vI j]:=by
 unfold mr at h
 refine Calls.tg func76 ntmps76 iq ?_
 refine WC.b<|Ld (Lg 4 (xO (cs:=[vi d.ya,vi d.fX,vi d.fQ]) U U) fun q _=>Q1n U<|WC.b ?_)
 refine bK h fun c P h=>Ld<|Le 9 (xl z3q U<|q9 hz.pv M U)<|Le 10 (xk ww U U)<|Le 11 (xl xu U<|xt .here U)<|Lp 12 (zb call77<|.r2 U U) .nil (cc hz .nil fun w pz ho=>li _ _ _ _ _ _ P w pz L)<|Q2q U<|La U (Lg 6 (xG (cs:=[vi 0,vi 0,vi 0]) zaS U) fun B _=>Lo U U (xz za4 U U U .here U U U)<|Q1n U<|WC.b ?_)
 obtain⟨f,Q,h⟩:=z8 h
 obtain⟨R,I,h⟩:=z8 h
 let A:Value:=(.agg #[vi c.1.ya,vi c.1.fX,vi c.1.fQ]);let C:Value:=(.agg #[vi d.ya,vi d.fX,vi d.fQ]);let D:Value:=(.bool (decide (f=e)));let E:Value:=(.bool ((decide (f=e))&&c.2));let F:Value:=(.agg #[vi f.ya,vi f.fQ]);let G:Value:=(.agg #[vi e.ya,vi e.fQ]);let H:Value:=(vs s p.length t);refine Lz nc [] U<|Lh 0 15 U (xw z5b U (xy .h1) U)<|L5 1 16 U (zb call60<|.cons U .nil) (cc hz .nil fun w pz ho=>uj _ _ _ Q w pz )<|Lh 2 17 U (xw z7b U (vQ hz.pv N) U)<|Lf 3 18 U (pw (enc:=xP) (a:=f) (b:=e) zx0 U U)<|Lf 4 19 U (q_m U)<|Mc (fuel':=8) [(0,C),(1,vq m),(2,vq n),(3,vq o),(4,vp q),(5,.bool false),(9,H),(10,vp q),(11,vi d.ya),(12,.tuple #[A,.bool c.2]),(8,.tuple #[A,.bool c.2]),(13,A),(14,.bool c.2),(6,vp B),(7,.bool c.2),(15,C),(16,F),(17,G),(18,D),(19,D),(21,E)] (wl 15 (dn 7)) ?_<|fun J=>?_
 rotate_left
 ·rcases Bool.eq_false_or_eq_true (decide (f=e)) with hb' | hb'
  ·have u:=hb';clear hb'
   refine L4 (i:=19) U u<|Lf 5 20 U (q_m U)<|Lf 6 21 U (qe U U)<|Lw (.a3) ?_ J
   exact .r21 U U U U U U U U U U U U U U U U U U U (zt<|Eq.symm u)<|zt<|vz u
  ·have v:=hb';clear hb'
   refine L4 (i:=19) U v<|Lj 5 20 U<|Lf 6 21 U (qf U U)<|Lw (.a3) ?_ J
   exact .r21 U U U U U U U U U U U U U U U U U U U (zt<|Eq.symm v)<|zt<|vy v
 refine Lf 7 22 U (q_m U)<|Mc (fuel':=1) [(0,C),(1,vq m),(2,vq n),(3,vq o),(4,vp q),(5,.bool false),(9,H),(10,vp q),(11,vi d.ya),(12,.tuple #[A,.bool c.2]),(8,.tuple #[A,.bool c.2]),(13,A),(14,.bool c.2),(6,vp B),(7,.bool c.2),(15,C),(16,F),(17,G),(18,D),(19,D),(21,E),(22,E),(28,.bool R)] (wl 15 (dn 14)) ?_<|fun K=>?_
 rotate_left
 ·rcases Bool.eq_false_or_eq_true ((decide (f=e))&&c.2) with hb' | hb'
  ·have x:=hb';clear hb'
   have l:=q7 I x
   obtain⟨S,T,l⟩:=z8 l
   replace l:=oJ l
   refine L4 (i:=22) U x<|Lh 8 23 U (xl zti U<|q9 hz.pv O U)<|Lh 9 24 U (xw z5b U (xy .here) U)<|L5 10 25 U (zb call60<|.cons U .nil) (cc hz .nil fun w pz ho=>uj _ _ _ T w pz )<|Lh 11 26 U (j8 (k:=S) (dflt:=(0:Int)) zj8 underlying117 qS U U U .h2)<|Lf 12 27 U (sG U U)<|Lf 13 28 U (qe U U)<|Lw (.a3) ?_ K
   exact .r23 U U U U U U U U U U U U U U U U U U U U U (zt<|Eq.symm x)<|zt l
  ·have y:=hb';clear hb'
   have z:=q8 I y
   replace z:=oJ z
   refine L4 (i:=22) U y<|Lj 8 23 U<|Lj 9 24 U<|Lj 10 25 U<|Lj 11 26 U<|Lj 12 27 U<|Lf 13 28 U (qf U U)<|Lw (.a3) ?_ K
   exact .r23 U U U U U U U U U U U U U U U U U U U U U (zt<|Eq.symm y)<|zt z
 refine Lf 14 5 U (q_z U)<|WD.done (by kernel_rfl)<|Lb<|WC.ret ?_
 obtain rfl:=oJ h
 exact Li results76 (.tmp U .nil)<|fun w hw=>⟨xJ U,hw.sub (.cons .h2 .nil)⟩
def ws(b:List za)(c:List za)(d:z7)(e:List (z7×Int))(f:Option Int):Nat->Int->Option Int
 | 0,_=>none
 | g+1,a=>if decide (a<b.length) then chk (0<=a/\a<b.length) ((mr (⟨(nth b a).ya,(nth b a).fX,(nth b a).fQ⟩:za) c d e).bind fun h=>if h then some a else ws b c d e f g (i64 (a+1))) else f
def qM(a:List za)(b:List za)(c:z7)(d:List (z7×Int)):Option Int:=
 g8 (some (-1)) fun e=>ws a b c d e xC 0
theorem sf(Z:Zp)(i:Option Addr)(j:Nat)(k:Addr)(o:Option Addr)(p:Nat)(m:Addr)(n:Addr)(b:Nat)(d:List za)(f:List za)(g:z7)(a:List (z7×Int))(r:Int)(h:qM d f g a=some r)(w₀:World)(hz:Pz [xB b (ga xP) vI a] w₀ Z)(z:ZS Z 3 (rq vw) i j d)(A:ZS Z 3 (rq vw) o p f)(B:ZC Z k [vs o f.length p])(C:ZC Z m [vi g.ya,vi g.fQ])(D:ZC Z n [.map (some b)])(iq:Ho w₀ [xB b (ga xP) vI a]):
  RF 94 #[vs i d.length j,.func (.func 76) #[] #[vq k,vq m,vq n]] w₀ (vi r) [xB b (ga xP) vI a] [xB b (ga xP) vI a]:=by
 unfold qM at h
 refine Mf func94 ntmps94 iq ?_
 refine B1n U<|jK0 h fun q s h=>L7 (q=some r) ([]) ([xB b (ga xP) vI a]) ?_ ?_
 ·refine B1q U<|Le 7 (xK underlying58 U)<|Q1n U<|WC.block<|L6 (fun(e:Nat) (c:Int)=>(ws d f g a q e c=some r)) (fun e c=>[(0,vs i d.length j),(1,.func (.func 76) #[] #[vq k,vq m,vq n]),(7,vi (d.length:Int)),(8,vi c)]) (fun e c=>[xB b (ga xP) vI a]) (fun e c=>e) ⟨xC,0⟩ h (.q U) (.cons .here .nil) ?_
  rintro(_|E) c h;·cases h
  rw[ws] at h
  refine B1n U<|WC.b<|Lk U h (fun t h=>?_)<|fun t h=>?_
  ·refine WC.skip<|Lb<|WC.b<|WC.block<|B2n U<|WC.b<|cK h fun u h=>bK h fun I v h=>D3q U<|L0 (dd:=14) U U (Z:=Z) (Pr:=(rq vw)) z1v U U z u ?_
   rintro F G x H rfl
   refine Le 15 (xw z5b U (vQ hz.pv x) U)<|Lp 16 (qW (l:=[.tmp 15]) call76 U<|.cons U .nil) (.cons .here .nil) (cc hz (.cons .here .nil) fun w pz ho=>eO _ _ _ _ _ _ _ _ _ _ _ _ v w pz A B C D ho)<|Q0n<|Lk U h (fun y h=>?_)<|fun y h=>?_
   ·refine B2n U<|WC.ret<|Lu<|Ll<|Ll<|Lu<|Ll ?_
    obtain rfl:=oJ h
    exact Li results94 (.tmp U .nil)<|fun w hw=>⟨xJ U,hw.sub (.cons .here .nil)⟩
   ·exact WC.skip<|Lt<|Lb<|D2q U<|WL.nil<|WX.round ⟨E,i64 (c+1)⟩ h (Nat.lt_succ_self _) (.q U)<|.cons .here .nil
  ·exact WC.exit<|Lm<|Lm<|Lv<|Ln () h .nil<|.cons .here .nil
 ·rintro  h
  replace h:=s.symm.trans h
  refine B1n U<|WC.ret ?_
  obtain rfl:=oJ h
  exact Li results94 (.tmp U .nil)<|fun w hw=>⟨xJ U,hw.sub (.cons .here .nil)⟩
def qo(a:List za)(b:List za)(c:z7)(d:List (z7×Int)):Option Bool:=
 (qM a b c d).bind fun e=>some (decide (e>=0))
theorem tF(Z:Zp)(f:Option Addr)(g:Nat)(i:Addr)(j:Option Addr)(k:Nat)(l:Addr)(m:Addr)(a:Nat)(c:List za)(d:List za)(e:z7)(b:List (z7×Int))(r:Bool)(h:qo c d e b=some r)(w₀:World)(hz:Pz [xB a (ga xP) vI b] w₀ Z)(n:ZS Z 3 (rq vw) f g c)(o:ZS Z 3 (rq vw) j k d)(p:ZC Z i [vs j d.length k])(q:ZC Z l [vi e.ya,vi e.fQ])(s:ZC Z m [.map (some a)])(iq:Ho w₀ [xB a (ga xP) vI b]):
  RF 75 #[vs f c.length g,.func (.func 76) #[] #[vq i,vq l,vq m]] w₀ (.bool r) [xB a (ga xP) vI b] [xB a (ga xP) vI b]:=by
 unfold qo at h
 refine Mf func75 ntmps75 iq ?_
 refine B1n U<|WC.b<|bK h fun u t h=>D2q U<|Lp 7 (zb call94<|.r2 U U) (.cons .here .nil) (cc hz (.cons .here .nil) fun w pz ho=>sf _ _ _ _ _ _ _ _ _ _ _ _ _ _ t w pz n o p q s ho)<|Q2n U<|WC.ret ?_
 obtain rfl:=oJ h
 exact Li results75 (.tmp U .nil)<|fun w hw=>⟨xJ U,hw.sub (.cons .here .nil)⟩
def um(a:List za)(b:z7)(c:List (z7×Int)):Option Bool:=
 (qo a a b c).bind fun d=>some d
theorem aj(Z:Zp)(d:Option Addr)(e:Nat)(g:Addr)(i:Addr)(a:Nat)(c:List za)(f:z7)(b:List (z7×Int))(r:Bool)(h:um c f b=some r)(w₀:World)(hz:Pz [xB a (ga xP) vI b] w₀ Z)(j:ZS Z 3 (rq vw) d e c)(k:ZC Z g [vi f.ya,vi f.fQ])(m:ZC Z i [.map (some a)])(iq:Ho w₀ [xB a (ga xP) vI b]):
  RF 74 #[vs d c.length e,vq g,vq i] w₀ (.bool r) [xB a (ga xP) vI b] [xB a (ga xP) vI b]:=by
 unfold um at h
 refine Calls.oh3 func74 ntmps74 iq ?_
 refine WC.b<|Ld (Lg 3 (xO (cs:=[vs d c.length e]) U U) fun o _=>Q1n U<|WC.b ?_)
 refine bK h fun p n h=>Ld<|Le 5 (xl z3q U<|xt .here U)<|Le 6 (wC<|L8 (l:=[.tmp 3,.tmp 1,.tmp 2])<|.r3 U U U)<|Lp 7 (zb call75<|.r2 U U) (.cons .h1 .nil) (sc hz (.cons .h1 .nil) (.cons .here .nil) fun w pz ho la=>tF _ _ _ _ _ _ _ _ _ _ _ _ _ _ n w pz (j.mono<|zl) (j.mono<|zl) ((la _ (.head _) _).stb) (k.mono<|zl) (m.mono<|zl) ho)<|Q1n U<|WC.ret ?_
 obtain rfl:=oJ h
 exact Li results74 (.tmp U .nil)<|fun w hw=>⟨xJ U,hw.sub (.cons .here .nil)⟩
def wh(b:List (List za))(c:z7)(d:List (z7×Int))(e:Option Int):Nat->Int->Option Int
 | 0,_=>none
 | f+1,a=>if decide (a<b.length) then chk (0<=a/\a<b.length) ((um (nth b a) c d).bind fun g=>if g then some a else wh b c d e f (i64 (a+1))) else e
def qp(a:List (List za))(b:z7)(c:List (z7×Int)):Option Int:=
 g8 (some (-1)) fun d=>wh a b c d xC 0
theorem tG(Z:Zp)(g:Option Addr)(i:Nat)(j:Addr)(k:Addr)(b:Nat)(d:List (List za))(f:z7)(a:List (z7×Int))(r:Int)(h:qp d f a=some r)(w₀:World)(hz:Pz [xB b (ga xP) vI a] w₀ Z)(n:ZS Z 1 (qt Z) g i d)(o:ZC Z j [vi f.ya,vi f.fQ])(p:ZC Z k [.map (some b)])(iq:Ho w₀ [xB b (ga xP) vI a]):
  RF 92 #[vs g d.length i,.func (.func 74) #[] #[vq j,vq k]] w₀ (vi r) [xB b (ga xP) vI a] [xB b (ga xP) vI a]:=by
 unfold qp at h
 refine Mf func92 ntmps92 iq ?_
 refine B1n U<|jK0 h fun m q h=>L7 (m=some r) ([]) ([xB b (ga xP) vI a]) ?_ ?_
 ·refine B1q U<|Le 7 (xK underlying32 U)<|Q1n U<|WC.block<|L6 (fun(e:Nat) (c:Int)=>(wh d f a m e c=some r)) (fun e c=>[(0,vs g d.length i),(1,.func (.func 74) #[] #[vq j,vq k]),(7,vi (d.length:Int)),(8,vi c)]) (fun e c=>[xB b (ga xP) vI a]) (fun e c=>e) ⟨xC,0⟩ h (.q U) (.cons .here .nil) ?_
  rintro(_|z) c h;·cases h
  rw[wh] at h
  refine B1n U<|WC.b<|Lk U h (fun s h=>?_)<|fun s h=>?_
  ·refine WC.skip<|Lb<|WC.b<|WC.block<|B2n U<|WC.b<|cK h fun t h=>bK h fun F u h=>D3q U<|L0 (dd:=14) U U (Z:=Z) (Pr:=(qt Z)) z3K U U n t ?_
   rintro A B v C ⟨D,E,rfl,x⟩
   refine Le 15 (xl z3q U<|q9 hz.pv v U)<|Lp 16 (qW (l:=[.tmp 15]) call74 U<|.cons U .nil) (.cons .here .nil) (cc hz (.cons .here .nil) fun w pz ho=>aj _ _ _ _ _ _ _ _ _ _ u w pz x o p ho)<|Q0n<|Lk U h (fun y h=>?_)<|fun y h=>?_
   ·refine B2n U<|WC.ret<|Lu<|Ll<|Ll<|Lu<|Ll ?_
    obtain rfl:=oJ h
    exact Li results92 (.tmp U .nil)<|fun w hw=>⟨xJ U,hw.sub (.cons .here .nil)⟩
   ·exact WC.skip<|Lt<|Lb<|D2q U<|WL.nil<|WX.round ⟨z,i64 (c+1)⟩ h (Nat.lt_succ_self _) (.q U)<|.cons .here .nil
  ·exact WC.exit<|Lm<|Lm<|Lv<|Ln () h .nil<|.cons .here .nil
 ·rintro  h
  replace h:=q.symm.trans h
  refine B1n U<|WC.ret ?_
  obtain rfl:=oJ h
  exact Li results92 (.tmp U .nil)<|fun w hw=>⟨xJ U,hw.sub (.cons .here .nil)⟩
def vf(a:List (List za))(b:z7)(c:List (z7×Int)):Option Bool:=
 (qp a b c).bind fun d=>some (decide (d>=0))
theorem uP(Z:Zp)(e:Option Addr)(f:Nat)(g:Addr)(i:Addr)(a:Nat)(c:List (List za))(d:z7)(b:List (z7×Int))(r:Bool)(h:vf c d b=some r)(w₀:World)(hz:Pz [xB a (ga xP) vI b] w₀ Z)(j:ZS Z 1 (qt Z) e f c)(k:ZC Z g [vi d.ya,vi d.fQ])(l:ZC Z i [.map (some a)])(iq:Ho w₀ [xB a (ga xP) vI b]):
  RF 50 #[vs e c.length f,.func (.func 74) #[] #[vq g,vq i]] w₀ (.bool r) [xB a (ga xP) vI b] [xB a (ga xP) vI b]:=by
 unfold vf at h
 refine Mf func50 ntmps50 iq ?_
 refine B1n U<|WC.b<|bK h fun n m h=>D2q U<|Lp 7 (zb call92<|.r2 U U) (.cons .here .nil) (cc hz (.cons .here .nil) fun w pz ho=>tG _ _ _ _ _ _ _ _ _ _ m w pz j k l ho)<|Q2n U<|WC.ret ?_
 obtain rfl:=oJ h
 exact Li results50 (.tmp U .nil)<|fun w hw=>⟨xJ U,hw.sub (.cons .here .nil)⟩
def rW(l:List z7)(i j:Int):Option (List z7):=chk ((0<=i/\i<=j/\j<=l.length)/\l.length*16<=140737488355328) (some (l.take i.toNat++l.drop j.toNat))
theorem ak(Z:Zp)(ao:Option Addr)(cap:Nat)(l:List z7)(i j:Int)(r:List z7)(w₀:World)(hz:Pz [row (vs ao l.length cap) 121 2 (l.flatMap xP)] w₀ Z)(h:rW l i j=some r)(iq:Ho w₀ [row (vs ao l.length cap) 121 2 (l.flatMap xP)]):
  Calls Tryz.prog 78 #[.slice ao l.length cap,.int .i64 i,.int .i64 j] w₀ fun e w'=>∃ DT:Option Addr,∃ Bv:Nat,e = .returned (vs DT r.length Bv)/\True/\Hp (fps [row (vs ao l.length cap) 121 2 (l.flatMap xP)]) w₀ w' [row (vs DT r.length Bv) 121 2 (r.flatMap xP)]:=by
 obtain⟨⟨c1,c2⟩,h⟩:=xq h
 obtain rfl:=oJ h
 clear h
 refine Calls.oh3 func78 ntmps78 iq ?_
 refine B1n U<|WC.b<|Ld<|La U<|La U<|La U<|La U<|Le 12 (xK underlying112 U) (WL.know (fun w h=>h.rowShape .here) fun hs=>?_)
 obtain⟨hs1,hs2,hs3,_⟩:=hs
 refine Le 13 (K7 z9g U U U U (by omega) (by omega) (by omega) (by omega))<|Q0n<|WC.b<|B3n U<|WC.cond U (fun hb=>?_)<|fun hb=>?_
 ·have e:i=j:=by simpa using hb
  refine B2n U<|WC.ret<|Ll<|Li results78 (.tmp U .nil)<|fun w hw=>?_
  have e2:l.take i.toNat++l.drop j.toNat=l:=by subst e;exact List.take_append_drop _ _
  rw[e2];exact⟨ao,cap,xJ U,trivial,hw.sub (.cons .here .nil)⟩
 ·have ov:i<j:=by
   have:i≠j:=by simpa using hb
   omega
  clear hb
  refine WC.skip<|Lb<|B1q U<|Le 19 (xK underlying112 U)<|Q1n U<|WC.b<|WC.know (fun w hw=>Hp.vB .here hw (by omega)) ?_
  rintro⟨b,rfl⟩
  have iS:(l.take i.toNat++l.drop j.toNat).length=i.toNat+(l.length-j.toNat):=by rw[List.length_append,List.length_take,List.length_drop];omega
  refine Lz (fun i=>[6].contains i) [] U<|Lf 0 20 U (q_m U)<|Lf 1 21 U (q_m U)<|Lf 2 22 U (sI (lo:=0) (hi:=i.toNat) (lv:=none) (hv:=some (vi i)) z9g U (fun _ _ _=>U) (fun a w h=>by rw[Option.map_some,h.eval U]) U (by show i=_;omega) (by omega) (by omega) (by simp))<|WD.repin (i:=22) U (u:=.slice (some ⟨b,0,none⟩) i.toNat cap) (by split <;> simp[Addr.add])<|Lf 3 23 U (q_m U)<|Lf 4 24 U (q_m U)<|Lf 5 25 U (sI (lo:=j.toNat) (hi:=l.length) (lv:=some (vi j)) (hv:=none) z9g U (fun a w h=>by rw[Option.map_some,h.eval U]) (fun _ _ _=>U) (by show j=_;omega) U (by omega) (by omega)<|fun _=>hs2) (WD.old (i:=6) (dd:=26) U (by kernel_rfl) U U U U (fun _=>wB.of .nil) (Qj (i:=i.toNat) (j:=j.toNat) (m:=l.length) (cs:=l.flatMap xP) z9g U U (fun hk=>if_neg (by omega)) .here (by omega) (by omega) (qR iP _) (by omega)) fun tl _=>Lf 7 0 U (q_z U)<|WD.done (by kernel_rfl)<|Lb<|B2q U<|Le 29 (xK underlying112 U)<|La U<|Le 31 (sI (lo:=i.toNat+(l.length-j.toNat)) (hi:=l.length) (lv:=some (vi ((i.toNat+(l.length-j.toNat):Nat):Int))) (hv:=some (vi (l.length:Int))) z9g U (fun a w h=>by rw[Option.map_some,h.eval U]) (fun a w h=>by rw[Option.map_some,h.eval U]) U U (by omega) (by omega) (by simp))<|Lo U U (eV (i:=i.toNat+(l.length-j.toNat)) z9g zth U U (by omega) (Vn (enc:=xP) (sz:=2) (z0:=((⟨0,0⟩:z7):z7)) (fun _=>U) (by decide) U iP) .here U)<|Q0n<|B2n U<|WC.ret<|Li results78 (.tmp U .nil)<|fun w hw=>?_)
  rw[iS]
  refine⟨some ⟨b,0,none⟩,cap,xJ U,trivial,?_⟩
  have h5:=Hp.rowShort (m:=l.length) (i:=i.toNat+(l.length-j.toNat)) (R:=[]) .here (by omega) hw
  have e1:(l.flatMap xP).take (i.toNat*2)=(l.take i.toNat).flatMap xP:=lU (enc:=xP) (sz:=2) (fun _=>U) l i.toNat (by omega)
  have e2:(l.flatMap xP).drop (j.toNat*2)=(l.drop j.toNat).flatMap xP:=d8 (enc:=xP) (sz:=2) (fun _=>U) l j.toNat (by omega)
  have e3:((l.take i.toNat++l.drop j.toNat).flatMap xP).length=(i.toNat+(l.length-j.toNat))*2:=by rw[sm (sz:=2) (fun _=>U),iS]
  rw[e1,e2,<- List.flatMap_append,<- e3,List.take_left,List.take_left] at h5
  exact h5.sub<|.cons .here .nil
def kb(b:List z7)(e:List (List za))(c:List (z7×Int))(d:List z7)(f:(List z7)->(List z7)->(List (z7×Int))->Option (List z7×Int))(g:Option (List z7×Int)):Nat->Int->Option (List z7×Int)
 | 0,_=>none
 | h+1,a=>if decide (a<b.length) then chk (0<=a/\a<b.length) ((vf e (⟨(nth b a).ya,(nth b a).fQ⟩:z7) c).bind fun i=>if !i then chk ((((d++([(⟨(nth b a).ya,(nth b a).fQ⟩:z7)]:List z7)).length:Nat):Int)*16<=140737488355328/\(((d++([(⟨(nth b a).ya,(nth b a).fQ⟩:z7)]:List z7)).length:Nat):Int)<=4611686018427387904) ((rW b a (i64 (a+1))).bind fun j=>f j (d++([(⟨(nth b a).ya,(nth b a).fQ⟩:z7)]:List z7)) (xT c (⟨(nth b a).ya,(nth b a).fQ⟩:z7) (i64 ((xx c (⟨(nth b a).ya,(nth b a).fQ⟩:z7) 0)+1)))) else kb b e c d f g h (i64 (a+1))) else g
def kc(a:List (List za))(b:(List z7)->Option (List z7×Int)):Nat->(List z7)->(List z7)->(List (z7×Int))->Option (List z7×Int)
 | 0,_,_,_=>none
 | e+1,c,d,f=>if decide ((c.length:Int)>0) then Yp (fun(g:List z7) (h:List z7) (i:List (z7×Int))=>kc a b e g h i) fun j=>g8 (some (([]:List z7),351)) fun k=>kb c a f d j k xC 0 else b d
def mm(a:List (List za)):Option (List z7×Int):=
 (uN a).bind fun b=>vk (fun(c:List z7)=>some (c,0)) fun d=>kc a d xC b ([]:List z7) ([]:List (z7×Int))
theorem bR(Z:Zp)(K:Option Addr)(L:Nat)(u:List (List za))(r:List z7×Int)(h:mm u=some r)(w₀:World)(hz:PZ [] w₀ Z)(M:ZS Z 1 (qt Z) K L u):
  Calls Tryz.prog 42 #[vs K u.length L] w₀ fun e w'=>∃ N:Option Addr,∃ O:Nat,e = .returned (.tuple #[vs N r.1.length O,vi r.2])/\True/\Hp [] w₀ w' [row (vs N r.1.length O) 121 2 (r.1.flatMap xP)]:=by
 unfold mm at h
 refine L9 func42 ntmps42 ?_
 refine B2n U<|WC.scope<|WC.b<|bK h fun ap T h=>D1q U<|WL.jk (dd:=11) U U U (zb call73<|.cons U .nil) .nil (cc hz .nil fun w pz ho=>Y9 _ _ _ _ _ T w pz M) ?_
 rintro V W _
 refine Q1n U<|WC.b<|Ld (Lg 12 (jN (ga xP)<|Value.int .i64) fun q _=>Lg 5 (xG (cs:=[.map none]) zWl U) fun x _=>Lo U U (xz zWm U U U .here U U U)<|Q0n<|B1n U<|WC.b<|WC.label<|Lb ?_)
 refine jK1 h fun P X h=>Md (fun(m:List z7) (y:Option Addr) (z:Nat)=>(P m=some r)) (fun m y z=>[(6,vs y m.length z)]) (fun m y z=>[row (vs y m.length z) 121 2 (m.flatMap xP)]) ?_ ?_
 ·let A:Value:=(vs K u.length L);refine WC.block<|WC.nilRow 121 2<|WC.l6 (fun(H:Nat) (a:List z7) (c:List z7) (d:List (z7×Int)) (s:Option Addr) (n:Nat) (o:Option Addr) (p:Nat)=>(kc u P H a c d=some r)) (fun H a c d s n o p=>[(0,A),(4,vs s a.length n),(5,vp x),(6,vs o c.length p)]) (fun H a c d s n o p=>[row (vs s a.length n) 121 2 (a.flatMap xP),row (vs o c.length p) 121 2 (c.flatMap xP),stb x 117 [(.map<|some q)],xB q (ga xP) vI d]) (fun H a c d s n o p=>H) ⟨xC,ap,([]:List z7),([]:List (z7×Int)),V,W,none,0⟩ h (.q U) (.s4 .h3 .here .here .here) ?_
  rintro(_|aq) a c d s n o p h;·cases h
  rw[kc] at h
  refine WC.b<|B1q U<|Le 14 (xK underlying112 U)<|Q1n U<|Lk U h (fun Y h=>?_)<|fun Y h=>?_
  ·refine WC.skip<|Lb<|jK3 h fun Q aa h=>WC.mid7 (fun(f:List z7) (g:List z7) (t:List (z7×Int)) (B:Option Addr) (E:Nat) (F:Option Addr) (G:Nat)=>(Q f g t=some r)) (fun f g t B E F G=>[(0,A),(4,vs B f.length E),(5,vp x),(6,vs F g.length G)]) (fun f g t B E F G=>[row (vs B f.length E) 121 2 (f.flatMap xP),row (vs F g.length G) 121 2 (g.flatMap xP),stb x 117 [(.map<|some q)],xB q (ga xP) vI t]) ?_ ?_
   ·refine WC.block<|jK0 h fun R ab h=>L7 (R=some r) ([]) ([]) ?_ ?_
    ·let C:Value:=(vs s a.length n);let D:Value:=(vs o c.length p);refine B1q U<|Le 17 (xK underlying112 U)<|Q1n U<|WC.block<|L6 (fun(I:Nat) (b:Int)=>(kb a u d c Q R I b=some r)) (fun I b=>[(0,A),(4,C),(5,vp x),(6,D),(16,C),(17,vi (a.length:Int)),(18,vi b)]) (fun I b=>[row C 121 2 (a.flatMap xP),row D 121 2 (c.flatMap xP),stb x 117 [(.map<|some q)],xB q (ga xP) vI d]) (fun I b=>I) ⟨xC,0⟩ h (.q U) (.a4) ?_
     rintro(_|ar) b h;·cases h
     rw[kb] at h
     refine B1n U<|WC.b<|Lk U h (fun ad h=>?_)<|fun ad h=>?_
     ·refine WC.skip<|Lb<|WC.b<|WC.block<|WC.b<|cK h fun J h=>D1q U<|WL.know (fun w hw=>Hp.vB .here hw (by intro iT;have:=J;rw[iT] at this;omega)) ?_
      rintro⟨ae,rfl⟩
      refine Le 21 (w7 z9g U U J.1 J.2 vN)<|Le 22 (wu (cs:=(xP<|nth a b)) z7b U U<|g5 .here<|vt (enc:=xP) (l:=a) (i:=b) (sz:=2) (fun _=>U) J.1 J.2) (Lg 8 (xG (cs:=[vi 0,vi 0]) zth U) fun au _=>La U<|Lo U U (xz zwZ U U U .here U U U)<|Q0n<|WC.b ?_)
      refine bK h fun ax af h=>D1q U<|Le 24 (wC<|L8 (l:=[.tmp 8,.tmp 5])<|.r2 U U)<|Lp 25 (zb call50<|.r2 U U) (.cons .h4 .nil) (sc hz (.cons .h4 .nil) (.s2 .here .h2) fun w pz ho la=>uP _ _ _ _ _ _ _ _ _ _ af w pz ((M.mono<|zl).weak (fun _ _ h=>wv zl h)) ((la _ (.head _) _).stb) ((la _ (.tail _<|.head _) _).stb) ho)<|Q2n U<|B1n U<|Lk U h (fun ag h=>?_)<|fun ag h=>?_
      ·refine WC.b<|Lz (fun i=>[4,6].contains i) [nZ q (ga xP) vI (⟨(nth a b).ya,(nth a b).fQ⟩:z7) (0:Int) (xx d (⟨(nth a b).ya,(nth a b).fQ⟩:z7) 0)] U<|Lh 0 28 U (xl zti U<|xt .h4 U)<|Lh 1 29 U (xw z7b U (xy .h1) U)<|Mb 2 30 U (wB.wk (.cons .here .nil)<|.any U (fun _ h=>sr h) .nil) (Yv (k:=(⟨(nth a b).ya,(nth a b).fQ⟩:z7)) (dflt:=(0:Int)) zj8 underlying117 qS U U U .here)<|Lf 3 31 U (tY U U U)<|WD.oldQ (i:=4) (dd:=32) U (by kernel_rfl) U U U U (Qg (k:=(⟨(nth a b).ya,(nth a b).fQ⟩:z7)) (dflt:=(0:Int)) zj8 underlying117 qS U U U .here) (fun _=>(wB.wk (.cons .here .nil)<|.any U (fun _ h=>QY h) .nil)) ?_
       rintro av _
       refine Lf 5 33 U (te U U)<|WD.jD (i:=6) U (by kernel_rfl) U U U (by kernel_rfl) (X0 (k:=(⟨(nth a b).ya,(nth a b).fQ⟩:z7)) (v:=i64 ((xx d (⟨(nth a b).ya,(nth a b).fQ⟩:z7) 0)+1)) U U U U .here)<|WD.done (by kernel_rfl)<|Lb<|WC.b<|cK h fun ah h=>D1q U<|Le 35 (xw z7b U (xy .h1) U) (Lg 36 (xU (cs:=([(⟨(nth a b).ya,(nth a b).fQ⟩:z7)]:List z7).flatMap xP) z9g (Lq (l:=[.tmp 35]) (.cons U .nil) [0]) (fun _=>by kernel_rfl) U (by unfold maxLen;omega)) fun aw _=>WL.fA 37 (vT (enc:=xP) (l1:=c) (l2:=([(⟨(nth a b).ya,(nth a b).fQ⟩:z7)]:List z7)) z9g U U .h4 (fun _=>U) U U (vL .here) (qR iP _) ah) ?_)
       rintro⟨ai,aj⟩ _
       refine Q1n U<|WC.b<|bK h fun S al h=>Ld<|La U<|La U<|La U<|La U<|WL.jk (dd:=42) U U U (zb call78<|.r3 U U U) (.cons .h4 .nil) (cc hz (.cons .h4 .nil) fun w pz ho=>ak (Z:=_) (ao:=(some ⟨ae,0,none⟩)) (cap:=n) (l:=a) (i:=b) (j:=(i64 (b+1))) (r:=S) w pz  al ho) ?_
       rintro am an _
       exact Q1n U<|WC.exit<|WX.l5 U<|Lm<|Lm<|WX.l5 U<|Lm<|Lv<|Ln ⟨S,c++([(⟨(nth a b).ya,(nth a b).fQ⟩:z7)]:List z7),(xT d (⟨(nth a b).ya,(nth a b).fQ⟩:z7)<|i64 ((xx d (⟨(nth a b).ya,(nth a b).fQ⟩:z7) 0)+1)),am,an,ai,aj⟩ h (.q U)<|.s4 .here .here .h3 .h1
      ·exact WC.skip<|Lt<|Lb<|D2q U<|WL.nil<|WX.round ⟨ar,i64 (b+1)⟩ h (Nat.lt_succ_self _) (.q U)<|.s4 .h2 .h2 .h2 .here
     ·exact WC.exit<|Lm<|Lm<|Lv<|Ln () h .nil .nil
    ·rintro  h
     replace h:=ab.symm.trans h
     refine B2n U<|WC.ret<|Lu<|Ll<|Ll<|Lu<|Ll<|WX.n4<|WX.nilRow 121 2 ?_
     obtain rfl:=oJ h
     exact Li results42 (.tmp U<|.tmp U .nil)<|fun w hw=>⟨none,0,wV U U,trivial,hw.sub (.cons .here .nil)⟩
   ·rintro f g t B E F G h
    replace h:=(aa f g t).symm.trans h
    exact WX.round ⟨aq,f,g,t,B,E,F,G⟩ h (Nat.lt_succ_self _) (.q U)<|.a4
  ·exact WC.exit<|Lm<|Lm<|Lv<|Ln ⟨c,o,p⟩ h (.cons U .nil)<|.cons .h1 .nil
 ·rintro m y z h
  replace h:=(X m).symm.trans h
  refine B3n U<|WC.ret<|WX.n4 ?_
  obtain rfl:=oJ h
  exact Li results42 (.tmp U<|.tmp U .nil)<|fun w hw=>⟨y,z,wV U U,trivial,hw.sub (.cons .here .nil)⟩
def gi(b:List z7×Int)(d:(List ye)->Option (List ye×Int)):Nat->(List ye)->Int->Option (List ye×Int)
 | 0,_,_=>none
 | e+1,c,a=>if decide (a<b.1.length) then chk (0<=a/\a<b.1.length) (chk ((((c++([({(nth b.1 a) with yf:=0,fT:=0}:ye)]:List ye)).length:Nat):Int)*32<=140737488355328/\(((c++([({(nth b.1 a) with yf:=0,fT:=0}:ye)]:List ye)).length:Nat):Int)<=4611686018427387904) (gi b d e (c++([({(nth b.1 a) with yf:=0,fT:=0}:ye)]:List ye)) (i64 (a+1)))) else d c
def f7(c:zi)(d:Int)(a:List (List za)):Option (List ye×Int):=
 (kT c d a).bind fun e=>if !e then some (([]:List ye),310) else(mm a).bind fun b=>vk (fun(f:List ye)=>some (f,b.2)) fun g=>gi b g xC ([]:List ye) 0
theorem X2(Z:Zp)(p:Option Addr)(q:Nat)(s:Option Addr)(t:Nat)(u:Option Addr)(x:Nat)(y:Option Addr)(z:Nat)(B:Option Addr)(C:Nat)(D:Option Addr)(E:Nat)(F:Option Addr)(G:Nat)(H:Option Addr)(I:Nat)(K:Option Addr)(L:Nat)(a:zi)(M:Int)(J:List (List za))(r:List ye×Int)(h:f7 a M J=some r)(w₀:World)(hz:PZ [] w₀ Z)(R:ZS Z 4 (vU Z) p q a.fM)(S:ZS Z 4 (qr Z) s t a.yc)(T:ZS Z 4 (rq jm) u x a.fS)(V:ZS Z 4 (rq qm) y z a.fK)(W:ZS Z 7 (qK Z) B C a.yd)(X:ZS Z 5 (rq qI) D E a.fH)(Y:ZS Z 3 (qs Z) F G a.fU)(aa:ZS Z 4 (rq qJ) H I a.yb)(N:ZS Z 1 (qt Z) K L J):
  Calls Tryz.prog 24 #[.agg #[vs p a.fM.length q,vs s a.yc.length t,vs u a.fS.length x,vs y a.fK.length z,vs B a.yd.length C,vs D a.fH.length E,vs F a.fU.length G,vs H a.yb.length I],vi M,vs K J.length L] w₀ fun e w'=>∃ O:Option Addr,∃ P:Nat,e = .returned (.tuple #[vs O r.1.length P,vi r.2])/\True/\Hp [] w₀ w' [row (vs O r.1.length P) 37 4 (r.1.flatMap xY)]:=by
 unfold f7 at h
 refine Me func24 ntmps24 ?_
 refine WC.b<|Ld (Lg 3 (xO (cs:=[vs p a.fM.length q,vs s a.yc.length t,vs u a.fS.length x,vs y a.fK.length z,vs B a.yd.length C,vs D a.fH.length E,vs F a.fU.length G,vs H a.yb.length I]) U U) fun an _=>Q2n U<|WC.b<|WC.b ?_)
 refine bK h fun ar ab h=>Ld<|Le 13 (xw z1j U (xy .here) U)<|Q2q U<|Lp 16 (zb call22<|.r3 U U U) .nil (cc hz .nil fun w pz ho=>sd _ _ _ _ _ _ _ _ _ _ _ _ _ _ _ _ _ _ _ _ _ _ _ ab w pz R S T V W X Y aa N)<|Q1n U<|Lk U h (fun ad h=>?_)<|fun ad h=>?_
 ·refine B2n U<|WC.ret<|Ll<|WX.nilRow 37 4 ?_
  obtain rfl:=oJ h
  exact Li results24 (.tmp U<|.tmp U .nil)<|fun w hw=>⟨none,0,wV U U,trivial,hw.sub (.cons .here .nil)⟩
 ·refine WC.skip<|Lb<|WC.b<|bK h fun c ae h=>D1q U<|WL.jk (dd:=20) U U U (zb call42<|.cons U .nil) .nil (cc hz .nil fun w pz ho=>bR _ _ _ _ _ ae w pz N) ?_
  rintro ak al _
  refine Q5n U<|B1n U<|jK1 h fun Q af h=>Md (fun(f:List ye) (k:Option Addr) (m:Nat)=>(Q f=some r)) (fun f k m=>[(9,vi c.2),(10,vs k f.length m)]) (fun f k m=>[row (vs k f.length m) 37 4 (f.flatMap xY)]) ?_ ?_
  ·let A:Value:=(vs ak c.1.length al);refine B1q U<|Le 24 (xK underlying112 U)<|Q1n U<|WC.block<|WC.nilRow 37 4<|WC.fk (fun(n:Nat) (d:List ye) (b:Int) (g:Option Addr) (j:Nat)=>(gi c Q n d b=some r)) (fun n d b g j=>[(9,vi c.2),(10,vs g d.length j),(23,A),(24,vi (c.1.length:Int)),(25,vi b)]) (fun n d b g j=>[row (vs g d.length j) 37 4 (d.flatMap xY),row A 121 2 (c.1.flatMap xP)]) (fun n d b g j=>n) ⟨xC,([]:List ye),0,none,0⟩ h (.q U) (.a2) ?_
   rintro(_|am) d b g j h;·cases h
   rw[gi] at h
   refine B1n U<|WC.b<|Lk U h (fun ag h=>?_)<|fun ag h=>?_
   ·refine WC.skip<|Lb<|WC.b<|WC.block<|WC.b<|cK h fun o h=>Ld<|WL.know (fun w hw=>Hp.vB .h1 hw (by intro iT;have:=o;rw[iT] at this;omega)) ?_
    rintro⟨ao,rfl⟩
    refine Le 27 (w7 z9g U U o.1 o.2 vN)<|Le 28 (wu (cs:=(xP<|nth c.1 b)) z7b U U<|g5 .h1<|vt (enc:=xP) (l:=c.1) (i:=b) (sz:=2) (fun _=>U) o.1 o.2) (Lg 12 (xG (cs:=[vi 0,vi 0]) zth U) fun ap _=>Lo U U (xz zwZ U U U .here U U U)<|Q0n ?_)
    refine cK h fun ah h=>D1q U<|Le 30 (xk pH U U)<|Le 31 (xl xu U<|xt .here U)<|Le 32 (xk ld U U)<|Le 33 (xl xu U<|xt .here U)<|Le 34 (w3 (v:=(.agg #[(vi<|(nth c.1 b).ya),(vi<|(nth c.1 b).fQ),vi 0,vi 0])) (Lq (l:=[.tmp 31,.tmp 33]) (.r2 U U) [0,1]) (fun _=>by kernel_rfl)) (Lg 35 (xU (cs:=([({(nth c.1 b) with yf:=0,fT:=0}:ye)]:List ye).flatMap xY) z1r (Lq (l:=[.tmp 34]) (.cons U .nil) [0]) (fun _=>by kernel_rfl) U (by unfold maxLen;omega)) fun aq _=>WL.fA 36 (vT (enc:=xY) (l1:=d) (l2:=([({(nth c.1 b) with yf:=0,fT:=0}:ye)]:List ye)) z1r U U .h2 (fun _=>U) U U (vL .here) (qR tE _) ah) ?_)
    rintro⟨ai,aj⟩ _
    exact La U<|WL.nil<|Lt<|Lb<|D2q U<|WL.nil<|WX.round ⟨am,d++([({(nth c.1 b) with yf:=0,fT:=0}:ye)]:List ye),i64 (b+1),ai,aj⟩ h (Nat.lt_succ_self _) (.q U)<|.s2 .here .h2
   ·exact WC.exit<|Lm<|Lm<|Lv<|Ln ⟨d,g,j⟩ h (.q U)<|.cons .here .nil
  ·rintro f k m h
   replace h:=(af f).symm.trans h
   refine B4n U<|WC.ret ?_
   obtain rfl:=oJ h
   exact Li results24 (.tmp U<|.tmp U .nil)<|fun w hw=>⟨k,m,wV U U,trivial,hw.sub (.cons .here .nil)⟩
def jM(b:Int)(c:Option Bool):Nat->Int->Option Bool
 | 0,_=>none
 | d+1,a=>if decide (a<=12800) then if decide (a=b) then some true else jM b c d (i64 (a*2)) else c
def rh(a:Int):Option Bool:=
 g8 (some false) fun b=>jM a b xC 100
theorem V7(Z:Zp)(c:Int)(r:Bool)(h:rh c=some r)(w₀:World)(hz:PZ [] w₀ Z):
  RC 41 #[vi c] w₀ (.bool r) [] []:=by
 unfold rh at h
 refine L9 func41 ntmps41 ?_
 refine B1n U<|jK0 h fun d e h=>L7 (d=some r) ([]) ([]) ?_ ?_
 ·refine B1n U<|WC.block<|L6 (fun(b:Nat) (a:Int)=>(jM c d b a=some r)) (fun b a=>[(0,vi c),(3,vi a)]) (fun b a=>[]) (fun b a=>b) ⟨xC,100⟩ h (.q U) .nil ?_
  rintro(_|i) a h;·cases h
  rw[jM] at h
  refine WC.b<|B2n U<|Lk U h (fun f h=>?_)<|fun f h=>?_
  ·refine WC.skip<|Lb<|WC.b<|WC.block<|B3n U<|Lk U h (fun g h=>?_)<|fun g h=>?_
   ·refine B1n U<|WC.ret<|Lu<|Ll<|Ll<|Lu<|Ll ?_
    obtain rfl:=oJ h
    exact Li results41 (.tmp U .nil)<|fun w hw=>⟨xJ U,hw.sub .nil⟩
   ·exact WC.skip<|Lt<|Lb<|D3q U<|WL.nil<|WX.round ⟨i,i64 (a*2)⟩ h (Nat.lt_succ_self _) (.q U) .nil
  ·exact WC.exit<|Lm<|Lm<|Lv<|Ln () h .nil .nil
 ·rintro  h
  replace h:=e.symm.trans h
  refine B1n U<|WC.ret ?_
  obtain rfl:=oJ h
  exact Li results41 (.tmp U .nil)<|fun w hw=>⟨xJ U,hw.sub .nil⟩
def jp(a:ym):Option Bool:=
 (rh a.yo).bind fun b=>some (((!b)||(decide (a.yn<1)))||(decide (a.yn>72)))
theorem eP(Z:Zp)(b:Option Addr)(c:Nat)(a:ym)(r:Bool)(h:jp a=some r)(w₀:World)(hz:PZ [] w₀ Z)(i:ZS Z 3 (rq lZ) b c a.yy):
  RC 40 #[.agg #[.string a.yq,.string a.yi.yp,.string a.yi.yt,.string a.yi.yu,vi a.yo,vi a.yn,vs b a.yy.length c]] w₀ (.bool r) [] []:=by
 unfold jp at h
 refine L9 func40 ntmps40 ?_
 refine WC.b<|Ld (Lg 1 (xO (cs:=[.string a.yq,.string a.yi.yp,.string a.yi.yt,.string a.yi.yu,vi a.yo,vi a.yn,vs b a.yy.length c]) U U) fun j _=>Q1n U<|WC.b ?_)
 refine bK h fun d e h=>Ld<|Le 3 (xk oY U U)<|Le 4 (xl xu U<|xt .here U)<|Lp 5 (zb call41<|.cons U .nil) .nil (cc hz .nil fun w pz ho=>V7 _ _ _ e w pz )<|Q2q U<|Lx false 3 7 (B:=(!d)||(decide (a.yn<1))) U U U U U U (fun h=>(kx h).symm) (fun _ f=>?_) ?_
 ·exact Le 8 (xk mY U U)<|Le 9 (xl xu U<|xt .here U)<|Q2q U<|Ly (ky f) U U .all
 refine La U<|Lx false 3 12 (B:=((!d)||(decide (a.yn<1)))||(decide (a.yn>72))) U U U U U U (fun h=>(kx h).symm) (fun _ g=>?_) ?_
 ·exact Le 13 (xk mY U U)<|Le 14 (xl xu U<|xt .here U)<|Q2q U<|Ly (ky g) U U .all
 refine Q1n U<|WC.ret ?_
 obtain rfl:=oJ h
 exact Li results40 (.tmp U .nil)<|fun w hw=>⟨xJ U,hw.sub .nil⟩
def wE(b:List ym)(zc9:ym->Option Bool)(c:Option Int):Nat->Int->Option Int
 | 0,_=>none
 | d+1,a=>if decide (a<b.length) then chk (0<=a/\a<b.length) ((zc9 (⟨(nth b a).yq,(⟨((nth b a).yi).yp,((nth b a).yi).yt,((nth b a).yi).yu⟩:yv),(nth b a).yo,(nth b a).yn,(nth b a).yy⟩:ym)).bind fun e=>if e then some a else wE b zc9 c d (i64 (a+1))) else c
def jG(a:List ym)(zc9:ym->Option Bool):Option Int:=
 g8 (some (-1)) fun b=>wE a zc9 b xC 0
theorem rz(Z:Zp)(d:Option Addr)(g:Nat)(zmf:FuncId)(zu4:List Value)(b:List ym)(zc9:ym->Option Bool)(r:Int)(h:jG b zc9=some r)(w₀:World)(hz:PZ [] w₀ Z)(j:ZS Z 7 (qK Z) d g b)(k:∀ args w,(callFunc zmf args).run Tryz.prog w = .ok (.enter zmf args) w)(m:∀ w:World,PZ [] w Z->∀(x0:ym) (kA:Option Addr) (iu:Nat) (r:Bool),ZS Z 3 (rq lZ) kA iu x0.yy->zc9 x0=some r->Calls Tryz.prog zmf (([.agg #[.string x0.yq,.string x0.yi.yp,.string x0.yi.yt,.string x0.yi.yu,vi x0.yo,vi x0.yn,vs kA x0.yy.length iu]]:List Value)++zu4).toArray w fun e w'=>e = .returned (.bool r)/\Hp [] w w' []):
  RC 72 #[vs d b.length g,.func (.func zmf) #[] (zu4).toArray] w₀ (vi r) [] []:=by
 unfold jG at h
 refine L3 func72 ntmps72 ?_
 refine B1n U<|jK0 h fun i n h=>L7 (i=some r) ([]) ([]) ?_ ?_
 ·refine B1q U<|Le 7 (xK underlying26 U)<|Q1n U<|WC.block<|L6 (fun(c:Nat) (a:Int)=>(wE b zc9 i c a=some r)) (fun c a=>[(0,vs d b.length g),(1,.func (.func zmf) #[] (zu4).toArray),(7,vi (b.length:Int)),(8,vi a)]) (fun c a=>[]) (fun c a=>c) ⟨xC,0⟩ h (.q U) .nil ?_
  rintro(_|y) a h;·cases h
  rw[wE] at h
  refine B1n U<|WC.b<|Lk U h (fun o h=>?_)<|fun o h=>?_
  ·refine WC.skip<|Lb<|WC.b<|WC.block<|B2n U<|WC.b<|cK h fun p h=>bK h fun z q h=>D3q U<|L0 (dd:=14) U U (Z:=Z) (Pr:=(qK Z)) zbT U U j p ?_
   rintro A B s C ⟨t,u,rfl,v⟩
   refine Le 15 (xw zx1 U (vQ hz.pv s) U)<|Lp 16 (qW (l:=[.tmp 15]) (f:=zmf) (caps:=zu4) k U<|.cons U .nil) .nil (fun w hw=>m w (hz.now hw) (⟨(nth b a).yq,(⟨((nth b a).yi).yp,((nth b a).yi).yt,((nth b a).yi).yu⟩:yv),(nth b a).yo,(nth b a).yn,(nth b a).yy⟩:ym) t u z v q)<|Q0n<|Lk U h (fun x h=>?_)<|fun x h=>?_
   ·refine B2n U<|WC.ret<|Lu<|Ll<|Ll<|Lu<|Ll ?_
    obtain rfl:=oJ h
    exact Li results72 (.tmp U .nil)<|fun w hw=>⟨xJ U,hw.sub .nil⟩
   ·exact WC.skip<|Lt<|Lb<|D2q U<|WL.nil<|WX.round ⟨y,i64 (a+1)⟩ h (Nat.lt_succ_self _) (.q U) .nil
  ·exact WC.exit<|Lm<|Lm<|Lv<|Ln () h .nil .nil
 ·rintro  h
  replace h:=n.symm.trans h
  refine B1n U<|WC.ret ?_
  obtain rfl:=oJ h
  exact Li results72 (.tmp U .nil)<|fun w hw=>⟨xJ U,hw.sub .nil⟩
def vV(a:List ym)(zoW:ym->Option Bool):Option Bool:=
 (jG a zoW).bind fun b=>some (decide (b>=0))
theorem sL(Z:Zp)(b:Option Addr)(c:Nat)(zoX:FuncId)(zxL:List Value)(a:List ym)(zoW:ym->Option Bool)(r:Bool)(h:vV a zoW=some r)(w₀:World)(hz:PZ [] w₀ Z)(d:ZS Z 7 (qK Z) b c a)(f:∀ args w,(callFunc zoX args).run Tryz.prog w = .ok (.enter zoX args) w)(g:∀ w:World,PZ [] w Z->∀(x0:ym) (kA:Option Addr) (iu:Nat) (r:Bool),ZS Z 3 (rq lZ) kA iu x0.yy->zoW x0=some r->Calls Tryz.prog zoX (([.agg #[.string x0.yq,.string x0.yi.yp,.string x0.yi.yt,.string x0.yi.yu,vi x0.yo,vi x0.yn,vs kA x0.yy.length iu]]:List Value)++zxL).toArray w fun e w'=>e = .returned (.bool r)/\Hp [] w w' []):
  RC 39 #[vs b a.length c,.func (.func zoX) #[] (zxL).toArray] w₀ (.bool r) [] []:=by
 unfold vV at h
 refine L3 func39 ntmps39 ?_
 refine B1n U<|WC.b<|bK h fun j i h=>D2q U<|Lp 7 (zb call72<|.r2 U U) .nil (cc hz .nil fun w pz ho=>rz _ _ _ (zmf:=zoX) (zu4:=zxL) _ (zc9:=zoW) _ i w pz d f g)<|Q2n U<|WC.ret ?_
 obtain rfl:=oJ h
 exact Li results39 (.tmp U .nil)<|fun w hw=>⟨xJ U,hw.sub .nil⟩
def gv(a:za)(b:z7):Option Bool:=
 (gM a).bind fun c=>some (decide (c=b))
theorem iV(Z:Zp)(e:Addr)(c:za)(d:z7)(r:Bool)(h:gv c d=some r)(w₀:World)(hz:PZ [] w₀ Z)(f:ZC Z e [vi d.ya,vi d.fQ]):
  RC 117 #[.agg #[vi c.ya,vi c.fX,vi c.fQ],vq e] w₀ (.bool r) [] []:=by
 unfold gv at h
 refine L3 func117 ntmps117 ?_
 refine WC.b<|Ld (Lg 2 (xO (cs:=[vi c.ya,vi c.fX,vi c.fQ]) U U) fun j _=>Q1n U<|WC.b ?_)
 refine bK h fun i g h=>Lz nc [] U<|Lh 0 4 U (xw z5b U (xy .here) U)<|L5 1 5 U (zb call60<|.cons U .nil) (cc hz .nil fun w pz ho=>uj _ _ _ g w pz )<|Lh 2 6 U (xw z7b U (vQ hz.pv f) U)<|Lf 3 7 U (pw (enc:=xP) (a:=i) (b:=d) zx0 U U)<|Lf 4 3 U (q_z U)<|WD.done (by kernel_rfl)<|Lb<|WC.ret ?_
 obtain rfl:=oJ h
 exact Li results117 (.tmp U .nil)<|fun w hw=>⟨xJ U,hw.sub .nil⟩
def wR(a:List za)(zoZ:za->Option Bool):Option Bool:=
 (wr a zoZ).bind fun b=>some (decide (b>=0))
theorem tr(Z:Zp)(b:Option Addr)(c:Nat)(zp0:FuncId)(zxM:List Value)(a:List za)(zoZ:za->Option Bool)(r:Bool)(h:wR a zoZ=some r)(w₀:World)(hz:PZ [] w₀ Z)(d:ZS Z 3 (rq vw) b c a)(f:∀ args w,(callFunc zp0 args).run Tryz.prog w = .ok (.enter zp0 args) w)(g:∀ w:World,PZ [] w Z->∀(x0:za) (r:Bool),zoZ x0=some r->Calls Tryz.prog zp0 (([.agg #[vi x0.ya,vi x0.fX,vi x0.fQ]]:List Value)++zxM).toArray w fun e w'=>e = .returned (.bool r)/\Hp [] w w' []):
  RC 75 #[vs b a.length c,.func (.func zp0) #[] (zxM).toArray] w₀ (.bool r) [] []:=by
 unfold wR at h
 refine L3 func75 ntmps75 ?_
 refine B1n U<|WC.b<|bK h fun j i h=>D2q U<|Lp 7 (zb call94<|.r2 U U) .nil (cc hz .nil fun w pz ho=>qZ _ _ _ (zdb:=zp0) (zjk:=zxM) _ (z9j:=zoZ) _ i w pz d f g)<|Q2n U<|WC.ret ?_
 obtain rfl:=oJ h
 exact Li results75 (.tmp U .nil)<|fun w hw=>⟨xJ U,hw.sub .nil⟩
def qU(a:Int):Option z1:=
 some (⟨a,1⟩:z1)
theorem mn(Z:Zp)(a:Int)(r:z1)(h:qU a=some r)(w₀:World)(hz:PZ [] w₀ Z):
  RC 80 #[vi a] w₀ (.agg #[vi r.fN,vi r.fD]) [] []:=by
 unfold qU at h
 refine L9 func80 ntmps80 ?_
 refine WC.b<|Ld (Lg 2 (xG (cs:=[vi 0,vi 0]) z1y U) fun b _=>Q0n<|B1q U<|Le 4 (w3 (v:=(.agg #[vi a,vi 1])) (Lq (l:=[.tmp 3,.const (vi 1)]) (.r2 U U) [0,1]) (fun _=>by kernel_rfl))<|Lo U U (xz zX U U U .here U U U)<|Q0n<|WC.ret ?_)
 obtain rfl:=oJ h
 exact Li results80 (.agg U zh U (xy .here) .nil)<|fun w hw=>⟨xJ U,hw.sub .nil⟩
def uo(a:Int):Option Int:=
 if decide (a<0) then some (u64 ((u64 (i64 (0-(i64 (a+1)))))+1)) else some (u64 a)
theorem oK(Z:Zp)(a:Int)(r:Int)(h:uo a=some r)(w₀:World)(hz:PZ [] w₀ Z):
  RC 166 #[vi a] w₀ (.int .u64 r) [] []:=by
 unfold uo at h
 refine L9 func166 ntmps166 ?_
 refine B1n U<|WC.b<|B2n U<|Lk U h (fun b h=>?_)<|fun b h=>?_
 ·refine B2q U<|Le 7 (Xd U U)<|Le 8 (rN underlying3 underlying212 U U)<|Q2n U<|WC.ret<|Ll ?_
  obtain rfl:=oJ h
  exact Li results166 (.tmp U .nil)<|fun w hw=>⟨xJ U,hw.sub .nil⟩
 ·refine WC.skip<|Lb<|B1q U<|Le 11 (rN underlying3 underlying212 U U)<|Q1n U<|WC.ret ?_
  obtain rfl:=oJ h
  exact Li results166 (.tmp U .nil)<|fun w hw=>⟨xJ U,hw.sub .nil⟩
def qD(b:Int->Option Int):Nat->Int->Int->Option Int
 | 0,_,_=>none
 | d+1,c,a=>if decide (a≠0) then chk ((a:Int)≠0) (qD b d a (Int.tmod c a)) else b c
def fo(a:Int)(b:Int):Option Int:=
 vk (fun(c:Int)=>some c) fun d=>qD d xC a b
theorem lm(Z:Zp)(e:Int)(f:Int)(r:Int)(h:fo e f=some r)(w₀:World)(hz:PZ [] w₀ Z):
  RC 165 #[.int .u64 e,.int .u64 f] w₀ (.int .u64 r) [] []:=by
 unfold fo at h
 refine L3 func165 ntmps165 ?_
 refine B1n U<|jK1 h fun g i h=>Ma (fun(c:Int)=>(g c=some r)) (fun c=>[(0,.int .u64 c)]) (fun c=>[]) ?_ ?_
 ·refine WC.block<|WC.sk (fun(d:Nat) (a:Int) (b:Int)=>(qD g d a b=some r)) (fun d a b=>[(0,.int .u64 a),(1,.int .u64 b)]) (fun d a b=>[]) (fun d a b=>d) ⟨xC,e,f⟩ h (.q U) .nil ?_
  rintro(_|l) a b h;·cases h
  rw[qD] at h
  refine WC.b<|B2n U<|Lk U h (fun j h=>?_)<|fun j h=>?_
  ·exact WC.skip<|Lb<|WC.block<|cK h fun k h=>Lz nc [] U<|Lf 0 7 U (q_m U)<|Lf 1 8 U (q_m U)<|Lf 2 9 U (q_m U)<|Lf 3 10 U (Xb U U k U)<|Lf 4 0 U (q_z U)<|Lf 5 1 U (q_z U)<|WD.done (by kernel_rfl)<|Lt<|WX.round ⟨l,b,Int.tmod a b⟩ h (Nat.lt_succ_self _) (.q U) .nil
  ·exact WC.exit<|Lm<|Lm<|Lv<|Ln a h (.cons U .nil) .nil
 ·rintro c h
  replace h:=(i c).symm.trans h
  refine B2n U<|WC.ret ?_
  obtain rfl:=oJ h
  exact Li results165 (.tmp U .nil)<|fun w hw=>⟨xJ U,hw.sub .nil⟩
def mw(e:Int)(c:Int):Option (z1×Int):=
 if decide (c=0) then some ((⟨0,0⟩:z1),2) else(uo e).bind fun b=>(uo c).bind fun d=>(fo b d).bind fun a=>chk ((a:Int)≠0) (if (decide ((u64 (Int.tdiv b a))>1073741824))||(decide ((u64 (Int.tdiv d a))>1073741824)) then some ((⟨0,0⟩:z1),3) else vk (fun(g:Int)=>some ((⟨g,i64 (u64 (Int.tdiv d a))⟩:z1),0)) fun f=>if (decide (e<0)) != (decide (c<0)) then f (i64 (0-(i64 (u64 (Int.tdiv b a))))) else f (i64 (u64 (Int.tdiv b a))))
theorem rX(Z:Zp)(c:Int)(d:Int)(r:z1×Int)(h:mw c d=some r)(w₀:World)(hz:PZ [] w₀ Z):
  RC 160 #[vi c,vi d] w₀ (.tuple #[.agg #[vi r.1.fN,vi r.1.fD],vi r.2]) [] []:=by
 unfold mw at h
 refine L3 func160 ntmps160 ?_
 refine WC.b<|Ld (Lg 4 (xG (cs:=[vi 0,vi 0]) z1y U) fun e _=>Q1n U<|WC.b<|B2n U<|Lk U h (fun k h=>?_)<|fun k h=>?_)
 ·refine B0q<|Le 12 (w3 (v:=(.agg #[vi 0,vi 0])) (Lq (l:=[]) .nil []) (fun _=>by kernel_rfl))<|Lo U U (xz zX U U U .here U U U)<|Q1n U<|WC.ret<|Ll ?_
  obtain rfl:=oJ h
  exact Li results160 (.agg U zh U (xy .here)<|.tmp U .nil)<|fun w hw=>⟨wV U U,hw.sub .nil⟩
 ·refine WC.skip<|Lb<|WC.b<|bK h fun f m h=>bK h fun g n h=>D1q U<|Lp 14 (zb call166<|.cons U .nil) .nil (cc hz .nil fun w pz ho=>oK _ _ _ m w pz )<|La U<|Lp 16 (zb call166<|.cons U .nil) .nil (cc hz .nil fun w pz ho=>oK _ _ _ n w pz )<|Q2n U<|WC.b<|bK h fun b o h=>D2q U<|Lp 19 (zb call165<|.r2 U U) .nil (cc hz .nil fun w pz ho=>lm _ _ _ _ o w pz )<|Q1n U<|WC.b<|cK h fun i h=>Lz nc [] U<|Lf 0 20 U (q_m U)<|Lf 1 21 U (q_m U)<|Lf 2 22 U (rM U U i U)<|Lf 3 23 U (q_m U)<|Lf 4 24 U (q_m U)<|Lf 5 25 U (rM U U i U)<|Lf 6 6 U (q_z U)<|Lf 7 7 U (q_z U)<|WD.done (by kernel_rfl)<|Lb<|WC.b<|WC.b<|Ld<|La U<|La U<|La U<|Lx false 2 28 (B:=(decide ((u64<|Int.tdiv f b)>1073741824))||(decide ((u64<|Int.tdiv g b)>1073741824))) U U U U U U (fun h=>(kx h).symm) (fun _ p=>?_) ?_
  ·exact La U<|La U<|La U<|Ly (ky p) U U .all
  refine Q0n<|Lk U h (fun q h=>?_)<|fun q h=>?_
  ·refine B0q<|Le 32 (w3 (v:=(.agg #[vi 0,vi 0])) (Lq (l:=[]) .nil []) (fun _=>by kernel_rfl))<|Lo U U (xz zX U U U .here U U U)<|Q1n U<|WC.ret<|Ll ?_
   obtain rfl:=oJ h
   exact Li results160 (.agg U zh U (xy .here)<|.tmp U .nil)<|fun w hw=>⟨wV U U,hw.sub .nil⟩
  ·let A:=(i64 (u64 (Int.tdiv f b)));let C:Value:=(vi (i64 (u64 (Int.tdiv g b))));refine WC.skip<|Lb<|B1q U<|Le 34 (rN underlying212 underlying3 U U)<|La U<|Le 36 (rN underlying212 underlying3 U U)<|Le 37 (w3 (v:=(.agg #[vi A,C])) (Lq (l:=[.tmp 34,.tmp 36]) (.r2 U U) [0,1]) (fun _=>by kernel_rfl))<|Lg 9 (xG (cs:=[vi 0,vi 0]) z1y U) ?_
   intro j _
   refine Lo U U (xz zX U U U .here U U U)<|Q0n<|jK1 h fun u s h=>Ma (fun(a:Int)=>(u a=some r)) (fun a=>[(4,vp e),(9,vp j)]) (fun a=>[stb e 175 [vi 0,vi 0],stb j 175 [vi a,C]]) ?_ ?_
   ·refine WC.b<|Ld<|La U<|La U<|La U<|La U<|Le 42 (GA underlying4 U U)<|Q0n<|Lk U h (fun t h=>?_)<|fun t h=>?_
    ·exact Ld<|Le 43 (xk qO U U)<|Le 44 (xl xu U<|xt .here U)<|Le 45 (Xd U U)<|Le 46 (xk qO U U)<|Lo U U (jF (ds:=[(vi<|i64 (0-A)),C]) rf U U U U U .here U U)<|WL.nil<|Ln (i64 (0-A)) h (.q U)<|.s2 .h1 .here
    ·exact WC.skip<|Ln A h (.q U)<|.s2 .h1 .here
   ·rintro a h
    replace h:=(s a).symm.trans h
    refine B0q<|Le 47 (xw zh U (xy .h1) U)<|Lo U U (xz zX U U U .here U U U)<|Q1n U<|WC.ret ?_
    obtain rfl:=oJ h
    exact Li results160 (.agg U zh U (xy .here)<|.tmp U .nil)<|fun w hw=>⟨wV U U,hw.sub .nil⟩
def kK(b:zi)(d:List (List za))(e:List (yh×z1))(f:List (z7×Int))(g:Int)(a:Int):Option z1:=
 chk (0<=a/\a<b.yd.length) ((mw ((nth b.yd a).yn) ((nth b.yd a).yo)).bind fun c=>some c.1)
theorem sX(Z:Zp)(g:Addr)(k:Option Addr)(l:Nat)(m:Option Addr)(n:Nat)(o:Option Addr)(p:Nat)(q:Option Addr)(s:Nat)(t:Option Addr)(u:Nat)(v:Option Addr)(x:Nat)(y:Option Addr)(z:Nat)(A:Option Addr)(B:Nat)(C:Option Addr)(D:Nat)(b:Nat)(c:Nat)(a:zi)(f:List (List za))(d:List (yh×z1))(e:List (z7×Int))(E:Int)(F:Int)(r:z1)(h:kK a f d e E F=some r)(w₀:World)(hz:Pz [xB b (ga qY) (ga xL) d,xB c (ga xP) vI e] w₀ Z)(M:ZS Z 4 (vU Z) k l a.fM)(N:ZS Z 4 (qr Z) m n a.yc)(O:ZS Z 4 (rq jm) o p a.fS)(P:ZS Z 4 (rq qm) q s a.fK)(G:ZS Z 7 (qK Z) t u a.yd)(Q:ZS Z 5 (rq qI) v x a.fH)(R:ZS Z 3 (qs Z) y z a.fU)(S:ZS Z 4 (rq qJ) A B a.yb)(T:ZS Z 1 (qt Z) C D f)(H:ZC Z g [vs k a.fM.length l,vs m a.yc.length n,vs o a.fS.length p,vs q a.fK.length s,vs t a.yd.length u,vs v a.fH.length x,vs y a.fU.length z,vs A a.yb.length B,vs C f.length D,.map (some b),.map (some c),vi E])(iq:Ho w₀ [xB b (ga qY) (ga xL) d,xB c (ga xP) vI e]):
  RF 121 #[vq g,vi F] w₀ (.agg #[vi r.fN,vi r.fD]) [xB b (ga qY) (ga xL) d,xB c (ga xP) vI e] [xB b (ga qY) (ga xL) d,xB c (ga xP) vI e]:=by
 unfold kK at h
 refine Mf func121 ntmps121 iq ?_
 refine WC.b<|Ld (Lg 4 (xG (cs:=[vi 0,vi 0]) z1y U) fun V _=>Q0n<|WC.b ?_)
 refine cK h fun I h=>bK h fun al J h=>Lz (fun i=>[23].contains i) [] U<|Lf 0 8 U (q_m U)<|Lf 1 9 U (wG U)<|Lf 2 10 U (xk uz U U)<|Lf 3 11 U (xk ma U U)<|Lh 4 12 U (xl z9f U<|xM hz.pv H U)<|Lf 5 13 U (q_m U)<|L2 (j:=6) (dd:=14) (by kernel_rfl) U zO zP U U (Z:=Z) (Pr:=(qK Z)) zbT U U G I ?_
 rintro W X K Y ⟨aa,ab,rfl,ad⟩
 refine Lf 7 15 U (xk mY U U)<|Lh 8 16 U (xl xu U<|xM hz.pv K U)<|Lf 9 17 U (q_m U)<|Lf 10 18 U (wG U)<|Lf 11 19 U (xk uz U U)<|Lf 12 20 U (xk ma U U)<|Lh 13 21 U (xl z9f U<|xM hz.pv H U)<|Lf 14 22 U (q_m U)<|L2 (j:=15) (dd:=23) (by kernel_rfl) U zO zP U U (Z:=Z) (Pr:=(qK Z)) zbT U U G I ?_
 rintro ae af L ag ⟨ah,ai,rfl,aj⟩
 refine Lf 16 24 U (xk oY U U)<|Lh 17 25 U (xl xu U<|xM hz.pv L U)<|L5 18 26 U (zb call160<|.r2 U U) (cc hz .nil fun w pz ho=>rX _ _ _ _ J w pz )<|Lf 19 7 U (q_m U)<|Lf 20 27 U (te U U)<|Lf 21 28 U (te U U) (WD.new (i:=22) (dd:=5) U (by kernel_rfl) U U U (xG (cs:=[vi 0,vi 0]) z1y U) (fun h'=>absurd h' (by decide)) fun ak _=>WD.forced0 (i:=23) U (by kernel_rfl) U U U (wB.of .nil) (xz zX U U U .here U U U)<|Lf 24 6 U (q_z U)<|WD.done (by kernel_rfl)<|Lb<|B0q<|Le 29 (xw zh U (xy .here) U)<|Lo U U (xz zX U U U .h1 U U U)<|Q0n<|WC.ret ?_)
 obtain rfl:=oJ h
 exact Li results121 (.agg U zh U (xy .here) .nil)<|fun w hw=>⟨xJ U,hw.sub (.s2 .h2 .h2)⟩
def vR(a:z1):Option Bool:=
 (if (((decide (a.fD>=1))&&(decide (a.fD<=1073741824)))&&(decide (a.fN>=(-1073741824))))&&(decide (a.fN<=1073741824)) then(uo a.fN).bind fun b=>(uo a.fD).bind fun c=>(fo b c).bind fun d=>some (decide (d=1)) else some false).bind fun e=>some e
theorem ja(Z:Zp)(a:z1)(r:Bool)(h:vR a=some r)(w₀:World)(hz:PZ [] w₀ Z):
  RC 130 #[.agg #[vi a.fN,vi a.fD]] w₀ (.bool r) [] []:=by
 unfold vR at h
 refine L9 func130 ntmps130 ?_
 refine WC.b<|Ld (Lg 1 (xO (cs:=[vi a.fN,vi a.fD]) U U) fun c _=>Q1n U<|WC.b ?_)
 obtain⟨y,o,h⟩:=z8 h
 let D:Value:=(.bool ((decide (a.fD>=1))&&(decide (a.fD<=1073741824))));refine Lz nc [] U<|Lf 0 3 U (xk jq U U)<|Lh 1 4 U (xl xu U<|xt .here U)<|Lf 2 5 U (Xc U U)<|Lf 3 6 U (q_m U)<|Mc (fuel':=21) [(1,vp c),(2,.bool false),(6,(.bool<|decide (a.fD>=1))),(10,D)] (wl 29 (dn 8)) ?_<|fun p=>?_
 rotate_left
 ·rcases Bool.eq_false_or_eq_true (decide (a.fD>=1)) with hb' | hb'
  ·have d:=hb';clear hb'
   refine L4 (i:=6) U d<|Lf 4 7 U (xk jq U U)<|Lh 5 8 U (xl xu U<|xt .here U)<|Lf 6 9 U (Qa U U)<|Lf 7 10 U (qe U U)<|Lw (.cons .here .nil) ?_ p
   exact .r4 U U (zt<|Eq.symm d)<|zt<|vz d
  ·have e:=hb';clear hb'
   refine L4 (i:=6) U e<|Lj 4 7 U<|Lj 5 8 U<|Lj 6 9 U<|Lf 7 10 U (qf U U)<|Lw (.cons .here .nil) ?_ p
   exact .r4 U U (zt<|Eq.symm e)<|zt<|vy e
 let C:Value:=(.bool (((decide (a.fD>=1))&&(decide (a.fD<=1073741824)))&&(decide (a.fN>=(-1073741824)))));refine WD.d (bz 8 21) (by kernel_rfl)<|Lf 8 11 U (q_m U)<|Mc (fuel':=16) [(1,vp c),(2,.bool false),(11,D),(15,C)] (wl 29 (dn 13)) ?_<|fun q=>?_
 rotate_left
 ·rcases Bool.eq_false_or_eq_true ((decide (a.fD>=1))&&(decide (a.fD<=1073741824))) with hb' | hb'
  ·have f:=hb';clear hb'
   refine L4 (i:=11) U f<|Lf 9 12 U (xk qO U U)<|Lh 10 13 U (xl xu U<|xt .here U)<|Lf 11 14 U (Xc U U)<|Lf 12 15 U (qe U U)<|Lw (.cons .here .nil) ?_ q
   exact .r4 U U (zt<|Eq.symm f)<|zt<|vz f
  ·have g:=hb';clear hb'
   refine L4 (i:=11) U g<|Lj 9 12 U<|Lj 10 13 U<|Lj 11 14 U<|Lf 12 15 U (qf U U)<|Lw (.cons .here .nil) ?_ q
   exact .r4 U U (zt<|Eq.symm g)<|zt<|vy g
 let A:Value:=(.bool ((((decide (a.fD>=1))&&(decide (a.fD<=1073741824)))&&(decide (a.fN>=(-1073741824))))&&(decide (a.fN<=1073741824))));refine WD.d (bz 13 16) (by kernel_rfl)<|Lf 13 16 U (q_m U)<|Mc (fuel':=11) [(1,vp c),(2,.bool false),(16,C),(20,A)] (wl 29 (dn 18)) ?_<|fun s=>?_
 rotate_left
 ·rcases Bool.eq_false_or_eq_true (((decide (a.fD>=1))&&(decide (a.fD<=1073741824)))&&(decide (a.fN>=(-1073741824)))) with hb' | hb'
  ·have j:=hb';clear hb'
   refine L4 (i:=16) U j<|Lf 14 17 U (xk qO U U)<|Lh 15 18 U (xl xu U<|xt .here U)<|Lf 16 19 U (Qa U U)<|Lf 17 20 U (qe U U)<|Lw (.cons .here .nil) ?_ s
   exact .r4 U U (zt<|Eq.symm j)<|zt<|vz j
  ·have k:=hb';clear hb'
   refine L4 (i:=16) U k<|Lj 14 17 U<|Lj 15 18 U<|Lj 16 19 U<|Lf 17 20 U (qf U U)<|Lw (.cons .here .nil) ?_ s
   exact .r4 U U (zt<|Eq.symm k)<|zt<|vy k
 refine WD.d (bz 18 11) (by kernel_rfl)<|Lf 18 21 U (q_m U)<|Mc (fuel':=1) [(2,.bool false),(21,A),(30,.bool y)] (wl 29 (dn 28)) ?_<|fun t=>?_
 rotate_left
 ·rcases Bool.eq_false_or_eq_true ((((decide (a.fD>=1))&&(decide (a.fD<=1073741824)))&&(decide (a.fN>=(-1073741824))))&&(decide (a.fN<=1073741824))) with hb' | hb'
  ·have l:=hb';clear hb'
   have b:=q7 o l
   obtain⟨z,u,b⟩:=z8 b
   obtain⟨B,v,b⟩:=z8 b
   obtain⟨E,x,b⟩:=z8 b
   replace b:=oJ b
   refine L4 (i:=21) U l<|Lf 19 22 U (xk qO U U)<|Lh 20 23 U (xl xu U<|xt .here U)<|L5 21 24 U (zb call166<|.cons U .nil) (cc hz .nil fun w pz ho=>oK _ _ _ u w pz )<|Lf 22 25 U (xk jq U U)<|Lh 23 26 U (xl xu U<|xt .here U)<|L5 24 27 U (zb call166<|.cons U .nil) (cc hz .nil fun w pz ho=>oK _ _ _ v w pz )<|L5 25 28 U (zb call165<|.r2 U U) (cc hz .nil fun w pz ho=>lm _ _ _ _ x w pz )<|Lf 26 29 U (sG U U)<|Lf 27 30 U (qe U U)<|Lw (.cons .here .nil) ?_ t
   exact .r3 U (zt<|Eq.symm l)<|zt b
  ·have m:=hb';clear hb'
   have n:=q8 o m
   replace n:=oJ n
   refine L4 (i:=21) U m<|Lj 19 22 U<|Lj 20 23 U<|Lj 21 24 U<|Lj 22 25 U<|Lj 23 26 U<|Lj 24 27 U<|Lj 25 28 U<|Lj 26 29 U<|Lf 27 30 U (qf U U)<|Lw (.cons .here .nil) ?_ t
   exact .r3 U (zt<|Eq.symm m)<|zt n
 refine WD.d (bz 28 1) (by kernel_rfl)<|Lf 28 2 U (q_z U)<|WD.done (by kernel_rfl)<|Lb<|WC.ret ?_
 obtain rfl:=oJ h
 exact Li results130 (.tmp U .nil)<|fun w hw=>⟨xJ U,hw.sub .nil⟩
def oL(a:z1)(b:z1):Option (Int×Int):=
 some (i64 (a.fN*b.fN),i64 (a.fD*b.fD))
theorem Qo(Z:Zp)(c:Addr)(d:Addr)(a:z1)(b:z1)(r:Int×Int)(h:oL a b=some r)(w₀:World)(hz:PZ [] w₀ Z)(e:ZC Z c [vi a.fN,vi a.fD])(f:ZC Z d [vi b.fN,vi b.fD]):
  RC 189 #[vq c,vq d] w₀ (.tuple #[vi r.1,vi r.2]) [] []:=by
 unfold oL at h
 refine L3 func189 ntmps189 ?_
 refine B2n U<|WC.b<|Lz nc [] U<|Lf 0 4 U (xk qO U U)<|Lh 1 5 U (xl xu U<|xM hz.pv e U)<|Lf 2 6 U (xk qO U U)<|Lh 3 7 U (xl xu U<|xM hz.pv f U)<|Lf 4 8 U (tk U U U)<|Lf 5 9 U (xk jq U U)<|Lh 6 10 U (xl xu U<|xM hz.pv e U)<|Lf 7 11 U (xk jq U U)<|Lh 8 12 U (xl xu U<|xM hz.pv f U)<|Lf 9 13 U (tk U U U)<|Lf 10 2 U (q_z U)<|Lf 11 3 U (q_z U)<|WD.done (by kernel_rfl)<|Lb<|WC.ret ?_
 obtain rfl:=oJ h
 exact Li results189 (.tmp U<|.tmp U .nil)<|fun w hw=>⟨wV U U,hw.sub .nil⟩
def ln(a:z1)(b:z1):Option (z1×Int):=
 (vR a).bind fun e=>(if !e then some true else(vR b).bind fun f=>some (!f)).bind fun g=>if g then some ((⟨0,0⟩:z1),2) else(oL a b).bind fun c=>(mw c.1 c.2).bind fun d=>some (d.1,d.2)
theorem Kc(Z:Zp)(a:z1)(b:z1)(r:z1×Int)(h:ln a b=some r)(w₀:World)(hz:PZ [] w₀ Z):
  RC 159 #[.string ⟨#[42]⟩,.agg #[vi a.fN,vi a.fD],.agg #[vi b.fN,vi b.fD]] w₀ (.tuple #[.agg #[vi r.1.fN,vi r.1.fD],vi r.2]) [] []:=by
 unfold ln at h
 refine Me func159 ntmps159 ?_
 refine WC.b<|Ld (Lg 4 (xO (cs:=[vi a.fN,vi a.fD]) U U) fun d _=>Lg 5 (xO (cs:=[vi b.fN,vi b.fD]) U U) fun e _=>Lg 6 (xG (cs:=[vi 0,vi 0]) z1y U) fun s _=>Q1n U<|WC.b<|WC.b ?_)
 refine bK h fun u i h=>bK h fun f g h=>Ld<|Le 9 (xw zh U (xy .h2) U)<|Lp 10 (zb call130<|.cons U .nil) .nil (cc hz .nil fun w pz ho=>ja _ _ _ i w pz )<|Q2q U<|Lx false 3 12 (B:=f) U U U U U U (fun h=>(oJ<|q7 g h).symm) (fun _ j=>?_) ?_
 ·have c:=q8 g j
  obtain⟨y,m,c⟩:=z8 c
  replace c:=oJ c
  exact Le 13 (xw zh U (xy .h1) U)<|Lp 14 (zb call130<|.cons U .nil) .nil (cc hz .nil fun w pz ho=>ja _ _ _ m w pz )<|Q2q U<|Ly c U U .all
 refine La U<|Lx false 7 17 (B:=f) U U U U U U (fun h=>h) (fun _ n=>?_) ?_
 ·exact La U<|Le 19 (ew (r:=false) (by decide) U U)<|La U<|WL.e U U U<|WL.e U U U<|WL.e U U U<|Q2q U<|Ly (Eq.symm n) U U .all
 refine Q0n<|Lk U h (fun o h=>?_)<|fun o h=>?_
 ·refine B0q<|Le 26 (w3 (v:=(.agg #[vi 0,vi 0])) (Lq (l:=[]) .nil []) (fun _=>by kernel_rfl))<|Lo U U (xz zX U U U .here U U U)<|Q1n U<|WC.ret<|Ll ?_
  obtain rfl:=oJ h
  exact Li results159 (.agg U zh U (xy .here)<|.tmp U .nil)<|fun w hw=>⟨wV U U,hw.sub .nil⟩
 ·refine WC.skip<|Lb<|B0q<|Lg 27 (jN Value.string<|fun x=>x) ?_
  intro t _
  let A:Value:=(.func (.func 189) #[] #[vp d,vp e]);refine Le 28 (wC<|L8 (l:=[.tmp 4,.tmp 5])<|.r2 U U)<|Lo U U (kH (k:=⟨#[43]⟩) (v:=(.func (.func 187) #[] #[vp d,vp e])) gr underlying304 U U U U .here)<|Le 29 (wC<|L8 (l:=[.tmp 4,.tmp 5])<|.r2 U U)<|Lo U U (kH (k:=⟨#[45]⟩) (v:=(.func (.func 188) #[] #[vp d,vp e])) gr underlying304 U U U U .here)<|Le 30 (wC<|L8 (l:=[.tmp 4,.tmp 5])<|.r2 U U)<|Lo U U (kH (k:=⟨#[42]⟩) (v:=A) gr underlying304 U U U U .here)<|Le 31 (wC<|L8 (l:=[.tmp 4,.tmp 5])<|.r2 U U)<|Lo U U (kH (k:=⟨#[47]⟩) (v:=(.func (.func 190) #[] #[vp d,vp e])) gr underlying304 U U U U .here)<|Q2n U<|WC.b ?_
  refine bK h fun z p h=>bK h fun C q h=>D2q U<|Le 35 (eu (k:=⟨#[42]⟩) (dflt:=.nilFunc) (r:=A) gr underlying304 zx2 U U U .here (by rfl))<|Lp 36 (qW (l:=[]) call189 U .nil) .nil (sc hz .nil (.s2 .h3 .h2) fun w pz ho la=>Qo _ _ _ _ _ _ p w pz ((la _ (.head _) _).stb)<|(la _ (.tail _<|.head _) _).stb)<|Q2q U<|Lp 39 (zb call160<|.r2 U U) .nil (cc hz .nil fun w pz ho=>rX _ _ _ _ q w pz )<|Q2q U<|Lo U U (xz zX U U U .h1 U U U)<|Q1n U<|WC.ret ?_
  obtain rfl:=oJ h
  exact Li results159 (.agg U zh U (xy .here)<|.tmp U .nil)<|fun w hw=>⟨wV U U,hw.sub .nil⟩
def kd(b:z1)(c:z1):Option (z1×Int):=
 (ln b c).bind fun a=>some (a.1,a.2)
theorem dw(Z:Zp)(a:z1)(b:z1)(r:z1×Int)(h:kd a b=some r)(w₀:World)(hz:PZ [] w₀ Z):
  RC 120 #[.agg #[vi a.fN,vi a.fD],.agg #[vi b.fN,vi b.fD]] w₀ (.tuple #[.agg #[vi r.1.fN,vi r.1.fD],vi r.2]) [] []:=by
 unfold kd at h
 refine L3 func120 ntmps120 ?_
 refine WC.b<|Ld (Lg 2 (xO (cs:=[vi a.fN,vi a.fD]) U U) fun d _=>Lg 3 (xO (cs:=[vi b.fN,vi b.fD]) U U) fun e _=>Lg 4 (xG (cs:=[vi 0,vi 0]) z1y U) fun f _=>Q1n U<|WC.b ?_)
 refine bK h fun g c h=>Ld<|Le 6 (xw zh U (xy .h2) U)<|Le 7 (xw zh U (xy .h1) U)<|Lp 8 (zb call159<|.r3 U U U) .nil (cc hz .nil fun w pz ho=>Kc _ _ _ _ c w pz )<|Q2q U<|Lo U U (xz zX U U U .here U U U)<|Q1n U<|WC.ret ?_
 obtain rfl:=oJ h
 exact Li results120 (.agg U zh U (xy .here)<|.tmp U .nil)<|fun w hw=>⟨wV U U,hw.sub .nil⟩
def kU(h:zi)(i:List (List za))(j:List (yh×z1))(k:List (z7×Int))(b:Int)(zjy:z1->z1->Option (z1×Int))(e:z1)(f:z1):Option (z1×Int):=
 (zjy e f).bind fun a=>vk (fun(c:Int)=>if decide (a.2≠0) then(qU 0).bind fun g=>some (g,c) else some (a.1,c)) fun d=>if decide (b=0) then d a.2 else d b
theorem se(Z:Zp)(g:Nat)(i:Option Addr)(j:Nat)(k:Option Addr)(m:Nat)(n:Option Addr)(o:Nat)(p:Option Addr)(q:Nat)(s:Option Addr)(t:Nat)(u:Option Addr)(v:Nat)(x:Option Addr)(y:Nat)(z:Option Addr)(B:Nat)(K:Option Addr)(L:Nat)(b:Nat)(c:Nat)(zfG:FuncId)(zmm:List Value)(a:zi)(d:List (List za))(M:List (yh×z1))(N:List (z7×Int))(S:Int)(zjy:z1->z1->Option (z1×Int))(O:z1)(P:z1)(r:z1×Int)(h:kU a d M N S zjy O P=some r)(w₀:World)(hz:Pz [stb g 119 [vs i a.fM.length j,vs k a.yc.length m,vs n a.fS.length o,vs p a.fK.length q,vs s a.yd.length t,vs u a.fH.length v,vs x a.fU.length y,vs z a.yb.length B,vs K d.length L,.map (some b),.map (some c),vi S],xB b (ga qY) (ga xL) M,xB c (ga xP) vI N] w₀ Z)(ag:ZS Z 4 (vU Z) i j a.fM)(ah:ZS Z 4 (qr Z) k m a.yc)(ai:ZS Z 4 (rq jm) n o a.fS)(aj:ZS Z 4 (rq qm) p q a.fK)(ak:ZS Z 7 (qK Z) s t a.yd)(al:ZS Z 5 (rq qI) u v a.fH)(am:ZS Z 3 (qs Z) x y a.fU)(an:ZS Z 4 (rq qJ) z B a.yb)(ao:ZS Z 1 (qt Z) K L d)(W:∀ args w,(callFunc zfG args).run Tryz.prog w = .ok (.enter zfG args) w)(X:∀ w:World,PZ [] w Z->∀(x0:z1) (x1:z1) (r:z1×Int),zjy x0 x1=some r->Calls Tryz.prog zfG (([.agg #[vi x0.fN,vi x0.fD],.agg #[vi x1.fN,vi x1.fD]]:List Value)++zmm).toArray w fun e w'=>e = .returned (.tuple #[.agg #[vi r.1.fN,vi r.1.fD],vi r.2])/\Hp [] w w' [])(iq:Ho w₀ [stb g 119 [vs i a.fM.length j,vs k a.yc.length m,vs n a.fS.length o,vs p a.fK.length q,vs s a.yd.length t,vs u a.fH.length v,vs x a.fU.length y,vs z a.yb.length B,vs K d.length L,.map (some b),.map (some c),vi S],xB b (ga qY) (ga xL) M,xB c (ga xP) vI N]):
  RF 118 #[vp g,.func (.func zfG) #[] (zmm).toArray,.agg #[vi O.fN,vi O.fD],.agg #[vi P.fN,vi P.fD]] w₀ (.agg #[vi r.1.fN,vi r.1.fD]) [stb g 119 [vs i a.fM.length j,vs k a.yc.length m,vs n a.fS.length o,vs p a.fK.length q,vs s a.yd.length t,vs u a.fH.length v,vs x a.fU.length y,vs z a.yb.length B,vs K d.length L,.map (some b),.map (some c),vi S],xB b (ga qY) (ga xL) M,xB c (ga xP) vI N] [stb g 119 [vs i a.fM.length j,vs k a.yc.length m,vs n a.fS.length o,vs p a.fK.length q,vs s a.yd.length t,vs u a.fH.length v,vs x a.fU.length y,vs z a.yb.length B,vs K d.length L,.map (some b),.map (some c),vi r.2],xB b (ga qY) (ga xL) M,xB c (ga xP) vI N]:=by
 unfold kU at h
 refine Calls.tg func118 ntmps118 iq ?_
 refine WC.b<|Ld (Lg 6 (xO (cs:=[vi O.fN,vi O.fD]) U U) fun ap _=>Lg 7 (xO (cs:=[vi P.fN,vi P.fD]) U U) fun aq _=>Lg 8 (xG (cs:=[vi 0,vi 0]) z1y U) fun T _=>Q0n<|WC.b ?_)
 refine bK h fun Q Y h=>D1q U<|Le 13 (xw zh U (xy .h2) U)<|Le 14 (xw zh U (xy .h1) U)<|Lp 15 (qW (l:=[.tmp 13,.tmp 14]) (f:=zfG) (caps:=zmm) W U<|.r2 U U) .nil (fun w hw=>X w (hz.now hw) O P Q  Y)<|Q2q U<|La U (Lg 9 (xG (cs:=[vi 0,vi 0]) z1y U) fun V _=>Lo U U (xz zX U U U .here U U U)<|Q1n U ?_)
 obtain⟨af,aa,h⟩:=xS h
 let A:Value:=(vs i a.fM.length j);let C:Value:=(vs k a.yc.length m);let D:Value:=(vs n a.fS.length o);let E:Value:=(vs p a.fK.length q);let F:Value:=(vs s a.yd.length t);let G:Value:=(vs u a.fH.length v);let H:Value:=(vs x a.fU.length y);let I:Value:=(vs z a.yb.length B);let J:Value:=(vs K d.length L);refine Ma (fun(R:Int)=>(af R=some r)) (fun R=>[(8,vp T),(9,vp V),(10,vi Q.2)]) (fun R=>[stb T 175 [vi 0,vi 0],stb V 175 [vi Q.1.fN,vi Q.1.fD],stb g 119 [A,C,D,E,F,G,H,I,J,(.map<|some b),(.map<|some c),vi R],xB b (ga qY) (ga xL) M,xB c (ga xP) vI N]) ?_ ?_
 ·refine B1q U<|Le 19 (wG U)<|Le 20 (xk pI U U)<|Le 21 (xl z6z U<|xt .h4 U)<|Q1n U<|Lk U h (fun ab h=>?_)<|fun ab h=>?_
  ·exact D2q U<|Le 25 (wG U)<|Le 26 (xk pI U U)<|Lo U U (jF (ds:=[A,C,D,E,F,G,H,I,J,(.map<|some b),(.map<|some c),vi Q.2]) ztk U U U U U .h4 U U)<|WL.nil<|Ln Q.2 h (.q U)<|.s5 .h2 .h1 .here .h2 .h2
  ·exact WC.skip<|Ln S h (.q U)<|.s5 .h1 .here .h2 .h2 .h2
 ·rintro R h
  replace h:=(aa R).symm.trans h
  refine WC.b<|B2n U<|Lk U h (fun ad h=>?_)<|fun ad h=>?_
  ·refine WC.b<|bK h fun ar ae h=>Ld<|Lp 29 (zb call80<|.cons U .nil) .nil (cc hz .nil fun w pz ho=>mn _ _ _ ae w pz )<|Lo U U (xz zX U U U .here U U U)<|Q0n<|WC.ret<|Ll ?_
   obtain rfl:=oJ h
   exact Li results118 (.agg U zh U (xy .here) .nil)<|fun w hw=>⟨xJ U,hw.sub (.s3 .h2 .h2 .h2)⟩
  ·refine WC.skip<|Lb<|B0q<|Le 30 (xw zh U (xy .h1) U)<|Lo U U (xz zX U U U .here U U U)<|Q0n<|WC.ret ?_
   obtain rfl:=oJ h
   exact Li results118 (.agg U zh U (xy .here) .nil)<|fun w hw=>⟨xJ U,hw.sub (.s3 .h2 .h2 .h2)⟩
def oM(a:z1)(b:z1):Option (Int×Int):=
 some (i64 ((i64 (a.fN*b.fD))+(i64 (b.fN*a.fD))),i64 (a.fD*b.fD))
theorem Qp(Z:Zp)(e:Addr)(f:Addr)(a:z1)(b:z1)(r:Int×Int)(h:oM a b=some r)(w₀:World)(hz:PZ [] w₀ Z)(c:ZC Z e [vi a.fN,vi a.fD])(d:ZC Z f [vi b.fN,vi b.fD]):
  RC 187 #[vq e,vq f] w₀ (.tuple #[vi r.1,vi r.2]) [] []:=by
 unfold oM at h
 refine L3 func187 ntmps187 ?_
 refine B2n U<|WC.b<|Lz nc [] U<|Lf 0 4 U (xk qO U U)<|Lh 1 5 U (xl xu U<|xM hz.pv c U)<|Lf 2 6 U (xk jq U U)<|Lh 3 7 U (xl xu U<|xM hz.pv d U)<|Lf 4 8 U (tk U U U)<|Lf 5 9 U (xk qO U U)<|Lh 6 10 U (xl xu U<|xM hz.pv d U)<|Lf 7 11 U (xk jq U U)<|Lh 8 12 U (xl xu U<|xM hz.pv c U)<|Lf 9 13 U (tk U U U)<|Lf 10 14 U (tY U U U)<|Lf 11 15 U (xk jq U U)<|Lh 12 16 U (xl xu U<|xM hz.pv c U)<|Lf 13 17 U (xk jq U U)<|Lh 14 18 U (xl xu U<|xM hz.pv d U)<|Lf 15 19 U (tk U U U)<|Lf 16 2 U (q_z U)<|Lf 17 3 U (q_z U)<|WD.done (by kernel_rfl)<|Lb<|WC.ret ?_
 obtain rfl:=oJ h
 exact Li results187 (.tmp U<|.tmp U .nil)<|fun w hw=>⟨wV U U,hw.sub .nil⟩
def pZ(a:z1)(b:z1):Option (z1×Int):=
 (vR a).bind fun e=>(if !e then some true else(vR b).bind fun f=>some (!f)).bind fun g=>if g then some ((⟨0,0⟩:z1),2) else(oM a b).bind fun c=>(mw c.1 c.2).bind fun d=>some (d.1,d.2)
theorem J4(Z:Zp)(a:z1)(b:z1)(r:z1×Int)(h:pZ a b=some r)(w₀:World)(hz:PZ [] w₀ Z):
  RC 159 #[.string ⟨#[43]⟩,.agg #[vi a.fN,vi a.fD],.agg #[vi b.fN,vi b.fD]] w₀ (.tuple #[.agg #[vi r.1.fN,vi r.1.fD],vi r.2]) [] []:=by
 unfold pZ at h
 refine Me func159 ntmps159 ?_
 refine WC.b<|Ld (Lg 4 (xO (cs:=[vi a.fN,vi a.fD]) U U) fun d _=>Lg 5 (xO (cs:=[vi b.fN,vi b.fD]) U U) fun e _=>Lg 6 (xG (cs:=[vi 0,vi 0]) z1y U) fun s _=>Q1n U<|WC.b<|WC.b ?_)
 refine bK h fun u i h=>bK h fun f g h=>Ld<|Le 9 (xw zh U (xy .h2) U)<|Lp 10 (zb call130<|.cons U .nil) .nil (cc hz .nil fun w pz ho=>ja _ _ _ i w pz )<|Q2q U<|Lx false 3 12 (B:=f) U U U U U U (fun h=>(oJ<|q7 g h).symm) (fun _ j=>?_) ?_
 ·have c:=q8 g j
  obtain⟨y,m,c⟩:=z8 c
  replace c:=oJ c
  exact Le 13 (xw zh U (xy .h1) U)<|Lp 14 (zb call130<|.cons U .nil) .nil (cc hz .nil fun w pz ho=>ja _ _ _ m w pz )<|Q2q U<|Ly c U U .all
 refine La U<|Lx false 7 17 (B:=f) U U U U U U (fun h=>h) (fun _ n=>?_) ?_
 ·exact La U<|Le 19 (ew (r:=false) (by decide) U U)<|La U<|WL.e U U U<|WL.e U U U<|WL.e U U U<|Q2q U<|Ly (Eq.symm n) U U .all
 refine Q0n<|Lk U h (fun o h=>?_)<|fun o h=>?_
 ·refine B0q<|Le 26 (w3 (v:=(.agg #[vi 0,vi 0])) (Lq (l:=[]) .nil []) (fun _=>by kernel_rfl))<|Lo U U (xz zX U U U .here U U U)<|Q1n U<|WC.ret<|Ll ?_
  obtain rfl:=oJ h
  exact Li results159 (.agg U zh U (xy .here)<|.tmp U .nil)<|fun w hw=>⟨wV U U,hw.sub .nil⟩
 ·refine WC.skip<|Lb<|B0q<|Lg 27 (jN Value.string<|fun x=>x) ?_
  intro t _
  let A:Value:=(.func (.func 187) #[] #[vp d,vp e]);refine Le 28 (wC<|L8 (l:=[.tmp 4,.tmp 5])<|.r2 U U)<|Lo U U (kH (k:=⟨#[43]⟩) (v:=A) gr underlying304 U U U U .here)<|Le 29 (wC<|L8 (l:=[.tmp 4,.tmp 5])<|.r2 U U)<|Lo U U (kH (k:=⟨#[45]⟩) (v:=(.func (.func 188) #[] #[vp d,vp e])) gr underlying304 U U U U .here)<|Le 30 (wC<|L8 (l:=[.tmp 4,.tmp 5])<|.r2 U U)<|Lo U U (kH (k:=⟨#[42]⟩) (v:=(.func (.func 189) #[] #[vp d,vp e])) gr underlying304 U U U U .here)<|Le 31 (wC<|L8 (l:=[.tmp 4,.tmp 5])<|.r2 U U)<|Lo U U (kH (k:=⟨#[47]⟩) (v:=(.func (.func 190) #[] #[vp d,vp e])) gr underlying304 U U U U .here)<|Q2n U<|WC.b ?_
  refine bK h fun z p h=>bK h fun C q h=>D2q U<|Le 35 (eu (k:=⟨#[43]⟩) (dflt:=.nilFunc) (r:=A) gr underlying304 zx2 U U U .here (by rfl))<|Lp 36 (qW (l:=[]) call187 U .nil) .nil (sc hz .nil (.s2 .h3 .h2) fun w pz ho la=>Qp _ _ _ _ _ _ p w pz ((la _ (.head _) _).stb)<|(la _ (.tail _<|.head _) _).stb)<|Q2q U<|Lp 39 (zb call160<|.r2 U U) .nil (cc hz .nil fun w pz ho=>rX _ _ _ _ q w pz )<|Q2q U<|Lo U U (xz zX U U U .h1 U U U)<|Q1n U<|WC.ret ?_
  obtain rfl:=oJ h
  exact Li results159 (.agg U zh U (xy .here)<|.tmp U .nil)<|fun w hw=>⟨wV U U,hw.sub .nil⟩
def vb(b:z1)(c:z1):Option (z1×Int):=
 (pZ b c).bind fun a=>some (a.1,a.2)
theorem sv(Z:Zp)(a:z1)(b:z1)(r:z1×Int)(h:vb a b=some r)(w₀:World)(hz:PZ [] w₀ Z):
  RC 119 #[.agg #[vi a.fN,vi a.fD],.agg #[vi b.fN,vi b.fD]] w₀ (.tuple #[.agg #[vi r.1.fN,vi r.1.fD],vi r.2]) [] []:=by
 unfold vb at h
 refine L3 func119 ntmps119 ?_
 refine WC.b<|Ld (Lg 2 (xO (cs:=[vi a.fN,vi a.fD]) U U) fun d _=>Lg 3 (xO (cs:=[vi b.fN,vi b.fD]) U U) fun e _=>Lg 4 (xG (cs:=[vi 0,vi 0]) z1y U) fun f _=>Q1n U<|WC.b ?_)
 refine bK h fun g c h=>Ld<|Le 6 (xw zh U (xy .h2) U)<|Le 7 (xw zh U (xy .h1) U)<|Lp 8 (zb call159<|.r3 U U U) .nil (cc hz .nil fun w pz ho=>J4 _ _ _ _ c w pz )<|Q2q U<|Lo U U (xz zX U U U .here U U U)<|Q1n U<|WC.ret ?_
 obtain rfl:=oJ h
 exact Li results119 (.agg U zh U (xy .here)<|.tmp U .nil)<|fun w hw=>⟨wV U U,hw.sub .nil⟩
end Go.Proofs.YthjnhebofpebpaaGreat
