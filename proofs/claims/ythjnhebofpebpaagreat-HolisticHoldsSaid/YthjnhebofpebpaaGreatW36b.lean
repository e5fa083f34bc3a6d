/- A part of this claim's proof: models of functions, walks, plain laws. No conditions. -/
import Derived.Test.YthjnhebofpebpaaGreatW36a
set_option linter.all false
namespace Go.Proofs.YthjnhebofpebpaaGreat
open Go Go.RowKit Sep Tryz
set_option maxRecDepth 30000
set_option maxHeartbeats 4000000
def gS(b:List (List zd))(c:Int)(f:(List z6)->Option (List z6)):Nat->(List z6)->Int->Option (List z6)
 | 0,_,_=>none
 | h+1,d,a=>if decide (a<((nth b c).length:Int)) then qt (fun(i:List z6)=>gS b c f h i (i64 (a+1))) fun g=>chk (0<=a/\a<((nth b c).length:Int)) ((mw (⟨(nth (nth b c) a).ya,(nth (nth b c) a).fX,(nth (nth b c) a).fQ⟩:zd)).bind fun j=>(qf d j).bind fun k=>if !k then(mw (⟨(nth (nth b c) a).ya,(nth (nth b c) a).fX,(nth (nth b c) a).fQ⟩:zd)).bind fun e=>chk (((d++([e]:List z6)).length:Int)*16<=140737488355328/\((d++([e]:List z6)).length:Int)<=4611686018427387904) (g (d++([e]:List z6))) else g d) else f d
def gT(b:List (List zd))(c:(List z6)->Option (List z6)):Nat->(List z6)->Int->Option (List z6)
 | 0,_,_=>none
 | e+1,d,a=>if decide (a<b.length) then qt (fun(f:List z6)=>gT b c e f (i64 (a+1))) fun g=>chk (0<=a/\a<b.length) (qt (fun h=>g h) fun i=>gS b a i xT d 0) else c d
def ss(a:List (List zd)):Option (List z6):=
 qt (fun(b:List z6)=>(qg b (fun y0 y1=>vW y0 y1)).bind fun c=>some c) fun d=>gT a d xT ([]:List z6) 0
theorem Va{Z I J d r}(h:ss d=some r){Ny}(hz:PZ [] Ny Z)(P:ZS Z 1 (fm Z) I J d):
  Calls Tryz.prog 73 #[vs I d.length J] Ny fun e w'=>∃ L:Option Addr,∃ M:Nat,e = .returned (vs L r.length M)/\True/\Hp [] Ny w' [row (vs L r.length M) 121 2 (r.flatMap wd)]:=by
 unfold ss at h
 refine Nb func73 U U<|B1n U<|B1n U<|jK1 h fun N Q h=>Ni (fun k s t=>(N k=some r)) (fun k s t=>[(3,vs s k.length t)]) (fun k s t=>[row (vs s k.length t) 121 2 (k.flatMap wd)]) ?_ ?_
 ·let A:Value:=(vs I d.length J);let C:Value:=(vi (d.length:Int));refine B1q U<|Le 9 (wc underlying32)<|Q1n U<|WC.block<|WC.nilRow 121 2<|Oe (fun G c a m n=>(gT d N G c a=some r)) (fun G c a m n=>[(3,vs m c.length n),(8,A),(9,C),(10,vi a)]) (fun G c a m n=>[row (vs m c.length n) 121 2 (c.flatMap wd)]) (fun G c a m n=>G) ⟨xT,([]:List z6),0,none,0⟩ h .q (.cons .here .nil) ?_
  rintro(_|an) c a m n h;·cases h
  rw[gT] at h
  refine B1n U<|WC.b<|Lj h (fun R h=>?_)<|fun R h=>?_
  ·refine Np<|jK1 h fun ao S h=>Ni (fun f v x=>(ao f=some r)) (fun f v x=>[(3,vs v f.length x),(8,A),(9,C),(10,vi a)]) (fun f v x=>[row (vs v f.length x) 121 2 (f.flatMap wd)]) ?_ ?_
   ·refine WC.block<|WC.b<|cK h fun T h=>Ld<|L2 (Z:=Z) (Pr:=(fm Z)) zc4 P T ?_
    rintro aw ax V ay ⟨ap,aq,rfl,W⟩
    refine Le 13 (xC zb5 U<|kz hz.pv V)<|Q1n U<|B1q U<|Le 15 (wc underlying58)<|Q1n U<|jK1 h fun O X h=>O7 (fun g y z=>(O g=some r)) (fun g y z=>[(3,vs y g.length z),(8,A),(9,C),(10,vi a)]) (fun g y z=>[row (vs y g.length z) 121 2 (g.flatMap wd)]) ?_ ?_
    ·let D:Value:=(vs ap ((nth d a).length) aq);let E:=((nth d a).length:Int);refine WC.block<|Oe (fun H b o p q=>(gS d a O H b o=some r)) (fun H b o p q=>[(3,vs p b.length q),(8,A),(9,C),(10,vi a),(14,D),(15,vi E),(16,vi o)]) (fun H b o p q=>[row (vs p b.length q) 121 2 (b.flatMap wd)]) (fun H b o p q=>H) ⟨xT,c,0,m,n⟩ h .q (.cons .here .nil) ?_
     rintro(_|ar) b o p q h;·cases h
     rw[gS] at h
     refine B1n U<|WC.b<|Lj h (fun Y h=>?_)<|fun Y h=>?_
     ·refine Np<|jK1 h fun au aa h=>Ni (fun j B F=>(au j=some r)) (fun j B F=>[(3,vs B j.length F),(8,A),(9,C),(10,vi a),(14,D),(15,vi E),(16,vi o)]) (fun j B F=>[row (vs B j.length F) 121 2 (j.flatMap wd)]) ?_ ?_
      ·refine WC.block<|WC.b<|cK h fun ab h=>Ld<|L2 (Z:=Z) (Pr:=(rq mQ)) z7O W ab ?_
       rintro az aA ad aB rfl
       refine Le 19 (xN z5e (qB hz.pv ad)) (Lh 7 (xV (cs:=[vi 0,vi 0,vi 0]) zdR U) fun aC _=>Lk (xR zc6 .here)<|Q0n<|WC.b ?_)
       refine bK h fun aE ae h=>bK h fun aF af h=>D1q U<|Le 21 (xN z5e (xO .here))<|Ns call60 hz (tL ae)<|Lo 23 (Nt call114) .nil (uB hz .nil (.cons .h1 .nil) fun w pz ho la=>sL af pz<|ZA.row (la _ (.head _) _) (RR.flat (enc:=wd)) ⟨w,pz.1⟩)<|Q1n U<|Lj h (fun ag h=>?_)<|fun ag h=>?_
       ·refine bK h fun K ah h=>cK h fun ai h=>D1q U<|Le 26 (xN z5e (xO .here))<|Ns call60 hz (tL ah) (Lh 28 (wn (cs:=([K]:List z6).flatMap wd) z9r (Lq (l:=[.tmp 27]) (.cons U .nil) [0])) fun aD _=>WL.fA 29 (jN (enc:=wd) (l1:=b) (l2:=([K]:List z6)) z9r .h2 (j4 .here) (kZ dK) ai) ?_)
        rintro⟨aj,ak⟩ _
        exact La U<|WL.nil<|Lt<|Lp ⟨b++([K]:List z6),aj,ak⟩ h .q<|.cons .here .nil
       ·exact N3<|Lt<|Lp ⟨b,p,q⟩ h .q<|.cons .h1 .nil
      ·rintro j B F h
       replace h:=(aa j).symm.trans h
       exact D2q U<|WL.nil<|N0 ⟨ar,j,i64 (o+1),B,F⟩ h .q<|.cons .here .nil
     ·exact N2<|Ln<|Ln<|Lv<|Lp ⟨b,p,q⟩ h .q<|.cons .here .nil
    ·rintro g y z h
     replace h:=(X g).symm.trans h
     exact Lt<|Lp ⟨g,y,z⟩ h .q<|.cons .here .nil
   ·rintro f v x h
    replace h:=(S f).symm.trans h
    exact D2q U<|WL.nil<|N0 ⟨an,f,i64 (a+1),v,x⟩ h .q<|.cons .here .nil
  ·exact N2<|Ln<|Ln<|Lv<|Lp ⟨c,m,n⟩ h (.cons U .nil)<|.cons .here .nil
 ·rintro k s t h
  replace h:=(Q k).symm.trans h
  refine WC.b<|bK h fun av al h=>D1q U<|Nc U (Nt call115) (.cons .here .nil) (cc hz (.cons .here .nil) fun w pz ho=>sM (zp1:=45) (zyo:=[]) (zp0:=(fun y0 y1=>vW y0 y1)) al pz call45 (fun w' hz' y0 y1  r  hr=>oY hr hz' ) ho) ?_
  rintro  am
  exact L9 (i:=3) U (u:=(vs s av.length t)) (qD am.symm)<|Q0n<|B2n U<|Nz<|oJ h▸Li results73 (.tmp U .nil) fun w hw=>⟨s,t,w3,trivial,hw.sub (.cons .here .nil)⟩
def su(a:zd)(b:Int):Option Bool:=
 some (decide (a.fX=b))
theorem Vb{Z b a c r}(h:su a c=some r){Ny}(hz:PZ [] Ny Z)(d:ZC Z b [vi c]):
  RC 116 #[.agg #[vi a.ya,vi a.fX,vi a.fQ],vq b] Ny (.bool r) [] []:=by
 unfold su at h
 refine L0 func116 U U<|B0q (Lh 2 (we (cs:=[vi a.ya,vi a.fX,vi a.fQ])) fun e _=>Q1n U<|B0q<|Le 4 (xB mH)<|Le 5 (Nu xL .here)<|Le 6 (xC xL U<|kz hz.pv d)<|Q2n U<|Nz ?_)
 exact oJ h▸Nm results116
def wL(b:List zd)(z9w:zd->Option Bool)(c:Option Int):Nat->Int->Option Int
 | 0,_=>none
 | d+1,a=>if decide (a<b.length) then chk (0<=a/\a<b.length) ((z9w (⟨(nth b a).ya,(nth b a).fX,(nth b a).fQ⟩:zd)).bind fun e=>if e then some a else wL b z9w c d (i64 (a+1))) else c
def wG(a:List zd)(z9w:zd->Option Bool):Option Int:=
 uN (some (-1)) fun b=>wL a z9w b xT 0
theorem jR{Z d g}(zdY zjh){b}(z9w){r}(h:wG b z9w=some r){Ny}(hz:PZ [] Ny Z)(j:ZS Z 3 (rq mQ) d g b)(k:∀ args w,(callFunc zdY args).run Tryz.prog w = .ok (.enter zdY args) w)(m:∀ w:World,PZ [] w Z->∀(x0:zd) (r:Bool),z9w x0=some r->Calls Tryz.prog zdY (([.agg #[vi x0.ya,vi x0.fX,vi x0.fQ]]:List Value)++zjh).toArray w fun e w'=>e = .returned (.bool r)/\Hp [] w w' []):
  RC 94 #[vs d b.length g,.func (.func zdY) #[] (zjh).toArray] Ny (vi r) [] []:=by
 unfold wG at h
 refine L0 func94 U U<|B1n U<|jK0 h fun i n h=>Nf (i=some r) ([]) ([]) ?_ ?_
 ·refine B1q U<|Le 7 (wc underlying58)<|Q1n U<|WC.block<|Ng (fun c a=>(wL b z9w i c a=some r)) (fun c a=>[(0,vs d b.length g),(1,.func (.func zdY) #[] (zjh).toArray),(7,vi (b.length:Int)),(8,vi a)]) (fun c a=>[]) (fun c a=>c) ⟨xT,0⟩ h .q .nil ?_
  rintro(_|u) a h;·cases h
  rw[wL] at h
  refine B1n U<|WC.b<|Lj h (fun o h=>?_)<|fun o h=>?_
  ·refine Np<|WC.b<|WC.block<|B2n U<|WC.b<|cK h fun p h=>bK h fun v q h=>D3q U<|L2 (Z:=Z) (Pr:=(rq mQ)) z7O j p ?_
   rintro x y s z rfl
   refine Le 15 (xN z5e (qB hz.pv s))<|Lo 16 (qk (l:=[.tmp 15]) (f:=zdY) (caps:=zjh) k<|.cons U .nil) .nil (fun w hw=>m w (hz.now hw) (⟨(nth b a).ya,(nth b a).fX,(nth b a).fQ⟩:zd) v  q)<|Q0n<|Lj h (fun t h=>?_)<|fun t h=>?_
   ·exact B2n U<|Nz<|Lx<|Ll<|Ll<|Lx<|Ll<|oJ h▸Nm results94
   ·exact N3<|Lt<|Lb<|D2q U<|WL.nil<|N0 ⟨u,i64 (a+1)⟩ h .q .nil
  ·exact N2<|Ln<|Ln<|Lv<|Lp () h .nil .nil
 ·rintro  h
  replace h:=n.symm.trans h
  exact B1n U<|Nz<|oJ h▸Nm results94
def uY(b:List zd)(c:Int):Option (zd×Bool):=
 (wG b (fun(y0:zd)=>su y0 c)).bind fun a=>if decide (a<0) then some ((⟨0,0,0⟩:zd),false) else chk (0<=a/\a<b.length) (some ((⟨(nth b a).ya,(nth b a).fX,(nth b a).fQ⟩:zd),true))
theorem cW{Z c d b a r}(h:uY b a=some r){Ny}(hz:PZ [] Ny Z)(e:ZS Z 3 (rq mQ) c d b):
  RC 77 #[vs c b.length d,vi a] Ny (.tuple #[.agg #[vi r.1.ya,vi r.1.fX,vi r.1.fQ],.bool r.2]) [] []:=by
 unfold uY at h
 refine L0 func77 U U<|B0q (Lh 3 (we (cs:=[vi a])) fun f _=>Lh 4 (xV (cs:=[vi 0,vi 0,vi 0]) zdR U) fun m _=>Q1n U<|WC.b ?_)
 refine bK h fun q g h=>D1q U<|Le 8 (wO<|L5 (l:=[.tmp 3])<|.cons U .nil)<|Lo 9 (Nt call94) .nil (uB hz .nil (.cons .h1 .nil) fun w pz ho la=>jR (zdY:=116) (zjh:=[vp f]) (z9w:=(fun(y0:zd)=>su y0 a)) g pz (e.mono<|zl) call116<|fun w' hz' y0  r  hr=>Vb hr hz'<|(la _ (.head _) _).stb)<|Q1n U<|WC.b<|B2n U<|Lj h (fun i h=>?_)<|fun i h=>?_
 ·exact B0q<|Le 12 (wl (v:=(.agg #[vi 0,vi 0,vi 0])) (Lq (l:=[]) .nil []))<|Lk (xR zc6 .here)<|Q1n U<|Nz<|Ll<|oJ h▸Nn results77 (.agg U z5e U (xO .here)<|.tmp U .nil) .nil
 ·refine Np<|WC.b<|cK h fun j h=>D2q U<|L2 (Z:=Z) (Pr:=(rq mQ)) z7O e j ?_
  rintro n o k p rfl
  exact Le 16 (xN z5e (qB hz.pv k))<|Lk (xR zc6 .here)<|Q1n U<|Nz<|oJ h▸Nn results77 (.agg U z5e U (xO .here)<|.tmp U .nil) .nil
def uC(a:zd)(c:List zd)(d:z6)(e:List (z6×Int)):Option Bool:=
 (uY c a.ya).bind fun b=>(mw a).bind fun f=>(if (decide (f=d))&&b.2 then(mw b.1).bind fun g=>some (decide ((xK e g 0)=0)) else some false).bind fun h=>some h
theorem YI{Z m s t n o g d p e j r}(h:uC d p e j=some r){Ny}(hz:Pz [xP g (ga wd) vI j] Ny Z)(L:ZS Z 3 (rq mQ) s t p)(M:ZC Z m [vs s p.length t])(N:ZC Z n [vi e.ya,vi e.fQ])(O:ZC Z o [.map (some g)])(iF:Ho Ny [xP g (ga wd) vI j]):
  RF 76 #[.agg #[vi d.ya,vi d.fX,vi d.fQ],vq m,vq n,vq o] Ny (.bool r) [xP g (ga wd) vI j] [xP g (ga wd) vI j]:=by
 unfold uC at h
 refine H3 func76 U iF U<|B0q (Lh 4 (we (cs:=[vi d.ya,vi d.fX,vi d.fQ])) fun q _=>Q1n U<|WC.b ?_)
 refine bK h fun c P h=>Ld<|Le 9 (xC zb5 U<|kz hz.pv M)<|Le 10 (xB kC)<|Le 11 (Nu xL .here)<|Ns call77 hz (fun pz=>cW P pz L)<|Q2q U<|La U (Lh 6 (xV (cs:=[vi 0,vi 0,vi 0]) zdR U) fun B _=>Lk (xR zc6 .here)<|Q1n U<|WC.b ?_)
 obtain⟨f,Q,h⟩:=za h
 obtain⟨S,I,h⟩:=za h
 let A:Value:=(.agg #[vi c.1.ya,vi c.1.fX,vi c.1.fQ]);let C:Value:=(.agg #[vi d.ya,vi d.fX,vi d.fQ]);let D:Value:=(.bool (decide (f=e)));let E:Value:=(.bool ((decide (f=e))&&c.2));let F:Value:=(.agg #[vi f.ya,vi f.fQ]);let G:Value:=(.agg #[vi e.ya,vi e.fQ]);let H:Value:=(vs s p.length t);refine Lu nc []<|Lg 0 U (xN z5e (xO .h1))<|L4 1 U (Nt call60) (cc hz .nil fun w pz ho=>tL Q pz )<|Lg 2 U (xN z71 (qB hz.pv N))<|Lf 3 U (lF (enc:=wd) (a:=f) (b:=e) zxN)<|Lf 4 U q_m<|Nd (fuel':=8) [(0,C),(1,vq m),(2,vq n),(3,vq o),(4,vp q),(5,.bool false),(9,H),(10,vp q),(11,vi d.ya),(12,.tuple #[A,.bool c.2]),(8,.tuple #[A,.bool c.2]),(13,A),(14,.bool c.2),(6,vp B),(7,.bool c.2),(15,C),(16,F),(17,G),(18,D),(19,D),(21,E)] (vE 15 (dn 7)) ?_<|fun J=>?_
 rotate_left
 ·rcases Bool.eq_false_or_eq_true (decide (f=e)) with hb' | hb'
  ·have u:=hb';clear hb'
   refine L3 (i:=19) U u<|Lf 5 U q_m<|Lf 6 U qO<|Lw .a3 ?_ J
   exact .t 19<|.r2 (zx<|Eq.symm u)<|zx<|kR u
  ·have v:=hb';clear hb'
   refine L3 (i:=19) U v<|Lm 5 U<|Lf 6 U qP<|Lw .a3 ?_ J
   exact .t 19<|.r2 (zx<|Eq.symm v)<|zx<|kQ v
 refine Lf 7 U q_m<|Nd (fuel':=1) [(0,C),(1,vq m),(2,vq n),(3,vq o),(4,vp q),(5,.bool false),(9,H),(10,vp q),(11,vi d.ya),(12,.tuple #[A,.bool c.2]),(8,.tuple #[A,.bool c.2]),(13,A),(14,.bool c.2),(6,vp B),(7,.bool c.2),(15,C),(16,F),(17,G),(18,D),(19,D),(21,E),(22,E),(28,.bool S)] (vE 15 (dn 14)) ?_<|fun K=>?_
 rotate_left
 ·rcases Bool.eq_false_or_eq_true ((decide (f=e))&&c.2) with hb' | hb'
  ·have x:=hb';clear hb'
   have l:=ju I x
   obtain⟨T,R,l⟩:=za l
   replace l:=oJ l
   refine L3 (i:=22) U x<|Lg 8 U (xC ztP U<|kz hz.pv O)<|Lg 9 U (xN z5e (xO .here))<|L4 10 U (Nt call60) (cc hz .nil fun w pz ho=>tL R pz )<|Lg 11 U (jk (k:=T) (dflt:=(0:Int)) zj5 underlying117 jc .h2)<|Lf 12 U (eI U U)<|Lf 13 U qO<|Lw .a3 ?_ K
   exact .t 21<|.r2 (zx<|Eq.symm x)<|zx l
  ·have y:=hb';clear hb'
   have z:=jv I y
   replace z:=oJ z
   refine L3 (i:=22) U y<|Lm 8 U<|Lm 9 U<|Lm 10 U<|Lm 11 U<|Lm 12 U<|Lf 13 U qP<|Lw .a3 ?_ K
   exact .t 21<|.r2 (zx<|Eq.symm y)<|zx z
 exact Lf 14 U q_z<|N1<|Lb<|Nz<|oJ h▸Nn results76 (.tmp U .nil) (.cons .h2 .nil)
def wH(b:List zd)(c:List zd)(d:z6)(e:List (z6×Int))(f:Option Int):Nat->Int->Option Int
 | 0,_=>none
 | g+1,a=>if decide (a<b.length) then chk (0<=a/\a<b.length) ((uC (⟨(nth b a).ya,(nth b a).fX,(nth b a).fQ⟩:zd) c d e).bind fun h=>if h then some a else wH b c d e f g (i64 (a+1))) else f
def jG(a:List zd)(b:List zd)(c:z6)(d:List (z6×Int)):Option Int:=
 uN (some (-1)) fun e=>wH a b c d e xT 0
theorem p9{Z i j k o p m n b d f g a r}(h:jG d f g a=some r){Ny}(hz:Pz [xP b (ga wd) vI a] Ny Z)(s:ZS Z 3 (rq mQ) i j d)(t:ZS Z 3 (rq mQ) o p f)(u:ZC Z k [vs o f.length p])(v:ZC Z m [vi g.ya,vi g.fQ])(x:ZC Z n [.map (some b)])(iF:Ho Ny [xP b (ga wd) vI a]):
  RF 94 #[vs i d.length j,.func (.func 76) #[] #[vq k,vq m,vq n]] Ny (vi r) [xP b (ga wd) vI a] [xP b (ga wd) vI a]:=by
 unfold jG at h
 refine Nj func94 U iF U<|B1n U<|jK0 h fun q y h=>Nf (q=some r) ([]) ([xP b (ga wd) vI a]) ?_ ?_
 ·refine B1q U<|Le 7 (wc underlying58)<|Q1n U<|WC.block<|Ng (fun e c=>(wH d f g a q e c=some r)) (fun e c=>[(0,vs i d.length j),(1,.func (.func 76) #[] #[vq k,vq m,vq n]),(7,vi (d.length:Int)),(8,vi c)]) (fun e c=>[xP b (ga wd) vI a]) (fun e c=>e) ⟨xT,0⟩ h .q (.cons .here .nil) ?_
  rintro(_|E) c h;·cases h
  rw[wH] at h
  refine B1n U<|WC.b<|Lj h (fun z h=>?_)<|fun z h=>?_
  ·refine Np<|WC.b<|WC.block<|B2n U<|WC.b<|cK h fun A h=>bK h fun I B h=>D3q U<|L2 (Z:=Z) (Pr:=(rq mQ)) z7O s A ?_
   rintro F G C H rfl
   refine Le 15 (xN z5e (qB hz.pv C))<|Lo 16 (qk (l:=[.tmp 15]) call76<|.cons U .nil) (.cons .here .nil) (cc hz (.cons .here .nil) fun w pz ho=>YI B pz t u v x ho)<|Q0n<|Lj h (fun D h=>?_)<|fun D h=>?_
   ·exact B2n U<|Nz<|Lx<|Ll<|Ll<|Lx<|Ll<|oJ h▸Nn results94 (.tmp U .nil) (.cons .here .nil)
   ·exact N3<|Lt<|Lb<|D2q U<|WL.nil<|N0 ⟨E,i64 (c+1)⟩ h .q<|.cons .here .nil
  ·exact N2<|Ln<|Ln<|Lv<|Lp () h .nil<|.cons .here .nil
 ·rintro  h
  replace h:=y.symm.trans h
  exact B1n U<|Nz<|oJ h▸Nn results94 (.tmp U .nil) (.cons .here .nil)
def je(a:List zd)(b:List zd)(c:z6)(d:List (z6×Int)):Option Bool:=
 (jG a b c d).bind fun e=>some (decide (e>=0))
theorem ry{Z f g i j k l m a c d e b r}(h:je c d e b=some r){Ny}(hz:Pz [xP a (ga wd) vI b] Ny Z)(n:ZS Z 3 (rq mQ) f g c)(o:ZS Z 3 (rq mQ) j k d)(p:ZC Z i [vs j d.length k])(q:ZC Z l [vi e.ya,vi e.fQ])(s:ZC Z m [.map (some a)])(iF:Ho Ny [xP a (ga wd) vI b]):
  RF 75 #[vs f c.length g,.func (.func 76) #[] #[vq i,vq l,vq m]] Ny (.bool r) [xP a (ga wd) vI b] [xP a (ga wd) vI b]:=by
 unfold je at h
 exact Nj func75 U iF U<|B1n U<|WC.b<|bK h fun u t h=>D2q U<|Lo 7 (Nt call94) (.cons .here .nil) (cc hz (.cons .here .nil) fun w pz ho=>p9 t pz n o p q s ho)<|Q2n U<|Nz<|oJ h▸Nn results75 (.tmp U .nil) (.cons .here .nil)
def tO(a:List zd)(b:z6)(c:List (z6×Int)):Option Bool:=
 (je a a b c).bind fun d=>some d
theorem Wb{Z d e g i a c f b r}(h:tO c f b=some r){Ny}(hz:Pz [xP a (ga wd) vI b] Ny Z)(j:ZS Z 3 (rq mQ) d e c)(k:ZC Z g [vi f.ya,vi f.fQ])(m:ZC Z i [.map (some a)])(iF:Ho Ny [xP a (ga wd) vI b]):
  RF 74 #[vs d c.length e,vq g,vq i] Ny (.bool r) [xP a (ga wd) vI b] [xP a (ga wd) vI b]:=by
 unfold tO at h
 refine N8 func74 U iF U<|B0q (Lh 3 (we (cs:=[vs d c.length e])) fun o _=>Q1n U<|WC.b ?_)
 exact bK h fun p n h=>Ld<|Le 5 (Nu zb5 .here)<|Le 6 (wO<|L5 (l:=[.tmp 3,.tmp 1,.tmp 2])<|.r3 U U U)<|Lo 7 (Nt call75) (.cons .h1 .nil) (uB hz (.cons .h1 .nil) (.cons .here .nil) fun w pz ho la=>ry n pz (j.mono<|zl) (j.mono<|zl) ((la _ (.head _) _).stb) (k.mono<|zl) (m.mono<|zl) ho)<|Q1n U<|Nz<|oJ h▸Nn results74 (.tmp U .nil) (.cons .here .nil)
def wD(b:List (List zd))(c:z6)(d:List (z6×Int))(e:Option Int):Nat->Int->Option Int
 | 0,_=>none
 | f+1,a=>if decide (a<b.length) then chk (0<=a/\a<b.length) ((tO (nth b a) c d).bind fun g=>if g then some a else wD b c d e f (i64 (a+1))) else e
def jf(a:List (List zd))(b:z6)(c:List (z6×Int)):Option Int:=
 uN (some (-1)) fun d=>wD a b c d xT 0
theorem rz{Z g i j k b d f a r}(h:jf d f a=some r){Ny}(hz:Pz [xP b (ga wd) vI a] Ny Z)(n:ZS Z 1 (fm Z) g i d)(o:ZC Z j [vi f.ya,vi f.fQ])(p:ZC Z k [.map (some b)])(iF:Ho Ny [xP b (ga wd) vI a]):
  RF 92 #[vs g d.length i,.func (.func 74) #[] #[vq j,vq k]] Ny (vi r) [xP b (ga wd) vI a] [xP b (ga wd) vI a]:=by
 unfold jf at h
 refine Nj func92 U iF U<|B1n U<|jK0 h fun m q h=>Nf (m=some r) ([]) ([xP b (ga wd) vI a]) ?_ ?_
 ·refine B1q U<|Le 7 (wc underlying32)<|Q1n U<|WC.block<|Ng (fun e c=>(wD d f a m e c=some r)) (fun e c=>[(0,vs g d.length i),(1,.func (.func 74) #[] #[vq j,vq k]),(7,vi (d.length:Int)),(8,vi c)]) (fun e c=>[xP b (ga wd) vI a]) (fun e c=>e) ⟨xT,0⟩ h .q (.cons .here .nil) ?_
  rintro(_|z) c h;·cases h
  rw[wD] at h
  refine B1n U<|WC.b<|Lj h (fun s h=>?_)<|fun s h=>?_
  ·refine Np<|WC.b<|WC.block<|B2n U<|WC.b<|cK h fun t h=>bK h fun F u h=>D3q U<|L2 (Z:=Z) (Pr:=(fm Z)) zc4 n t ?_
   rintro A B v C ⟨D,E,rfl,x⟩
   refine Le 15 (xC zb5 U<|kz hz.pv v)<|Lo 16 (qk (l:=[.tmp 15]) call74<|.cons U .nil) (.cons .here .nil) (cc hz (.cons .here .nil) fun w pz ho=>Wb u pz x o p ho)<|Q0n<|Lj h (fun y h=>?_)<|fun y h=>?_
   ·exact B2n U<|Nz<|Lx<|Ll<|Ll<|Lx<|Ll<|oJ h▸Nn results92 (.tmp U .nil) (.cons .here .nil)
   ·exact N3<|Lt<|Lb<|D2q U<|WL.nil<|N0 ⟨z,i64 (c+1)⟩ h .q<|.cons .here .nil
  ·exact N2<|Ln<|Ln<|Lv<|Lp () h .nil<|.cons .here .nil
 ·rintro  h
  replace h:=q.symm.trans h
  exact B1n U<|Nz<|oJ h▸Nn results92 (.tmp U .nil) (.cons .here .nil)
def q8(a:List (List zd))(b:z6)(c:List (z6×Int)):Option Bool:=
 (jf a b c).bind fun d=>some (decide (d>=0))
theorem sx{Z e f g i a c d b r}(h:q8 c d b=some r){Ny}(hz:Pz [xP a (ga wd) vI b] Ny Z)(j:ZS Z 1 (fm Z) e f c)(k:ZC Z g [vi d.ya,vi d.fQ])(l:ZC Z i [.map (some a)])(iF:Ho Ny [xP a (ga wd) vI b]):
  RF 50 #[vs e c.length f,.func (.func 74) #[] #[vq g,vq i]] Ny (.bool r) [xP a (ga wd) vI b] [xP a (ga wd) vI b]:=by
 unfold q8 at h
 exact Nj func50 U iF U<|B1n U<|WC.b<|bK h fun n m h=>D2q U<|Lo 7 (Nt call92) (.cons .here .nil) (cc hz (.cons .here .nil) fun w pz ho=>rz m pz j k l ho)<|Q2n U<|Nz<|oJ h▸Nn results50 (.tmp U .nil) (.cons .here .nil)
def l3(l:List z6)(i j:Int):Option (List z6):=chk ((0<=i/\i<=j/\j<=l.length)/\l.length*16<=140737488355328) (some (l.take i.toNat++l.drop j.toNat))
theorem Wc{Z}(ao cap l i j r){Ny}(hz:Pz [row (vs ao l.length cap) 121 2 (l.flatMap wd)] Ny Z)(h:l3 l i j=some r)(iF:Ho Ny [row (vs ao l.length cap) 121 2 (l.flatMap wd)]):
  Calls Tryz.prog 78 #[.slice ao l.length cap,.int .i64 i,.int .i64 j] Ny fun e w'=>∃ EW:Option Addr,∃ BG:Nat,e = .returned (vs EW r.length BG)/\True/\Hp (fps [row (vs ao l.length cap) 121 2 (l.flatMap wd)]) Ny w' [row (vs EW r.length BG) 121 2 (r.flatMap wd)]:=by
 obtain⟨⟨c1,c2⟩,h⟩:=xI h
 obtain rfl:=oJ h
 clear h
 refine N8 func78 U iF U<|B1n U<|B0q<|La U<|La U<|La U<|La U<|Le 12 (wc underlying112) (N5 (fun w h=>h.rowShape .here) fun hs=>?_)
 obtain⟨hs1,hs2,hs3,_⟩:=hs
 refine Le 13 (MA z9r U U U U (by omega) (by omega) (by omega) (by omega))<|Q0n<|WC.b<|B3n U<|WC.cond U (fun hb=>?_)<|fun hb=>?_
 ·have e:i=j:=by simpa using hb
  refine B2n U<|Nz<|Ll<|Li results78 (.tmp U .nil)<|fun w hw=>?_
  have e2:l.take i.toNat++l.drop j.toNat=l:=by subst e;exact List.take_append_drop _ _
  rw[e2];exact⟨ao,cap,w3,trivial,hw.sub (.cons .here .nil)⟩
 ·have qA:i<j:=by
   have:i≠j:=by simpa using hb
   omega
  clear hb
  refine Np<|B1q U<|Le 19 (wc underlying112)<|Q1n U<|WC.b<|Px (fun w hw=>Hp.vf .here hw (by omega)) ?_
  rintro⟨b,rfl⟩
  have kM:(l.take i.toNat++l.drop j.toNat).length=i.toNat+(l.length-j.toNat):=by rw[List.length_append,List.length_take,List.length_drop];omega
  refine Lu (fun i=>[6].contains i) []<|Lf 0 U q_m<|Lf 1 U q_m<|Lf 2 U (pM (lo:=0) (hi:=i.toNat) (lv:=none) (hv:=some (vi i)) z9r U (fun _ _ _=>U) (fun a w h=>by rw[Option.map_some,h.eval U]) U (by show i=_;omega) (by simp))<|N4 (i:=22) U (u:=.slice (some ⟨b,0,none⟩) i.toNat cap) (by split <;> simp[Addr.add])<|Lf 3 U q_m<|Lf 4 U q_m<|Lf 5 U (pM (lo:=j.toNat) (hi:=l.length) (lv:=some (vi j)) (hv:=none) z9r U (fun a w h=>by rw[Option.map_some,h.eval U]) (fun _ _ _=>U) (by show j=_;omega) U<|fun _=>hs2) (WD.old (i:=6) U U (fun _=>wJ.of .nil) (Gv (i:=i.toNat) (j:=j.toNat) (m:=l.length) (cs:=l.flatMap wd) z9r U U (fun hk=>if_neg (by omega)) .here (by omega) (by omega) (kZ dK) (by omega)) fun tl _=>Lf 7 U q_z<|N1<|Lb<|B2q U<|Le 29 (wc underlying112)<|La U<|Le 31 (pM (lo:=i.toNat+(l.length-j.toNat)) (hi:=l.length) (lv:=some (vi ((i.toNat+(l.length-j.toNat):Nat):Int))) (hv:=some (vi (l.length:Int))) z9r U (fun a w h=>by rw[Option.map_some,h.eval U]) (fun a w h=>by rw[Option.map_some,h.eval U]) U U (by simp))<|Lk (YP (i:=i.toNat+(l.length-j.toNat)) z9r ztO U U (by omega) (KN (enc:=wd) (sz:=2) (z0:=((⟨0,0⟩:z6):z6)) (fun _=>U) (by decide) U dK) .here U)<|Q0n<|B2n U<|Nz<|Li results78 (.tmp U .nil)<|fun w hw=>?_)
  rw[kM]
  refine⟨some ⟨b,0,none⟩,cap,w3,trivial,?_⟩
  have h5:=Hp.rowShort (m:=l.length) (i:=i.toNat+(l.length-j.toNat)) (R:=[]) .here (by omega) hw
  have e1:(l.flatMap wd).take (i.toNat*2)=(l.take i.toNat).flatMap wd:=bO (enc:=wd) (sz:=2) (fun _=>U) l i.toNat (by omega)
  have e2:(l.flatMap wd).drop (j.toNat*2)=(l.drop j.toNat).flatMap wd:=ay (enc:=wd) (sz:=2) (fun _=>U) l j.toNat (by omega)
  have e3:((l.take i.toNat++l.drop j.toNat).flatMap wd).length=(i.toNat+(l.length-j.toNat))*2:=by rw[pp (sz:=2) (fun _=>U),kM]
  rw[e1,e2,<- List.flatMap_append,<- e3,List.take_left,List.take_left] at h5
  exact h5.sub<|.cons .here .nil
def gv(b:List z6)(e:List (List zd))(c:List (z6×Int))(d:List z6)(f:(List z6)->(List z6)->(List (z6×Int))->Option (List z6×Int))(g:Option (List z6×Int)):Nat->Int->Option (List z6×Int)
 | 0,_=>none
 | h+1,a=>if decide (a<b.length) then chk (0<=a/\a<b.length) ((q8 e (⟨(nth b a).ya,(nth b a).fQ⟩:z6) c).bind fun i=>if !i then chk ((((d++([(⟨(nth b a).ya,(nth b a).fQ⟩:z6)]:List z6)).length:Nat):Int)*16<=140737488355328/\(((d++([(⟨(nth b a).ya,(nth b a).fQ⟩:z6)]:List z6)).length:Nat):Int)<=4611686018427387904) ((l3 b a (i64 (a+1))).bind fun j=>f j (d++([(⟨(nth b a).ya,(nth b a).fQ⟩:z6)]:List z6)) (w7 c (⟨(nth b a).ya,(nth b a).fQ⟩:z6) (i64 ((xK c (⟨(nth b a).ya,(nth b a).fQ⟩:z6) 0)+1)))) else gv b e c d f g h (i64 (a+1))) else g
def gw(a:List (List zd))(b:(List z6)->Option (List z6×Int)):Nat->(List z6)->(List z6)->(List (z6×Int))->Option (List z6×Int)
 | 0,_,_,_=>none
 | e+1,c,d,f=>if decide ((c.length:Int)>0) then Vw (fun(g:List z6) (h:List z6) (i:List (z6×Int))=>gw a b e g h i) fun j=>uN (some (([]:List z6),351)) fun k=>gv c a f d j k xT 0 else b d
def ux(a:List (List zd)):Option (List z6×Int):=
 (ss a).bind fun b=>qt (fun(c:List z6)=>some (c,0)) fun d=>gw a d xT b ([]:List z6) ([]:List (z6×Int))
theorem aa{Z K L u r}(h:ux u=some r){Ny}(hz:PZ [] Ny Z)(M:ZS Z 1 (fm Z) K L u):
  Calls Tryz.prog 42 #[vs K u.length L] Ny fun e w'=>∃ N:Option Addr,∃ O:Nat,e = .returned (.tuple #[vs N r.1.length O,vi r.2])/\True/\Hp [] Ny w' [row (vs N r.1.length O) 121 2 (r.1.flatMap wd)]:=by
 unfold ux at h
 refine Nb func42 U U<|B2n U<|Pk<|WC.b<|bK h fun ap T h=>D1q U<|H4 U (Nt call73) .nil (cc hz .nil fun w pz ho=>Va T pz M) ?_
 rintro V W _
 refine Q1n U<|B0q (Lh 12 (kq (ga wd)<|Value.int .i64) fun q _=>Lh 5 (xV (cs:=[.map none]) zXe U) fun x _=>Lk (xR zXf .here)<|Q0n<|B1n U<|WC.b<|Pm<|Lb ?_)
 refine jK1 h fun P X h=>Ni (fun m y z=>(P m=some r)) (fun m y z=>[(6,vs y m.length z)]) (fun m y z=>[row (vs y m.length z) 121 2 (m.flatMap wd)]) ?_ ?_
 ·let A:Value:=(vs K u.length L);refine WC.block<|WC.nilRow 121 2<|Oz (fun H a c d s n o p=>(gw u P H a c d=some r)) (fun H a c d s n o p=>[(0,A),(4,vs s a.length n),(5,vp x),(6,vs o c.length p)]) (fun H a c d s n o p=>[row (vs s a.length n) 121 2 (a.flatMap wd),row (vs o c.length p) 121 2 (c.flatMap wd),stb x 117 [(.map<|some q)],xP q (ga wd) vI d]) (fun H a c d s n o p=>H) ⟨xT,ap,([]:List z6),([]:List (z6×Int)),V,W,none,0⟩ h .q (.s4 .h3 .here .here .here) ?_
  rintro(_|aq) a c d s n o p h;·cases h
  rw[gw] at h
  refine WC.b<|B1q U<|Le 14 (wc underlying112)<|Q1n U<|Lj h (fun Y h=>?_)<|fun Y h=>?_
  ·refine Np<|jK3 h fun Q ab h=>Pw (fun f g t B E F G=>(Q f g t=some r)) (fun f g t B E F G=>[(0,A),(4,vs B f.length E),(5,vp x),(6,vs F g.length G)]) (fun f g t B E F G=>[row (vs B f.length E) 121 2 (f.flatMap wd),row (vs F g.length G) 121 2 (g.flatMap wd),stb x 117 [(.map<|some q)],xP q (ga wd) vI t]) ?_ ?_
   ·refine WC.block<|jK0 h fun R ad h=>Nf (R=some r) ([]) ([]) ?_ ?_
    ·let C:Value:=(vs s a.length n);let D:Value:=(vs o c.length p);refine B1q U<|Le 17 (wc underlying112)<|Q1n U<|WC.block<|Ng (fun I b=>(gv a u d c Q R I b=some r)) (fun I b=>[(0,A),(4,C),(5,vp x),(6,D),(16,C),(17,vi (a.length:Int)),(18,vi b)]) (fun I b=>[row C 121 2 (a.flatMap wd),row D 121 2 (c.flatMap wd),stb x 117 [(.map<|some q)],xP q (ga wd) vI d]) (fun I b=>I) ⟨xT,0⟩ h .q .a4 ?_
     rintro(_|ar) b h;·cases h
     rw[gv] at h
     refine B1n U<|WC.b<|Lj h (fun ae h=>?_)<|fun ae h=>?_
     ·refine Np<|WC.b<|WC.block<|WC.b<|cK h fun J h=>D1q U<|N5 (fun w hw=>Hp.vf .here hw (by intro hz';have:=J;rw[hz'] at this;omega)) ?_
      rintro⟨af,rfl⟩
      refine Le 21 (xZ z9r J.1 J.2 wF)<|Le 22 (wo (cs:=(wd<|nth a b)) z71<|vQ .here<|wN (enc:=wd) (l:=a) (i:=b) (sz:=2) J.1 J.2) (Lh 8 (xV (cs:=[vi 0,vi 0]) ztO U) fun au _=>La U<|Lk (xR zxM .here)<|Q0n<|WC.b ?_)
      refine bK h fun ax ag h=>D1q U<|Le 24 (wO<|L5 (l:=[.tmp 8,.tmp 5])<|.r2 U U)<|Lo 25 (Nt call50) (.cons .h4 .nil) (uB hz (.cons .h4 .nil) (.s2 .here .h2) fun w pz ho la=>sx ag pz ((M.mono<|zl).weak (fun _ _ h=>qe zl h)) ((la _ (.head _) _).stb) ((la _ (.tail _<|.head _) _).stb) ho)<|Q2n U<|B1n U<|Lj h (fun ah h=>?_)<|fun ah h=>?_
      ·refine WC.b<|Lu (fun i=>[4,6].contains i) [W1 q (ga wd) vI (⟨(nth a b).ya,(nth a b).fQ⟩:z6) (0:Int) (xK d (⟨(nth a b).ya,(nth a b).fQ⟩:z6) 0)]<|Lg 0 U (Nu ztP .h4)<|Lg 1 U (xN z71 (xO .h1))<|L8 2 U (wJ.wk (.cons .here .nil)<|.any U (fun _ h=>pt h) .nil) (VI (k:=(⟨(nth a b).ya,(nth a b).fQ⟩:z6)) (dflt:=(0:Int)) zj5 underlying117 jc U U U .here)<|Lf 3 U uG<|Pv (i:=4) U (by kernel_rfl) U U U U (Gs (k:=(⟨(nth a b).ya,(nth a b).fQ⟩:z6)) (dflt:=(0:Int)) zj5 underlying117 jc U U U .here) (fun _=>(wJ.wk (.cons .here .nil)<|.any U (fun _ h=>Fh h) .nil)) ?_
       rintro av _
       refine Lf 5 U mK<|Na (i:=6) U (Qi (k:=(⟨(nth a b).ya,(nth a b).fQ⟩:z6)) (v:=i64 ((xK d (⟨(nth a b).ya,(nth a b).fQ⟩:z6) 0)+1)) U U U U .here)<|N1<|Lb<|WC.b<|cK h fun ai h=>D1q U<|Le 35 (xN z71 (xO .h1)) (Lh 36 (wn (cs:=([(⟨(nth a b).ya,(nth a b).fQ⟩:z6)]:List z6).flatMap wd) z9r (Lq (l:=[.tmp 35]) (.cons U .nil) [0])) fun aw _=>WL.fA 37 (jN (enc:=wd) (l1:=c) (l2:=([(⟨(nth a b).ya,(nth a b).fQ⟩:z6)]:List z6)) z9r .h4 (j4 .here) (kZ dK) ai) ?_)
       rintro⟨aj,ak⟩ _
       refine Q1n U<|WC.b<|bK h fun S al h=>D4q U<|H4 U (Nt call78) (.cons .h4 .nil) (cc hz (.cons .h4 .nil) fun w pz ho=>Wc (ao:=(some ⟨af,0,none⟩)) (cap:=n) (l:=a) (i:=b) (j:=(i64 (b+1))) (r:=S) pz  al ho) ?_
       rintro am an _
       exact Q1n U<|N2<|Ow U<|Ln<|Ln<|Ow U<|Ln<|Lv<|Lp ⟨S,c++([(⟨(nth a b).ya,(nth a b).fQ⟩:z6)]:List z6),(w7 d (⟨(nth a b).ya,(nth a b).fQ⟩:z6)<|i64 ((xK d (⟨(nth a b).ya,(nth a b).fQ⟩:z6) 0)+1)),am,an,aj,ak⟩ h .q<|.s4 .here .here .h3 .h1
      ·exact N3<|Lt<|Lb<|D2q U<|WL.nil<|N0 ⟨ar,i64 (b+1)⟩ h .q<|.s4 .h2 .h2 .h2 .here
     ·exact N2<|Ln<|Ln<|Lv<|Lp () h .nil .nil
    ·rintro  h
     replace h:=ad.symm.trans h
     exact B2n U<|Nz<|Lx<|Ll<|Ll<|Lx<|Ll<|Py<|WX.nilRow 121 2<|oJ h▸Li results42 (.tmp U<|.tmp U .nil) fun w hw=>⟨none,0,qc,trivial,hw.sub (.cons .here .nil)⟩
   ·rintro f g t B E F G h
    replace h:=(ab f g t).symm.trans h
    exact N0 ⟨aq,f,g,t,B,E,F,G⟩ h .q<|.a4
  ·exact N2<|Ln<|Ln<|Lv<|Lp ⟨c,o,p⟩ h (.cons U .nil)<|.cons .h1 .nil
 ·rintro m y z h
  replace h:=(X m).symm.trans h
  exact B3n U<|Nz<|Py<|oJ h▸Li results42 (.tmp U<|.tmp U .nil) fun w hw=>⟨y,z,qc,trivial,hw.sub (.cons .here .nil)⟩
def fu(b:List z6×Int)(d:(List ys)->Option (List ys×Int)):Nat->(List ys)->Int->Option (List ys×Int)
 | 0,_,_=>none
 | e+1,c,a=>if decide (a<b.1.length) then chk (0<=a/\a<b.1.length) (chk ((((c++([({(nth b.1 a) with yl:=0,fT:=0}:ys)]:List ys)).length:Nat):Int)*32<=140737488355328/\(((c++([({(nth b.1 a) with yl:=0,fT:=0}:ys)]:List ys)).length:Nat):Int)<=4611686018427387904) (fu b d e (c++([({(nth b.1 a) with yl:=0,fT:=0}:ys)]:List ys)) (i64 (a+1)))) else d c
def mL(c:zy)(d:Int)(a:List (List zd)):Option (List ys×Int):=
 (gc c d a).bind fun e=>if !e then some (([]:List ys),310) else(ux a).bind fun b=>qt (fun(f:List ys)=>some (f,b.2)) fun g=>fu b g xT ([]:List ys) 0
theorem Qk{Z p q s t u x y z B C D E F G H I K L a M J r}(h:mL a M J=some r){Ny}(hz:PZ [] Ny Z)(R:ZS Z 4 (kB Z) p q a.fM)(S:ZS Z 4 (g8 Z) s t a.ye)(T:ZS Z 4 (rq kr) u x a.fS)(V:ZS Z 4 (rq gH) y z a.fK)(W:ZS Z 7 (g7 Z) B C a.yb)(X:ZS Z 5 (rq gf) D E a.fH)(Y:ZS Z 3 (g9 Z) F G a.fU)(ab:ZS Z 4 (rq gg) H I a.yf)(N:ZS Z 1 (fm Z) K L J):
  Calls Tryz.prog 24 #[.agg #[vs p a.fM.length q,vs s a.ye.length t,vs u a.fS.length x,vs y a.fK.length z,vs B a.yb.length C,vs D a.fH.length E,vs F a.fU.length G,vs H a.yf.length I],vi M,vs K J.length L] Ny fun e w'=>∃ O:Option Addr,∃ P:Nat,e = .returned (.tuple #[vs O r.1.length P,vi r.2])/\True/\Hp [] Ny w' [row (vs O r.1.length P) 37 4 (r.1.flatMap jU)]:=by
 unfold mL at h
 refine Nl func24 U U<|B0q (Lh 3 (we (cs:=[vs p a.fM.length q,vs s a.ye.length t,vs u a.fS.length x,vs y a.fK.length z,vs B a.yb.length C,vs D a.fH.length E,vs F a.fU.length G,vs H a.yf.length I])) fun ao _=>Q2n U<|WC.b<|WC.b ?_)
 refine bK h fun au ad h=>Ld<|Le 13 (xN z2A (xO .here))<|Q2q U<|Ns call22 hz (fun pz=>tK ad pz R S T V W X Y ab N)<|Q1n U<|Lj h (fun ae h=>?_)<|fun ae h=>?_
 ·exact B2n U<|Nz<|Ll<|WX.nilRow 37 4<|oJ h▸Li results24 (.tmp U<|.tmp U .nil) fun w hw=>⟨none,0,qc,trivial,hw.sub (.cons .here .nil)⟩
 ·refine Np<|WC.b<|bK h fun c af h=>D1q U<|H4 U (Nt call42) .nil (cc hz .nil fun w pz ho=>aa af pz N) ?_
  rintro al am _
  refine Q5n U<|B1n U<|jK1 h fun Q ag h=>Ni (fun f k m=>(Q f=some r)) (fun f k m=>[(9,vi c.2),(10,vs k f.length m)]) (fun f k m=>[row (vs k f.length m) 37 4 (f.flatMap jU)]) ?_ ?_
  ·let A:Value:=(vs al c.1.length am);refine B1q U<|Le 24 (wc underlying112)<|Q1n U<|WC.block<|WC.nilRow 37 4<|Oe (fun n d b g j=>(fu c Q n d b=some r)) (fun n d b g j=>[(9,vi c.2),(10,vs g d.length j),(23,A),(24,vi (c.1.length:Int)),(25,vi b)]) (fun n d b g j=>[row (vs g d.length j) 37 4 (d.flatMap jU),row A 121 2 (c.1.flatMap wd)]) (fun n d b g j=>n) ⟨xT,([]:List ys),0,none,0⟩ h .q .a2 ?_
   rintro(_|an) d b g j h;·cases h
   rw[fu] at h
   refine B1n U<|WC.b<|Lj h (fun ah h=>?_)<|fun ah h=>?_
   ·refine Np<|WC.b<|WC.block<|WC.b<|cK h fun o h=>Ld<|N5 (fun w hw=>Hp.vf .h1 hw (by intro hz';have:=o;rw[hz'] at this;omega)) ?_
    rintro⟨ap,rfl⟩
    refine Le 27 (xZ z9r o.1 o.2 wF)<|Le 28 (wo (cs:=(wd<|nth c.1 b)) z71<|vQ .h1<|wN (enc:=wd) (l:=c.1) (i:=b) (sz:=2) o.1 o.2) (Lh 12 (xV (cs:=[vi 0,vi 0]) ztO U) fun aq _=>Lk (xR zxM .here)<|Q0n ?_)
    refine cK h fun ai h=>D1q U<|Le 30 (xB lM)<|Le 31 (Nu xL .here)<|Le 32 (xB cP)<|Le 33 (Nu xL .here)<|Le 34 (wl (v:=(.agg #[(vi<|(nth c.1 b).ya),(vi<|(nth c.1 b).fQ),vi 0,vi 0])) (Lq (l:=[.tmp 31,.tmp 33]) (.r2 U U) [0,1])) (Lh 35 (wn (cs:=([({(nth c.1 b) with yl:=0,fT:=0}:ys)]:List ys).flatMap jU) z8F (Lq (l:=[.tmp 34]) (.cons U .nil) [0])) fun ar _=>WL.fA 36 (jN (enc:=jU) (l1:=d) (l2:=([({(nth c.1 b) with yl:=0,fT:=0}:ys)]:List ys)) z8F .h2 (j4 .here) (kZ W6) ai) ?_)
    rintro⟨aj,ak⟩ _
    exact La U<|WL.nil<|Lt<|Lb<|D2q U<|WL.nil<|N0 ⟨an,d++([({(nth c.1 b) with yl:=0,fT:=0}:ys)]:List ys),i64 (b+1),aj,ak⟩ h .q<|.s2 .here .h2
   ·exact N2<|Ln<|Ln<|Lv<|Lp ⟨d,g,j⟩ h .q<|.cons .here .nil
  ·rintro f k m h
   replace h:=(ag f).symm.trans h
   exact B4n U<|Nz<|oJ h▸Li results24 (.tmp U<|.tmp U .nil) fun w hw=>⟨k,m,qc,trivial,hw.sub (.cons .here .nil)⟩
def g0(b:Int)(c:Option Bool):Nat->Int->Option Bool
 | 0,_=>none
 | d+1,a=>if decide (a<=12800) then if decide (a=b) then some true else g0 b c d (i64 (a*2)) else c
def ob(a:Int):Option Bool:=
 uN (some false) fun b=>g0 a b xT 100
theorem Kw{Z c r}(h:ob c=some r){Ny}(hz:PZ [] Ny Z):
  RC 41 #[vi c] Ny (.bool r) [] []:=by
 unfold ob at h
 refine Nb func41 U U<|B1n U<|jK0 h fun d e h=>Nf (d=some r) ([]) ([]) ?_ ?_
 ·refine B1n U<|WC.block<|Ng (fun b a=>(g0 c d b a=some r)) (fun b a=>[(0,vi c),(3,vi a)]) (fun b a=>[]) (fun b a=>b) ⟨xT,100⟩ h .q .nil ?_
  rintro(_|i) a h;·cases h
  rw[g0] at h
  refine WC.b<|B2n U<|Lj h (fun f h=>?_)<|fun f h=>?_
  ·refine Np<|WC.b<|WC.block<|B3n U<|Lj h (fun g h=>?_)<|fun g h=>?_
   ·exact B1n U<|Nz<|Lx<|Ll<|Ll<|Lx<|Ll<|oJ h▸Nm results41
   ·exact N3<|Lt<|Lb<|D3q U<|WL.nil<|N0 ⟨i,i64 (a*2)⟩ h .q .nil
  ·exact N2<|Ln<|Ln<|Lv<|Lp () h .nil .nil
 ·rintro  h
  replace h:=e.symm.trans h
  exact B1n U<|Nz<|oJ h▸Nm results41
def ky(a:yy):Option Bool:=
 (ob a.yD).bind fun b=>some (((!b)||(decide (a.yz<1)))||(decide (a.yz>72)))
theorem YJ{Z b c a r}(h:ky a=some r){Ny}(hz:PZ [] Ny Z)(i:ZS Z 3 (rq dJ) b c a.yN):
  RC 40 #[.agg #[.string a.yB,.string a.yq.yA,.string a.yq.yF,.string a.yq.yI,vi a.yD,vi a.yz,vs b a.yN.length c]] Ny (.bool r) [] []:=by
 unfold ky at h
 refine Nb func40 U U<|B0q (Lh 1 (we (cs:=[.string a.yB,.string a.yq.yA,.string a.yq.yF,.string a.yq.yI,vi a.yD,vi a.yz,vs b a.yN.length c])) fun j _=>Q1n U<|WC.b ?_)
 refine bK h fun d e h=>Ld<|Le 3 (xB Yu)<|Le 4 (Nu xL .here)<|Ns call41 hz (Kw e)<|Q2q U<|Ly false 3 7 (B:=(!d)||(decide (a.yz<1))) (hB:=(fun h=>(fc h).symm)) (fun _ f=>?_) ?_
 ·exact Le 8 (xB rJ)<|Le 9 (Nu xL .here)<|Q2q U<|Lz (ff f) U .all
 refine La U<|Ly false 3 12 (B:=((!d)||(decide (a.yz<1)))||(decide (a.yz>72))) (hB:=(fun h=>(fc h).symm)) (fun _ g=>?_) ?_
 ·exact Le 13 (xB rJ)<|Le 14 (Nu xL .here)<|Q2q U<|Lz (ff g) U .all
 exact Q1n U<|Nz<|oJ h▸Nm results40
def vd(b:List yy)(zck:yy->Option Bool)(c:Option Int):Nat->Int->Option Int
 | 0,_=>none
 | d+1,a=>if decide (a<b.length) then chk (0<=a/\a<b.length) ((zck (⟨(nth b a).yB,(⟨((nth b a).yq).yA,((nth b a).yq).yF,((nth b a).yq).yI⟩:yG),(nth b a).yD,(nth b a).yz,(nth b a).yN⟩:yy)).bind fun e=>if e then some a else vd b zck c d (i64 (a+1))) else c
def kT(a:List yy)(zck:yy->Option Bool):Option Int:=
 uN (some (-1)) fun b=>vd a zck b xT 0
theorem ov{Z d g}(zmj zuz){b}(zck){r}(h:kT b zck=some r){Ny}(hz:PZ [] Ny Z)(j:ZS Z 7 (g7 Z) d g b)(k:∀ args w,(callFunc zmj args).run Tryz.prog w = .ok (.enter zmj args) w)(m:∀ w:World,PZ [] w Z->∀(x0:yy) (lm:Option Addr) (iQ:Nat) (r:Bool),ZS Z 3 (rq dJ) lm iQ x0.yN->zck x0=some r->Calls Tryz.prog zmj (([.agg #[.string x0.yB,.string x0.yq.yA,.string x0.yq.yF,.string x0.yq.yI,vi x0.yD,vi x0.yz,vs lm x0.yN.length iQ]]:List Value)++zuz).toArray w fun e w'=>e = .returned (.bool r)/\Hp [] w w' []):
  RC 72 #[vs d b.length g,.func (.func zmj) #[] (zuz).toArray] Ny (vi r) [] []:=by
 unfold kT at h
 refine L0 func72 U U<|B1n U<|jK0 h fun i n h=>Nf (i=some r) ([]) ([]) ?_ ?_
 ·refine B1q U<|Le 7 (wc underlying26)<|Q1n U<|WC.block<|Ng (fun c a=>(vd b zck i c a=some r)) (fun c a=>[(0,vs d b.length g),(1,.func (.func zmj) #[] (zuz).toArray),(7,vi (b.length:Int)),(8,vi a)]) (fun c a=>[]) (fun c a=>c) ⟨xT,0⟩ h .q .nil ?_
  rintro(_|y) a h;·cases h
  rw[vd] at h
  refine B1n U<|WC.b<|Lj h (fun o h=>?_)<|fun o h=>?_
  ·refine Np<|WC.b<|WC.block<|B2n U<|WC.b<|cK h fun p h=>bK h fun z q h=>D3q U<|L2 (Z:=Z) (Pr:=(g7 Z)) zdQ j p ?_
   rintro A B s C ⟨t,u,rfl,v⟩
   refine Le 15 (xN zCN (qB hz.pv s))<|Lo 16 (qk (l:=[.tmp 15]) (f:=zmj) (caps:=zuz) k<|.cons U .nil) .nil (fun w hw=>m w (hz.now hw) (⟨(nth b a).yB,(⟨((nth b a).yq).yA,((nth b a).yq).yF,((nth b a).yq).yI⟩:yG),(nth b a).yD,(nth b a).yz,(nth b a).yN⟩:yy) t u z v q)<|Q0n<|Lj h (fun x h=>?_)<|fun x h=>?_
   ·exact B2n U<|Nz<|Lx<|Ll<|Ll<|Lx<|Ll<|oJ h▸Nm results72
   ·exact N3<|Lt<|Lb<|D2q U<|WL.nil<|N0 ⟨y,i64 (a+1)⟩ h .q .nil
  ·exact N2<|Ln<|Ln<|Lv<|Lp () h .nil .nil
 ·rintro  h
  replace h:=n.symm.trans h
  exact B1n U<|Nz<|oJ h▸Nm results72
def qR(a:List yy)(zpx:yy->Option Bool):Option Bool:=
 (kT a zpx).bind fun b=>some (decide (b>=0))
theorem pQ{Z b c}(zpy zyA){a}(zpx){r}(h:qR a zpx=some r){Ny}(hz:PZ [] Ny Z)(d:ZS Z 7 (g7 Z) b c a)(f:∀ args w,(callFunc zpy args).run Tryz.prog w = .ok (.enter zpy args) w)(g:∀ w:World,PZ [] w Z->∀(x0:yy) (lm:Option Addr) (iQ:Nat) (r:Bool),ZS Z 3 (rq dJ) lm iQ x0.yN->zpx x0=some r->Calls Tryz.prog zpy (([.agg #[.string x0.yB,.string x0.yq.yA,.string x0.yq.yF,.string x0.yq.yI,vi x0.yD,vi x0.yz,vs lm x0.yN.length iQ]]:List Value)++zyA).toArray w fun e w'=>e = .returned (.bool r)/\Hp [] w w' []):
  RC 39 #[vs b a.length c,.func (.func zpy) #[] (zyA).toArray] Ny (.bool r) [] []:=by
 unfold qR at h
 exact L0 func39 U U<|B1n U<|WC.b<|bK h fun j i h=>D2q U<|Ns call72 hz (fun pz=>ov (zmj:=zpy) (zuz:=zyA) (zck:=zpx) i pz d f g)<|Q2n U<|Nz<|oJ h▸Nm results39
def fV(a:zd)(b:z6):Option Bool:=
 (mw a).bind fun c=>some (decide (c=b))
theorem dV{Z e c d r}(h:fV c d=some r){Ny}(hz:PZ [] Ny Z)(f:ZC Z e [vi d.ya,vi d.fQ]):
  RC 117 #[.agg #[vi c.ya,vi c.fX,vi c.fQ],vq e] Ny (.bool r) [] []:=by
 unfold fV at h
 refine L0 func117 U U<|B0q (Lh 2 (we (cs:=[vi c.ya,vi c.fX,vi c.fQ])) fun j _=>Q1n U<|WC.b ?_)
 exact bK h fun i g h=>Lu nc []<|Lg 0 U (xN z5e (xO .here))<|L4 1 U (Nt call60) (cc hz .nil fun w pz ho=>tL g pz )<|Lg 2 U (xN z71 (qB hz.pv f))<|Lf 3 U (lF (enc:=wd) (a:=i) (b:=d) zxN)<|Lf 4 U q_z<|N1<|Lb<|Nz<|oJ h▸Nm results117
def vG(a:List zd)(zpA:zd->Option Bool):Option Bool:=
 (wG a zpA).bind fun b=>some (decide (b>=0))
theorem re{Z b c}(zpB zyB){a}(zpA){r}(h:vG a zpA=some r){Ny}(hz:PZ [] Ny Z)(d:ZS Z 3 (rq mQ) b c a)(f:∀ args w,(callFunc zpB args).run Tryz.prog w = .ok (.enter zpB args) w)(g:∀ w:World,PZ [] w Z->∀(x0:zd) (r:Bool),zpA x0=some r->Calls Tryz.prog zpB (([.agg #[vi x0.ya,vi x0.fX,vi x0.fQ]]:List Value)++zyB).toArray w fun e w'=>e = .returned (.bool r)/\Hp [] w w' []):
  RC 75 #[vs b a.length c,.func (.func zpB) #[] (zyB).toArray] Ny (.bool r) [] []:=by
 unfold vG at h
 exact L0 func75 U U<|B1n U<|WC.b<|bK h fun j i h=>D2q U<|Ns call94 hz (fun pz=>jR (zdY:=zpB) (zjh:=zyB) (z9w:=zpA) i pz d f g)<|Q2n U<|Nz<|oJ h▸Nm results75
def jK(a:Int):Option z2:=
 some (⟨a,1⟩:z2)
theorem uy{Z a r}(h:jK a=some r){Ny}(hz:PZ [] Ny Z):
  RC 80 #[vi a] Ny (.agg #[vi r.fN,vi r.fD]) [] []:=by
 unfold jK at h
 refine Nb func80 U U<|B0q (Lh 2 (xV (cs:=[vi 0,vi 0]) z1F U) fun b _=>Q0n<|B1q U<|Le 4 (wl (v:=(.agg #[vi a,vi 1])) (Lq (l:=[.tmp 3,.const (vi 1)]) (.r2 U U) [0,1]))<|Lk (xR z16 .here)<|Q0n<|Nz ?_)
 exact oJ h▸Nn results80 (.agg U zg U (xO .here) .nil) .nil
def tP(a:Int):Option Int:=
 if decide (a<0) then some (u64 ((u64 (i64 (0-(i64 (a+1)))))+1)) else some (u64 a)
theorem c8{Z a r}(h:tP a=some r){Ny}(hz:PZ [] Ny Z):
  RC 166 #[vi a] Ny (.int .u64 r) [] []:=by
 unfold tP at h
 refine Nb func166 U U<|B1n U<|WC.b<|B2n U<|Lj h (fun b h=>?_)<|fun b h=>?_
 ·exact B2q U<|Le 7 (Qp U U)<|Le 8 (fF underlying3 underlying212)<|Q2n U<|Nz<|Ll<|oJ h▸Nm results166
 ·exact Np<|B1q U<|Le 11 (fF underlying3 underlying212)<|Q1n U<|Nz<|oJ h▸Nm results166
def jx(b:Int->Option Int):Nat->Int->Int->Option Int
 | 0,_,_=>none
 | d+1,c,a=>if decide (a≠0) then chk ((a:Int)≠0) (jx b d a (Int.tmod c a)) else b c
def mZ(a:Int)(b:Int):Option Int:=
 qt (fun(c:Int)=>some c) fun d=>jx d xT a b
theorem cY{Z e f r}(h:mZ e f=some r){Ny}(hz:PZ [] Ny Z):
  RC 165 #[.int .u64 e,.int .u64 f] Ny (.int .u64 r) [] []:=by
 unfold mZ at h
 refine L0 func165 U U<|B1n U<|jK1 h fun g i h=>L6 (fun c=>(g c=some r)) (fun c=>[(0,.int .u64 c)]) (fun c=>[]) ?_ ?_
 ·refine WC.block<|H0 (fun d a b=>(jx g d a b=some r)) (fun d a b=>[(0,.int .u64 a),(1,.int .u64 b)]) (fun d a b=>[]) (fun d a b=>d) ⟨xT,e,f⟩ h .q .nil ?_
  rintro(_|l) a b h;·cases h
  rw[jx] at h
  refine WC.b<|B2n U<|Lj h (fun j h=>?_)<|fun j h=>?_
  ·exact Np<|WC.block<|cK h fun k h=>Lu nc []<|Lf 0 U q_m<|Lf 1 U q_m<|Lf 2 U q_m<|Lf 3 U (XV k)<|Lf 4 U q_z<|Lf 5 U q_z<|N1<|Lt<|N0 ⟨l,b,Int.tmod a b⟩ h .q .nil
  ·exact N2<|Ln<|Ln<|Lv<|Lp a h (.cons U .nil) .nil
 ·rintro c h
  replace h:=(i c).symm.trans h
  exact B2n U<|Nz<|oJ h▸Nm results165
def uJ(e:Int)(c:Int):Option (z2×Int):=
 if decide (c=0) then some ((⟨0,0⟩:z2),2) else(tP e).bind fun b=>(tP c).bind fun d=>(mZ b d).bind fun a=>chk ((a:Int)≠0) (if (decide ((u64 (Int.tdiv b a))>1073741824))||(decide ((u64 (Int.tdiv d a))>1073741824)) then some ((⟨0,0⟩:z2),3) else qt (fun(g:Int)=>some ((⟨g,i64 (u64 (Int.tdiv d a))⟩:z2),0)) fun f=>if (decide (e<0)) != (decide (c<0)) then f (i64 (0-(i64 (u64 (Int.tdiv b a))))) else f (i64 (u64 (Int.tdiv b a))))
theorem l4{Z c d r}(h:uJ c d=some r){Ny}(hz:PZ [] Ny Z):
  RC 160 #[vi c,vi d] Ny (.tuple #[.agg #[vi r.1.fN,vi r.1.fD],vi r.2]) [] []:=by
 unfold uJ at h
 refine L0 func160 U U<|B0q (Lh 4 (xV (cs:=[vi 0,vi 0]) z1F U) fun e _=>Q1n U<|WC.b<|B2n U<|Lj h (fun k h=>?_)<|fun k h=>?_)
 ·exact B0q<|Le 12 (wl (v:=(.agg #[vi 0,vi 0])) (Lq (l:=[]) .nil []))<|Lk (xR z16 .here)<|Q1n U<|Nz<|Ll<|oJ h▸Nn results160 (.agg U zg U (xO .here)<|.tmp U .nil) .nil
 ·refine Np<|WC.b<|bK h fun f m h=>bK h fun g n h=>D1q U<|Ns call166 hz (c8 m)<|La U<|Ns call166 hz (c8 n)<|Q2n U<|WC.b<|bK h fun b o h=>D2q U<|Ns call165 hz (cY o)<|Q1n U<|WC.b<|cK h fun i h=>Lu nc []<|Lf 0 U q_m<|Lf 1 U q_m<|Lf 2 U (eH i)<|Lf 3 U q_m<|Lf 4 U q_m<|Lf 5 U (eH i)<|Lf 6 U q_z<|Lf 7 U q_z<|N1<|Lb<|WC.b<|B3q U<|Ly false 2 28 (B:=(decide ((u64<|Int.tdiv f b)>1073741824))||(decide ((u64<|Int.tdiv g b)>1073741824))) (hB:=(fun h=>(fc h).symm)) (fun _ p=>?_) ?_
  ·exact Q3q U<|Lz (ff p) U .all
  refine Q0n<|Lj h (fun q h=>?_)<|fun q h=>?_
  ·exact B0q<|Le 32 (wl (v:=(.agg #[vi 0,vi 0])) (Lq (l:=[]) .nil []))<|Lk (xR z16 .here)<|Q1n U<|Nz<|Ll<|oJ h▸Nn results160 (.agg U zg U (xO .here)<|.tmp U .nil) .nil
  ·let A:=(i64 (u64 (Int.tdiv f b)));let C:Value:=(vi (i64 (u64 (Int.tdiv g b))));refine Np<|B1q U<|Le 34 (fF underlying212 underlying3)<|La U<|Le 36 (fF underlying212 underlying3)<|Le 37 (wl (v:=(.agg #[vi A,C])) (Lq (l:=[.tmp 34,.tmp 36]) (.r2 U U) [0,1]))<|Lh 9 (xV (cs:=[vi 0,vi 0]) z1F U) ?_
   intro j _
   refine Lk (xR z16 .here)<|Q0n<|jK1 h fun u s h=>L6 (fun a=>(u a=some r)) (fun a=>[(4,vp e),(9,vp j)]) (fun a=>[stb e 175 [vi 0,vi 0],stb j 175 [vi a,C]]) ?_ ?_
   ·refine B0q<|La U<|La U<|La U<|La U<|Le 42 (Tk underlying4 U U)<|Q0n<|Lj h (fun t h=>?_)<|fun t h=>?_
    ·exact Ld<|Le 43 (xB jI)<|Le 44 (Nu xL .here)<|Le 45 (Qp U U)<|Le 46 (xB jI)<|Lk (jl (ds:=[(vi<|i64 (0-A)),C]) px .here)<|WL.nil<|Lp (i64 (0-A)) h .q<|.s2 .h1 .here
    ·exact N3<|Lp A h .q<|.s2 .h1 .here
   ·rintro a h
    replace h:=(s a).symm.trans h
    exact B0q<|Le 47 (xN zg (xO .h1))<|Lk (xR z16 .here)<|Q1n U<|Nz<|oJ h▸Nn results160 (.agg U zg U (xO .here)<|.tmp U .nil) .nil
def gU(b:zy)(d:List (List zd))(e:List (ym×z2))(f:List (z6×Int))(g:Int)(a:Int):Option z2:=
 chk (0<=a/\a<b.yb.length) ((uJ ((nth b.yb a).yz) ((nth b.yb a).yD)).bind fun c=>some c.1)
theorem pW{Z g k l m n o p q s t u v x y z A B C D b c a f d e E F r}(h:gU a f d e E F=some r){Ny}(hz:Pz [xP b (ga jQ) (ga w4) d,xP c (ga wd) vI e] Ny Z)(M:ZS Z 4 (kB Z) k l a.fM)(N:ZS Z 4 (g8 Z) m n a.ye)(O:ZS Z 4 (rq kr) o p a.fS)(P:ZS Z 4 (rq gH) q s a.fK)(G:ZS Z 7 (g7 Z) t u a.yb)(Q:ZS Z 5 (rq gf) v x a.fH)(R:ZS Z 3 (g9 Z) y z a.fU)(S:ZS Z 4 (rq gg) A B a.yf)(T:ZS Z 1 (fm Z) C D f)(H:ZC Z g [vs k a.fM.length l,vs m a.ye.length n,vs o a.fS.length p,vs q a.fK.length s,vs t a.yb.length u,vs v a.fH.length x,vs y a.fU.length z,vs A a.yf.length B,vs C f.length D,.map (some b),.map (some c),vi E])(iF:Ho Ny [xP b (ga jQ) (ga w4) d,xP c (ga wd) vI e]):
  RF 121 #[vq g,vi F] Ny (.agg #[vi r.fN,vi r.fD]) [xP b (ga jQ) (ga w4) d,xP c (ga wd) vI e] [xP b (ga jQ) (ga w4) d,xP c (ga wd) vI e]:=by
 unfold gU at h
 refine Nj func121 U iF U<|B0q (Lh 4 (xV (cs:=[vi 0,vi 0]) z1F U) fun V _=>Q0n<|WC.b ?_)
 refine cK h fun I h=>bK h fun al J h=>Lu (fun i=>[23].contains i) []<|Lf 0 U q_m<|Lf 1 U w5<|Lf 2 U (xB sa)<|Lf 3 U (xB mW)<|Lg 4 U (xC z8E U<|wt hz.pv H)<|Lf 5 U q_m<|L7 (j:=6) (Z:=Z) (Pr:=(g7 Z)) zdQ G I ?_
 rintro W X K Y ⟨aa,ab,rfl,ad⟩
 refine Lf 7 U (xB rJ)<|Lg 8 U (xC xL U<|wt hz.pv K)<|Lf 9 U q_m<|Lf 10 U w5<|Lf 11 U (xB sa)<|Lf 12 U (xB mW)<|Lg 13 U (xC z8E U<|wt hz.pv H)<|Lf 14 U q_m<|L7 (j:=15) (Z:=Z) (Pr:=(g7 Z)) zdQ G I ?_
 rintro ae af L ag ⟨ah,ai,rfl,aj⟩
 refine Lf 16 U (xB Yu)<|Lg 17 U (xC xL U<|wt hz.pv L)<|L4 18 U (Nt call160) (cc hz .nil fun w pz ho=>l4 J pz )<|Lf 19 U q_m<|Lf 20 U mK<|Lf 21 U mK (WD.new (i:=22) U U (xV (cs:=[vi 0,vi 0]) z1F U) (fun h'=>absurd h' (by decide)) fun ak _=>WD.forced0 (i:=23) U (wJ.of .nil) (xR z16 .here)<|Lf 24 U q_z<|N1<|Lb<|B0q<|Le 29 (xN zg (xO .here))<|Lk (xR z16 .h1)<|Q0n<|Nz ?_)
 exact oJ h▸Nn results121 (.agg U zg U (xO .here) .nil) (.s2 .h2 .h2)
def qJ(a:z2):Option Bool:=
 (if (((decide (a.fD>=1))&&(decide (a.fD<=1073741824)))&&(decide (a.fN>=(-1073741824))))&&(decide (a.fN<=1073741824)) then(tP a.fN).bind fun b=>(tP a.fD).bind fun c=>(mZ b c).bind fun d=>some (decide (d=1)) else some false).bind fun e=>some e
theorem jX{Z a r}(h:qJ a=some r){Ny}(hz:PZ [] Ny Z):
  RC 130 #[.agg #[vi a.fN,vi a.fD]] Ny (.bool r) [] []:=by
 unfold qJ at h
 refine Nb func130 U U<|B0q (Lh 1 (we (cs:=[vi a.fN,vi a.fD])) fun c _=>Q1n U<|WC.b ?_)
 obtain⟨y,o,h⟩:=za h
 let D:Value:=(.bool ((decide (a.fD>=1))&&(decide (a.fD<=1073741824))));refine Lu nc []<|Lf 0 U (xB kD)<|Lg 1 U (Nu xL .here)<|Lf 2 U (Qn U U)<|Lf 3 U q_m<|Nd (fuel':=21) [(1,vp c),(2,.bool false),(6,(.bool<|decide (a.fD>=1))),(10,D)] (vE 29 (dn 8)) ?_<|fun p=>?_
 rotate_left
 ·rcases Bool.eq_false_or_eq_true (decide (a.fD>=1)) with hb' | hb'
  ·have d:=hb';clear hb'
   refine L3 (i:=6) U d<|Lf 4 U (xB kD)<|Lg 5 U (Nu xL .here)<|Lf 6 U (Gk U U)<|Lf 7 U qO<|Lw (.cons .here .nil) ?_ p
   exact .r4 U U (zx<|Eq.symm d)<|zx<|kR d
  ·have e:=hb';clear hb'
   refine L3 (i:=6) U e<|Lm 4 U<|Lm 5 U<|Lm 6 U<|Lf 7 U qP<|Lw (.cons .here .nil) ?_ p
   exact .r4 U U (zx<|Eq.symm e)<|zx<|kQ e
 let C:Value:=(.bool (((decide (a.fD>=1))&&(decide (a.fD<=1073741824)))&&(decide (a.fN>=(-1073741824)))));refine WD.d (bz 8 21)<|Lf 8 U q_m<|Nd (fuel':=16) [(1,vp c),(2,.bool false),(11,D),(15,C)] (vE 29 (dn 13)) ?_<|fun q=>?_
 rotate_left
 ·rcases Bool.eq_false_or_eq_true ((decide (a.fD>=1))&&(decide (a.fD<=1073741824))) with hb' | hb'
  ·have f:=hb';clear hb'
   refine L3 (i:=11) U f<|Lf 9 U (xB jI)<|Lg 10 U (Nu xL .here)<|Lf 11 U (Qn U U)<|Lf 12 U qO<|Lw (.cons .here .nil) ?_ q
   exact .r4 U U (zx<|Eq.symm f)<|zx<|kR f
  ·have g:=hb';clear hb'
   refine L3 (i:=11) U g<|Lm 9 U<|Lm 10 U<|Lm 11 U<|Lf 12 U qP<|Lw (.cons .here .nil) ?_ q
   exact .r4 U U (zx<|Eq.symm g)<|zx<|kQ g
 let A:Value:=(.bool ((((decide (a.fD>=1))&&(decide (a.fD<=1073741824)))&&(decide (a.fN>=(-1073741824))))&&(decide (a.fN<=1073741824))));refine WD.d (bz 13 16)<|Lf 13 U q_m<|Nd (fuel':=11) [(1,vp c),(2,.bool false),(16,C),(20,A)] (vE 29 (dn 18)) ?_<|fun s=>?_
 rotate_left
 ·rcases Bool.eq_false_or_eq_true (((decide (a.fD>=1))&&(decide (a.fD<=1073741824)))&&(decide (a.fN>=(-1073741824)))) with hb' | hb'
  ·have j:=hb';clear hb'
   refine L3 (i:=16) U j<|Lf 14 U (xB jI)<|Lg 15 U (Nu xL .here)<|Lf 16 U (Gk U U)<|Lf 17 U qO<|Lw (.cons .here .nil) ?_ s
   exact .r4 U U (zx<|Eq.symm j)<|zx<|kR j
  ·have k:=hb';clear hb'
   refine L3 (i:=16) U k<|Lm 14 U<|Lm 15 U<|Lm 16 U<|Lf 17 U qP<|Lw (.cons .here .nil) ?_ s
   exact .r4 U U (zx<|Eq.symm k)<|zx<|kQ k
 refine WD.d (bz 18 11)<|Lf 18 U q_m<|Nd (fuel':=1) [(2,.bool false),(21,A),(30,.bool y)] (vE 29 (dn 28)) ?_<|fun t=>?_
 rotate_left
 ·rcases Bool.eq_false_or_eq_true ((((decide (a.fD>=1))&&(decide (a.fD<=1073741824)))&&(decide (a.fN>=(-1073741824))))&&(decide (a.fN<=1073741824))) with hb' | hb'
  ·have l:=hb';clear hb'
   have b:=ju o l
   obtain⟨z,u,b⟩:=za b
   obtain⟨B,v,b⟩:=za b
   obtain⟨E,x,b⟩:=za b
   replace b:=oJ b
   refine L3 (i:=21) U l<|Lf 19 U (xB jI)<|Lg 20 U (Nu xL .here)<|L4 21 U (Nt call166) (cc hz .nil fun w pz ho=>c8 u pz )<|Lf 22 U (xB kD)<|Lg 23 U (Nu xL .here)<|L4 24 U (Nt call166) (cc hz .nil fun w pz ho=>c8 v pz )<|L4 25 U (Nt call165) (cc hz .nil fun w pz ho=>cY x pz )<|Lf 26 U (eI U U)<|Lf 27 U qO<|Lw (.cons .here .nil) ?_ t
   exact .r3 U (zx<|Eq.symm l)<|zx b
  ·have m:=hb';clear hb'
   have n:=jv o m
   replace n:=oJ n
   refine L3 (i:=21) U m<|Lm 19 U<|Lm 20 U<|Lm 21 U<|Lm 22 U<|Lm 23 U<|Lm 24 U<|Lm 25 U<|Lm 26 U<|Lf 27 U qP<|Lw (.cons .here .nil) ?_ t
   exact .r3 U (zx<|Eq.symm m)<|zx n
 exact WD.d (bz 28 1)<|Lf 28 U q_z<|N1<|Lb<|Nz<|oJ h▸Nm results130
def c9(a:z2)(b:z2):Option (Int×Int):=
 some (i64 (a.fN*b.fN),i64 (a.fD*b.fD))
theorem Gz{Z c d a b r}(h:c9 a b=some r){Ny}(hz:PZ [] Ny Z)(e:ZC Z c [vi a.fN,vi a.fD])(f:ZC Z d [vi b.fN,vi b.fD]):
  RC 189 #[vq c,vq d] Ny (.tuple #[vi r.1,vi r.2]) [] []:=by
 unfold c9 at h
 exact L0 func189 U U<|B2n U<|WC.b<|Lu nc []<|Lf 0 U (xB jI)<|Lg 1 U (xC xL U<|wt hz.pv e)<|Lf 2 U (xB jI)<|Lg 3 U (xC xL U<|wt hz.pv f)<|Lf 4 U sX<|Lf 5 U (xB kD)<|Lg 6 U (xC xL U<|wt hz.pv e)<|Lf 7 U (xB kD)<|Lg 8 U (xC xL U<|wt hz.pv f)<|Lf 9 U sX<|Lf 10 U q_z<|Lf 11 U q_z<|N1<|Lb<|Nz<|oJ h▸Nn results189 (.tmp U<|.tmp U .nil) .nil
def cZ(a:z2)(b:z2):Option (z2×Int):=
 (qJ a).bind fun e=>(if !e then some true else(qJ b).bind fun f=>some (!f)).bind fun g=>if g then some ((⟨0,0⟩:z2),2) else(c9 a b).bind fun c=>(uJ c.1 c.2).bind fun d=>some (d.1,d.2)
theorem MJ{Z a b r}(h:cZ a b=some r){Ny}(hz:PZ [] Ny Z):
  RC 159 #[.string ⟨#[42]⟩,.agg #[vi a.fN,vi a.fD],.agg #[vi b.fN,vi b.fD]] Ny (.tuple #[.agg #[vi r.1.fN,vi r.1.fD],vi r.2]) [] []:=by
 unfold cZ at h
 refine Nl func159 U U<|B0q (Lh 4 (we (cs:=[vi a.fN,vi a.fD])) fun d _=>Lh 5 (we (cs:=[vi b.fN,vi b.fD])) fun e _=>Lh 6 (xV (cs:=[vi 0,vi 0]) z1F U) fun s _=>Q1n U<|WC.b<|WC.b ?_)
 refine bK h fun u i h=>bK h fun f g h=>Ld<|Le 9 (xN zg (xO .h2))<|Ns call130 hz (jX i)<|Q2q U<|Ly false 3 12 (B:=f) (hB:=(fun h=>(oJ<|ju g h).symm)) (fun _ j=>?_) ?_
 ·have c:=jv g j
  obtain⟨y,m,c⟩:=za c
  replace c:=oJ c
  exact Le 13 (xN zg (xO .h1))<|Ns call130 hz (jX m)<|Q2q U<|Lz c U .all
 refine La U<|Ly false 7 17 (B:=f) (hB:=(fun h=>h)) (fun _ n=>?_) ?_
 ·exact La U<|Le 19 (Ys (r:=false) U U)<|La U<|WL.e U U<|WL.e U U<|WL.e U U<|Q2q U<|Lz (Eq.symm n) U .all
 refine Q0n<|Lj h (fun o h=>?_)<|fun o h=>?_
 ·exact B0q<|Le 26 (wl (v:=(.agg #[vi 0,vi 0])) (Lq (l:=[]) .nil []))<|Lk (xR z16 .here)<|Q1n U<|Nz<|Ll<|oJ h▸Nn results159 (.agg U zg U (xO .here)<|.tmp U .nil) .nil
 ·refine Np<|B0q<|Lh 27 (kq Value.string<|fun x=>x) ?_
  intro t _
  let A:Value:=(.func (.func 189) #[] #[vp d,vp e]);refine Le 28 (wO<|L5 (l:=[.tmp 4,.tmp 5])<|.r2 U U)<|Lk (gR (k:=⟨#[43]⟩) (v:=(.func (.func 187) #[] #[vp d,vp e])) fJ underlying304 .here)<|Le 29 (wO<|L5 (l:=[.tmp 4,.tmp 5])<|.r2 U U)<|Lk (gR (k:=⟨#[45]⟩) (v:=(.func (.func 188) #[] #[vp d,vp e])) fJ underlying304 .here)<|Le 30 (wO<|L5 (l:=[.tmp 4,.tmp 5])<|.r2 U U)<|Lk (gR (k:=⟨#[42]⟩) (v:=A) fJ underlying304 .here)<|Le 31 (wO<|L5 (l:=[.tmp 4,.tmp 5])<|.r2 U U)<|Lk (gR (k:=⟨#[47]⟩) (v:=(.func (.func 190) #[] #[vp d,vp e])) fJ underlying304 .here)<|Q2n U<|WC.b ?_
  exact bK h fun z p h=>bK h fun C q h=>D2q U<|Le 35 (Yr (k:=⟨#[42]⟩) (dflt:=.nilFunc) (r:=A) fJ underlying304 zxO U U U .here)<|Lo 36 (qk (l:=[]) call189 .nil) .nil (uB hz .nil (.s2 .h3 .h2) fun w pz ho la=>Gz p pz ((la _ (.head _) _).stb)<|(la _ (.tail _<|.head _) _).stb)<|Q2q U<|Ns call160 hz (l4 q)<|Q2q U<|Lk (xR z16 .h1)<|Q1n U<|Nz<|oJ h▸Nn results159 (.agg U zg U (xO .here)<|.tmp U .nil) .nil
def gz(b:z2)(c:z2):Option (z2×Int):=
 (cZ b c).bind fun a=>some (a.1,a.2)
theorem aM{Z a b r}(h:gz a b=some r){Ny}(hz:PZ [] Ny Z):
  RC 120 #[.agg #[vi a.fN,vi a.fD],.agg #[vi b.fN,vi b.fD]] Ny (.tuple #[.agg #[vi r.1.fN,vi r.1.fD],vi r.2]) [] []:=by
 unfold gz at h
 refine L0 func120 U U<|B0q (Lh 2 (we (cs:=[vi a.fN,vi a.fD])) fun d _=>Lh 3 (we (cs:=[vi b.fN,vi b.fD])) fun e _=>Lh 4 (xV (cs:=[vi 0,vi 0]) z1F U) fun f _=>Q1n U<|WC.b ?_)
 exact bK h fun g c h=>Ld<|Le 6 (xN zg (xO .h2))<|Le 7 (xN zg (xO .h1))<|Ns call159 hz (MJ c)<|Q2q U<|Lk (xR z16 .here)<|Q1n U<|Nz<|oJ h▸Nn results120 (.agg U zg U (xO .here)<|.tmp U .nil) .nil
def gX(h:zy)(i:List (List zd))(j:List (ym×z2))(k:List (z6×Int))(b:Int)(zjv:z2->z2->Option (z2×Int))(e:z2)(f:z2):Option (z2×Int):=
 (zjv e f).bind fun a=>qt (fun(c:Int)=>if decide (a.2≠0) then(jK 0).bind fun g=>some (g,c) else some (a.1,c)) fun d=>if decide (b=0) then d a.2 else d b
theorem rY{Z g i j k m n o p q s t u v x y z B K L b c}(zgi zmq){a d M N S}(zjv){O P r}(h:gX a d M N S zjv O P=some r){Ny}(hz:Pz [stb g 119 [vs i a.fM.length j,vs k a.ye.length m,vs n a.fS.length o,vs p a.fK.length q,vs s a.yb.length t,vs u a.fH.length v,vs x a.fU.length y,vs z a.yf.length B,vs K d.length L,.map (some b),.map (some c),vi S],xP b (ga jQ) (ga w4) M,xP c (ga wd) vI N] Ny Z)(ag:ZS Z 4 (kB Z) i j a.fM)(ah:ZS Z 4 (g8 Z) k m a.ye)(ai:ZS Z 4 (rq kr) n o a.fS)(aj:ZS Z 4 (rq gH) p q a.fK)(ak:ZS Z 7 (g7 Z) s t a.yb)(al:ZS Z 5 (rq gf) u v a.fH)(am:ZS Z 3 (g9 Z) x y a.fU)(an:ZS Z 4 (rq gg) z B a.yf)(ao:ZS Z 1 (fm Z) K L d)(W:∀ args w,(callFunc zgi args).run Tryz.prog w = .ok (.enter zgi args) w)(X:∀ w:World,PZ [] w Z->∀(x0:z2) (x1:z2) (r:z2×Int),zjv x0 x1=some r->Calls Tryz.prog zgi (([.agg #[vi x0.fN,vi x0.fD],.agg #[vi x1.fN,vi x1.fD]]:List Value)++zmq).toArray w fun e w'=>e = .returned (.tuple #[.agg #[vi r.1.fN,vi r.1.fD],vi r.2])/\Hp [] w w' [])(iF:Ho Ny [stb g 119 [vs i a.fM.length j,vs k a.ye.length m,vs n a.fS.length o,vs p a.fK.length q,vs s a.yb.length t,vs u a.fH.length v,vs x a.fU.length y,vs z a.yf.length B,vs K d.length L,.map (some b),.map (some c),vi S],xP b (ga jQ) (ga w4) M,xP c (ga wd) vI N]):
  RF 118 #[vp g,.func (.func zgi) #[] (zmq).toArray,.agg #[vi O.fN,vi O.fD],.agg #[vi P.fN,vi P.fD]] Ny (.agg #[vi r.1.fN,vi r.1.fD]) [stb g 119 [vs i a.fM.length j,vs k a.ye.length m,vs n a.fS.length o,vs p a.fK.length q,vs s a.yb.length t,vs u a.fH.length v,vs x a.fU.length y,vs z a.yf.length B,vs K d.length L,.map (some b),.map (some c),vi S],xP b (ga jQ) (ga w4) M,xP c (ga wd) vI N] [stb g 119 [vs i a.fM.length j,vs k a.ye.length m,vs n a.fS.length o,vs p a.fK.length q,vs s a.yb.length t,vs u a.fH.length v,vs x a.fU.length y,vs z a.yf.length B,vs K d.length L,.map (some b),.map (some c),vi r.2],xP b (ga jQ) (ga w4) M,xP c (ga wd) vI N]:=by
 unfold gX at h
 refine H3 func118 U iF U<|B0q (Lh 6 (we (cs:=[vi O.fN,vi O.fD])) fun ap _=>Lh 7 (we (cs:=[vi P.fN,vi P.fD])) fun aq _=>Lh 8 (xV (cs:=[vi 0,vi 0]) z1F U) fun T _=>Q0n<|WC.b ?_)
 refine bK h fun Q Y h=>D1q U<|Le 13 (xN zg (xO .h2))<|Le 14 (xN zg (xO .h1))<|Lo 15 (qk (l:=[.tmp 13,.tmp 14]) (f:=zgi) (caps:=zmq) W<|.r2 U U) .nil (fun w hw=>X w (hz.now hw) O P Q  Y)<|Q2q U<|La U (Lh 9 (xV (cs:=[vi 0,vi 0]) z1F U) fun V _=>Lk (xR z16 .here)<|Q1n U ?_)
 obtain⟨af,aa,h⟩:=wg h
 let A:Value:=(vs i a.fM.length j);let C:Value:=(vs k a.ye.length m);let D:Value:=(vs n a.fS.length o);let E:Value:=(vs p a.fK.length q);let F:Value:=(vs s a.yb.length t);let G:Value:=(vs u a.fH.length v);let H:Value:=(vs x a.fU.length y);let I:Value:=(vs z a.yf.length B);let J:Value:=(vs K d.length L);refine L6 (fun R=>(af R=some r)) (fun R=>[(8,vp T),(9,vp V),(10,vi Q.2)]) (fun R=>[stb T 175 [vi 0,vi 0],stb V 175 [vi Q.1.fN,vi Q.1.fD],stb g 119 [A,C,D,E,F,G,H,I,J,(.map<|some b),(.map<|some c),vi R],xP b (ga jQ) (ga w4) M,xP c (ga wd) vI N]) ?_ ?_
 ·refine B1q U<|Le 19 w5<|Le 20 (xB lN)<|Le 21 (Nu z6q .h4)<|Q1n U<|Lj h (fun ab h=>?_)<|fun ab h=>?_
  ·exact D2q U<|Le 25 w5<|Le 26 (xB lN)<|Lk (jl (ds:=[A,C,D,E,F,G,H,I,J,(.map<|some b),(.map<|some c),vi Q.2]) ztQ .h4)<|WL.nil<|Lp Q.2 h .q<|.s5 .h2 .h1 .here .h2 .h2
  ·exact N3<|Lp S h .q<|.s5 .h1 .here .h2 .h2 .h2
 ·rintro R h
  replace h:=(aa R).symm.trans h
  refine WC.b<|B2n U<|Lj h (fun ad h=>?_)<|fun ad h=>?_
  ·exact WC.b<|bK h fun ar ae h=>Ld<|Ns call80 hz (uy ae)<|Lk (xR z16 .here)<|Q0n<|Nz<|Ll<|oJ h▸Nn results118 (.agg U zg U (xO .here) .nil) (.s3 .h2 .h2 .h2)
  ·exact Np<|B0q<|Le 30 (xN zg (xO .h1))<|Lk (xR z16 .here)<|Q0n<|Nz<|oJ h▸Nn results118 (.agg U zg U (xO .here) .nil) (.s3 .h2 .h2 .h2)
def ca(a:z2)(b:z2):Option (Int×Int):=
 some (i64 ((i64 (a.fN*b.fD))+(i64 (b.fN*a.fD))),i64 (a.fD*b.fD))
theorem GA{Z e f a b r}(h:ca a b=some r){Ny}(hz:PZ [] Ny Z)(c:ZC Z e [vi a.fN,vi a.fD])(d:ZC Z f [vi b.fN,vi b.fD]):
  RC 187 #[vq e,vq f] Ny (.tuple #[vi r.1,vi r.2]) [] []:=by
 unfold ca at h
 exact L0 func187 U U<|B2n U<|WC.b<|Lu nc []<|Lf 0 U (xB jI)<|Lg 1 U (xC xL U<|wt hz.pv c)<|Lf 2 U (xB kD)<|Lg 3 U (xC xL U<|wt hz.pv d)<|Lf 4 U sX<|Lf 5 U (xB jI)<|Lg 6 U (xC xL U<|wt hz.pv d)<|Lf 7 U (xB kD)<|Lg 8 U (xC xL U<|wt hz.pv c)<|Lf 9 U sX<|Lf 10 U uG<|Lf 11 U (xB kD)<|Lg 12 U (xC xL U<|wt hz.pv c)<|Lf 13 U (xB kD)<|Lg 14 U (xC xL U<|wt hz.pv d)<|Lf 15 U sX<|Lf 16 U q_z<|Lf 17 U q_z<|N1<|Lb<|Nz<|oJ h▸Nn results187 (.tmp U<|.tmp U .nil) .nil
def ip(a:z2)(b:z2):Option (z2×Int):=
 (qJ a).bind fun e=>(if !e then some true else(qJ b).bind fun f=>some (!f)).bind fun g=>if g then some ((⟨0,0⟩:z2),2) else(ca a b).bind fun c=>(uJ c.1 c.2).bind fun d=>some (d.1,d.2)
theorem Fo{Z a b r}(h:ip a b=some r){Ny}(hz:PZ [] Ny Z):
  RC 159 #[.string ⟨#[43]⟩,.agg #[vi a.fN,vi a.fD],.agg #[vi b.fN,vi b.fD]] Ny (.tuple #[.agg #[vi r.1.fN,vi r.1.fD],vi r.2]) [] []:=by
 unfold ip at h
 refine Nl func159 U U<|B0q (Lh 4 (we (cs:=[vi a.fN,vi a.fD])) fun d _=>Lh 5 (we (cs:=[vi b.fN,vi b.fD])) fun e _=>Lh 6 (xV (cs:=[vi 0,vi 0]) z1F U) fun s _=>Q1n U<|WC.b<|WC.b ?_)
 refine bK h fun u i h=>bK h fun f g h=>Ld<|Le 9 (xN zg (xO .h2))<|Ns call130 hz (jX i)<|Q2q U<|Ly false 3 12 (B:=f) (hB:=(fun h=>(oJ<|ju g h).symm)) (fun _ j=>?_) ?_
 ·have c:=jv g j
  obtain⟨y,m,c⟩:=za c
  replace c:=oJ c
  exact Le 13 (xN zg (xO .h1))<|Ns call130 hz (jX m)<|Q2q U<|Lz c U .all
 refine La U<|Ly false 7 17 (B:=f) (hB:=(fun h=>h)) (fun _ n=>?_) ?_
 ·exact La U<|Le 19 (Ys (r:=false) U U)<|La U<|WL.e U U<|WL.e U U<|WL.e U U<|Q2q U<|Lz (Eq.symm n) U .all
 refine Q0n<|Lj h (fun o h=>?_)<|fun o h=>?_
 ·exact B0q<|Le 26 (wl (v:=(.agg #[vi 0,vi 0])) (Lq (l:=[]) .nil []))<|Lk (xR z16 .here)<|Q1n U<|Nz<|Ll<|oJ h▸Nn results159 (.agg U zg U (xO .here)<|.tmp U .nil) .nil
 ·refine Np<|B0q<|Lh 27 (kq Value.string<|fun x=>x) ?_
  intro t _
  let A:Value:=(.func (.func 187) #[] #[vp d,vp e]);refine Le 28 (wO<|L5 (l:=[.tmp 4,.tmp 5])<|.r2 U U)<|Lk (gR (k:=⟨#[43]⟩) (v:=A) fJ underlying304 .here)<|Le 29 (wO<|L5 (l:=[.tmp 4,.tmp 5])<|.r2 U U)<|Lk (gR (k:=⟨#[45]⟩) (v:=(.func (.func 188) #[] #[vp d,vp e])) fJ underlying304 .here)<|Le 30 (wO<|L5 (l:=[.tmp 4,.tmp 5])<|.r2 U U)<|Lk (gR (k:=⟨#[42]⟩) (v:=(.func (.func 189) #[] #[vp d,vp e])) fJ underlying304 .here)<|Le 31 (wO<|L5 (l:=[.tmp 4,.tmp 5])<|.r2 U U)<|Lk (gR (k:=⟨#[47]⟩) (v:=(.func (.func 190) #[] #[vp d,vp e])) fJ underlying304 .here)<|Q2n U<|WC.b ?_
  exact bK h fun z p h=>bK h fun C q h=>D2q U<|Le 35 (Yr (k:=⟨#[43]⟩) (dflt:=.nilFunc) (r:=A) fJ underlying304 zxO U U U .here)<|Lo 36 (qk (l:=[]) call187 .nil) .nil (uB hz .nil (.s2 .h3 .h2) fun w pz ho la=>GA p pz ((la _ (.head _) _).stb)<|(la _ (.tail _<|.head _) _).stb)<|Q2q U<|Ns call160 hz (l4 q)<|Q2q U<|Lk (xR z16 .h1)<|Q1n U<|Nz<|oJ h▸Nn results159 (.agg U zg U (xO .here)<|.tmp U .nil) .nil
def vV(b:z2)(c:z2):Option (z2×Int):=
 (ip b c).bind fun a=>some (a.1,a.2)
theorem py{Z a b r}(h:vV a b=some r){Ny}(hz:PZ [] Ny Z):
  RC 119 #[.agg #[vi a.fN,vi a.fD],.agg #[vi b.fN,vi b.fD]] Ny (.tuple #[.agg #[vi r.1.fN,vi r.1.fD],vi r.2]) [] []:=by
 unfold vV at h
 refine L0 func119 U U<|B0q (Lh 2 (we (cs:=[vi a.fN,vi a.fD])) fun d _=>Lh 3 (we (cs:=[vi b.fN,vi b.fD])) fun e _=>Lh 4 (xV (cs:=[vi 0,vi 0]) z1F U) fun f _=>Q1n U<|WC.b ?_)
 exact bK h fun g c h=>Ld<|Le 6 (xN zg (xO .h2))<|Le 7 (xN zg (xO .h1))<|Ns call159 hz (Fo c)<|Q2q U<|Lk (xR z16 .here)<|Q1n U<|Nz<|oJ h▸Nn results119 (.agg U zg U (xO .here)<|.tmp U .nil) .nil
end Go.Proofs.YthjnhebofpebpaaGreat
