/- A part of this claim's proof: models of functions, walks, plain laws. No conditions. -/
import Derived.Test.YthjnhebofpebpaaGreatW36h
set_option linter.all false
namespace Go.Proofs.YthjnhebofpebpaaGreat
open Go Go.RowKit Sep Tryz
variable {f:Int}{g:List yr}
set_option maxRecDepth 30000
set_option maxHeartbeats 4000000
def kw(b:List yK)(c:zy)(d:Option Bool):Nat->Int->Option Bool
 | 0,_=>none
 | e+1,a=>if decide (a<b.length) then chk (0<=a/\a<b.length) (chk (((((((decide (((nth b a).yc)<0))||(decide (((nth b a).yc)>536870912)))||(decide (((nth b a).yt)<0)))||(decide (((nth b a).yt)>=c.yb.length)))||(decide (((nth b a).yo)<1)))||(decide (((nth b a).yo)>72)))=false->((decide (a>0))=true->(0<=(i64 (a-1))/\(i64 (a-1))<b.length))) (if ((((((decide (((nth b a).yc)<0))||(decide (((nth b a).yc)>536870912)))||(decide (((nth b a).yt)<0)))||(decide (((nth b a).yt)>=c.yb.length)))||(decide (((nth b a).yo)<1)))||(decide (((nth b a).yo)>72)))||((decide (a>0))&&(decide (((nth b (i64 (a-1))).yc)>((nth b a).yc)))) then some false else kw b c d e (i64 (a+1)))) else d
def tc(b:zy)(a:List yK):Option Bool:=
 uN (some (decide ((a.length:Int)<=4000))) fun c=>kw a b c xT 0
theorem Xy{Z l m n o p q s t u v x y z B K L M N c b r}(h:tc c b=some r){Ny}(hz:PZ [] Ny Z)(ay:ZS Z 4 (kB Z) l m c.fM)(az:ZS Z 4 (g8 Z) n o c.ye)(aA:ZS Z 4 (rq kr) p q c.fS)(aB:ZS Z 4 (rq gH) s t c.fK)(aC:ZS Z 7 (g7 Z) u v c.yb)(aD:ZS Z 5 (rq gf) x y c.fH)(aE:ZS Z 3 (g9 Z) z B c.fU)(aF:ZS Z 4 (rq gg) K L c.yf)(ad:ZS Z 3 (rq tH) M N b):
  RC 46 #[.agg #[vs l c.fM.length m,vs n c.ye.length o,vs p c.fS.length q,vs s c.fK.length t,vs u c.yb.length v,vs x c.fH.length y,vs z c.fU.length B,vs K c.yf.length L],vs M b.length N] Ny (.bool r) [] []:=by
 unfold tc at h
 refine L0 func46 U U ?_
 let C:List Value:=[vs l c.fM.length m,vs n c.ye.length o,vs p c.fS.length q,vs s c.fK.length t,vs u c.yb.length v,vs x c.fH.length y,vs z c.fU.length B,vs K c.yf.length L];refine B0q<|Lh 2 (we (cs:=C)) ?_
 intro d _
 refine Q1n U ?_
 obtain⟨ae,am,h⟩:=qM h
 let A:Value:=(vs M b.length N);refine Nf (ae=some r) ([(1,A)]) ([]) ?_ ?_
 ·let F:Value:=(vi (b.length:Int));refine B1q U<|Le 8 (wc underlying77)<|Q1n U<|WC.block<|Ng (fun e a=>(kw b c ae e a=some r)) (fun e a=>[(1,A),(2,vp d),(7,A),(8,F),(9,vi a)]) (fun e a=>[stb d 31 C]) (fun e a=>e) ⟨xT,0⟩ h .q (.cons .here .nil) ?_
  rintro(_|ax) a h;·cases h
  rw[kw] at h
  refine B1n U<|WC.b<|Lj h (fun an h=>?_)<|fun an h=>?_
  ·refine Np<|WC.b<|WC.block<|WC.b<|cK h fun ao h=>D1q U<|L2 (Z:=Z) (Pr:=(rq tH)) zfJ ad ao ?_
   rintro aG aH ap aI rfl
   refine Le 13 (xN zMp (qB hz.pv ap)) (Lh 6 (xV (cs:=[vi 0,vi 0,vi 0]) zMq U) fun f _=>La U<|Lk (xR zMr .here)<|Q0n<|WC.b ?_)
   obtain⟨aq,h⟩:=xI h
   let J:Value:=(.bool ((decide (((nth b a).yc)<0))||(decide (((nth b a).yc)>536870912))));refine Lu nc []<|Lf 0 U (xB cz)<|Lg 1 U (Nu xL .here)<|Lf 2 U sY<|Lf 3 U q_m<|Nd (fuel':=38) [(1,A),(2,vp d),(7,A),(8,F),(9,vi a),(6,vp f),(5,vi a),(17,(.bool<|decide (((nth b a).yc)<0))),(21,J)] (vE 46 (dn 8)) ?_<|fun af=>?_
   rotate_left
   ·rcases Bool.eq_false_or_eq_true (decide (((nth b a).yc)<0)) with hb' | hb'
    ·have O:=hb';clear hb'
     refine L3 (i:=17) U O<|Lm 4 U<|Lm 5 U<|Lm 6 U<|Lf 7 U qO<|Lw .a2 ?_ af
     exact .t 7<|.r2 (zx<|Eq.symm O)<|zx<|fc O
    ·have P:=hb';clear hb'
     refine L3 (i:=17) U P<|Lf 4 U (xB cz)<|Lg 5 U (Nu xL .here)<|Lf 6 U rV<|Lf 7 U qP<|Lw .a2 ?_ af
     exact .t 7<|.r2 (zx<|Eq.symm P)<|zx<|ff P
   let H:Value:=(.bool (((decide (((nth b a).yc)<0))||(decide (((nth b a).yc)>536870912)))||(decide (((nth b a).yt)<0))));refine WD.d (bz 8 38)<|Lf 8 U q_m<|Nd (fuel':=33) [(1,A),(2,vp d),(7,A),(8,F),(9,vi a),(6,vp f),(5,vi a),(22,J),(26,H)] (vE 46 (dn 13)) ?_<|fun ag=>?_
   rotate_left
   ·rcases Bool.eq_false_or_eq_true ((decide (((nth b a).yc)<0))||(decide (((nth b a).yc)>536870912))) with hb' | hb'
    ·have Q:=hb';clear hb'
     refine L3 (i:=22) U Q<|Lm 9 U<|Lm 10 U<|Lm 11 U<|Lf 12 U qO<|Lw .a2 ?_ ag
     exact .t 7<|.r2 (zx<|Eq.symm Q)<|zx<|fc Q
    ·have R:=hb';clear hb'
     refine L3 (i:=22) U R<|Lf 9 U (xB dP)<|Lg 10 U (Nu xL .here)<|Lf 11 U sY<|Lf 12 U qP<|Lw .a2 ?_ ag
     exact .t 7<|.r2 (zx<|Eq.symm R)<|zx<|ff R
   let I:=(c.yb.length:Int);let G:Value:=(.bool ((((decide (((nth b a).yc)<0))||(decide (((nth b a).yc)>536870912)))||(decide (((nth b a).yt)<0)))||(decide (((nth b a).yt)>=I))));refine WD.d (bz 13 33)<|Lf 13 U q_m<|Nd (fuel':=25) [(1,A),(2,vp d),(7,A),(8,F),(9,vi a),(6,vp f),(5,vi a),(27,H),(34,G)] (vE 46 (dn 21)) ?_<|fun ah=>?_
   rotate_left
   ·rcases Bool.eq_false_or_eq_true (((decide (((nth b a).yc)<0))||(decide (((nth b a).yc)>536870912)))||(decide (((nth b a).yt)<0))) with hb' | hb'
    ·have S:=hb';clear hb'
     refine L3 (i:=27) U S<|Lm 14 U<|Lm 15 U<|Lm 16 U<|Lm 17 U<|Lm 18 U<|Lm 19 U<|Lf 20 U qO<|Lw .a2 ?_ ah
     exact .t 7<|.r2 (zx<|Eq.symm S)<|zx<|fc S
    ·have T:=hb';clear hb'
     refine L3 (i:=27) U T<|Lf 14 U (xB dP)<|Lg 15 U (Nu xL .here)<|Lf 16 U (xB mW)<|Lg 17 U (Nu z8E .h1)<|Lf 18 U (wc underlying26)<|Lf 19 U (Qn U U)<|Lf 20 U qP<|Lw .a2 ?_ ah
     exact .t 7<|.r2 (zx<|Eq.symm T)<|zx<|ff T
   let E:Value:=(.bool (((((decide (((nth b a).yc)<0))||(decide (((nth b a).yc)>536870912)))||(decide (((nth b a).yt)<0)))||(decide (((nth b a).yt)>=I)))||(decide (((nth b a).yo)<1))));refine WD.d (bz 21 25)<|Lf 21 U q_m<|Nd (fuel':=20) [(1,A),(2,vp d),(7,A),(8,F),(9,vi a),(6,vp f),(5,vi a),(35,G),(39,E)] (vE 46 (dn 26)) ?_<|fun ai=>?_
   rotate_left
   ·rcases Bool.eq_false_or_eq_true ((((decide (((nth b a).yc)<0))||(decide (((nth b a).yc)>536870912)))||(decide (((nth b a).yt)<0)))||(decide (((nth b a).yt)>=c.yb.length))) with hb' | hb'
    ·have V:=hb';clear hb'
     refine L3 (i:=35) U V<|Lm 22 U<|Lm 23 U<|Lm 24 U<|Lf 25 U qO<|Lw .a2 ?_ ai
     exact .t 7<|.r2 (zx<|Eq.symm V)<|zx<|fc V
    ·have W:=hb';clear hb'
     refine L3 (i:=35) U W<|Lf 22 U (xB V6)<|Lg 23 U (Nu xL .here)<|Lf 24 U sY<|Lf 25 U qP<|Lw .a2 ?_ ai
     exact .t 7<|.r2 (zx<|Eq.symm W)<|zx<|ff W
   let D:Value:=(.bool ((((((decide (((nth b a).yc)<0))||(decide (((nth b a).yc)>536870912)))||(decide (((nth b a).yt)<0)))||(decide (((nth b a).yt)>=I)))||(decide (((nth b a).yo)<1)))||(decide (((nth b a).yo)>72))));refine WD.d (bz 26 20)<|Lf 26 U q_m<|Nd (fuel':=15) [(1,A),(2,vp d),(7,A),(8,F),(9,vi a),(6,vp f),(5,vi a),(40,E),(44,D)] (vE 46 (dn 31)) ?_<|fun aj=>?_
   rotate_left
   ·rcases Bool.eq_false_or_eq_true (((((decide (((nth b a).yc)<0))||(decide (((nth b a).yc)>536870912)))||(decide (((nth b a).yt)<0)))||(decide (((nth b a).yt)>=c.yb.length)))||(decide (((nth b a).yo)<1))) with hb' | hb'
    ·have X:=hb';clear hb'
     refine L3 (i:=40) U X<|Lm 27 U<|Lm 28 U<|Lm 29 U<|Lf 30 U qO<|Lw .a2 ?_ aj
     exact .t 7<|.r2 (zx<|Eq.symm X)<|zx<|fc X
    ·have Y:=hb';clear hb'
     refine L3 (i:=40) U Y<|Lf 27 U (xB V6)<|Lg 28 U (Nu xL .here)<|Lf 29 U rV<|Lf 30 U qP<|Lw .a2 ?_ aj
     exact .t 7<|.r2 (zx<|Eq.symm Y)<|zx<|ff Y
   refine WD.d (bz 31 15)<|Lf 31 U q_m<|Nd (fuel':=0) [(1,A),(2,vp d),(7,A),(8,F),(9,vi a),(45,D),(59,.bool (((((((decide (((nth b a).yc)<0))||(decide (((nth b a).yc)>536870912)))||(decide (((nth b a).yt)<0)))||(decide (((nth b a).yt)>=I)))||(decide (((nth b a).yo)<1)))||(decide (((nth b a).yo)>72)))||((decide (a>0))&&(decide (((nth b<|i64 (a-1)).yc)>((nth b a).yc))))))] (vE 46 (dn 46)) ?_<|fun ak=>?_
   rotate_left
   ·rcases Bool.eq_false_or_eq_true ((((((decide (((nth b a).yc)<0))||(decide (((nth b a).yc)>536870912)))||(decide (((nth b a).yt)<0)))||(decide (((nth b a).yt)>=c.yb.length)))||(decide (((nth b a).yo)<1)))||(decide (((nth b a).yo)>72))) with hb' | hb'
    ·have aa:=hb';clear hb'
     refine L3 (i:=45) U aa<|Lm 32 U<|Lm 33 U<|Lm 34 U<|Lm 35 U<|Lm 36 U<|Lm 37 U<|Lm 38 U<|Lm 39 U<|Lm 40 U<|Lm 41 U<|Lm 42 U<|Lm 43 U<|Lm 44 U<|Lf 45 U qO<|Lw .a2 ?_ ak
     exact .t 5<|.r2 (zx<|Eq.symm aa)<|zx<|fc aa
    ·have g:=hb';clear hb'
     have ar:=aq g
     refine L3 (i:=45) U g<|Lf 32 U q_m<|Lf 33 U rV<|Lf 34 U q_m<|Nd (fuel':=1) [(1,A),(2,vp d),(7,A),(8,F),(9,vi a),(45,.bool false),(48,(.bool<|decide (a>0))),(58,(.bool<|(decide (a>0))&&(decide (((nth b<|i64 (a-1)).yc)>((nth b a).yc)))))] (vE 46 (dn 45)) ?_<|fun al=>?_
     rotate_left
     ·rcases Bool.eq_false_or_eq_true (decide (a>0)) with hb' | hb'
      ·have k:=hb';clear hb'
       have au:=ar k
       refine L3 (i:=48) U k<|Lf 35 U q_m<|Lf 36 U q_m<|Lf 37 U uH<|L7 (j:=38) (Z:=Z) (Pr:=(rq tH)) zfJ ad au ?_
       rintro aJ aK av aL rfl
       refine Lf 39 U (xB cz)<|Lg 40 U (xC xL U<|wt hz.pv av)<|Lf 41 U (xB cz)<|Lg 42 U (Nu xL .here)<|Lf 43 U rV<|Lf 44 U qO<|Lw .a2 ?_ al
       exact .t 6<|.r2 (zx<|Eq.symm k)<|zx<|kR k
      ·have ab:=hb';clear hb'
       refine L3 (i:=48) U ab<|Lm 35 U<|Lm 36 U<|Lm 37 U<|Lm 38 U<|Lm 39 U<|Lm 40 U<|Lm 41 U<|Lm 42 U<|Lm 43 U<|Lf 44 U qP<|Lw .a2 ?_ al
       exact .t 6<|.r2 (zx<|Eq.symm ab)<|zx<|kQ ab
     refine WD.d (bz 45 1)<|Lf 45 U qP<|Lw .a2 ?_ ak
     exact .t 5<|.r2 (zx<|Eq.symm g)<|zx<|ff g
   refine WD.d (bz 46 0)<|N1<|Lb<|Lj h (fun aw h=>?_)<|fun aw h=>?_
   ·exact B1n U<|Nz<|Lx<|Ll<|Ll<|Lx<|Ll<|oJ h▸Nm results46
   ·exact N3<|Lt<|Lb<|D2q U<|WL.nil<|N0 ⟨ax,i64 (a+1)⟩ h .q<|.cons .h1 .nil
  ·exact N2<|Ln<|Ln<|Lv<|Lp () h (.cons U .nil) .nil
 ·rintro  h
  replace h:=am.symm.trans h
  exact B1q U<|Le 62 (wc underlying77)<|Q2n U<|Nz<|oJ h▸Nm results46
def gM(a:List yr):Option Int:=
 some (a.length:Int)
theorem l5{Z b c a r}(h:gM a=some r){Ny}(hz:PZ [] Ny Z)(d:ZS Z 7 (rq wI) b c a):
  RC 270 #[vs b a.length c] Ny (vi r) [] []:=by
 unfold gM at h
 exact Nb func270 U U<|B1n U<|B1q U<|Le 4 (wc underlying132)<|Q1n U<|Nz<|oJ h▸Nm results270
def g4(a:yr)(b:yr):Option Int:=
 (qr a.yc b.yc).bind fun c=>(qr a.yJ b.yJ).bind fun d=>(qr a.yP b.yP).bind fun e=>(qr a.yd b.yd).bind fun f=>(uX ([c,d,e,f]:List Int)).bind fun g=>some g
theorem dq{Z a b r}(h:g4 a b=some r){Ny}(hz:PZ [] Ny Z):
  RC 273 #[.agg #[vi a.yc,vi a.yJ,vi a.yP,vi a.yd,vi a.yg.ya,vi a.yg.fX,vi a.yg.fQ],.agg #[vi b.yc,vi b.yJ,vi b.yP,vi b.yd,vi b.yg.ya,vi b.yg.fX,vi b.yg.fQ]] Ny (vi r) [] []:=by
 unfold g4 at h
 refine L0 func273 U U<|B0q (Lh 2 (we (cs:=[vi a.yc,vi a.yJ,vi a.yP,vi a.yd,vi a.yg.ya,vi a.yg.fX,vi a.yg.fQ])) fun o _=>Lh 3 (we (cs:=[vi b.yc,vi b.yJ,vi b.yP,vi b.yd,vi b.yg.ya,vi b.yg.fX,vi b.yg.fQ])) fun p _=>Q1n U<|WC.b ?_)
 refine bK h fun j c h=>bK h fun k d h=>bK h fun m e h=>bK h fun n f h=>bK h fun s g h=>Lu nc []<|Lf 0 U (xB eY)<|Lg 1 U (Nu xL .h1)<|Lf 2 U (xB eY)<|Lg 3 U (Nu xL .here)<|L4 4 U (Nt call85) (cc hz .nil fun w pz ho=>kx c pz )<|Lf 5 U (xB J3)<|Lg 6 U (Nu xL .h1)<|Lf 7 U (xB J3)<|Lg 8 U (Nu xL .here)<|L4 9 U (Nt call85) (cc hz .nil fun w pz ho=>kx d pz )<|Lf 10 U (xB J4)<|Lg 11 U (Nu xL .h1)<|Lf 12 U (xB J4)<|Lg 13 U (Nu xL .here)<|L4 14 U (Nt call85) (cc hz .nil fun w pz ho=>kx e pz )<|Lf 15 U (xB lR)<|Lg 16 U (Nu xL .h1)<|Lf 17 U (xB lR)<|Lg 18 U (Nu xL .here)<|L4 19 U (Nt call85) (cc hz .nil fun w pz ho=>kx f pz ) (WD.new (i:=20) U U (wn (cs:=([j,k,m,n]:List Int).flatMap e3) z5U (Lq (l:=[.tmp 9,.tmp 14,.tmp 19,.tmp 24]) (.r4 U U U U) [0,1,2,3])) (fun h'=>absurd h' (by decide)) fun q _=>L4 21 U (Nt call84) (uB hz .nil (.cons .here .nil) fun w pz ho la=>cV g pz<|ZA.row (la _ (.head _) _) (RR.flat (enc:=e3)) ⟨w,pz.1⟩)<|Lf 22 U q_z<|N1<|Lb<|Nz ?_)
 exact oJ h▸Nm results273
def jC(a:List yr)(b:Int)(c:Int):Option Bool:=
 chk (0<=b/\b<a.length) (chk (0<=c/\c<a.length) ((g4 (⟨(nth a b).yc,(nth a b).yJ,(nth a b).yP,(nth a b).yd,(⟨((nth a b).yg).ya,((nth a b).yg).fX,((nth a b).yg).fQ⟩:zd)⟩:yr) (⟨(nth a c).yc,(nth a c).yJ,(nth a c).yP,(nth a c).yd,(⟨((nth a c).yg).ya,((nth a c).yg).fX,((nth a c).yg).fQ⟩:zd)⟩:yr)).bind fun d=>some (decide (d<0))))
theorem sD{Z b c a d e r}(h:jC a d e=some r){Ny}(hz:PZ [] Ny Z)(f:ZS Z 7 (rq wI) b c a):
  RC 271 #[vs b a.length c,vi d,vi e] Ny (.bool r) [] []:=by
 unfold jC at h
 refine Nl func271 U U<|B1n U<|WC.b<|cK h fun g h=>cK h fun i h=>bK h fun u k h=>Lu nc []<|Lf 0 U q_m<|Lf 1 U q_m<|L7 (j:=2) (Z:=Z) (Pr:=(rq wI)) zdV f g ?_
 rintro n o l p rfl
 refine Lg 3 U (xN zoP (qB hz.pv l))<|Lf 4 U q_m<|Lf 5 U q_m<|L7 (j:=6) (Z:=Z) (Pr:=(rq wI)) zdV f i ?_
 rintro q s m t rfl
 exact Lg 7 U (xN zoP (qB hz.pv m))<|L4 8 U (Nt call273) (cc hz .nil fun w pz ho=>dq k pz )<|Lf 9 U sY<|Lf 10 U q_z<|N1<|Lb<|Nz<|oJ h▸Nm results271
def jD(a:List yr)(c:Int)(b:Int):Option (List yr):=
 chk (0<=b/\b<a.length) (chk (0<=c/\c<a.length) (chk (0<=b/\b<(((a.set (c:Int).toNat (⟨(nth a b).yc,(nth a b).yJ,(nth a b).yP,(nth a b).yd,(⟨((nth a b).yg).ya,((nth a b).yg).fX,((nth a b).yg).fQ⟩:zd)⟩:yr)).length:Nat):Int)) (some ((a.set (c:Int).toNat (⟨(nth a b).yc,(nth a b).yJ,(nth a b).yP,(nth a b).yd,(⟨((nth a b).yg).ya,((nth a b).yg).fX,((nth a b).yg).fQ⟩:zd)⟩:yr)).set (b:Int).toNat (⟨(nth a c).yc,(nth a c).yJ,(nth a c).yP,(nth a c).yd,(⟨((nth a c).yg).ya,((nth a c).yg).fX,((nth a c).yg).fQ⟩:zd)⟩:yr)))))
theorem sE{Z j f a c b r}(h:jD a c b=some r){Ny}(hz:Pz [row (vs j a.length f) 188 7 (a.flatMap wI)] Ny Z)(iF:Ho Ny [row (vs j a.length f) 188 7 (a.flatMap wI)]):
  Calls Tryz.prog 272 #[vs j a.length f,vi c,vi b] Ny fun e w'=>e = .returned (.tuple #[])/\(r.length=a.length)/\Hp (fps [row (vs j a.length f) 188 7 (a.flatMap wI)]) Ny w' [row (vs j r.length f) 188 7 (r.flatMap wI)]:=by
 unfold jD at h
 refine N8 func272 U iF U<|cK h fun m h=>cK h fun d h=>cK h fun g h=>Lu (fun i=>[13,15].contains i) []<|Lf 0 U q_m<|Lf 1 U q_m<|Lf 2 U q_m<|Lf 3 U q_m<|Lf 4 U q_m<|Lf 5 U q_m<|Nk (fun w hw=>Hp.vf .here hw (by intro hz';have:=m;rw[hz'] at this;omega)) ?_
 rintro⟨n,rfl⟩
 let A:List Value:=[vi ((nth a c).yc),vi ((nth a c).yJ),vi ((nth a c).yP),vi ((nth a c).yd),vi (((nth a c).yg).ya),vi (((nth a c).yg).fX),vi (((nth a c).yg).fQ)];let C:List Value:=[vi ((nth a b).yc),vi ((nth a b).yJ),vi ((nth a b).yP),vi ((nth a b).yd),vi (((nth a b).yg).ya),vi (((nth a b).yg).fX),vi (((nth a b).yg).fQ)];refine Lf 6 U (xZ zdV m.1 m.2 wF)<|Lg 7 U (wo (cs:=(wI<|nth a b)) zoP<|vQ .here<|wN (enc:=wI) (l:=a) (i:=b) (sz:=7) m.1 m.2)<|Lf 8 U q_m<|Lf 9 U q_m<|Lf 10 U (xZ zdV d.1 d.2 wF)<|Lg 11 U (wo (cs:=(wI<|nth a c)) zoP<|vQ .here<|wN (enc:=wI) (l:=a) (i:=c) (sz:=7) d.1 d.2)<|Lf 12 U (xZ zdV d.1 d.2 wF)<|WD.forced0 (i:=13) U (wJ.of .nil) (gb (vs:=C) (ds:=(a.set (c:Int).toNat (⟨(nth a b).yc,(nth a b).yJ,(nth a b).yP,(nth a b).yd,(⟨((nth a b).yg).ya,((nth a b).yg).fX,((nth a b).yg).fQ⟩:zd)⟩:yr)).flatMap wI) zxQ sV .here (mu (enc:=wI) (sz:=7) (k:=0) d.1 d.2)<|mt (enc:=wI) (l:=a) (sz:=7) (vs:=C) (y:=(⟨(nth a b).yc,(nth a b).yJ,(nth a b).yP,(nth a b).yd,(⟨((nth a b).yg).ya,((nth a b).yg).fX,((nth a b).yg).fQ⟩:zd)⟩:yr)) (k:=0) d.1 d.2<|Nat.le_of_ble_eq_true U)<|N7 .here (u:=(vs (some ⟨n,0,none⟩) ((a.set (c:Int).toNat (⟨(nth a b).yc,(nth a b).yJ,(nth a b).yP,(nth a b).yd,(⟨((nth a b).yg).ya,((nth a b).yg).fX,((nth a b).yg).fQ⟩:zd)⟩:yr)).length) f)) (qD (List.length_set).symm)<|N4 (i:=8) U (u:=(vs (some ⟨n,0,none⟩) ((a.set (c:Int).toNat (⟨(nth a b).yc,(nth a b).yJ,(nth a b).yP,(nth a b).yd,(⟨((nth a b).yg).ya,((nth a b).yg).fX,((nth a b).yg).fQ⟩:zd)⟩:yr)).length) f)) (qD (List.length_set).symm)<|Lf 14 U (xZ zdV g.1 g.2 wF)<|Na (i:=15) U (gb (vs:=A) (ds:=((a.set (c:Int).toNat (⟨(nth a b).yc,(nth a b).yJ,(nth a b).yP,(nth a b).yd,(⟨((nth a b).yg).ya,((nth a b).yg).fX,((nth a b).yg).fQ⟩:zd)⟩:yr)).set (b:Int).toNat (⟨(nth a c).yc,(nth a c).yJ,(nth a c).yP,(nth a c).yd,(⟨((nth a c).yg).ya,((nth a c).yg).fX,((nth a c).yg).fQ⟩:zd)⟩:yr)).flatMap wI) zxQ sV .here (mu (enc:=wI) (sz:=7) (k:=0) g.1 g.2)<|mt (enc:=wI) (l:=a.set (c:Int).toNat (⟨(nth a b).yc,(nth a b).yJ,(nth a b).yP,(nth a b).yd,(⟨((nth a b).yg).ya,((nth a b).yg).fX,((nth a b).yg).fQ⟩:zd)⟩:yr)) (sz:=7) (vs:=A) (y:=(⟨(nth a c).yc,(nth a c).yJ,(nth a c).yP,(nth a c).yd,(⟨((nth a c).yg).ya,((nth a c).yg).fX,((nth a c).yg).fQ⟩:zd)⟩:yr)) (k:=0) g.1 g.2<|Nat.le_of_ble_eq_true U) ?_
 exact N7 .here (u:=(vs (some ⟨n,0,none⟩) (((a.set (c:Int).toNat (⟨(nth a b).yc,(nth a b).yJ,(nth a b).yP,(nth a b).yd,(⟨((nth a b).yg).ya,((nth a b).yg).fX,((nth a b).yg).fQ⟩:zd)⟩:yr)).set (b:Int).toNat (⟨(nth a c).yc,(nth a c).yJ,(nth a c).yP,(nth a c).yd,(⟨((nth a c).yg).ya,((nth a c).yg).fX,((nth a c).yg).fQ⟩:zd)⟩:yr)).length) f)) (qD (List.length_set).symm)<|N1<|oJ h▸Nh results272 .nil fun w hw=>⟨ms,(List.length_set).trans ((List.length_set).trans U),hw.sub (.cons .here .nil)⟩
def ue(a:List yr)(b:yr):Option Unit:=
 chk (((a++([b]:List yr)).length:Int)*56<=140737488355328/\((a++([b]:List yr)).length:Int)<=4611686018427387904) (some ())
theorem dt{Z f c d g j k m n o p q s t u v x a b r}(h:ue a b=some r){Ny}(hz:Pz [stb f 134 [g,j,k,m,n,o,p,q,s,t,u,vs c a.length d,v,x],row (vs c a.length d) 188 7 (a.flatMap wI)] Ny Z)(iF:Ho Ny [stb f 134 [g,j,k,m,n,o,p,q,s,t,u,vs c a.length d,v,x],row (vs c a.length d) 188 7 (a.flatMap wI)]):
  Calls Tryz.prog 275 #[.pointer (some ⟨f,11,none⟩),.iface 188 (.agg #[vi b.yc,vi b.yJ,vi b.yP,vi b.yd,vi b.yg.ya,vi b.yg.fX,vi b.yg.fQ])] Ny fun e w'=>∃ y:Option Addr,∃ z:Nat,e = .returned (.tuple #[])/\True/\Hp (fps [stb f 134 [g,j,k,m,n,o,p,q,s,t,u,vs c a.length d,v,x],row (vs c a.length d) 188 7 (a.flatMap wI)]) Ny w' [stb f 134 [g,j,k,m,n,o,p,q,s,t,u,vs y ((a++([b]:List yr)).length) z,v,x],row (vs y ((a++([b]:List yr)).length) z) 188 7 ((a++([b]:List yr)).flatMap wI)]:=by
 unfold ue at h
 refine Nj func275 U iF U<|cK h fun C h=>Lu (fun i=>[7,9].contains i) []<|Lf 0 U q_m<|Lf 1 U q_m<|Lf 2 U w5<|Lg 3 U (Nu zoO .here)<|Lf 4 U q_m<|Lg 5 U (QP underlying188 U U) (WD.new (i:=6) U U (wn (cs:=([b]:List yr).flatMap wI) zdV (Lq (l:=[.tmp 9]) (.cons U .nil) [0])) (fun h'=>absurd h' (by decide)) fun D _=>WD.old (i:=7) U U (fun _=>(wJ.of .nil)) (jN (enc:=wI) (l1:=a) (l2:=([b]:List yr)) zdV .h2 (j4 .here) (kZ UB) C) ?_)
 rintro⟨A,B⟩ _
 refine Lf 8 U w5<|Na (i:=9) U (jl (ds:=[g,j,k,m,n,o,p,q,s,t,u,vs A ((a++([b]:List yr)).length) B,v,x]) zMt .h2)<|N1 ?_
 skip
 exact Nh results275 .nil<|fun w hw=>⟨A,B,ms,trivial,hw.sub .a2⟩
def jJ(c:(List yr)->Option (List yr)):Nat->Int->(List yr)->Option (List yr)
 | 0,_,_=>none
 | d+1,a,b=>(if decide ((i64 (Int.tdiv (i64 (a-1)) 2))=a) then some true else(jC b a (i64 (Int.tdiv (i64 (a-1)) 2))).bind fun e=>some (!e)).bind fun f=>if f then c b else(jD b (i64 (Int.tdiv (i64 (a-1)) 2)) a).bind fun g=>jJ c d (i64 (Int.tdiv (i64 (a-1)) 2)) g
def uK(a:List yr)(b:Int):Option (List yr):=
 qt (fun(c:List yr)=>some c) fun d=>jJ d xT b a
theorem nn{Z g b c i j k m n o p q s t u v x a C r}(h:uK a C=some r){Ny}(hz:Pz [stb g 134 [i,j,k,m,n,o,p,q,s,t,u,vs b a.length c,v,x],row (vs b a.length c) 188 7 (a.flatMap wI)] Ny Z)(iF:Ho Ny [stb g 134 [i,j,k,m,n,o,p,q,s,t,u,vs b a.length c,v,x],row (vs b a.length c) 188 7 (a.flatMap wI)]):
  Calls Tryz.prog 132 #[.iface 186 (.pointer (some ⟨g,11,none⟩)),vi C] Ny fun e w'=>e = .returned (.tuple #[])/\(r.length=a.length)/\Hp (fps [stb g 134 [i,j,k,m,n,o,p,q,s,t,u,vs b a.length c,v,x],row (vs b a.length c) 188 7 (a.flatMap wI)]) Ny w' [stb g 134 [i,j,k,m,n,o,p,q,s,t,u,vs b r.length c,v,x],row (vs b r.length c) 188 7 (r.flatMap wI)]:=by
 unfold uK at h
 refine Nj func132 U iF U<|jK1 h fun D I h=>On (fun f=>(D f=some r)/\(f.length=a.length)) (fun f=>[]) (fun f=>[row (vs b f.length c) 188 7 (f.flatMap wI),stb g 134 [i,j,k,m,n,o,p,q,s,t,u,vs b f.length c,v,x]]) ?_ ?_
 ·refine WC.block<|H0 (fun z y d=>(jJ D z y d=some r)/\(d.length=a.length)) (fun z y d=>[(0,(.iface 186<|.pointer<|some ⟨g,11,none⟩)),(1,vi y)]) (fun z y d=>[row (vs b d.length c) 188 7 (d.flatMap wI),stb g 134 [i,j,k,m,n,o,p,q,s,t,u,vs b d.length c,v,x]]) (fun z y d=>z) ⟨xT,C,a⟩ ⟨h,U⟩ .q (.s2 .h1 .here) ?_
  rintro (_|O) y d ⟨h,E⟩;·cases h
  rw[jJ] at h
  refine WC.block<|B2q U<|Le 7 (eH (by decide))<|Q1n U<|WC.b<|WC.b<|bK h fun P F h=>D4q U<|Ly false 5 11 (B:=P) (hB:=(fun h=>(oJ<|ju F h).symm)) (fun _ J=>?_) ?_
  ·have A:=jv F J
   obtain⟨Q,K,A⟩:=za A
   replace A:=oJ A
   exact Q3q U<|Lo 15 (uP (l:=[.tmp 13,.tmp 14]) cR call271 (xG .h1 U)<|.r2 U U) .nil (uB hz .nil (.cons .here .nil) fun w pz ho la=>sD K pz<|ZA.row (la _ (.head _) _) (RR.flat (enc:=wI)) ⟨w,pz.1⟩)<|Q2q U<|Lz A U .all
  refine Q0n<|Lj h (fun L h=>?_)<|fun L h=>?_
  ·exact N2<|Ln<|Ow U<|Ln<|Lv<|Lp d ⟨h,E⟩ .nil<|.a2
  ·refine Np<|WC.b<|bK h fun G M h=>D3q U<|Nc U (uP (l:=[.tmp 19,.tmp 20]) cS call272 (xG .h1 U)<|.r2 U U) (.cons .here .nil) (cc hz (.cons .here .nil) fun w pz ho=>sE M pz  ho) ?_
   rintro  H
   exact H5 (cs':=[i,j,k,m,n,o,p,q,s,t,u,vs b G.length c,v,x]) .h1 (by rw[H])<|Q0n<|D2q U<|WL.nil<|Lt<|N0 ⟨O,(i64<|Int.tdiv (i64 (y-1)) 2),G⟩ ⟨h,H.trans E⟩ .q<|.s2 .h1 .here
 ·rintro f ⟨h,N⟩
  replace h:=(I f).symm.trans h
  exact oJ h▸Nh results132 .nil fun w hw=>⟨ms,N,hw.sub (.s2 .h1 .here)⟩
def g5(a:List yr)(b:yr):Option (List yr):=
 (ue a b).bind fun e=>(gM (a++([b]:List yr))).bind fun c=>(uK (a++([b]:List yr)) (i64 (c-1))).bind fun d=>some d
theorem du{Z f c d g i j k m n o p q s t u v a b r}(h:g5 a b=some r){Ny}(hz:Pz [stb f 134 [g,i,j,k,m,n,o,p,q,s,t,vs c a.length d,u,v],row (vs c a.length d) 188 7 (a.flatMap wI)] Ny Z)(iF:Ho Ny [stb f 134 [g,i,j,k,m,n,o,p,q,s,t,vs c a.length d,u,v],row (vs c a.length d) 188 7 (a.flatMap wI)]):
  Calls Tryz.prog 86 #[.iface 186 (.pointer (some ⟨f,11,none⟩)),.iface 188 (.agg #[vi b.yc,vi b.yJ,vi b.yP,vi b.yd,vi b.yg.ya,vi b.yg.fX,vi b.yg.fQ])] Ny fun e w'=>∃ x:Option Addr,∃ y:Nat,e = .returned (.tuple #[])/\True/\Hp (fps [stb f 134 [g,i,j,k,m,n,o,p,q,s,t,vs c a.length d,u,v],row (vs c a.length d) 188 7 (a.flatMap wI)]) Ny w' [stb f 134 [g,i,j,k,m,n,o,p,q,s,t,vs x r.length y,u,v],row (vs x r.length y) 188 7 (r.flatMap wI)]:=by
 unfold g5 at h
 refine Nj func86 U iF U<|WC.b<|bK h fun G B h=>D2q U<|H4 U (W0 (l:=[.tmp 5]) J2 call275 U<|.cons U .nil) .a2 (cc hz .a2 fun w pz ho=>dt B pz  ho) ?_
 rintro z A _
 refine Q0n<|bK h fun H C h=>bK h fun F D h=>D2q U<|Lo 9 (uP (l:=[]) YX call270 (xG .here U) .nil) .nil (uB hz .nil (.cons .h1 .nil) fun w pz ho la=>l5 C pz<|ZA.row (la _ (.head _) _) (RR.flat (enc:=wI)) ⟨w,pz.1⟩)<|La U<|Nc U (Nt call132) .a2 (cc hz .a2 fun w pz ho=>nn D pz  ho) ?_
 rintro  E
 exact H5 (cs':=[g,i,j,k,m,n,o,p,q,s,t,vs z F.length A,u,v]) .here (by rw[E])<|WL.nil<|oJ h▸Nh results86 .nil fun w hw=>⟨z,A,ms,trivial,hw.sub .a2⟩
def kf(d:List (List zd))(b:List yK)(a:Int)(f:Int)(g:Int)(h:Int)(i:(List yr)->Option (List yr)):Nat->Int->(List yr)->Option (List yr)
 | 0,_,_=>none
 | k+1,c,e=>if decide (c<(((nth d ((nth b a).yt)).length:Nat):Int)) then qt (fun(l:List yr)=>kf d b a f g h i k (i64 (c+1)) l) fun j=>chk (0<=c/\c<(((nth d ((nth b a).yt)).length:Nat):Int)) (if decide (((nth (nth d ((nth b a).yt)) c).ya)=f) then(g5 e (⟨g,h,(nth b a).yt,a,(⟨(nth (nth d ((nth b a).yt)) c).ya,(nth (nth d ((nth b a).yt)) c).fX,(nth (nth d ((nth b a).yt)) c).fQ⟩:zd)⟩:yr)).bind fun m=>j m else j e) else i e
def f9(j:zy)(c:List (List zd))(b:List yK)(k:List (z6×yC))(d:List yr)(l:List yh)(m:List yh)(e:Int)(f:Int)(g:Int)(a:Int):Option (List yr):=
 chk (0<=a/\a<b.length) (chk (0<=((nth b a).yt)/\((nth b a).yt)<c.length) (qt (fun(h:List yr)=>some h) fun i=>kf c b a e f g i xT 0 d))
theorem lr{Z m z B Q R S T V W X Y aa ab ad ae af ag ah ai aj ak c b t u al am an ao a f d az j x y ax ap aq g r}(h:f9 a f d az j x y ax ap aq g=some r){Ny}(hz:Pz [stb m 134 [vs z a.fM.length B,vs Q a.ye.length R,vs S a.fS.length T,vs V a.fK.length W,vs X a.yb.length Y,vs aa a.fH.length ab,vs ad a.fU.length ae,vs af a.yf.length ag,vs ah f.length ai,vs aj d.length ak,.map (some c),vs t j.length u,vs al x.length am,vs an y.length ao],xP c (ga gr) Value.pointer (jO b),wM z2U b,row (vs t j.length u) 188 7 (j.flatMap wI)] Ny Z)(aY:ZS Z 4 (kB Z) z B a.fM)(aZ:ZS Z 4 (g8 Z) Q R a.ye)(a0:ZS Z 4 (rq kr) S T a.fS)(a1:ZS Z 4 (rq gH) V W a.fK)(a2:ZS Z 7 (g7 Z) X Y a.yb)(a3:ZS Z 5 (rq gf) aa ab a.fH)(a4:ZS Z 3 (g9 Z) ad ae a.fU)(a5:ZS Z 4 (rq gg) af ag a.yf)(aD:ZS Z 1 (fm Z) ah ai f)(aE:ZS Z 3 (rq tH) aj ak d)(a6:mP b=az)(a7:ZS Z 3 (rq wm) al am x)(a8:ZS Z 3 (rq wm) an ao y)(iF:Ho Ny [stb m 134 [vs z a.fM.length B,vs Q a.ye.length R,vs S a.fS.length T,vs V a.fK.length W,vs X a.yb.length Y,vs aa a.fH.length ab,vs ad a.fU.length ae,vs af a.yf.length ag,vs ah f.length ai,vs aj d.length ak,.map (some c),vs t j.length u,vs al x.length am,vs an y.length ao],xP c (ga gr) Value.pointer (jO b),wM z2U b,row (vs t j.length u) 188 7 (j.flatMap wI)]):
  Calls Tryz.prog 47 #[vp m,vi ax,vi ap,vi aq,vi g] Ny fun e w'=>∃ aA:Option Addr,∃ aB:Nat,e = .returned (.tuple #[])/\True/\Hp (fps [stb m 134 [vs z a.fM.length B,vs Q a.ye.length R,vs S a.fS.length T,vs V a.fK.length W,vs X a.yb.length Y,vs aa a.fH.length ab,vs ad a.fU.length ae,vs af a.yf.length ag,vs ah f.length ai,vs aj d.length ak,.map (some c),vs t j.length u,vs al x.length am,vs an y.length ao],xP c (ga gr) Value.pointer (jO b),wM z2U b,row (vs t j.length u) 188 7 (j.flatMap wI)]) Ny w' [stb m 134 [vs z a.fM.length B,vs Q a.ye.length R,vs S a.fS.length T,vs V a.fK.length W,vs X a.yb.length Y,vs aa a.fH.length ab,vs ad a.fU.length ae,vs af a.yf.length ag,vs ah f.length ai,vs aj d.length ak,.map (some c),vs aA r.length aB,vs al x.length am,vs an y.length ao],row (vs aA r.length aB) 188 7 (r.flatMap wI),xP c (ga gr) Value.pointer (jO b),wM z2U b]:=by
 unfold f9 at h
 refine Oa func47 U iF U<|WC.b<|cK h fun aF h=>D1q U<|Le 14 w5<|Le 15 (xB J1)<|Le 16 (Nu zMs .here)<|La U<|L2 (Z:=Z) (Pr:=(rq tH)) zfJ aE aF ?_
 rintro a9 ba aG bb rfl
 refine Le 19 (xB dP)<|Le 20 (xC xL U<|wt hz.pv aG)<|Q1n U<|WC.b<|cK h fun aH h=>D1q U<|Le 22 w5<|Le 23 (xB ME)<|Le 24 (Nu zM2 .here)<|La U<|L2 (Z:=Z) (Pr:=(fm Z)) zc4 aD aH ?_
 rintro bc bd aI be ⟨aT,aU,rfl,aJ⟩
 refine Le 27 (xC zb5 U<|kz hz.pv aI)<|Le 28 (wc underlying58)<|Q1n U ?_
 obtain⟨aC,aK,h⟩:=wg h
 let A:Value:=(vs z a.fM.length B);let C:Value:=(vs Q a.ye.length R);let D:Value:=(vs S a.fS.length T);let E:Value:=(vs V a.fK.length W);let F:Value:=(vs X a.yb.length Y);let G:Value:=(vs aa a.fH.length ab);let H:Value:=(vs ad a.fU.length ae);let I:Value:=(vs af a.yf.length ag);let K:Value:=(vs ah f.length ai);let L:Value:=(vs aj d.length ak);let M:Value:=(vs al x.length am);let N:Value:=(vs an y.length ao);refine O7 (fun p ar au=>(aC p=some r)) (fun p ar au=>[]) (fun p ar au=>[row (vs ar p.length au) 188 7 (p.flatMap wI),stb m 134 [A,C,D,E,F,G,H,I,K,L,(.map<|some c),vs ar p.length au,M,N],xP c (ga gr) Value.pointer (jO b),wM z2U b]) ?_ ?_
 ·let J:Value:=(vs aT ((nth f ((nth d g).yt)).length) aU);let O:=(((nth f ((nth d g).yt)).length:Nat):Int);let P:Value:=(vi ((nth d g).yt));refine WC.block<|Oe (fun ay k n q s=>(kf f d g ax ap aq aC ay k n=some r)) (fun ay k n q s=>[(0,vp m),(1,vi ax),(2,vi ap),(3,vi aq),(4,vi g),(10,P),(27,J),(28,vi O),(29,vi k)]) (fun ay k n q s=>[row (vs q n.length s) 188 7 (n.flatMap wI),stb m 134 [A,C,D,E,F,G,H,I,K,L,(.map<|some c),vs q n.length s,M,N],xP c (ga gr) Value.pointer (jO b),wM z2U b]) (fun ay k n q s=>ay) ⟨xT,0,j,t,u⟩ h .q (.s4 .h3 .here .here .here) ?_
  rintro(_|aV) k n q s h;·cases h
  rw[kf] at h
  refine B1n U<|WC.b<|Lj h (fun aL h=>?_)<|fun aL h=>?_
  ·refine Np<|jK1 h fun aW aM h=>Ni (fun o av aw=>(aW o=some r)) (fun o av aw=>[(0,vp m),(1,vi ax),(2,vi ap),(3,vi aq),(4,vi g),(10,P),(27,J),(28,vi O),(29,vi k)]) (fun o av aw=>[row (vs av o.length aw) 188 7 (o.flatMap wI),stb m 134 [A,C,D,E,F,G,H,I,K,L,(.map<|some c),vs av o.length aw,M,N],xP c (ga gr) Value.pointer (jO b),wM z2U b]) ?_ ?_
   ·refine WC.block<|WC.b<|cK h fun aN h=>Ld<|L2 (Z:=Z) (Pr:=(rq mQ)) z7O aJ aN ?_
    rintro bf bg aO bh rfl
    refine Le 32 (xN z5e (qB hz.pv aO)) (Lh 12 (xV (cs:=[vi 0,vi 0,vi 0]) zdR U) fun bi _=>Lk (xR zc6 .here)<|Q0n<|B0q<|Le 33 (xB kC)<|Le 34 (Nu xL .here)<|Q2n U<|Lj h (fun aP h=>?_)<|fun aP h=>?_)
    ·refine bK h fun aX aQ h=>Lu (fun i=>[11].contains i) []<|Lf 0 U q_m<|Lf 1 U w5<|Lf 2 U (xB Xp)<|Lg 3 U (bT underlying186 U U)<|Lf 4 U q_m<|Lf 5 U q_m<|Lf 6 U q_m<|Lf 7 U q_m<|Lg 8 U (xN z5e (xO .here))<|Lf 9 U (wl (v:=(.agg #[vi ap,vi aq,P,vi g,(vi<|(nth (nth f<|(nth d g).yt) k).ya),(vi<|(nth (nth f<|(nth d g).yt) k).fX),(vi<|(nth (nth f<|(nth d g).yt) k).fQ)])) (Lq (l:=[.tmp 41,.tmp 42,.tmp 43,.tmp 44,.tmp 45]) (.r5 U U U U U) [0,1,2,3,4]))<|Lg 10 U (bT underlying188 U U)<|WD.call2 (i:=11) U U U U (.inl ⟨U,fun _ _=>(wJ.of .nil)⟩) (Nt call86) (.s2 .h2 .h1) (cc hz (.s2 .h2 .h1) fun w pz ho=>du aQ pz  ho) ?_
     rintro aR aS _
     exact N1<|Lt<|Lp ⟨aX,aR,aS⟩ h .q<|.s4 .h1 .here .h1 .h1
    ·exact N3<|Lt<|Lp ⟨n,q,s⟩ h .q<|.s4 .h1 .h1 .h1 .h1
   ·rintro o av aw h
    replace h:=(aM o).symm.trans h
    exact D2q U<|WL.nil<|N0 ⟨aV,i64 (k+1),o,av,aw⟩ h .q<|.a4
  ·exact N2<|Ln<|Ln<|Lv<|Lp ⟨n,q,s⟩ h .nil<|.a4
 ·rintro p ar au h
  replace h:=(aK p).symm.trans h
  exact oJ h▸Nh results47 .nil fun w hw=>⟨ar,au,ms,trivial,hw.sub (.s4 .h1 .here .here .here)⟩
def qC(c:Int)(d:Int->(List yr)->Option (Bool×List yr)):Nat->Int->(List yr)->Option (Bool×List yr)
 | 0,_,_=>none
 | g+1,a,b=>if (decide ((i64 ((i64 (2*a))+1))>=c))||(decide ((i64 ((i64 (2*a))+1))<0)) then d a b else qt (fun(e:Int)=>(jC b e a).bind fun h=>if !h then d a b else(jD b a e).bind fun i=>qC c d g e i) fun f=>(if decide ((i64 ((i64 ((i64 (2*a))+1))+1))<c) then(jC b (i64 ((i64 ((i64 (2*a))+1))+1)) (i64 ((i64 (2*a))+1))).bind fun j=>some j else some false).bind fun k=>if k then f (i64 ((i64 ((i64 (2*a))+1))+1)) else f (i64 ((i64 (2*a))+1))
def fh(b:List yr)(a:Int)(c:Int):Option (Bool×List yr):=
 sm (fun(d:Int) (e:List yr)=>some (decide (d>a),e)) fun f=>qC c f xT a b
theorem dw{Z g a b j k m n o p q s t u v x y c E F r}(h:fh c E F=some r){Ny}(hz:Pz [stb g 134 [j,k,m,n,o,p,q,s,t,u,v,vs a c.length b,x,y],row (vs a c.length b) 188 7 (c.flatMap wI)] Ny Z)(iF:Ho Ny [stb g 134 [j,k,m,n,o,p,q,s,t,u,v,vs a c.length b,x,y],row (vs a c.length b) 188 7 (c.flatMap wI)]):
  Calls Tryz.prog 133 #[.iface 186 (.pointer (some ⟨g,11,none⟩)),vi E,vi F] Ny fun e w'=>e = .returned (.bool r.1)/\(r.2.length=c.length)/\Hp (fps [stb g 134 [j,k,m,n,o,p,q,s,t,u,v,vs a c.length b,x,y],row (vs a c.length b) 188 7 (c.flatMap wI)]) Ny w' [stb g 134 [j,k,m,n,o,p,q,s,t,u,v,vs a r.2.length b,x,y],row (vs a r.2.length b) 188 7 (r.2.flatMap wI)]:=by
 unfold fh at h
 refine N8 func133 U iF U<|B1n U<|B2n U<|jK2 h fun K O h=>H6 (fun G i=>(K G i=some r)/\(i.length=c.length)) (fun G i=>[(1,vi E),(7,vi G)]) (fun G i=>[row (vs a i.length b) 188 7 (i.flatMap wI),stb g 134 [j,k,m,n,o,p,q,s,t,u,v,vs a i.length b,x,y]]) ?_ ?_
 ·let C:Value:=(.iface 186 (.pointer (some ⟨g,11,none⟩)));refine WC.block<|H0 (fun H f d=>(qC F K H f d=some r)/\(d.length=c.length)) (fun H f d=>[(0,C),(1,vi E),(2,vi F),(7,vi f)]) (fun H f d=>[row (vs a d.length b) 188 7 (d.flatMap wI),stb g 134 [j,k,m,n,o,p,q,s,t,u,v,vs a d.length b,x,y]]) (fun H f d=>H) ⟨xT,E,c⟩ ⟨h,U⟩ .q (.s2 .h1 .here) ?_
  rintro (_|ab) f d ⟨h,J⟩;·cases h
  rw[qC] at h
  let A:=(i64 ((i64 (2*f))+1));refine WC.block<|B4n U<|WC.b<|B0q<|La U<|La U<|La U<|La U<|Ly false 2 18 (B:=(decide (A>=F))||(decide (A<0))) (hB:=(fun h=>(fc h).symm)) (fun _ P=>?_) ?_
  ·exact Q3q U<|Lz (ff P) U .all
  refine Q0n<|Lj h (fun Q h=>?_)<|fun Q h=>?_
  ·exact N2<|Ln<|Ow U<|Ln<|Lv<|Lp ⟨f,d⟩ ⟨h,J⟩ .q<|.a2
  ·refine Np<|B2n U ?_
   obtain⟨ad,R,h⟩:=wg h
   let D:Value:=(vs a d.length b);refine L6 (fun z=>(ad z=some r)) (fun z=>[(0,C),(1,vi E),(2,vi F),(7,vi f),(9,vi z)]) (fun z=>[row D 188 7 (d.flatMap wI),stb g 134 [j,k,m,n,o,p,q,s,t,u,v,D,x,y]]) ?_ ?_
   ·refine B3n U<|WC.b<|bK h fun ae L h=>D4q U<|Ly true 4 28 (B:=ae) (hB:=(fun h=>(oJ<|jv L h).symm)) (fun _ S=>?_) ?_
    ·have I:=ju L S
     obtain⟨af,T,I⟩:=za I
     replace I:=oJ I
     exact Q3q U<|Lo 32 (uP (l:=[.tmp 30,.tmp 31]) cR call271 (xG .h1 U)<|.r2 U U) .nil (uB hz .nil (.cons .here .nil) fun w pz ho la=>sD T pz<|ZA.row (la _ (.head _) _) (RR.flat (enc:=wI)) ⟨w,pz.1⟩)<|La U<|Lz I U .all
    refine Q0n<|Lj h (fun V h=>?_)<|fun V h=>?_
    ·exact D2q U<|WL.nil<|Lp (i64 (A+1)) h .q<|.a2
    ·exact N3<|Lp A h .q<|.a2
   ·rintro z h
    replace h:=(R z).symm.trans h
    refine WC.b<|WC.b<|bK h fun ag W h=>D3q U<|Lo 38 (uP (l:=[.tmp 36,.tmp 37]) cR call271 (xG .h1 U)<|.r2 U U) .nil (uB hz .nil (.cons .here .nil) fun w pz ho la=>sD W pz<|ZA.row (la _ (.head _) _) (RR.flat (enc:=wI)) ⟨w,pz.1⟩)<|Q1n U<|Lj h (fun X h=>?_)<|fun X h=>?_
    ·exact N2<|Ln<|Ow U<|Ln<|Lv<|Lp ⟨f,d⟩ ⟨h,J⟩ .q<|.a2
    ·refine Np<|WC.b<|bK h fun M Y h=>D3q U<|Nc U (uP (l:=[.tmp 41,.tmp 42]) cS call272 (xG .h1 U)<|.r2 U U) (.cons .here .nil) (cc hz (.cons .here .nil) fun w pz ho=>sE Y pz  ho) ?_
     rintro  N
     exact H5 (cs':=[j,k,m,n,o,p,q,s,t,u,v,vs a M.length b,x,y]) .h1 (by rw[N])<|Q0n<|D2q U<|WL.nil<|Lt<|N0 ⟨ab,z,M⟩ ⟨h,N.trans J⟩ .q<|.s2 .h1 .here
 ·rintro G i ⟨h,aa⟩
  replace h:=(O G i).symm.trans h
  exact B4n U<|Nz<|oJ h▸Li results133 (.tmp U .nil) fun w hw=>⟨w3,aa,hw.sub (.s2 .h1 .here)⟩
def uq(a:List yr):Option yr:=
 chk (0<=(i64 ((a.length:Int)-1))/\(i64 ((a.length:Int)-1))<a.length) (chk (0<=(i64 ((a.length:Int)-1))/\(i64 ((a.length:Int)-1))<=a.length) (some (⟨(nth a (i64 ((a.length:Int)-1))).yc,(nth a (i64 ((a.length:Int)-1))).yJ,(nth a (i64 ((a.length:Int)-1))).yP,(nth a (i64 ((a.length:Int)-1))).yd,(⟨((nth a (i64 ((a.length:Int)-1))).yg).ya,((nth a (i64 ((a.length:Int)-1))).yg).fX,((nth a (i64 ((a.length:Int)-1))).yg).fQ⟩:zd)⟩:yr)))
theorem ee{Z d b c f g j k m n o p q s t u v a r}(h:uq a=some r){Ny}(hz:Pz [stb d 134 [f,g,j,k,m,n,o,p,q,s,t,vs b a.length c,u,v],row (vs b a.length c) 188 7 (a.flatMap wI)] Ny Z)(iF:Ho Ny [stb d 134 [f,g,j,k,m,n,o,p,q,s,t,vs b a.length c,u,v],row (vs b a.length c) 188 7 (a.flatMap wI)]):
  Calls Tryz.prog 274 #[.pointer (some ⟨d,11,none⟩)] Ny fun e w'=>∃ y:Option Addr,∃ z:Nat,e = .returned (.iface 188 (.agg #[vi r.yc,vi r.yJ,vi r.yP,vi r.yd,vi r.yg.ya,vi r.yg.fX,vi r.yg.fQ]))/\True/\Hp (fps [stb d 134 [f,g,j,k,m,n,o,p,q,s,t,vs b a.length c,u,v],row (vs b a.length c) 188 7 (a.flatMap wI)]) Ny w' [stb d 134 [f,g,j,k,m,n,o,p,q,s,t,vs y ((a.take ((i64 ((a.length:Int)-1)):Int).toNat).length) z,u,v],row (vs y ((a.take ((i64 ((a.length:Int)-1)):Int).toNat).length) z) 188 7 ((a.take ((i64 ((a.length:Int)-1)):Int).toNat).flatMap wI)]:=by
 unfold uq at h
 refine Bl func274 U iF U<|B1n U<|B1q U<|Le 6 w5<|Le 7 (Nu zoO .here)<|Q1n U<|WC.b<|cK h fun x h=>D2q U<|Le 10 (wc underlying132)<|La U<|N5 (fun w hw=>Hp.vf .h1 hw (by intro hz';have:=x;rw[hz'] at this;omega)) ?_
 rintro⟨E,rfl⟩
 let A:=(i64 ((a.length:Int)-1));refine Le 12 (xZ zdV x.1 x.2 wF)<|Le 13 (wo (cs:=(wI<|nth a A)) zoP<|vQ .h1<|wN (enc:=wI) (l:=a) (i:=i64 ((a.length:Int)-1)) (sz:=7) x.1 x.2)<|Lh 4 (xV (cs:=[vi 0,vi 0,vi 0,vi 0,vi 0,vi 0,vi 0]) zMu U) ?_
 intro F _
 refine Lk (xR zxQ .here)<|Q0n<|WC.b<|cK h fun D h=>D3q U<|Le 17 (wc underlying132)<|La U (Ph (enc:=wI) (ls:=a) U U zdV U U .h2 D fun B C=>Le 20 w5<|Lk (jl (ds:=[f,g,j,k,m,n,o,p,q,s,t,vs B ((a.take (A:Int).toNat).length) C,u,v]) zMt .h2)<|Q0n<|B0q<|Le 21 (xN zoP (xO .h2))<|Le 22 (bT underlying188 U U)<|Q1n U<|Nz ?_)
 exact oJ h▸Li results274 (.tmp U .nil) fun w hw=>⟨B,C,w3,trivial,hw.sub .a2⟩
def mh(b:List yr):Option (yr×List yr):=
 (gM b).bind fun c=>(jD b 0 (i64 (c-1))).bind fun d=>(fh d 0 (i64 (c-1))).bind fun a=>(uq a.2).bind fun e=>some (e,a.2.take ((i64 ((a.2.length:Int)-1)):Int).toNat)
theorem el{Z u b c d f g i j k m n o p q s t a r}(h:mh a=some r){Ny}(hz:Pz [stb u 134 [d,f,g,i,j,k,m,n,o,p,q,vs b a.length c,s,t],row (vs b a.length c) 188 7 (a.flatMap wI)] Ny Z)(iF:Ho Ny [stb u 134 [d,f,g,i,j,k,m,n,o,p,q,vs b a.length c,s,t],row (vs b a.length c) 188 7 (a.flatMap wI)]):
  Calls Tryz.prog 87 #[.iface 186 (.pointer (some ⟨u,11,none⟩))] Ny fun e w'=>∃ v:Option Addr,∃ x:Nat,e = .returned (.iface 188 (.agg #[vi r.1.yc,vi r.1.yJ,vi r.1.yP,vi r.1.yd,vi r.1.yg.ya,vi r.1.yg.fX,vi r.1.yg.fQ]))/\True/\Hp (fps [stb u 134 [d,f,g,i,j,k,m,n,o,p,q,vs b a.length c,s,t],row (vs b a.length c) 188 7 (a.flatMap wI)]) Ny w' [stb u 134 [d,f,g,i,j,k,m,n,o,p,q,vs v r.2.length x,s,t],row (vs v r.2.length x) 188 7 (r.2.flatMap wI)]:=by
 unfold mh at h
 refine Bl func87 U iF U<|B1n U<|WC.b<|bK h fun I y h=>D1q U<|Lo 5 (uP (l:=[]) YX call270 (xG .here U) .nil) .nil (uB hz .nil (.cons .h1 .nil) fun w pz ho la=>l5 y pz<|ZA.row (la _ (.head _) _) (RR.flat (enc:=wI)) ⟨w,pz.1⟩)<|Q2n U<|WC.b<|bK h fun G z h=>D2q U<|Nc U (uP (l:=[.const (vi 0),.tmp 8]) cS call272 (xG .here U)<|.r2 U U) (.cons .h1 .nil) (cc hz (.cons .h1 .nil) fun w pz ho=>sE z pz  ho) ?_
 rintro  A
 refine H5 (cs':=[d,f,g,i,j,k,m,n,o,p,q,vs b G.length c,s,t]) .h1 (by rw[A])<|Q0n<|WC.b<|bK h fun H B h=>D2q U<|Nc U (Nt call133) .a2 (cc hz .a2 fun w pz ho=>dw B pz  ho) ?_
 rintro  C
 refine H5 (cs':=[d,f,g,i,j,k,m,n,o,p,q,vs b H.2.length c,s,t]) .here (by rw[C])<|Q0n<|WC.b<|bK h fun J D h=>D1q U<|H4 U (W0 (l:=[]) Ku call274 U .nil) .a2 (cc hz .a2 fun w pz ho=>ee D pz  ho) ?_
 rintro E F _
 exact Q1n U<|Nz<|oJ h▸Li results87 (.tmp U .nil) fun w hw=>⟨E,F,w3,trivial,hw.sub .a2⟩
def co(a:Int)(b:Int)(c:Int):Option yC:=
 if (((((decide (a<1))||(decide (a>16)))||(decide (b<0)))||(decide (b>1000)))||(decide (c<0)))||(decide (c>1073741824)) then none else some (⟨(⟨a,b,c⟩:xz),0,0,([]:List yj)⟩:yC)
theorem GF{Z a b c r}(h:co a b c=some r){Ny}(hz:PZ [] Ny Z):
  Calls Tryz.prog 134 #[vi a,vi b,vi c] Ny fun e w'=>∃ d:Nat,∃ f:Option Addr,∃ g:Nat,e = .returned (.tuple #[vp d,vi 0])/\True/\Hp [] Ny w' [stb d 253 [vi r.yk.yp,vi r.yk.yl,vi r.yk.fT,vi r.yQ,vi r.yE,vs f r.yn.length g],row (vs f r.yn.length g) 256 2 (r.yn.flatMap gt)]:=by
 unfold co at h
 refine Nl func134 U U<|B2n U<|WC.b<|B3q U<|Ly false 2 10 (B:=(decide (a<1))||(decide (a>16))) (hB:=(fun h=>(fc h).symm)) (fun _ i=>?_) ?_
 ·exact Q3q U<|Lz (ff i) U .all
 refine La U<|Ly false 2 14 (B:=((decide (a<1))||(decide (a>16)))||(decide (b<0))) (hB:=(fun h=>(fc h).symm)) (fun _ j=>?_) ?_
 ·exact Q3q U<|Lz (ff j) U .all
 refine La U<|Ly false 2 18 (B:=(((decide (a<1))||(decide (a>16)))||(decide (b<0)))||(decide (b>1000))) (hB:=(fun h=>(fc h).symm)) (fun _ k=>?_) ?_
 ·exact Q3q U<|Lz (ff k) U .all
 refine La U<|Ly false 2 22 (B:=((((decide (a<1))||(decide (a>16)))||(decide (b<0)))||(decide (b>1000)))||(decide (c<0))) (hB:=(fun h=>(fc h).symm)) (fun _ m=>?_) ?_
 ·exact Q3q U<|Lz (ff m) U .all
 refine La U<|Ly false 2 26 (B:=(((((decide (a<1))||(decide (a>16)))||(decide (b<0)))||(decide (b>1000)))||(decide (c<0)))||(decide (c>1073741824))) (hB:=(fun h=>(fc h).symm)) (fun _ n=>?_) ?_
 ·exact Q3q U<|Lz (ff n) U .all
 refine Q0n<|Lj h (fun o h=>?_)<|fun o h=>?_
 ·refine B2n U<|Nz<|Ll ?_
  cases h
 ·refine Np<|B3q U<|Le 33 (wl (v:=(.agg #[vi a,vi b,vi c])) (Lq (l:=[.tmp 30,.tmp 31,.tmp 32]) (.r3 U U U) [0,1,2]))<|Le 34 (wl (v:=(.agg #[vi a,vi b,vi c,vi 0,vi 0,vn])) (Lq (l:=[.tmp 33]) (.cons U .nil) [0])) (Lh 35 (we (cs:=[vi a,vi b,vi c,vi 0,vi 0,vn])) fun p _=>Q2n U<|Nz<|WX.nilRow 256 2 ?_)
  exact oJ h▸Li results134 (.tmp U<|.tmp U .nil) fun w hw=>⟨p,none,0,qc,trivial,hw.sub (.s2 .h1 .here)⟩
def te(b:zy)(j:List (List zd))(k:List yK)(c:List (z6×yC))(l:List yr)(m:List yh)(n:List yh)(a:zd):Option (List (z6×yC)):=
 qt (fun(f:List (z6×yC))=>some f) fun d=>if !wS c (⟨a.ya,a.fQ⟩:z6) then sm (fun(g:Int) (h:Int)=>chk (0<=a.fQ/\a.fQ<b.fK.length) ((co ((nth b.fK a.fQ).yp) g h).bind fun i=>d (w7 c (⟨a.ya,a.fQ⟩:z6) i))) fun e=>if decide ((i64 (a.ya-(b.fM.length:Int)))>=0) then chk (0<=(i64 (a.ya-(b.fM.length:Int)))/\(i64 (a.ya-(b.fM.length:Int)))<b.fS.length) (e ((nth b.fS (i64 (a.ya-(b.fM.length:Int)))).yl) ((nth b.fS (i64 (a.ya-(b.fM.length:Int)))).fT)) else e 0 1073741824 else d c
theorem Xz{Z y O P Q R S T V W X Y aa ab ad ae af ag ah ai aj ak f d al am an ao ap aq c G H z I J K a r}(h:te c G H z I J K a=some r){Ny}(hz:Pz [xP f (ga gr) Value.pointer (jO d),wM z2U d] Ny Z)(aI:ZS Z 4 (kB Z) O P c.fM)(aJ:ZS Z 4 (g8 Z) Q R c.ye)(ar:ZS Z 4 (rq kr) S T c.fS)(av:ZS Z 4 (rq gH) V W c.fK)(aK:ZS Z 7 (g7 Z) X Y c.yb)(aL:ZS Z 5 (rq gf) aa ab c.fH)(aM:ZS Z 3 (g9 Z) ad ae c.fU)(aN:ZS Z 4 (rq gg) af ag c.yf)(aO:ZS Z 1 (fm Z) ah ai G)(aP:ZS Z 3 (rq tH) aj ak H)(L:mP d=z)(aQ:ZS Z 7 (rq wI) al am I)(aR:ZS Z 3 (rq wm) an ao J)(aS:ZS Z 3 (rq wm) ap aq K)(m:ZC Z y [vs O c.fM.length P,vs Q c.ye.length R,vs S c.fS.length T,vs V c.fK.length W,vs X c.yb.length Y,vs aa c.fH.length ab,vs ad c.fU.length ae,vs af c.yf.length ag,vs ah G.length ai,vs aj H.length ak,.map (some f),vs al I.length am,vs an J.length ao,vs ap K.length aq])(iF:Ho Ny [xP f (ga gr) Value.pointer (jO d),wM z2U d]):
  Calls Tryz.prog 88 #[vq y,.agg #[vi a.ya,vi a.fX,vi a.fQ]] Ny fun e w'=>∃ B:List (z6×((Nat×(Option Addr×Nat))×yC)),e = .returned (.pointer (xK (jO B) (⟨a.ya,a.fQ⟩:z6) (none:Option Addr)))/\(mP B=r)/\Hp (fps [xP f (ga gr) Value.pointer (jO d),wM z2U d]) Ny w' [xP f (ga gr) Value.pointer (jO B),wM z2U B]:=by
 unfold te at h
 refine Nj func88 U iF U ?_
 let A:List Value:=[vi a.ya,vi a.fX,vi a.fQ];refine B0q<|Lh 3 (we (cs:=A)) ?_
 intro N _
 refine Q1n U<|B0q<|Le 9 (xB kC)<|Le 10 (Nu xL .here)<|Le 11 (xB sr)<|Le 12 (Nu xL .here)<|Le 13 (wl (v:=(.agg #[vi a.ya,vi a.fQ])) (Lq (l:=[.tmp 10,.tmp 12]) (.r2 U U) [0,1])) (Lh 5 (xV (cs:=[vi 0,vi 0]) zXB U) fun s _=>Lk (xR zXC .here)<|Q0n ?_)
 obtain⟨aG,aw,h⟩:=wg h
 let D:List Value:=[vi a.ya,vi a.fQ];refine H6 (fun o n=>(aG o=some r)/\(mP n=o)) (fun o n=>[(0,vq y),(5,vp s)]) (fun o n=>[stb s 246 D,xP f (ga gr) Value.pointer (jO n),wM z2U n]) ?_ ?_
 ·refine WC.b<|Lu nc []<|Lf 0 U q_m<|Lf 1 U w5<|Lf 2 U (xB Xq)<|Lg 3 U (xC zCZ U<|wt hz.pv m)<|Lg 4 U (xN zD0 (xO .here))<|Lg 5 U (jk (k:=(⟨a.ya,a.fQ⟩:z6)) (dflt:=(none:Option Addr)) zD1 underlying130 zMv .h2)<|Lf 6 U (Uw L underlying191 U U)<|N1<|Lb<|Lj h (fun ax h=>?_)<|fun ax h=>?_
  ·refine B2n U<|jK2 h fun aH ay h=>H6 (fun p q=>(aH p q=some r)) (fun p q=>[(0,vq y),(3,vp N),(5,vp s),(6,vi p),(7,vi q)]) (fun p q=>[stb N 60 A,stb s 246 D,xP f (ga gr) Value.pointer (jO d),wM z2U d]) ?_ ?_
   ·refine WC.b<|Lu nc []<|Lf 0 U (xB kC)<|Lg 1 U (Nu xL .h1)<|Lf 2 U q_m<|Lf 3 U w5<|Lf 4 U (xB cT)<|Lf 5 U (xB uR)<|Lg 6 U (xC za6 U<|wt hz.pv m)<|Lf 7 U (wc underlying22)<|Lf 8 U uH<|Lf 9 U q_z<|N1<|Lb<|B2n U<|Lj h (fun az h=>?_)<|fun az h=>?_
    ·refine cK h fun au h=>Lu nc []<|Lf 0 U q_m<|Lf 1 U w5<|Lf 2 U (xB cT)<|Lf 3 U (xB uS)<|Lg 4 U (xC zb4 U<|wt hz.pv m)<|Lf 5 U q_m<|L7 (j:=6) (Z:=Z) (Pr:=(rq kr)) zc5 ar au ?_
     rintro aT aU aA aV rfl
     refine Lf 7 U (xB dL)<|Lg 8 U (xC xL U<|wt hz.pv aA)<|Lf 9 U q_m<|Lf 10 U w5<|Lf 11 U (xB cT)<|Lf 12 U (xB uS)<|Lg 13 U (xC zb4 U<|wt hz.pv m)<|Lf 14 U q_m<|L7 (j:=15) (Z:=Z) (Pr:=(rq kr)) zc5 ar au ?_
     rintro aW aX aB aY rfl
     refine Lf 16 U (xB dM)<|Lg 17 U (xC xL U<|wt hz.pv aB)<|Lf 18 U q_z<|Lf 19 U q_z<|N1 ?_
     let C:=(i64 (a.ya-(c.fM.length:Int)));exact Lp ⟨(nth c.fS C).yl,(nth c.fS C).fT⟩ h .q<|.s4 .h1 .here .here .here
    ·exact N3<|Lp ⟨0,1073741824⟩ h .q<|.s4 .h1 .here .here .here
   ·rintro p q h
    replace h:=(ay p q).symm.trans h
    refine cK h fun aC h=>bK h fun t aD h=>Lu (fun i=>[21].contains i) []<|Lf 0 U q_m<|Lf 1 U w5<|Lf 2 U (xB Xq)<|Lg 3 U (xC zCZ U<|wt hz.pv m)<|Lg 4 U (xN zD0 (xO .h1))<|Lf 5 U q_m<|Lf 6 U w5<|Lf 7 U (xB cT)<|Lf 8 U (xB rI)<|Lg 9 U (xC zdP U<|wt hz.pv m)<|Lf 10 U (xB sr)<|Lg 11 U (Nu xL .here)<|L7 (j:=12) (Z:=Z) (Pr:=(rq gH)) zj3 av aC ?_
    rintro aZ a0 aE a1 rfl
    refine Lf 13 U (xB oD)<|Lg 14 U (xC xL U<|wt hz.pv aE)<|Lf 15 U q_m<|Lf 16 U q_m<|WD.call3 (i:=17) U (by kernel_rfl) U U U (.inr U) (Nt call134) .nil (cc hz .nil fun w pz ho=>GF aD pz ) ?_
    rintro u E F _
    exact Lf 18 U q_m<|Lf 19 U mK<|Lf 20 U mK<|WD.forced0 (i:=21) U (wJ.of .nil) (kJ (k:=(⟨a.ya,a.fQ⟩:z6)) (v:=(some ⟨u,0,none⟩:Option Addr)) zD1 underlying130 .h4)<|Og (fun _ h=>Hp.Gq (els:=z2U) (k:=(⟨a.ya,a.fQ⟩:z6)) (b:=u) (g:=(E,F)) (x:=t) .h5 (.s2 .h1 .h1) h)<|Og (M:=[xP f (ga gr) Value.pointer (jO<|w7 d (⟨a.ya,a.fQ⟩:z6) ((u,(E,F)),t)),wM z2U (w7 d (⟨a.ya,a.fQ⟩:z6) ((u,(E,F)),t)),stb N 60 A,stb s 246 D]) (fun _ h=>Hp.eT .h1 (VF _ _ _ _ _).symm h)<|N1<|Lp ⟨w7 z (⟨a.ya,a.fQ⟩:z6) t,w7 d (⟨a.ya,a.fQ⟩:z6) ((u,(E,F)),t)⟩ ⟨h,lG L _ _ _⟩ .q<|.s3 .h3 .here .here
  ·exact N3<|Lp ⟨z,d⟩ ⟨h,L⟩ .q<|.s3 .here .h1 .h1
 ·rintro o n ⟨h,aF⟩
  replace h:=(aw o).symm.trans h
  exact WC.b<|Lu nc []<|Lf 0 U q_m<|Lf 1 U w5<|Lf 2 U (xB Xq)<|Lg 3 U (xC zCZ U<|wt hz.pv m)<|Lg 4 U (xN zD0 (xO .here))<|Lg 5 U (jk (k:=(⟨a.ya,a.fQ⟩:z6)) (dflt:=(none:Option Addr)) zD1 underlying130 zMv .h1)<|Lf 6 U q_z<|N1<|Lb<|Nz<|oJ h▸Li results88 (.tmp U .nil) fun w hw=>⟨n,w3,aF,hw.sub (.s2 .h1 .h1)⟩
def ua(a:yC):Option Bool:=
 some (decide (a.yk.yp=0))
theorem b9{Z b c d a r}(h:ua a=some r){Ny}(hz:PZ [] Ny Z)(f:ZS Z 2 (rq gt) c d a.yn)(e:ZC Z b [vi a.yk.yp,vi a.yk.yl,vi a.yk.fT,vi a.yQ,vi a.yE,vs c a.yn.length d]):
  RC 135 #[vq b] Ny (.bool r) [] []:=by
 unfold ua at h
 exact Nb func135 U U<|B1n U<|B1q U<|Le 4 (QF underlying191 U U)<|Q2q U<|Le 7 w5<|Le 8 (xB eZ)<|Le 9 (xB J5)<|Le 10 (xC xL U<|wt hz.pv e)<|La U<|La U<|La U<|WL.nil<|Lb<|Nz<|oJ h▸Nm results135
def mI(a:yj)(b:Int):Option Bool:=
 some (decide (a.yO<=b))
theorem YO{Z b a c r}(h:mI a c=some r){Ny}(hz:PZ [] Ny Z)(d:ZC Z b [vi c]):
  RC 137 #[.agg #[vi a.yo,vi a.yO],vq b] Ny (.bool r) [] []:=by
 unfold mI at h
 refine L0 func137 U U<|B0q (Lh 2 (we (cs:=[vi a.yo,vi a.yO])) fun e _=>Q1n U<|B0q<|Le 4 (xB J6)<|Le 5 (Nu xL .here)<|Le 6 (xC xL U<|kz hz.pv d)<|Q2n U<|Nz ?_)
 exact oJ h▸Nm results137
def wB(b:List yj)(zcV:yj->Option Bool)(c:Option Int):Nat->Int->Option Int
 | 0,_=>none
 | d+1,a=>if decide (a<b.length) then chk (0<=a/\a<b.length) ((zcV (⟨(nth b a).yo,(nth b a).yO⟩:yj)).bind fun e=>if e then some a else wB b zcV c d (i64 (a+1))) else c
def vL(a:List yj)(zcV:yj->Option Bool):Option Int:=
 uN (some (-1)) fun b=>wB a zcV b xT 0
theorem rl{Z d g}(zoc zx3){b}(zcV){r}(h:vL b zcV=some r){Ny}(hz:PZ [] Ny Z)(j:ZS Z 2 (rq gt) d g b)(k:∀ args w,(callFunc zoc args).run Tryz.prog w = .ok (.enter zoc args) w)(m:∀ w:World,PZ [] w Z->∀(x0:yj) (r:Bool),zcV x0=some r->Calls Tryz.prog zoc (([.agg #[vi x0.yo,vi x0.yO]]:List Value)++zx3).toArray w fun e w'=>e = .returned (.bool r)/\Hp [] w w' []):
  RC 167 #[vs d b.length g,.func (.func zoc) #[] (zx3).toArray] Ny (vi r) [] []:=by
 unfold vL at h
 refine L0 func167 U U<|B1n U<|jK0 h fun i n h=>Nf (i=some r) ([]) ([]) ?_ ?_
 ·refine B1q U<|Le 7 (wc underlying251)<|Q1n U<|WC.block<|Ng (fun c a=>(wB b zcV i c a=some r)) (fun c a=>[(0,vs d b.length g),(1,.func (.func zoc) #[] (zx3).toArray),(7,vi (b.length:Int)),(8,vi a)]) (fun c a=>[]) (fun c a=>c) ⟨xT,0⟩ h .q .nil ?_
  rintro(_|u) a h;·cases h
  rw[wB] at h
  refine B1n U<|WC.b<|Lj h (fun o h=>?_)<|fun o h=>?_
  ·refine Np<|WC.b<|WC.block<|B2n U<|WC.b<|cK h fun p h=>bK h fun v q h=>D3q U<|L2 (Z:=Z) (Pr:=(rq gt)) zfK j p ?_
   rintro x y s z rfl
   refine Le 15 (xN zoQ (qB hz.pv s))<|Lo 16 (qk (l:=[.tmp 15]) (f:=zoc) (caps:=zx3) k<|.cons U .nil) .nil (fun w hw=>m w (hz.now hw) (⟨(nth b a).yo,(nth b a).yO⟩:yj) v  q)<|Q0n<|Lj h (fun t h=>?_)<|fun t h=>?_
   ·exact B2n U<|Nz<|Lx<|Ll<|Ll<|Lx<|Ll<|oJ h▸Nm results167
   ·exact N3<|Lt<|Lb<|D2q U<|WL.nil<|N0 ⟨u,i64 (a+1)⟩ h .q .nil
  ·exact N2<|Ln<|Ln<|Lv<|Lp () h .nil .nil
 ·rintro  h
  replace h:=n.symm.trans h
  exact B1n U<|Nz<|oJ h▸Nm results167
end Go.Proofs.YthjnhebofpebpaaGreat
