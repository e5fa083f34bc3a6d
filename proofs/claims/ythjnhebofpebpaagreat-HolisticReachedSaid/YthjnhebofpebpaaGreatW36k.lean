/- A part of this claim's proof: models of functions, walks, plain laws. No conditions. -/
import Derived.Test.YthjnhebofpebpaaGreatW36h
set_option linter.all false
namespace Go.Proofs.YthjnhebofpebpaaGreat
open Go Go.RowKit Sep Tryz
variable {f:Int}{g:List yr}
set_option maxRecDepth 30000
set_option maxHeartbeats 4000000
def ko(b:List yW)(c:zu)(d:Option Bool):Nat->Int->Option Bool
 | 0,_=>none
 | e+1,a=>if decide (a<b.length) then chk (0<=a/\a<b.length) (chk (((((((decide (((nth b a).yb)<0))||(decide (((nth b a).yb)>536870912)))||(decide (((nth b a).yx)<0)))||(decide (((nth b a).yx)>=c.yc.length)))||(decide (((nth b a).yo)<1)))||(decide (((nth b a).yo)>72)))=false->((decide (a>0))=true->(0<=(i64 (a-1))/\(i64 (a-1))<b.length))) (if ((((((decide (((nth b a).yb)<0))||(decide (((nth b a).yb)>536870912)))||(decide (((nth b a).yx)<0)))||(decide (((nth b a).yx)>=c.yc.length)))||(decide (((nth b a).yo)<1)))||(decide (((nth b a).yo)>72)))||((decide (a>0))&&(decide (((nth b (i64 (a-1))).yb)>((nth b a).yb)))) then some false else ko b c d e (i64 (a+1)))) else d
def t6(b:zu)(a:List yW):Option Bool:=
 mZ (some (decide ((a.length:Int)<=4000))) fun c=>ko a b c xR 0
theorem Xb{Z l m n o p q s t u v x y z B K L M N c b r}(h:t6 c b=some r){Nx}(hz:PZ [] Nx Z)(ay:ZS Z 4 (kr Z) l m c.fM)(az:ZS Z 4 (g5 Z) n o c.yd)(aA:ZS Z 4 (rq ki) p q c.fS)(aB:ZS Z 4 (rq gg) s t c.fK)(aC:ZS Z 7 (g8 Z) u v c.yc)(aD:ZS Z 5 (rq gc) x y c.fH)(aE:ZS Z 3 (g6 Z) z B c.fU)(aF:ZS Z 4 (rq ge) K L c.ye)(ad:ZS Z 3 (rq nJ) M N b):
  RC 46 #[.agg #[vs l c.fM.length m,vs n c.yd.length o,vs p c.fS.length q,vs s c.fK.length t,vs u c.yc.length v,vs x c.fH.length y,vs z c.fU.length B,vs K c.ye.length L],vs M b.length N] Nx (.bool r) [] []:=by
 unfold t6 at h
 refine L0 func46 U U ?_
 let C:List Value:=[vs l c.fM.length m,vs n c.yd.length o,vs p c.fS.length q,vs s c.fK.length t,vs u c.yc.length v,vs x c.fH.length y,vs z c.fU.length B,vs K c.ye.length L];refine B0q<|Lg 2 (wa (cs:=C)) ?_
 intro d _
 refine Q1n U ?_
 obtain⟨ae,am,h⟩:=qj h
 let A:Value:=(vs M b.length N);refine Nd (ae=some r) ([(1,A)]) ([]) ?_ ?_
 ·let F:Value:=(vi (b.length:Int));refine B1q U<|Le 8 (w9 underlying77)<|Q1n U<|WC.block<|Ng (fun e a=>(ko b c ae e a=some r)) (fun e a=>[(1,A),(2,vp d),(7,A),(8,F),(9,vi a)]) (fun e a=>[stb d 31 C]) (fun e a=>e) ⟨xR,0⟩ h .q (.cons .here .nil) ?_
  rintro(_|ax) a h;·cases h
  rw[ko] at h
  refine B1n U<|WC.b<|Lj h (fun an h=>?_)<|fun an h=>?_
  ·refine Nn<|WC.b<|WC.block<|WC.b<|cK h fun ao h=>D1q U<|L2 (Z:=Z) (Pr:=(rq nJ)) zoe ad ao ?_
   rintro aG aH ap aI rfl
   refine Le 13 (xK zLW (qx hz.pv ap)) (Lg 6 (xT (cs:=[vi 0,vi 0,vi 0]) zLX) fun f _=>La U<|Ll (xP zLY .here)<|Q0n<|WC.b ?_)
   obtain⟨aq,h⟩:=xG h
   let J:Value:=(.bool ((decide (((nth b a).yb)<0))||(decide (((nth b a).yb)>536870912))));refine Lu nc []<|Lf 0 U (xz dB)<|Lh 1 U (Nt xJ .here)<|Lf 2 U ra<|Lf 3 U q_m<|Nf (fuel':=38) [(1,A),(2,vp d),(7,A),(8,F),(9,vi a),(6,vp f),(5,vi a),(17,(.bool<|decide (((nth b a).yb)<0))),(21,J)] (vA 46 (dn 8)) ?_<|fun af=>?_
   rotate_left
   ·rcases Bool.eq_false_or_eq_true (decide (((nth b a).yb)<0)) with hb' | hb'
    ·have O:=hb';clear hb'
     refine L3 (i:=17) U O<|Lp 4 U<|Lp 5 U<|Lp 6 U<|Lf 7 U qW<|Lx .a2 ?_ af
     exact .t 7<|.r2 (zA<|Eq.symm O)<|zA<|gO O
    ·have P:=hb';clear hb'
     refine L3 (i:=17) U P<|Lf 4 U (xz dB)<|Lh 5 U (Nt xJ .here)<|Lf 6 U pJ<|Lf 7 U qX<|Lx .a2 ?_ af
     exact .t 7<|.r2 (zA<|Eq.symm P)<|zA<|gP P
   let H:Value:=(.bool (((decide (((nth b a).yb)<0))||(decide (((nth b a).yb)>536870912)))||(decide (((nth b a).yx)<0))));refine WD.d (bz 8 38)<|Lf 8 U q_m<|Nf (fuel':=33) [(1,A),(2,vp d),(7,A),(8,F),(9,vi a),(6,vp f),(5,vi a),(22,J),(26,H)] (vA 46 (dn 13)) ?_<|fun ag=>?_
   rotate_left
   ·rcases Bool.eq_false_or_eq_true ((decide (((nth b a).yb)<0))||(decide (((nth b a).yb)>536870912))) with hb' | hb'
    ·have Q:=hb';clear hb'
     refine L3 (i:=22) U Q<|Lp 9 U<|Lp 10 U<|Lp 11 U<|Lf 12 U qW<|Lx .a2 ?_ ag
     exact .t 7<|.r2 (zA<|Eq.symm Q)<|zA<|gO Q
    ·have R:=hb';clear hb'
     refine L3 (i:=22) U R<|Lf 9 U (xz Yb)<|Lh 10 U (Nt xJ .here)<|Lf 11 U ra<|Lf 12 U qX<|Lx .a2 ?_ ag
     exact .t 7<|.r2 (zA<|Eq.symm R)<|zA<|gP R
   let I:=(c.yc.length:Int);let G:Value:=(.bool ((((decide (((nth b a).yb)<0))||(decide (((nth b a).yb)>536870912)))||(decide (((nth b a).yx)<0)))||(decide (((nth b a).yx)>=I))));refine WD.d (bz 13 33)<|Lf 13 U q_m<|Nf (fuel':=25) [(1,A),(2,vp d),(7,A),(8,F),(9,vi a),(6,vp f),(5,vi a),(27,H),(34,G)] (vA 46 (dn 21)) ?_<|fun ah=>?_
   rotate_left
   ·rcases Bool.eq_false_or_eq_true (((decide (((nth b a).yb)<0))||(decide (((nth b a).yb)>536870912)))||(decide (((nth b a).yx)<0))) with hb' | hb'
    ·have S:=hb';clear hb'
     refine L3 (i:=27) U S<|Lp 14 U<|Lp 15 U<|Lp 16 U<|Lp 17 U<|Lp 18 U<|Lp 19 U<|Lf 20 U qW<|Lx .a2 ?_ ah
     exact .t 7<|.r2 (zA<|Eq.symm S)<|zA<|gO S
    ·have T:=hb';clear hb'
     refine L3 (i:=27) U T<|Lf 14 U (xz Yb)<|Lh 15 U (Nt xJ .here)<|Lf 16 U (xz uO)<|Lh 17 U (Nt zab .h1)<|Lf 18 U (w9 underlying26)<|Lf 19 U (Q5 U U)<|Lf 20 U qX<|Lx .a2 ?_ ah
     exact .t 7<|.r2 (zA<|Eq.symm T)<|zA<|gP T
   let E:Value:=(.bool (((((decide (((nth b a).yb)<0))||(decide (((nth b a).yb)>536870912)))||(decide (((nth b a).yx)<0)))||(decide (((nth b a).yx)>=I)))||(decide (((nth b a).yo)<1))));refine WD.d (bz 21 25)<|Lf 21 U q_m<|Nf (fuel':=20) [(1,A),(2,vp d),(7,A),(8,F),(9,vi a),(6,vp f),(5,vi a),(35,G),(39,E)] (vA 46 (dn 26)) ?_<|fun ai=>?_
   rotate_left
   ·rcases Bool.eq_false_or_eq_true ((((decide (((nth b a).yb)<0))||(decide (((nth b a).yb)>536870912)))||(decide (((nth b a).yx)<0)))||(decide (((nth b a).yx)>=c.yc.length))) with hb' | hb'
    ·have V:=hb';clear hb'
     refine L3 (i:=35) U V<|Lp 22 U<|Lp 23 U<|Lp 24 U<|Lf 25 U qW<|Lx .a2 ?_ ai
     exact .t 7<|.r2 (zA<|Eq.symm V)<|zA<|gO V
    ·have W:=hb';clear hb'
     refine L3 (i:=35) U W<|Lf 22 U (xz WF)<|Lh 23 U (Nt xJ .here)<|Lf 24 U ra<|Lf 25 U qX<|Lx .a2 ?_ ai
     exact .t 7<|.r2 (zA<|Eq.symm W)<|zA<|gP W
   let D:Value:=(.bool ((((((decide (((nth b a).yb)<0))||(decide (((nth b a).yb)>536870912)))||(decide (((nth b a).yx)<0)))||(decide (((nth b a).yx)>=I)))||(decide (((nth b a).yo)<1)))||(decide (((nth b a).yo)>72))));refine WD.d (bz 26 20)<|Lf 26 U q_m<|Nf (fuel':=15) [(1,A),(2,vp d),(7,A),(8,F),(9,vi a),(6,vp f),(5,vi a),(40,E),(44,D)] (vA 46 (dn 31)) ?_<|fun aj=>?_
   rotate_left
   ·rcases Bool.eq_false_or_eq_true (((((decide (((nth b a).yb)<0))||(decide (((nth b a).yb)>536870912)))||(decide (((nth b a).yx)<0)))||(decide (((nth b a).yx)>=c.yc.length)))||(decide (((nth b a).yo)<1))) with hb' | hb'
    ·have X:=hb';clear hb'
     refine L3 (i:=40) U X<|Lp 27 U<|Lp 28 U<|Lp 29 U<|Lf 30 U qW<|Lx .a2 ?_ aj
     exact .t 7<|.r2 (zA<|Eq.symm X)<|zA<|gO X
    ·have Y:=hb';clear hb'
     refine L3 (i:=40) U Y<|Lf 27 U (xz WF)<|Lh 28 U (Nt xJ .here)<|Lf 29 U pJ<|Lf 30 U qX<|Lx .a2 ?_ aj
     exact .t 7<|.r2 (zA<|Eq.symm Y)<|zA<|gP Y
   refine WD.d (bz 31 15)<|Lf 31 U q_m<|Nf (fuel':=0) [(1,A),(2,vp d),(7,A),(8,F),(9,vi a),(45,D),(59,.bool (((((((decide (((nth b a).yb)<0))||(decide (((nth b a).yb)>536870912)))||(decide (((nth b a).yx)<0)))||(decide (((nth b a).yx)>=I)))||(decide (((nth b a).yo)<1)))||(decide (((nth b a).yo)>72)))||((decide (a>0))&&(decide (((nth b<|i64 (a-1)).yb)>((nth b a).yb))))))] (vA 46 (dn 46)) ?_<|fun ak=>?_
   rotate_left
   ·rcases Bool.eq_false_or_eq_true ((((((decide (((nth b a).yb)<0))||(decide (((nth b a).yb)>536870912)))||(decide (((nth b a).yx)<0)))||(decide (((nth b a).yx)>=c.yc.length)))||(decide (((nth b a).yo)<1)))||(decide (((nth b a).yo)>72))) with hb' | hb'
    ·have aa:=hb';clear hb'
     refine L3 (i:=45) U aa<|Lp 32 U<|Lp 33 U<|Lp 34 U<|Lp 35 U<|Lp 36 U<|Lp 37 U<|Lp 38 U<|Lp 39 U<|Lp 40 U<|Lp 41 U<|Lp 42 U<|Lp 43 U<|Lp 44 U<|Lf 45 U qW<|Lx .a2 ?_ ak
     exact .t 5<|.r2 (zA<|Eq.symm aa)<|zA<|gO aa
    ·have g:=hb';clear hb'
     have ar:=aq g
     refine L3 (i:=45) U g<|Lf 32 U q_m<|Lf 33 U pJ<|Lf 34 U q_m<|Nf (fuel':=1) [(1,A),(2,vp d),(7,A),(8,F),(9,vi a),(45,.bool false),(48,(.bool<|decide (a>0))),(58,(.bool<|(decide (a>0))&&(decide (((nth b<|i64 (a-1)).yb)>((nth b a).yb)))))] (vA 46 (dn 45)) ?_<|fun al=>?_
     rotate_left
     ·rcases Bool.eq_false_or_eq_true (decide (a>0)) with hb' | hb'
      ·have k:=hb';clear hb'
       have au:=ar k
       refine L3 (i:=48) U k<|Lf 35 U q_m<|Lf 36 U q_m<|Lf 37 U td<|L5 (j:=38) (Z:=Z) (Pr:=(rq nJ)) zoe ad au ?_
       rintro aJ aK av aL rfl
       refine Lf 39 U (xz dB)<|Lh 40 U (xA xJ U<|wq hz.pv av)<|Lf 41 U (xz dB)<|Lh 42 U (Nt xJ .here)<|Lf 43 U pJ<|Lf 44 U qW<|Lx .a2 ?_ al
       exact .t 6<|.r2 (zA<|Eq.symm k)<|zA<|kS k
      ·have ab:=hb';clear hb'
       refine L3 (i:=48) U ab<|Lp 35 U<|Lp 36 U<|Lp 37 U<|Lp 38 U<|Lp 39 U<|Lp 40 U<|Lp 41 U<|Lp 42 U<|Lp 43 U<|Lf 44 U qX<|Lx .a2 ?_ al
       exact .t 6<|.r2 (zA<|Eq.symm ab)<|zA<|kR ab
     refine WD.d (bz 45 1)<|Lf 45 U qX<|Lx .a2 ?_ ak
     exact .t 5<|.r2 (zA<|Eq.symm g)<|zA<|gP g
   refine WD.d (bz 46 0)<|N0<|Lb<|Lj h (fun aw h=>?_)<|fun aw h=>?_
   ·exact B1n U<|Ny<|Lw<|Lk<|Lk<|Lw<|Lk<|oJ h▸Nl results46
   ·exact N2<|Lt<|Lb<|D2q U<|WL.nil<|Nz ⟨ax,i64 (a+1)⟩ h .q<|.cons .h1 .nil
  ·exact N1<|Lm<|Lm<|Lv<|Lo () h (.cons U .nil) .nil
 ·rintro  h
  replace h:=am.symm.trans h
  exact B1q U<|Le 62 (w9 underlying77)<|Q2n U<|Ny<|oJ h▸Nl results46
def gJ(a:List yr):Option Int:=
 some (a.length:Int)
theorem l5{Z b c a r}(h:gJ a=some r){Nx}(hz:PZ [] Nx Z)(d:ZS Z 7 (rq wE) b c a):
  RC 270 #[vs b a.length c] Nx (vi r) [] []:=by
 unfold gJ at h
 exact L8 func270 U U<|B1n U<|B1q U<|Le 4 (w9 underlying132)<|Q1n U<|Ny<|oJ h▸Nl results270
def kX(a:yr)(b:yr):Option Int:=
 (qm a.yb b.yb).bind fun c=>(qm a.yJ b.yJ).bind fun d=>(qm a.yO b.yO).bind fun e=>(qm a.yf b.yf).bind fun f=>(uT ([c,d,e,f]:List Int)).bind fun g=>some g
theorem da{Z a b r}(h:kX a b=some r){Nx}(hz:PZ [] Nx Z):
  RC 273 #[.agg #[vi a.yb,vi a.yJ,vi a.yO,vi a.yf,vi a.yg.ya,vi a.yg.fX,vi a.yg.fQ],.agg #[vi b.yb,vi b.yJ,vi b.yO,vi b.yf,vi b.yg.ya,vi b.yg.fX,vi b.yg.fQ]] Nx (vi r) [] []:=by
 unfold kX at h
 refine L0 func273 U U<|B0q (Lg 2 (wa (cs:=[vi a.yb,vi a.yJ,vi a.yO,vi a.yf,vi a.yg.ya,vi a.yg.fX,vi a.yg.fQ])) fun o _=>Lg 3 (wa (cs:=[vi b.yb,vi b.yJ,vi b.yO,vi b.yf,vi b.yg.ya,vi b.yg.fX,vi b.yg.fQ])) fun p _=>Q1n U<|WC.b ?_)
 refine bK h fun j c h=>bK h fun k d h=>bK h fun m e h=>bK h fun n f h=>bK h fun s g h=>Lu nc []<|Lf 0 U (xz eK)<|Lh 1 U (Nt xJ .h1)<|Lf 2 U (xz eK)<|Lh 3 U (Nt xJ .here)<|L4 4 U (Ns call85) (cc hz .nil fun w pz ho=>kp c pz )<|Lf 5 U (xz QK)<|Lh 6 U (Nt xJ .h1)<|Lf 7 U (xz QK)<|Lh 8 U (Nt xJ .here)<|L4 9 U (Ns call85) (cc hz .nil fun w pz ho=>kp d pz )<|Lf 10 U (xz QL)<|Lh 11 U (Nt xJ .h1)<|Lf 12 U (xz QL)<|Lh 13 U (Nt xJ .here)<|L4 14 U (Ns call85) (cc hz .nil fun w pz ho=>kp e pz )<|Lf 15 U (xz lN)<|Lh 16 U (Nt xJ .h1)<|Lf 17 U (xz lN)<|Lh 18 U (Nt xJ .here)<|L4 19 U (Ns call85) (cc hz .nil fun w pz ho=>kp f pz ) (WD.new (i:=20) U U (wj (cs:=([j,k,m,n]:List Int).flatMap e3) z7G (Lq (l:=[.tmp 9,.tmp 14,.tmp 19,.tmp 24]) (.r4 U U U U) [0,1,2,3])) (fun h'=>absurd h' (by decide)) fun q _=>L4 21 U (Ns call84) (ux hz .nil (.cons .here .nil) fun w pz ho la=>cM g pz<|ZA.row (la _ (.head _) _) (RR.flat (enc:=e3)) ⟨w,pz.1⟩)<|Lf 22 U q_z<|N0<|Lb<|Ny ?_)
 exact oJ h▸Nl results273
def jv(a:List yr)(b:Int)(c:Int):Option Bool:=
 chk (0<=b/\b<a.length) (chk (0<=c/\c<a.length) ((kX (⟨(nth a b).yb,(nth a b).yJ,(nth a b).yO,(nth a b).yf,(⟨((nth a b).yg).ya,((nth a b).yg).fX,((nth a b).yg).fQ⟩:zd)⟩:yr) (⟨(nth a c).yb,(nth a c).yJ,(nth a c).yO,(nth a c).yf,(⟨((nth a c).yg).ya,((nth a c).yg).fX,((nth a c).yg).fQ⟩:zd)⟩:yr)).bind fun d=>some (decide (d<0))))
theorem sC{Z b c a d e r}(h:jv a d e=some r){Nx}(hz:PZ [] Nx Z)(f:ZS Z 7 (rq wE) b c a):
  RC 271 #[vs b a.length c,vi d,vi e] Nx (.bool r) [] []:=by
 unfold jv at h
 refine Nk func271 U U<|B1n U<|WC.b<|cK h fun g h=>cK h fun i h=>bK h fun u k h=>Lu nc []<|Lf 0 U q_m<|Lf 1 U q_m<|L5 (j:=2) (Z:=Z) (Pr:=(rq wE)) zdH f g ?_
 rintro n o l p rfl
 refine Lh 3 U (xK zog (qx hz.pv l))<|Lf 4 U q_m<|Lf 5 U q_m<|L5 (j:=6) (Z:=Z) (Pr:=(rq wE)) zdH f i ?_
 rintro q s m t rfl
 exact Lh 7 U (xK zog (qx hz.pv m))<|L4 8 U (Ns call273) (cc hz .nil fun w pz ho=>da k pz )<|Lf 9 U ra<|Lf 10 U q_z<|N0<|Lb<|Ny<|oJ h▸Nl results271
def jw(a:List yr)(c:Int)(b:Int):Option (List yr):=
 chk (0<=b/\b<a.length) (chk (0<=c/\c<a.length) (chk (0<=b/\b<(((a.set (c:Int).toNat (⟨(nth a b).yb,(nth a b).yJ,(nth a b).yO,(nth a b).yf,(⟨((nth a b).yg).ya,((nth a b).yg).fX,((nth a b).yg).fQ⟩:zd)⟩:yr)).length:Nat):Int)) (some ((a.set (c:Int).toNat (⟨(nth a b).yb,(nth a b).yJ,(nth a b).yO,(nth a b).yf,(⟨((nth a b).yg).ya,((nth a b).yg).fX,((nth a b).yg).fQ⟩:zd)⟩:yr)).set (b:Int).toNat (⟨(nth a c).yb,(nth a c).yJ,(nth a c).yO,(nth a c).yf,(⟨((nth a c).yg).ya,((nth a c).yg).fX,((nth a c).yg).fQ⟩:zd)⟩:yr)))))
theorem sD{Z j f a c b r}(h:jw a c b=some r){Nx}(hz:Pz [row (vs j a.length f) 188 7 (a.flatMap wE)] Nx Z)(eO:Ho Nx [row (vs j a.length f) 188 7 (a.flatMap wE)]):
  Calls Tryz.prog 272 #[vs j a.length f,vi c,vi b] Nx fun e w'=>e = .returned (.tuple #[])/\(r.length=a.length)/\Hp (fps [row (vs j a.length f) 188 7 (a.flatMap wE)]) Nx w' [row (vs j r.length f) 188 7 (r.flatMap wE)]:=by
 unfold jw at h
 refine N8 func272 U eO U<|cK h fun m h=>cK h fun d h=>cK h fun g h=>Lu (fun i=>[13,15].contains i) []<|Lf 0 U q_m<|Lf 1 U q_m<|Lf 2 U q_m<|Lf 3 U q_m<|Lf 4 U q_m<|Lf 5 U q_m<|N5 (fun w hw=>Hp.vr .here hw (by intro hz';have:=m;rw[hz'] at this;omega)) ?_
 rintro⟨n,rfl⟩
 let A:List Value:=[vi ((nth a c).yb),vi ((nth a c).yJ),vi ((nth a c).yO),vi ((nth a c).yf),vi (((nth a c).yg).ya),vi (((nth a c).yg).fX),vi (((nth a c).yg).fQ)];let C:List Value:=[vi ((nth a b).yb),vi ((nth a b).yJ),vi ((nth a b).yO),vi ((nth a b).yf),vi (((nth a b).yg).ya),vi (((nth a b).yg).fX),vi (((nth a b).yg).fQ)];refine Lf 6 U (w3 zdH m.1 m.2 wI)<|Lh 7 U (wn (cs:=(wE<|nth a b)) zog<|vU .here<|wU (enc:=wE) (l:=a) (i:=b) (sz:=7) m.1 m.2)<|Lf 8 U q_m<|Lf 9 U q_m<|Lf 10 U (w3 zdH d.1 d.2 wI)<|Lh 11 U (wn (cs:=(wE<|nth a c)) zog<|vU .here<|wU (enc:=wE) (l:=a) (i:=c) (sz:=7) d.1 d.2)<|Lf 12 U (w3 zdH d.1 d.2 wI)<|WD.forced0 (i:=13) U (wB.of .nil) (g7 (vs:=C) (ds:=(a.set (c:Int).toNat (⟨(nth a b).yb,(nth a b).yJ,(nth a b).yO,(nth a b).yf,(⟨((nth a b).yg).ya,((nth a b).yg).fX,((nth a b).yg).fQ⟩:zd)⟩:yr)).flatMap wE) zxm ry .here (mS (enc:=wE) (sz:=7) (k:=0) d.1 d.2)<|mR (enc:=wE) (l:=a) (sz:=7) (vs:=C) (y:=(⟨(nth a b).yb,(nth a b).yJ,(nth a b).yO,(nth a b).yf,(⟨((nth a b).yg).ya,((nth a b).yg).fX,((nth a b).yg).fQ⟩:zd)⟩:yr)) (k:=0) d.1 d.2<|Nat.le_of_ble_eq_true U)<|N7 .here (u:=(vs (some ⟨n,0,none⟩) ((a.set (c:Int).toNat (⟨(nth a b).yb,(nth a b).yJ,(nth a b).yO,(nth a b).yf,(⟨((nth a b).yg).ya,((nth a b).yg).fX,((nth a b).yg).fQ⟩:zd)⟩:yr)).length) f)) (qB (List.length_set).symm)<|N3 (i:=8) U (u:=(vs (some ⟨n,0,none⟩) ((a.set (c:Int).toNat (⟨(nth a b).yb,(nth a b).yJ,(nth a b).yO,(nth a b).yf,(⟨((nth a b).yg).ya,((nth a b).yg).fX,((nth a b).yg).fQ⟩:zd)⟩:yr)).length) f)) (qB (List.length_set).symm)<|Lf 14 U (w3 zdH g.1 g.2 wI)<|Nc (i:=15) U (g7 (vs:=A) (ds:=((a.set (c:Int).toNat (⟨(nth a b).yb,(nth a b).yJ,(nth a b).yO,(nth a b).yf,(⟨((nth a b).yg).ya,((nth a b).yg).fX,((nth a b).yg).fQ⟩:zd)⟩:yr)).set (b:Int).toNat (⟨(nth a c).yb,(nth a c).yJ,(nth a c).yO,(nth a c).yf,(⟨((nth a c).yg).ya,((nth a c).yg).fX,((nth a c).yg).fQ⟩:zd)⟩:yr)).flatMap wE) zxm ry .here (mS (enc:=wE) (sz:=7) (k:=0) g.1 g.2)<|mR (enc:=wE) (l:=a.set (c:Int).toNat (⟨(nth a b).yb,(nth a b).yJ,(nth a b).yO,(nth a b).yf,(⟨((nth a b).yg).ya,((nth a b).yg).fX,((nth a b).yg).fQ⟩:zd)⟩:yr)) (sz:=7) (vs:=A) (y:=(⟨(nth a c).yb,(nth a c).yJ,(nth a c).yO,(nth a c).yf,(⟨((nth a c).yg).ya,((nth a c).yg).fX,((nth a c).yg).fQ⟩:zd)⟩:yr)) (k:=0) g.1 g.2<|Nat.le_of_ble_eq_true U) ?_
 exact N7 .here (u:=(vs (some ⟨n,0,none⟩) (((a.set (c:Int).toNat (⟨(nth a b).yb,(nth a b).yJ,(nth a b).yO,(nth a b).yf,(⟨((nth a b).yg).ya,((nth a b).yg).fX,((nth a b).yg).fQ⟩:zd)⟩:yr)).set (b:Int).toNat (⟨(nth a c).yb,(nth a c).yJ,(nth a c).yO,(nth a c).yf,(⟨((nth a c).yg).ya,((nth a c).yg).fX,((nth a c).yg).fQ⟩:zd)⟩:yr)).length) f)) (qB (List.length_set).symm)<|N0<|oJ h▸Nh results272 .nil fun w hw=>⟨mq,(List.length_set).trans ((List.length_set).trans U),hw.sub (.cons .here .nil)⟩
def mY(a:List yr)(b:yr):Option Unit:=
 chk (((a++([b]:List yr)).length:Int)*56<=140737488355328/\((a++([b]:List yr)).length:Int)<=4611686018427387904) (some ())
theorem db{Z f c d g j k m n o p q s t u v x a b r}(h:mY a b=some r){Nx}(hz:Pz [stb f 134 [g,j,k,m,n,o,p,q,s,t,u,vs c a.length d,v,x],row (vs c a.length d) 188 7 (a.flatMap wE)] Nx Z)(eO:Ho Nx [stb f 134 [g,j,k,m,n,o,p,q,s,t,u,vs c a.length d,v,x],row (vs c a.length d) 188 7 (a.flatMap wE)]):
  Calls Tryz.prog 275 #[.pointer (some ⟨f,11,none⟩),.iface 188 (.agg #[vi b.yb,vi b.yJ,vi b.yO,vi b.yf,vi b.yg.ya,vi b.yg.fX,vi b.yg.fQ])] Nx fun e w'=>∃ y:Option Addr,∃ z:Nat,e = .returned (.tuple #[])/\True/\Hp (fps [stb f 134 [g,j,k,m,n,o,p,q,s,t,u,vs c a.length d,v,x],row (vs c a.length d) 188 7 (a.flatMap wE)]) Nx w' [stb f 134 [g,j,k,m,n,o,p,q,s,t,u,vs y ((a++([b]:List yr)).length) z,v,x],row (vs y ((a++([b]:List yr)).length) z) 188 7 ((a++([b]:List yr)).flatMap wE)]:=by
 unfold mY at h
 refine Ni func275 U eO U<|cK h fun C h=>Lu (fun i=>[7,9].contains i) []<|Lf 0 U q_m<|Lf 1 U q_m<|Lf 2 U xY<|Lh 3 U (Nt zof .here)<|Lf 4 U q_m<|Lh 5 U (Qw underlying188 U U) (WD.new (i:=6) U U (wj (cs:=([b]:List yr).flatMap wE) zdH (Lq (l:=[.tmp 9]) (.cons U .nil) [0])) (fun h'=>absurd h' (by decide)) fun D _=>WD.old (i:=7) U U (fun _=>(wB.of .nil)) (kG (enc:=wE) (l1:=a) (l2:=([b]:List yr)) zdH .h2 (jB .here) (gF Uj) C) ?_)
 rintro⟨A,B⟩ _
 refine Lf 8 U xY<|Nc (i:=9) U (jh (ds:=[g,j,k,m,n,o,p,q,s,t,u,vs A ((a++([b]:List yr)).length) B,v,x]) zM0 .h2)<|N0 ?_
 skip
 exact Nh results275 .nil<|fun w hw=>⟨A,B,mq,trivial,hw.sub .a2⟩
def jD(c:(List yr)->Option (List yr)):Nat->Int->(List yr)->Option (List yr)
 | 0,_,_=>none
 | d+1,a,b=>(if decide ((i64 (Int.tdiv (i64 (a-1)) 2))=a) then some true else(jv b a (i64 (Int.tdiv (i64 (a-1)) 2))).bind fun e=>some (!e)).bind fun f=>if f then c b else(jw b (i64 (Int.tdiv (i64 (a-1)) 2)) a).bind fun g=>jD c d (i64 (Int.tdiv (i64 (a-1)) 2)) g
def uG(a:List yr)(b:Int):Option (List yr):=
 qI (fun(c:List yr)=>some c) fun d=>jD d xR b a
theorem eY{Z g b c i j k m n o p q s t u v x a C r}(h:uG a C=some r){Nx}(hz:Pz [stb g 134 [i,j,k,m,n,o,p,q,s,t,u,vs b a.length c,v,x],row (vs b a.length c) 188 7 (a.flatMap wE)] Nx Z)(eO:Ho Nx [stb g 134 [i,j,k,m,n,o,p,q,s,t,u,vs b a.length c,v,x],row (vs b a.length c) 188 7 (a.flatMap wE)]):
  Calls Tryz.prog 132 #[.iface 186 (.pointer (some ⟨g,11,none⟩)),vi C] Nx fun e w'=>e = .returned (.tuple #[])/\(r.length=a.length)/\Hp (fps [stb g 134 [i,j,k,m,n,o,p,q,s,t,u,vs b a.length c,v,x],row (vs b a.length c) 188 7 (a.flatMap wE)]) Nx w' [stb g 134 [i,j,k,m,n,o,p,q,s,t,u,vs b r.length c,v,x],row (vs b r.length c) 188 7 (r.flatMap wE)]:=by
 unfold uG at h
 refine Ni func132 U eO U<|jK1 h fun D I h=>Ok (fun f=>(D f=some r)/\(f.length=a.length)) (fun f=>[]) (fun f=>[row (vs b f.length c) 188 7 (f.flatMap wE),stb g 134 [i,j,k,m,n,o,p,q,s,t,u,vs b f.length c,v,x]]) ?_ ?_
 ·refine WC.block<|H4 (fun z y d=>(jD D z y d=some r)/\(d.length=a.length)) (fun z y d=>[(0,(.iface 186<|.pointer<|some ⟨g,11,none⟩)),(1,vi y)]) (fun z y d=>[row (vs b d.length c) 188 7 (d.flatMap wE),stb g 134 [i,j,k,m,n,o,p,q,s,t,u,vs b d.length c,v,x]]) (fun z y d=>z) ⟨xR,C,a⟩ ⟨h,U⟩ .q (.s2 .h1 .here) ?_
  rintro (_|O) y d ⟨h,E⟩;·cases h
  rw[jD] at h
  refine WC.block<|B2q U<|Le 7 (e7 (by decide))<|Q1n U<|WC.b<|WC.b<|bK h fun P F h=>D4q U<|Ly false 5 11 (B:=P) (hB:=(fun h=>(oJ<|qY F h).symm)) (fun _ J=>?_) ?_
  ·have A:=qZ F J
   obtain⟨Q,K,A⟩:=za A
   replace A:=oJ A
   exact La U<|La U<|La U<|Ln 15 (uL (l:=[.tmp 13,.tmp 14]) cH call271 (xF .h1 U)<|.r2 U U) .nil (ux hz .nil (.cons .here .nil) fun w pz ho la=>sC K pz<|ZA.row (la _ (.head _) _) (RR.flat (enc:=wE)) ⟨w,pz.1⟩)<|Q2q U<|Lz A U .all
  refine Q0n<|Lj h (fun L h=>?_)<|fun L h=>?_
  ·exact N1<|Lm<|Ot U<|Lm<|Lv<|Lo d ⟨h,E⟩ .nil<|.a2
  ·refine Nn<|WC.b<|bK h fun G M h=>D3q U<|Nb U (uL (l:=[.tmp 19,.tmp 20]) cI call272 (xF .h1 U)<|.r2 U U) (.cons .here .nil) (cc hz (.cons .here .nil) fun w pz ho=>sD M pz  ho) ?_
   rintro  H
   exact N9 (cs':=[i,j,k,m,n,o,p,q,s,t,u,vs b G.length c,v,x]) .h1 (by rw[H])<|Q0n<|D2q U<|WL.nil<|Lt<|Nz ⟨O,(i64<|Int.tdiv (i64 (y-1)) 2),G⟩ ⟨h,H.trans E⟩ .q<|.s2 .h1 .here
 ·rintro f ⟨h,N⟩
  replace h:=(I f).symm.trans h
  exact oJ h▸Nh results132 .nil fun w hw=>⟨mq,N,hw.sub (.s2 .h1 .here)⟩
def kY(a:List yr)(b:yr):Option (List yr):=
 (mY a b).bind fun e=>(gJ (a++([b]:List yr))).bind fun c=>(uG (a++([b]:List yr)) (i64 (c-1))).bind fun d=>some d
theorem dc{Z f c d g i j k m n o p q s t u v a b r}(h:kY a b=some r){Nx}(hz:Pz [stb f 134 [g,i,j,k,m,n,o,p,q,s,t,vs c a.length d,u,v],row (vs c a.length d) 188 7 (a.flatMap wE)] Nx Z)(eO:Ho Nx [stb f 134 [g,i,j,k,m,n,o,p,q,s,t,vs c a.length d,u,v],row (vs c a.length d) 188 7 (a.flatMap wE)]):
  Calls Tryz.prog 86 #[.iface 186 (.pointer (some ⟨f,11,none⟩)),.iface 188 (.agg #[vi b.yb,vi b.yJ,vi b.yO,vi b.yf,vi b.yg.ya,vi b.yg.fX,vi b.yg.fQ])] Nx fun e w'=>∃ x:Option Addr,∃ y:Nat,e = .returned (.tuple #[])/\True/\Hp (fps [stb f 134 [g,i,j,k,m,n,o,p,q,s,t,vs c a.length d,u,v],row (vs c a.length d) 188 7 (a.flatMap wE)]) Nx w' [stb f 134 [g,i,j,k,m,n,o,p,q,s,t,vs x r.length y,u,v],row (vs x r.length y) 188 7 (r.flatMap wE)]:=by
 unfold kY at h
 refine Ni func86 U eO U<|WC.b<|bK h fun G B h=>D2q U<|H5 U (XE (l:=[.tmp 5]) QJ call275 U<|.cons U .nil) .a2 (cc hz .a2 fun w pz ho=>db B pz  ho) ?_
 rintro z A _
 refine Q0n<|bK h fun H C h=>bK h fun F D h=>D2q U<|Ln 9 (uL (l:=[]) YB call270 (xF .here U) .nil) .nil (ux hz .nil (.cons .h1 .nil) fun w pz ho la=>l5 C pz<|ZA.row (la _ (.head _) _) (RR.flat (enc:=wE)) ⟨w,pz.1⟩)<|La U<|Nb U (Ns call132) .a2 (cc hz .a2 fun w pz ho=>eY D pz  ho) ?_
 rintro  E
 exact N9 (cs':=[g,i,j,k,m,n,o,p,q,s,t,vs z F.length A,u,v]) .here (by rw[E])<|WL.nil<|oJ h▸Nh results86 .nil fun w hw=>⟨z,A,mq,trivial,hw.sub .a2⟩
def jZ(d:List (List zd))(b:List yW)(a:Int)(f:Int)(g:Int)(h:Int)(i:(List yr)->Option (List yr)):Nat->Int->(List yr)->Option (List yr)
 | 0,_,_=>none
 | k+1,c,e=>if decide (c<(((nth d ((nth b a).yx)).length:Nat):Int)) then qI (fun(l:List yr)=>jZ d b a f g h i k (i64 (c+1)) l) fun j=>chk (0<=c/\c<(((nth d ((nth b a).yx)).length:Nat):Int)) (if decide (((nth (nth d ((nth b a).yx)) c).ya)=f) then(kY e (⟨g,h,(nth b a).yx,a,(⟨(nth (nth d ((nth b a).yx)) c).ya,(nth (nth d ((nth b a).yx)) c).fX,(nth (nth d ((nth b a).yx)) c).fQ⟩:zd)⟩:yr)).bind fun m=>j m else j e) else i e
def ff(m:zu)(c:List (List zd))(b:List yW)(j:List (z6×yC))(d:List yr)(k:List yh)(l:List yh)(e:Int)(f:Int)(g:Int)(a:Int):Option (List yr):=
 chk (0<=a/\a<b.length) (chk (0<=((nth b a).yx)/\((nth b a).yx)<c.length) (qI (fun(h:List yr)=>some h) fun i=>jZ c b a e f g i xR 0 d))
theorem lm{Z m z B Q R S T V W X Y aa ab ad ae af ag ah ai aj ak c b t u al am an ao a f d az j x y ax ap aq g r}(h:ff a f d az j x y ax ap aq g=some r){Nx}(hz:Pz [stb m 134 [vs z a.fM.length B,vs Q a.yd.length R,vs S a.fS.length T,vs V a.fK.length W,vs X a.yc.length Y,vs aa a.fH.length ab,vs ad a.fU.length ae,vs af a.ye.length ag,vs ah f.length ai,vs aj d.length ak,.map (some c),vs t j.length u,vs al x.length am,vs an y.length ao],xN c (ga gq) Value.pointer (jK b),wH z2N b,row (vs t j.length u) 188 7 (j.flatMap wE)] Nx Z)(aY:ZS Z 4 (kr Z) z B a.fM)(aZ:ZS Z 4 (g5 Z) Q R a.yd)(a0:ZS Z 4 (rq ki) S T a.fS)(a1:ZS Z 4 (rq gg) V W a.fK)(a2:ZS Z 7 (g8 Z) X Y a.yc)(a3:ZS Z 5 (rq gc) aa ab a.fH)(a4:ZS Z 3 (g6 Z) ad ae a.fU)(a5:ZS Z 4 (rq ge) af ag a.ye)(aD:ZS Z 1 (g9 Z) ah ai f)(aE:ZS Z 3 (rq nJ) aj ak d)(a6:mM b=az)(a7:ZS Z 3 (rq wh) al am x)(a8:ZS Z 3 (rq wh) an ao y)(eO:Ho Nx [stb m 134 [vs z a.fM.length B,vs Q a.yd.length R,vs S a.fS.length T,vs V a.fK.length W,vs X a.yc.length Y,vs aa a.fH.length ab,vs ad a.fU.length ae,vs af a.ye.length ag,vs ah f.length ai,vs aj d.length ak,.map (some c),vs t j.length u,vs al x.length am,vs an y.length ao],xN c (ga gq) Value.pointer (jK b),wH z2N b,row (vs t j.length u) 188 7 (j.flatMap wE)]):
  Calls Tryz.prog 47 #[vp m,vi ax,vi ap,vi aq,vi g] Nx fun e w'=>∃ aA:Option Addr,∃ aB:Nat,e = .returned (.tuple #[])/\True/\Hp (fps [stb m 134 [vs z a.fM.length B,vs Q a.yd.length R,vs S a.fS.length T,vs V a.fK.length W,vs X a.yc.length Y,vs aa a.fH.length ab,vs ad a.fU.length ae,vs af a.ye.length ag,vs ah f.length ai,vs aj d.length ak,.map (some c),vs t j.length u,vs al x.length am,vs an y.length ao],xN c (ga gq) Value.pointer (jK b),wH z2N b,row (vs t j.length u) 188 7 (j.flatMap wE)]) Nx w' [stb m 134 [vs z a.fM.length B,vs Q a.yd.length R,vs S a.fS.length T,vs V a.fK.length W,vs X a.yc.length Y,vs aa a.fH.length ab,vs ad a.fU.length ae,vs af a.ye.length ag,vs ah f.length ai,vs aj d.length ak,.map (some c),vs aA r.length aB,vs al x.length am,vs an y.length ao],row (vs aA r.length aB) 188 7 (r.flatMap wE),xN c (ga gq) Value.pointer (jK b),wH z2N b]:=by
 unfold ff at h
 refine Cy func47 U eO U<|WC.b<|cK h fun aF h=>D1q U<|Le 14 xY<|Le 15 (xz QI)<|Le 16 (Nt zLZ .here)<|La U<|L2 (Z:=Z) (Pr:=(rq nJ)) zoe aE aF ?_
 rintro a9 ba aG bb rfl
 refine Le 19 (xz Yb)<|Le 20 (xA xJ U<|wq hz.pv aG)<|Q1n U<|WC.b<|cK h fun aH h=>D1q U<|Le 22 xY<|Le 23 (xz Mo)<|Le 24 (Nt zLA .here)<|La U<|L2 (Z:=Z) (Pr:=(g9 Z)) z8K aD aH ?_
 rintro bc bd aI be ⟨aT,aU,rfl,aJ⟩
 refine Le 27 (xA z9v U<|kN hz.pv aI)<|Le 28 (w9 underlying58)<|Q1n U ?_
 obtain⟨aC,aK,h⟩:=wg h
 let A:Value:=(vs z a.fM.length B);let C:Value:=(vs Q a.yd.length R);let D:Value:=(vs S a.fS.length T);let E:Value:=(vs V a.fK.length W);let F:Value:=(vs X a.yc.length Y);let G:Value:=(vs aa a.fH.length ab);let H:Value:=(vs ad a.fU.length ae);let I:Value:=(vs af a.ye.length ag);let K:Value:=(vs ah f.length ai);let L:Value:=(vs aj d.length ak);let M:Value:=(vs al x.length am);let N:Value:=(vs an y.length ao);refine O4 (fun p ar au=>(aC p=some r)) (fun p ar au=>[]) (fun p ar au=>[row (vs ar p.length au) 188 7 (p.flatMap wE),stb m 134 [A,C,D,E,F,G,H,I,K,L,(.map<|some c),vs ar p.length au,M,N],xN c (ga gq) Value.pointer (jK b),wH z2N b]) ?_ ?_
 ·let J:Value:=(vs aT ((nth f ((nth d g).yx)).length) aU);let O:=(((nth f ((nth d g).yx)).length:Nat):Int);let P:Value:=(vi ((nth d g).yx));refine WC.block<|Oa (fun ay k n q s=>(jZ f d g ax ap aq aC ay k n=some r)) (fun ay k n q s=>[(0,vp m),(1,vi ax),(2,vi ap),(3,vi aq),(4,vi g),(10,P),(27,J),(28,vi O),(29,vi k)]) (fun ay k n q s=>[row (vs q n.length s) 188 7 (n.flatMap wE),stb m 134 [A,C,D,E,F,G,H,I,K,L,(.map<|some c),vs q n.length s,M,N],xN c (ga gq) Value.pointer (jK b),wH z2N b]) (fun ay k n q s=>ay) ⟨xR,0,j,t,u⟩ h .q (.s4 .h3 .here .here .here) ?_
  rintro(_|aV) k n q s h;·cases h
  rw[jZ] at h
  refine B1n U<|WC.b<|Lj h (fun aL h=>?_)<|fun aL h=>?_
  ·refine Nn<|jK1 h fun aW aM h=>Nj (fun o av aw=>(aW o=some r)) (fun o av aw=>[(0,vp m),(1,vi ax),(2,vi ap),(3,vi aq),(4,vi g),(10,P),(27,J),(28,vi O),(29,vi k)]) (fun o av aw=>[row (vs av o.length aw) 188 7 (o.flatMap wE),stb m 134 [A,C,D,E,F,G,H,I,K,L,(.map<|some c),vs av o.length aw,M,N],xN c (ga gq) Value.pointer (jK b),wH z2N b]) ?_ ?_
   ·refine WC.block<|WC.b<|cK h fun aN h=>Ld<|L2 (Z:=Z) (Pr:=(rq mN)) z7F aJ aN ?_
    rintro bf bg aO bh rfl
    refine Le 32 (xK z54 (qx hz.pv aO)) (Lg 12 (xT (cs:=[vi 0,vi 0,vi 0]) zdE) fun bi _=>Ll (xP zbS .here)<|Q0n<|B0q<|Le 33 (xz ku)<|Le 34 (Nt xJ .here)<|Q2n U<|Lj h (fun aP h=>?_)<|fun aP h=>?_)
    ·refine bK h fun aX aQ h=>Lu (fun i=>[11].contains i) []<|Lf 0 U q_m<|Lf 1 U xY<|Lf 2 U (xz X0)<|Lh 3 U (bL underlying186 U U)<|Lf 4 U q_m<|Lf 5 U q_m<|Lf 6 U q_m<|Lf 7 U q_m<|Lh 8 U (xK z54 (xM .here))<|Lf 9 U (we (v:=(.agg #[vi ap,vi aq,P,vi g,(vi<|(nth (nth f<|(nth d g).yx) k).ya),(vi<|(nth (nth f<|(nth d g).yx) k).fX),(vi<|(nth (nth f<|(nth d g).yx) k).fQ)])) (Lq (l:=[.tmp 41,.tmp 42,.tmp 43,.tmp 44,.tmp 45]) (.r5 U U U U U) [0,1,2,3,4]))<|Lh 10 U (bL underlying188 U U)<|WD.call2 (i:=11) U U U U (.inl ⟨U,fun _ _=>(wB.of .nil)⟩) (Ns call86) (.s2 .h2 .h1) (cc hz (.s2 .h2 .h1) fun w pz ho=>dc aQ pz  ho) ?_
     rintro aR aS _
     exact N0<|Lt<|Lo ⟨aX,aR,aS⟩ h .q<|.s4 .h1 .here .h1 .h1
    ·exact N2<|Lt<|Lo ⟨n,q,s⟩ h .q<|.s4 .h1 .h1 .h1 .h1
   ·rintro o av aw h
    replace h:=(aM o).symm.trans h
    exact D2q U<|WL.nil<|Nz ⟨aV,i64 (k+1),o,av,aw⟩ h .q<|.a4
  ·exact N1<|Lm<|Lm<|Lv<|Lo ⟨n,q,s⟩ h .nil<|.a4
 ·rintro p ar au h
  replace h:=(aK p).symm.trans h
  exact oJ h▸Nh results47 .nil fun w hw=>⟨ar,au,mq,trivial,hw.sub (.s4 .h1 .here .here .here)⟩
def qz(c:Int)(d:Int->(List yr)->Option (Bool×List yr)):Nat->Int->(List yr)->Option (Bool×List yr)
 | 0,_,_=>none
 | g+1,a,b=>if (decide ((i64 ((i64 (2*a))+1))>=c))||(decide ((i64 ((i64 (2*a))+1))<0)) then d a b else qI (fun(e:Int)=>(jv b e a).bind fun h=>if !h then d a b else(jw b a e).bind fun i=>qz c d g e i) fun f=>(if decide ((i64 ((i64 ((i64 (2*a))+1))+1))<c) then(jv b (i64 ((i64 ((i64 (2*a))+1))+1)) (i64 ((i64 (2*a))+1))).bind fun j=>some j else some false).bind fun k=>if k then f (i64 ((i64 ((i64 (2*a))+1))+1)) else f (i64 ((i64 (2*a))+1))
def fi(b:List yr)(a:Int)(c:Int):Option (Bool×List yr):=
 sk (fun(d:Int) (e:List yr)=>some (decide (d>a),e)) fun f=>qz c f xR a b
theorem df{Z g a b j k m n o p q s t u v x y c E F r}(h:fi c E F=some r){Nx}(hz:Pz [stb g 134 [j,k,m,n,o,p,q,s,t,u,v,vs a c.length b,x,y],row (vs a c.length b) 188 7 (c.flatMap wE)] Nx Z)(eO:Ho Nx [stb g 134 [j,k,m,n,o,p,q,s,t,u,v,vs a c.length b,x,y],row (vs a c.length b) 188 7 (c.flatMap wE)]):
  Calls Tryz.prog 133 #[.iface 186 (.pointer (some ⟨g,11,none⟩)),vi E,vi F] Nx fun e w'=>e = .returned (.bool r.1)/\(r.2.length=c.length)/\Hp (fps [stb g 134 [j,k,m,n,o,p,q,s,t,u,v,vs a c.length b,x,y],row (vs a c.length b) 188 7 (c.flatMap wE)]) Nx w' [stb g 134 [j,k,m,n,o,p,q,s,t,u,v,vs a r.2.length b,x,y],row (vs a r.2.length b) 188 7 (r.2.flatMap wE)]:=by
 unfold fi at h
 refine N8 func133 U eO U<|B1n U<|B2n U<|jK2 h fun K O h=>H6 (fun G i=>(K G i=some r)/\(i.length=c.length)) (fun G i=>[(1,vi E),(7,vi G)]) (fun G i=>[row (vs a i.length b) 188 7 (i.flatMap wE),stb g 134 [j,k,m,n,o,p,q,s,t,u,v,vs a i.length b,x,y]]) ?_ ?_
 ·let C:Value:=(.iface 186 (.pointer (some ⟨g,11,none⟩)));refine WC.block<|H4 (fun H f d=>(qz F K H f d=some r)/\(d.length=c.length)) (fun H f d=>[(0,C),(1,vi E),(2,vi F),(7,vi f)]) (fun H f d=>[row (vs a d.length b) 188 7 (d.flatMap wE),stb g 134 [j,k,m,n,o,p,q,s,t,u,v,vs a d.length b,x,y]]) (fun H f d=>H) ⟨xR,E,c⟩ ⟨h,U⟩ .q (.s2 .h1 .here) ?_
  rintro (_|ab) f d ⟨h,J⟩;·cases h
  rw[qz] at h
  let A:=(i64 ((i64 (2*f))+1));refine WC.block<|B4n U<|WC.b<|B0q<|La U<|La U<|La U<|La U<|Ly false 2 18 (B:=(decide (A>=F))||(decide (A<0))) (hB:=(fun h=>(gO h).symm)) (fun _ P=>?_) ?_
  ·exact La U<|La U<|La U<|Lz (gP P) U .all
  refine Q0n<|Lj h (fun Q h=>?_)<|fun Q h=>?_
  ·exact N1<|Lm<|Ot U<|Lm<|Lv<|Lo ⟨f,d⟩ ⟨h,J⟩ .q<|.a2
  ·refine Nn<|B2n U ?_
   obtain⟨ad,R,h⟩:=wg h
   let D:Value:=(vs a d.length b);refine Na (fun z=>(ad z=some r)) (fun z=>[(0,C),(1,vi E),(2,vi F),(7,vi f),(9,vi z)]) (fun z=>[row D 188 7 (d.flatMap wE),stb g 134 [j,k,m,n,o,p,q,s,t,u,v,D,x,y]]) ?_ ?_
   ·refine B3n U<|WC.b<|bK h fun ae L h=>D4q U<|Ly true 4 28 (B:=ae) (hB:=(fun h=>(oJ<|qZ L h).symm)) (fun _ S=>?_) ?_
    ·have I:=qY L S
     obtain⟨af,T,I⟩:=za I
     replace I:=oJ I
     exact La U<|La U<|La U<|Ln 32 (uL (l:=[.tmp 30,.tmp 31]) cH call271 (xF .h1 U)<|.r2 U U) .nil (ux hz .nil (.cons .here .nil) fun w pz ho la=>sC T pz<|ZA.row (la _ (.head _) _) (RR.flat (enc:=wE)) ⟨w,pz.1⟩)<|La U<|Lz I U .all
    refine Q0n<|Lj h (fun V h=>?_)<|fun V h=>?_
    ·exact D2q U<|WL.nil<|Lo (i64 (A+1)) h .q<|.a2
    ·exact N2<|Lo A h .q<|.a2
   ·rintro z h
    replace h:=(R z).symm.trans h
    refine WC.b<|WC.b<|bK h fun ag W h=>D3q U<|Ln 38 (uL (l:=[.tmp 36,.tmp 37]) cH call271 (xF .h1 U)<|.r2 U U) .nil (ux hz .nil (.cons .here .nil) fun w pz ho la=>sC W pz<|ZA.row (la _ (.head _) _) (RR.flat (enc:=wE)) ⟨w,pz.1⟩)<|Q1n U<|Lj h (fun X h=>?_)<|fun X h=>?_
    ·exact N1<|Lm<|Ot U<|Lm<|Lv<|Lo ⟨f,d⟩ ⟨h,J⟩ .q<|.a2
    ·refine Nn<|WC.b<|bK h fun M Y h=>D3q U<|Nb U (uL (l:=[.tmp 41,.tmp 42]) cI call272 (xF .h1 U)<|.r2 U U) (.cons .here .nil) (cc hz (.cons .here .nil) fun w pz ho=>sD Y pz  ho) ?_
     rintro  N
     exact N9 (cs':=[j,k,m,n,o,p,q,s,t,u,v,vs a M.length b,x,y]) .h1 (by rw[N])<|Q0n<|D2q U<|WL.nil<|Lt<|Nz ⟨ab,z,M⟩ ⟨h,N.trans J⟩ .q<|.s2 .h1 .here
 ·rintro G i ⟨h,aa⟩
  replace h:=(O G i).symm.trans h
  exact B4n U<|Ny<|oJ h▸Li results133 (.tmp U .nil) fun w hw=>⟨xZ,aa,hw.sub (.s2 .h1 .here)⟩
def ul(a:List yr):Option yr:=
 chk (0<=(i64 ((a.length:Int)-1))/\(i64 ((a.length:Int)-1))<a.length) (chk (0<=(i64 ((a.length:Int)-1))/\(i64 ((a.length:Int)-1))<=a.length) (some (⟨(nth a (i64 ((a.length:Int)-1))).yb,(nth a (i64 ((a.length:Int)-1))).yJ,(nth a (i64 ((a.length:Int)-1))).yO,(nth a (i64 ((a.length:Int)-1))).yf,(⟨((nth a (i64 ((a.length:Int)-1))).yg).ya,((nth a (i64 ((a.length:Int)-1))).yg).fX,((nth a (i64 ((a.length:Int)-1))).yg).fQ⟩:zd)⟩:yr)))
theorem dP{Z d b c f g j k m n o p q s t u v a r}(h:ul a=some r){Nx}(hz:Pz [stb d 134 [f,g,j,k,m,n,o,p,q,s,t,vs b a.length c,u,v],row (vs b a.length c) 188 7 (a.flatMap wE)] Nx Z)(eO:Ho Nx [stb d 134 [f,g,j,k,m,n,o,p,q,s,t,vs b a.length c,u,v],row (vs b a.length c) 188 7 (a.flatMap wE)]):
  Calls Tryz.prog 274 #[.pointer (some ⟨d,11,none⟩)] Nx fun e w'=>∃ y:Option Addr,∃ z:Nat,e = .returned (.iface 188 (.agg #[vi r.yb,vi r.yJ,vi r.yO,vi r.yf,vi r.yg.ya,vi r.yg.fX,vi r.yg.fQ]))/\True/\Hp (fps [stb d 134 [f,g,j,k,m,n,o,p,q,s,t,vs b a.length c,u,v],row (vs b a.length c) 188 7 (a.flatMap wE)]) Nx w' [stb d 134 [f,g,j,k,m,n,o,p,q,s,t,vs y ((a.take ((i64 ((a.length:Int)-1)):Int).toNat).length) z,u,v],row (vs y ((a.take ((i64 ((a.length:Int)-1)):Int).toNat).length) z) 188 7 ((a.take ((i64 ((a.length:Int)-1)):Int).toNat).flatMap wE)]:=by
 unfold ul at h
 refine Dz func274 U eO U<|B1n U<|B1q U<|Le 6 xY<|Le 7 (Nt zof .here)<|Q1n U<|WC.b<|cK h fun x h=>D2q U<|Le 10 (w9 underlying132)<|La U<|N4 (fun w hw=>Hp.vr .h1 hw (by intro hz';have:=x;rw[hz'] at this;omega)) ?_
 rintro⟨E,rfl⟩
 let A:=(i64 ((a.length:Int)-1));refine Le 12 (w3 zdH x.1 x.2 wI)<|Le 13 (wn (cs:=(wE<|nth a A)) zog<|vU .h1<|wU (enc:=wE) (l:=a) (i:=i64 ((a.length:Int)-1)) (sz:=7) x.1 x.2)<|Lg 4 (xT (cs:=[vi 0,vi 0,vi 0,vi 0,vi 0,vi 0,vi 0]) zM1) ?_
 intro F _
 refine Ll (xP zxm .here)<|Q0n<|WC.b<|cK h fun D h=>D3q U<|Le 17 (w9 underlying132)<|La U (Pa (enc:=wE) (ls:=a) U U zdH U U .h2 D fun B C=>Le 20 xY<|Ll (jh (ds:=[f,g,j,k,m,n,o,p,q,s,t,vs B ((a.take (A:Int).toNat).length) C,u,v]) zM0 .h2)<|Q0n<|B0q<|Le 21 (xK zog (xM .h2))<|Le 22 (bL underlying188 U U)<|Q1n U<|Ny ?_)
 exact oJ h▸Li results274 (.tmp U .nil) fun w hw=>⟨B,C,xZ,trivial,hw.sub .a2⟩
def mg(b:List yr):Option (yr×List yr):=
 (gJ b).bind fun c=>(jw b 0 (i64 (c-1))).bind fun d=>(fi d 0 (i64 (c-1))).bind fun a=>(ul a.2).bind fun e=>some (e,a.2.take ((i64 ((a.2.length:Int)-1)):Int).toNat)
theorem dQ{Z u b c d f g i j k m n o p q s t a r}(h:mg a=some r){Nx}(hz:Pz [stb u 134 [d,f,g,i,j,k,m,n,o,p,q,vs b a.length c,s,t],row (vs b a.length c) 188 7 (a.flatMap wE)] Nx Z)(eO:Ho Nx [stb u 134 [d,f,g,i,j,k,m,n,o,p,q,vs b a.length c,s,t],row (vs b a.length c) 188 7 (a.flatMap wE)]):
  Calls Tryz.prog 87 #[.iface 186 (.pointer (some ⟨u,11,none⟩))] Nx fun e w'=>∃ v:Option Addr,∃ x:Nat,e = .returned (.iface 188 (.agg #[vi r.1.yb,vi r.1.yJ,vi r.1.yO,vi r.1.yf,vi r.1.yg.ya,vi r.1.yg.fX,vi r.1.yg.fQ]))/\True/\Hp (fps [stb u 134 [d,f,g,i,j,k,m,n,o,p,q,vs b a.length c,s,t],row (vs b a.length c) 188 7 (a.flatMap wE)]) Nx w' [stb u 134 [d,f,g,i,j,k,m,n,o,p,q,vs v r.2.length x,s,t],row (vs v r.2.length x) 188 7 (r.2.flatMap wE)]:=by
 unfold mg at h
 refine Dz func87 U eO U<|B1n U<|WC.b<|bK h fun I y h=>D1q U<|Ln 5 (uL (l:=[]) YB call270 (xF .here U) .nil) .nil (ux hz .nil (.cons .h1 .nil) fun w pz ho la=>l5 y pz<|ZA.row (la _ (.head _) _) (RR.flat (enc:=wE)) ⟨w,pz.1⟩)<|Q2n U<|WC.b<|bK h fun G z h=>D2q U<|Nb U (uL (l:=[.const (vi 0),.tmp 8]) cI call272 (xF .here U)<|.r2 U U) (.cons .h1 .nil) (cc hz (.cons .h1 .nil) fun w pz ho=>sD z pz  ho) ?_
 rintro  A
 refine N9 (cs':=[d,f,g,i,j,k,m,n,o,p,q,vs b G.length c,s,t]) .h1 (by rw[A])<|Q0n<|WC.b<|bK h fun H B h=>D2q U<|Nb U (Ns call133) .a2 (cc hz .a2 fun w pz ho=>df B pz  ho) ?_
 rintro  C
 refine N9 (cs':=[d,f,g,i,j,k,m,n,o,p,q,vs b H.2.length c,s,t]) .here (by rw[C])<|Q0n<|WC.b<|bK h fun J D h=>D1q U<|H5 U (XE (l:=[]) K8 call274 U .nil) .a2 (cc hz .a2 fun w pz ho=>dP D pz  ho) ?_
 rintro E F _
 exact Q1n U<|Ny<|oJ h▸Li results87 (.tmp U .nil) fun w hw=>⟨E,F,xZ,trivial,hw.sub .a2⟩
def ca(a:Int)(b:Int)(c:Int):Option yC:=
 if (((((decide (a<1))||(decide (a>16)))||(decide (b<0)))||(decide (b>1000)))||(decide (c<0)))||(decide (c>1073741824)) then none else some (⟨(⟨a,b,c⟩:xx),0,0,([]:List yj)⟩:yC)
theorem Gn{Z a b c r}(h:ca a b c=some r){Nx}(hz:PZ [] Nx Z):
  Calls Tryz.prog 134 #[vi a,vi b,vi c] Nx fun e w'=>∃ d:Nat,∃ f:Option Addr,∃ g:Nat,e = .returned (.tuple #[vp d,vi 0])/\True/\Hp [] Nx w' [stb d 253 [vi r.yk.yp,vi r.yk.yl,vi r.yk.fT,vi r.yP,vi r.yD,vs f r.yn.length g],row (vs f r.yn.length g) 256 2 (r.yn.flatMap gr)]:=by
 unfold ca at h
 refine Nk func134 U U<|B2n U<|WC.b<|B3q U<|Ly false 2 10 (B:=(decide (a<1))||(decide (a>16))) (hB:=(fun h=>(gO h).symm)) (fun _ i=>?_) ?_
 ·exact La U<|La U<|La U<|Lz (gP i) U .all
 refine La U<|Ly false 2 14 (B:=((decide (a<1))||(decide (a>16)))||(decide (b<0))) (hB:=(fun h=>(gO h).symm)) (fun _ j=>?_) ?_
 ·exact La U<|La U<|La U<|Lz (gP j) U .all
 refine La U<|Ly false 2 18 (B:=(((decide (a<1))||(decide (a>16)))||(decide (b<0)))||(decide (b>1000))) (hB:=(fun h=>(gO h).symm)) (fun _ k=>?_) ?_
 ·exact La U<|La U<|La U<|Lz (gP k) U .all
 refine La U<|Ly false 2 22 (B:=((((decide (a<1))||(decide (a>16)))||(decide (b<0)))||(decide (b>1000)))||(decide (c<0))) (hB:=(fun h=>(gO h).symm)) (fun _ m=>?_) ?_
 ·exact La U<|La U<|La U<|Lz (gP m) U .all
 refine La U<|Ly false 2 26 (B:=(((((decide (a<1))||(decide (a>16)))||(decide (b<0)))||(decide (b>1000)))||(decide (c<0)))||(decide (c>1073741824))) (hB:=(fun h=>(gO h).symm)) (fun _ n=>?_) ?_
 ·exact La U<|La U<|La U<|Lz (gP n) U .all
 refine Q0n<|Lj h (fun o h=>?_)<|fun o h=>?_
 ·refine B2n U<|Ny<|Lk ?_
  cases h
 ·refine Nn<|B3q U<|Le 33 (we (v:=(.agg #[vi a,vi b,vi c])) (Lq (l:=[.tmp 30,.tmp 31,.tmp 32]) (.r3 U U U) [0,1,2]))<|Le 34 (we (v:=(.agg #[vi a,vi b,vi c,vi 0,vi 0,vn])) (Lq (l:=[.tmp 33]) (.cons U .nil) [0])) (Lg 35 (wa (cs:=[vi a,vi b,vi c,vi 0,vi 0,vn])) fun p _=>Q2n U<|Ny<|WX.nilRow 256 2 ?_)
  exact oJ h▸Li results134 (.tmp U<|.tmp U .nil) fun w hw=>⟨p,none,0,q9,trivial,hw.sub (.s2 .h1 .here)⟩
def t7(b:zu)(j:List (List zd))(k:List yW)(c:List (z6×yC))(l:List yr)(m:List yh)(n:List yh)(a:zd):Option (List (z6×yC)):=
 qI (fun(f:List (z6×yC))=>some f) fun d=>if !vH c (⟨a.ya,a.fQ⟩:z6) then sk (fun(g:Int) (h:Int)=>chk (0<=a.fQ/\a.fQ<b.fK.length) ((ca ((nth b.fK a.fQ).yp) g h).bind fun i=>d (w6 c (⟨a.ya,a.fQ⟩:z6) i))) fun e=>if decide ((i64 (a.ya-(b.fM.length:Int)))>=0) then chk (0<=(i64 (a.ya-(b.fM.length:Int)))/\(i64 (a.ya-(b.fM.length:Int)))<b.fS.length) (e ((nth b.fS (i64 (a.ya-(b.fM.length:Int)))).yl) ((nth b.fS (i64 (a.ya-(b.fM.length:Int)))).fT)) else e 0 1073741824 else d c
theorem Xc{Z y O P Q R S T V W X Y aa ab ad ae af ag ah ai aj ak f d al am an ao ap aq c G H z I J K a r}(h:t7 c G H z I J K a=some r){Nx}(hz:Pz [xN f (ga gq) Value.pointer (jK d),wH z2N d] Nx Z)(aI:ZS Z 4 (kr Z) O P c.fM)(aJ:ZS Z 4 (g5 Z) Q R c.yd)(ar:ZS Z 4 (rq ki) S T c.fS)(av:ZS Z 4 (rq gg) V W c.fK)(aK:ZS Z 7 (g8 Z) X Y c.yc)(aL:ZS Z 5 (rq gc) aa ab c.fH)(aM:ZS Z 3 (g6 Z) ad ae c.fU)(aN:ZS Z 4 (rq ge) af ag c.ye)(aO:ZS Z 1 (g9 Z) ah ai G)(aP:ZS Z 3 (rq nJ) aj ak H)(L:mM d=z)(aQ:ZS Z 7 (rq wE) al am I)(aR:ZS Z 3 (rq wh) an ao J)(aS:ZS Z 3 (rq wh) ap aq K)(m:ZC Z y [vs O c.fM.length P,vs Q c.yd.length R,vs S c.fS.length T,vs V c.fK.length W,vs X c.yc.length Y,vs aa c.fH.length ab,vs ad c.fU.length ae,vs af c.ye.length ag,vs ah G.length ai,vs aj H.length ak,.map (some f),vs al I.length am,vs an J.length ao,vs ap K.length aq])(eO:Ho Nx [xN f (ga gq) Value.pointer (jK d),wH z2N d]):
  Calls Tryz.prog 88 #[vq y,.agg #[vi a.ya,vi a.fX,vi a.fQ]] Nx fun e w'=>∃ B:List (z6×((Nat×(Option Addr×Nat))×yC)),e = .returned (.pointer (xI (jK B) (⟨a.ya,a.fQ⟩:z6) (none:Option Addr)))/\(mM B=r)/\Hp (fps [xN f (ga gq) Value.pointer (jK d),wH z2N d]) Nx w' [xN f (ga gq) Value.pointer (jK B),wH z2N B]:=by
 unfold t7 at h
 refine Ni func88 U eO U ?_
 let A:List Value:=[vi a.ya,vi a.fX,vi a.fQ];refine B0q<|Lg 3 (wa (cs:=A)) ?_
 intro N _
 refine Q1n U<|B0q<|Le 9 (xz ku)<|Le 10 (Nt xJ .here)<|Le 11 (xz sq)<|Le 12 (Nt xJ .here)<|Le 13 (we (v:=(.agg #[vi a.ya,vi a.fQ])) (Lq (l:=[.tmp 10,.tmp 12]) (.r2 U U) [0,1])) (Lg 5 (xT (cs:=[vi 0,vi 0]) zX5) fun s _=>Ll (xP zX6 .here)<|Q0n ?_)
 obtain⟨aG,aw,h⟩:=wg h
 let D:List Value:=[vi a.ya,vi a.fQ];refine H6 (fun o n=>(aG o=some r)/\(mM n=o)) (fun o n=>[(0,vq y),(5,vp s)]) (fun o n=>[stb s 246 D,xN f (ga gq) Value.pointer (jK n),wH z2N n]) ?_ ?_
 ·refine WC.b<|Lu nc []<|Lf 0 U q_m<|Lf 1 U xY<|Lf 2 U (xz X3)<|Lh 3 U (xA zCA U<|wq hz.pv m)<|Lh 4 U (xK zCB (xM .here))<|Lh 5 U (jg (k:=(⟨a.ya,a.fQ⟩:z6)) (dflt:=(none:Option Addr)) zCC underlying130 zM2 .h2)<|Lf 6 U (Ue L underlying191 U U)<|N0<|Lb<|Lj h (fun ax h=>?_)<|fun ax h=>?_
  ·refine B2n U<|jK2 h fun aH ay h=>H6 (fun p q=>(aH p q=some r)) (fun p q=>[(0,vq y),(3,vp N),(5,vp s),(6,vi p),(7,vi q)]) (fun p q=>[stb N 60 A,stb s 246 D,xN f (ga gq) Value.pointer (jK d),wH z2N d]) ?_ ?_
   ·refine WC.b<|Lu nc []<|Lf 0 U (xz ku)<|Lh 1 U (Nt xJ .h1)<|Lf 2 U q_m<|Lf 3 U xY<|Lf 4 U (xz cJ)<|Lf 5 U (xz tw)<|Lh 6 U (xA zaS U<|wq hz.pv m)<|Lf 7 U (w9 underlying22)<|Lf 8 U td<|Lf 9 U q_z<|N0<|Lb<|B2n U<|Lj h (fun az h=>?_)<|fun az h=>?_
    ·refine cK h fun au h=>Lu nc []<|Lf 0 U q_m<|Lf 1 U xY<|Lf 2 U (xz cJ)<|Lf 3 U (xz uN)<|Lh 4 U (xA zaT U<|wq hz.pv m)<|Lf 5 U q_m<|L5 (j:=6) (Z:=Z) (Pr:=(rq ki)) zbR ar au ?_
     rintro aT aU aA aV rfl
     refine Lf 7 U (xz dz)<|Lh 8 U (xA xJ U<|wq hz.pv aA)<|Lf 9 U q_m<|Lf 10 U xY<|Lf 11 U (xz cJ)<|Lf 12 U (xz uN)<|Lh 13 U (xA zaT U<|wq hz.pv m)<|Lf 14 U q_m<|L5 (j:=15) (Z:=Z) (Pr:=(rq ki)) zbR ar au ?_
     rintro aW aX aB aY rfl
     refine Lf 16 U (xz Y9)<|Lh 17 U (xA xJ U<|wq hz.pv aB)<|Lf 18 U q_z<|Lf 19 U q_z<|N0 ?_
     let C:=(i64 (a.ya-(c.fM.length:Int)));exact Lo ⟨(nth c.fS C).yl,(nth c.fS C).fT⟩ h .q<|.s4 .h1 .here .here .here
    ·exact N2<|Lo ⟨0,1073741824⟩ h .q<|.s4 .h1 .here .here .here
   ·rintro p q h
    replace h:=(ay p q).symm.trans h
    refine cK h fun aC h=>bK h fun t aD h=>Lu (fun i=>[21].contains i) []<|Lf 0 U q_m<|Lf 1 U xY<|Lf 2 U (xz X3)<|Lh 3 U (xA zCA U<|wq hz.pv m)<|Lh 4 U (xK zCB (xM .h1))<|Lf 5 U q_m<|Lf 6 U xY<|Lf 7 U (xz cJ)<|Lf 8 U (xz tx)<|Lh 9 U (xA zaU U<|wq hz.pv m)<|Lf 10 U (xz sq)<|Lh 11 U (Nt xJ .here)<|L5 (j:=12) (Z:=Z) (Pr:=(rq gg)) zdD av aC ?_
    rintro aZ a0 aE a1 rfl
    refine Lf 13 U (xz rK)<|Lh 14 U (xA xJ U<|wq hz.pv aE)<|Lf 15 U q_m<|Lf 16 U q_m<|WD.call3 (i:=17) U (by kernel_rfl) U U U (.inr U) (Ns call134) .nil (cc hz .nil fun w pz ho=>Gn aD pz ) ?_
    rintro u E F _
    exact Lf 18 U q_m<|Lf 19 U fF<|Lf 20 U fF<|WD.forced0 (i:=21) U (wB.of .nil) (kV (k:=(⟨a.ya,a.fQ⟩:z6)) (v:=(some ⟨u,0,none⟩:Option Addr)) zCC underlying130 .h4)<|Oc (fun _ h=>Hp.G9 (els:=z2N) (k:=(⟨a.ya,a.fQ⟩:z6)) (b:=u) (g:=(E,F)) (x:=t) .h5 (.s2 .h1 .h1) h)<|Oc (M:=[xN f (ga gq) Value.pointer (jK<|w6 d (⟨a.ya,a.fQ⟩:z6) ((u,(E,F)),t)),wH z2N (w6 d (⟨a.ya,a.fQ⟩:z6) ((u,(E,F)),t)),stb N 60 A,stb s 246 D]) (fun _ h=>Hp.eF .h1 (Vg _ _ _ _ _).symm h)<|N0<|Lo ⟨w6 z (⟨a.ya,a.fQ⟩:z6) t,w6 d (⟨a.ya,a.fQ⟩:z6) ((u,(E,F)),t)⟩ ⟨h,lC L _ _ _⟩ .q<|.s3 .h3 .here .here
  ·exact N2<|Lo ⟨z,d⟩ ⟨h,L⟩ .q<|.s3 .here .h1 .h1
 ·rintro o n ⟨h,aF⟩
  replace h:=(aw o).symm.trans h
  exact WC.b<|Lu nc []<|Lf 0 U q_m<|Lf 1 U xY<|Lf 2 U (xz X3)<|Lh 3 U (xA zCA U<|wq hz.pv m)<|Lh 4 U (xK zCB (xM .here))<|Lh 5 U (jg (k:=(⟨a.ya,a.fQ⟩:z6)) (dflt:=(none:Option Addr)) zCC underlying130 zM2 .h1)<|Lf 6 U q_z<|N0<|Lb<|Ny<|oJ h▸Li results88 (.tmp U .nil) fun w hw=>⟨n,xZ,aF,hw.sub (.s2 .h1 .h1)⟩
def mV(a:yC):Option Bool:=
 some (decide (a.yk.yp=0))
theorem cW{Z b c d a r}(h:mV a=some r){Nx}(hz:PZ [] Nx Z)(f:ZS Z 2 (rq gr) c d a.yn)(e:ZC Z b [vi a.yk.yp,vi a.yk.yl,vi a.yk.fT,vi a.yP,vi a.yD,vs c a.yn.length d]):
  RC 135 #[vq b] Nx (.bool r) [] []:=by
 unfold mV at h
 exact L8 func135 U U<|B1n U<|B1q U<|Le 4 (Qk underlying191 U U)<|Q2q U<|Le 7 xY<|Le 8 (xz eL)<|Le 9 (xz QM)<|Le 10 (xA xJ U<|wq hz.pv e)<|La U<|La U<|La U<|WL.nil<|Lb<|Ny<|oJ h▸Nl results135
def mE(a:yj)(b:Int):Option Bool:=
 some (decide (a.yN<=b))
theorem Yt{Z b a c r}(h:mE a c=some r){Nx}(hz:PZ [] Nx Z)(d:ZC Z b [vi c]):
  RC 137 #[.agg #[vi a.yo,vi a.yN],vq b] Nx (.bool r) [] []:=by
 unfold mE at h
 refine L0 func137 U U<|B0q (Lg 2 (wa (cs:=[vi a.yo,vi a.yN])) fun e _=>Q1n U<|B0q<|Le 4 (xz QN)<|Le 5 (Nt xJ .here)<|Le 6 (xA xJ U<|kN hz.pv d)<|Q2n U<|Ny ?_)
 exact oJ h▸Nl results137
def ww(b:List yj)(zcH:yj->Option Bool)(c:Option Int):Nat->Int->Option Int
 | 0,_=>none
 | d+1,a=>if decide (a<b.length) then chk (0<=a/\a<b.length) ((zcH (⟨(nth b a).yo,(nth b a).yN⟩:yj)).bind fun e=>if e then some a else ww b zcH c d (i64 (a+1))) else c
def vG(a:List yj)(zcH:yj->Option Bool):Option Int:=
 mZ (some (-1)) fun b=>ww a zcH b xR 0
theorem rn{Z d g}(znR zwz){b}(zcH){r}(h:vG b zcH=some r){Nx}(hz:PZ [] Nx Z)(j:ZS Z 2 (rq gr) d g b)(k:∀ args w,(callFunc znR args).run Tryz.prog w = .ok (.enter znR args) w)(m:∀ w:World,PZ [] w Z->∀(x0:yj) (r:Bool),zcH x0=some r->Calls Tryz.prog znR (([.agg #[vi x0.yo,vi x0.yN]]:List Value)++zwz).toArray w fun e w'=>e = .returned (.bool r)/\Hp [] w w' []):
  RC 167 #[vs d b.length g,.func (.func znR) #[] (zwz).toArray] Nx (vi r) [] []:=by
 unfold vG at h
 refine L0 func167 U U<|B1n U<|jK0 h fun i n h=>Nd (i=some r) ([]) ([]) ?_ ?_
 ·refine B1q U<|Le 7 (w9 underlying251)<|Q1n U<|WC.block<|Ng (fun c a=>(ww b zcH i c a=some r)) (fun c a=>[(0,vs d b.length g),(1,.func (.func znR) #[] (zwz).toArray),(7,vi (b.length:Int)),(8,vi a)]) (fun c a=>[]) (fun c a=>c) ⟨xR,0⟩ h .q .nil ?_
  rintro(_|u) a h;·cases h
  rw[ww] at h
  refine B1n U<|WC.b<|Lj h (fun o h=>?_)<|fun o h=>?_
  ·refine Nn<|WC.b<|WC.block<|B2n U<|WC.b<|cK h fun p h=>bK h fun v q h=>D3q U<|L2 (Z:=Z) (Pr:=(rq gr)) zfr j p ?_
   rintro x y s z rfl
   refine Le 15 (xK zoh (qx hz.pv s))<|Ln 16 (qg (l:=[.tmp 15]) (f:=znR) (caps:=zwz) k<|.cons U .nil) .nil (fun w hw=>m w (hz.now hw) (⟨(nth b a).yo,(nth b a).yN⟩:yj) v  q)<|Q0n<|Lj h (fun t h=>?_)<|fun t h=>?_
   ·exact B2n U<|Ny<|Lw<|Lk<|Lk<|Lw<|Lk<|oJ h▸Nl results167
   ·exact N2<|Lt<|Lb<|D2q U<|WL.nil<|Nz ⟨u,i64 (a+1)⟩ h .q .nil
  ·exact N1<|Lm<|Lm<|Lv<|Lo () h .nil .nil
 ·rintro  h
  replace h:=n.symm.trans h
  exact B1n U<|Ny<|oJ h▸Nl results167
end Go.Proofs.YthjnhebofpebpaaGreat
