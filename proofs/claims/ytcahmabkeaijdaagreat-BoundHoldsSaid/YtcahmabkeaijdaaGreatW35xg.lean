/- A part of this claim's proof: models of functions, walks, plain laws. No conditions. -/
import Derived.Test.YtcahmabkeaijdaaGreatW35xf
set_option linter.all false
namespace Go.Proofs.YtcahmabkeaijdaaGreat
open Go Go.RowKit Sep Tryz
variable {f:Int}{g:List yp}
set_option maxRecDepth 30000
set_option maxHeartbeats 4000000
def jU(b:List yB)(c:zV)(d:Option Bool):Nat->Int->Option Bool
 | 0,_=>none
 | e+1,a=>if decide (a<b.length) then chk (0<=a/\a<b.length) (chk (((((((decide (((nth b a).yb)<0))||(decide (((nth b a).yb)>536870912)))||(decide (((nth b a).yq)<0)))||(decide (((nth b a).yq)>=c.yg.length)))||(decide (((nth b a).yo)<1)))||(decide (((nth b a).yo)>72)))=false->((decide (a>0))=true->(0<=(i64 (a-1))/\(i64 (a-1))<b.length))) (if ((((((decide (((nth b a).yb)<0))||(decide (((nth b a).yb)>536870912)))||(decide (((nth b a).yq)<0)))||(decide (((nth b a).yq)>=c.yg.length)))||(decide (((nth b a).yo)<1)))||(decide (((nth b a).yo)>72)))||((decide (a>0))&&(decide (((nth b (i64 (a-1))).yb)>((nth b a).yb)))) then some false else jU b c d e (i64 (a+1)))) else d
def uV(b:zV)(a:List yB):Option Bool:=
 uB (some (decide ((a.length:Int)<=4000))) fun c=>jU a b c xR 0
theorem Xt(Z l m n o p q s t u v x y z B K L M N c b r)(h:uV c b=some r){Nv}(hz:PZ [] Nv Z)(ay:ZS Z 4 (gk Z) l m c.fM)(az:ZS Z 4 (fJ Z) n o c.yf)(aA:ZS Z 4 (rq kT) p q c.fS)(aB:ZS Z 4 (rq mM) s t c.fK)(aC:ZS Z 7 (f0 Z) u v c.yg)(aD:ZS Z 5 (rq mb) x y c.fH)(aE:ZS Z 3 (fO Z) z B c.fU)(aF:ZS Z 4 (rq mc) K L c.ye)(ad:ZS Z 3 (rq uo) M N b):
  RC 30 #[.agg #[vs l c.fM.length m,vs n c.yf.length o,vs p c.fS.length q,vs s c.fK.length t,vs u c.yg.length v,vs x c.fH.length y,vs z c.fU.length B,vs K c.ye.length L],vs M b.length N] Nv (.bool r) [] []:=by
 unfold uV at h
 refine Lz func30 U U ?_
 let C:List Value:=[vs l c.fM.length m,vs n c.yf.length o,vs p c.fS.length q,vs s c.fK.length t,vs u c.yg.length v,vs x c.fH.length y,vs z c.fU.length B,vs K c.ye.length L];refine B0q<|Lh 2 (wg (cs:=C)) ?_
 intro d _
 refine Q1n U ?_
 obtain⟨ae,am,h⟩:=qB h
 let A:Value:=(vs M b.length N);refine Nd (ae=some r) ([(1,A)]) ([]) ?_ ?_
 ·let F:Value:=(vi (b.length:Int));refine B1q U<|Le 8 (w9 underlying73)<|Q1n U<|WC.block<|Ng (fun e a=>(jU b c ae e a=some r)) (fun e a=>[(1,A),(2,vp d),(7,A),(8,F),(9,vi a)]) (fun e a=>[stb d 31 C]) (fun e a=>e) ⟨xR,0⟩ h .q (.cons .here .nil) ?_
  rintro(_|ax) a h;·cases h
  rw[jU] at h
  refine B1n U<|WC.b<|Lj h (fun an h=>?_)<|fun an h=>?_
  ·refine Nn<|WC.b<|WC.block<|WC.b<|cK h fun ao h=>D1q U<|L3 (dd:=12) (Z:=Z) (Pr:=(rq uo)) zan ad ao ?_
   rintro aG aH ap aI rfl
   refine Le 13 (xK zFL (qV hz.pv ap)) (Lh 6 (xW (cs:=[vi 0,vi 0,vi 0]) zFM) fun f _=>La U<|Ln (xP zFN .here)<|Q0n<|WC.b ?_)
   obtain⟨aq,h⟩:=xH h
   let J:Value:=(.bool ((decide (((nth b a).yb)<0))||(decide (((nth b a).yb)>536870912))));refine Lu nc []<|Lf 0 U (xA lO)<|Lg 1 U (Nt xL .here)<|Lf 2 U sS<|Lf 3 U q_m<|L9 (fuel':=38) [(1,A),(2,vp d),(7,A),(8,F),(9,vi a),(6,vp f),(5,vi a),(17,(.bool<|decide (((nth b a).yb)<0))),(21,J)] (j7 46 (dn 8)) ?_<|fun af=>?_
   rotate_left
   ·rcases Bool.eq_false_or_eq_true (decide (((nth b a).yb)<0)) with hb' | hb'
    ·have O:=hb';clear hb'
     refine L0 (i:=17) U O<|Lk 4 U<|Lk 5 U<|Lk 6 U<|Lf 7 U qE<|L2 .a2 ?_ af
     exact .t 7<|.r2 (zu<|Eq.symm O)<|zu<|gQ O
    ·have P:=hb';clear hb'
     refine L0 (i:=17) U P<|Lf 4 U (xA lO)<|Lg 5 U (Nt xL .here)<|Lf 6 U sT<|Lf 7 U qF<|L2 .a2 ?_ af
     exact .t 7<|.r2 (zu<|Eq.symm P)<|zu<|gR P
   let H:Value:=(.bool (((decide (((nth b a).yb)<0))||(decide (((nth b a).yb)>536870912)))||(decide (((nth b a).yq)<0))));refine WD.d (bz 8 38) (by kernel_rfl)<|Lf 8 U q_m<|L9 (fuel':=33) [(1,A),(2,vp d),(7,A),(8,F),(9,vi a),(6,vp f),(5,vi a),(22,J),(26,H)] (j7 46 (dn 13)) ?_<|fun ag=>?_
   rotate_left
   ·rcases Bool.eq_false_or_eq_true ((decide (((nth b a).yb)<0))||(decide (((nth b a).yb)>536870912))) with hb' | hb'
    ·have Q:=hb';clear hb'
     refine L0 (i:=22) U Q<|Lk 9 U<|Lk 10 U<|Lk 11 U<|Lf 12 U qE<|L2 .a2 ?_ ag
     exact .t 7<|.r2 (zu<|Eq.symm Q)<|zu<|gQ Q
    ·have R:=hb';clear hb'
     refine L0 (i:=22) U R<|Lf 9 U (xA cx)<|Lg 10 U (Nt xL .here)<|Lf 11 U sS<|Lf 12 U qF<|L2 .a2 ?_ ag
     exact .t 7<|.r2 (zu<|Eq.symm R)<|zu<|gR R
   let I:=(c.yg.length:Int);let G:Value:=(.bool ((((decide (((nth b a).yb)<0))||(decide (((nth b a).yb)>536870912)))||(decide (((nth b a).yq)<0)))||(decide (((nth b a).yq)>=I))));refine WD.d (bz 13 33) (by kernel_rfl)<|Lf 13 U q_m<|L9 (fuel':=25) [(1,A),(2,vp d),(7,A),(8,F),(9,vi a),(6,vp f),(5,vi a),(27,H),(34,G)] (j7 46 (dn 21)) ?_<|fun ah=>?_
   rotate_left
   ·rcases Bool.eq_false_or_eq_true (((decide (((nth b a).yb)<0))||(decide (((nth b a).yb)>536870912)))||(decide (((nth b a).yq)<0))) with hb' | hb'
    ·have S:=hb';clear hb'
     refine L0 (i:=27) U S<|Lk 14 U<|Lk 15 U<|Lk 16 U<|Lk 17 U<|Lk 18 U<|Lk 19 U<|Lf 20 U qE<|L2 .a2 ?_ ah
     exact .t 7<|.r2 (zu<|Eq.symm S)<|zu<|gQ S
    ·have T:=hb';clear hb'
     refine L0 (i:=27) U T<|Lf 14 U (xA cx)<|Lg 15 U (Nt xL .here)<|Lf 16 U (xA mX)<|Lg 17 U (Nt z8f .h1)<|Lf 18 U (w9 underlying26)<|Lf 19 U (QK U U)<|Lf 20 U qF<|L2 .a2 ?_ ah
     exact .t 7<|.r2 (zu<|Eq.symm T)<|zu<|gR T
   let E:Value:=(.bool (((((decide (((nth b a).yb)<0))||(decide (((nth b a).yb)>536870912)))||(decide (((nth b a).yq)<0)))||(decide (((nth b a).yq)>=I)))||(decide (((nth b a).yo)<1))));refine WD.d (bz 21 25) (by kernel_rfl)<|Lf 21 U q_m<|L9 (fuel':=20) [(1,A),(2,vp d),(7,A),(8,F),(9,vi a),(6,vp f),(5,vi a),(35,G),(39,E)] (j7 46 (dn 26)) ?_<|fun ai=>?_
   rotate_left
   ·rcases Bool.eq_false_or_eq_true ((((decide (((nth b a).yb)<0))||(decide (((nth b a).yb)>536870912)))||(decide (((nth b a).yq)<0)))||(decide (((nth b a).yq)>=c.yg.length))) with hb' | hb'
    ·have V:=hb';clear hb'
     refine L0 (i:=35) U V<|Lk 22 U<|Lk 23 U<|Lk 24 U<|Lf 25 U qE<|L2 .a2 ?_ ai
     exact .t 7<|.r2 (zu<|Eq.symm V)<|zu<|gQ V
    ·have W:=hb';clear hb'
     refine L0 (i:=35) U W<|Lf 22 U (xA Vb)<|Lg 23 U (Nt xL .here)<|Lf 24 U sS<|Lf 25 U qF<|L2 .a2 ?_ ai
     exact .t 7<|.r2 (zu<|Eq.symm W)<|zu<|gR W
   let D:Value:=(.bool ((((((decide (((nth b a).yb)<0))||(decide (((nth b a).yb)>536870912)))||(decide (((nth b a).yq)<0)))||(decide (((nth b a).yq)>=I)))||(decide (((nth b a).yo)<1)))||(decide (((nth b a).yo)>72))));refine WD.d (bz 26 20) (by kernel_rfl)<|Lf 26 U q_m<|L9 (fuel':=15) [(1,A),(2,vp d),(7,A),(8,F),(9,vi a),(6,vp f),(5,vi a),(40,E),(44,D)] (j7 46 (dn 31)) ?_<|fun aj=>?_
   rotate_left
   ·rcases Bool.eq_false_or_eq_true (((((decide (((nth b a).yb)<0))||(decide (((nth b a).yb)>536870912)))||(decide (((nth b a).yq)<0)))||(decide (((nth b a).yq)>=c.yg.length)))||(decide (((nth b a).yo)<1))) with hb' | hb'
    ·have X:=hb';clear hb'
     refine L0 (i:=40) U X<|Lk 27 U<|Lk 28 U<|Lk 29 U<|Lf 30 U qE<|L2 .a2 ?_ aj
     exact .t 7<|.r2 (zu<|Eq.symm X)<|zu<|gQ X
    ·have Y:=hb';clear hb'
     refine L0 (i:=40) U Y<|Lf 27 U (xA Vb)<|Lg 28 U (Nt xL .here)<|Lf 29 U sT<|Lf 30 U qF<|L2 .a2 ?_ aj
     exact .t 7<|.r2 (zu<|Eq.symm Y)<|zu<|gR Y
   refine WD.d (bz 31 15) (by kernel_rfl)<|Lf 31 U q_m<|L9 (fuel':=0) [(1,A),(2,vp d),(7,A),(8,F),(9,vi a),(45,D),(59,.bool (((((((decide (((nth b a).yb)<0))||(decide (((nth b a).yb)>536870912)))||(decide (((nth b a).yq)<0)))||(decide (((nth b a).yq)>=I)))||(decide (((nth b a).yo)<1)))||(decide (((nth b a).yo)>72)))||((decide (a>0))&&(decide (((nth b<|i64 (a-1)).yb)>((nth b a).yb))))))] (j7 46 (dn 46)) ?_<|fun ak=>?_
   rotate_left
   ·rcases Bool.eq_false_or_eq_true ((((((decide (((nth b a).yb)<0))||(decide (((nth b a).yb)>536870912)))||(decide (((nth b a).yq)<0)))||(decide (((nth b a).yq)>=c.yg.length)))||(decide (((nth b a).yo)<1)))||(decide (((nth b a).yo)>72))) with hb' | hb'
    ·have aa:=hb';clear hb'
     refine L0 (i:=45) U aa<|Lk 32 U<|Lk 33 U<|Lk 34 U<|Lk 35 U<|Lk 36 U<|Lk 37 U<|Lk 38 U<|Lk 39 U<|Lk 40 U<|Lk 41 U<|Lk 42 U<|Lk 43 U<|Lk 44 U<|Lf 45 U qE<|L2 .a2 ?_ ak
     exact .t 5<|.r2 (zu<|Eq.symm aa)<|zu<|gQ aa
    ·have g:=hb';clear hb'
     have ar:=aq g
     refine L0 (i:=45) U g<|Lf 32 U q_m<|Lf 33 U sT<|Lf 34 U q_m<|L9 (fuel':=1) [(1,A),(2,vp d),(7,A),(8,F),(9,vi a),(45,.bool false),(48,(.bool<|decide (a>0))),(58,(.bool<|(decide (a>0))&&(decide (((nth b<|i64 (a-1)).yb)>((nth b a).yb)))))] (j7 46 (dn 45)) ?_<|fun al=>?_
     rotate_left
     ·rcases Bool.eq_false_or_eq_true (decide (a>0)) with hb' | hb'
      ·have k:=hb';clear hb'
       have au:=ar k
       refine L0 (i:=48) U k<|Lf 35 U q_m<|Lf 36 U q_m<|Lf 37 U sR<|Nf (j:=38) (dd:=52) (by kernel_rfl) z2B z2C (Z:=Z) (Pr:=(rq uo)) zan ad au ?_
       rintro aJ aK av aL rfl
       refine Lf 39 U (xA lO)<|Lg 40 U (xB xL U<|wA hz.pv av)<|Lf 41 U (xA lO)<|Lg 42 U (Nt xL .here)<|Lf 43 U sT<|Lf 44 U qE<|L2 .a2 ?_ al
       exact .t 6<|.r2 (zu<|Eq.symm k)<|zu<|jS k
      ·have ab:=hb';clear hb'
       refine L0 (i:=48) U ab<|Lk 35 U<|Lk 36 U<|Lk 37 U<|Lk 38 U<|Lk 39 U<|Lk 40 U<|Lk 41 U<|Lk 42 U<|Lk 43 U<|Lf 44 U qF<|L2 .a2 ?_ al
       exact .t 6<|.r2 (zu<|Eq.symm ab)<|zu<|jR ab
     refine WD.d (bz 45 1) (by kernel_rfl)<|Lf 45 U qF<|L2 .a2 ?_ ak
     exact .t 5<|.r2 (zu<|Eq.symm g)<|zu<|gR g
   refine WD.d (bz 46 0) (by kernel_rfl)<|Ny (by kernel_rfl)<|Lb<|Lj h (fun aw h=>?_)<|fun aw h=>?_
   ·exact B1n U<|Nw<|Ly<|Ll<|Ll<|Ly<|Ll<|oJ h▸Nl results30
   ·exact N0<|Lt<|Lb<|D2q U<|WL.nil<|Nx ⟨ax,i64 (a+1)⟩ h (Nat.lt_succ_self _) .q<|.cons .h1 .nil
  ·exact Nz<|Lo<|Lo<|Lv<|Lp () h (.cons U .nil) .nil
 ·rintro  h
  replace h:=am.symm.trans h
  exact B1q U<|Le 62 (w9 underlying73)<|Q2n U<|Nw<|oJ h▸Nl results30
def go(a:List yp):Option Int:=
 some (a.length:Int)
theorem l5(Z b c a r)(h:go a=some r){Nv}(hz:PZ [] Nv Z)(d:ZS Z 7 (rq wC) b c a):
  RC 228 #[vs b a.length c] Nv (vi r) [] []:=by
 unfold go at h
 exact L8 func228 U U<|B1n U<|B1q U<|Le 4 (w9 underlying115)<|Q1n U<|Nw<|oJ h▸Nl results228
def kH(a:yp)(b:yp):Option Int:=
 (qf a.yb b.yb).bind fun c=>(qf a.yA b.yA).bind fun d=>(qf a.yG b.yG).bind fun e=>(qf a.yc b.yc).bind fun f=>(uN ([c,d,e,f]:List Int)).bind fun g=>some g
theorem dj(Z a b r)(h:kH a b=some r){Nv}(hz:PZ [] Nv Z):
  RC 231 #[.agg #[vi a.yb,vi a.yA,vi a.yG,vi a.yc,vi a.yd.ya,vi a.yd.fX,vi a.yd.fQ],.agg #[vi b.yb,vi b.yA,vi b.yG,vi b.yc,vi b.yd.ya,vi b.yd.fX,vi b.yd.fQ]] Nv (vi r) [] []:=by
 unfold kH at h
 refine Lz func231 U U<|B0q (Lh 2 (wg (cs:=[vi a.yb,vi a.yA,vi a.yG,vi a.yc,vi a.yd.ya,vi a.yd.fX,vi a.yd.fQ])) fun o _=>Lh 3 (wg (cs:=[vi b.yb,vi b.yA,vi b.yG,vi b.yc,vi b.yd.ya,vi b.yd.fX,vi b.yd.fQ])) fun p _=>Q1n U<|WC.b ?_)
 refine bK h fun j c h=>bK h fun k d h=>bK h fun m e h=>bK h fun n f h=>bK h fun s g h=>Lu nc []<|Lf 0 U (xA eW)<|Lg 1 U (Nt xL .h1)<|Lf 2 U (xA eW)<|Lg 3 U (Nt xL .here)<|L4 4 U (Ns call50) (cc hz .nil fun w pz ho=>jX _ _ _ _ c pz )<|Lf 5 U (xA Jp)<|Lg 6 U (Nt xL .h1)<|Lf 7 U (xA Jp)<|Lg 8 U (Nt xL .here)<|L4 9 U (Ns call50) (cc hz .nil fun w pz ho=>jX _ _ _ _ d pz )<|Lf 10 U (xA Jq)<|Lg 11 U (Nt xL .h1)<|Lf 12 U (xA Jq)<|Lg 13 U (Nt xL .here)<|L4 14 U (Ns call50) (cc hz .nil fun w pz ho=>jX _ _ _ _ e pz )<|Lf 15 U (xA lP)<|Lg 16 U (Nt xL .h1)<|Lf 17 U (xA lP)<|Lg 18 U (Nt xL .here)<|L4 19 U (Ns call50) (cc hz .nil fun w pz ho=>jX _ _ _ _ f pz ) (WD.new (i:=20) (dd:=25) U (by kernel_rfl) U (ws (cs:=([j,k,m,n]:List Int).flatMap e3) zc4 (Lq (l:=[.tmp 9,.tmp 14,.tmp 19,.tmp 24]) (.r4 U U U U) [0,1,2,3]) (fun _=>by kernel_rfl) (by unfold maxLen;omega)) (fun h'=>absurd h' (by decide)) fun q _=>L4 21 U (Ns call49) (uC hz .nil (.cons .here .nil) fun w pz ho la=>cN _ _ _ _ _ g pz<|ZA.row (la _ (.head _) _) (RR.flat (enc:=e3) (fun _=>U) _) ⟨w,pz.1⟩)<|Lf 22 U q_z<|Ny (by kernel_rfl)<|Lb<|Nw ?_)
 exact oJ h▸Nl results231
def jr(a:List yp)(b:Int)(c:Int):Option Bool:=
 chk (0<=b/\b<a.length) (chk (0<=c/\c<a.length) ((kH (⟨(nth a b).yb,(nth a b).yA,(nth a b).yG,(nth a b).yc,(⟨((nth a b).yd).ya,((nth a b).yd).fX,((nth a b).yd).fQ⟩:zb)⟩:yp) (⟨(nth a c).yb,(nth a c).yA,(nth a c).yG,(nth a c).yc,(⟨((nth a c).yd).ya,((nth a c).yd).fX,((nth a c).yd).fQ⟩:zb)⟩:yp)).bind fun d=>some (decide (d<0))))
theorem sh(Z b c a d e r)(h:jr a d e=some r){Nv}(hz:PZ [] Nv Z)(f:ZS Z 7 (rq wC) b c a):
  RC 229 #[vs b a.length c,vi d,vi e] Nv (.bool r) [] []:=by
 unfold jr at h
 refine N1 func229 U U<|B1n U<|WC.b<|cK h fun g h=>cK h fun i h=>bK h fun u k h=>Lu nc []<|Lf 0 U q_m<|Lf 1 U q_m<|Nf (j:=2) (dd:=9) (by kernel_rfl) z2B z2C (Z:=Z) (Pr:=(rq wC)) zc7 f g ?_
 rintro n o l p rfl
 refine Lg 3 U (xK zm4 (qV hz.pv l))<|Lf 4 U q_m<|Lf 5 U q_m<|Nf (j:=6) (dd:=13) (by kernel_rfl) z2B z2C (Z:=Z) (Pr:=(rq wC)) zc7 f i ?_
 rintro q s m t rfl
 exact Lg 7 U (xK zm4 (qV hz.pv m))<|L4 8 U (Ns call231) (cc hz .nil fun w pz ho=>dj _ _ _ _ k pz )<|Lf 9 U sS<|Lf 10 U q_z<|Ny (by kernel_rfl)<|Lb<|Nw<|oJ h▸Nl results229
def js(a:List yp)(c:Int)(b:Int):Option (List yp):=
 chk (0<=b/\b<a.length) (chk (0<=c/\c<a.length) (chk (0<=b/\b<(((a.set (c:Int).toNat (⟨(nth a b).yb,(nth a b).yA,(nth a b).yG,(nth a b).yc,(⟨((nth a b).yd).ya,((nth a b).yd).fX,((nth a b).yd).fQ⟩:zb)⟩:yp)).length:Nat):Int)) (some ((a.set (c:Int).toNat (⟨(nth a b).yb,(nth a b).yA,(nth a b).yG,(nth a b).yc,(⟨((nth a b).yd).ya,((nth a b).yd).fX,((nth a b).yd).fQ⟩:zb)⟩:yp)).set (b:Int).toNat (⟨(nth a c).yb,(nth a c).yA,(nth a c).yG,(nth a c).yc,(⟨((nth a c).yd).ya,((nth a c).yd).fX,((nth a c).yd).fQ⟩:zb)⟩:yp)))))
theorem si(Z j f a c b r)(h:js a c b=some r){Nv}(hz:Pz [row (vs j a.length f) 153 7 (a.flatMap wC)] Nv Z)(ip:Ho Nv [row (vs j a.length f) 153 7 (a.flatMap wC)]):
  Calls Tryz.prog 230 #[vs j a.length f,vi c,vi b] Nv fun e w'=>e = .returned (.tuple #[])/\(r.length=a.length)/\Hp (fps [row (vs j a.length f) 153 7 (a.flatMap wC)]) Nv w' [row (vs j r.length f) 153 7 (r.flatMap wC)]:=by
 unfold js at h
 refine N6 func230 U ip U<|cK h fun m h=>cK h fun d h=>cK h fun g h=>Lu (fun i=>[13,15].contains i) []<|Lf 0 U q_m<|Lf 1 U q_m<|Lf 2 U q_m<|Lf 3 U q_m<|Lf 4 U q_m<|Lf 5 U q_m<|N2 (fun w hw=>Hp.vo .here hw (by intro hz';have:=m;rw[hz'] at this;omega)) ?_
 rintro⟨n,rfl⟩
 let A:List Value:=[vi ((nth a c).yb),vi ((nth a c).yA),vi ((nth a c).yG),vi ((nth a c).yc),vi (((nth a c).yd).ya),vi (((nth a c).yd).fX),vi (((nth a c).yd).fQ)];let C:List Value:=[vi ((nth a b).yb),vi ((nth a b).yA),vi ((nth a b).yG),vi ((nth a b).yc),vi (((nth a b).yd).ya),vi (((nth a b).yd).fX),vi (((nth a b).yd).fQ)];refine Lf 6 U (xY zc7 m.1 m.2 wz)<|Lg 7 U (wi (cs:=(wC<|nth a b)) zm4<|vB .here<|wG (enc:=wC) (l:=a) (i:=b) (sz:=7) (fun _=>U) m.1 m.2)<|Lf 8 U q_m<|Lf 9 U q_m<|Lf 10 U (xY zc7 d.1 d.2 wz)<|Lg 11 U (wi (cs:=(wC<|nth a c)) zm4<|vB .here<|wG (enc:=wC) (l:=a) (i:=c) (sz:=7) (fun _=>U) d.1 d.2)<|Lf 12 U (xY zc7 d.1 d.2 wz)<|WD.forced0 (i:=13) U (by kernel_rfl) (wT.of .nil) (kQ (vs:=C) (ds:=(a.set (c:Int).toNat (⟨(nth a b).yb,(nth a b).yA,(nth a b).yG,(nth a b).yc,(⟨((nth a b).yd).ya,((nth a b).yd).fX,((nth a b).yd).fQ⟩:zb)⟩:yp)).flatMap wC) zub sN .here (ma (enc:=wC) (sz:=7) (k:=0) (fun _=>U) d.1 d.2 (by decide))<|fZ (enc:=wC) (l:=a) (sz:=7) (vs:=C) (y:=(⟨(nth a b).yb,(nth a b).yA,(nth a b).yG,(nth a b).yc,(⟨((nth a b).yd).ya,((nth a b).yd).fX,((nth a b).yd).fQ⟩:zb)⟩:yp)) (k:=0) (fun _=>U) d.1 d.2<|Nat.le_of_ble_eq_true U)<|N4 .here (u:=(vs (some ⟨n,0,none⟩) ((a.set (c:Int).toNat (⟨(nth a b).yb,(nth a b).yA,(nth a b).yG,(nth a b).yc,(⟨((nth a b).yd).ya,((nth a b).yd).fX,((nth a b).yd).fQ⟩:zb)⟩:yp)).length) f)) (qs (List.length_set).symm)<|Nk (i:=8) U (u:=(vs (some ⟨n,0,none⟩) ((a.set (c:Int).toNat (⟨(nth a b).yb,(nth a b).yA,(nth a b).yG,(nth a b).yc,(⟨((nth a b).yd).ya,((nth a b).yd).fX,((nth a b).yd).fQ⟩:zb)⟩:yp)).length) f)) (qs (List.length_set).symm)<|Lf 14 U (xY zc7 g.1 g.2 wz)<|Nc (i:=15) U (by kernel_rfl) (by kernel_rfl) (kQ (vs:=A) (ds:=((a.set (c:Int).toNat (⟨(nth a b).yb,(nth a b).yA,(nth a b).yG,(nth a b).yc,(⟨((nth a b).yd).ya,((nth a b).yd).fX,((nth a b).yd).fQ⟩:zb)⟩:yp)).set (b:Int).toNat (⟨(nth a c).yb,(nth a c).yA,(nth a c).yG,(nth a c).yc,(⟨((nth a c).yd).ya,((nth a c).yd).fX,((nth a c).yd).fQ⟩:zb)⟩:yp)).flatMap wC) zub sN .here (ma (enc:=wC) (sz:=7) (k:=0) (fun _=>U) g.1 g.2 (by decide))<|fZ (enc:=wC) (l:=a.set (c:Int).toNat (⟨(nth a b).yb,(nth a b).yA,(nth a b).yG,(nth a b).yc,(⟨((nth a b).yd).ya,((nth a b).yd).fX,((nth a b).yd).fQ⟩:zb)⟩:yp)) (sz:=7) (vs:=A) (y:=(⟨(nth a c).yb,(nth a c).yA,(nth a c).yG,(nth a c).yc,(⟨((nth a c).yd).ya,((nth a c).yd).fX,((nth a c).yd).fQ⟩:zb)⟩:yp)) (k:=0) (fun _=>U) g.1 g.2<|Nat.le_of_ble_eq_true U) ?_
 exact N4 .here (u:=(vs (some ⟨n,0,none⟩) (((a.set (c:Int).toNat (⟨(nth a b).yb,(nth a b).yA,(nth a b).yG,(nth a b).yc,(⟨((nth a b).yd).ya,((nth a b).yd).fX,((nth a b).yd).fQ⟩:zb)⟩:yp)).set (b:Int).toNat (⟨(nth a c).yb,(nth a c).yA,(nth a c).yG,(nth a c).yc,(⟨((nth a c).yd).ya,((nth a c).yd).fX,((nth a c).yd).fQ⟩:zb)⟩:yp)).length) f)) (qs (List.length_set).symm)<|Ny (by kernel_rfl)<|oJ h▸Nh results230 .nil fun w hw=>⟨mF,(List.length_set).trans ((List.length_set).trans U),hw.sub (.cons .here .nil)⟩
def mQ(a:List yp)(b:yp):Option Unit:=
 chk (((a++([b]:List yp)).length:Int)*56<=140737488355328/\((a++([b]:List yp)).length:Int)<=4611686018427387904) (some ())
theorem dm(Z f c d g j k m n o p q s t u v x a b r)(h:mQ a b=some r){Nv}(hz:Pz [stb f 117 [g,j,k,m,n,o,p,q,s,t,u,vs c a.length d,v,x],row (vs c a.length d) 153 7 (a.flatMap wC)] Nv Z)(ip:Ho Nv [stb f 117 [g,j,k,m,n,o,p,q,s,t,u,vs c a.length d,v,x],row (vs c a.length d) 153 7 (a.flatMap wC)]):
  Calls Tryz.prog 233 #[.pointer (some ⟨f,11,none⟩),.iface 153 (.agg #[vi b.yb,vi b.yA,vi b.yG,vi b.yc,vi b.yd.ya,vi b.yd.fX,vi b.yd.fQ])] Nv fun e w'=>∃ y:Option Addr,∃ z:Nat,e = .returned (.tuple #[])/\True/\Hp (fps [stb f 117 [g,j,k,m,n,o,p,q,s,t,u,vs c a.length d,v,x],row (vs c a.length d) 153 7 (a.flatMap wC)]) Nv w' [stb f 117 [g,j,k,m,n,o,p,q,s,t,u,vs y ((a++([b]:List yp)).length) z,v,x],row (vs y ((a++([b]:List yp)).length) z) 153 7 ((a++([b]:List yp)).flatMap wC)]:=by
 unfold mQ at h
 refine Ni func233 U ip U<|cK h fun C h=>Lu (fun i=>[7,9].contains i) []<|Lf 0 U q_m<|Lf 1 U q_m<|Lf 2 U w3<|Lg 3 U (Nt zm3 .here)<|Lf 4 U q_m<|Lg 5 U (Jb underlying153 U U) (WD.new (i:=6) (dd:=10) U (by kernel_rfl) U (ws (cs:=([b]:List yp).flatMap wC) zc7 (Lq (l:=[.tmp 9]) (.cons U .nil) [0]) (fun _=>by kernel_rfl) (by unfold maxLen;omega)) (fun h'=>absurd h' (by decide)) fun D _=>WD.old (i:=7) (dd:=11) U (by kernel_rfl) U (fun _=>(wT.of .nil)) (kK (enc:=wC) (l1:=a) (l2:=([b]:List yp)) zc7 .h2 (fun _=>U) (kN .here) (gN Tm _) C) ?_)
 rintro⟨A,B⟩ _
 refine Lf 8 U w3<|Nc (i:=9) U (by kernel_rfl) (by kernel_rfl) (kO (ds:=[g,j,k,m,n,o,p,q,s,t,u,vs A ((a++([b]:List yp)).length) B,v,x]) zFP .h2)<|Ny (by kernel_rfl) ?_
 skip
 exact Nh results233 .nil<|fun w hw=>⟨A,B,mF,trivial,hw.sub .a2⟩
def jA(c:(List yp)->Option (List yp)):Nat->Int->(List yp)->Option (List yp)
 | 0,_,_=>none
 | d+1,a,b=>(if decide ((i64 (Int.tdiv (i64 (a-1)) 2))=a) then some true else(jr b a (i64 (Int.tdiv (i64 (a-1)) 2))).bind fun e=>some (!e)).bind fun f=>if f then c b else(js b (i64 (Int.tdiv (i64 (a-1)) 2)) a).bind fun g=>jA c d (i64 (Int.tdiv (i64 (a-1)) 2)) g
def uy(a:List yp)(b:Int):Option (List yp):=
 qP (fun(c:List yp)=>some c) fun d=>jA d xR b a
theorem ng(Z g b c i j k m n o p q s t u v x a C r)(h:uy a C=some r){Nv}(hz:Pz [stb g 117 [i,j,k,m,n,o,p,q,s,t,u,vs b a.length c,v,x],row (vs b a.length c) 153 7 (a.flatMap wC)] Nv Z)(ip:Ho Nv [stb g 117 [i,j,k,m,n,o,p,q,s,t,u,vs b a.length c,v,x],row (vs b a.length c) 153 7 (a.flatMap wC)]):
  Calls Tryz.prog 95 #[.iface 151 (.pointer (some ⟨g,11,none⟩)),vi C] Nv fun e w'=>e = .returned (.tuple #[])/\(r.length=a.length)/\Hp (fps [stb g 117 [i,j,k,m,n,o,p,q,s,t,u,vs b a.length c,v,x],row (vs b a.length c) 153 7 (a.flatMap wC)]) Nv w' [stb g 117 [i,j,k,m,n,o,p,q,s,t,u,vs b r.length c,v,x],row (vs b r.length c) 153 7 (r.flatMap wC)]:=by
 unfold uy at h
 refine Ni func95 U ip U<|jK1 h fun D I h=>Od (fun f=>(D f=some r)/\(f.length=a.length)) (fun f=>[]) (fun f=>[row (vs b f.length c) 153 7 (f.flatMap wC),stb g 117 [i,j,k,m,n,o,p,q,s,t,u,vs b f.length c,v,x]]) ?_ ?_
 ·refine WC.block<|N7 (fun z y d=>(jA D z y d=some r)/\(d.length=a.length)) (fun z y d=>[(0,(.iface 151<|.pointer<|some ⟨g,11,none⟩)),(1,vi y)]) (fun z y d=>[row (vs b d.length c) 153 7 (d.flatMap wC),stb g 117 [i,j,k,m,n,o,p,q,s,t,u,vs b d.length c,v,x]]) (fun z y d=>z) ⟨xR,C,a⟩ ⟨h,U⟩ .q (.s2 .h1 .here) ?_
  rintro (_|O) y d ⟨h,E⟩;·cases h
  rw[jA] at h
  refine WC.block<|B2q U<|Le 7 (QI U U (by decide) U)<|Q1n U<|WC.b<|WC.b<|bK h fun P F h=>D4q U<|Lw false 5 11 (B:=P) (fun h=>(oJ<|jD F h).symm) (fun _ J=>?_) ?_
  ·have A:=jE F J
   obtain⟨Q,K,A⟩:=z8 A
   replace A:=oJ A
   exact Q3q U<|Lm 15 (uD (l:=[.tmp 13,.tmp 14]) cI call229 (xG .h1 U)<|.r2 U U) .nil (uC hz .nil (.cons .here .nil) fun w pz ho la=>sh _ _ _ _ _ _ _ K pz<|ZA.row (la _ (.head _) _) (RR.flat (enc:=wC) (fun _=>U) _) ⟨w,pz.1⟩)<|Q2q U<|Lx A U .all
  refine Q0n<|Lj h (fun L h=>?_)<|fun L h=>?_
  ·exact Nz<|Lo<|Oi U<|Lo<|Lv<|Lp d ⟨h,E⟩ .nil<|.a2
  ·refine Nn<|WC.b<|bK h fun G M h=>D3q U<|Na (dd:=21) U (uD (l:=[.tmp 19,.tmp 20]) cJ call230 (xG .h1 U)<|.r2 U U) (.cons .here .nil) (cc hz (.cons .here .nil) fun w pz ho=>si _ _ _ _ _ _ _ M pz  ho) ?_
   rintro  H
   exact H3 (cs':=[i,j,k,m,n,o,p,q,s,t,u,vs b G.length c,v,x]) .h1 (by rw[H])<|Q0n<|D2q U<|WL.nil<|Lt<|Nx ⟨O,(i64<|Int.tdiv (i64 (y-1)) 2),G⟩ ⟨h,H.trans E⟩ (Nat.lt_succ_self _) .q<|.s2 .h1 .here
 ·rintro f ⟨h,N⟩
  replace h:=(I f).symm.trans h
  exact oJ h▸Nh results95 .nil fun w hw=>⟨mF,N,hw.sub (.s2 .h1 .here)⟩
def kI(a:List yp)(b:yp):Option (List yp):=
 (mQ a b).bind fun e=>(go (a++([b]:List yp))).bind fun c=>(uy (a++([b]:List yp)) (i64 (c-1))).bind fun d=>some d
theorem dq(Z f c d g i j k m n o p q s t u v a b r)(h:kI a b=some r){Nv}(hz:Pz [stb f 117 [g,i,j,k,m,n,o,p,q,s,t,vs c a.length d,u,v],row (vs c a.length d) 153 7 (a.flatMap wC)] Nv Z)(ip:Ho Nv [stb f 117 [g,i,j,k,m,n,o,p,q,s,t,vs c a.length d,u,v],row (vs c a.length d) 153 7 (a.flatMap wC)]):
  Calls Tryz.prog 57 #[.iface 151 (.pointer (some ⟨f,11,none⟩)),.iface 153 (.agg #[vi b.yb,vi b.yA,vi b.yG,vi b.yc,vi b.yd.ya,vi b.yd.fX,vi b.yd.fQ])] Nv fun e w'=>∃ x:Option Addr,∃ y:Nat,e = .returned (.tuple #[])/\True/\Hp (fps [stb f 117 [g,i,j,k,m,n,o,p,q,s,t,vs c a.length d,u,v],row (vs c a.length d) 153 7 (a.flatMap wC)]) Nv w' [stb f 117 [g,i,j,k,m,n,o,p,q,s,t,vs x r.length y,u,v],row (vs x r.length y) 153 7 (r.flatMap wC)]:=by
 unfold kI at h
 refine Ni func57 U ip U<|WC.b<|bK h fun G B h=>D2q U<|N9 (dd:=6) U (W6 (l:=[.tmp 5]) (Jo _) call233 U<|.cons U .nil) .a2 (cc hz .a2 fun w pz ho=>dm _ _ _ _ _ _ _ _ _ _ _ _ _ _ _ _ _ _ _ _ B pz  ho) ?_
 rintro z A _
 refine Q0n<|bK h fun H C h=>bK h fun F D h=>D2q U<|Lm 9 (uD (l:=[]) X0 call228 (xG .here U) .nil) .nil (uC hz .nil (.cons .h1 .nil) fun w pz ho la=>l5 _ _ _ _ _ C pz<|ZA.row (la _ (.head _) _) (RR.flat (enc:=wC) (fun _=>U) _) ⟨w,pz.1⟩)<|La U<|Na (dd:=11) U (Ns call95) .a2 (cc hz .a2 fun w pz ho=>ng _ _ _ _ _ _ _ _ _ _ _ _ _ _ _ _ _ _ _ _ D pz  ho) ?_
 rintro  E
 exact H3 (cs':=[g,i,j,k,m,n,o,p,q,s,t,vs z F.length A,u,v]) .here (by rw[E])<|WL.nil<|oJ h▸Nh results57 .nil fun w hw=>⟨z,A,mF,trivial,hw.sub .a2⟩
def jO(d:List (List zb))(b:List yB)(a:Int)(f:Int)(g:Int)(h:Int)(i:(List yp)->Option (List yp)):Nat->Int->(List yp)->Option (List yp)
 | 0,_,_=>none
 | k+1,c,e=>if decide (c<(((nth d ((nth b a).yq)).length:Nat):Int)) then qP (fun(l:List yp)=>jO d b a f g h i k (i64 (c+1)) l) fun j=>chk (0<=c/\c<(((nth d ((nth b a).yq)).length:Nat):Int)) (if decide (((nth (nth d ((nth b a).yq)) c).ya)=f) then(kI e (⟨g,h,(nth b a).yq,a,(⟨(nth (nth d ((nth b a).yq)) c).ya,(nth (nth d ((nth b a).yq)) c).fX,(nth (nth d ((nth b a).yq)) c).fQ⟩:zb)⟩:yp)).bind fun m=>j m else j e) else i e
def gP(m:zV)(c:List (List zb))(b:List yB)(j:List (z7×yx))(d:List yp)(k:List yh)(l:List yh)(e:Int)(f:Int)(g:Int)(a:Int):Option (List yp):=
 chk (0<=a/\a<b.length) (chk (0<=((nth b a).yq)/\((nth b a).yq)<c.length) (qP (fun(h:List yp)=>some h) fun i=>jO c b a e f g i xR 0 d))
theorem lu(Z m z B Q R S T V W X Y aa ab ad ae af ag ah ai aj ak c b t u al am an ao a f d az j x y ax ap aq g r)(h:gP a f d az j x y ax ap aq g=some r){Nv}(hz:Pz [stb m 117 [vs z a.fM.length B,vs Q a.yf.length R,vs S a.fS.length T,vs V a.fK.length W,vs X a.yg.length Y,vs aa a.fH.length ab,vs ad a.fU.length ae,vs af a.ye.length ag,vs ah f.length ai,vs aj d.length ak,.map (some c),vs t j.length u,vs al x.length am,vs an y.length ao],xU c (ga g7) Value.pointer (jG b),q7 z2r b,row (vs t j.length u) 153 7 (j.flatMap wC)] Nv Z)(aY:ZS Z 4 (gk Z) z B a.fM)(aZ:ZS Z 4 (fJ Z) Q R a.yf)(a0:ZS Z 4 (rq kT) S T a.fS)(a1:ZS Z 4 (rq mM) V W a.fK)(a2:ZS Z 7 (f0 Z) X Y a.yg)(a3:ZS Z 5 (rq mb) aa ab a.fH)(a4:ZS Z 3 (fO Z) ad ae a.fU)(a5:ZS Z 4 (rq mc) af ag a.ye)(aD:ZS Z 1 (mN Z) ah ai f)(aE:ZS Z 3 (rq uo) aj ak d)(a6:tz b=az)(a7:ZS Z 3 (rq wd) al am x)(a8:ZS Z 3 (rq wd) an ao y)(ip:Ho Nv [stb m 117 [vs z a.fM.length B,vs Q a.yf.length R,vs S a.fS.length T,vs V a.fK.length W,vs X a.yg.length Y,vs aa a.fH.length ab,vs ad a.fU.length ae,vs af a.ye.length ag,vs ah f.length ai,vs aj d.length ak,.map (some c),vs t j.length u,vs al x.length am,vs an y.length ao],xU c (ga g7) Value.pointer (jG b),q7 z2r b,row (vs t j.length u) 153 7 (j.flatMap wC)]):
  Calls Tryz.prog 31 #[vp m,vi ax,vi ap,vi aq,vi g] Nv fun e w'=>∃ aA:Option Addr,∃ aB:Nat,e = .returned (.tuple #[])/\True/\Hp (fps [stb m 117 [vs z a.fM.length B,vs Q a.yf.length R,vs S a.fS.length T,vs V a.fK.length W,vs X a.yg.length Y,vs aa a.fH.length ab,vs ad a.fU.length ae,vs af a.ye.length ag,vs ah f.length ai,vs aj d.length ak,.map (some c),vs t j.length u,vs al x.length am,vs an y.length ao],xU c (ga g7) Value.pointer (jG b),q7 z2r b,row (vs t j.length u) 153 7 (j.flatMap wC)]) Nv w' [stb m 117 [vs z a.fM.length B,vs Q a.yf.length R,vs S a.fS.length T,vs V a.fK.length W,vs X a.yg.length Y,vs aa a.fH.length ab,vs ad a.fU.length ae,vs af a.ye.length ag,vs ah f.length ai,vs aj d.length ak,.map (some c),vs aA r.length aB,vs al x.length am,vs an y.length ao],row (vs aA r.length aB) 153 7 (r.flatMap wC),xU c (ga g7) Value.pointer (jG b),q7 z2r b]:=by
 unfold gP at h
 refine Dx func31 U ip U<|WC.b<|cK h fun aF h=>D1q U<|Le 14 w3<|Le 15 (xA Jn)<|Le 16 (Nt zFO .here)<|La U<|L3 (dd:=18) (Z:=Z) (Pr:=(rq uo)) zan aE aF ?_
 rintro a9 ba aG bb rfl
 refine Le 19 (xA cx)<|Le 20 (xB xL U<|wA hz.pv aG)<|Q1n U<|WC.b<|cK h fun aH h=>D1q U<|Le 22 w3<|Le 23 (xA Uh)<|Le 24 (Nt zFw .here)<|La U<|L3 (dd:=26) (Z:=Z) (Pr:=(mN Z)) zdH aD aH ?_
 rintro bc bd aI be ⟨aT,aU,rfl,aJ⟩
 refine Le 27 (xB zc1 U<|mG hz.pv aI)<|Le 28 (w9 underlying48)<|Q1n U ?_
 obtain⟨aC,aK,h⟩:=wo h
 let A:Value:=(vs z a.fM.length B);let C:Value:=(vs Q a.yf.length R);let D:Value:=(vs S a.fS.length T);let E:Value:=(vs V a.fK.length W);let F:Value:=(vs X a.yg.length Y);let G:Value:=(vs aa a.fH.length ab);let H:Value:=(vs ad a.fU.length ae);let I:Value:=(vs af a.ye.length ag);let K:Value:=(vs ah f.length ai);let L:Value:=(vs aj d.length ak);let M:Value:=(vs al x.length am);let N:Value:=(vs an y.length ao);refine Oq (fun p ar au=>(aC p=some r)) (fun p ar au=>[]) (fun p ar au=>[row (vs ar p.length au) 153 7 (p.flatMap wC),stb m 117 [A,C,D,E,F,G,H,I,K,L,(.map<|some c),vs ar p.length au,M,N],xU c (ga g7) Value.pointer (jG b),q7 z2r b]) ?_ ?_
 ·let J:Value:=(vs aT ((nth f ((nth d g).yq)).length) aU);let O:=(((nth f ((nth d g).yq)).length:Nat):Int);let P:Value:=(vi ((nth d g).yq));refine WC.block<|Dy (fun ay k n q s=>(jO f d g ax ap aq aC ay k n=some r)) (fun ay k n q s=>[(0,vp m),(1,vi ax),(2,vi ap),(3,vi aq),(4,vi g),(10,P),(27,J),(28,vi O),(29,vi k)]) (fun ay k n q s=>[row (vs q n.length s) 153 7 (n.flatMap wC),stb m 117 [A,C,D,E,F,G,H,I,K,L,(.map<|some c),vs q n.length s,M,N],xU c (ga g7) Value.pointer (jG b),q7 z2r b]) (fun ay k n q s=>ay) ⟨xR,0,j,t,u⟩ h .q (.s4 .h3 .here .here .here) ?_
  rintro(_|aV) k n q s h;·cases h
  rw[jO] at h
  refine B1n U<|WC.b<|Lj h (fun aL h=>?_)<|fun aL h=>?_
  ·refine Nn<|jK1 h fun aW aM h=>N5 (fun o av aw=>(aW o=some r)) (fun o av aw=>[(0,vp m),(1,vi ax),(2,vi ap),(3,vi aq),(4,vi g),(10,P),(27,J),(28,vi O),(29,vi k)]) (fun o av aw=>[row (vs av o.length aw) 153 7 (o.flatMap wC),stb m 117 [A,C,D,E,F,G,H,I,K,L,(.map<|some c),vs av o.length aw,M,N],xU c (ga g7) Value.pointer (jG b),q7 z2r b]) ?_ ?_
   ·refine WC.block<|WC.b<|cK h fun aN h=>Ld<|L3 (dd:=31) (Z:=Z) (Pr:=(rq mW)) z8g aJ aN ?_
    rintro bf bg aO bh rfl
    refine Le 32 (xK z4D (qV hz.pv aO)) (Lh 12 (xW (cs:=[vi 0,vi 0,vi 0]) zdJ) fun bi _=>Ln (xP zc3 .here)<|Q0n<|B0q<|Le 33 (xA gO)<|Le 34 (Nt xL .here)<|Q2n U<|Lj h (fun aP h=>?_)<|fun aP h=>?_)
    ·refine bK h fun aX aQ h=>Lu (fun i=>[11].contains i) []<|Lf 0 U q_m<|Lf 1 U w3<|Lf 2 U (xA Xm)<|Lg 3 U (bL underlying151 U U)<|Lf 4 U q_m<|Lf 5 U q_m<|Lf 6 U q_m<|Lf 7 U q_m<|Lg 8 U (xK z4D (xM .here))<|Lf 9 U (wm (v:=(.agg #[vi ap,vi aq,P,vi g,(vi<|(nth (nth f<|(nth d g).yq) k).ya),(vi<|(nth (nth f<|(nth d g).yq) k).fX),(vi<|(nth (nth f<|(nth d g).yq) k).fQ)])) (Lq (l:=[.tmp 41,.tmp 42,.tmp 43,.tmp 44,.tmp 45]) (.r5 U U U U U) [0,1,2,3,4]) (fun _=>by kernel_rfl))<|Lg 10 U (bL underlying153 U U)<|WD.call2 (i:=11) (dd:=48) U (by kernel_rfl) U U U (.inl ⟨U,fun _ _=>(wT.of .nil)⟩) (Ns call57) (.s2 .h2 .h1) (cc hz (.s2 .h2 .h1) fun w pz ho=>dq _ _ _ _ _ _ _ _ _ _ _ _ _ _ _ _ _ _ _ _ aQ pz  ho) ?_
     rintro aR aS _
     exact Ny (by kernel_rfl)<|Lt<|Lp ⟨aX,aR,aS⟩ h .q<|.s4 .h1 .here .h1 .h1
    ·exact N0<|Lt<|Lp ⟨n,q,s⟩ h .q<|.s4 .h1 .h1 .h1 .h1
   ·rintro o av aw h
    replace h:=(aM o).symm.trans h
    exact D2q U<|WL.nil<|Nx ⟨aV,i64 (k+1),o,av,aw⟩ h (Nat.lt_succ_self _) .q<|.a4
  ·exact Nz<|Lo<|Lo<|Lv<|Lp ⟨n,q,s⟩ h .nil<|.a4
 ·rintro p ar au h
  replace h:=(aK p).symm.trans h
  exact oJ h▸Nh results31 .nil fun w hw=>⟨ar,au,mF,trivial,hw.sub (.s4 .h1 .here .here .here)⟩
def qq(c:Int)(d:Int->(List yp)->Option (Bool×List yp)):Nat->Int->(List yp)->Option (Bool×List yp)
 | 0,_,_=>none
 | g+1,a,b=>if (decide ((i64 ((i64 (2*a))+1))>=c))||(decide ((i64 ((i64 (2*a))+1))<0)) then d a b else qP (fun(e:Int)=>(jr b e a).bind fun h=>if !h then d a b else(js b a e).bind fun i=>qq c d g e i) fun f=>(if decide ((i64 ((i64 ((i64 (2*a))+1))+1))<c) then(jr b (i64 ((i64 ((i64 (2*a))+1))+1)) (i64 ((i64 (2*a))+1))).bind fun j=>some j else some false).bind fun k=>if k then f (i64 ((i64 ((i64 (2*a))+1))+1)) else f (i64 ((i64 (2*a))+1))
def gU(b:List yp)(a:Int)(c:Int):Option (Bool×List yp):=
 sK (fun(d:Int) (e:List yp)=>some (decide (d>a),e)) fun f=>qq c f xR a b
theorem dt(Z g a b j k m n o p q s t u v x y c E F r)(h:gU c E F=some r){Nv}(hz:Pz [stb g 117 [j,k,m,n,o,p,q,s,t,u,v,vs a c.length b,x,y],row (vs a c.length b) 153 7 (c.flatMap wC)] Nv Z)(ip:Ho Nv [stb g 117 [j,k,m,n,o,p,q,s,t,u,v,vs a c.length b,x,y],row (vs a c.length b) 153 7 (c.flatMap wC)]):
  Calls Tryz.prog 96 #[.iface 151 (.pointer (some ⟨g,11,none⟩)),vi E,vi F] Nv fun e w'=>e = .returned (.bool r.1)/\(r.2.length=c.length)/\Hp (fps [stb g 117 [j,k,m,n,o,p,q,s,t,u,v,vs a c.length b,x,y],row (vs a c.length b) 153 7 (c.flatMap wC)]) Nv w' [stb g 117 [j,k,m,n,o,p,q,s,t,u,v,vs a r.2.length b,x,y],row (vs a r.2.length b) 153 7 (r.2.flatMap wC)]:=by
 unfold gU at h
 refine N6 func96 U ip U<|B1n U<|B2n U<|jK2 h fun K O h=>H0 (fun G i=>(K G i=some r)/\(i.length=c.length)) (fun G i=>[(1,vi E),(7,vi G)]) (fun G i=>[row (vs a i.length b) 153 7 (i.flatMap wC),stb g 117 [j,k,m,n,o,p,q,s,t,u,v,vs a i.length b,x,y]]) ?_ ?_
 ·let C:Value:=(.iface 151 (.pointer (some ⟨g,11,none⟩)));refine WC.block<|N7 (fun H f d=>(qq F K H f d=some r)/\(d.length=c.length)) (fun H f d=>[(0,C),(1,vi E),(2,vi F),(7,vi f)]) (fun H f d=>[row (vs a d.length b) 153 7 (d.flatMap wC),stb g 117 [j,k,m,n,o,p,q,s,t,u,v,vs a d.length b,x,y]]) (fun H f d=>H) ⟨xR,E,c⟩ ⟨h,U⟩ .q (.s2 .h1 .here) ?_
  rintro (_|ab) f d ⟨h,J⟩;·cases h
  rw[qq] at h
  let A:=(i64 ((i64 (2*f))+1));refine WC.block<|B4n U<|WC.b<|B0q<|La U<|La U<|La U<|La U<|Lw false 2 18 (B:=(decide (A>=F))||(decide (A<0))) (fun h=>(gQ h).symm) (fun _ P=>?_) ?_
  ·exact Q3q U<|Lx (gR P) U .all
  refine Q0n<|Lj h (fun Q h=>?_)<|fun Q h=>?_
  ·exact Nz<|Lo<|Oi U<|Lo<|Lv<|Lp ⟨f,d⟩ ⟨h,J⟩ .q<|.a2
  ·refine Nn<|B2n U ?_
   obtain⟨ad,R,h⟩:=wo h
   let D:Value:=(vs a d.length b);refine L5 (fun z=>(ad z=some r)) (fun z=>[(0,C),(1,vi E),(2,vi F),(7,vi f),(9,vi z)]) (fun z=>[row D 153 7 (d.flatMap wC),stb g 117 [j,k,m,n,o,p,q,s,t,u,v,D,x,y]]) ?_ ?_
   ·refine B3n U<|WC.b<|bK h fun ae L h=>D4q U<|Lw true 4 28 (B:=ae) (fun h=>(oJ<|jE L h).symm) (fun _ S=>?_) ?_
    ·have I:=jD L S
     obtain⟨af,T,I⟩:=z8 I
     replace I:=oJ I
     exact Q3q U<|Lm 32 (uD (l:=[.tmp 30,.tmp 31]) cI call229 (xG .h1 U)<|.r2 U U) .nil (uC hz .nil (.cons .here .nil) fun w pz ho la=>sh _ _ _ _ _ _ _ T pz<|ZA.row (la _ (.head _) _) (RR.flat (enc:=wC) (fun _=>U) _) ⟨w,pz.1⟩)<|La U<|Lx I U .all
    refine Q0n<|Lj h (fun V h=>?_)<|fun V h=>?_
    ·exact D2q U<|WL.nil<|Lp (i64 (A+1)) h .q<|.a2
    ·exact N0<|Lp A h .q<|.a2
   ·rintro z h
    replace h:=(R z).symm.trans h
    refine WC.b<|WC.b<|bK h fun ag W h=>D3q U<|Lm 38 (uD (l:=[.tmp 36,.tmp 37]) cI call229 (xG .h1 U)<|.r2 U U) .nil (uC hz .nil (.cons .here .nil) fun w pz ho la=>sh _ _ _ _ _ _ _ W pz<|ZA.row (la _ (.head _) _) (RR.flat (enc:=wC) (fun _=>U) _) ⟨w,pz.1⟩)<|Q1n U<|Lj h (fun X h=>?_)<|fun X h=>?_
    ·exact Nz<|Lo<|Oi U<|Lo<|Lv<|Lp ⟨f,d⟩ ⟨h,J⟩ .q<|.a2
    ·refine Nn<|WC.b<|bK h fun M Y h=>D3q U<|Na (dd:=43) U (uD (l:=[.tmp 41,.tmp 42]) cJ call230 (xG .h1 U)<|.r2 U U) (.cons .here .nil) (cc hz (.cons .here .nil) fun w pz ho=>si _ _ _ _ _ _ _ Y pz  ho) ?_
     rintro  N
     exact H3 (cs':=[j,k,m,n,o,p,q,s,t,u,v,vs a M.length b,x,y]) .h1 (by rw[N])<|Q0n<|D2q U<|WL.nil<|Lt<|Nx ⟨ab,z,M⟩ ⟨h,N.trans J⟩ (Nat.lt_succ_self _) .q<|.s2 .h1 .here
 ·rintro G i ⟨h,aa⟩
  replace h:=(O G i).symm.trans h
  exact B4n U<|Nw<|oJ h▸Li results96 (.tmp U .nil) fun w hw=>⟨w6,aa,hw.sub (.s2 .h1 .here)⟩
def uc(a:List yp):Option yp:=
 chk (0<=(i64 ((a.length:Int)-1))/\(i64 ((a.length:Int)-1))<a.length) (chk (0<=(i64 ((a.length:Int)-1))/\(i64 ((a.length:Int)-1))<=a.length) (some (⟨(nth a (i64 ((a.length:Int)-1))).yb,(nth a (i64 ((a.length:Int)-1))).yA,(nth a (i64 ((a.length:Int)-1))).yG,(nth a (i64 ((a.length:Int)-1))).yc,(⟨((nth a (i64 ((a.length:Int)-1))).yd).ya,((nth a (i64 ((a.length:Int)-1))).yd).fX,((nth a (i64 ((a.length:Int)-1))).yd).fQ⟩:zb)⟩:yp)))
theorem dX(Z d b c f g j k m n o p q s t u v a r)(h:uc a=some r){Nv}(hz:Pz [stb d 117 [f,g,j,k,m,n,o,p,q,s,t,vs b a.length c,u,v],row (vs b a.length c) 153 7 (a.flatMap wC)] Nv Z)(ip:Ho Nv [stb d 117 [f,g,j,k,m,n,o,p,q,s,t,vs b a.length c,u,v],row (vs b a.length c) 153 7 (a.flatMap wC)]):
  Calls Tryz.prog 232 #[.pointer (some ⟨d,11,none⟩)] Nv fun e w'=>∃ y:Option Addr,∃ z:Nat,e = .returned (.iface 153 (.agg #[vi r.yb,vi r.yA,vi r.yG,vi r.yc,vi r.yd.ya,vi r.yd.fX,vi r.yd.fQ]))/\True/\Hp (fps [stb d 117 [f,g,j,k,m,n,o,p,q,s,t,vs b a.length c,u,v],row (vs b a.length c) 153 7 (a.flatMap wC)]) Nv w' [stb d 117 [f,g,j,k,m,n,o,p,q,s,t,vs y ((a.take ((i64 ((a.length:Int)-1)):Int).toNat).length) z,u,v],row (vs y ((a.take ((i64 ((a.length:Int)-1)):Int).toNat).length) z) 153 7 ((a.take ((i64 ((a.length:Int)-1)):Int).toNat).flatMap wC)]:=by
 unfold uc at h
 refine H7 func232 U ip U<|B1n U<|B1q U<|Le 6 w3<|Le 7 (Nt zm3 .here)<|Q1n U<|WC.b<|cK h fun x h=>D2q U<|Le 10 (w9 underlying115)<|La U<|Nj (fun w hw=>Hp.vo .h1 hw (by intro hz';have:=x;rw[hz'] at this;omega)) ?_
 rintro⟨E,rfl⟩
 let A:=(i64 ((a.length:Int)-1));refine Le 12 (xY zc7 x.1 x.2 wz)<|Le 13 (wi (cs:=(wC<|nth a A)) zm4<|vB .h1<|wG (enc:=wC) (l:=a) (i:=i64 ((a.length:Int)-1)) (sz:=7) (fun _=>U) x.1 x.2)<|Lh 4 (xW (cs:=[vi 0,vi 0,vi 0,vi 0,vi 0,vi 0,vi 0]) zFQ) ?_
 intro F _
 refine Ln (xP zub .here)<|Q0n<|WC.b<|cK h fun D h=>D3q U<|Le 17 (w9 underlying115)<|La U (O3 (dd:=19) (enc:=wC) (ls:=a) U U zc7 U U .h2 (fun _=>U) D fun B C=>Le 20 w3<|Ln (kO (ds:=[f,g,j,k,m,n,o,p,q,s,t,vs B ((a.take (A:Int).toNat).length) C,u,v]) zFP .h2)<|Q0n<|B0q<|Le 21 (xK zm4 (xM .h2))<|Le 22 (bL underlying153 U U)<|Q1n U<|Nw ?_)
 exact oJ h▸Li results232 (.tmp U .nil) fun w hw=>⟨B,C,w6,trivial,hw.sub .a2⟩
def fu(b:List yp):Option (yp×List yp):=
 (go b).bind fun c=>(js b 0 (i64 (c-1))).bind fun d=>(gU d 0 (i64 (c-1))).bind fun a=>(uc a.2).bind fun e=>some (e,a.2.take ((i64 ((a.2.length:Int)-1)):Int).toNat)
theorem dY(Z u b c d f g i j k m n o p q s t a r)(h:fu a=some r){Nv}(hz:Pz [stb u 117 [d,f,g,i,j,k,m,n,o,p,q,vs b a.length c,s,t],row (vs b a.length c) 153 7 (a.flatMap wC)] Nv Z)(ip:Ho Nv [stb u 117 [d,f,g,i,j,k,m,n,o,p,q,vs b a.length c,s,t],row (vs b a.length c) 153 7 (a.flatMap wC)]):
  Calls Tryz.prog 58 #[.iface 151 (.pointer (some ⟨u,11,none⟩))] Nv fun e w'=>∃ v:Option Addr,∃ x:Nat,e = .returned (.iface 153 (.agg #[vi r.1.yb,vi r.1.yA,vi r.1.yG,vi r.1.yc,vi r.1.yd.ya,vi r.1.yd.fX,vi r.1.yd.fQ]))/\True/\Hp (fps [stb u 117 [d,f,g,i,j,k,m,n,o,p,q,vs b a.length c,s,t],row (vs b a.length c) 153 7 (a.flatMap wC)]) Nv w' [stb u 117 [d,f,g,i,j,k,m,n,o,p,q,vs v r.2.length x,s,t],row (vs v r.2.length x) 153 7 (r.2.flatMap wC)]:=by
 unfold fu at h
 refine H7 func58 U ip U<|B1n U<|WC.b<|bK h fun I y h=>D1q U<|Lm 5 (uD (l:=[]) X0 call228 (xG .here U) .nil) .nil (uC hz .nil (.cons .h1 .nil) fun w pz ho la=>l5 _ _ _ _ _ y pz<|ZA.row (la _ (.head _) _) (RR.flat (enc:=wC) (fun _=>U) _) ⟨w,pz.1⟩)<|Q2n U<|WC.b<|bK h fun G z h=>D2q U<|Na (dd:=9) U (uD (l:=[.const (vi 0),.tmp 8]) cJ call230 (xG .here U)<|.r2 U U) (.cons .h1 .nil) (cc hz (.cons .h1 .nil) fun w pz ho=>si _ _ _ _ _ _ _ z pz  ho) ?_
 rintro  A
 refine H3 (cs':=[d,f,g,i,j,k,m,n,o,p,q,vs b G.length c,s,t]) .h1 (by rw[A])<|Q0n<|WC.b<|bK h fun H B h=>D2q U<|Na (dd:=12) U (Ns call96) .a2 (cc hz .a2 fun w pz ho=>dt _ _ _ _ _ _ _ _ _ _ _ _ _ _ _ _ _ _ _ _ _ B pz  ho) ?_
 rintro  C
 refine H3 (cs':=[d,f,g,i,j,k,m,n,o,p,q,vs b H.2.length c,s,t]) .here (by rw[C])<|Q0n<|WC.b<|bK h fun J D h=>D1q U<|N9 (dd:=14) U (W6 (l:=[]) (KL _) call232 U .nil) .a2 (cc hz .a2 fun w pz ho=>dX _ _ _ _ _ _ _ _ _ _ _ _ _ _ _ _ _ _ _ D pz  ho) ?_
 rintro E F _
 exact Q1n U<|Nw<|oJ h▸Li results58 (.tmp U .nil) fun w hw=>⟨E,F,w6,trivial,hw.sub .a2⟩
def cn(a:Int)(b:Int)(c:Int):Option yx:=
 if (((((decide (a<1))||(decide (a>16)))||(decide (b<0)))||(decide (b>1000)))||(decide (c<0)))||(decide (c>1073741824)) then none else some (⟨(⟨a,b,c⟩:xy),0,0,([]:List yj)⟩:yx)
theorem F8(Z a b c r)(h:cn a b c=some r){Nv}(hz:PZ [] Nv Z):
  Calls Tryz.prog 97 #[vi a,vi b,vi c] Nv fun e w'=>∃ d:Nat,∃ f:Option Addr,∃ g:Nat,e = .returned (.tuple #[vp d,vi 0])/\True/\Hp [] Nv w' [stb d 213 [vi r.yk.yr,vi r.yk.yl,vi r.yk.fT,vi r.yH,vi r.yy,vs f r.yn.length g],row (vs f r.yn.length g) 216 2 (r.yn.flatMap g8)]:=by
 unfold cn at h
 refine N1 func97 U U<|B2n U<|WC.b<|B3q U<|Lw false 2 10 (B:=(decide (a<1))||(decide (a>16))) (fun h=>(gQ h).symm) (fun _ i=>?_) ?_
 ·exact Q3q U<|Lx (gR i) U .all
 refine La U<|Lw false 2 14 (B:=((decide (a<1))||(decide (a>16)))||(decide (b<0))) (fun h=>(gQ h).symm) (fun _ j=>?_) ?_
 ·exact Q3q U<|Lx (gR j) U .all
 refine La U<|Lw false 2 18 (B:=(((decide (a<1))||(decide (a>16)))||(decide (b<0)))||(decide (b>1000))) (fun h=>(gQ h).symm) (fun _ k=>?_) ?_
 ·exact Q3q U<|Lx (gR k) U .all
 refine La U<|Lw false 2 22 (B:=((((decide (a<1))||(decide (a>16)))||(decide (b<0)))||(decide (b>1000)))||(decide (c<0))) (fun h=>(gQ h).symm) (fun _ m=>?_) ?_
 ·exact Q3q U<|Lx (gR m) U .all
 refine La U<|Lw false 2 26 (B:=(((((decide (a<1))||(decide (a>16)))||(decide (b<0)))||(decide (b>1000)))||(decide (c<0)))||(decide (c>1073741824))) (fun h=>(gQ h).symm) (fun _ n=>?_) ?_
 ·exact Q3q U<|Lx (gR n) U .all
 refine Q0n<|Lj h (fun o h=>?_)<|fun o h=>?_
 ·refine B2n U<|Nw<|Ll ?_
  cases h
 ·refine Nn<|B3q U<|Le 33 (wm (v:=(.agg #[vi a,vi b,vi c])) (Lq (l:=[.tmp 30,.tmp 31,.tmp 32]) (.r3 U U U) [0,1,2]) (fun _=>by kernel_rfl))<|Le 34 (wm (v:=(.agg #[vi a,vi b,vi c,vi 0,vi 0,vn])) (Lq (l:=[.tmp 33]) (.cons U .nil) [0]) (fun _=>by kernel_rfl)) (Lh 35 (wg (cs:=[vi a,vi b,vi c,vi 0,vi 0,vn])) fun p _=>Q2n U<|Nw<|WX.nilRow 216 2 ?_)
  exact oJ h▸Li results97 (.tmp U<|.tmp U .nil) fun w hw=>⟨p,none,0,qz,trivial,hw.sub (.s2 .h1 .here)⟩
def uW(b:zV)(j:List (List zb))(k:List yB)(c:List (z7×yx))(l:List yp)(m:List yh)(n:List yh)(a:zb):Option (List (z7×yx)):=
 qP (fun(f:List (z7×yx))=>some f) fun d=>if !wK c (⟨a.ya,a.fQ⟩:z7) then sK (fun(g:Int) (h:Int)=>chk (0<=a.fQ/\a.fQ<b.fK.length) ((cn ((nth b.fK a.fQ).yr) g h).bind fun i=>d (w4 c (⟨a.ya,a.fQ⟩:z7) i))) fun e=>if decide ((i64 (a.ya-(b.fM.length:Int)))>=0) then chk (0<=(i64 (a.ya-(b.fM.length:Int)))/\(i64 (a.ya-(b.fM.length:Int)))<b.fS.length) (e ((nth b.fS (i64 (a.ya-(b.fM.length:Int)))).yl) ((nth b.fS (i64 (a.ya-(b.fM.length:Int)))).fT)) else e 0 1073741824 else d c
theorem Xu(Z y O P Q R S T V W X Y aa ab ad ae af ag ah ai aj ak f d al am an ao ap aq c G H z I J K a r)(h:uW c G H z I J K a=some r){Nv}(hz:Pz [xU f (ga g7) Value.pointer (jG d),q7 z2r d] Nv Z)(aI:ZS Z 4 (gk Z) O P c.fM)(aJ:ZS Z 4 (fJ Z) Q R c.yf)(ar:ZS Z 4 (rq kT) S T c.fS)(av:ZS Z 4 (rq mM) V W c.fK)(aK:ZS Z 7 (f0 Z) X Y c.yg)(aL:ZS Z 5 (rq mb) aa ab c.fH)(aM:ZS Z 3 (fO Z) ad ae c.fU)(aN:ZS Z 4 (rq mc) af ag c.ye)(aO:ZS Z 1 (mN Z) ah ai G)(aP:ZS Z 3 (rq uo) aj ak H)(L:tz d=z)(aQ:ZS Z 7 (rq wC) al am I)(aR:ZS Z 3 (rq wd) an ao J)(aS:ZS Z 3 (rq wd) ap aq K)(m:ZC Z y [vs O c.fM.length P,vs Q c.yf.length R,vs S c.fS.length T,vs V c.fK.length W,vs X c.yg.length Y,vs aa c.fH.length ab,vs ad c.fU.length ae,vs af c.ye.length ag,vs ah G.length ai,vs aj H.length ak,.map (some f),vs al I.length am,vs an J.length ao,vs ap K.length aq])(ip:Ho Nv [xU f (ga g7) Value.pointer (jG d),q7 z2r d]):
  Calls Tryz.prog 59 #[vq y,.agg #[vi a.ya,vi a.fX,vi a.fQ]] Nv fun e w'=>∃ B:List (z7×((Nat×(Option Addr×Nat))×yx)),e = .returned (.pointer (xC (jG B) (⟨a.ya,a.fQ⟩:z7) (none:Option Addr)))/\(tz B=r)/\Hp (fps [xU f (ga g7) Value.pointer (jG d),q7 z2r d]) Nv w' [xU f (ga g7) Value.pointer (jG B),q7 z2r B]:=by
 unfold uW at h
 refine Ni func59 U ip U ?_
 let A:List Value:=[vi a.ya,vi a.fX,vi a.fQ];refine B0q<|Lh 3 (wg (cs:=A)) ?_
 intro N _
 refine Q1n U<|B0q<|Le 9 (xA gO)<|Le 10 (Nt xL .here)<|Le 11 (xA lJ)<|Le 12 (Nt xL .here)<|Le 13 (wm (v:=(.agg #[vi a.ya,vi a.fQ])) (Lq (l:=[.tmp 10,.tmp 12]) (.r2 U U) [0,1]) (fun _=>by kernel_rfl)) (Lh 5 (xW (cs:=[vi 0,vi 0]) zPH) fun s _=>Ln (xP zPI .here)<|Q0n ?_)
 obtain⟨aG,aw,h⟩:=wo h
 let D:List Value:=[vi a.ya,vi a.fQ];refine H0 (fun o n=>(aG o=some r)/\(tz n=o)) (fun o n=>[(0,vq y),(5,vp s)]) (fun o n=>[stb s 206 D,xU f (ga g7) Value.pointer (jG n),q7 z2r n]) ?_ ?_
 ·refine WC.b<|Lu nc []<|Lf 0 U q_m<|Lf 1 U w3<|Lf 2 U (xA Xn)<|Lg 3 U (xB zy8 U<|wA hz.pv m)<|Lg 4 U (xK zy9 (xM .here))<|Lg 5 U (ku (k:=(⟨a.ya,a.fQ⟩:z7)) (dflt:=(none:Option Addr)) zya underlying113 zFR .h2)<|Lf 6 U (Tk L underlying156 U U)<|Ny (by kernel_rfl)<|Lb<|Lj h (fun ax h=>?_)<|fun ax h=>?_
  ·refine B2n U<|jK2 h fun aH ay h=>H0 (fun p q=>(aH p q=some r)) (fun p q=>[(0,vq y),(3,vp N),(5,vp s),(6,vi p),(7,vi q)]) (fun p q=>[stb N 62 A,stb s 206 D,xU f (ga g7) Value.pointer (jG d),q7 z2r d]) ?_ ?_
   ·refine WC.b<|Lu nc []<|Lf 0 U (xA gO)<|Lg 1 U (Nt xL .h1)<|Lf 2 U q_m<|Lf 3 U w3<|Lf 4 U (xA cL)<|Lf 5 U (xA tk)<|Lg 6 U (xB z9o U<|wA hz.pv m)<|Lf 7 U (w9 underlying22)<|Lf 8 U sR<|Lf 9 U q_z<|Ny (by kernel_rfl)<|Lb<|B2n U<|Lj h (fun az h=>?_)<|fun az h=>?_
    ·refine cK h fun au h=>Lu nc []<|Lf 0 U q_m<|Lf 1 U w3<|Lf 2 U (xA cL)<|Lf 3 U (xA tn)<|Lg 4 U (xB zal U<|wA hz.pv m)<|Lf 5 U q_m<|Nf (j:=6) (dd:=38) (by kernel_rfl) z2B z2C (Z:=Z) (Pr:=(rq kT)) zc2 ar au ?_
     rintro aT aU aA aV rfl
     refine Lf 7 U (xA Ym)<|Lg 8 U (xB xL U<|wA hz.pv aA)<|Lf 9 U q_m<|Lf 10 U w3<|Lf 11 U (xA cL)<|Lf 12 U (xA tn)<|Lg 13 U (xB zal U<|wA hz.pv m)<|Lf 14 U q_m<|Nf (j:=15) (dd:=47) (by kernel_rfl) z2B z2C (Z:=Z) (Pr:=(rq kT)) zc2 ar au ?_
     rintro aW aX aB aY rfl
     refine Lf 16 U (xA dM)<|Lg 17 U (xB xL U<|wA hz.pv aB)<|Lf 18 U q_z<|Lf 19 U q_z<|Ny (by kernel_rfl) ?_
     let C:=(i64 (a.ya-(c.fM.length:Int)));exact Lp ⟨(nth c.fS C).yl,(nth c.fS C).fT⟩ h .q<|.s4 .h1 .here .here .here
    ·exact N0<|Lp ⟨0,1073741824⟩ h .q<|.s4 .h1 .here .here .here
   ·rintro p q h
    replace h:=(ay p q).symm.trans h
    refine cK h fun aC h=>bK h fun t aD h=>Lu (fun i=>[21].contains i) []<|Lf 0 U q_m<|Lf 1 U w3<|Lf 2 U (xA Xn)<|Lg 3 U (xB zy8 U<|wA hz.pv m)<|Lg 4 U (xK zy9 (xM .h1))<|Lf 5 U q_m<|Lf 6 U w3<|Lf 7 U (xA cL)<|Lf 8 U (xA lI)<|Lg 9 U (xB zjx U<|wA hz.pv m)<|Lf 10 U (xA lJ)<|Lg 11 U (Nt xL .here)<|Nf (j:=12) (dd:=63) (by kernel_rfl) z2B z2C (Z:=Z) (Pr:=(rq mM)) zqK av aC ?_
    rintro aZ a0 aE a1 rfl
    refine Lf 13 U (xA dL)<|Lg 14 U (xB xL U<|wA hz.pv aE)<|Lf 15 U q_m<|Lf 16 U q_m<|WD.call3 (i:=17) (dd:=68) U (by kernel_rfl) U U U (.inr U) (Ns call97) .nil (cc hz .nil fun w pz ho=>F8 _ _ _ _ _ aD pz ) ?_
    rintro u E F _
    exact Lf 18 U q_m<|Lf 19 U mv<|Lf 20 U mv<|WD.forced0 (i:=21) U (by kernel_rfl) (wT.of .nil) (mO (k:=(⟨a.ya,a.fQ⟩:z7)) (v:=(some ⟨u,0,none⟩:Option Addr)) zya underlying113 .h4)<|Dz (fun _ h=>Hp.GQ (els:=z2r) (k:=(⟨a.ya,a.fQ⟩:z7)) (b:=u) (g:=(E,F)) (x:=t) .h5 (.s2 .h1 .h1) h)<|Dz (M:=[xU f (ga g7) Value.pointer (jG<|w4 d (⟨a.ya,a.fQ⟩:z7) ((u,(E,F)),t)),q7 z2r (w4 d (⟨a.ya,a.fQ⟩:z7) ((u,(E,F)),t)),stb N 62 A,stb s 206 D]) (fun _ h=>Hp.Xk .h1 (VZ _ _ _ _ _).symm h)<|Ny (by kernel_rfl)<|Lp ⟨w4 z (⟨a.ya,a.fQ⟩:z7) t,w4 d (⟨a.ya,a.fQ⟩:z7) ((u,(E,F)),t)⟩ ⟨h,cG L _ _ _⟩ .q<|.s3 .h3 .here .here
  ·exact N0<|Lp ⟨z,d⟩ ⟨h,L⟩ .q<|.s3 .here .h1 .h1
 ·rintro o n ⟨h,aF⟩
  replace h:=(aw o).symm.trans h
  exact WC.b<|Lu nc []<|Lf 0 U q_m<|Lf 1 U w3<|Lf 2 U (xA Xn)<|Lg 3 U (xB zy8 U<|wA hz.pv m)<|Lg 4 U (xK zy9 (xM .here))<|Lg 5 U (ku (k:=(⟨a.ya,a.fQ⟩:z7)) (dflt:=(none:Option Addr)) zya underlying113 zFR .h1)<|Lf 6 U q_z<|Ny (by kernel_rfl)<|Lb<|Nw<|oJ h▸Li results59 (.tmp U .nil) fun w hw=>⟨n,w6,aF,hw.sub (.s2 .h1 .h1)⟩
def mK(a:yx):Option Bool:=
 some (decide (a.yk.yr=0))
theorem cV(Z b c d a r)(h:mK a=some r){Nv}(hz:PZ [] Nv Z)(f:ZS Z 2 (rq g8) c d a.yn)(e:ZC Z b [vi a.yk.yr,vi a.yk.yl,vi a.yk.fT,vi a.yH,vi a.yy,vs c a.yn.length d]):
  RC 98 #[vq b] Nv (.bool r) [] []:=by
 unfold mK at h
 exact L8 func98 U U<|B1n U<|B1q U<|Le 4 (J2 underlying156 U U)<|Q2q U<|Le 7 w3<|Le 8 (xA eX)<|Le 9 (xA Jr)<|Le 10 (xB xL U<|wA hz.pv e)<|La U<|La U<|La U<|WL.nil<|Lb<|Nw<|oJ h▸Nl results98
def mt(a:yj)(b:Int):Option Bool:=
 some (decide (a.yF<=b))
theorem YS(Z b a c r)(h:mt a c=some r){Nv}(hz:PZ [] Nv Z)(d:ZC Z b [vi c]):
  RC 100 #[.agg #[vi a.yo,vi a.yF],vq b] Nv (.bool r) [] []:=by
 unfold mt at h
 refine Lz func100 U U<|B0q (Lh 2 (wg (cs:=[vi a.yo,vi a.yF])) fun e _=>Q1n U<|B0q<|Le 4 (xA Js)<|Le 5 (Nt xL .here)<|Le 6 (xB xL U<|mG hz.pv d)<|Q2n U<|Nw ?_)
 exact oJ h▸Nl results100
def ww(b:List yj)(zb6:yj->Option Bool)(c:Option Int):Nat->Int->Option Int
 | 0,_=>none
 | d+1,a=>if decide (a<b.length) then chk (0<=a/\a<b.length) ((zb6 (⟨(nth b a).yo,(nth b a).yF⟩:yj)).bind fun e=>if e then some a else ww b zb6 c d (i64 (a+1))) else c
def vG(a:List yj)(zb6:yj->Option Bool):Option Int:=
 uB (some (-1)) fun b=>ww a zb6 b xR 0
theorem ra(Z d g zlH ztp b zb6 r)(h:vG b zb6=some r){Nv}(hz:PZ [] Nv Z)(j:ZS Z 2 (rq g8) d g b)(k:∀ args w,(callFunc zlH args).run Tryz.prog w = .ok (.enter zlH args) w)(m:∀ w:World,PZ [] w Z->∀(x0:yj) (r:Bool),zb6 x0=some r->Calls Tryz.prog zlH (([.agg #[vi x0.yo,vi x0.yF]]:List Value)++ztp).toArray w fun e w'=>e = .returned (.bool r)/\Hp [] w w' []):
  RC 128 #[vs d b.length g,.func (.func zlH) #[] (ztp).toArray] Nv (vi r) [] []:=by
 unfold vG at h
 refine Lz func128 U U<|B1n U<|jK0 h fun i n h=>Nd (i=some r) ([]) ([]) ?_ ?_
 ·refine B1q U<|Le 7 (w9 underlying211)<|Q1n U<|WC.block<|Ng (fun c a=>(ww b zb6 i c a=some r)) (fun c a=>[(0,vs d b.length g),(1,.func (.func zlH) #[] (ztp).toArray),(7,vi (b.length:Int)),(8,vi a)]) (fun c a=>[]) (fun c a=>c) ⟨xR,0⟩ h .q .nil ?_
  rintro(_|u) a h;·cases h
  rw[ww] at h
  refine B1n U<|WC.b<|Lj h (fun o h=>?_)<|fun o h=>?_
  ·refine Nn<|WC.b<|WC.block<|B2n U<|WC.b<|cK h fun p h=>bK h fun v q h=>D3q U<|L3 (dd:=14) (Z:=Z) (Pr:=(rq g8)) zdN j p ?_
   rintro x y s z rfl
   refine Le 15 (xK zm5 (qV hz.pv s))<|Lm 16 (qi (l:=[.tmp 15]) (f:=zlH) (caps:=ztp) k<|.cons U .nil) .nil (fun w hw=>m w (hz.now hw) (⟨(nth b a).yo,(nth b a).yF⟩:yj) v  q)<|Q0n<|Lj h (fun t h=>?_)<|fun t h=>?_
   ·exact B2n U<|Nw<|Ly<|Ll<|Ll<|Ly<|Ll<|oJ h▸Nl results128
   ·exact N0<|Lt<|Lb<|D2q U<|WL.nil<|Nx ⟨u,i64 (a+1)⟩ h (Nat.lt_succ_self _) .q .nil
  ·exact Nz<|Lo<|Lo<|Lv<|Lp () h .nil .nil
 ·rintro  h
  replace h:=n.symm.trans h
  exact B1n U<|Nw<|oJ h▸Nl results128
end Go.Proofs.YtcahmabkeaijdaaGreat
