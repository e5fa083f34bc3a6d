/- A part of this claim's proof: models of functions, walks, plain laws. No conditions. -/
import Derived.Test.YthjnhebofpebpaaGreatW36wg
set_option linter.all false
namespace Go.Proofs.YthjnhebofpebpaaGreat
open Go Go.RowKit Sep Tryz
set_option maxRecDepth 30000
set_option maxHeartbeats 4000000
def fW(b:yz)(c:yz)(d:Option Bool):Nat->Int->Option Bool
 | 0,_=>none
 | e+1,a=>if decide (a<b.fP.length) then chk (0<=a/\a<b.fP.length) (chk (0<=a/\a<c.fP.length) (if decide ((⟨(nth b.fP a).ya,(nth b.fP a).fQ,(nth b.fP a).yj,(nth b.fP a).fT⟩:yl)≠(⟨(nth c.fP a).ya,(nth c.fP a).fQ,(nth c.fP a).yj,(nth c.fP a).fT⟩:yl)) then some false else fW b c d e (i64 (a+1)))) else d
def fZ(b:yz)(c:yz)(d:Option Bool):Nat->Int->Option Bool
 | 0,_=>none
 | e+1,a=>if decide (a<b.yi.length) then chk (0<=a/\a<b.yi.length) (chk (0<=a/\a<c.yi.length) (if decide ((⟨(nth b.yi a).yJ,(nth b.yi a).ya,(nth b.yi a).yj⟩:zo)≠(⟨(nth c.yi a).yJ,(nth c.yi a).ya,(nth c.yi a).yj⟩:zo)) then some false else fZ b c d e (i64 (a+1)))) else d
def pr(a:yz)(b:yz):Option Bool:=
 if (decide ((a.fP.length:Int)≠(b.fP.length:Int)))||(decide ((a.yi.length:Int)≠(b.yi.length:Int))) then some false else mh (mh (some true) fun c=>fZ a b c xI 0) fun d=>fW a b d xI 0
theorem ai(Z:Zp)(m:Option Addr)(n:Nat)(o:Option Addr)(p:Nat)(q:Option Addr)(s:Nat)(t:Option Addr)(u:Nat)(c:yz)(d:yz)(r:Bool)(h:pr c d=some r)(w₀:World)(hz:PZ [] w₀ Z)(y:ZS Z 4 (rq wP) m n c.fP)(z:ZS Z 3 (rq vC) o p c.yi)(D:ZS Z 4 (rq wP) q s d.fP)(E:ZS Z 3 (rq vC) t u d.yi):
  RC 16 #[.agg #[vs m c.fP.length n,vs o c.yi.length p],.agg #[vs q d.fP.length s,vs t d.yi.length u]] w₀ (.bool r) [] []:=by
 unfold pr at h
 refine L0 func16 ntmps16 ?_
 let A:List Value:=[vs m c.fP.length n,vs o c.yi.length p];refine B0q<|Lg 2 (xP (cs:=A) U U) ?_
 intro g _
 let C:List Value:=[vs q d.fP.length s,vs t d.yi.length u];refine Lg 3 (xP (cs:=C) U U) ?_
 intro i _
 refine Q1n U<|WC.b<|B0q<|Le 7 (xk g9 U U)<|Le 8 (xl z7H U<|xu .h1 U)<|Le 9 (xQ underlying33 U)<|Le 10 (xk g9 U U)<|Le 11 (xl z7H U<|xu .here U)<|Le 12 (xQ underlying33 U)<|Q2q U<|Ly false 7 14 (B:=(decide ((c.fP.length:Int)≠(d.fP.length:Int)))||(decide ((c.yi.length:Int)≠(d.yi.length:Int)))) U U U U U U (fun h=>(uz h).symm) (fun _ F=>?_) ?_
 ·exact Le 15 (xk tK U U)<|Le 16 (xl zin U<|xu .h1 U)<|Le 17 (xQ underlying38 U)<|Le 18 (xk tK U U)<|Le 19 (xl zin U<|xu .here U)<|Le 20 (xQ underlying38 U)<|Q2q U<|Lz (uA F) U U .all
 refine Q0n<|Lj U h (fun G h=>?_)<|fun G h=>?_
 ·refine B1n U<|WC.ret<|Ll ?_
  obtain rfl:=oJ h
  exact Lh results16 (.tmp U .nil)<|fun w hw=>⟨xK U,hw.sub .nil⟩
 ·refine WC.skip<|Lb<|jK0 h fun v H h=>L9 (v=some r) ([(2,vp g),(3,vp i)]) ([stb g 40 A,stb i 40 C]) ?_ ?_
  ·refine B1n U<|WC.block<|Ka (fun(k:Nat) (e:Int)=>(fW c d v k e=some r)) (fun k e=>[(2,vp g),(3,vp i),(5,vi e)]) (fun k e=>[stb g 40 A,stb i 40 C]) (fun k e=>k) ⟨xI,0⟩ h (.q U) (.s2 .h1 .here) ?_
   rintro(_|W) e h;·cases h
   rw[fW] at h
   refine WC.b<|B1q U<|Le 24 (xk g9 U U)<|Le 25 (xl z7H U<|xu .here U)<|Le 26 (xQ underlying33 U)<|Q1n U<|Lj U h (fun I h=>?_)<|fun I h=>?_
   ·refine WC.skip<|Lb<|WC.b<|WC.block<|WC.b<|cK h fun J h=>cK h fun K h=>Lw nc [] U<|Lf 0 30 U (xk g9 U U)<|Li 1 31 U (xl z7H U<|xu .here U)<|Lf 2 32 U (q_m U)<|L8 (j:=3) (dd:=33) (by kernel_rfl) U z2J z2K U U (Z:=Z) (Pr:=(rq wP)) z8h U U y J ?_
    rintro Y aa L ab rfl
    refine Li 4 34 U (xq zc3 U (vY hz.pv L) U)<|Lf 5 35 U (xk g9 U U)<|Li 6 36 U (xl z7H U<|xu .h1 U)<|Lf 7 37 U (q_m U)<|L8 (j:=8) (dd:=38) (by kernel_rfl) U z2J z2K U U (Z:=Z) (Pr:=(rq wP)) z8h U U D K ?_
    rintro ad ae M af rfl
    refine Li 9 39 U (xq zc3 U (vY hz.pv M) U)<|Lf 10 40 U (l9 (enc:=wP) (a:=(⟨(nth c.fP e).ya,(nth c.fP e).fQ,(nth c.fP e).yj,(nth c.fP e).fT⟩:yl)) (b:=(⟨(nth d.fP e).ya,(nth d.fP e).fQ,(nth d.fP e).yj,(nth d.fP e).fT⟩:yl)) zJq U U)<|WD.done (by kernel_rfl)<|Lb<|Lj U h (fun N h=>?_)<|fun N h=>?_
    ·refine B1n U<|WC.ret<|Lv<|Ll<|Ll<|Lv<|Ll ?_
     obtain rfl:=oJ h
     exact Lh results16 (.tmp U .nil)<|fun w hw=>⟨xK U,hw.sub .nil⟩
    ·exact WC.skip<|Lu<|Lb<|D3q U<|WL.nil<|WX.round ⟨W,i64 (e+1)⟩ h (Nat.lt_succ_self _) (.q U)<|.a2
   ·exact WC.exit<|Ln<|Ln<|Lx<|Lp () h (.q U)<|.a2
  ·rintro  h
   replace h:=H.symm.trans h
   refine jK0 h fun x O h=>L9 (x=some r) ([]) ([]) ?_ ?_
   ·refine B1n U<|WC.block<|Ka (fun(l:Nat) (f:Int)=>(fZ c d x l f=some r)) (fun l f=>[(2,vp g),(3,vp i),(6,vi f)]) (fun l f=>[stb g 40 A,stb i 40 C]) (fun l f=>l) ⟨xI,0⟩ h (.q U) (.a2) ?_
    rintro(_|X) f h;·cases h
    rw[fZ] at h
    refine WC.b<|B1q U<|Le 42 (xk tK U U)<|Le 43 (xl zin U<|xu .here U)<|Le 44 (xQ underlying38 U)<|Q1n U<|Lj U h (fun P h=>?_)<|fun P h=>?_
    ·refine WC.skip<|Lb<|WC.b<|WC.block<|WC.b<|cK h fun Q h=>cK h fun R h=>Lw nc [] U<|Lf 0 48 U (xk tK U U)<|Li 1 49 U (xl zin U<|xu .here U)<|Lf 2 50 U (q_m U)<|L8 (j:=3) (dd:=51) (by kernel_rfl) U z2J z2K U U (Z:=Z) (Pr:=(rq vC)) zil U U z Q ?_
     rintro ag ah S aj rfl
     refine Li 4 52 U (xq zAT U (vY hz.pv S) U)<|Lf 5 53 U (xk tK U U)<|Li 6 54 U (xl zin U<|xu .h1 U)<|Lf 7 55 U (q_m U)<|L8 (j:=8) (dd:=56) (by kernel_rfl) U z2J z2K U U (Z:=Z) (Pr:=(rq vC)) zil U U E R ?_
     rintro ak al T am rfl
     refine Li 9 57 U (xq zAT U (vY hz.pv T) U)<|Lf 10 58 U (l9 (enc:=vC) (a:=(⟨(nth c.yi f).yJ,(nth c.yi f).ya,(nth c.yi f).yj⟩:zo)) (b:=(⟨(nth d.yi f).yJ,(nth d.yi f).ya,(nth d.yi f).yj⟩:zo)) zJr U U)<|WD.done (by kernel_rfl)<|Lb<|Lj U h (fun V h=>?_)<|fun V h=>?_
     ·refine B1n U<|WC.ret<|Lv<|Ll<|Ll<|Lv<|Ll ?_
      obtain rfl:=oJ h
      exact Lh results16 (.tmp U .nil)<|fun w hw=>⟨xK U,hw.sub .nil⟩
     ·exact WC.skip<|Lu<|Lb<|D3q U<|WL.nil<|WX.round ⟨X,i64 (f+1)⟩ h (Nat.lt_succ_self _) (.q U)<|.a2
    ·exact WC.exit<|Ln<|Ln<|Lx<|Lp () h .nil .nil
   ·rintro  h
    replace h:=O.symm.trans h
    refine B1n U<|WC.ret ?_
    obtain rfl:=oJ h
    exact Lh results16 (.tmp U .nil)<|fun w hw=>⟨xK U,hw.sub .nil⟩
def ma(b:List Int)(c:List Int)(d:Option Bool):Nat->Int->Option Bool
 | 0,_=>none
 | e+1,a=>if decide (a<b.length) then chk (0<=a/\a<b.length) (chk (0<=a/\a<c.length) (if decide ((nth b a)≠(nth c a)) then some false else ma b c d e (i64 (a+1)))) else d
def pt(a:List Int)(b:List Int):Option Bool:=
 if decide ((a.length:Int)≠(b.length:Int)) then some false else mh (some true) fun c=>ma a b c xI 0
theorem aj(Z:Zp)(e:Option Addr)(f:Nat)(g:Option Addr)(i:Nat)(b:List Int)(c:List Int)(r:Bool)(h:pt b c=some r)(w₀:World)(hz:PZ [] w₀ Z)(l:ZS Z 1 (rq e3) e f b)(m:ZS Z 1 (rq e3) g i c):
  RC 17 #[vs e b.length f,vs g c.length i] w₀ (.bool r) [] []:=by
 unfold pt at h
 refine L0 func17 ntmps17 ?_
 refine B1n U<|WC.b<|B1q U<|Le 7 (xQ underlying50 U)<|La U<|Le 9 (xQ underlying50 U)<|Q1n U<|Lj U h (fun n h=>?_)<|fun n h=>?_
 ·refine B1n U<|WC.ret<|Ll ?_
  obtain rfl:=oJ h
  exact Lh results17 (.tmp U .nil)<|fun w hw=>⟨xK U,hw.sub .nil⟩
 ·refine WC.skip<|Lb<|jK0 h fun k o h=>L9 (k=some r) ([]) ([]) ?_ ?_
  ·refine B1q U<|Le 12 (xQ underlying50 U)<|Q1n U<|WC.block<|Ka (fun(d:Nat) (a:Int)=>(ma b c k d a=some r)) (fun d a=>[(0,vs e b.length f),(1,vs g c.length i),(12,vi (b.length:Int)),(13,vi a)]) (fun d a=>[]) (fun d a=>d) ⟨xI,0⟩ h (.q U) .nil ?_
   rintro(_|x) a h;·cases h
   rw[ma] at h
   refine B1n U<|WC.b<|Lj U h (fun p h=>?_)<|fun p h=>?_
   ·refine WC.skip<|Lb<|WC.b<|WC.block<|B2n U<|WC.b<|cK h fun q h=>cK h fun s h=>Lw nc [] U<|Lf 0 16 U (q_m U)<|Lf 1 17 U (q_m U)<|L8 (j:=2) (dd:=18) (by kernel_rfl) U z2J z2K U U (Z:=Z) (Pr:=(rq e3)) z8g U U l q ?_
    rintro y z t A rfl
    refine Li 3 19 U (xl xB U<|jS hz.pv t U)<|Lf 4 20 U (q_m U)<|Lf 5 21 U (q_m U)<|L8 (j:=6) (dd:=22) (by kernel_rfl) U z2J z2K U U (Z:=Z) (Pr:=(rq e3)) z8g U U m s ?_
    rintro B C u D rfl
    refine Li 7 23 U (xl xB U<|jS hz.pv u U)<|Lf 8 24 U (cz U U)<|WD.done (by kernel_rfl)<|Lb<|Lj U h (fun v h=>?_)<|fun v h=>?_
    ·refine B1n U<|WC.ret<|Lv<|Ll<|Ll<|Lv<|Ll ?_
     obtain rfl:=oJ h
     exact Lh results17 (.tmp U .nil)<|fun w hw=>⟨xK U,hw.sub .nil⟩
    ·exact WC.skip<|Lu<|Lb<|D2q U<|WL.nil<|WX.round ⟨x,i64 (a+1)⟩ h (Nat.lt_succ_self _) (.q U) .nil
   ·exact WC.exit<|Ln<|Ln<|Lx<|Lp () h .nil .nil
  ·rintro  h
   replace h:=o.symm.trans h
   refine B1n U<|WC.ret ?_
   obtain rfl:=oJ h
   exact Lh results17 (.tmp U .nil)<|fun w hw=>⟨xK U,hw.sub .nil⟩
def fk  : Option Bool:=
 (gv).bind fun a=>(ww a.1 0 a.2).bind fun b=>(qZ a.1 a.2 b.1.fP).bind fun c=>(if decide (b.2=0) then(pr b.1 (⟨([(⟨0,0,40,80⟩:yl),(⟨2,1,56,80⟩:yl)]:List yl),([(⟨0,1,96⟩:zo)]:List zo)⟩:yz)).bind fun d=>some d else some false).bind fun e=>(if e&&(decide ((c.length:Int)=1)) then chk ((0:Int)<=0/\0<(c.length:Int)) ((pt (nth c 0) ([0,39]:List Int)).bind fun f=>some f) else some false).bind fun g=>some g
theorem ry(Z:Zp)(r:Bool)(h:fk=some r)(w₀:World)(hz:PZ [] w₀ Z):
  RC 11 #[] w₀ (.bool r) [] []:=by
 unfold fk at h
 refine Calls.on0 func11 ntmps11 ?_
 refine WC.pool<|B1n U<|WC.b<|bK h fun i E h=>Ld<|WL.d5 (dd:=8) U U U (zf call19 .nil) .nil (jH hz .nil .here fun w pz ho=>pW _ _ E w pz ) ?_
 rintro aa ad ae af ag ah ak al am an ao ap aq ar au av aw ax ay ⟨p,q,s,t,u,x,y⟩
 refine WL.merge .here .h5<|Q2q U<|La U (Lg 1 (xC (cs:=[vn,vn,vn,vn,vn,vn,vn,vn]) zlK U) fun az _=>Lk U U (xx zlM U U U .here U U U)<|Q1n U<|WC.b ?_)
 refine bK h fun W F h=>Ld<|Le 12 (xq z2j U (xt .here) U)<|La U<|WL.tI (dd:=14) U U U (zf call12<|.r3 U U U) .nil (ta hz .nil .h1 (.s5 .h2 .h2 .h2 .h2 .h2) fun w pz ho la=>jD _ _ _ _ _ _ _ _ _ _ _ _ _ _ _ _ _ _ _ _ _ _ _ F w pz (ZA.row (la _ (.head _) _) ((p.weak<|fun _ _ h=>w3 (xm.xH _ _ _) h).weak (fun _ _ h=>w3 zl h)) ⟨w,pz.1⟩) ((((q.mono<|xm.xH _ _ _).weak (fun _ _ h=>w9 (xm.xH _ _ _) h)).mono zl).weak (fun _ _ h=>w9 zl h)) (ZA.row (la _ (.tail _<|.head _) _) (RR.flat (enc:=qJ) (fun _=>U) _) ⟨w,pz.1⟩) (ZA.row (la _ (.tail _<|.tail _<|.head _) _) (RR.flat (enc:=qt) (fun _=>U) _) ⟨w,pz.1⟩) (ZA.row (la _ (.tail _<|.tail _<|.tail _<|.head _) _) ((s.weak<|fun _ _ h=>wh (xm.xH _ _ _) h).weak (fun _ _ h=>wh zl h)) ⟨w,pz.1⟩) ((t.mono<|xm.xH _ _ _).mono zl) ((((u.mono<|xm.xH _ _ _).weak (fun _ _ h=>wa (xm.xH _ _ _) h)).mono zl).weak (fun _ _ h=>wa zl h)) ((x.mono<|xm.xH _ _ _).mono zl)<|ZA.row (la _ (.tail _<|.tail _<|.tail _<|.tail _<|.head _) _) ((y.weak<|fun _ _ h=>wd (xm.xH _ _ _) h).weak (fun _ _ h=>wd zl h)) ⟨w,pz.1⟩) ?_
 rintro aA aB aC aD _
 refine Q2q U<|La U (Lg 3 (xC (cs:=[vn,vn]) z6o U) fun aE _=>Lk U U (xx z6q U U U .here U U U)<|Q1n U<|B0q<|Le 17 (xU (v:=(.agg #[vi 0,vi 0,vi 40,vi 80])) (Lq (l:=[.const (vi 0),.const (vi 0),.const (vi 40),.const (vi 80)]) (.r4 U U U U) [0,1,2,3]) (fun _=>by kernel_rfl))<|Le 18 (xU (v:=(.agg #[vi 2,vi 1,vi 56,vi 80])) (Lq (l:=[.const (vi 2),.const (vi 1),.const (vi 56),.const (vi 80)]) (.r4 U U U U) [0,1,2,3]) (fun _=>by kernel_rfl)) (Lg 19 (xV (cs:=([(⟨0,0,40,80⟩:yl),(⟨2,1,56,80⟩:yl)]:List yl).flatMap wP) z8h (Lq (l:=[.tmp 17,.tmp 18]) (.r2 U U) [0,1]) (fun _=>by kernel_rfl) U (by unfold maxLen;omega)) fun G _=>Le 20 (xU (v:=(.agg #[vi 0,vi 1,vi 96])) (Lq (l:=[.const (vi 0),.const (vi 1),.const (vi 96)]) (.r3 U U U) [0,1,2]) (fun _=>by kernel_rfl)) (Lg 21 (xV (cs:=([(⟨0,1,96⟩:zo)]:List zo).flatMap vC) zil (Lq (l:=[.tmp 20]) (.cons U .nil) [0]) (fun _=>by kernel_rfl) U (by unfold maxLen;omega)) fun H _=>Le 22 (xU (v:=(.agg #[vs (some ⟨G,0,none⟩) (([(⟨0,0,40,80⟩:yl),(⟨2,1,56,80⟩:yl)]:List yl).length) 2,vs (some ⟨H,0,none⟩) (([(⟨0,1,96⟩:zo)]:List zo).length) 1])) (Lq (l:=[.tmp 19,.tmp 21]) (.r2 U U) [0,1]) (fun _=>by kernel_rfl)) (Lg 5 (xC (cs:=[vn,vn]) z6o U) fun aF _=>Lk U U (xx z6q U U U .here U U U)<|Q0n<|WC.b ?_))))
 refine bK h fun X I h=>Ld<|Le 23 (xq z2j U (xt .h6) U)<|La U<|Le 25 (xk g9 U U)<|Le 26 (xl z7H U<|xu .h3 U)<|WL.freezeS (ls:=i.1.fM) (.there .h7) .h7 hz (p.weak<|fun _ _ h=>w3 (xm.xH _ _ _) h) ?_
 intro aG f m
 replace m:=m.weak (fun _ _ h=>w3 f h)
 refine WL.freezeS (ls:=i.1.fS) (.there .h7) .here hz (RR.flat (enc:=qJ) (fun _=>U) _) fun aH e J=>WL.freezeS (ls:=i.1.fK) (.there .h7) .here hz (RR.flat (enc:=qt) (fun _=>U) _) fun aI d K=>WL.freezeS (ls:=i.1.yb) (.there .h7) .here hz (s.weak<|fun _ _ h=>wh ((xm.xH _ _ _).trans (f.trans<|e.trans d)) h) ?_
 intro aJ c n
 replace n:=n.weak (fun _ _ h=>wh c h)
 refine WL.freezeS (ls:=i.2) (.there .h7) .here hz (y.weak<|fun _ _ h=>wd ((xm.xH _ _ _).trans (f.trans<|e.trans<|d.trans c)) h) ?_
 intro aK b o
 replace o:=o.weak (fun _ _ h=>wd b h)
 refine WL.freezeS (ls:=W.1.fP) .h5 .here hz (RR.flat (enc:=wP) (fun _=>U) _) fun L a z=>WL.tI (dd:=27) U U U (zf call14<|.r3 U U U) .nil (jH hz .nil .here fun w pz ho=>rj _ _ _ _ _ _ _ _ _ _ _ _ _ _ _ _ _ _ _ _ _ _ _ _ _ I w pz ((m.mono<|e.trans<|d.trans<|c.trans<|b.trans a).weak (fun _ _ h=>w3 (e.trans<|d.trans<|c.trans<|b.trans a) h)) ((q.mono<|(xm.xH _ _ _).trans (f.trans<|e.trans<|d.trans<|c.trans<|b.trans a)).weak (fun _ _ h=>w9 ((xm.xH _ _ _).trans (f.trans<|e.trans<|d.trans<|c.trans<|b.trans a)) h)) (J.mono<|d.trans<|c.trans<|b.trans a) (K.mono<|c.trans<|b.trans a) ((n.mono<|b.trans a).weak (fun _ _ h=>wh (b.trans a) h)) (t.mono<|(xm.xH _ _ _).trans (f.trans<|e.trans<|d.trans<|c.trans<|b.trans a)) ((u.mono<|(xm.xH _ _ _).trans (f.trans<|e.trans<|d.trans<|c.trans<|b.trans a)).weak (fun _ _ h=>wa ((xm.xH _ _ _).trans (f.trans<|e.trans<|d.trans<|c.trans<|b.trans a)) h)) (x.mono<|(xm.xH _ _ _).trans (f.trans<|e.trans<|d.trans<|c.trans<|b.trans a)) ((o.mono a).weak (fun _ _ h=>wd a h)) z) ?_
 rintro M aL aM aN N
 refine WL.merge .here .h1<|Q1n U<|WC.b<|bK h fun A C h=>bK h fun Y D h=>D3q U<|Ly true 3 30 (B:=A) U U U U U U (fun h=>(oJ<|qr C h).symm) (fun _ O=>?_) ?_
 ·have j:=qq C O
  obtain⟨aV,P,j⟩:=ze j
  replace j:=oJ j
  exact Le 31 (xq z8i U (xt .h5) U)<|Le 32 (xq z8i U (xt .h2) U)<|Lm 33 (zf call16<|.r2 U U) .nil (ta hz .nil .here (.s3 .h6 .h4 .h3) fun w pz ho la=>ai _ _ _ _ _ _ _ _ _ _ _ _ P w pz ((z.mono<|zl.trans (xm.xH _ _ _)).mono zl) (ZA.row (la _ (.head _) _) (RR.flat (enc:=vC) (fun _=>U) _) ⟨w,pz.1⟩) (ZA.row (la _ (.tail _<|.head _) _) (RR.flat (enc:=wP) (fun _=>U) _) ⟨w,pz.1⟩)<|ZA.row (la _ (.tail _<|.tail _<|.head _) _) (RR.flat (enc:=vC) (fun _=>U) _) ⟨w,pz.1⟩)<|La U<|Lz j U U .all
 refine La U<|Ly true 3 35 (B:=A&&(decide ((X.length:Int)=1))) U U U U U U (fun h=>(kb h).symm) (fun _ Q=>?_) ?_
 ·exact La U<|Le 37 (xQ underlying46 U)<|Q2q U<|Lz (kc Q) U U .all
 refine La U<|Ly true 5 40 (B:=Y) U U U U U U (fun h=>(oJ<|qr D h).symm) (fun _ R=>?_) ?_
 ·have g:=qq D R
  obtain⟨k,g⟩:=xv g
  obtain⟨aW,S,g⟩:=ze g
  replace g:=oJ g
  refine La U<|Kf (fun w hw=>Hp.vJ .h1 hw (by intro il;have:=k;rw[il] at this;omega)) ?_
  rintro⟨aO,rfl⟩
  obtain⟨aP,aQ,aR,T,⟨aS,aT,rfl,V⟩⟩:=RR.elem (Pr:=(iO (Z++(L++M)))) (N.weak (fun _ _ h=>ab (xm.xH _ _ _) h)) k.1 k.2
  refine Le 42 (w7 zt0 U U k.1 k.2 qQ)<|Le 43 (xl zJs U<|uy .h1<|e7 T 0 _ U) (Lg 44 (xV (cs:=([0,39]:List Int).flatMap e3) z8g (Lq (l:=[.const (vi 0),.const (vi 39)]) (.r2 U U) [0,1]) (fun _=>by kernel_rfl) U (by unfold maxLen;omega)) fun aU _=>Lm 45 (zf call17<|.r2 U U) .nil (ta hz .nil .h1 (.cons .here .nil) fun w pz ho la=>aj _ _ _ _ _ _ _ _ S w pz (V.mono<|zl)<|ZA.row (la _ (.head _) _) (RR.flat (enc:=e3) (fun _=>U) _) ⟨w,pz.1⟩)<|La U ?_)
  exact Lz g U U<|.s8 .h1 .h1 .h1 .h1 .h1 .h1 .h1 .h1
 refine Q1n U<|WC.ret ?_
 obtain rfl:=oJ h
 exact Lh results11 (.tmp U .nil)<|fun w hw=>⟨xK U,hw.sub .nil⟩
end Go.Proofs.YthjnhebofpebpaaGreat
