/- A part of this claim's proof: models of functions, walks, plain laws. No conditions. -/
import Derived.Test.YthjnhebofpebpaaGreatW36g
set_option linter.all false
namespace Go.Proofs.YthjnhebofpebpaaGreat
open Go Go.RowKit Sep Tryz
set_option maxRecDepth 30000
set_option maxHeartbeats 4000000
def gT(b:yw)(c:yw)(d:Option Bool):Nat->Int->Option Bool
 | 0,_=>none
 | e+1,a=>if decide (a<b.fP.length) then chk (0<=a/\a<b.fP.length) (chk (0<=a/\a<c.fP.length) (if decide ((⟨(nth b.fP a).ya,(nth b.fP a).fQ,(nth b.fP a).yf,(nth b.fP a).fT⟩:ye)≠(⟨(nth c.fP a).ya,(nth c.fP a).fQ,(nth c.fP a).yf,(nth c.fP a).fT⟩:ye)) then some false else gT b c d e (i64 (a+1)))) else d
def gU(b:yw)(c:yw)(d:Option Bool):Nat->Int->Option Bool
 | 0,_=>none
 | e+1,a=>if decide (a<b.ys.length) then chk (0<=a/\a<b.ys.length) (chk (0<=a/\a<c.ys.length) (if decide ((⟨(nth b.ys a).yL,(nth b.ys a).ya,(nth b.ys a).yf⟩:zf)≠(⟨(nth c.ys a).yL,(nth c.ys a).ya,(nth c.ys a).yf⟩:zf)) then some false else gU b c d e (i64 (a+1)))) else d
def uS(a:yw)(b:yw):Option Bool:=
 if (decide ((a.fP.length:Int)≠(b.fP.length:Int)))||(decide ((a.ys.length:Int)≠(b.ys.length:Int))) then some false else g8 (g8 (some true) fun c=>gU a b c xC 0) fun d=>gT a b d xC 0
theorem dC(Z:Zp)(m:Option Addr)(n:Nat)(o:Option Addr)(p:Nat)(q:Option Addr)(s:Nat)(t:Option Addr)(u:Nat)(c:yw)(d:yw)(r:Bool)(h:uS c d=some r)(w₀:World)(hz:PZ [] w₀ Z)(y:ZS Z 4 (rq xY) m n c.fP)(z:ZS Z 3 (rq jI) o p c.ys)(D:ZS Z 4 (rq xY) q s d.fP)(E:ZS Z 3 (rq jI) t u d.ys):
  RC 16 #[.agg #[vs m c.fP.length n,vs o c.ys.length p],.agg #[vs q d.fP.length s,vs t d.ys.length u]] w₀ (.bool r) [] []:=by
 unfold uS at h
 refine L3 func16 ntmps16 ?_
 let A:List Value:=[vs m c.fP.length n,vs o c.ys.length p];refine B0q<|Lg 2 (xO (cs:=A) U U) ?_
 intro g _
 let C:List Value:=[vs q d.fP.length s,vs t d.ys.length u];refine Lg 3 (xO (cs:=C) U U) ?_
 intro i _
 refine Q1n U<|WC.b<|B0q<|Le 7 (xk kB U U)<|Le 8 (xl z64 U<|xt .h1 U)<|Le 9 (xK underlying33 U)<|Le 10 (xk kB U U)<|Le 11 (xl z64 U<|xt .here U)<|Le 12 (xK underlying33 U)<|Q2q U<|Lx false 7 14 (B:=(decide ((c.fP.length:Int)≠(d.fP.length:Int)))||(decide ((c.ys.length:Int)≠(d.ys.length:Int)))) U U U U U U (fun h=>(kx h).symm) (fun _ F=>?_) ?_
 ·exact Le 15 (xk rD U U)<|Le 16 (xl ztn U<|xt .h1 U)<|Le 17 (xK underlying38 U)<|Le 18 (xk rD U U)<|Le 19 (xl ztn U<|xt .here U)<|Le 20 (xK underlying38 U)<|Q2q U<|Ly (ky F) U U .all
 refine Q0n<|Lk U h (fun G h=>?_)<|fun G h=>?_
 ·refine B1n U<|WC.ret<|Ll ?_
  obtain rfl:=oJ h
  exact Li results16 (.tmp U .nil)<|fun w hw=>⟨xJ U,hw.sub .nil⟩
 ·refine WC.skip<|Lb<|jK0 h fun v H h=>L7 (v=some r) ([(2,vp g),(3,vp i)]) ([stb g 40 A,stb i 40 C]) ?_ ?_
  ·refine B1n U<|WC.block<|L6 (fun(k:Nat) (e:Int)=>(gT c d v k e=some r)) (fun k e=>[(2,vp g),(3,vp i),(5,vi e)]) (fun k e=>[stb g 40 A,stb i 40 C]) (fun k e=>k) ⟨xC,0⟩ h (.q U) (.s2 .h1 .here) ?_
   rintro(_|W) e h;·cases h
   rw[gT] at h
   refine WC.b<|B1q U<|Le 24 (xk kB U U)<|Le 25 (xl z64 U<|xt .here U)<|Le 26 (xK underlying33 U)<|Q1n U<|Lk U h (fun I h=>?_)<|fun I h=>?_
   ·refine WC.skip<|Lb<|WC.b<|WC.block<|WC.b<|cK h fun J h=>cK h fun K h=>Lz nc [] U<|Lf 0 30 U (xk kB U U)<|Lh 1 31 U (xl z64 U<|xt .here U)<|Lf 2 32 U (q_m U)<|L2 (j:=3) (dd:=33) (by kernel_rfl) U zO zP U U (Z:=Z) (Pr:=(rq xY)) z1r U U y J ?_
    rintro Y aa L ab rfl
    refine Lh 4 34 U (xw z5F U (vQ hz.pv L) U)<|Lf 5 35 U (xk kB U U)<|Lh 6 36 U (xl z64 U<|xt .h1 U)<|Lf 7 37 U (q_m U)<|L2 (j:=8) (dd:=38) (by kernel_rfl) U zO zP U U (Z:=Z) (Pr:=(rq xY)) z1r U U D K ?_
    rintro ad ae M af rfl
    refine Lh 9 39 U (xw z5F U (vQ hz.pv M) U)<|Lf 10 40 U (cF (enc:=xY) (a:=(⟨(nth c.fP e).ya,(nth c.fP e).fQ,(nth c.fP e).yf,(nth c.fP e).fT⟩:ye)) (b:=(⟨(nth d.fP e).ya,(nth d.fP e).fQ,(nth d.fP e).yf,(nth d.fP e).fT⟩:ye)) zWD U U)<|WD.done (by kernel_rfl)<|Lb<|Lk U h (fun N h=>?_)<|fun N h=>?_
    ·refine B1n U<|WC.ret<|Lu<|Ll<|Ll<|Lu<|Ll ?_
     obtain rfl:=oJ h
     exact Li results16 (.tmp U .nil)<|fun w hw=>⟨xJ U,hw.sub .nil⟩
    ·exact WC.skip<|Lt<|Lb<|D3q U<|WL.nil<|WX.round ⟨W,i64 (e+1)⟩ h (Nat.lt_succ_self _) (.q U)<|.a2
   ·exact WC.exit<|Lm<|Lm<|Lv<|Ln () h (.q U)<|.a2
  ·rintro  h
   replace h:=H.symm.trans h
   refine jK0 h fun x O h=>L7 (x=some r) ([]) ([]) ?_ ?_
   ·refine B1n U<|WC.block<|L6 (fun(l:Nat) (f:Int)=>(gU c d x l f=some r)) (fun l f=>[(2,vp g),(3,vp i),(6,vi f)]) (fun l f=>[stb g 40 A,stb i 40 C]) (fun l f=>l) ⟨xC,0⟩ h (.q U) (.a2) ?_
    rintro(_|X) f h;·cases h
    rw[gU] at h
    refine WC.b<|B1q U<|Le 42 (xk rD U U)<|Le 43 (xl ztn U<|xt .here U)<|Le 44 (xK underlying38 U)<|Q1n U<|Lk U h (fun P h=>?_)<|fun P h=>?_
    ·refine WC.skip<|Lb<|WC.b<|WC.block<|WC.b<|cK h fun Q h=>cK h fun R h=>Lz nc [] U<|Lf 0 48 U (xk rD U U)<|Lh 1 49 U (xl ztn U<|xt .here U)<|Lf 2 50 U (q_m U)<|L2 (j:=3) (dd:=51) (by kernel_rfl) U zO zP U U (Z:=Z) (Pr:=(rq jI)) zja U U z Q ?_
     rintro ag ah S ai rfl
     refine Lh 4 52 U (xw zMI U (vQ hz.pv S) U)<|Lf 5 53 U (xk rD U U)<|Lh 6 54 U (xl ztn U<|xt .h1 U)<|Lf 7 55 U (q_m U)<|L2 (j:=8) (dd:=56) (by kernel_rfl) U zO zP U U (Z:=Z) (Pr:=(rq jI)) zja U U E R ?_
     rintro aj ak T al rfl
     refine Lh 9 57 U (xw zMI U (vQ hz.pv T) U)<|Lf 10 58 U (cF (enc:=jI) (a:=(⟨(nth c.ys f).yL,(nth c.ys f).ya,(nth c.ys f).yf⟩:zf)) (b:=(⟨(nth d.ys f).yL,(nth d.ys f).ya,(nth d.ys f).yf⟩:zf)) zWE U U)<|WD.done (by kernel_rfl)<|Lb<|Lk U h (fun V h=>?_)<|fun V h=>?_
     ·refine B1n U<|WC.ret<|Lu<|Ll<|Ll<|Lu<|Ll ?_
      obtain rfl:=oJ h
      exact Li results16 (.tmp U .nil)<|fun w hw=>⟨xJ U,hw.sub .nil⟩
     ·exact WC.skip<|Lt<|Lb<|D3q U<|WL.nil<|WX.round ⟨X,i64 (f+1)⟩ h (Nat.lt_succ_self _) (.q U)<|.a2
    ·exact WC.exit<|Lm<|Lm<|Lv<|Ln () h .nil .nil
   ·rintro  h
    replace h:=O.symm.trans h
    refine B1n U<|WC.ret ?_
    obtain rfl:=oJ h
    exact Li results16 (.tmp U .nil)<|fun w hw=>⟨xJ U,hw.sub .nil⟩
def gV(b:List Int)(c:List Int)(d:Option Bool):Nat->Int->Option Bool
 | 0,_=>none
 | e+1,a=>if decide (a<b.length) then chk (0<=a/\a<b.length) (chk (0<=a/\a<c.length) (if decide ((nth b a)≠(nth c a)) then some false else gV b c d e (i64 (a+1)))) else d
def uT(a:List Int)(b:List Int):Option Bool:=
 if decide ((a.length:Int)≠(b.length:Int)) then some false else g8 (some true) fun c=>gV a b c xC 0
theorem dE(Z:Zp)(e:Option Addr)(f:Nat)(g:Option Addr)(i:Nat)(b:List Int)(c:List Int)(r:Bool)(h:uT b c=some r)(w₀:World)(hz:PZ [] w₀ Z)(l:ZS Z 1 (rq e3) e f b)(m:ZS Z 1 (rq e3) g i c):
  RC 17 #[vs e b.length f,vs g c.length i] w₀ (.bool r) [] []:=by
 unfold uT at h
 refine L3 func17 ntmps17 ?_
 refine B1n U<|WC.b<|B1q U<|Le 7 (xK underlying50 U)<|La U<|Le 9 (xK underlying50 U)<|Q1n U<|Lk U h (fun n h=>?_)<|fun n h=>?_
 ·refine B1n U<|WC.ret<|Ll ?_
  obtain rfl:=oJ h
  exact Li results17 (.tmp U .nil)<|fun w hw=>⟨xJ U,hw.sub .nil⟩
 ·refine WC.skip<|Lb<|jK0 h fun k o h=>L7 (k=some r) ([]) ([]) ?_ ?_
  ·refine B1q U<|Le 12 (xK underlying50 U)<|Q1n U<|WC.block<|L6 (fun(d:Nat) (a:Int)=>(gV b c k d a=some r)) (fun d a=>[(0,vs e b.length f),(1,vs g c.length i),(12,vi (b.length:Int)),(13,vi a)]) (fun d a=>[]) (fun d a=>d) ⟨xC,0⟩ h (.q U) .nil ?_
   rintro(_|x) a h;·cases h
   rw[gV] at h
   refine B1n U<|WC.b<|Lk U h (fun p h=>?_)<|fun p h=>?_
   ·refine WC.skip<|Lb<|WC.b<|WC.block<|B2n U<|WC.b<|cK h fun q h=>cK h fun s h=>Lz nc [] U<|Lf 0 16 U (q_m U)<|Lf 1 17 U (q_m U)<|L2 (j:=2) (dd:=18) (by kernel_rfl) U zO zP U U (Z:=Z) (Pr:=(rq e3)) z7W U U l q ?_
    rintro y z t A rfl
    refine Lh 3 19 U (xl xu U<|q9 hz.pv t U)<|Lf 4 20 U (q_m U)<|Lf 5 21 U (q_m U)<|L2 (j:=6) (dd:=22) (by kernel_rfl) U zO zP U U (Z:=Z) (Pr:=(rq e3)) z7W U U m s ?_
    rintro B C u D rfl
    refine Lh 7 23 U (xl xu U<|q9 hz.pv u U)<|Lf 8 24 U (eh U U)<|WD.done (by kernel_rfl)<|Lb<|Lk U h (fun v h=>?_)<|fun v h=>?_
    ·refine B1n U<|WC.ret<|Lu<|Ll<|Ll<|Lu<|Ll ?_
     obtain rfl:=oJ h
     exact Li results17 (.tmp U .nil)<|fun w hw=>⟨xJ U,hw.sub .nil⟩
    ·exact WC.skip<|Lt<|Lb<|D2q U<|WL.nil<|WX.round ⟨x,i64 (a+1)⟩ h (Nat.lt_succ_self _) (.q U) .nil
   ·exact WC.exit<|Lm<|Lm<|Lv<|Ln () h .nil .nil
  ·rintro  h
   replace h:=o.symm.trans h
   refine B1n U<|WC.ret ?_
   obtain rfl:=oJ h
   exact Li results17 (.tmp U .nil)<|fun w hw=>⟨xJ U,hw.sub .nil⟩
def mZ  : Option Bool:=
 (rT).bind fun a=>(gG a.1 0 a.2).bind fun b=>(j5 a.1 a.2 b.1.fP).bind fun c=>(if decide (b.2=0) then(uS b.1 (⟨([(⟨0,0,40,80⟩:ye),(⟨2,1,56,80⟩:ye)]:List ye),([(⟨0,1,96⟩:zf)]:List zf)⟩:yw)).bind fun d=>some d else some false).bind fun e=>(if e&&(decide ((c.length:Int)=1)) then chk ((0:Int)<=0/\0<(c.length:Int)) ((uT (nth c 0) ([0,39]:List Int)).bind fun f=>some f) else some false).bind fun g=>some g
theorem oy(Z:Zp)(r:Bool)(h:mZ=some r)(w₀:World)(hz:PZ [] w₀ Z):
  RC 11 #[] w₀ (.bool r) [] []:=by
 unfold mZ at h
 refine Calls.on0 func11 ntmps11 ?_
 refine WC.pool<|B1n U<|WC.b<|bK h fun i E h=>Ld<|WL.Qf (dd:=8) U U U (zb call19 .nil) .nil (jH hz .nil .here fun w pz ho=>ag _ _ E w pz ) ?_
 rintro aa ab ad ae af ah ai aj ak al am an ao ap aq ar au av aw ax ay az ⟨p,q,s,t,u,x,y⟩
 refine WL.merge .here .h5<|Q2q U<|La U (Lg 1 (xG (cs:=[vn,vn,vn,vn,vn,vn,vn,vn]) zBW U) fun aA _=>Lo U U (xz zBY U U U .here U U U)<|Q1n U<|WC.b ?_)
 refine bK h fun W F h=>Ld<|Le 12 (xw z1j U (xy .here) U)<|La U<|WL.rC (dd:=14) U U U (zb call12<|.r3 U U U) .nil (py hz .nil .h1 (.s5 .h2 .h2 .h2 .h2 .h2) fun w pz ho la=>od _ _ _ _ _ _ _ _ _ _ _ _ _ _ _ _ _ _ _ _ _ _ _ F w pz (ZA.row (la _ (.head _) _) ((p.weak<|fun _ _ h=>wg (xm.xX _ _ _) h).weak (fun _ _ h=>wg zl h)) ⟨w,pz.1⟩) ((((q.mono<|xm.xX _ _ _).weak (fun _ _ h=>wp (xm.xX _ _ _) h)).mono zl).weak (fun _ _ h=>wp zl h)) (ZA.row (la _ (.tail _<|.head _) _) (RR.flat (enc:=jm) (fun _=>U) _) ⟨w,pz.1⟩) (ZA.row (la _ (.tail _<|.tail _<|.head _) _) (RR.flat (enc:=qm) (fun _=>U) _) ⟨w,pz.1⟩) (ZA.row (la _ (.tail _<|.tail _<|.tail _<|.head _) _) ((s.weak<|fun _ _ h=>wi (xm.xX _ _ _) h).weak (fun _ _ h=>wi zl h)) ⟨w,pz.1⟩) ((t.mono<|xm.xX _ _ _).mono zl) ((((u.mono<|xm.xX _ _ _).weak (fun _ _ h=>wq (xm.xX _ _ _) h)).mono zl).weak (fun _ _ h=>wq zl h)) ((x.mono<|xm.xX _ _ _).mono zl)<|ZA.row (la _ (.tail _<|.tail _<|.tail _<|.tail _<|.head _) _) ((y.weak<|fun _ _ h=>wv (xm.xX _ _ _) h).weak (fun _ _ h=>wv zl h)) ⟨w,pz.1⟩) ?_
 rintro aB aC aD aE _
 refine Q2q U<|La U (Lg 3 (xG (cs:=[vn,vn]) zbU U) fun aF _=>Lo U U (xz z5c U U U .here U U U)<|Q1n U<|B0q<|Le 17 (w3 (v:=(.agg #[vi 0,vi 0,vi 40,vi 80])) (Lq (l:=[.const (vi 0),.const (vi 0),.const (vi 40),.const (vi 80)]) (.r4 U U U U) [0,1,2,3]) (fun _=>by kernel_rfl))<|Le 18 (w3 (v:=(.agg #[vi 2,vi 1,vi 56,vi 80])) (Lq (l:=[.const (vi 2),.const (vi 1),.const (vi 56),.const (vi 80)]) (.r4 U U U U) [0,1,2,3]) (fun _=>by kernel_rfl)) (Lg 19 (xU (cs:=([(⟨0,0,40,80⟩:ye),(⟨2,1,56,80⟩:ye)]:List ye).flatMap xY) z1r (Lq (l:=[.tmp 17,.tmp 18]) (.r2 U U) [0,1]) (fun _=>by kernel_rfl) U (by unfold maxLen;omega)) fun G _=>Le 20 (w3 (v:=(.agg #[vi 0,vi 1,vi 96])) (Lq (l:=[.const (vi 0),.const (vi 1),.const (vi 96)]) (.r3 U U U) [0,1,2]) (fun _=>by kernel_rfl)) (Lg 21 (xU (cs:=([(⟨0,1,96⟩:zf)]:List zf).flatMap jI) zja (Lq (l:=[.tmp 20]) (.cons U .nil) [0]) (fun _=>by kernel_rfl) U (by unfold maxLen;omega)) fun H _=>Le 22 (w3 (v:=(.agg #[vs (some ⟨G,0,none⟩) (([(⟨0,0,40,80⟩:ye),(⟨2,1,56,80⟩:ye)]:List ye).length) 2,vs (some ⟨H,0,none⟩) (([(⟨0,1,96⟩:zf)]:List zf).length) 1])) (Lq (l:=[.tmp 19,.tmp 21]) (.r2 U U) [0,1]) (fun _=>by kernel_rfl)) (Lg 5 (xG (cs:=[vn,vn]) zbU U) fun aG _=>Lo U U (xz z5c U U U .here U U U)<|Q0n<|WC.b ?_))))
 refine bK h fun X I h=>Ld<|Le 23 (xw z1j U (xy .h6) U)<|La U<|Le 25 (xk kB U U)<|Le 26 (xl z64 U<|xt .h3 U)<|WL.freezeS (ls:=i.1.fM) (.there .h7) .h7 hz (p.weak<|fun _ _ h=>wg (xm.xX _ _ _) h) ?_
 intro aH f m
 replace m:=m.weak (fun _ _ h=>wg f h)
 refine WL.freezeS (ls:=i.1.fS) (.there .h7) .here hz (RR.flat (enc:=jm) (fun _=>U) _) fun aI e J=>WL.freezeS (ls:=i.1.fK) (.there .h7) .here hz (RR.flat (enc:=qm) (fun _=>U) _) fun aJ d K=>WL.freezeS (ls:=i.1.yd) (.there .h7) .here hz (s.weak<|fun _ _ h=>wi ((xm.xX _ _ _).trans (f.trans<|e.trans d)) h) ?_
 intro aK c n
 replace n:=n.weak (fun _ _ h=>wi c h)
 refine WL.freezeS (ls:=i.2) (.there .h7) .here hz (y.weak<|fun _ _ h=>wv ((xm.xX _ _ _).trans (f.trans<|e.trans<|d.trans c)) h) ?_
 intro aL b o
 replace o:=o.weak (fun _ _ h=>wv b h)
 refine WL.freezeS (ls:=W.1.fP) .h5 .here hz (RR.flat (enc:=xY) (fun _=>U) _) fun L a z=>WL.rC (dd:=27) U U U (zb call14<|.r3 U U U) .nil (jH hz .nil .here fun w pz ho=>og _ _ _ _ _ _ _ _ _ _ _ _ _ _ _ _ _ _ _ _ _ _ _ _ _ I w pz ((m.mono<|e.trans<|d.trans<|c.trans<|b.trans a).weak (fun _ _ h=>wg (e.trans<|d.trans<|c.trans<|b.trans a) h)) ((q.mono<|(xm.xX _ _ _).trans (f.trans<|e.trans<|d.trans<|c.trans<|b.trans a)).weak (fun _ _ h=>wp ((xm.xX _ _ _).trans (f.trans<|e.trans<|d.trans<|c.trans<|b.trans a)) h)) (J.mono<|d.trans<|c.trans<|b.trans a) (K.mono<|c.trans<|b.trans a) ((n.mono<|b.trans a).weak (fun _ _ h=>wi (b.trans a) h)) (t.mono<|(xm.xX _ _ _).trans (f.trans<|e.trans<|d.trans<|c.trans<|b.trans a)) ((u.mono<|(xm.xX _ _ _).trans (f.trans<|e.trans<|d.trans<|c.trans<|b.trans a)).weak (fun _ _ h=>wq ((xm.xX _ _ _).trans (f.trans<|e.trans<|d.trans<|c.trans<|b.trans a)) h)) (x.mono<|(xm.xX _ _ _).trans (f.trans<|e.trans<|d.trans<|c.trans<|b.trans a)) ((o.mono a).weak (fun _ _ h=>wv a h)) z) ?_
 rintro M aM aN aO N
 refine WL.merge .here .h1<|Q1n U<|WC.b<|bK h fun A C h=>bK h fun Y D h=>D3q U<|Lx true 3 30 (B:=A) U U U U U U (fun h=>(oJ<|q8 C h).symm) (fun _ O=>?_) ?_
 ·have j:=q7 C O
  obtain⟨aW,P,j⟩:=z8 j
  replace j:=oJ j
  exact Le 31 (xw z4G U (xy .h5) U)<|Le 32 (xw z4G U (xy .h2) U)<|Lp 33 (zb call16<|.r2 U U) .nil (py hz .nil .here (.s3 .h6 .h4 .h3) fun w pz ho la=>dC _ _ _ _ _ _ _ _ _ _ _ _ P w pz ((z.mono<|zl.trans (xm.xX _ _ _)).mono zl) (ZA.row (la _ (.head _) _) (RR.flat (enc:=jI) (fun _=>U) _) ⟨w,pz.1⟩) (ZA.row (la _ (.tail _<|.head _) _) (RR.flat (enc:=xY) (fun _=>U) _) ⟨w,pz.1⟩)<|ZA.row (la _ (.tail _<|.tail _<|.head _) _) (RR.flat (enc:=jI) (fun _=>U) _) ⟨w,pz.1⟩)<|La U<|Ly j U U .all
 refine La U<|Lx true 3 35 (B:=A&&(decide ((X.length:Int)=1))) U U U U U U (fun h=>(vy h).symm) (fun _ Q=>?_) ?_
 ·exact La U<|Le 37 (xK underlying46 U)<|Q2q U<|Ly (vz Q) U U .all
 refine La U<|Lx true 5 40 (B:=Y) U U U U U U (fun h=>(oJ<|q8 D h).symm) (fun _ R=>?_) ?_
 ·have g:=q7 D R
  obtain⟨k,g⟩:=xq g
  obtain⟨aX,S,g⟩:=z8 g
  replace g:=oJ g
  refine La U<|WL.know (fun w hw=>Hp.vB .h1 hw (by intro iT;have:=k;rw[iT] at this;omega)) ?_
  rintro⟨aP,rfl⟩
  obtain⟨aQ,aR,aS,T,⟨aT,aU,rfl,V⟩⟩:=RR.elem (Pr:=(re (Z++(L++M)))) (N.weak (fun _ _ h=>lb (xm.xX _ _ _) h)) k.1 k.2
  refine Le 42 (w7 zlV U U k.1 k.2 vN)<|Le 43 (xl zC9 U<|gq .h1<|Y2 T 0 _ U) (Lg 44 (xU (cs:=([0,39]:List Int).flatMap e3) z7W (Lq (l:=[.const (vi 0),.const (vi 39)]) (.r2 U U) [0,1]) (fun _=>by kernel_rfl) U (by unfold maxLen;omega)) fun aV _=>Lp 45 (zb call17<|.r2 U U) .nil (py hz .nil .h1 (.cons .here .nil) fun w pz ho la=>dE _ _ _ _ _ _ _ _ S w pz (V.mono<|zl)<|ZA.row (la _ (.head _) _) (RR.flat (enc:=e3) (fun _=>U) _) ⟨w,pz.1⟩)<|La U ?_)
  exact Ly g U U<|.s8 .h1 .h1 .h1 .h1 .h1 .h1 .h1 .h1
 refine Q1n U<|WC.ret ?_
 obtain rfl:=oJ h
 exact Li results11 (.tmp U .nil)<|fun w hw=>⟨xJ U,hw.sub .nil⟩
def sD(a:zi)(b:Int):Option ByteArray:=
 if (decide (b>=0))&&(decide (b<a.fM.length)) then chk (0<=b/\b<a.fM.length) (some ((nth a.fM b).yq)) else if (decide (b>=a.fM.length))&&(decide (b<(i64 ((a.fM.length:Int)+(a.fS.length:Int))))) then chk (0<=(i64 (b-(a.fM.length:Int)))/\(i64 (b-(a.fM.length:Int)))<a.fS.length) (some ((nth a.fS (i64 (b-(a.fM.length:Int)))).yq)) else some ⟨#[]⟩
theorem XS(Z:Zp)(c:Option Addr)(d:Nat)(e:Option Addr)(f:Nat)(g:Option Addr)(i:Nat)(j:Option Addr)(k:Nat)(l:Option Addr)(m:Nat)(n:Option Addr)(o:Nat)(p:Option Addr)(q:Nat)(s:Option Addr)(t:Nat)(a:zi)(b:Int)(r:ByteArray)(h:sD a b=some r)(w₀:World)(hz:PZ [] w₀ Z)(u:ZS Z 4 (vU Z) c d a.fM)(H:ZS Z 4 (qr Z) e f a.yc)(v:ZS Z 4 (rq jm) g i a.fS)(I:ZS Z 4 (rq qm) j k a.fK)(J:ZS Z 7 (qK Z) l m a.yd)(K:ZS Z 5 (rq qI) n o a.fH)(L:ZS Z 3 (qs Z) p q a.fU)(M:ZS Z 4 (rq qJ) s t a.yb):
  RC 178 #[.agg #[vs c a.fM.length d,vs e a.yc.length f,vs g a.fS.length i,vs j a.fK.length k,vs l a.yd.length m,vs n a.fH.length o,vs p a.fU.length q,vs s a.yb.length t],vi b] w₀ (.string r) [] []:=by
 unfold sD at h
 refine L3 func178 ntmps178 ?_
 refine B0q<|Lg 2 (xO (cs:=[vs c a.fM.length d,vs e a.yc.length f,vs g a.fS.length i,vs j a.fK.length k,vs l a.yd.length m,vs n a.fH.length o,vs p a.fU.length q,vs s a.yb.length t]) U U) ?_
 intro N _
 let A:=(a.fM.length:Int);refine Q1n U<|WC.b<|WC.b<|Ld<|La U<|La U<|La U<|Lx true 5 7 (B:=(decide (b>=0))&&(decide (b<A))) U U U U U U (fun h=>(vy h).symm) (fun _ x=>?_) ?_
 ·exact La U<|Le 9 (xk jB U U)<|Le 10 (xl z4F U<|xt .here U)<|Le 11 (xK underlying22 U)<|Q2q U<|Ly (vz x) U U .all
 refine Q0n<|Lk U h (fun y h=>?_)<|fun y h=>?_
 ·refine WC.b<|cK h fun z h=>Ld<|Le 14 (xk jB U U)<|Le 15 (xl z4F U<|xt .here U)<|La U<|L0 (dd:=17) U U (Z:=Z) (Pr:=(vU Z)) zBX U U u z ?_
  rintro O P C Q ⟨R,S,rfl,T⟩
  refine Le 18 (xk XL U U)<|Le 19 (xl pY U<|xM hz.pv C U)<|Q1n U<|WC.ret<|Ll ?_
  obtain rfl:=oJ h
  exact Li results178 (.tmp U .nil)<|fun w hw=>⟨xJ U,hw.sub .nil⟩
 ·refine WC.skip<|Lb<|WC.b<|B1q U<|Le 21 (xk jB U U)<|Le 22 (xl z4F U<|xt .here U)<|Le 23 (xK underlying22 U)<|Q2q U<|Lx true 9 25 (B:=(decide (b>=A))&&(decide (b<(i64 (A+(a.fS.length:Int)))))) U U U U U U (fun h=>(vy h).symm) (fun _ D=>?_) ?_
  ·exact La U<|Le 27 (xk jB U U)<|Le 28 (xl z4F U<|xt .here U)<|Le 29 (xK underlying22 U)<|Le 30 (xk uL U U)<|Le 31 (xl zbS U<|xt .here U)<|Le 32 (xK underlying24 U)<|La U<|La U<|La U<|Ly (vz D) U U .all
  refine Q0n<|Lk U h (fun E h=>?_)<|fun E h=>?_
  ·refine WC.b<|cK h fun F h=>Ld<|Le 36 (xk uL U U)<|Le 37 (xl zbS U<|xt .here U)<|La U<|Le 39 (xk jB U U)<|Le 40 (xl z4F U<|xt .here U)<|Le 41 (xK underlying22 U)<|La U<|L0 (dd:=43) U U (Z:=Z) (Pr:=(rq jm)) zj7 U U v F ?_
   rintro V W G X rfl
   refine Le 44 (xk Vs U U)<|Le 45 (xl pY U<|xM hz.pv G U)<|Q1n U<|WC.ret<|Ll ?_
   obtain rfl:=oJ h
   exact Li results178 (.tmp U .nil)<|fun w hw=>⟨xJ U,hw.sub .nil⟩
  ·refine WC.skip<|Lb<|B1n U<|WC.ret ?_
   obtain rfl:=oJ h
   exact Li results178 (.tmp U .nil)<|fun w hw=>⟨xJ U,hw.sub .nil⟩
def kZ(a:zi)(c:ByteArray)(d:Option Int):Nat->Int->Option Int
 | 0,_=>none
 | e+1,b=>if decide (b<(i64 ((a.fM.length:Int)+(a.fS.length:Int)))) then(sD a b).bind fun f=>if decide (f=c) then some b else kZ a c d e (i64 (b+1)) else d
def uU(a:zi)(b:ByteArray):Option Int:=
 g8 (some (-1)) fun c=>kZ a b c xC 0
theorem dF(Z:Zp)(e:Option Addr)(f:Nat)(g:Option Addr)(i:Nat)(j:Option Addr)(k:Nat)(l:Option Addr)(m:Nat)(n:Option Addr)(o:Nat)(p:Option Addr)(q:Nat)(s:Option Addr)(t:Nat)(u:Option Addr)(v:Nat)(a:zi)(d:ByteArray)(r:Int)(h:uU a d=some r)(w₀:World)(hz:PZ [] w₀ Z)(z:ZS Z 4 (vU Z) e f a.fM)(B:ZS Z 4 (qr Z) g i a.yc)(C:ZS Z 4 (rq jm) j k a.fS)(D:ZS Z 4 (rq qm) l m a.fK)(E:ZS Z 7 (qK Z) n o a.yd)(F:ZS Z 5 (rq qI) p q a.fH)(G:ZS Z 3 (qs Z) s t a.fU)(H:ZS Z 4 (rq qJ) u v a.yb):
  RC 155 #[.agg #[vs e a.fM.length f,vs g a.yc.length i,vs j a.fS.length k,vs l a.fK.length m,vs n a.yd.length o,vs p a.fH.length q,vs s a.fU.length t,vs u a.yb.length v],.string d] w₀ (vi r) [] []:=by
 unfold uU at h
 refine L3 func155 ntmps155 ?_
 let A:List Value:=[vs e a.fM.length f,vs g a.yc.length i,vs j a.fS.length k,vs l a.fK.length m,vs n a.yd.length o,vs p a.fH.length q,vs s a.fU.length t,vs u a.yb.length v];refine B0q<|Lg 2 (xO (cs:=A) U U) ?_
 intro x _
 refine Q1n U<|jK0 h fun y I h=>L7 (y=some r) ([]) ([]) ?_ ?_
 ·refine B1n U<|WC.block<|L6 (fun(c:Nat) (b:Int)=>(kZ a d y c b=some r)) (fun c b=>[(1,.string d),(2,vp x),(5,vi b)]) (fun c b=>[stb x 31 A]) (fun c b=>c) ⟨xC,0⟩ h (.q U) (.cons .here .nil) ?_
  rintro(_|M) b h;·cases h
  rw[kZ] at h
  refine WC.b<|B1q U<|Le 7 (xk jB U U)<|Le 8 (xl z4F U<|xt .here U)<|Le 9 (xK underlying22 U)<|Le 10 (xk uL U U)<|Le 11 (xl zbS U<|xt .here U)<|Le 12 (xK underlying24 U)<|Q2n U<|Lk U h (fun J h=>?_)<|fun J h=>?_
  ·refine WC.skip<|Lb<|WC.b<|WC.block<|WC.b<|bK h fun N K h=>Ld<|Le 17 (xw z1j U (xy .here) U)<|La U<|Lp 19 (zb call178<|.r2 U U) .nil (cc hz .nil fun w pz ho=>XS _ _ _ _ _ _ _ _ _ _ _ _ _ _ _ _ _ _ _ _ K w pz z B C D E F G H)<|La U<|Le 21 (Xx U U)<|Q0n<|Lk U h (fun L h=>?_)<|fun L h=>?_
   ·refine B2n U<|WC.ret<|Lu<|Ll<|Ll<|Lu<|Ll ?_
    obtain rfl:=oJ h
    exact Li results155 (.tmp U .nil)<|fun w hw=>⟨xJ U,hw.sub .nil⟩
   ·exact WC.skip<|Lt<|Lb<|D3q U<|WL.nil<|WX.round ⟨M,i64 (b+1)⟩ h (Nat.lt_succ_self _) (.q U)<|.cons .here .nil
  ·exact WC.exit<|Lm<|Lm<|Lv<|Ln () h .nil .nil
 ·rintro  h
  replace h:=I.symm.trans h
  refine B1n U<|WC.ret ?_
  obtain rfl:=oJ h
  exact Li results155 (.tmp U .nil)<|fun w hw=>⟨xJ U,hw.sub .nil⟩
def tO(a:zi)(c:Int)(b:Int):Option Bool:=
 if decide (b<0) then some false else if decide (b<a.fM.length) then some true else chk (0<=(i64 (b-(a.fM.length:Int)))/\(i64 (b-(a.fM.length:Int)))<a.fS.length) (some (((((decide (((nth a.fS (i64 (b-(a.fM.length:Int)))).yB)=c))&&(decide (((nth a.fS (i64 (b-(a.fM.length:Int)))).yf)>=0)))&&(decide (((nth a.fS (i64 (b-(a.fM.length:Int)))).yf)<=1000)))&&(decide (((nth a.fS (i64 (b-(a.fM.length:Int)))).fT)>=0)))&&(decide (((nth a.fS (i64 (b-(a.fM.length:Int)))).fT)<=1073741824))))
theorem n6(Z:Zp)(c:Option Addr)(d:Nat)(e:Option Addr)(f:Nat)(g:Option Addr)(i:Nat)(j:Option Addr)(k:Nat)(l:Option Addr)(m:Nat)(n:Option Addr)(o:Nat)(p:Option Addr)(q:Nat)(s:Option Addr)(t:Nat)(a:zi)(b:Int)(u:Int)(r:Bool)(h:tO a b u=some r)(w₀:World)(hz:PZ [] w₀ Z)(H:ZS Z 4 (vU Z) c d a.fM)(I:ZS Z 4 (qr Z) e f a.yc)(v:ZS Z 4 (rq jm) g i a.fS)(J:ZS Z 4 (rq qm) j k a.fK)(K:ZS Z 7 (qK Z) l m a.yd)(L:ZS Z 5 (rq qI) n o a.fH)(M:ZS Z 3 (qs Z) p q a.fU)(N:ZS Z 4 (rq qJ) s t a.yb):
  RC 156 #[.agg #[vs c a.fM.length d,vs e a.yc.length f,vs g a.fS.length i,vs j a.fK.length k,vs l a.yd.length m,vs n a.fH.length o,vs p a.fU.length q,vs s a.yb.length t],vi b,vi u] w₀ (.bool r) [] []:=by
 unfold tO at h
 refine Me func156 ntmps156 ?_
 refine WC.b<|Ld (Lg 3 (xO (cs:=[vs c a.fM.length d,vs e a.yc.length f,vs g a.fS.length i,vs j a.fK.length k,vs l a.yd.length m,vs n a.fH.length o,vs p a.fU.length q,vs s a.yb.length t]) U U) fun O _=>Q1n U<|WC.b<|B2n U<|Lk U h (fun x h=>?_)<|fun x h=>?_)
 ·refine B1n U<|WC.ret<|Ll ?_
  obtain rfl:=oJ h
  exact Li results156 (.tmp U .nil)<|fun w hw=>⟨xJ U,hw.sub .nil⟩
 ·refine WC.skip<|Lb<|WC.b<|B1q U<|Le 11 (xk jB U U)<|Le 12 (xl z4F U<|xt .here U)<|Le 13 (xK underlying22 U)<|Q1n U<|Lk U h (fun y h=>?_)<|fun y h=>?_
  ·refine B1n U<|WC.ret<|Ll ?_
   obtain rfl:=oJ h
   exact Li results156 (.tmp U .nil)<|fun w hw=>⟨xJ U,hw.sub .nil⟩
  ·refine WC.skip<|Lb<|WC.b<|cK h fun z h=>Ld<|Le 15 (xk uL U U)<|Le 16 (xl zbS U<|xt .here U)<|La U<|Le 18 (xk jB U U)<|Le 19 (xl z4F U<|xt .here U)<|Le 20 (xK underlying22 U)<|La U<|L0 (dd:=22) U U (Z:=Z) (Pr:=(rq jm)) zj7 U U v z ?_
   rintro P Q C R rfl
   refine Le 23 (xw zMl U (vQ hz.pv C) U)<|Lg 7 (xG (cs:=[.string ⟨#[]⟩,vi 0,vi 0,vi 0]) zMm U) ?_
   intro S _
   let A:=(i64 (u-(a.fM.length:Int)));refine Lo U U (xz zMn U U U .here U U U)<|Q0n<|B0q<|Le 24 (xk Vv U U)<|Le 25 (xl xu U<|xt .here U)<|La U<|La U<|La U<|Lx true 3 28 (B:=(decide (((nth a.fS A).yB)=b))&&(decide (((nth a.fS A).yf)>=0))) U U U U U U (fun h=>(vy h).symm) (fun _ D=>?_) ?_
   ·exact Le 29 (xk pG U U)<|Le 30 (xl xu U<|xt .here U)<|Q2q U<|Ly (vz D) U U .all
   refine La U<|Lx true 3 33 (B:=((decide (((nth a.fS A).yB)=b))&&(decide (((nth a.fS A).yf)>=0)))&&(decide (((nth a.fS A).yf)<=1000))) U U U U U U (fun h=>(vy h).symm) (fun _ E=>?_) ?_
   ·exact Le 34 (xk pG U U)<|Le 35 (xl xu U<|xt .here U)<|Q2q U<|Ly (vz E) U U .all
   refine La U<|Lx true 3 38 (B:=(((decide (((nth a.fS A).yB)=b))&&(decide (((nth a.fS A).yf)>=0)))&&(decide (((nth a.fS A).yf)<=1000)))&&(decide (((nth a.fS A).fT)>=0))) U U U U U U (fun h=>(vy h).symm) (fun _ F=>?_) ?_
   ·exact Le 39 (xk eB U U)<|Le 40 (xl xu U<|xt .here U)<|Q2q U<|Ly (vz F) U U .all
   refine La U<|Lx true 3 43 (B:=((((decide (((nth a.fS A).yB)=b))&&(decide (((nth a.fS A).yf)>=0)))&&(decide (((nth a.fS A).yf)<=1000)))&&(decide (((nth a.fS A).fT)>=0)))&&(decide (((nth a.fS A).fT)<=1073741824))) U U U U U U (fun h=>(vy h).symm) (fun _ G=>?_) ?_
   ·exact Le 44 (xk eB U U)<|Le 45 (xl xu U<|xt .here U)<|Q2q U<|Ly (vz G) U U .all
   refine Q1n U<|WC.ret ?_
   obtain rfl:=oJ h
   exact Li results156 (.tmp U .nil)<|fun w hw=>⟨xJ U,hw.sub .nil⟩
def tK(b:zi)(c:Int)(a:Int)(f:Int)(g:Int):Option Bool:=
 chk (((decide (a<0))||(decide (a>=b.fK.length)))=false->(0<=a/\a<b.fK.length)) (chk ((((decide (a<0))||(decide (a>=b.fK.length)))||(decide (((nth b.fK a).yB)≠c)))=false->(0<=a/\a<b.fK.length)) (chk (((((decide (a<0))||(decide (a>=b.fK.length)))||(decide (((nth b.fK a).yB)≠c)))||(decide (((nth b.fK a).yj)<1)))=false->(0<=a/\a<b.fK.length)) (if ((((decide (a<0))||(decide (a>=b.fK.length)))||(decide (((nth b.fK a).yB)≠c)))||(decide (((nth b.fK a).yj)<1)))||(decide (((nth b.fK a).yj)>16)) then some false else chk (0<=a/\a<b.fK.length) ((uU b ((nth b.fK a).fA)).bind fun d=>(uU b ((nth b.fK a).fB)).bind fun e=>(if decide (d=e) then some true else(tO b c d).bind fun h=>some (!h)).bind fun i=>(if i then some true else(tO b c e).bind fun j=>some (!j)).bind fun k=>if k then some false else some (((decide (d=f))&&(decide (e=g)))||((decide (d=g))&&(decide (e=f))))))))
theorem X4(Z:Zp)(u:Option Addr)(v:Nat)(x:Option Addr)(y:Nat)(z:Option Addr)(C:Nat)(D:Option Addr)(E:Nat)(F:Option Addr)(G:Nat)(H:Option Addr)(I:Nat)(J:Option Addr)(K:Nat)(L:Option Addr)(M:Nat)(a:zi)(f:Int)(b:Int)(d:Int)(e:Int)(r:Bool)(h:tK a f b d e=some r)(w₀:World)(hz:PZ [] w₀ Z)(k:ZS Z 4 (vU Z) u v a.fM)(l:ZS Z 4 (qr Z) x y a.yc)(m:ZS Z 4 (rq jm) z C a.fS)(c:ZS Z 4 (rq qm) D E a.fK)(n:ZS Z 7 (qK Z) F G a.yd)(o:ZS Z 5 (rq qI) H I a.fH)(p:ZS Z 3 (qs Z) J K a.fU)(q:ZS Z 4 (rq qJ) L M a.yb):
  RC 111 #[.agg #[vs u a.fM.length v,vs x a.yc.length y,vs z a.fS.length C,vs D a.fK.length E,vs F a.yd.length G,vs H a.fH.length I,vs J a.fU.length K,vs L a.yb.length M],vi f,vi b,vi d,vi e] w₀ (.bool r) [] []:=by
 unfold tK at h
 refine Calls.on5 func111 ntmps111 ?_
 refine WC.b<|Ld (Lg 5 (xO (cs:=[vs u a.fM.length v,vs x a.yc.length y,vs z a.fS.length C,vs D a.fK.length E,vs F a.yd.length G,vs H a.fH.length I,vs J a.fU.length K,vs L a.yb.length M]) U U) fun ax _=>Q1n U<|WC.b<|WC.b ?_)
 obtain⟨T,h⟩:=xq h
 obtain⟨V,h⟩:=xq h
 obtain⟨W,h⟩:=xq h
 let A:=(a.fK.length:Int);refine D3q U<|Lx false 5 15 (B:=(decide (b<0))||(decide (b>=A))) U U U U U U (fun h=>(kx h).symm) (fun _ X=>?_) ?_
 ·exact La U<|Le 17 (xk jQ U U)<|Le 18 (xl z5E U<|xt .here U)<|Le 19 (xK underlying25 U)<|Q2q U<|Ly (ky X) U U .all
 refine La U<|Lx false 8 22 (B:=((decide (b<0))||(decide (b>=A)))||(decide (((nth a.fK b).yB)≠f))) U U U U U U (fun h=>(kx h).symm) (fun _ N=>?_) ?_
 ·have Y:=T N
  refine Le 23 (xk jQ U U)<|Le 24 (xl z5E U<|xt .here U)<|La U<|L0 (dd:=26) U U (Z:=Z) (Pr:=(rq qm)) z7V U U c Y ?_
  rintro ay az aa aA rfl
  exact Le 27 (xk Vu U U)<|Le 28 (xl xu U<|xM hz.pv aa U)<|La U<|La U<|La U<|Ly (ky N) U U .all
 refine La U<|Lx false 7 32 (B:=(((decide (b<0))||(decide (b>=A)))||(decide (((nth a.fK b).yB)≠f)))||(decide (((nth a.fK b).yj)<1))) U U U U U U (fun h=>(kx h).symm) (fun _ O=>?_) ?_
 ·have ab:=V O
  refine Le 33 (xk jQ U U)<|Le 34 (xl z5E U<|xt .here U)<|La U<|L0 (dd:=36) U U (Z:=Z) (Pr:=(rq qm)) z7V U U c ab ?_
  rintro aB aC ad aD rfl
  exact Le 37 (xk mz U U)<|Le 38 (xl xu U<|xM hz.pv ad U)<|Q2q U<|Ly (ky O) U U .all
 refine La U<|Lx false 7 41 (B:=((((decide (b<0))||(decide (b>=A)))||(decide (((nth a.fK b).yB)≠f)))||(decide (((nth a.fK b).yj)<1)))||(decide (((nth a.fK b).yj)>16))) U U U U U U (fun h=>(kx h).symm) (fun _ P=>?_) ?_
 ·have ae:=W P
  refine Le 42 (xk jQ U U)<|Le 43 (xl z5E U<|xt .here U)<|La U<|L0 (dd:=45) U U (Z:=Z) (Pr:=(rq qm)) z7V U U c ae ?_
  rintro aE aF af aG rfl
  exact Le 46 (xk mz U U)<|Le 47 (xl xu U<|xM hz.pv af U)<|Q2q U<|Ly (ky P) U U .all
 refine Q0n<|Lk U h (fun ag h=>?_)<|fun ag h=>?_
 ·refine B1n U<|WC.ret<|Ll ?_
  obtain rfl:=oJ h
  exact Li results111 (.tmp U .nil)<|fun w hw=>⟨xJ U,hw.sub .nil⟩
 ·refine WC.skip<|Lb<|WC.b<|cK h fun Q h=>bK h fun s ah h=>bK h fun t ai h=>Lz nc [] U<|Lh 0 50 U (xw z1j U (xy .here) U)<|Lf 1 51 U (xk jQ U U)<|Lh 2 52 U (xl z5E U<|xt .here U)<|Lf 3 53 U (q_m U)<|L2 (j:=4) (dd:=54) (by kernel_rfl) U zO zP U U (Z:=Z) (Pr:=(rq qm)) z7V U U c Q ?_
  rintro aH aI aj aJ rfl
  refine Lf 5 55 U (xk Vr U U)<|Lh 6 56 U (xl pY U<|xM hz.pv aj U)<|L5 7 57 U (zb call155<|.r2 U U) (cc hz .nil fun w pz ho=>dF _ _ _ _ _ _ _ _ _ _ _ _ _ _ _ _ _ _ _ _ ah w pz k l m c n o p q)<|Lh 8 58 U (xw z1j U (xy .here) U)<|Lf 9 59 U (xk jQ U U)<|Lh 10 60 U (xl z5E U<|xt .here U)<|Lf 11 61 U (q_m U)<|L2 (j:=12) (dd:=62) (by kernel_rfl) U zO zP U U (Z:=Z) (Pr:=(rq qm)) z7V U U c Q ?_
  rintro aK aL ak aM rfl
  refine Lf 13 63 U (xk Vt U U)<|Lh 14 64 U (xl pY U<|xM hz.pv ak U)<|L5 15 65 U (zb call155<|.r2 U U) (cc hz .nil fun w pz ho=>dF _ _ _ _ _ _ _ _ _ _ _ _ _ _ _ _ _ _ _ _ ai w pz k l m c n o p q)<|Lf 16 11 U (q_z U)<|Lf 17 12 U (q_z U)<|WD.done (by kernel_rfl)<|Lb<|WC.b<|WC.b<|bK h fun av R h=>bK h fun aw S h=>Ld<|La U<|La U<|La U<|La U<|Lx false 5 69 (B:=av) U U U U U U (fun h=>(oJ<|q7 R h).symm) (fun _ al=>?_) ?_
  ·have g:=q8 R al
   obtain⟨aN,am,g⟩:=z8 g
   replace g:=oJ g
   exact Le 70 (xw z1j U (xy .here) U)<|Q2q U<|Lp 73 (zb call156<|.r3 U U U) .nil (cc hz .nil fun w pz ho=>n6 _ _ _ _ _ _ _ _ _ _ _ _ _ _ _ _ _ _ _ _ _ am w pz k l m c n o p q)<|Q2q U<|Ly g U U .all
  refine La U<|Lx false 5 76 (B:=aw) U U U U U U (fun h=>(oJ<|q7 S h).symm) (fun _ an=>?_) ?_
  ·have i:=q8 S an
   obtain⟨aO,ao,i⟩:=z8 i
   replace i:=oJ i
   exact Le 77 (xw z1j U (xy .here) U)<|Q2q U<|Lp 80 (zb call156<|.r3 U U U) .nil (cc hz .nil fun w pz ho=>n6 _ _ _ _ _ _ _ _ _ _ _ _ _ _ _ _ _ _ _ _ _ ao w pz k l m c n o p q)<|Q2q U<|Ly i U U .all
  refine Q0n<|Lk U h (fun ap h=>?_)<|fun ap h=>?_
  ·refine B1n U<|WC.ret<|Ll ?_
   obtain rfl:=oJ h
   exact Li results111 (.tmp U .nil)<|fun w hw=>⟨xJ U,hw.sub .nil⟩
  ·refine WC.skip<|Lb<|WC.b<|Ld<|La U<|La U<|La U<|La U<|Lx true 3 86 (B:=(decide (s=d))&&(decide (t=e))) U U U U U U (fun h=>(vy h).symm) (fun _ aq=>?_) ?_
   ·exact La U<|La U<|La U<|La U<|Ly (vz aq) U U .all
   refine La U<|Lx false 8 91 (B:=((decide (s=d))&&(decide (t=e)))||((decide (s=e))&&(decide (t=d)))) U U U U U U (fun h=>(kx h).symm) (fun _ ar=>?_) ?_
   ·refine La U<|La U<|La U<|La U<|Lx true 3 95 (B:=(decide (s=e))&&(decide (t=d))) U U U U U U (fun h=>(vy h).symm) (fun _ au=>?_) ?_
    ·exact La U<|La U<|La U<|La U<|Ly (vz au) U U .all
    exact La U<|Ly (ky ar) U U .all
   refine Q1n U<|WC.ret ?_
   obtain rfl:=oJ h
   exact Li results111 (.tmp U .nil)<|fun w hw=>⟨xJ U,hw.sub .nil⟩
def gj(c:Int)(a:List za)(d:Bool->Bool->Option Bool):Nat->Bool->Bool->Int->Option Bool
 | 0,_,_,_=>none
 | j+1,e,f,b=>if decide (b<c) then tZ (fun(k:Bool) (l:Bool)=>gj c a d j k l (i64 (b+1))) fun g=>vk (fun(h:Bool)=>chk (0<=b/\b<a.length) (chk (0<=c/\c<a.length) (if decide (((nth a b).fX)=((nth a c).fX)) then g h true else g h f))) fun i=>chk (0<=b/\b<a.length) (chk (0<=c/\c<a.length) (if decide (((nth a b).fX)=((nth a c).ya)) then i true else i e)) else d e f
def ki(b:List za)(e:zi)(f:Int)(g:Option Bool):Nat->Int->Option Bool
 | 0,_=>none
 | h+1,a=>if decide (a<b.length) then g8 (ki b e f g h (i64 (a+1))) fun i=>chk ((decide (a=0))=false->(0<=a/\a<b.length)) (chk ((decide (a=0))=false->((0:Int)<=0/\0<(b.length:Int))) (chk (0<=a/\a<b.length) (chk ((0:Int)<=0/\0<(b.length:Int)) (tZ (fun(c:Bool) (d:Bool)=>chk (((!c)||d)=false->(0<=a/\a<b.length)) (chk (((!c)||d)=false->((0:Int)<=0/\0<(b.length:Int))) (chk (((!c)||d)=false->((decide (((nth b a).ya)≠((nth b 0).ya)))=true->(0<=a/\a<b.length))) ((if ((!c)||d)||((decide (((nth b a).ya)≠((nth b 0).ya)))&&(decide (((nth b a).ya)<e.fM.length))) then some true else chk (0<=a/\a<b.length) ((tK e f ((nth b a).fQ) ((nth b a).ya) ((nth b a).fX)).bind fun j=>some (!j))).bind fun k=>if k then some false else i)))) fun l=>gj a b l xC ((decide (a=0))||(decide (((nth b a).ya)=((nth b 0).ya)))) (decide (((nth b a).fX)=((nth b 0).ya))) 0)))) else g
def tL(d:zi)(b:Int)(a:List za):Option Bool:=
 if decide ((a.length:Int)>32) then some false else g8 (some true) fun c=>ki a d b c xC 0
theorem X5(Z:Zp)(z:Option Addr)(B:Nat)(F:Option Addr)(G:Nat)(H:Option Addr)(I:Nat)(J:Option Addr)(K:Nat)(L:Option Addr)(M:Nat)(N:Option Addr)(O:Nat)(P:Option Addr)(Q:Nat)(R:Option Addr)(S:Nat)(T:Option Addr)(V:Nat)(b:zi)(e:Int)(c:List za)(r:Bool)(h:tL b e c=some r)(w₀:World)(hz:PZ [] w₀ Z)(ap:ZS Z 4 (vU Z) z B b.fM)(aq:ZS Z 4 (qr Z) F G b.yc)(ar:ZS Z 4 (rq jm) H I b.fS)(au:ZS Z 4 (rq qm) J K b.fK)(av:ZS Z 7 (qK Z) L M b.yd)(aw:ZS Z 5 (rq qI) N O b.fH)(ax:ZS Z 3 (qs Z) P Q b.fU)(ay:ZS Z 4 (rq qJ) R S b.yb)(f:ZS Z 3 (rq vw) T V c):
  RC 63 #[.agg #[vs z b.fM.length B,vs F b.yc.length G,vs H b.fS.length I,vs J b.fK.length K,vs L b.yd.length M,vs N b.fH.length O,vs P b.fU.length Q,vs R b.yb.length S],vi e,vs T c.length V] w₀ (.bool r) [] []:=by
 unfold tL at h
 refine Me func63 ntmps63 ?_
 let A:List Value:=[vs z b.fM.length B,vs F b.yc.length G,vs H b.fS.length I,vs J b.fK.length K,vs L b.yd.length M,vs N b.fH.length O,vs P b.fU.length Q,vs R b.yb.length S];refine B0q<|Lg 3 (xO (cs:=A) U U) ?_
 intro d _
 refine Q1n U<|WC.b<|B1q U<|Le 12 (xK underlying58 U)<|Q1n U<|Lk U h (fun az h=>?_)<|fun az h=>?_
 ·refine B1n U<|WC.ret<|Ll ?_
  obtain rfl:=oJ h
  exact Li results63 (.tmp U .nil)<|fun w hw=>⟨xJ U,hw.sub .nil⟩
 ·refine WC.skip<|Lb<|jK0 h fun ah aA h=>L7 (ah=some r) ([]) ([]) ?_ ?_
  ·let C:Value:=(vs T c.length V);refine B1n U<|WC.block<|L6 (fun(u:Nat) (a:Int)=>(ki c b e ah u a=some r)) (fun u a=>[(1,vi e),(2,C),(3,vp d),(7,vi a)]) (fun u a=>[stb d 31 A]) (fun u a=>u) ⟨xC,0⟩ h (.q U) (.cons .here .nil) ?_
   rintro(_|bg) a h;·cases h
   rw[ki] at h
   refine WC.b<|B2q U<|Le 16 (xK underlying58 U)<|Q1n U<|Lk U h (fun aB h=>?_)<|fun aB h=>?_
   ·refine WC.skip<|Lb<|jK0 h fun bh aC h=>L7 (bh=some r) ([(1,vi e),(2,C),(3,vp d),(7,vi a)]) ([stb d 31 A]) ?_ ?_
    ·refine WC.block<|WC.b<|cK h fun aD h=>cK h fun aE h=>cK h fun aF h=>cK h fun aG h=>Lz nc [] U<|Lf 0 20 U (q_m U)<|Lf 1 21 U (sG U U)<|Lf 2 22 U (q_m U)<|Lf 14 34 U (q_m U)<|Lf 15 35 U (q_m U)<|L2 (j:=16) (dd:=36) (by kernel_rfl) U zO zP U U (Z:=Z) (Pr:=(rq vw)) z1v U U f aF ?_
     rintro bm bn aH bo rfl
     refine Lf 17 37 U (xk jR U U)<|Lh 18 38 U (xl xu U<|xM hz.pv aH U)<|Lf 19 39 U (q_m U)<|L2 (j:=20) (dd:=40) (by kernel_rfl) U zO zP U U (Z:=Z) (Pr:=(rq vw)) z1v U U f aG ?_
     rintro bp bq aI br rfl
     refine Lf 21 41 U (xk ww U U)<|Lh 22 42 U (xl xu U<|xM hz.pv aI U)<|Lf 23 43 U (sG U U)<|Mc (fuel':=2) [(1,vi e),(2,C),(3,vp d),(7,vi a),(22,(.bool<|decide (a=0))),(43,(.bool<|decide (((nth c a).fX)=((nth c 0).ya)))),(33,.bool ((decide (a=0))||(decide (((nth c a).ya)=((nth c 0).ya)))))] (wl 26 [13,12,11,10,9,8,7,6,5,4,3,23,22,21,20,19,18,17,16,15,14,2,1,0]) ?_<|fun ai=>?_
     rotate_left
     ·rcases Bool.eq_false_or_eq_true (decide (a=0)) with hb' | hb'
      ·have W:=hb';clear hb'
       refine L4 (i:=22) U W<|Lj 3 23 U<|Lj 4 24 U<|Lj 5 25 U<|Lj 6 26 U<|Lj 7 27 U<|Lj 8 28 U<|Lj 9 29 U<|Lj 10 30 U<|Lj 11 31 U<|Lj 12 32 U<|Lf 13 33 U (qe U U)<|Lw (.cons .here .nil) ?_ ai
       exact .r7 U U U U (zt<|Eq.symm W) U<|zt<|kx W
      ·have v:=hb';clear hb'
       have aJ:=aD v
       have aK:=aE v
       refine L4 (i:=22) U v<|Lf 3 23 U (q_m U)<|Lf 4 24 U (q_m U)<|L2 (j:=5) (dd:=25) (by kernel_rfl) U zO zP U U (Z:=Z) (Pr:=(rq vw)) z1v U U f aJ ?_
       rintro bs bt aL bu rfl
       refine Lf 6 26 U (xk ww U U)<|Lh 7 27 U (xl xu U<|xM hz.pv aL U)<|Lf 8 28 U (q_m U)<|L2 (j:=9) (dd:=29) (by kernel_rfl) U zO zP U U (Z:=Z) (Pr:=(rq vw)) z1v U U f aK ?_
       rintro bv bw aM bx rfl
       refine Lf 10 30 U (xk ww U U)<|Lh 11 31 U (xl xu U<|xM hz.pv aM U)<|Lf 12 32 U (sG U U)<|Lf 13 33 U (qf U U)<|Lw (.cons .here .nil) ?_ ai
       exact .r7 U U U U (zt<|Eq.symm v) U<|zt<|ky v
     refine WD.d (bz 24 2) (by kernel_rfl)<|Lf 24 8 U (q_z U)<|Lf 25 9 U (q_z U)<|WD.done (by kernel_rfl)<|Lb<|jK2 h fun aj aN h=>WC.jO (fun(g:Bool) (k:Bool)=>(aj g k=some r)) (fun g k=>[(1,vi e),(2,C),(3,vp d),(7,vi a),(8,.bool g),(9,.bool k)]) (fun g k=>[stb d 31 A]) ?_ ?_
     ·refine B1n U<|WC.block<|WC.fj (fun(x:Nat) (n:Bool) (l:Bool) (m:Int)=>(gj a c aj x n l m=some r)) (fun x n l m=>[(1,vi e),(2,C),(3,vp d),(7,vi a),(8,.bool n),(9,.bool l),(10,vi m)]) (fun x n l m=>[stb d 31 A]) (fun x n l m=>x) ⟨xC,((decide (a=0))||(decide (((nth c a).ya)=((nth c 0).ya)))),decide (((nth c a).fX)=((nth c 0).ya)),0⟩ h (.q U) (.cons .here .nil) ?_
      rintro(_|bi) n l m h;·cases h
      rw[gj] at h
      refine WC.b<|B3n U<|Lk U h (fun aO h=>?_)<|fun aO h=>?_
      ·refine WC.skip<|Lb<|jK2 h fun bj aP h=>WC.jO (fun(p:Bool) (q:Bool)=>(bj p q=some r)) (fun p q=>[(1,vi e),(2,C),(3,vp d),(7,vi a),(8,.bool p),(9,.bool q),(10,vi m)]) (fun p q=>[stb d 31 A]) ?_ ?_
       ·refine WC.block<|jK1 h fun bk aQ h=>Ma (fun(o:Bool)=>(bk o=some r)) (fun o=>[(1,vi e),(2,C),(3,vp d),(7,vi a),(8,.bool o),(9,.bool l),(10,vi m)]) (fun o=>[stb d 31 A]) ?_ ?_
        ·refine WC.b<|cK h fun aR h=>cK h fun aS h=>Lz nc [] U<|Lf 0 49 U (q_m U)<|Lf 1 50 U (q_m U)<|L2 (j:=2) (dd:=51) (by kernel_rfl) U zO zP U U (Z:=Z) (Pr:=(rq vw)) z1v U U f aR ?_
         rintro bA bB aT bC rfl
         refine Lf 3 52 U (xk jR U U)<|Lh 4 53 U (xl xu U<|xM hz.pv aT U)<|Lf 5 54 U (q_m U)<|Lf 6 55 U (q_m U)<|L2 (j:=7) (dd:=56) (by kernel_rfl) U zO zP U U (Z:=Z) (Pr:=(rq vw)) z1v U U f aS ?_
         rintro bD bE aU bF rfl
         refine Lf 8 57 U (xk ww U U)<|Lh 9 58 U (xl xu U<|xM hz.pv aU U)<|Lf 10 59 U (sG U U)<|WD.done (by kernel_rfl)<|Lb<|Lk U h (fun aV h=>?_)<|fun aV h=>?_
         ·exact D1q U<|WL.nil<|Ln true h (.q U)<|.cons .here .nil
         ·exact WC.skip<|Ln n h (.q U)<|.cons .here .nil
        ·rintro o h
         replace h:=(aQ o).symm.trans h
         refine WC.b<|cK h fun aW h=>cK h fun aX h=>Lz nc [] U<|Lf 0 60 U (q_m U)<|Lf 1 61 U (q_m U)<|L2 (j:=2) (dd:=62) (by kernel_rfl) U zO zP U U (Z:=Z) (Pr:=(rq vw)) z1v U U f aW ?_
         rintro bG bH aY bI rfl
         refine Lf 3 63 U (xk jR U U)<|Lh 4 64 U (xl xu U<|xM hz.pv aY U)<|Lf 5 65 U (q_m U)<|Lf 6 66 U (q_m U)<|L2 (j:=7) (dd:=67) (by kernel_rfl) U zO zP U U (Z:=Z) (Pr:=(rq vw)) z1v U U f aX ?_
         rintro bJ bL aZ bM rfl
         refine Lf 8 68 U (xk jR U U)<|Lh 9 69 U (xl xu U<|xM hz.pv aZ U)<|Lf 10 70 U (sG U U)<|WD.done (by kernel_rfl)<|Lb<|Lk U h (fun a0 h=>?_)<|fun a0 h=>?_
         ·exact D1q U<|WL.nil<|Lt<|Ln ⟨o,true⟩ h (.q U)<|.cons .here .nil
         ·exact WC.skip<|Lt<|Ln ⟨o,l⟩ h (.q U)<|.cons .here .nil
       ·rintro p q h
        replace h:=(aP p q).symm.trans h
        exact D3q U<|WL.nil<|WX.round ⟨bi,p,q,i64 (m+1)⟩ h (Nat.lt_succ_self _) (.q U)<|.cons .here .nil
      ·exact WC.exit<|Lm<|Lm<|Lv<|Ln ⟨n,l⟩ h (.q U)<|.cons .here .nil
     ·rintro g k h
      replace h:=(aN g k).symm.trans h
      refine WC.b<|cK h fun a1 h=>cK h fun a2 h=>cK h fun a3 h=>bK h fun bl ak h=>Lz nc [] U<|Lf 0 71 U (q_m U)<|Lf 1 72 U (cz U)<|Lf 2 73 U (q_m U)<|Mc (fuel':=44) [(1,vi e),(2,C),(3,vp d),(7,vi a),(73,.bool (!g)),(75,.bool ((!g)||k))] (wl 49 [4,3,2,1,0]) ?_<|fun al=>?_
      rotate_left
      ·rcases Bool.eq_false_or_eq_true (!g) with hb' | hb'
       ·have X:=hb';clear hb'
        refine L4 (i:=73) U X<|Lj 3 74 U<|Lf 4 75 U (qe U U)<|Lw (.cons .here .nil) ?_ al
        exact .r6 U U U U (zt<|Eq.symm X)<|zt<|kx X
       ·have Y:=hb';clear hb'
        refine L4 (i:=73) U Y<|Lf 3 74 U (q_m U)<|Lf 4 75 U (qf U U)<|Lw (.cons .here .nil) ?_ al
        exact .r6 U U U U (zt<|Eq.symm Y)<|zt<|ky Y
      let E:=(b.fM.length:Int);let D:Value:=(.bool (((!g)||k)||((decide (((nth c a).ya)≠((nth c 0).ya)))&&(decide (((nth c a).ya)<E)))));refine WD.d (bz 5 44) (by kernel_rfl)<|Lf 5 76 U (q_m U)<|Mc (fuel':=21) [(1,vi e),(2,C),(3,vp d),(7,vi a),(76,.bool ((!g)||k)),(98,D)] (wl 49 (dn 28)) ?_<|fun am=>?_
      rotate_left
      ·rcases Bool.eq_false_or_eq_true ((!g)||k) with hb' | hb'
       ·have aa:=hb';clear hb'
        refine L4 (i:=76) U aa<|Lj 6 77 U<|Lj 7 78 U<|Lj 8 79 U<|Lj 9 80 U<|Lj 10 81 U<|Lj 11 82 U<|Lj 12 83 U<|Lj 13 84 U<|Lj 14 85 U<|Lj 15 86 U<|Lj 16 87 U<|Lj 17 88 U<|Lj 18 89 U<|Lj 19 90 U<|Lj 20 91 U<|Lj 21 92 U<|Lj 22 93 U<|Lj 23 94 U<|Lj 24 95 U<|Lj 25 96 U<|Lj 26 97 U<|Lf 27 98 U (qe U U)<|Lw (.cons .here .nil) ?_ am
        exact .r6 U U U U (zt<|Eq.symm aa)<|zt<|kx aa
       ·have t:=hb';clear hb'
        have a4:=a1 t
        have a5:=a2 t
        have a6:=a3 t
        refine L4 (i:=76) U t<|Lf 6 77 U (q_m U)<|Lf 7 78 U (q_m U)<|L2 (j:=8) (dd:=79) (by kernel_rfl) U zO zP U U (Z:=Z) (Pr:=(rq vw)) z1v U U f a4 ?_
        rintro bN bO a7 bP rfl
        refine Lf 9 80 U (xk ww U U)<|Lh 10 81 U (xl xu U<|xM hz.pv a7 U)<|Lf 11 82 U (q_m U)<|L2 (j:=12) (dd:=83) (by kernel_rfl) U zO zP U U (Z:=Z) (Pr:=(rq vw)) z1v U U f a5 ?_
        rintro bQ bR a8 bS rfl
        refine Lf 13 84 U (xk ww U U)<|Lh 14 85 U (xl xu U<|xM hz.pv a8 U)<|Lf 15 86 U (eh U U)<|Lf 16 87 U (q_m U)<|Mc (fuel':=22) [(1,vi e),(2,C),(3,vp d),(7,vi a),(76,.bool false),(87,(.bool<|decide (((nth c a).ya)≠((nth c 0).ya)))),(97,(.bool<|(decide (((nth c a).ya)≠((nth c 0).ya)))&&(decide (((nth c a).ya)<E))))] (wl 49 (dn 27)) ?_<|fun an=>?_
        rotate_left
        ·rcases Bool.eq_false_or_eq_true (decide (((nth c a).ya)≠((nth c 0).ya))) with hb' | hb'
         ·have y:=hb';clear hb'
          have a9:=a6 y
          refine L4 (i:=87) U y<|Lf 17 88 U (q_m U)<|Lf 18 89 U (q_m U)<|L2 (j:=19) (dd:=90) (by kernel_rfl) U zO zP U U (Z:=Z) (Pr:=(rq vw)) z1v U U f a9 ?_
          rintro bT bU ba bV rfl
          refine Lf 20 91 U (xk ww U U)<|Lh 21 92 U (xl xu U<|xM hz.pv ba U)<|Lf 22 93 U (xk jB U U)<|Lh 23 94 U (xl z4F U<|xt .here U)<|Lf 24 95 U (xK underlying22 U)<|Lf 25 96 U (lR U U)<|Lf 26 97 U (qe U U)<|Lw (.cons .here .nil) ?_ an
          exact .r7 U U U U U (zt<|Eq.symm y)<|zt<|vz y
         ·have ab:=hb';clear hb'
          refine L4 (i:=87) U ab<|Lj 17 88 U<|Lj 18 89 U<|Lj 19 90 U<|Lj 20 91 U<|Lj 21 92 U<|Lj 22 93 U<|Lj 23 94 U<|Lj 24 95 U<|Lj 25 96 U<|Lf 26 97 U (qf U U)<|Lw (.cons .here .nil) ?_ an
          exact .r7 U U U U U (zt<|Eq.symm ab)<|zt<|vy ab
        refine WD.d (bz 27 22) (by kernel_rfl)<|Lf 27 98 U (qf U U)<|Lw (.cons .here .nil) ?_ am
        exact .r6 U U U U (zt<|Eq.symm t)<|zt<|ky t
      refine WD.d (bz 28 21) (by kernel_rfl)<|Lf 28 99 U (q_m U)<|Mc (fuel':=0) [(1,vi e),(2,C),(3,vp d),(7,vi a),(99,D),(119,.bool bl)] (wl 49 (dn 49)) ?_<|fun ao=>?_
      rotate_left
      ·rcases Bool.eq_false_or_eq_true (((!g)||k)||((decide (((nth c a).ya)≠((nth c 0).ya)))&&(decide (((nth c a).ya)<b.fM.length)))) with hb' | hb'
       ·have ad:=hb';clear hb'
        have ae:=q7 ak ad
        replace ae:=oJ ae
        refine L4 (i:=99) U ad<|Lj 29 100 U<|Lj 30 101 U<|Lj 31 102 U<|Lj 32 103 U<|Lj 33 104 U<|Lj 34 105 U<|Lj 35 106 U<|Lj 36 107 U<|Lj 37 108 U<|Lj 38 109 U<|Lj 39 110 U<|Lj 40 111 U<|Lj 41 112 U<|Lj 42 113 U<|Lj 43 114 U<|Lj 44 115 U<|Lj 45 116 U<|Lj 46 117 U<|Lj 47 118 U<|Lf 48 119 U (qe U U)<|Lw (.cons .here .nil) ?_ ao
        exact .r6 U U U U (zt<|Eq.symm ad)<|zt ae
       ·have af:=hb';clear hb'
        have s:=q8 ak af
        obtain⟨ag,s⟩:=xq s
        obtain⟨b5,bb,s⟩:=z8 s
        replace s:=oJ s
        refine L4 (i:=99) U af<|Lh 29 100 U (xw z1j U (xy .here) U)<|Lf 30 101 U (q_m U)<|Lf 31 102 U (q_m U)<|Lf 32 103 U (q_m U)<|L2 (j:=33) (dd:=104) (by kernel_rfl) U zO zP U U (Z:=Z) (Pr:=(rq vw)) z1v U U f ag ?_
        rintro bW bX bc bY rfl
        refine Lf 34 105 U (xk kz U U)<|Lh 35 106 U (xl xu U<|xM hz.pv bc U)<|Lf 36 107 U (q_m U)<|Lf 37 108 U (q_m U)<|L2 (j:=38) (dd:=109) (by kernel_rfl) U zO zP U U (Z:=Z) (Pr:=(rq vw)) z1v U U f ag ?_
        rintro bZ b0 bd b1 rfl
        refine Lf 39 110 U (xk ww U U)<|Lh 40 111 U (xl xu U<|xM hz.pv bd U)<|Lf 41 112 U (q_m U)<|Lf 42 113 U (q_m U)<|L2 (j:=43) (dd:=114) (by kernel_rfl) U zO zP U U (Z:=Z) (Pr:=(rq vw)) z1v U U f ag ?_
        rintro b2 b3 be b4 rfl
        refine Lf 44 115 U (xk jR U U)<|Lh 45 116 U (xl xu U<|xM hz.pv be U)<|L5 46 117 U (zb call111<|.r5 U U U U U) (cc hz .nil fun w pz ho=>X4 _ _ _ _ _ _ _ _ _ _ _ _ _ _ _ _ _ _ _ _ _ _ _ bb w pz ap aq ar au av aw ax ay)<|Lf 47 118 U (cz U)<|Lf 48 119 U (qf U U)<|Lw (.cons .here .nil) ?_ ao
        exact .r6 U U U U (zt<|Eq.symm af)<|zt s
      refine WD.d (bz 49 0) (by kernel_rfl)<|WD.done (by kernel_rfl)<|Lb<|Lk U h (fun bf h=>?_)<|fun bf h=>?_
      ·refine B1n U<|WC.ret<|Lu<|Ll<|Ll<|Lu<|Ll ?_
       obtain rfl:=oJ h
       exact Li results63 (.tmp U .nil)<|fun w hw=>⟨xJ U,hw.sub .nil⟩
      ·exact WC.skip<|Lt<|Ln () h (.q U)<|.cons .here .nil
    ·rintro  h
     replace h:=aC.symm.trans h
     exact D3q U<|WL.nil<|WX.round ⟨bg,i64 (a+1)⟩ h (Nat.lt_succ_self _) (.q U)<|.cons .here .nil
   ·exact WC.exit<|Lm<|Lm<|Lv<|Ln () h .nil .nil
  ·rintro  h
   replace h:=aA.symm.trans h
   refine B1n U<|WC.ret ?_
   obtain rfl:=oJ h
   exact Li results63 (.tmp U .nil)<|fun w hw=>⟨xJ U,hw.sub .nil⟩
def kj(b:List (List za))(c:zi)(d:Int)(e:Option Bool):Nat->Int->Option Bool
 | 0,_=>none
 | f+1,a=>if decide (a<b.length) then chk (0<=a/\a<b.length) ((tL c d (nth b a)).bind fun g=>if !g then some false else kj b c d e f (i64 (a+1))) else e
def f9(c:zi)(a:Int)(b:List (List za)):Option Bool:=
 if (((decide (a≠0))&&(decide (a≠1)))||(decide ((b.length:Int)≠(c.yd.length:Int))))||(decide ((b.length:Int)>16)) then some false else g8 (some true) fun d=>kj b c a d xC 0
theorem rt(Z:Zp)(f:Option Addr)(g:Nat)(i:Option Addr)(k:Nat)(l:Option Addr)(m:Nat)(n:Option Addr)(o:Nat)(p:Option Addr)(q:Nat)(s:Option Addr)(t:Nat)(u:Option Addr)(v:Nat)(x:Option Addr)(y:Nat)(z:Option Addr)(D:Nat)(a:zi)(b:Int)(c:List (List za))(r:Bool)(h:f9 a b c=some r)(w₀:World)(hz:PZ [] w₀ Z)(G:ZS Z 4 (vU Z) f g a.fM)(H:ZS Z 4 (qr Z) i k a.yc)(I:ZS Z 4 (rq jm) l m a.fS)(J:ZS Z 4 (rq qm) n o a.fK)(K:ZS Z 7 (qK Z) p q a.yd)(L:ZS Z 5 (rq qI) s t a.fH)(M:ZS Z 3 (qs Z) u v a.fU)(N:ZS Z 4 (rq qJ) x y a.yb)(O:ZS Z 1 (qt Z) z D c):
  RC 29 #[.agg #[vs f a.fM.length g,vs i a.yc.length k,vs l a.fS.length m,vs n a.fK.length o,vs p a.yd.length q,vs s a.fH.length t,vs u a.fU.length v,vs x a.yb.length y],vi b,vs z c.length D] w₀ (.bool r) [] []:=by
 unfold f9 at h
 refine Me func29 ntmps29 ?_
 let A:List Value:=[vs f a.fM.length g,vs i a.yc.length k,vs l a.fS.length m,vs n a.fK.length o,vs p a.yd.length q,vs s a.fH.length t,vs u a.fU.length v,vs x a.yb.length y];refine B0q<|Lg 3 (xO (cs:=A) U U) ?_
 intro E _
 refine Q1n U<|WC.b<|WC.b<|Ld<|La U<|La U<|La U<|Lx true 2 10 (B:=(decide (b≠0))&&(decide (b≠1))) U U U U U U (fun h=>(vy h).symm) (fun _ P=>?_) ?_
 ·exact La U<|La U<|La U<|Ly (vz P) U U .all
 let C:=(a.yd.length:Int);refine La U<|Lx false 6 14 (B:=((decide (b≠0))&&(decide (b≠1)))||(decide ((c.length:Int)≠C))) U U U U U U (fun h=>(kx h).symm) (fun _ Q=>?_) ?_
 ·exact La U<|Le 16 (xK underlying32 U)<|Le 17 (xk ma U U)<|Le 18 (xl z9f U<|xt .here U)<|Le 19 (xK underlying26 U)<|Q2q U<|Ly (ky Q) U U .all
 refine La U<|Lx false 3 22 (B:=(((decide (b≠0))&&(decide (b≠1)))||(decide ((c.length:Int)≠C)))||(decide ((c.length:Int)>16))) U U U U U U (fun h=>(kx h).symm) (fun _ R=>?_) ?_
 ·exact La U<|Le 24 (xK underlying32 U)<|Q2q U<|Ly (ky R) U U .all
 refine Q0n<|Lk U h (fun S h=>?_)<|fun S h=>?_
 ·refine B1n U<|WC.ret<|Ll ?_
  obtain rfl:=oJ h
  exact Li results29 (.tmp U .nil)<|fun w hw=>⟨xJ U,hw.sub .nil⟩
 ·refine WC.skip<|Lb<|jK0 h fun F T h=>L7 (F=some r) ([]) ([]) ?_ ?_
  ·refine B1n U<|WC.block<|L6 (fun(e:Nat) (d:Int)=>(kj c a b F e d=some r)) (fun e d=>[(1,vi b),(2,vs z c.length D),(3,vp E),(7,vi d)]) (fun e d=>[stb E 31 A]) (fun e d=>e) ⟨xC,0⟩ h (.q U) (.cons .here .nil) ?_
   rintro(_|ad) d h;·cases h
   rw[kj] at h
   refine WC.b<|B2q U<|Le 29 (xK underlying32 U)<|Q1n U<|Lk U h (fun V h=>?_)<|fun V h=>?_
   ·refine WC.skip<|Lb<|WC.b<|WC.block<|WC.b<|cK h fun W h=>bK h fun aj X h=>Lz nc [] U<|Lh 0 33 U (xw z1j U (xy .here) U)<|Lf 1 34 U (q_m U)<|Lf 2 35 U (q_m U)<|Lf 3 36 U (q_m U)<|L2 (j:=4) (dd:=37) (by kernel_rfl) U zO zP U U (Z:=Z) (Pr:=(qt Z)) z3K U U O W ?_
    rintro ae af Y ag ⟨ah,ai,rfl,aa⟩
    refine Lh 5 38 U (xl z3q U<|q9 hz.pv Y U)<|L5 6 39 U (zb call63<|.r3 U U U) (cc hz .nil fun w pz ho=>X5 _ _ _ _ _ _ _ _ _ _ _ _ _ _ _ _ _ _ _ _ _ _ _ X w pz G H I J K L M N aa)<|Lf 7 40 U (cz U)<|WD.done (by kernel_rfl)<|Lb<|Lk U h (fun ab h=>?_)<|fun ab h=>?_
    ·refine B1n U<|WC.ret<|Lu<|Ll<|Ll<|Lu<|Ll ?_
     obtain rfl:=oJ h
     exact Li results29 (.tmp U .nil)<|fun w hw=>⟨xJ U,hw.sub .nil⟩
    ·exact WC.skip<|Lt<|Lb<|D3q U<|WL.nil<|WX.round ⟨ad,i64 (d+1)⟩ h (Nat.lt_succ_self _) (.q U)<|.cons .here .nil
   ·exact WC.exit<|Lm<|Lm<|Lv<|Ln () h .nil .nil
  ·rintro  h
   replace h:=T.symm.trans h
   refine B1n U<|WC.ret ?_
   obtain rfl:=oJ h
   exact Li results29 (.tmp U .nil)<|fun w hw=>⟨xJ U,hw.sub .nil⟩
def kl(b:Int->Option Bool):Nat->Int->Option Bool
 | 0,_=>none
 | c+1,a=>if (decide (a>100))&&(decide ((Int.tmod a 2)=0)) then kl b c (i64 (Int.tdiv a 2)) else b a
def ua(a:ym):Option Bool:=
 vk (fun(b:Int)=>some ((((decide (b=100))&&(decide (a.yo<=12800)))&&(decide (a.yn>=1)))&&(decide (a.yn<=72)))) fun c=>kl c xC a.yo
theorem X6(Z:Zp)(f:Option Addr)(g:Nat)(a:ym)(r:Bool)(h:ua a=some r)(w₀:World)(hz:PZ [] w₀ Z)(q:ZS Z 3 (rq lZ) f g a.yy):
  RC 30 #[.agg #[.string a.yq,.string a.yi.yp,.string a.yi.yt,.string a.yi.yu,vi a.yo,vi a.yn,vs f a.yy.length g]] w₀ (.bool r) [] []:=by
 unfold ua at h
 refine L9 func30 ntmps30 ?_
 let A:List Value:=[.string a.yq,.string a.yi.yp,.string a.yi.yt,.string a.yi.yu,vi a.yo,vi a.yn,vs f a.yy.length g];refine B0q<|Lg 1 (xO (cs:=A) U U) ?_
 intro e _
 refine Q1n U<|B0q<|Le 4 (xk oY U U)<|Le 5 (xl xu U<|xt .here U)<|Q1n U<|jK1 h fun i j h=>Ma (fun(c:Int)=>(i c=some r)) (fun c=>[(1,vp e),(3,vi c)]) (fun c=>[stb e 69 A]) ?_ ?_
 ·refine WC.block<|L6 (fun(d:Nat) (b:Int)=>(kl i d b=some r)) (fun d b=>[(1,vp e),(3,vi b)]) (fun d b=>[stb e 69 A]) (fun d b=>d) ⟨xC,a.yo⟩ h (.q U) (.cons .here .nil) ?_
  rintro(_|p) b h;·cases h
  rw[kl] at h
  refine WC.b<|WC.b<|Ld<|La U<|La U<|La U<|Lx true 3 8 (B:=(decide (b>100))&&(decide ((Int.tmod b 2)=0))) U U U U U U (fun h=>(vy h).symm) (fun _ k=>?_) ?_
  ·exact La U<|Le 10 (Xb U U (by decide) U)<|Q2q U<|Ly (vz k) U U .all
  refine Q0n<|Lk U h (fun l h=>?_)<|fun l h=>?_
  ·exact WC.skip<|Lb<|WC.block<|D1q U<|Le 14 (rM U U (by decide) U)<|La U<|WL.nil<|Lt<|WX.round ⟨p,(i64<|Int.tdiv b 2)⟩ h (Nat.lt_succ_self _) (.q U)<|.cons .here .nil
  ·exact WC.exit<|Lm<|Lm<|Lv<|Ln b h (.q U)<|.cons .here .nil
 ·rintro c h
  replace h:=(j c).symm.trans h
  refine WC.b<|Ld<|La U<|La U<|La U<|Lx true 3 17 (B:=(decide (c=100))&&(decide (a.yo<=12800))) U U U U U U (fun h=>(vy h).symm) (fun _ m=>?_) ?_
  ·exact Le 18 (xk oY U U)<|Le 19 (xl xu U<|xt .here U)<|Q2q U<|Ly (vz m) U U .all
  refine La U<|Lx true 3 22 (B:=((decide (c=100))&&(decide (a.yo<=12800)))&&(decide (a.yn>=1))) U U U U U U (fun h=>(vy h).symm) (fun _ n=>?_) ?_
  ·exact Le 23 (xk mY U U)<|Le 24 (xl xu U<|xt .here U)<|Q2q U<|Ly (vz n) U U .all
  refine La U<|Lx true 3 27 (B:=(((decide (c=100))&&(decide (a.yo<=12800)))&&(decide (a.yn>=1)))&&(decide (a.yn<=72))) U U U U U U (fun h=>(vy h).symm) (fun _ o=>?_) ?_
  ·exact Le 28 (xk mY U U)<|Le 29 (xl xu U<|xt .here U)<|Q2q U<|Ly (vz o) U U .all
  refine Q1n U<|WC.ret ?_
  obtain rfl:=oJ h
  exact Li results30 (.tmp U .nil)<|fun w hw=>⟨xJ U,hw.sub .nil⟩
def gH(b:List ye)(c:Int)(d:Int)(e:Option Int):Nat->Int->Option Int
 | 0,_=>none
 | f+1,a=>if decide (a<b.length) then chk (0<=a/\a<b.length) (chk ((decide (((nth b a).ya)=c))=true->(0<=a/\a<b.length)) (if (decide (((nth b a).ya)=c))&&(decide (((nth b a).fQ)=d)) then some a else gH b c d e f (i64 (a+1)))) else e
def vG(a:List ye)(b:Int)(c:Int):Option Int:=
 g8 (some (-1)) fun d=>gH a b c d xC 0
theorem tP(Z:Zp)(f:Option Addr)(g:Nat)(b:List ye)(c:Int)(d:Int)(r:Int)(h:vG b c d=some r)(w₀:World)(hz:PZ [] w₀ Z)(i:ZS Z 4 (rq xY) f g b):
  RC 34 #[vs f b.length g,vi c,vi d] w₀ (vi r) [] []:=by
 unfold vG at h
 refine Me func34 ntmps34 ?_
 refine B1n U<|jK0 h fun j l h=>L7 (j=some r) ([]) ([]) ?_ ?_
 ·refine B1n U<|WC.block<|L6 (fun(e:Nat) (a:Int)=>(gH b c d j e a=some r)) (fun e a=>[(0,vs f b.length g),(1,vi c),(2,vi d),(7,vi a)]) (fun e a=>[]) (fun e a=>e) ⟨xC,0⟩ h (.q U) .nil ?_
  rintro(_|u) a h;·cases h
  rw[gH] at h
  refine WC.b<|B2q U<|Le 10 (xK underlying33 U)<|Q1n U<|Lk U h (fun m h=>?_)<|fun m h=>?_
  ·refine WC.skip<|Lb<|WC.b<|WC.block<|WC.b<|cK h fun n h=>cK h fun o h=>D2q U<|L0 (dd:=16) U U (Z:=Z) (Pr:=(rq xY)) z1r U U i n ?_
   rintro v x p y rfl
   refine Le 17 (xk gt U U)<|Le 18 (xl xu U<|xM hz.pv p U)<|La U<|La U<|La U<|Lx true 7 21 (B:=(decide (((nth b a).ya)=c))&&(decide (((nth b a).fQ)=d))) U U U U U U (fun h=>(vy h).symm) (fun _ k=>?_) ?_
   ·have q:=o k
    refine Q2q U<|L0 (dd:=24) U U (Z:=Z) (Pr:=(rq xY)) z1r U U i q ?_
    rintro z A s C rfl
    exact Le 25 (xk mb U U)<|Le 26 (xl xu U<|xM hz.pv s U)<|La U<|La U<|La U<|Ly (vz k) U U .all
   refine Q0n<|Lk U h (fun t h=>?_)<|fun t h=>?_
   ·refine B2n U<|WC.ret<|Lu<|Ll<|Ll<|Lu<|Ll ?_
    obtain rfl:=oJ h
    exact Li results34 (.tmp U .nil)<|fun w hw=>⟨xJ U,hw.sub .nil⟩
   ·exact WC.skip<|Lt<|Lb<|D3q U<|WL.nil<|WX.round ⟨u,i64 (a+1)⟩ h (Nat.lt_succ_self _) (.q U) .nil
  ·exact WC.exit<|Lm<|Lm<|Lv<|Ln () h .nil .nil
 ·rintro  h
  replace h:=l.symm.trans h
  refine B1n U<|WC.ret ?_
  obtain rfl:=oJ h
  exact Li results34 (.tmp U .nil)<|fun w hw=>⟨xJ U,hw.sub .nil⟩
end Go.Proofs.YthjnhebofpebpaaGreat
