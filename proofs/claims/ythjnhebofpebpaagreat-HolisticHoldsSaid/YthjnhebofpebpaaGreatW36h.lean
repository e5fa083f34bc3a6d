/- A part of this claim's proof: models of functions, walks, plain laws. No conditions. -/
import Derived.Test.YthjnhebofpebpaaGreatW36g
set_option linter.all false
namespace Go.Proofs.YthjnhebofpebpaaGreat
open Go Go.RowKit Sep Tryz
section
set_option maxRecDepth 30000
set_option maxHeartbeats 4000000
def tV(b:yM)(c:yM)(d:Option Bool):Nat->Int->Option Bool
 | 0,_=>none
 | e+1,a=>if decide (a<b.fP.length) then chk (0<=a/\a<b.fP.length) (chk (0<=a/\a<c.fP.length) (if decide ((⟨(nth b.fP a).ya,(nth b.fP a).fQ,(nth b.fP a).yl,(nth b.fP a).fT⟩:ys)≠(⟨(nth c.fP a).ya,(nth c.fP a).fQ,(nth c.fP a).yl,(nth c.fP a).fT⟩:ys)) then some false else tV b c d e (i64 (a+1)))) else d
def tW(b:yM)(c:yM)(d:Option Bool):Nat->Int->Option Bool
 | 0,_=>none
 | e+1,a=>if decide (a<b.yx.length) then chk (0<=a/\a<b.yx.length) (chk (0<=a/\a<c.yx.length) (if decide ((⟨(nth b.yx a).yt,(nth b.yx a).ya,(nth b.yx a).yl⟩:zw)≠(⟨(nth c.yx a).yt,(nth c.yx a).ya,(nth c.yx a).yl⟩:zw)) then some false else tW b c d e (i64 (a+1)))) else d
def b6(a:yM)(b:yM):Option Bool:=
 if (decide ((a.fP.length:Int)≠(b.fP.length:Int)))||(decide ((a.yx.length:Int)≠(b.yx.length:Int))) then some false else uN (uN (some true) fun c=>tW a b c xT 0) fun d=>tV a b d xT 0
theorem Jb{Z m n o p q s t u c d r}(h:b6 c d=some r){Ny}(hz:PZ [] Ny Z)(y:ZS Z 4 (rq jU) m n c.fP)(z:ZS Z 3 (rq fI) o p c.yx)(D:ZS Z 4 (rq jU) q s d.fP)(E:ZS Z 3 (rq fI) t u d.yx):
  RC 16 #[.agg #[vs m c.fP.length n,vs o c.yx.length p],.agg #[vs q d.fP.length s,vs t d.yx.length u]] Ny (.bool r) [] []:=by
 unfold b6 at h
 refine L0 func16 U U ?_
 let A:List Value:=[vs m c.fP.length n,vs o c.yx.length p];refine B0q<|Lh 2 (we (cs:=A)) ?_
 intro g _
 let C:List Value:=[vs q d.fP.length s,vs t d.yx.length u];refine Lh 3 (we (cs:=C)) ?_
 intro i _
 refine Q1n U<|WC.b<|B0q<|Le 7 (xB mX)<|Le 8 (Nu z8G .h1)<|Le 9 (wc underlying33)<|Le 10 (xB mX)<|Le 11 (Nu z8G .here)<|Le 12 (wc underlying33)<|Q2q U<|Ly false 7 14 (B:=(decide ((c.fP.length:Int)≠(d.fP.length:Int)))||(decide ((c.yx.length:Int)≠(d.yx.length:Int)))) (hB:=(fun h=>(fc h).symm)) (fun _ F=>?_) ?_
 ·exact Le 15 (xB oE)<|Le 16 (Nu zoN .h1)<|Le 17 (wc underlying38)<|Le 18 (xB oE)<|Le 19 (Nu zoN .here)<|Le 20 (wc underlying38)<|Q2q U<|Lz (ff F) U .all
 refine Q0n<|Lj h (fun G h=>?_)<|fun G h=>?_
 ·exact B1n U<|Nz<|Ll<|oJ h▸Nm results16
 ·refine Np<|jK0 h fun v H h=>Nf (v=some r) ([(2,vp g),(3,vp i)]) ([stb g 40 A,stb i 40 C]) ?_ ?_
  ·refine B1n U<|WC.block<|Ng (fun k e=>(tV c d v k e=some r)) (fun k e=>[(2,vp g),(3,vp i),(5,vi e)]) (fun k e=>[stb g 40 A,stb i 40 C]) (fun k e=>k) ⟨xT,0⟩ h .q (.s2 .h1 .here) ?_
   rintro(_|W) e h;·cases h
   rw[tV] at h
   refine WC.b<|B1q U<|Le 24 (xB mX)<|Le 25 (Nu z8G .here)<|Le 26 (wc underlying33)<|Q1n U<|Lj h (fun I h=>?_)<|fun I h=>?_
   ·refine Np<|WC.b<|WC.block<|WC.b<|cK h fun J h=>cK h fun K h=>Lu nc []<|Lf 0 U (xB mX)<|Lg 1 U (Nu z8G .here)<|Lf 2 U q_m<|L7 (j:=3) (Z:=Z) (Pr:=(rq jU)) z8F y J ?_
    rintro Y aa L ab rfl
    refine Lg 4 U (xN zdU (qB hz.pv L))<|Lf 5 U (xB mX)<|Lg 6 U (Nu z8G .h1)<|Lf 7 U q_m<|L7 (j:=8) (Z:=Z) (Pr:=(rq jU)) z8F D K ?_
    rintro ad ae M af rfl
    refine Lg 9 U (xN zdU (qB hz.pv M))<|Lf 10 U (eO (enc:=jU) (a:=(⟨(nth c.fP e).ya,(nth c.fP e).fQ,(nth c.fP e).yl,(nth c.fP e).fT⟩:ys)) (b:=(⟨(nth d.fP e).ya,(nth d.fP e).fQ,(nth d.fP e).yl,(nth d.fP e).fT⟩:ys)) zXv U U)<|N1<|Lb<|Lj h (fun N h=>?_)<|fun N h=>?_
    ·exact B1n U<|Nz<|Lx<|Ll<|Ll<|Lx<|Ll<|oJ h▸Nm results16
    ·exact N3<|Lt<|Lb<|D3q U<|WL.nil<|N0 ⟨W,i64 (e+1)⟩ h .q<|.a2
   ·exact N2<|Ln<|Ln<|Lv<|Lp () h .q<|.a2
  ·rintro  h
   replace h:=H.symm.trans h
   refine jK0 h fun x O h=>Nf (x=some r) ([]) ([]) ?_ ?_
   ·refine B1n U<|WC.block<|Ng (fun l f=>(tW c d x l f=some r)) (fun l f=>[(2,vp g),(3,vp i),(6,vi f)]) (fun l f=>[stb g 40 A,stb i 40 C]) (fun l f=>l) ⟨xT,0⟩ h .q .a2 ?_
    rintro(_|X) f h;·cases h
    rw[tW] at h
    refine WC.b<|B1q U<|Le 42 (xB oE)<|Le 43 (Nu zoN .here)<|Le 44 (wc underlying38)<|Q1n U<|Lj h (fun P h=>?_)<|fun P h=>?_
    ·refine Np<|WC.b<|WC.block<|WC.b<|cK h fun Q h=>cK h fun R h=>Lu nc []<|Lf 0 U (xB oE)<|Lg 1 U (Nu zoN .here)<|Lf 2 U q_m<|L7 (j:=3) (Z:=Z) (Pr:=(rq fI)) zlZ z Q ?_
     rintro ag ah S ai rfl
     refine Lg 4 U (xN zCY (qB hz.pv S))<|Lf 5 U (xB oE)<|Lg 6 U (Nu zoN .h1)<|Lf 7 U q_m<|L7 (j:=8) (Z:=Z) (Pr:=(rq fI)) zlZ E R ?_
     rintro aj ak T al rfl
     refine Lg 9 U (xN zCY (qB hz.pv T))<|Lf 10 U (eO (enc:=fI) (a:=(⟨(nth c.yx f).yt,(nth c.yx f).ya,(nth c.yx f).yl⟩:zw)) (b:=(⟨(nth d.yx f).yt,(nth d.yx f).ya,(nth d.yx f).yl⟩:zw)) zXw U U)<|N1<|Lb<|Lj h (fun V h=>?_)<|fun V h=>?_
     ·exact B1n U<|Nz<|Lx<|Ll<|Ll<|Lx<|Ll<|oJ h▸Nm results16
     ·exact N3<|Lt<|Lb<|D3q U<|WL.nil<|N0 ⟨X,i64 (f+1)⟩ h .q<|.a2
    ·exact N2<|Ln<|Ln<|Lv<|Lp () h .nil .nil
   ·rintro  h
    replace h:=O.symm.trans h
    exact B1n U<|Nz<|oJ h▸Nm results16
def tX(b:List Int)(c:List Int)(d:Option Bool):Nat->Int->Option Bool
 | 0,_=>none
 | e+1,a=>if decide (a<b.length) then chk (0<=a/\a<b.length) (chk (0<=a/\a<c.length) (if decide ((nth b a)≠(nth c a)) then some false else tX b c d e (i64 (a+1)))) else d
def b7(a:List Int)(b:List Int):Option Bool:=
 if decide ((a.length:Int)≠(b.length:Int)) then some false else uN (some true) fun c=>tX a b c xT 0
theorem Jc{Z e f g i b c r}(h:b7 b c=some r){Ny}(hz:PZ [] Ny Z)(l:ZS Z 1 (rq e3) e f b)(m:ZS Z 1 (rq e3) g i c):
  RC 17 #[vs e b.length f,vs g c.length i] Ny (.bool r) [] []:=by
 unfold b7 at h
 refine L0 func17 U U<|B1n U<|WC.b<|B1q U<|Le 7 (wc underlying50)<|La U<|Le 9 (wc underlying50)<|Q1n U<|Lj h (fun n h=>?_)<|fun n h=>?_
 ·exact B1n U<|Nz<|Ll<|oJ h▸Nm results17
 ·refine Np<|jK0 h fun k o h=>Nf (k=some r) ([]) ([]) ?_ ?_
  ·refine B1q U<|Le 12 (wc underlying50)<|Q1n U<|WC.block<|Ng (fun d a=>(tX b c k d a=some r)) (fun d a=>[(0,vs e b.length f),(1,vs g c.length i),(12,vi (b.length:Int)),(13,vi a)]) (fun d a=>[]) (fun d a=>d) ⟨xT,0⟩ h .q .nil ?_
   rintro(_|x) a h;·cases h
   rw[tX] at h
   refine B1n U<|WC.b<|Lj h (fun p h=>?_)<|fun p h=>?_
   ·refine Np<|WC.b<|WC.block<|B2n U<|WC.b<|cK h fun q h=>cK h fun s h=>Lu nc []<|Lf 0 U q_m<|Lf 1 U q_m<|L7 (j:=2) (Z:=Z) (Pr:=(rq e3)) z5U l q ?_
    rintro y z t A rfl
    refine Lg 3 U (xC xL U<|kz hz.pv t)<|Lf 4 U q_m<|Lf 5 U q_m<|L7 (j:=6) (Z:=Z) (Pr:=(rq e3)) z5U m s ?_
    rintro B C u D rfl
    refine Lg 7 U (xC xL U<|kz hz.pv u)<|Lf 8 U (Qo U U)<|N1<|Lb<|Lj h (fun v h=>?_)<|fun v h=>?_
    ·exact B1n U<|Nz<|Lx<|Ll<|Ll<|Lx<|Ll<|oJ h▸Nm results17
    ·exact N3<|Lt<|Lb<|D2q U<|WL.nil<|N0 ⟨x,i64 (a+1)⟩ h .q .nil
   ·exact N2<|Ln<|Ln<|Lv<|Lp () h .nil .nil
  ·rintro  h
   replace h:=o.symm.trans h
   exact B1n U<|Nz<|oJ h▸Nm results17
def uz  : Option Bool:=
 (oX).bind fun a=>(mf a.1 0 a.2).bind fun b=>(pF a.1 a.2 b.1.fP).bind fun c=>(if decide (b.2=0) then(b6 b.1 (⟨([(⟨0,0,40,80⟩:ys),(⟨2,1,56,80⟩:ys)]:List ys),([(⟨0,1,96⟩:zw)]:List zw)⟩:yM)).bind fun d=>some d else some false).bind fun e=>(if e&&(decide ((c.length:Int)=1)) then chk ((0:Int)<=0/\0<(c.length:Int)) ((b7 (nth c 0) ([0,39]:List Int)).bind fun f=>some f) else some false).bind fun g=>some g
theorem oo{Z r}(h:uz=some r){Ny}(hz:PZ [] Ny Z):
  RC 11 #[] Ny (.bool r) [] []:=by
 unfold uz at h
 refine Oh func11 U U<|WC.pool<|B1n U<|WC.b<|bK h fun i E h=>Ld<|Rh U U U (Nt call19) .nil (mv hz .nil .here fun w pz ho=>W8 E pz ) ?_
 rintro aa ab ad ae af ag ah ai aj ak al am an ao ap aq ar au av aw ax ay ⟨p,q,s,t,u,x,y⟩
 refine WL.merge .here .h5<|Q2q U<|La U (Lh 1 (xV (cs:=[vn,vn,vn,vn,vn,vn,vn,vn]) zxK U) fun az _=>Lk (xR zxL .here)<|Q1n U<|WC.b ?_)
 refine bK h fun W F h=>Ld<|Le 12 (xN z2A (xO .here))<|La U<|Ol U (Nt call12) .nil (cN hz .nil .h1 (.s5 .h2 .h2 .h2 .h2 .h2) fun w pz ho la=>iE F pz (ZA.row (la _ (.head _) _) ((p.weak<|fun _ _ h=>vc xF.wA h).weak (fun _ _ h=>vc zl h)) ⟨w,pz.1⟩) ((((q.mono<|xF.wA).weak (fun _ _ h=>vA xF.wA h)).mono zl).weak (fun _ _ h=>vA zl h)) (ZA.row (la _ (.tail _<|.head _) _) (RR.flat (enc:=kr)) ⟨w,pz.1⟩) (ZA.row (la _ (.tail _<|.tail _<|.head _) _) (RR.flat (enc:=gH)) ⟨w,pz.1⟩) (ZA.row (la _ (.tail _<|.tail _<|.tail _<|.head _) _) ((s.weak<|fun _ _ h=>ve xF.wA h).weak (fun _ _ h=>ve zl h)) ⟨w,pz.1⟩) ((t.mono<|xF.wA).mono zl) ((((u.mono<|xF.wA).weak (fun _ _ h=>vB xF.wA h)).mono zl).weak (fun _ _ h=>vB zl h)) ((x.mono<|xF.wA).mono zl)<|ZA.row (la _ (.tail _<|.tail _<|.tail _<|.tail _<|.head _) _) ((y.weak<|fun _ _ h=>qe xF.wA h).weak (fun _ _ h=>qe zl h)) ⟨w,pz.1⟩) ?_
 rintro aA aB aC aD _
 refine Q2q U<|La U (Lh 3 (xV (cs:=[vn,vn]) zj4 U) fun aE _=>Lk (xR z9s .here)<|Q1n U<|B0q<|Le 17 (wl (v:=(.agg #[vi 0,vi 0,vi 40,vi 80])) (Lq (l:=[.const (vi 0),.const (vi 0),.const (vi 40),.const (vi 80)]) (.r4 U U U U) [0,1,2,3]))<|Le 18 (wl (v:=(.agg #[vi 2,vi 1,vi 56,vi 80])) (Lq (l:=[.const (vi 2),.const (vi 1),.const (vi 56),.const (vi 80)]) (.r4 U U U U) [0,1,2,3])) (Lh 19 (wn (cs:=([(⟨0,0,40,80⟩:ys),(⟨2,1,56,80⟩:ys)]:List ys).flatMap jU) z8F (Lq (l:=[.tmp 17,.tmp 18]) (.r2 U U) [0,1])) fun G _=>Le 20 (wl (v:=(.agg #[vi 0,vi 1,vi 96])) (Lq (l:=[.const (vi 0),.const (vi 1),.const (vi 96)]) (.r3 U U U) [0,1,2])) (Lh 21 (wn (cs:=([(⟨0,1,96⟩:zw)]:List zw).flatMap fI) zlZ (Lq (l:=[.tmp 20]) (.cons U .nil) [0])) fun H _=>Le 22 (wl (v:=(.agg #[vs (some ⟨G,0,none⟩) (([(⟨0,0,40,80⟩:ys),(⟨2,1,56,80⟩:ys)]:List ys).length) 2,vs (some ⟨H,0,none⟩) (([(⟨0,1,96⟩:zw)]:List zw).length) 1])) (Lq (l:=[.tmp 19,.tmp 21]) (.r2 U U) [0,1])) (Lh 5 (xV (cs:=[vn,vn]) zj4 U) fun aF _=>Lk (xR z9s .here)<|Q0n<|WC.b ?_))))
 refine bK h fun X I h=>Ld<|Le 23 (xN z2A (xO .h6))<|La U<|Le 25 (xB mX)<|Le 26 (Nu z8G .h3)<|WL.freezeS (ls:=i.1.fM) (.there .h7) .h7 hz (p.weak<|fun _ _ h=>vc xF.wA h) ?_
 intro aG f m
 replace m:=m.weak (fun _ _ h=>vc f h)
 refine WL.freezeS (ls:=i.1.fS) (.there .h7) .here hz (RR.flat (enc:=kr)) fun aH e J=>WL.freezeS (ls:=i.1.fK) (.there .h7) .here hz (RR.flat (enc:=gH)) fun aI d K=>WL.freezeS (ls:=i.1.yb) (.there .h7) .here hz (s.weak<|fun _ _ h=>ve ((xF.wA).trans (f.trans<|e.trans d)) h) ?_
 intro aJ c n
 replace n:=n.weak (fun _ _ h=>ve c h)
 refine WL.freezeS (ls:=i.2) (.there .h7) .here hz (y.weak<|fun _ _ h=>qe ((xF.wA).trans (f.trans<|e.trans<|d.trans c)) h) ?_
 intro aK b o
 replace o:=o.weak (fun _ _ h=>qe b h)
 refine WL.freezeS (ls:=W.1.fP) .h5 .here hz (RR.flat (enc:=jU)) fun L a z=>Ol U (Nt call14) .nil (mv hz .nil .here fun w pz ho=>aS I pz ((m.mono<|e.trans<|d.trans<|c.trans<|b.trans a).weak (fun _ _ h=>vc (e.trans<|d.trans<|c.trans<|b.trans a) h)) ((q.mono<|(xF.wA).trans (f.trans<|e.trans<|d.trans<|c.trans<|b.trans a)).weak (fun _ _ h=>vA ((xF.wA).trans (f.trans<|e.trans<|d.trans<|c.trans<|b.trans a)) h)) (J.mono<|d.trans<|c.trans<|b.trans a) (K.mono<|c.trans<|b.trans a) ((n.mono<|b.trans a).weak (fun _ _ h=>ve (b.trans a) h)) (t.mono<|(xF.wA).trans (f.trans<|e.trans<|d.trans<|c.trans<|b.trans a)) ((u.mono<|(xF.wA).trans (f.trans<|e.trans<|d.trans<|c.trans<|b.trans a)).weak (fun _ _ h=>vB ((xF.wA).trans (f.trans<|e.trans<|d.trans<|c.trans<|b.trans a)) h)) (x.mono<|(xF.wA).trans (f.trans<|e.trans<|d.trans<|c.trans<|b.trans a)) ((o.mono a).weak (fun _ _ h=>qe a h)) z) ?_
 rintro M aM aN aO N
 refine WL.merge .here .h1<|Q1n U<|WC.b<|bK h fun A C h=>bK h fun Y D h=>D3q U<|Ly true 3 30 (B:=A) (hB:=(fun h=>(oJ<|jv C h).symm)) (fun _ O=>?_) ?_
 ·have j:=ju C O
  obtain⟨aX,P,j⟩:=za j
  replace j:=oJ j
  exact Le 31 (xN z9t (xO .h5))<|Le 32 (xN z9t (xO .h2))<|Lo 33 (Nt call16) .nil (cN hz .nil .here (.s3 .h6 .h4 .h3) fun w pz ho la=>Jb P pz ((z.mono<|zl.trans xF.wA).mono zl) (ZA.row (la _ (.head _) _) (RR.flat (enc:=fI)) ⟨w,pz.1⟩) (ZA.row (la _ (.tail _<|.head _) _) (RR.flat (enc:=jU)) ⟨w,pz.1⟩)<|ZA.row (la _ (.tail _<|.tail _<|.head _) _) (RR.flat (enc:=fI)) ⟨w,pz.1⟩)<|La U<|Lz j U .all
 refine La U<|Ly true 3 35 (B:=A&&(decide ((X.length:Int)=1))) (fun _ Q=>?_) ?_
 ·exact La U<|Le 37 (wc underlying46)<|Q2q U<|Lz (kR Q) U .all
 refine La U<|Ly true 5 40 (B:=Y) (hB:=(fun h=>(oJ<|jv D h).symm)) (fun _ R=>?_) ?_
 ·have g:=ju D R
  obtain⟨k,g⟩:=xI g
  obtain⟨aY,S,g⟩:=za g
  replace g:=oJ g
  refine La U<|N5 (fun w hw=>Hp.vf .h1 hw (by intro hz';have:=k;rw[hz'] at this;omega)) ?_
  rintro⟨aP,rfl⟩
  obtain⟨aQ,aR,aT,T,⟨aU,aV,rfl,V⟩⟩:=RR.elem (Pr:=(aL (Z++(L++M)))) (N.weak (fun _ _ h=>QY xF.wA h)) k.1 k.2
  refine Le 42 (xZ zCX k.1 k.2 wF)<|Le 43 (xC zXx U<|sj .h1<|Us T 0 _ U) (Lh 44 (wn (cs:=([0,39]:List Int).flatMap e3) z5U (Lq (l:=[.const (vi 0),.const (vi 39)]) (.r2 U U) [0,1])) fun aW _=>Lo 45 (Nt call17) .nil (cN hz .nil .h1 (.cons .here .nil) fun w pz ho la=>Jc S pz (V.mono<|zl)<|ZA.row (la _ (.head _) _) (RR.flat (enc:=e3)) ⟨w,pz.1⟩)<|La U ?_)
  exact Lz g U<|.s8 .h1 .h1 .h1 .h1 .h1 .h1 .h1 .h1
 exact Q1n U<|Nz<|oJ h▸Nm results11
end
end Go.Proofs.YthjnhebofpebpaaGreat
namespace Go.Proofs.YthjnhebofpebpaaGreat
open Go Go.RowKit Sep
section
set_option maxRecDepth 30000
set_option maxHeartbeats 4000000
end
section
set_option maxRecDepth 30000
set_option maxHeartbeats 4000000
end
end Go.Proofs.YthjnhebofpebpaaGreat
