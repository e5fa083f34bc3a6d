/- A part of this claim's proof: models of functions, walks, plain laws. No conditions. -/
import Derived.Test.YthjnhebofpebpaaGreatW36g
set_option linter.all false
namespace Go.Proofs.YthjnhebofpebpaaGreat
open Go Go.RowKit Sep Tryz
section
set_option maxRecDepth 30000
set_option maxHeartbeats 4000000
def tV(b:yL)(c:yL)(d:Option Bool):Nat->Int->Option Bool
 | 0,_=>none
 | e+1,a=>if decide (a<b.fP.length) then chk (0<=a/\a<b.fP.length) (chk (0<=a/\a<c.fP.length) (if decide ((⟨(nth b.fP a).ya,(nth b.fP a).fQ,(nth b.fP a).yl,(nth b.fP a).fT⟩:ys)≠(⟨(nth c.fP a).ya,(nth c.fP a).fQ,(nth c.fP a).yl,(nth c.fP a).fT⟩:ys)) then some false else tV b c d e (i64 (a+1)))) else d
def tW(b:yL)(c:yL)(d:Option Bool):Nat->Int->Option Bool
 | 0,_=>none
 | e+1,a=>if decide (a<b.yy.length) then chk (0<=a/\a<b.yy.length) (chk (0<=a/\a<c.yy.length) (if decide ((⟨(nth b.yy a).yx,(nth b.yy a).ya,(nth b.yy a).yl⟩:zt)≠(⟨(nth c.yy a).yx,(nth c.yy a).ya,(nth c.yy a).yl⟩:zt)) then some false else tW b c d e (i64 (a+1)))) else d
def cT(a:yL)(b:yL):Option Bool:=
 if (decide ((a.fP.length:Int)≠(b.fP.length:Int)))||(decide ((a.yy.length:Int)≠(b.yy.length:Int))) then some false else mZ (mZ (some true) fun c=>tW a b c xR 0) fun d=>tV a b d xR 0
theorem QR{Z m n o p q s t u c d r}(h:cT c d=some r){Nx}(hz:PZ [] Nx Z)(y:ZS Z 4 (rq km) m n c.fP)(z:ZS Z 3 (rq fg) o p c.yy)(D:ZS Z 4 (rq km) q s d.fP)(E:ZS Z 3 (rq fg) t u d.yy):
  RC 16 #[.agg #[vs m c.fP.length n,vs o c.yy.length p],.agg #[vs q d.fP.length s,vs t d.yy.length u]] Nx (.bool r) [] []:=by
 unfold cT at h
 refine L0 func16 U U ?_
 let A:List Value:=[vs m c.fP.length n,vs o c.yy.length p];refine B0q<|Lg 2 (wa (cs:=A)) ?_
 intro g _
 let C:List Value:=[vs q d.fP.length s,vs t d.yy.length u];refine Lg 3 (wa (cs:=C)) ?_
 intro i _
 refine Q1n U<|WC.b<|B0q<|Le 7 (xz ug)<|Le 8 (Nt z9A .h1)<|Le 9 (w9 underlying33)<|Le 10 (xz ug)<|Le 11 (Nt z9A .here)<|Le 12 (w9 underlying33)<|Q2q U<|Ly false 7 14 (B:=(decide ((c.fP.length:Int)≠(d.fP.length:Int)))||(decide ((c.yy.length:Int)≠(d.yy.length:Int)))) (hB:=(fun h=>(gO h).symm)) (fun _ F=>?_) ?_
 ·exact Le 15 (xz pO)<|Le 16 (Nt zlE .h1)<|Le 17 (w9 underlying38)<|Le 18 (xz pO)<|Le 19 (Nt zlE .here)<|Le 20 (w9 underlying38)<|Q2q U<|Lz (gP F) U .all
 refine Q0n<|Lj h (fun G h=>?_)<|fun G h=>?_
 ·exact B1n U<|Ny<|Lk<|oJ h▸Nl results16
 ·refine Nn<|jK0 h fun v H h=>Nd (v=some r) ([(2,vp g),(3,vp i)]) ([stb g 40 A,stb i 40 C]) ?_ ?_
  ·refine B1n U<|WC.block<|Ng (fun k e=>(tV c d v k e=some r)) (fun k e=>[(2,vp g),(3,vp i),(5,vi e)]) (fun k e=>[stb g 40 A,stb i 40 C]) (fun k e=>k) ⟨xR,0⟩ h .q (.s2 .h1 .here) ?_
   rintro(_|W) e h;·cases h
   rw[tV] at h
   refine WC.b<|B1q U<|Le 24 (xz ug)<|Le 25 (Nt z9A .here)<|Le 26 (w9 underlying33)<|Q1n U<|Lj h (fun I h=>?_)<|fun I h=>?_
   ·refine Nn<|WC.b<|WC.block<|WC.b<|cK h fun J h=>cK h fun K h=>Lu nc []<|Lf 0 U (xz ug)<|Lh 1 U (Nt z9A .here)<|Lf 2 U q_m<|L5 (j:=3) (Z:=Z) (Pr:=(rq km)) z9x y J ?_
    rintro Y aa L ab rfl
    refine Lh 4 U (xK zfq (qx hz.pv L))<|Lf 5 U (xz ug)<|Lh 6 U (Nt z9A .h1)<|Lf 7 U q_m<|L5 (j:=8) (Z:=Z) (Pr:=(rq km)) z9x D K ?_
    rintro ad ae M af rfl
    refine Lh 9 U (xK zfq (qx hz.pv M))<|Lf 10 U (ew (enc:=km) (a:=(⟨(nth c.fP e).ya,(nth c.fP e).fQ,(nth c.fP e).yl,(nth c.fP e).fT⟩:ys)) (b:=(⟨(nth d.fP e).ya,(nth d.fP e).fQ,(nth d.fP e).yl,(nth d.fP e).fT⟩:ys)) zWX U U)<|N0<|Lb<|Lj h (fun N h=>?_)<|fun N h=>?_
    ·exact B1n U<|Ny<|Lw<|Lk<|Lk<|Lw<|Lk<|oJ h▸Nl results16
    ·exact N2<|Lt<|Lb<|D3q U<|WL.nil<|Nz ⟨W,i64 (e+1)⟩ h .q<|.a2
   ·exact N1<|Lm<|Lm<|Lv<|Lo () h .q<|.a2
  ·rintro  h
   replace h:=H.symm.trans h
   refine jK0 h fun x O h=>Nd (x=some r) ([]) ([]) ?_ ?_
   ·refine B1n U<|WC.block<|Ng (fun l f=>(tW c d x l f=some r)) (fun l f=>[(2,vp g),(3,vp i),(6,vi f)]) (fun l f=>[stb g 40 A,stb i 40 C]) (fun l f=>l) ⟨xR,0⟩ h .q .a2 ?_
    rintro(_|X) f h;·cases h
    rw[tW] at h
    refine WC.b<|B1q U<|Le 42 (xz pO)<|Le 43 (Nt zlE .here)<|Le 44 (w9 underlying38)<|Q1n U<|Lj h (fun P h=>?_)<|fun P h=>?_
    ·refine Nn<|WC.b<|WC.block<|WC.b<|cK h fun Q h=>cK h fun R h=>Lu nc []<|Lf 0 U (xz pO)<|Lh 1 U (Nt zlE .here)<|Lf 2 U q_m<|L5 (j:=3) (Z:=Z) (Pr:=(rq fg)) zlD z Q ?_
     rintro ag ah S ai rfl
     refine Lh 4 U (xK zCz (qx hz.pv S))<|Lf 5 U (xz pO)<|Lh 6 U (Nt zlE .h1)<|Lf 7 U q_m<|L5 (j:=8) (Z:=Z) (Pr:=(rq fg)) zlD E R ?_
     rintro aj ak T al rfl
     refine Lh 9 U (xK zCz (qx hz.pv T))<|Lf 10 U (ew (enc:=fg) (a:=(⟨(nth c.yy f).yx,(nth c.yy f).ya,(nth c.yy f).yl⟩:zt)) (b:=(⟨(nth d.yy f).yx,(nth d.yy f).ya,(nth d.yy f).yl⟩:zt)) zWY U U)<|N0<|Lb<|Lj h (fun V h=>?_)<|fun V h=>?_
     ·exact B1n U<|Ny<|Lw<|Lk<|Lk<|Lw<|Lk<|oJ h▸Nl results16
     ·exact N2<|Lt<|Lb<|D3q U<|WL.nil<|Nz ⟨X,i64 (f+1)⟩ h .q<|.a2
    ·exact N1<|Lm<|Lm<|Lv<|Lo () h .nil .nil
   ·rintro  h
    replace h:=O.symm.trans h
    exact B1n U<|Ny<|oJ h▸Nl results16
def tX(b:List Int)(c:List Int)(d:Option Bool):Nat->Int->Option Bool
 | 0,_=>none
 | e+1,a=>if decide (a<b.length) then chk (0<=a/\a<b.length) (chk (0<=a/\a<c.length) (if decide ((nth b a)≠(nth c a)) then some false else tX b c d e (i64 (a+1)))) else d
def cU(a:List Int)(b:List Int):Option Bool:=
 if decide ((a.length:Int)≠(b.length:Int)) then some false else mZ (some true) fun c=>tX a b c xR 0
theorem QS{Z e f g i b c r}(h:cU b c=some r){Nx}(hz:PZ [] Nx Z)(l:ZS Z 1 (rq e3) e f b)(m:ZS Z 1 (rq e3) g i c):
  RC 17 #[vs e b.length f,vs g c.length i] Nx (.bool r) [] []:=by
 unfold cU at h
 refine L0 func17 U U<|B1n U<|WC.b<|B1q U<|Le 7 (w9 underlying50)<|La U<|Le 9 (w9 underlying50)<|Q1n U<|Lj h (fun n h=>?_)<|fun n h=>?_
 ·exact B1n U<|Ny<|Lk<|oJ h▸Nl results17
 ·refine Nn<|jK0 h fun k o h=>Nd (k=some r) ([]) ([]) ?_ ?_
  ·refine B1q U<|Le 12 (w9 underlying50)<|Q1n U<|WC.block<|Ng (fun d a=>(tX b c k d a=some r)) (fun d a=>[(0,vs e b.length f),(1,vs g c.length i),(12,vi (b.length:Int)),(13,vi a)]) (fun d a=>[]) (fun d a=>d) ⟨xR,0⟩ h .q .nil ?_
   rintro(_|x) a h;·cases h
   rw[tX] at h
   refine B1n U<|WC.b<|Lj h (fun p h=>?_)<|fun p h=>?_
   ·refine Nn<|WC.b<|WC.block<|B2n U<|WC.b<|cK h fun q h=>cK h fun s h=>Lu nc []<|Lf 0 U q_m<|Lf 1 U q_m<|L5 (j:=2) (Z:=Z) (Pr:=(rq e3)) z7G l q ?_
    rintro y z t A rfl
    refine Lh 3 U (xA xJ U<|kN hz.pv t)<|Lf 4 U q_m<|Lf 5 U q_m<|L5 (j:=6) (Z:=Z) (Pr:=(rq e3)) z7G m s ?_
    rintro B C u D rfl
    refine Lh 7 U (xA xJ U<|kN hz.pv u)<|Lf 8 U (Xy U U)<|N0<|Lb<|Lj h (fun v h=>?_)<|fun v h=>?_
    ·exact B1n U<|Ny<|Lw<|Lk<|Lk<|Lw<|Lk<|oJ h▸Nl results17
    ·exact N2<|Lt<|Lb<|D2q U<|WL.nil<|Nz ⟨x,i64 (a+1)⟩ h .q .nil
   ·exact N1<|Lm<|Lm<|Lv<|Lo () h .nil .nil
  ·rintro  h
   replace h:=o.symm.trans h
   exact B1n U<|Ny<|oJ h▸Nl results17
def tz  : Option Bool:=
 (oX).bind fun a=>(me a.1 0 a.2).bind fun b=>(pE a.1 a.2 b.1.fP).bind fun c=>(if decide (b.2=0) then(cT b.1 (⟨([(⟨0,0,40,80⟩:ys),(⟨2,1,56,80⟩:ys)]:List ys),([(⟨0,1,96⟩:zt)]:List zt)⟩:yL)).bind fun d=>some d else some false).bind fun e=>(if e&&(decide ((c.length:Int)=1)) then chk ((0:Int)<=0/\0<(c.length:Int)) ((cU (nth c 0) ([0,39]:List Int)).bind fun f=>some f) else some false).bind fun g=>some g
theorem iO{Z r}(h:tz=some r){Nx}(hz:PZ [] Nx Z):
  RC 11 #[] Nx (.bool r) [] []:=by
 unfold tz at h
 refine Od func11 U U<|WC.pool<|B1n U<|WC.b<|bK h fun i E h=>Ld<|P8 U U U (Ns call19) .nil (ms hz .nil .here fun w pz ho=>XM E pz ) ?_
 rintro aa ab ad ae af ag ah ai aj ak al am an ao ap aq ar au av aw ay az ⟨p,q,s,t,u,x,y⟩
 refine WL.merge .here .h5<|Q2q U<|La U (Lg 1 (xT (cs:=[vn,vn,vn,vn,vn,vn,vn,vn]) zxg) fun aA _=>Ll (xP zxh .here)<|Q1n U<|WC.b ?_)
 refine bK h fun W F h=>Ld<|Le 12 (xK z2v (xM .here))<|La U<|Ou U (Ns call12) .nil (cE hz .nil .h1 (.s5 .h2 .h2 .h2 .h2 .h2) fun w pz ho la=>iA F pz (ZA.row (la _ (.head _) _) ((p.weak<|fun _ _ h=>wV xE.wv h).weak (fun _ _ h=>wV zl h)) ⟨w,pz.1⟩) ((((q.mono<|xE.wv).weak (fun _ _ h=>vt xE.wv h)).mono zl).weak (fun _ _ h=>vt zl h)) (ZA.row (la _ (.tail _<|.head _) _) (RR.flat (enc:=ki)) ⟨w,pz.1⟩) (ZA.row (la _ (.tail _<|.tail _<|.head _) _) (RR.flat (enc:=gg)) ⟨w,pz.1⟩) (ZA.row (la _ (.tail _<|.tail _<|.tail _<|.head _) _) ((s.weak<|fun _ _ h=>wX xE.wv h).weak (fun _ _ h=>wX zl h)) ⟨w,pz.1⟩) ((t.mono<|xE.wv).mono zl) ((((u.mono<|xE.wv).weak (fun _ _ h=>vu xE.wv h)).mono zl).weak (fun _ _ h=>vu zl h)) ((x.mono<|xE.wv).mono zl)<|ZA.row (la _ (.tail _<|.tail _<|.tail _<|.tail _<|.head _) _) ((y.weak<|fun _ _ h=>qa xE.wv h).weak (fun _ _ h=>qa zl h)) ⟨w,pz.1⟩) ?_
 rintro aB aC aD aE _
 refine Q2q U<|La U (Lg 3 (xT (cs:=[vn,vn]) ziL) fun aG _=>Ll (xP z9y .here)<|Q1n U<|B0q<|Le 17 (we (v:=(.agg #[vi 0,vi 0,vi 40,vi 80])) (Lq (l:=[.const (vi 0),.const (vi 0),.const (vi 40),.const (vi 80)]) (.r4 U U U U) [0,1,2,3]))<|Le 18 (we (v:=(.agg #[vi 2,vi 1,vi 56,vi 80])) (Lq (l:=[.const (vi 2),.const (vi 1),.const (vi 56),.const (vi 80)]) (.r4 U U U U) [0,1,2,3])) (Lg 19 (wj (cs:=([(⟨0,0,40,80⟩:ys),(⟨2,1,56,80⟩:ys)]:List ys).flatMap km) z9x (Lq (l:=[.tmp 17,.tmp 18]) (.r2 U U) [0,1])) fun G _=>Le 20 (we (v:=(.agg #[vi 0,vi 1,vi 96])) (Lq (l:=[.const (vi 0),.const (vi 1),.const (vi 96)]) (.r3 U U U) [0,1,2])) (Lg 21 (wj (cs:=([(⟨0,1,96⟩:zt)]:List zt).flatMap fg) zlD (Lq (l:=[.tmp 20]) (.cons U .nil) [0])) fun H _=>Le 22 (we (v:=(.agg #[vs (some ⟨G,0,none⟩) (([(⟨0,0,40,80⟩:ys),(⟨2,1,56,80⟩:ys)]:List ys).length) 2,vs (some ⟨H,0,none⟩) (([(⟨0,1,96⟩:zt)]:List zt).length) 1])) (Lq (l:=[.tmp 19,.tmp 21]) (.r2 U U) [0,1])) (Lg 5 (xT (cs:=[vn,vn]) ziL) fun aH _=>Ll (xP z9y .here)<|Q0n<|WC.b ?_))))
 refine bK h fun X I h=>Ld<|Le 23 (xK z2v (xM .h6))<|La U<|Le 25 (xz ug)<|Le 26 (Nt z9A .h3)<|WL.freezeS (ls:=i.1.fM) (.there .h7) .h7 hz (p.weak<|fun _ _ h=>wV xE.wv h) ?_
 intro aI f m
 replace m:=m.weak (fun _ _ h=>wV f h)
 refine WL.freezeS (ls:=i.1.fS) (.there .h7) .here hz (RR.flat (enc:=ki)) fun aJ e J=>WL.freezeS (ls:=i.1.fK) (.there .h7) .here hz (RR.flat (enc:=gg)) fun aK d K=>WL.freezeS (ls:=i.1.yc) (.there .h7) .here hz (s.weak<|fun _ _ h=>wX ((xE.wv).trans (f.trans<|e.trans d)) h) ?_
 intro aL c n
 replace n:=n.weak (fun _ _ h=>wX c h)
 refine WL.freezeS (ls:=i.2) (.there .h7) .here hz (y.weak<|fun _ _ h=>qa ((xE.wv).trans (f.trans<|e.trans<|d.trans c)) h) ?_
 intro aM b o
 replace o:=o.weak (fun _ _ h=>qa b h)
 refine WL.freezeS (ls:=W.1.fP) .h5 .here hz (RR.flat (enc:=km)) fun L a z=>Ou U (Ns call14) .nil (ms hz .nil .here fun w pz ho=>aF I pz ((m.mono<|e.trans<|d.trans<|c.trans<|b.trans a).weak (fun _ _ h=>wV (e.trans<|d.trans<|c.trans<|b.trans a) h)) ((q.mono<|(xE.wv).trans (f.trans<|e.trans<|d.trans<|c.trans<|b.trans a)).weak (fun _ _ h=>vt ((xE.wv).trans (f.trans<|e.trans<|d.trans<|c.trans<|b.trans a)) h)) (J.mono<|d.trans<|c.trans<|b.trans a) (K.mono<|c.trans<|b.trans a) ((n.mono<|b.trans a).weak (fun _ _ h=>wX (b.trans a) h)) (t.mono<|(xE.wv).trans (f.trans<|e.trans<|d.trans<|c.trans<|b.trans a)) ((u.mono<|(xE.wv).trans (f.trans<|e.trans<|d.trans<|c.trans<|b.trans a)).weak (fun _ _ h=>vu ((xE.wv).trans (f.trans<|e.trans<|d.trans<|c.trans<|b.trans a)) h)) (x.mono<|(xE.wv).trans (f.trans<|e.trans<|d.trans<|c.trans<|b.trans a)) ((o.mono a).weak (fun _ _ h=>qa a h)) z) ?_
 rintro M aN aO aP N
 refine WL.merge .here .h1<|Q1n U<|WC.b<|bK h fun A C h=>bK h fun Y D h=>D3q U<|Ly true 3 30 (B:=A) (hB:=(fun h=>(oJ<|qZ C h).symm)) (fun _ O=>?_) ?_
 ·have j:=qY C O
  obtain⟨aX,P,j⟩:=za j
  replace j:=oJ j
  exact Le 31 (xK z9z (xM .h5))<|Le 32 (xK z9z (xM .h2))<|Ln 33 (Ns call16) .nil (cE hz .nil .here (.s3 .h6 .h4 .h3) fun w pz ho la=>QR P pz ((z.mono<|zl.trans xE.wv).mono zl) (ZA.row (la _ (.head _) _) (RR.flat (enc:=fg)) ⟨w,pz.1⟩) (ZA.row (la _ (.tail _<|.head _) _) (RR.flat (enc:=km)) ⟨w,pz.1⟩)<|ZA.row (la _ (.tail _<|.tail _<|.head _) _) (RR.flat (enc:=fg)) ⟨w,pz.1⟩)<|La U<|Lz j U .all
 refine La U<|Ly true 3 35 (B:=A&&(decide ((X.length:Int)=1))) (fun _ Q=>?_) ?_
 ·exact La U<|Le 37 (w9 underlying46)<|Q2q U<|Lz (kS Q) U .all
 refine La U<|Ly true 5 40 (B:=Y) (hB:=(fun h=>(oJ<|qZ D h).symm)) (fun _ R=>?_) ?_
 ·have g:=qY D R
  obtain⟨k,g⟩:=xG g
  obtain⟨aY,S,g⟩:=za g
  replace g:=oJ g
  refine La U<|N4 (fun w hw=>Hp.vr .h1 hw (by intro hz';have:=k;rw[hz'] at this;omega)) ?_
  rintro⟨aQ,rfl⟩
  obtain⟨aR,aS,aT,T,⟨aU,aV,rfl,V⟩⟩:=RR.elem (Pr:=(ax (Z++(L++M)))) (N.weak (fun _ _ h=>QG xE.wv h)) k.1 k.2
  refine Le 42 (w3 zCy k.1 k.2 wI)<|Le 43 (xA zWZ U<|o9 .h1<|Ua T 0 _ U) (Lg 44 (wj (cs:=([0,39]:List Int).flatMap e3) z7G (Lq (l:=[.const (vi 0),.const (vi 39)]) (.r2 U U) [0,1])) fun aW _=>Ln 45 (Ns call17) .nil (cE hz .nil .h1 (.cons .here .nil) fun w pz ho la=>QS S pz (V.mono<|zl)<|ZA.row (la _ (.head _) _) (RR.flat (enc:=e3)) ⟨w,pz.1⟩)<|La U ?_)
  exact Lz g U<|.s8 .h1 .h1 .h1 .h1 .h1 .h1 .h1 .h1
 exact Q1n U<|Ny<|oJ h▸Nl results11
end
end Go.Proofs.YthjnhebofpebpaaGreat
namespace Go.Proofs.YthjnhebofpebpaaGreat
open Go Go.RowKit Sep
section
set_option maxRecDepth 30000
set_option maxHeartbeats 4000000
end
section
set_option maxRecDepth 30000
set_option maxHeartbeats 4000000
end
end Go.Proofs.YthjnhebofpebpaaGreat
