/- A part of this claim's proof: models of functions, walks, plain laws. No conditions. -/
import Derived.Test.YtcahmabkeaijdaaGreatW35xc
set_option linter.all false
namespace Go.Proofs.YtcahmabkeaijdaaGreat
open Go Go.RowKit Sep Tryz
variable {f:Nat}{g:Int}
set_option maxRecDepth 30000
set_option maxHeartbeats 4000000
def qI(a:ys)(zeL:z2->z2->Option (z2×Int))(c:z2)(d:z2):Option (z2×ys):=
 if decide (a.fE≠0) then some ((⟨0,0⟩:z2),a) else(zeL c d).bind fun b=>some (b.1,(⟨b.2⟩:ys))
theorem tJ(Z c zcr zhT d zeL a b r)(h:qI d zeL a b=some r){Nv}(hz:Pz [stb c 262 [vi d.fE]] Nv Z)(g:∀ args w,(callFunc zcr args).run Tryz.prog w = .ok (.enter zcr args) w)(i:∀ w:World,PZ [] w Z->∀(x0:z2) (x1:z2) (r:z2×Int),zeL x0 x1=some r->Calls Tryz.prog zcr (([.agg #[vi x0.fN,vi x0.fD],.agg #[vi x1.fN,vi x1.fD]]:List Value)++zhT).toArray w fun e w'=>e = .returned (.tuple #[.agg #[vi r.1.fN,vi r.1.fD],vi r.2])/\Hp [] w w' [])(ip:Ho Nv [stb c 262 [vi d.fE]]):
  RF 167 #[vp c,.func (.func zcr) #[] (zhT).toArray,.agg #[vi a.fN,vi a.fD],.agg #[vi b.fN,vi b.fD]] Nv (.agg #[vi r.1.fN,vi r.1.fD]) [stb c 262 [vi d.fE]] [stb c 262 [vi r.2.fE]]:=by
 unfold qI at h
 refine H4 func167 U ip U<|B0q (Lh 6 (wg (cs:=[vi a.fN,vi a.fD])) fun n _=>Lh 7 (wg (cs:=[vi b.fN,vi b.fD])) fun o _=>Lh 8 (xW (cs:=[vi 0,vi 0]) z1s) fun p _=>Q0n<|WC.b<|B1q U<|Le 12 w3<|Le 13 (xA lM)<|Le 14 (Nt z5n .h3)<|Q1n U<|Lj h (fun j h=>?_)<|fun j h=>?_)
 ·exact B0q<|Le 16 (wm (v:=(.agg #[vi 0,vi 0])) (Lq (l:=[]) .nil []) (fun _=>by kernel_rfl))<|Ln (xP z12 .here)<|Q0n<|Nw<|Ll<|oJ h▸Nm results167 (.agg U ze U (xM .here) .nil) (.cons .h3 .nil)
 ·refine Nn<|WC.b<|bK h fun k m h=>D1q U<|Le 19 (xK ze (xM .h2))<|Le 20 (xK ze (xM .h1))<|Lm 21 (qi (l:=[.tmp 19,.tmp 20]) (f:=zcr) (caps:=zhT) g<|.r2 U U) .nil (fun w hw=>i w (hz.now hw) a b k  m)<|Q2q U<|La U (Lh 9 (xW (cs:=[vi 0,vi 0]) z1s) fun q _=>Ln (xP z12 .here)<|Q1n U<|B2q U<|Le 26 w3<|Le 27 (xA lM)<|Ln (xP zqO .h4)<|Q0n<|B0q<|Le 28 (xK ze (xM .h1))<|Ln (xP z12 .h2)<|Q0n<|Nw ?_)
  exact oJ h▸Nm results167 (.agg U ze U (xM .here) .nil) (.cons .h1 .nil)
def ce(a:z2)(b:z2):Option (Int×Int):=
 some (i64 (a.fN*b.fD),i64 (a.fD*b.fN))
theorem F6(Z c d a b r)(h:ce a b=some r){Nv}(hz:PZ [] Nv Z)(e:ZC Z c [vi a.fN,vi a.fD])(f:ZC Z d [vi b.fN,vi b.fD]):
  RC 144 #[vq c,vq d] Nv (.tuple #[vi r.1,vi r.2]) [] []:=by
 unfold ce at h
 exact Lz func144 U U<|B2n U<|WC.b<|Lu nc []<|Lf 0 U (xA jz)<|Lg 1 U (xB xL U<|wA hz.pv e)<|Lf 2 U (xA kd)<|Lg 3 U (xB xL U<|wA hz.pv f)<|Lf 4 U rQ<|Lf 5 U (xA kd)<|Lg 6 U (xB xL U<|wA hz.pv e)<|Lf 7 U (xA jz)<|Lg 8 U (xB xL U<|wA hz.pv f)<|Lf 9 U rQ<|Lf 10 U q_z<|Lf 11 U q_z<|Ny (by kernel_rfl)<|Lb<|Nw<|oJ h▸Nm results144 (.tmp U<|.tmp U .nil) .nil
def iz(b:z2)(a:z2):Option (z2×Int):=
 (qw b).bind fun e=>(if !e then some true else(qw a).bind fun f=>some (!f)).bind fun g=>if g||(decide (a.fN=0)) then some ((⟨0,0⟩:z2),2) else(ce b a).bind fun c=>(uw c.1 c.2).bind fun d=>some (d.1,d.2)
theorem M3(Z b a r)(h:iz b a=some r){Nv}(hz:PZ [] Nv Z):
  RC 105 #[.string ⟨#[47]⟩,.agg #[vi b.fN,vi b.fD],.agg #[vi a.fN,vi a.fD]] Nv (.tuple #[.agg #[vi r.1.fN,vi r.1.fD],vi r.2]) [] []:=by
 unfold iz at h
 refine N1 func105 U U<|B0q (Lh 4 (wg (cs:=[vi b.fN,vi b.fD])) fun d _=>Lh 5 (wg (cs:=[vi a.fN,vi a.fD])) fun e _=>Lh 6 (xW (cs:=[vi 0,vi 0]) z1s) fun s _=>Q1n U<|WC.b<|WC.b ?_)
 refine bK h fun u i h=>bK h fun f g h=>Ld<|Le 9 (xK ze (xM .h2))<|Nr call80 hz (jK _ _ _ i)<|Q2q U<|Lw false 3 12 (B:=f) (fun h=>(oJ<|jD g h).symm) (fun _ j=>?_) ?_
 ·have c:=jE g j
  obtain⟨y,m,c⟩:=z8 c
  replace c:=oJ c
  exact Le 13 (xK ze (xM .h1))<|Nr call80 hz (jK _ _ _ m)<|Q2q U<|Lx c U .all
 refine La U<|Lw false 7 17 (B:=f||(decide (a.fN=0))) (fun h=>(gQ h).symm) (fun _ n=>?_) ?_
 ·exact La U<|Le 19 (Yk (r:=true) (by decide) U U)<|La U<|Le 21 (xA jz)<|Le 22 (Nt xL .h1)<|Q3q U<|Lx (gR n) U .all
 refine Q0n<|Lj h (fun o h=>?_)<|fun o h=>?_
 ·exact B0q<|Le 26 (wm (v:=(.agg #[vi 0,vi 0])) (Lq (l:=[]) .nil []) (fun _=>by kernel_rfl))<|Ln (xP z12 .here)<|Q1n U<|Nw<|Ll<|oJ h▸Nm results105 (.agg U ze U (xM .here)<|.tmp U .nil) .nil
 ·refine Nn<|B0q<|Lh 27 (fh Value.string<|fun x=>x) ?_
  intro t _
  let A:Value:=(.func (.func 144) #[] #[vp d,vp e]);refine Le 28 (vf<|L6 (l:=[.tmp 4,.tmp 5])<|.r2 U U)<|Ln (gB (k:=⟨#[43]⟩) (v:=(.func (.func 141) #[] #[vp d,vp e])) fj underlying258 .here)<|Le 29 (vf<|L6 (l:=[.tmp 4,.tmp 5])<|.r2 U U)<|Ln (gB (k:=⟨#[45]⟩) (v:=(.func (.func 142) #[] #[vp d,vp e])) fj underlying258 .here)<|Le 30 (vf<|L6 (l:=[.tmp 4,.tmp 5])<|.r2 U U)<|Ln (gB (k:=⟨#[42]⟩) (v:=(.func (.func 143) #[] #[vp d,vp e])) fj underlying258 .here)<|Le 31 (vf<|L6 (l:=[.tmp 4,.tmp 5])<|.r2 U U)<|Ln (gB (k:=⟨#[47]⟩) (v:=A) fj underlying258 .here)<|Q2n U<|WC.b ?_
  exact bK h fun z p h=>bK h fun C q h=>D2q U<|Le 35 (Yj (k:=⟨#[47]⟩) (dflt:=.nilFunc) (r:=A) fj underlying258 zu9 U U U .here (by rfl))<|Lm 36 (qi (l:=[]) call144 .nil) .nil (uC hz .nil (.s2 .h3 .h2) fun w pz ho la=>F6 _ _ _ _ _ _ p pz ((la _ (.head _) _).stb)<|(la _ (.tail _<|.head _) _).stb)<|Q2q U<|Nr call106 hz (l4 _ _ _ _ q)<|Q2q U<|Ln (xP z12 .h1)<|Q1n U<|Nw<|oJ h▸Nm results105 (.agg U ze U (xM .here)<|.tmp U .nil) .nil
def gJ(b:z2)(c:z2):Option (z2×Int):=
 (iz b c).bind fun a=>some (a.1,a.2)
theorem Q5(Z a b r)(h:gJ a b=some r){Nv}(hz:PZ [] Nv Z):
  RC 75 #[.agg #[vi a.fN,vi a.fD],.agg #[vi b.fN,vi b.fD]] Nv (.tuple #[.agg #[vi r.1.fN,vi r.1.fD],vi r.2]) [] []:=by
 unfold gJ at h
 refine Lz func75 U U<|B0q (Lh 2 (wg (cs:=[vi a.fN,vi a.fD])) fun d _=>Lh 3 (wg (cs:=[vi b.fN,vi b.fD])) fun e _=>Lh 4 (xW (cs:=[vi 0,vi 0]) z1s) fun f _=>Q1n U<|WC.b ?_)
 exact bK h fun g c h=>Ld<|Le 6 (xK ze (xM .h2))<|Le 7 (xK ze (xM .h1))<|Nr call105 hz (M3 _ _ _ _ c)<|Q2q U<|Ln (xP z12 .here)<|Q1n U<|Nw<|oJ h▸Nm results75 (.agg U ze U (xM .here)<|.tmp U .nil) .nil
theorem zYd:∀ w,(isAgg (Tryz.kY.t 24)).run Tryz.prog w = .ok true w:=fun _=>by kernel_rfl
theorem zYe:∀ w,(Go.sizeOf (Tryz.kY.t 24)).run Tryz.prog w = .ok 2 w:=fun _=>by kernel_rfl
def fV(z6k:List z2)(zsb:Int)(zsc:Int)(znw:Int)(zkC:z2->z2->Option Int):Option (List z2):=chk ((zsb=0/\zsc=(z6k.length:Int))/\(0<=znw/\znw<4611686018427387904/\z6k.length<4611686018427387904)) (chk (ot zkC (wH zkC z6k)=true) (some (wH zkC z6k)))
theorem oK(Z zkD zkE zsd zBY z6k zsb zsc znw zkC r){Nv}(hz:Pz [row (vs zkD z6k.length zkE) 132 2 (z6k.flatMap xZ)] Nv Z)(a:∀ args w,(callFunc zsd args).run Tryz.prog w = .ok (.enter zsd args) w)(b:∀ w:World,PZ [] w Z->∀(x0:z2) (x1:z2) (r:Int),zkC x0 x1=some r->Calls Tryz.prog zsd (([.agg #[vi x0.fN,vi x0.fD],.agg #[vi x1.fN,vi x1.fD]]:List Value)++zBY).toArray w fun e w'=>e = .returned (vi r)/\Hp [] w w' [])(h:fV z6k zsb zsc znw zkC=some r)(ip:Ho Nv [row (vs zkD z6k.length zkE) 132 2 (z6k.flatMap xZ)]):
  Calls Tryz.prog 185 #[vs zkD z6k.length zkE,vi zsb,vi zsc,vi znw,.func (.func zsd) #[] (zBY).toArray] Nv fun e w'=>e = .returned (.tuple #[])/\(r.length=z6k.length)/\Hp (fps [row (vs zkD z6k.length zkE) 132 2 (z6k.flatMap xZ)]) Nv w' [row (vs zkD r.length zkE) 132 2 (r.flatMap xZ)]:=by
 obtain⟨h0,h⟩:=xH h
 obtain⟨h1,h⟩:=xH h
 have hr:=(oJ h).symm
 exact ii (P:=Tryz.prog) (f:=185) (e:=132) (k:=2) (enc:=xZ) (fun _=>U) (by decide) Yl (fun β _ enc cf g cb hO wr off cap d0 w0 eg hC R=>Tryz.lE 2 zYd zYe enc cf g cb hO wr off cap d0 w0 eg hC R) (Tryz.ll (α:=Unit)) hz a b h0 h1 hr ip
def qZ(a:List z2)(znx:z2->z2->Option Int):Option (List z2):=
 (mg (u64 (a.length:Int))).bind fun b=>(fV a 0 (a.length:Int) b znx).bind fun c=>some c
theorem o6(Z b c zny zvr a znx r)(h:qZ a znx=some r){Nv}(hz:Pz [row (vs b a.length c) 132 2 (a.flatMap xZ)] Nv Z)(j:∀ args w,(callFunc zny args).run Tryz.prog w = .ok (.enter zny args) w)(k:∀ w:World,PZ [] w Z->∀(x0:z2) (x1:z2) (r:Int),znx x0 x1=some r->Calls Tryz.prog zny (([.agg #[vi x0.fN,vi x0.fD],.agg #[vi x1.fN,vi x1.fD]]:List Value)++zvr).toArray w fun e w'=>e = .returned (vi r)/\Hp [] w w' [])(ip:Ho Nv [row (vs b a.length c) 132 2 (a.flatMap xZ)]):
  Calls Tryz.prog 171 #[vs b a.length c,.func (.func zny) #[] (zvr).toArray] Nv fun e w'=>e = .returned (.tuple #[])/\(r.length=a.length)/\Hp (fps [row (vs b a.length c) 132 2 (a.flatMap xZ)]) Nv w' [row (vs b r.length c) 132 2 (r.flatMap xZ)]:=by
 unfold qZ at h
 refine Ni func171 U ip U<|B1q U<|Le 6 (w9 underlying175)<|Q1n U<|bK h fun d l h=>bK h fun f m h=>D3q U<|Le 10 (fg underlying3 underlying142)<|Nr call48 hz (fun pz=>oZ (Z:=_)  (z9t:=(u64 (a.length:Int))) (r:=d) pz  l)<|La U<|Na (dd:=13) U (Ns call185) (.cons .here .nil) (cc hz (.cons .here .nil) fun w pz ho=>oK (Z:=_) (zkD:=b) (zkE:=c) (zsd:=zny) (zBY:=zvr) (z6k:=a) (zsb:=0) (zsc:=(a.length:Int)) (znw:=d) (zkC:=znx) (r:=f) pz j k m ho) ?_
 rintro  g
 exact L7 (i:=0) U (u:=(vs b f.length c)) (qs g.symm)<|WL.nil<|oJ h▸Nh results171 .nil fun w hw=>⟨mF,g.trans U,hw.sub (.cons .here .nil)⟩
def vD(e:List z2)(b:Int)(f:(List z2)->Int->Option (List z2)):Nat->(List z2)->Int->Int->Option (List z2)
 | 0,_,_,_=>none
 | h+1,c,d,a=>if decide (a<((e.length-(b:Int).toNat:Nat):Int)) then sK (fun(i:List z2) (j:Int)=>vD e b f h i j (i64 (a+1))) fun g=>chk (0<=a/\a<((e.length-(b:Int).toNat:Nat):Int)) (chk (0<=(i64 (a-1))/\(i64 (a-1))<((e.length-(b:Int).toNat:Nat):Int)) (if decide ((⟨(nth c (b+a)).fN,(nth c (b+a)).fD⟩:z2)≠(⟨(nth c (b+(i64 (a-1)))).fN,(nth c (b+(i64 (a-1)))).fD⟩:z2)) then chk (0<=a/\a<((e.length-(b:Int).toNat:Nat):Int)) (chk (0<=d/\d<c.length) (g (c.set (d:Int).toNat (⟨(nth c (b+a)).fN,(nth c (b+a)).fD⟩:z2)) (i64 (d+1)))) else g c d)) else f c d
def vE(b:List z2)(e:Option (List z2)):Nat->Int->Option (List z2)
 | 0,_=>none
 | f+1,a=>if decide (a<b.length) then uB (vE b e f (i64 (a+1))) fun g=>chk (0<=a/\a<b.length) (chk (0<=(i64 (a-1))/\(i64 (a-1))<b.length) (if decide ((⟨(nth b a).fN,(nth b a).fD⟩:z2)=(⟨(nth b (i64 (a-1))).fN,(nth b (i64 (a-1))).fD⟩:z2)) then chk (0<=a/\a<b.length) (sK (fun(d:List z2) (c:Int)=>chk (0<=c/\c<=d.length) (chk (0<=c/\c<=(((d.take (c:Int).toNat++List.replicate (d.length-(c:Int).toNat) ((⟨0,0⟩:z2):z2)).length:Nat):Int)) (some ((d.take (c:Int).toNat++List.replicate (d.length-(c:Int).toNat) ((⟨0,0⟩:z2):z2)).take (c:Int).toNat)))) fun h=>vD b a h xR b a 1) else g)) else e
def je(a:List z2):Option (List z2):=
 if decide ((a.length:Int)<2) then some a else uB (some a) fun b=>vE a b xR 1
theorem ov(Z s j g r)(h:je g=some r){Nv}(hz:Pz [row (vs s g.length j) 132 2 (g.flatMap xZ)] Nv Z)(ip:Ho Nv [row (vs s g.length j) 132 2 (g.flatMap xZ)]):
  Calls Tryz.prog 172 #[vs s g.length j] Nv fun e w'=>∃ N:Option Addr,∃ O:Nat,e = .returned (vs N r.length O)/\True/\Hp (fps [row (vs s g.length j) 132 2 (g.flatMap xZ)]) Nv w' [row (vs N r.length O) 132 2 (r.flatMap xZ)]:=by
 unfold je at h
 refine H7 func172 U ip U<|B1n U<|WC.b<|B1q U<|Le 7 (w9 underlying175)<|Q1n U<|Lj h (fun V h=>?_)<|fun V h=>?_
 ·exact B2n U<|Nw<|Ll<|oJ h▸Li results172 (.tmp U .nil) fun w hw=>⟨s,j,w6,trivial,hw.sub (.cons .here .nil)⟩
 ·refine Nn ?_
  obtain⟨P,W,h⟩:=qB h
  let C:Value:=(vs s g.length j);let E:List Asrt:=[row C 132 2 (g.flatMap xZ)];refine Nd (P=some r) ([(0,C)]) E ?_ ?_
  ·refine B1n U<|WC.block<|Ng (fun G c=>(vE g P G c=some r)) (fun G c=>[(0,C),(3,vi c)]) (fun G c=>E) (fun G c=>G) ⟨xR,1⟩ h .q (.cons .here .nil) ?_
   rintro(_|X) c h;·cases h
   rw[vE] at h
   refine WC.b<|B2q U<|Le 12 (w9 underlying175)<|Q1n U<|Lj h (fun Y h=>?_)<|fun Y h=>?_
   ·refine Nn<|jK0 h fun aa ab h=>Nd (aa=some r) ([(0,C),(3,vi c)]) E ?_ ?_
    ·refine WC.block<|WC.b<|cK h fun H h=>cK h fun I h=>Lu nc []<|Lf 0 U q_m<|Lf 1 U q_m<|N2 (fun w hw=>Hp.vo .here hw (by intro hz';have:=H;rw[hz'] at this;omega)) ?_
     rintro⟨o,rfl⟩
     refine Lf 2 U (xY z3g H.1 H.2 wz)<|Lg 3 U (wi (cs:=(xZ<|nth g c)) ze<|vB .here<|wG (enc:=xZ) (l:=g) (i:=c) (sz:=2) (fun _=>U) H.1 H.2)<|Lf 4 U q_m<|Lf 5 U q_m<|Lf 6 U sR<|Lf 7 U (xY z3g I.1 I.2 wz)<|Lg 8 U (wi (cs:=(xZ<|nth g<|i64 (c-1))) ze<|vB .here<|wG (enc:=xZ) (l:=g) (i:=i64 (c-1)) (sz:=2) (fun _=>U) I.1 I.2)<|Lf 9 U (oq (enc:=xZ) (a:=(⟨(nth g c).fN,(nth g c).fD⟩:z2)) (b:=(⟨(nth g<|i64 (c-1)).fN,(nth g<|i64 (c-1)).fD⟩:z2)) zFE)<|Ny (by kernel_rfl)<|Lb<|Lj h (fun ad h=>?_)<|fun ad h=>?_
     ·refine WC.b<|cK h fun t h=>D2q U<|P3 (dd:=28) U U z3g U U .here t<|Q1n U<|jK2 h fun Q ae h=>H0 (fun m p=>(Q m p=some r)/\(m.length=g.length)) (fun m p=>[(0,vs (some ⟨o,0,none⟩) m.length j),(3,vi p)]) (fun m p=>[row (vs (some ⟨o,0,none⟩) m.length j) 132 2 (m.flatMap xZ)]) ?_ ?_
      ·let D:Value:=(vs (some ⟨o,(c:Int).toNat*2,none⟩) (g.length-(c:Int).toNat) (j-(c:Int).toNat));refine B1n U<|WC.block<|Dw (fun x d n f=>(vD g c Q x d n f=some r)/\(d.length=g.length)) (fun x d n f=>[(0,vs (some ⟨o,0,none⟩) d.length j),(3,vi n),(4,D),(5,vi f)]) (fun x d n f=>[row (vs (some ⟨o,0,none⟩) d.length j) 132 2 (d.flatMap xZ)]) (fun x d n f=>x) ⟨xR,g,c,1⟩ ⟨h,U⟩ .q (.cons .here .nil) ?_
       rintro (_|af) d n f ⟨h,z⟩;·cases h
       rw[vD] at h
       refine WC.b<|B2q U<|Le 31 (w9 underlying175)<|Q1n U<|Lj h (fun ag h=>?_)<|fun ag h=>?_
       ·refine Nn<|jK2 h fun ah aj h=>H0 (fun q v=>(ah q v=some r)/\(q.length=g.length)) (fun q v=>[(0,vs (some ⟨o,0,none⟩) q.length j),(3,vi v),(4,D),(5,vi f)]) (fun q v=>[row (vs (some ⟨o,0,none⟩) q.length j) 132 2 (q.flatMap xZ)]) ?_ ?_
        ·refine WC.block<|WC.b<|cK h fun J h=>cK h fun K h=>Lu nc []<|Lf 0 U q_m<|Lf 1 U q_m ?_
         have R:(0:Int)<=c+f/\c+f<d.length:=by have h1:=z;have h2:=t;have h3:=J;omega
         refine Lf 2 U (xY z3g J.1 J.2<|Xi t.1 J.1)<|Lg 3 U (wi (cs:=(xZ<|nth d (c+f))) ze<|vB .here<|wG (enc:=xZ) (l:=d) (i:=c+f) (sz:=2) (fun _=>U) R.1 R.2)<|Lf 4 U q_m<|Lf 5 U q_m<|Lf 6 U sR ?_
         have S:(0:Int)<=c+(i64 (f-1))/\c+(i64 (f-1))<d.length:=by have h1:=z;have h2:=t;have h3:=K;omega
         refine Lf 7 U (xY z3g K.1 K.2<|Xi t.1 K.1)<|Lg 8 U (wi (cs:=(xZ<|nth d (c+(i64 (f-1))))) ze<|vB .here<|wG (enc:=xZ) (l:=d) (i:=c+(i64 (f-1))) (sz:=2) (fun _=>U) S.1 S.2)<|Lf 9 U (eN (enc:=xZ) (a:=(⟨(nth d (c+f)).fN,(nth d (c+f)).fD⟩:z2)) (b:=(⟨(nth d (c+(i64 (f-1)))).fN,(nth d (c+(i64 (f-1)))).fD⟩:z2)) zFE U U)<|Ny (by kernel_rfl)<|Lb<|Lj h (fun ak h=>?_)<|fun ak h=>?_
         ·refine WC.b<|cK h fun L h=>cK h fun B h=>D3q U<|La U ?_
          have T:(0:Int)<=c+f/\c+f<d.length:=by have h1:=z;have h2:=t;have h3:=L;omega
          let F:List Value:=[vi ((nth d (c+f)).fN),vi ((nth d (c+f)).fD)];refine Le 49 (xY z3g L.1 L.2<|Xi t.1 L.1)<|Le 50 (wi (cs:=(xZ<|nth d (c+f))) ze<|vB .here<|wG (enc:=xZ) (l:=d) (i:=c+f) (sz:=2) (fun _=>U) T.1 T.2)<|Le 51 (xY z3g B.1 B.2 wz)<|Ln (kQ (vs:=F) (ds:=(d.set (n:Int).toNat (⟨(nth d (c+f)).fN,(nth d (c+f)).fD⟩:z2)).flatMap xZ) z12 sN .here (ma (enc:=xZ) (sz:=2) (k:=0) (fun _=>U) B.1 B.2 (by decide))<|fZ (enc:=xZ) (l:=d) (sz:=2) (vs:=F) (y:=(⟨(nth d (c+f)).fN,(nth d (c+f)).fD⟩:z2)) (k:=0) (fun _=>U) B.1 B.2<|Nat.le_of_ble_eq_true U)<|H9 .here (u:=(vs (some ⟨o,0,none⟩) ((d.set (n:Int).toNat (⟨(nth d (c+f)).fN,(nth d (c+f)).fD⟩:z2)).length) j)) (qs (List.length_set).symm)<|L7 (i:=0) U (u:=(vs (some ⟨o,0,none⟩) ((d.set (n:Int).toNat (⟨(nth d (c+f)).fN,(nth d (c+f)).fD⟩:z2)).length) j)) (qs (List.length_set).symm)<|Q0n<|D3q U<|WL.nil<|Lt ?_
          exact Lp ⟨d.set (n:Int).toNat (⟨(nth d (c+f)).fN,(nth d (c+f)).fD⟩:z2),i64 (n+1)⟩ ⟨h,(List.length_set).trans z⟩ .q<|.cons .here .nil
         ·exact N0<|Lt<|Lp ⟨d,n⟩ ⟨h,z⟩ .q<|.cons .here .nil
        ·rintro q v ⟨h,al⟩
         replace h:=(aj q v).symm.trans h
         exact D3q U<|WL.nil<|Nx ⟨af,q,v,i64 (f+1)⟩ ⟨h,al⟩ (Nat.lt_succ_self _) .q<|.cons .here .nil
       ·exact Nz<|Lo<|Lo<|Lv<|Lp ⟨d,n⟩ ⟨h,z⟩ .q<|.cons .here .nil
      ·rintro m p ⟨h,aq⟩
       replace h:=(ae m p).symm.trans h
       refine WC.b<|cK h fun M h=>D2q U<|Pi (dd:=56) U U z3g U U .here M ?_
       intro ar au am
       let A:Value:=(vs (some ⟨o,0,none⟩) ((m.take (p:Int).toNat++List.replicate (m.length-(p:Int).toNat) ((⟨0,0⟩:z2):z2)).length) j);refine Ln (ai (enc:=xZ) (z0:=((⟨0,0⟩:z2):z2)) (l:=m) z3g z1s U am M (fun _=>U) (by decide) U Yl .here)<|H9 .here (u:=A) (qs (oR M).symm)<|L7 (i:=0) U (u:=A) (qs (oR M).symm)<|Q0n<|WC.b ?_
       refine cK h fun an h=>D1q U<|La U (O3 (dd:=59) (enc:=xZ) (ls:=m.take (p:Int).toNat++List.replicate (m.length-(p:Int).toNat) ((⟨0,0⟩:z2):z2)) U U z3g U U .here (fun _=>U) an fun ao ap=>Q1n U<|Nw<|Ly<|Ll<|Ll<|Ly<|Ll ?_)
       exact oJ h▸Li results172 (.tmp U .nil) fun w hw=>⟨ao,ap,w6,trivial,hw.sub (.cons .here .nil)⟩
     ·exact N0<|Lt<|Lp () h .q<|.cons .here .nil
    ·rintro  h
     replace h:=ab.symm.trans h
     exact D3q U<|WL.nil<|Nx ⟨X,i64 (c+1)⟩ h (Nat.lt_succ_self _) .q<|.cons .here .nil
   ·exact Nz<|Lo<|Lo<|Lv<|Lp () h (.cons U .nil)<|.cons .here .nil
  ·rintro  h
   replace h:=W.symm.trans h
   exact B2n U<|Nw<|oJ h▸Li results172 (.tmp U .nil) fun w hw=>⟨s,j,w6,trivial,hw.sub (.cons .here .nil)⟩
def qg(a:z6×z6)(b:List z2)(d:Int):Option (Bool×(Nat×List z2×Int)):=
 (vZ a.1.yi a.2.yi).bind fun g=>if decide (g<0) then(qI (⟨d⟩:ys) (fun y0 y1=>jq y0 y1) a.2.yi a.1.yi).bind fun e=>(qI e.2 (fun y0 y1=>jq y0 y1) a.1.fR a.2.fR).bind fun f=>(qI f.2 (fun y0 y1=>gJ y0 y1) e.1 f.1).bind fun c=>chk (((b++([c.1]:List z2)).length:Int)*16<=140737488355328/\((b++([c.1]:List z2)).length:Int)<=4611686018427387904) (some (true,(0,b++([c.1]:List z2),c.2.fE))) else some (true,(0,b,d))
def jC(a:List z6):Option (List z2×Int):=
 (mw a).bind fun f=>if !f then some (([]:List z2),2) else(pm a).bind fun b=>sK (fun(c:Int) (g:List z2)=>if decide (c≠0) then some (([]:List z2),c) else(qZ g (fun y0 y1=>vZ y0 y1)).bind fun h=>(je h).bind fun i=>some (i,0)) fun j=>(rl b b).bind fun d=>(ua (Nat×List z2×Int) (fun(x:z6×z6) (s:Nat×List z2×Int)=>chk (s.1=0) (qg x s.2.1 s.2.2)) (0,([]:List z2),0) d.1 d.2).bind fun e=>j e.2.2 e.2.1
theorem dU(Z W X S r)(h:jC S=some r){Nv}(hz:PZ [] Nv Z)(aa:ZS Z 4 (rq qk) W X S):
  Calls Tryz.prog 153 #[vs W S.length X] Nv fun e w'=>∃ ab:Option Addr,∃ ad:Nat,e = .returned (.tuple #[vs ab r.1.length ad,vi r.2])/\True/\Hp [] Nv w' [row (vs ab r.1.length ad) 132 2 (r.1.flatMap xZ)]:=by
 unfold jC at h
 let O:Value:=(vs W S.length X);refine At (vs:=[O]) (pre:=[]) (env:=[(0,O)]) func153 U ntmps153 U (Hp.nil Nv _) U ?_
 refine WC.pool<|B2n U<|WC.b<|WC.b<|bK h fun au av h=>D1q U<|Lm 10 (Ns call146) .nil (sO hz .nil .here fun w pz ho=>og _ _ _ _ _ av pz<|aa.mono<|zl)<|Q1n U<|Lj h (fun aw h=>?_)<|fun aw h=>?_
 ·exact B2n U<|Nw<|Ll<|WX.nilRow 132 2<|oJ h▸O0 results153 (.tmp U<|.tmp U .nil) fun w hw=>⟨none,0,qz,trivial,hw.sub (.cons .here .nil)⟩
 ·refine Nn<|B0q (Lh 4 (xW (cs:=[vi 0]) zFB) fun o _=>Q0n<|B0q (Lh 5 (xW (cs:=[vn]) zy3) fun n _=>Q0n<|WC.b ?_))
  refine bK h fun ax ay h=>D1q U<|N9 (dd:=13) U (Ns call169) .nil (sO hz .nil .h2 fun w pz ho=>Jt _ _ _ _ _ ay pz<|aa.mono<|zl) ?_
  rintro aZ a0 _
  refine Q1n U<|jK2 h fun az aA h=>Ra (fun P t p Q u v=>(az t p=some r)/\(xN (Z++[]) (Z++Q))) (fun P t p Q u v=>[(4,vp o),(5,vp n)]) (fun P t p Q u v=>[fz Q,stb o 262 [vi t],stb n 175 [vs u p.length v],row (vs u p.length v) 132 2 (p.flatMap xZ),gS P]) ?_ ?_
  ·refine WC.b<|WC.freezeS (ls:=ax) .here .h2 hz (RR.flat (enc:=qk) (fun _=>U) _) ?_
   intro k aB ae
   refine bK h fun T aC h=>D2q U<|P5 (dd:=16) U U U (Ns call170) .nil (sO hz .nil .here fun w pz ho=>QF _ _ _ _ _ _ _ _ aC pz ae ae) ?_
   rintro c d af ag ah ai ⟨aD,aE⟩
   refine Q0n<|WC.block<|WC.pool<|WC.drop (.s6 .here .h3 .h3 .here .here .here)<|WC.nilRow 132 2<|H8 (f:=184) (caps:=[vp c,vp d]) U call184 ?_
   intro a1 a2 q j y V aF aG w hw
   let L:Value:=(vs none (([]:List z2).length) 0);let A:List Asrt:=[fz [],stb n 175 [L],row L 132 2 (([]:List z2).flatMap xZ),stb o 262 [vi 0],wr q (y .ready none)];have hw1:=hw.selAll ((.s5 .h3 .h3 .h2 .h2 .here):Sel _ A _)
   let C:List Value:=[vs af T.1.length ag];let E:List Value:=[vs ah T.2.length ai];let H:List Asrt:=[stb c 173 C,stb d 173 E];have pz:=(hz.call2 hw1 ((.cons .here .nil):Sel [jt A,gS j,stb c 173 C,stb d 173 E,fz k] [jt A] [gS j,stb c 173 C,stb d 173 E,fz k]) .h3).lend hw1 ((.cons .here .nil):Sel [jt A,gS j,stb c 173 C,stb d 173 E,fz k] [jt A] [gS j,stb c 173 C,stb d 173 E,fz k]) (B:=H) (fun _ hx'=>((.s2 .h1 .h1):Sel _ H _).mem hx')
   refine bK h fun m aH h=>Calls.mono (Wf (Z:=_) (zkr:=q) (zaN:=(Option Addr×Nat)) (z8n:=(fun(g:Option Addr×Nat) (s:Nat×List z2×Int)=>jt ([fz [],stb n 175 [vs g.1 s.2.1.length g.2],row (vs g.1 s.2.1.length g.2) 132 2 (s.2.1.flatMap xZ),stb o 262 [vi s.2.2]]++[wr q (y (pY<|sL [] s.1)<|sL [] s.1)]))) (zeK:=(fun(g:Option Addr×Nat) (s:Nat×List z2×Int)=>True)) (zks:=(none,0)) (zBP:=⟨c,0,none⟩) (zkt:=af) (zku:=ag) (zkv:=⟨d,0,none⟩) (zvk:=ah) (zvl:=ai) (z1d:=(Nat×List z2×Int)) (z6j:=(fun(x:z6×z6) (s:Nat×List z2×Int)=>chk (s.1=0)<|qg x s.2.1 s.2.2)) (zcp:=(0,([]:List z2),0)) (z26:=T.1) (z2Q:=T.2) (r:=m) pz ?_ trivial (aD.mono<|zl) ((hw1.lent ((.cons .here .nil):Sel [jt A,gS j,stb c 173 C,stb d 173 E,fz k] [jt A] [gS j,stb c 173 C,stb d 173 E,fz k]) (B:=H) (fun _ hx'=>((.s2 .h1 .h1):Sel _ H _).mem hx') (.head _) _).stb) (aE.mono<|zl) ((hw1.lent ((.cons .here .nil):Sel [jt A,gS j,stb c 173 C,stb d 173 E,fz k] [jt A] [gS j,stb c 173 C,stb d 173 E,fz k]) (B:=H) (fun _ hx'=>((.s2 .h1 .h1):Sel _ H _).mem hx') (.tail _<|.head _) _).stb) aH<|hw1.owns ((.cons .here .nil):Sel [jt A,gS j,stb c 173 C,stb d 173 E,fz k] [jt A] [gS j,stb c 173 C,stb d 173 E,fz k])) ?_
   ·refine aj (LI:=(fun(g:Option Addr×Nat) (s:Nat×List z2×Int)=>[fz [],stb n 175 [vs g.1 s.2.1.length g.2],row (vs g.1 s.2.1.length g.2) 132 2 (s.2.1.flatMap xZ),stb o 262 [vi s.2.2]])) (pc:=(fun(s:Nat×List z2×Int)=>sL [] s.1)) V aF aG (fun _ _=>U) (by decide) ?_
    rintro a _ ⟨ak,al⟩ ⟨aI,z,am⟩ aJ aK Fb wb an _ hz
    replace hz:=hz.left
    letI:Rnd:=dI q
    obtain⟨AI,b⟩:=xH an
    replace AI:aI=0:=AI;subst AI;clear an
    replace b:qg a z am=some (aJ,aK):=b
    unfold qg at b
    let J:Value:=(vs ak z.length al);let F:List Asrt:=[fz [],stb n 175 [J],row J 132 2 (z.flatMap xZ),stb o 262 [vi am],wr q (y .ready none)];refine WC.restr (env':=[(11,.bool (!au)),(4,vp o),(5,vp n),(17,.agg #[vi a.1.yi.fN,vi a.1.yi.fD,vi a.1.fR.fN,vi a.1.fR.fD]),(18,.agg #[vi a.2.yi.fN,vi a.2.yi.fD,vi a.2.fR.fN,vi a.2.fR.fD])]) (.qo U)<|Om (L':=F) U<|B0q<|Lh 7 (xW (cs:=[vi 0,vi 0,vi 0,vi 0]) zdM) ?_
    intro aL _
    refine Ln (xP zc5 .here)<|Q0n<|Ld (Lh 8 (xW (cs:=[vi 0,vi 0,vi 0,vi 0]) zdM) fun aM _=>Ln (xP zc5 .here)<|WL.nil<|Bh V .h6<|WC.block<|WC.b ?_)
    obtain⟨a5,aN,b⟩:=z8 b
    let M:List Value:=[vi a.1.yi.fN,vi a.1.yi.fD];let N:List Value:=[vi a.2.yi.fN,vi a.2.yi.fD];refine Ld<|Le 19 (xA uf)<|Le 20 (wi (cs:=M) ze<|gp (s:=2) .h2 U)<|Le 21 (xA uf)<|Le 22 (wi (cs:=N) ze<|gp (s:=2) .h1 U)<|Lm 23 (Ns call79) .nil (sO hz .nil .h3 fun w pz ho=>mS _ _ _ _ aN pz )<|Q1n U<|WC.cond U (fun Y=>?_)<|fun Y=>?_
    ·replace b:=jD b Y
     obtain⟨a6,aO,b⟩:=z8 b
     obtain⟨a7,aP,b⟩:=z8 b
     obtain⟨R,aQ,b⟩:=z8 b
     obtain⟨aR,b⟩:=xH b
     refine Lu (fun i=>[5,10,11,13,14].contains i) [rG n 175 [(0,J)],rG aL 171 [(2,vi a.1.fR.fN),(3,vi a.1.fR.fD)],rG aM 171 [(2,vi a.2.fR.fN),(3,vi a.2.fR.fD)]]<|Nb 0 U (wT.wk (.s3 .h4 .h2 .h1)<|.stb (.cons U .nil)<|.stb (.cons U<|.cons U .nil)<|.stb (.cons U<|.cons U .nil) .nil) (xB zc6 U<|mH .here<|.head _)<|Lf 1 U (xA uf)<|Lg 2 U (wi (cs:=N) ze<|gp (s:=2) .h1 U)<|Lf 3 U (xA uf)<|Lg 4 U (wi (cs:=M) ze<|gp (s:=2) .h2 U)<|Lf 6 U (xA tR)<|Nb 7 U (wT.wk (.s3 .h4 .h2 .h1)<|.stb (.cons U .nil)<|.stb (.cons U<|.cons U .nil)<|.stb (.cons U<|.cons U .nil) .nil) (wi (cs:=[vi a.1.fR.fN,vi a.1.fR.fD]) ze<|eT .h1 (.head _)<|(.tail _<|.head _))<|Lf 8 U (xA tR)<|Nb 9 U (wT.wk (.s3 .h4 .h2 .h1)<|.stb (.cons U .nil)<|.stb (.cons U<|.cons U .nil)<|.stb (.cons U<|.cons U .nil) .nil) (wi (cs:=[vi a.2.fR.fN,vi a.2.fR.fD]) ze<|eT .h2 (.head _)<|(.tail _<|.head _)) (WD.call0 (i:=5) (dd:=30) U (by kernel_rfl) U (.inl ⟨U,(wT.wk (.s3 .h5 .h3 .h2)<|.stb (.cons U .nil)<|.stb (.cons U<|.cons U .nil)<|.stb (.cons U<|.cons U .nil) .nil)⟩) (Ns call167) (.cons .h6 .nil) (sO hz (.cons .h6 .nil) .h3 fun w pz ho=>Calls.mono (tJ _ _ (zcr:=74) (zhT:=[]) _ (zeL:=(fun y0 y1=>jq y0 y1)) _ _ _ aO pz call74 (fun w' hz' y0 y1  r  hr=>iu _ _ _ _ hr hz' ) ho)<|fun _ _ h'=>⟨h'.1,trivial,h'.2⟩) fun _=>WD.call0 (i:=10) (dd:=35) U (by kernel_rfl) U (.inl ⟨U,(wT.wk (.s3 .h5 .h3 .h2)<|.stb (.cons U .nil)<|.stb (.cons U<|.cons U .nil)<|.stb (.cons U<|.cons U .nil) .nil)⟩) (Ns call167) (.cons .here .nil) (sO hz (.cons .here .nil) .h3 fun w pz ho=>Calls.mono (tJ _ _ (zcr:=74) (zhT:=[]) _ (zeL:=(fun y0 y1=>jq y0 y1)) _ _ _ aP pz call74 (fun w' hz' y0 y1  r  hr=>iu _ _ _ _ hr hz' ) ho)<|fun _ _ h'=>⟨h'.1,trivial,h'.2⟩) fun _=>WD.call0 (i:=11) (dd:=36) U (by kernel_rfl) U (.inl ⟨U,(wT.wk (.s3 .h5 .h3 .h2)<|.stb (.cons U .nil)<|.stb (.cons U<|.cons U .nil)<|.stb (.cons U<|.cons U .nil) .nil)⟩) (Ns call167) (.cons .here .nil) (sO hz (.cons .here .nil) .h3 fun w pz ho=>Calls.mono (tJ _ _ (zcr:=75) (zhT:=[]) _ (zeL:=(fun y0 y1=>gJ y0 y1)) _ _ _ aQ pz call75 (fun w' hz' y0 y1  r  hr=>Q5 _ _ _ _ hr hz' ) ho)<|fun _ _ h'=>⟨h'.1,trivial,h'.2⟩) ?_)
     intro _
     refine WD.new (i:=12) (dd:=37) U (by kernel_rfl) U (ws (cs:=([R.1]:List z2).flatMap xZ) z3g (Lq (l:=[.tmp 36]) (.cons U .nil) [0]) (fun _=>by kernel_rfl) (by unfold maxLen;omega)) (fun h'=>absurd h' (by decide)) fun a3 _=>WD.old (i:=13) (dd:=38) U (by kernel_rfl) U (fun _=>(wT.wk (.s3 .h7 .h5 .h4)<|.stb (.cons U .nil)<|.stb (.cons U<|.cons U .nil)<|.stb (.cons U<|.cons U .nil) .nil)) (kK (enc:=xZ) (l1:=z) (l2:=([R.1]:List z2)) z3g .h7 (fun _=>U) (kN .here) (gN Yl _) aR) ?_
     rintro⟨ao,ap⟩ _
     refine Nc (i:=14) U (by kernel_rfl) (by kernel_rfl) (xP zy4 .h7)<|Ny (by kernel_rfl)<|Lt ?_
     obtain⟨rfl,rfl⟩:=dJ b
     let K:Value:=(vs ao ((z++([R.1]:List z2)).length) ap);exact Ob V .h4<|fun w' qA=>⟨(ao,ap),U,trivial,(qA.selAll ((.s5 .h7 .h1 .h1 .h2 .here):Sel _ [fz [],stb n 175 [K],row K 132 2 ((z++([R.1]:List z2)).flatMap xZ),stb o 262 [vi R.2.fE],wr q (y .ready none)] _)).sub (.cons .here .nil)⟩
    ·replace b:=jE b Y
     refine N0<|Lt ?_
     obtain⟨rfl,rfl⟩:=dJ b
     exact Ob V .here<|fun w' qA=>⟨(ak,al),U,trivial,(qA.selAll ((.s5 .h3 .h3 .h3 .h3 .here):Sel _ F _)).sub (.cons .here .nil)⟩
   ·rintro _ w' ⟨⟨aq,ar⟩,rfl,_,hp⟩
    have zX:=hw1.call ((.cons .here .nil):Sel [jt A,gS j,stb c 173 C,stb d 173 E,fz k] [jt A] [gS j,stb c 173 C,stb d 173 E,fz k]) hp
    let I:Value:=(vs aq m.2.1.length ar);have BE:Hp _ _ w' [fz [],stb n 175 [I],row I 132 2 (m.2.1.flatMap xZ),stb o 262 [vi m.2.2],wr q (y (pY (sL [] m.1)) (sL [] m.1)),gS j,stb c 173 C,stb d 173 E,fz k]:=zX.pickAll .here
    refine⟨_,sL [] m.1,_,U,BE.sub ((.s9 .h4 .here .here .here .here .here .here .here .here):Sel _ [wr q (y (pY (sL [] m.1)) (sL [] m.1)),fz [],stb n 175 [I],row I 132 2 (m.2.1.flatMap xZ),stb o 262 [vi m.2.2],gS j,stb c 173 C,stb d 173 E,fz k] _),?_⟩
    clear hp zX BE pz hw hw1
    refine wjN ?_
    letI:Rnd:=sM j
    exact WX.merge .here .h6<|Lt<|Of (D:=fun(g:Nat×Int×List z2×Zp×Option Addr×Nat)=>g.1) (G:=Nat×Int×List z2×Zp×Option Addr×Nat) ⟨j,m.2.2,m.2.1,k++[],aq,ar⟩ ⟨h,(aB.trans<|zl.trans (xN.qC _ _ _))⟩ .q<|.s5 .here .h2 .here .here .here
  ·rintro P t p Q u v ⟨h,a4⟩
   replace h:=(aA t p).symm.trans h
   letI:Rnd:=sM P
   refine WC.b<|B0q<|Le 39 (xA lM)<|Le 40 (Nt z5n .h1)<|Q1n U<|Lj h (fun aS h=>?_)<|fun aS h=>?_
   ·refine WC.b<|Lu nc []<|Lf 0 U (xA lM)<|Lg 1 U (Nt z5n .h1)<|Lf 2 U q_z<|Lf 3 U q_z<|Ny (by kernel_rfl)<|Lb<|Nw<|Ll<|WX.nilRow 132 2 ?_
    obtain rfl:=oJ h
    exact Oc .h5 results153 (.tmp U<|.tmp U .nil)<|fun w hw=>⟨none,0,qz,trivial,hw.sub (.cons .h1 .nil)⟩
   ·refine Nn<|WC.b<|bK h fun aT aU h=>Ld<|Le 44 (Nt zc6 .h2)<|Na (dd:=45) U (Ns call171) (.cons .h3 .nil) (sO hz (.cons .h3 .nil) .here fun w pz ho=>o6 _ _ _ (zny:=79) (zvr:=[]) _ (znx:=(fun y0 y1=>vZ y0 y1)) _ aU pz call79 (fun w' hz' y0 y1  r  hr=>mS _ _ _ _ hr hz' ) ho) ?_
    rintro  aV
    refine H3 (cs':=[vs u aT.length v]) .h3 (by rw[aV])<|Q0n<|WC.b<|bK h fun a8 aW h=>Ld<|Le 46 (Nt zc6 .here)<|N9 (dd:=47) U (Ns call172) (.cons .h1 .nil) (sO hz (.cons .h1 .nil) .h1 fun w pz ho=>ov _ _ _ _ _ aW pz  ho) ?_
    rintro aX aY _
    refine Q2n U<|Nw ?_
    obtain rfl:=oJ h
    exact Oc .h4 results153 (.tmp U<|.tmp U .nil)<|fun w hw=>⟨aX,aY,qz,trivial,hw.sub (.cons .h1 .nil)⟩
def gn(a:z6)(b:z6):Option Int:=
 (vZ a.fR b.fR).bind fun c=>some c
theorem Vh(Z a b r)(h:gn a b=some r){Nv}(hz:PZ [] Nv Z):
  RC 174 #[.agg #[vi a.yi.fN,vi a.yi.fD,vi a.fR.fN,vi a.fR.fD],.agg #[vi b.yi.fN,vi b.yi.fD,vi b.fR.fN,vi b.fR.fD]] Nv (vi r) [] []:=by
 unfold gn at h
 refine Lz func174 U U<|B0q (Lh 2 (wg (cs:=[vi a.yi.fN,vi a.yi.fD,vi a.fR.fN,vi a.fR.fD])) fun d _=>Lh 3 (wg (cs:=[vi b.yi.fN,vi b.yi.fD,vi b.fR.fN,vi b.fR.fD])) fun e _=>Q1n U<|WC.b ?_)
 exact bK h fun f c h=>Ld<|Le 5 (xA tR)<|Le 6 (wi (cs:=[vi a.fR.fN,vi a.fR.fD]) ze<|gp (s:=2) .h1 U)<|Le 7 (xA tR)<|Le 8 (wi (cs:=[vi b.fR.fN,vi b.fR.fD]) ze<|gp (s:=2) .here U)<|Nr call79 hz (mS _ _ _ _ c)<|Q1n U<|Nw<|oJ h▸Nl results174
def wS(b:List z6)(zaP:z6->z6->Option Int)(g:Int->Int->Int->Int->Option z6):Nat->Int->Int->Int->Int->Int->Option z6
 | 0,_,_,_,_,_=>none
 | i+1,a,c,d,e,f=>if decide (a<b.length) then jp4 (fun(j:Int) (k:Int) (l:Int) (m:Int)=>wS b zaP g i (i64 (a+1)) j k l m) fun h=>chk (0<=a/\a<b.length) ((zaP (⟨(⟨((nth b a).yi).fN,((nth b a).yi).fD⟩:z2),(⟨((nth b a).fR).fN,((nth b a).fR).fD⟩:z2)⟩:z6) (⟨(⟨c,d⟩:z2),(⟨e,f⟩:z2)⟩:z6)).bind fun n=>if decide (n<0) then chk (0<=a/\a<b.length) (h (((nth b a).yi).fN) (((nth b a).yi).fD) (((nth b a).fR).fN) (((nth b a).fR).fD)) else h c d e f) else g c d e f
def qu(a:List z6)(zaP:z6->z6->Option Int):Option z6:=
 if decide ((a.length:Int)<1) then none else chk ((0:Int)<=0/\0<(a.length:Int)) (jp4 (fun(b:Int) (c:Int) (d:Int) (e:Int)=>some (⟨(⟨b,c⟩:z2),(⟨d,e⟩:z2)⟩:z6)) fun f=>wS a zaP f xR 1 (((nth a 0).yi).fN) (((nth a 0).yi).fD) (((nth a 0).fR).fN) (((nth a 0).fR).fD))
theorem rX(Z y z zi2 znI a zaP r)(h:qu a zaP=some r){Nv}(hz:PZ [] Nv Z)(B:ZS Z 4 (rq qk) y z a)(F:∀ args w,(callFunc zi2 args).run Tryz.prog w = .ok (.enter zi2 args) w)(G:∀ w:World,PZ [] w Z->∀(x0:z6) (x1:z6) (r:Int),zaP x0 x1=some r->Calls Tryz.prog zi2 (([.agg #[vi x0.yi.fN,vi x0.yi.fD,vi x0.fR.fN,vi x0.fR.fD],.agg #[vi x1.yi.fN,vi x1.yi.fD,vi x1.fR.fN,vi x1.fR.fD]]:List Value)++znI).toArray w fun e w'=>e = .returned (vi r)/\Hp [] w w' []):
  RC 173 #[vs y a.length z,.func (.func zi2) #[] (znI).toArray] Nv (.agg #[vi r.yi.fN,vi r.yi.fD,vi r.fR.fN,vi r.fR.fD]) [] []:=by
 unfold qu at h
 refine Lz func173 U U ?_
 let A:List Value:=[vi 0,vi 0,vi 0,vi 0];refine B0q<|Lh 4 (xW (cs:=A) zdM) ?_
 intro p _
 refine Q0n<|WC.b<|B1q U<|Le 8 (w9 underlying173)<|Q1n U<|Lj h (fun H h=>?_)<|fun H h=>?_
 ·cases h
 ·refine Nn<|WC.b<|cK h fun I h=>D1q U<|L3 (dd:=12) (Z:=Z) (Pr:=(rq qk)) z8K B I ?_
  rintro X Y J aa rfl
  refine Le 13 (xK z3v (qV hz.pv J)) (Lh 5 (xW (cs:=A) zdM) fun q _=>Ln (xP zc5 .here)<|Q0n ?_)
  refine jK4 h fun E K h=>Ou (fun s t u v=>(E s t u v=some r)) (fun s t u v=>[(4,vp p),(5,vp q)]) (fun s t u v=>[stb p 171 A,stb q 171 [vi s,vi t,vi u,vi v]]) ?_ ?_
  ·let C:Value:=(.func (.func zi2) #[] (znI).toArray);let D:Value:=(vs y a.length z);refine B1n U<|WC.block<|Pa (fun x b c d g i=>(wS a zaP E x b c d g i=some r)) (fun x b c d g i=>[(0,D),(1,C),(4,vp p),(5,vp q),(6,vi b)]) (fun x b c d g i=>[stb p 171 A,stb q 171 [vi c,vi d,vi g,vi i]]) (fun x b c d g i=>x) ⟨xR,1,((nth a 0).yi).fN,((nth a 0).yi).fD,((nth a 0).fR).fN,((nth a 0).fR).fD⟩ h .q (.s2 .h1 .here) ?_
   rintro(_|L) b c d g i h;·cases h
   rw[wS] at h
   refine WC.b<|B2q U<|Le 16 (w9 underlying173)<|Q1n U<|Lj h (fun M h=>?_)<|fun M h=>?_
   ·refine Nn<|jK4 h fun N O h=>Ou (fun k m n o=>(N k m n o=some r)) (fun k m n o=>[(0,D),(1,C),(4,vp p),(5,vp q),(6,vi b)]) (fun k m n o=>[stb p 171 A,stb q 171 [vi k,vi m,vi n,vi o]]) ?_ ?_
    ·refine WC.block<|WC.b<|cK h fun P h=>bK h fun Q R h=>Lu nc []<|Lf 0 U q_m<|Lf 1 U q_m<|Lf 2 U q_m<|Nf (j:=3) (dd:=23) (by kernel_rfl) z2B z2C (Z:=Z) (Pr:=(rq qk)) z8K B P ?_
     rintro ab ad S ae rfl
     refine Lg 4 U (xK z3v (qV hz.pv S))<|Lg 5 U (xK z3v (xM .h1))<|L4 6 U (qi (l:=[.tmp 24,.tmp 25]) (f:=zi2) (caps:=znI) F<|.r2 U U) (fun w hw=>G w (hz.now hw) (⟨(⟨((nth a b).yi).fN,((nth a b).yi).fD⟩:z2),(⟨((nth a b).fR).fN,((nth a b).fR).fD⟩:z2)⟩:z6) (⟨(⟨c,d⟩:z2),(⟨g,i⟩:z2)⟩:z6) Q  R)<|Lf 7 U sS<|Ny (by kernel_rfl)<|Lb<|Lj h (fun T h=>?_)<|fun T h=>?_
     ·refine cK h fun V h=>D2q U<|L3 (dd:=30) (Z:=Z) (Pr:=(rq qk)) z8K B V ?_
      rintro af ag W ah rfl
      exact Le 31 (xK z3v (qV hz.pv W))<|Ln (xP zc5 .h1)<|WL.nil<|Lt<|Lp ⟨((nth a b).yi).fN,((nth a b).yi).fD,((nth a b).fR).fN,((nth a b).fR).fD⟩ h .q<|.s2 .h1 .here
     ·exact N0<|Lt<|Lp ⟨c,d,g,i⟩ h .q<|.a2
    ·rintro k m n o h
     replace h:=(O k m n o).symm.trans h
     exact D3q U<|WL.nil<|Nx ⟨L,i64 (b+1),k,m,n,o⟩ h (Nat.lt_succ_self _) .q<|.a2
   ·exact Nz<|Lo<|Lo<|Lv<|Lp ⟨c,d,g,i⟩ h .q<|.a2
  ·rintro s t u v h
   replace h:=(K s t u v).symm.trans h
   exact B0q<|Le 32 (xK z3v (xM .h1))<|Ln (xP zc5 .here)<|Q0n<|Nw<|oJ h▸Nm results173 (.agg U z3v U (xM .here) .nil) .nil
def uS(a:List z6):Option (z2×Int):=
 (mw a).bind fun b=>if !b then some ((⟨0,0⟩:z2),2) else(qu a (fun y0 y1=>gn y0 y1)).bind fun c=>some (c.fR,0)
theorem Ju(Z b c a r)(h:uS a=some r){Nv}(hz:PZ [] Nv Z)(d:ZS Z 4 (rq qk) b c a):
  RC 154 #[vs b a.length c] Nv (.tuple #[.agg #[vi r.1.fN,vi r.1.fD],vi r.2]) [] []:=by
 unfold uS at h
 refine L8 func154 U U<|B0q (Lh 2 (xW (cs:=[vi 0,vi 0]) z1s) fun j _=>Q1n U<|WC.b<|WC.b ?_)
 refine bK h fun k f h=>D1q U<|Nr call146 hz (fun pz=>og _ _ _ _ _ f pz d)<|Q1n U<|Lj h (fun g h=>?_)<|fun g h=>?_
 ·exact B0q<|Le 7 (wm (v:=(.agg #[vi 0,vi 0])) (Lq (l:=[]) .nil []) (fun _=>by kernel_rfl))<|Ln (xP z12 .here)<|Q1n U<|Nw<|Ll<|oJ h▸Nm results154 (.agg U ze U (xM .here)<|.tmp U .nil) .nil
 ·exact Nn<|WC.b<|bK h fun e i h=>D1q U<|Nr call173 hz (fun pz=>rX _ _ _ (zi2:=174) (znI:=[]) _ (zaP:=(fun y0 y1=>gn y0 y1)) _ i pz d call174<|fun w' hz' y0 y1  r  hr=>Vh _ _ _ _ hr hz')<|Le 10 (Ub (cs':=#[vi e.fR.fN,vi e.fR.fD]) F0 ze U U)<|Ln (xP z12 .here)<|Q1n U<|Nw<|oJ h▸Nm results154 (.agg U ze U (xM .here)<|.tmp U .nil) .nil
def vu(b:ys)(z9D:z2->z2->Option (z2×Int))(c:z2)(d:z2):Option (z2×ys):=
 if decide (b.fE≠0) then(gI).bind fun e=>some (e,b) else(z9D c d).bind fun a=>if decide (a.2≠0) then(gI).bind fun f=>some (f,(⟨a.2⟩:ys)) else some (a.1,(⟨a.2⟩:ys))
theorem kq(Z c z90 zaQ d z9D a b r)(h:vu d z9D a b=some r){Nv}(hz:Pz [stb c 225 [vi d.fE]] Nv Z)(g:∀ args w,(callFunc z90 args).run Tryz.prog w = .ok (.enter z90 args) w)(i:∀ w:World,PZ [] w Z->∀(x0:z2) (x1:z2) (r:z2×Int),z9D x0 x1=some r->Calls Tryz.prog z90 (([.agg #[vi x0.fN,vi x0.fD],.agg #[vi x1.fN,vi x1.fD]]:List Value)++zaQ).toArray w fun e w'=>e = .returned (.tuple #[.agg #[vi r.1.fN,vi r.1.fD],vi r.2])/\Hp [] w w' [])(ip:Ho Nv [stb c 225 [vi d.fE]]):
  RF 73 #[vp c,.func (.func z90) #[] (zaQ).toArray,.agg #[vi a.fN,vi a.fD],.agg #[vi b.fN,vi b.fD]] Nv (.agg #[vi r.1.fN,vi r.1.fD]) [stb c 225 [vi d.fE]] [stb c 225 [vi r.2.fE]]:=by
 unfold vu at h
 refine H4 func73 U ip U<|B0q (Lh 6 (wg (cs:=[vi a.fN,vi a.fD])) fun q _=>Lh 7 (wg (cs:=[vi b.fN,vi b.fD])) fun s _=>Lh 8 (xW (cs:=[vi 0,vi 0]) z1s) fun t _=>Q0n<|WC.b<|B1q U<|Le 12 w3<|Le 13 (xA tS)<|Le 14 (Nt z5n .h3)<|Q1n U<|Lj h (fun j h=>?_)<|fun j h=>?_)
 ·exact WC.b<|bK h fun v k h=>Ld<|Nr call107 hz (tI _ _ k)<|Ln (xP z12 .here)<|Q0n<|Nw<|Ll<|oJ h▸Nm results73 (.agg U ze U (xM .here) .nil) (.cons .h3 .nil)
 ·refine Nn<|WC.b<|bK h fun m n h=>D1q U<|Le 19 (xK ze (xM .h2))<|Le 20 (xK ze (xM .h1))<|Lm 21 (qi (l:=[.tmp 19,.tmp 20]) (f:=z90) (caps:=zaQ) g<|.r2 U U) .nil (fun w hw=>i w (hz.now hw) a b m  n)<|Q2q U<|La U (Lh 9 (xW (cs:=[vi 0,vi 0]) z1s) fun u _=>Ln (xP z12 .here)<|Q1n U<|WC.b<|B2q U<|Le 26 w3<|Le 27 (xA tS)<|Ln (xP zqO .h4)<|Q0n<|B2n U<|Lj h (fun o h=>?_)<|fun o h=>?_)
  ·exact WC.b<|bK h fun x p h=>Ld<|Nr call107 hz (tI _ _ p)<|Ln (xP z12 .h2)<|Q0n<|Nw<|Ll<|oJ h▸Nm results73 (.agg U ze U (xM .here) .nil) (.cons .h1 .nil)
  ·exact Nn<|B0q<|Le 31 (xK ze (xM .h1))<|Ln (xP z12 .h2)<|Q0n<|Nw<|oJ h▸Nm results73 (.agg U ze U (xM .here) .nil) (.cons .h1 .nil)
def vS(b:List (List z6))(d:Int->Int->Int->Option Int):Nat->Int->Int->Int->Int->Option Int
 | 0,_,_,_,_=>none
 | i+1,a,e,f,g=>if decide (a<b.length) then chk (0<=a/\a<b.length) ((jC (nth b a)).bind fun h=>if decide (h.2≠0) then some h.2 else(uS (nth b a)).bind fun j=>(vu (⟨e⟩:ys) (fun y0 y1=>vQ y0 y1) (⟨f,g⟩:z2) j.1).bind fun c=>vS b d i (i64 (a+1)) c.2.fE c.1.fN c.1.fD) else d e f g
def qR(a:List (List z6))(b:yt)(n:List (List z6))(o:yt)(p:List z2):Option Int:=
 (if decide ((a.length:Int)>32) then some true else(qa a (fun y0=>qW y0)).bind fun e=>some e).bind fun f=>(if f then some true else(uQ b).bind fun g=>some (!g)).bind fun h=>if h then some 2 else(gI).bind fun c=>jp3 (fun(d:Int) (i:Int) (j:Int)=>(if decide (d=0) then(vZ (⟨i,j⟩:z2) b.fR).bind fun k=>some (decide (k>0)) else some false).bind fun l=>if l then some 6 else some d) fun m=>vS a m xR 0 0 c.fN c.fD
theorem pP(Z x y z I J D E F g a G l q r)(h:qR g a G l q=some r){Nv}(hz:PZ [] Nv Z)(K:ZS Z 1 (jJ Z) x y g)(ap:ZS Z 1 (jJ Z) I J G)(aq:ZC Z z [vs I G.length J])(ar:ZC Z D [vi l.fR.fN,vi l.fR.fD,vi l.fL.fN,vi l.fL.fD])(au:ZS Z 2 (rq xZ) E F q):
  RC 109 #[.agg #[vs x g.length y,vi a.fR.fN,vi a.fR.fD,vi a.fL.fN,vi a.fL.fD,.func (.func f) #[] #[vq z,vq D],vs E q.length F]] Nv (vi r) [] []:=by
 unfold qR at h
 refine L8 func109 U U ?_
 let C:Value:=(vs x g.length y);let A:List Value:=[C,vi a.fR.fN,vi a.fR.fD,vi a.fL.fN,vi a.fL.fD,.func (.func f) #[] #[vq z,vq D],vs E q.length F];refine B0q<|Lh 1 (wg (cs:=A)) ?_
 intro t _
 refine Q1n U<|WC.b<|WC.b<|bK h fun R L h=>bK h fun S M h=>Ld<|Le 11 (xA eV)<|Le 12 (Nt zgS .here)<|Le 13 (w9 underlying128)<|Q2q U<|Lw false 3 15 (B:=R) (fun h=>(oJ<|jD L h).symm) (fun _ T=>?_) ?_
 ·have m:=jE L T
  obtain⟨aD,V,m⟩:=z8 m
  replace m:=oJ m
  exact Le 16 (xA eV)<|Le 17 (Nt zgS .here)<|Nr call150 hz (fun pz=>sC _ _ _ (znc:=151) (zva:=[]) _ (znb:=(fun y0=>qW y0)) _ V pz K call151<|fun w' hz' y0 ga0 gc0 r DC hr=>ca _ _ _ _ _ hr hz' DC)<|La U<|Lx m U .all
 refine La U<|Lw false 4 20 (B:=S) (fun h=>(oJ<|jD M h).symm) (fun _ W=>?_) ?_
 ·have n:=jE M W
  obtain⟨aE,X,n⟩:=z8 n
  replace n:=oJ n
  exact Le 21 (xA Jl)<|Le 22 (wi (cs:=[vi a.fR.fN,vi a.fR.fD,vi a.fL.fN,vi a.fL.fD]) zqP<|gp (s:=4) .here U)<|Nr call152 hz (Xr _ _ _ X)<|Q2q U<|Lx n U .all
 refine Q0n<|Lj h (fun Y h=>?_)<|fun Y h=>?_
 ·exact B1n U<|Nw<|Ll<|oJ h▸Nl results109
 ·refine Nn<|B0q (Lh 3 (xW (cs:=[vi 0]) zy2) fun u _=>Q0n<|WC.b ?_)
  refine bK h fun N aa h=>Ld<|Nr call107 hz (tI _ _ aa) (Lh 4 (xW (cs:=[vi 0,vi 0]) z1s) fun v _=>Ln (xP z12 .here)<|Q0n ?_)
  refine jK3 h fun O ab h=>N5 (fun i j k=>(O i j k=some r)) (fun i j k=>[(1,vp t),(3,vp u),(4,vp v)]) (fun i j k=>[stb t 177 A,stb u 225 [vi i],stb v 132 [vi j,vi k]]) ?_ ?_
  ·refine B0q<|Le 27 (xA eV)<|Le 28 (Nt zgS .h2)<|Le 29 (w9 underlying128)<|Q1n U<|WC.block<|Dy (fun o b c d e=>(vS g O o b c d e=some r)) (fun o b c d e=>[(1,vp t),(3,vp u),(4,vp v),(28,C),(29,vi (g.length:Int)),(30,vi b)]) (fun o b c d e=>[stb t 177 A,stb u 225 [vi c],stb v 132 [vi d,vi e]]) (fun o b c d e=>o) ⟨xR,0,0,N.fN,N.fD⟩ h .q (.s3 .h2 .h1 .here) ?_
   rintro(_|ad) b c d e h;·cases h
   rw[vS] at h
   refine B1n U<|WC.b<|Lj h (fun ae h=>?_)<|fun ae h=>?_
   ·refine Nn<|WC.b<|WC.block<|WC.b<|cK h fun af h=>Ld<|L3 (dd:=32) (Z:=Z) (Pr:=(jJ Z)) zdL K af ?_
    rintro av aw ag ax ⟨ay,az,rfl,P⟩
    refine Le 33 (xB zm0 U<|mG hz.pv ag)<|Q1n U<|WC.b<|WC.b<|bK h fun aF ah h=>D1q U<|N9 (dd:=36) U (Ns call153) .nil (cc hz .nil fun w pz ho=>dU _ _ _ _ _ ah pz P) ?_
    rintro aA aB _
    refine Q5n U<|B2n U<|Lj h (fun ai h=>?_)<|fun ai h=>?_
    ·exact B2n U<|Nw<|Ll<|Ly<|Ll<|Ll<|Ly<|Ll<|oJ h▸Nl results109
    ·refine Nn<|WC.b<|bK h fun aG aj h=>D1q U<|Nr call154 hz (fun pz=>Ju _ _ _ _ _ aj pz P)<|Q2q U<|La U (Lh 9 (xW (cs:=[vi 0,vi 0]) z1s) fun aC _=>Ln (xP z12 .here)<|Q1n U ?_)
     exact bK h fun H ak h=>Ld<|Le 47 (xK ze (xM .h4))<|Le 48 (xK ze (xM .here))<|Lm 49 (Ns call73) (.cons .h3 .nil) (cc hz (.cons .h3 .nil) fun w pz ho=>kq _ _ (z90:=69) (zaQ:=[]) _ (z9D:=(fun y0 y1=>vQ y0 y1)) _ _ _ ak pz call69 (fun w' hz' y0 y1  r  hr=>pl _ _ _ _ hr hz' ) ho)<|Ln (xP z12 .h4)<|WL.nil<|Lt<|Lb<|D2q U<|WL.nil<|Nx ⟨ad,i64 (b+1),H.2.fE,H.1.fN,H.1.fD⟩ h (Nat.lt_succ_self _) .q<|.s3 .h4 .h1 .here
   ·exact Nz<|Lo<|Lo<|Lv<|Lp ⟨c,d,e⟩ h .q<|.a3
  ·rintro i j k h
   replace h:=(ab i j k).symm.trans h
   refine WC.b<|WC.b<|bK h fun al Q h=>Ld<|Le 51 (xA tS)<|Le 52 (Nt z5n .h1)<|Q2q U<|Lw true 6 54 (B:=al) (fun h=>(oJ<|jE Q h).symm) (fun _ am=>?_) ?_
   ·have p:=jD Q am
    obtain⟨aH,an,p⟩:=z8 p
    replace p:=oJ p
    exact Le 55 (xK ze (xM .h2))<|Le 56 (xA Jl)<|Le 57 (xA cH)<|Le 58 (wi (cs:=[vi a.fR.fN,vi a.fR.fD]) ze<|gp (s:=2) .here U)<|Nr call79 hz (mS _ _ _ _ an)<|Q2q U<|Lx p U .all
   refine Q0n<|Lj h (fun ao h=>?_)<|fun ao h=>?_
   ·exact B1n U<|Nw<|Ll<|oJ h▸Nl results109
   ·exact Nn<|B0q<|Le 62 (xA tS)<|Le 63 (Nt z5n .h1)<|Q1n U<|Nw<|oJ h▸Nl results109
def ke(b:List (List z6))(a:yt)(c:List (List z6))(d:yt)(e:List z2):Option (Int×Int×Int×Int):=
 some (a.fR.fN,a.fR.fD,a.fL.fN,a.fL.fD)
theorem pn(Z g i j p q k m n b a o c d r)(h:ke b a o c d=some r){Nv}(hz:PZ [] Nv Z)(u:ZS Z 1 (jJ Z) g i b)(v:ZS Z 1 (jJ Z) p q o)(x:ZC Z j [vs p o.length q])(y:ZC Z k [vi c.fR.fN,vi c.fR.fD,vi c.fL.fN,vi c.fL.fD])(z:ZS Z 2 (rq xZ) m n d):
  Calls Tryz.prog 110 #[.agg #[vs g b.length i,vi a.fR.fN,vi a.fR.fD,vi a.fL.fN,vi a.fL.fD,.func (.func f) #[] #[vq j,vq k],vs m d.length n]] Nv fun e w'=>∃ s:Nat,e = .returned (.func (.func 155) #[] #[vp s])/\True/\Hp [] Nv w' [stb s 177 [vs g b.length i,vi r.1,vi r.2.1,vi r.2.2.1,vi r.2.2.2,.func (.func f) #[] #[vq j,vq k],vs m d.length n]]:=by
 unfold ke at h
 refine L8 func110 U U<|B0q (Lh 1 (wg (cs:=[vs g b.length i,vi a.fR.fN,vi a.fR.fD,vi a.fL.fN,vi a.fL.fD,.func (.func f) #[] #[vq j,vq k],vs m d.length n])) fun t _=>Q1n U<|B0q<|Le 3 (vf<|L6 (l:=[.tmp 1])<|.cons U .nil)<|Q1n U<|Nw ?_)
 exact oJ h▸Li results110 (.tmp U .nil) fun w hw=>⟨t,w6,trivial,hw.sub (.cons .here .nil)⟩
def qL(a:z2):Option Int:=
 (qw a).bind fun c=>if !c then some 0 else chk ((a.fD:Int)≠0) (qP (fun(d:Int)=>some d) fun b=>chk ((a.fD:Int)≠0) (if decide ((Int.tmod a.fN a.fD)<0) then b (i64 ((i64 (Int.tdiv a.fN a.fD))-1)) else b (i64 (Int.tdiv a.fN a.fD))))
theorem o7(Z a r)(h:qL a=some r){Nv}(hz:PZ [] Nv Z):
  RC 46 #[.agg #[vi a.fN,vi a.fD]] Nv (vi r) [] []:=by
 unfold qL at h
 refine L8 func46 U U<|B0q (Lh 1 (wg (cs:=[vi a.fN,vi a.fD])) fun k _=>Q1n U<|WC.b<|WC.b ?_)
 refine bK h fun l c h=>Ld<|Le 4 (xK ze (xM .here))<|Nr call80 hz (jK _ _ _ c)<|Q1n U<|Lj h (fun d h=>?_)<|fun d h=>?_
 ·exact B1n U<|Nw<|Ll<|oJ h▸Nl results46
 ·refine Nn<|WC.b<|cK h fun e h=>Ld<|Le 7 (xA jz)<|Le 8 (Nt xL .here)<|Le 9 (xA kd)<|Le 10 (Nt xL .here)<|Le 11 (QI U U e U)<|Q1n U<|jK1 h fun f g h=>L5 (fun b=>(f b=some r)) (fun b=>[(3,vi b)]) (fun b=>[]) ?_ ?_
  ·refine WC.b<|cK h fun i h=>Ld<|Le 12 (xA jz)<|Le 13 (Nt xL .here)<|Le 14 (xA kd)<|Le 15 (Nt xL .here)<|Le 16 (XX i)<|Q1n U<|Lj h (fun j h=>?_)<|fun j h=>?_
   ·exact D3q U<|WL.nil<|Lp (i64 ((i64<|Int.tdiv a.fN a.fD)-1)) h (.cons U .nil) .nil
   ·exact N0<|Lp (i64<|Int.tdiv a.fN a.fD) h (.cons U .nil) .nil
  ·rintro b h
   replace h:=(g b).symm.trans h
   exact B2n U<|Nw<|oJ h▸Nl results46
def kx(a:z2):Option Int:=
 (qw a).bind fun b=>if !b then some 0 else(qL (⟨i64 (0-a.fN),a.fD⟩:z2)).bind fun c=>some (i64 (0-c))
theorem Wg(Z a r)(h:kx a=some r){Nv}(hz:PZ [] Nv Z):
  RC 156 #[.agg #[vi a.fN,vi a.fD]] Nv (vi r) [] []:=by
 unfold kx at h
 refine L8 func156 U U<|B0q (Lh 1 (wg (cs:=[vi a.fN,vi a.fD])) fun e _=>Q1n U<|WC.b<|WC.b ?_)
 refine bK h fun f b h=>Ld<|Le 3 (xK ze (xM .here))<|Nr call80 hz (jK _ _ _ b)<|Q1n U<|Lj h (fun c h=>?_)<|fun c h=>?_
 ·exact B1n U<|Nw<|Ll<|oJ h▸Nl results156
 ·exact Nn<|WC.b<|bK h fun g d h=>Ld<|Le 6 (xA jz)<|Le 7 (Nt xL .here)<|Le 8 (QL U U)<|Le 9 (xA kd)<|Le 10 (Nt xL .here)<|Le 11 (wm (v:=(.agg #[(vi<|i64 (0-a.fN)),vi a.fD])) (Lq (l:=[.tmp 8,.tmp 10]) (.r2 U U) [0,1]) (fun _=>by kernel_rfl))<|Nr call46 hz (o7 _ _ _ d)<|Le 13 (QL U U)<|Q1n U<|Nw<|oJ h▸Nl results156
def vj(zU:Type)(b:List z2×Int)(z2V:z2->zU->Option (Bool×zU))(e:zU->Option zU):Nat->Int->zU->Option zU
 | 0,_,_=>none
 | h+1,a,f=>if decide (a<b.1.length) then chk (0<=a/\a<b.1.length) ((qL (⟨(nth b.1 a).fN,(nth b.1 a).fD⟩:z2)).bind fun i=>(jd i).bind fun j=>(z2V j f).bind fun c=>(if !c.1 then some (true,c.2) else(kx (⟨(nth b.1 a).fN,(nth b.1 a).fD⟩:z2)).bind fun k=>(jd k).bind fun l=>(z2V l c.2).bind fun g=>some (!g.1,g.2)).bind fun d=>if d.1 then some d.2 else vj zU b z2V e h (i64 (a+1)) d.2) else e f
def vk(zU:Type)(z3r:List (List z6))(z2V:z2->zU->Option (Bool×zU))(b:zU->Option zU):Nat->Int->zU->Option zU
 | 0,_,_=>none
 | d+1,a,c=>if decide (a<z3r.length) then qP (fun(e:zU)=>vk zU z3r z2V b d (i64 (a+1)) e) fun f=>chk (0<=a/\a<z3r.length) ((jC (nth z3r a)).bind fun g=>qP (fun h=>f h) fun i=>vj zU g z2V i xR 0 c) else b c
def vm(zU:Type)(z3D:List z2)(z2V:z2->zU->Option (Bool×zU))(d:zU->Option zU):Nat->Int->zU->Option zU
 | 0,_,_=>none
 | g+1,a,e=>if decide (a<z3D.length) then chk (0<=a/\a<z3D.length) ((qL (⟨(nth z3D a).fN,(nth z3D a).fD⟩:z2)).bind fun h=>(jd h).bind fun i=>(z2V i e).bind fun b=>(if !b.1 then some (true,b.2) else(kx (⟨(nth z3D a).fN,(nth z3D a).fD⟩:z2)).bind fun j=>(jd j).bind fun k=>(z2V k b.2).bind fun f=>some (!f.1,f.2)).bind fun c=>if c.1 then some c.2 else vm zU z3D z2V d g (i64 (a+1)) c.2) else d e
def qj(zU:Type)(z2V:z2->zU->Option (Bool×zU))(z91:zU)(z3r:List (List z6))(zib:yt)(znW:List (List z6))(zic:yt)(z3D:List z2):Option zU:=
 (gI).bind fun b=>(z2V b z91).bind fun a=>if !a.1 then some a.2 else qP (fun(c:zU)=>qP (fun(d:zU)=>some d) fun e=>vm zU z3D z2V e xR 0 c) fun f=>vk zU z3r z2V f xR 0 a.2
theorem rm(Z)(zU:Type)(z9H)(z4I:Type)(z34)(z8q:z4I->zU->Prop)(zcA zcB zf1 zf2 zvS zvT zvU zvV znX znY z2V z91 z3r zib znW zic z3D r){Nv}(hz:Pz [z34 zcA z91] Nv Z)(X:W1 Tryz.prog Z z9H (α:=z2) (σ:=zU) (G:=z4I) (H:=Unit) (fun h x=>[.agg #[vi x.fN,vi x.fD]]) (fun h x=>[]) z2V z34 z8q)(be:z8q zcA z91)(bf:ZS Z 1 (jJ Z) zf1 zf2 z3r)(bA:ZS Z 1 (jJ Z) zvT zvU znW)(bB:ZC Z zvS [vs zvT znW.length zvU])(bC:ZC Z zvV [vi zic.fR.fN,vi zic.fR.fD,vi zic.fL.fN,vi zic.fL.fD])(bg:ZS Z 2 (rq xZ) znX znY z3D)(ai:ZC Z zcB [vs zf1 z3r.length zf2,vi zib.fR.fN,vi zib.fR.fD,vi zib.fL.fN,vi zib.fL.fD,.func (.func f) #[] #[vq zvS,vq zvV],vs znX z3D.length znY])(h:qj zU z2V z91 z3r zib znW zic z3D=some r)(ip:Ho Nv [z34 zcA z91]):
  Calls Tryz.prog 155 #[.func (.yield z9H) #[] #[],vq zcB] Nv fun e w'=>∃ aj:z4I,e = .returned (.tuple #[])/\(z8q aj r)/\Hp (fps [z34 zcA z91]) Nv w' [z34 aj r]:=by
 unfold qj at h
 refine Ni func155 U ip U<|WC.b<|WC.b<|bK h fun bh bi h=>bK h fun af bj h=>D1q U<|Nr call107 hz (tI _ _ bi) (H6 (dd:=13) (x:=bh) (h:=()) (g:=zcA) (s:=z91) (b:=af.1) (s':=af.2) X U (.cons U .nil) ((.cons .here .nil):Sel _ [z34 zcA z91] _) bj be (fun w hw=>hz.call hw ((.cons .here .nil):Sel _ [z34 zcA z91] _)) fun ak al=>Q1n U<|Lj h (fun bk h=>?_)<|fun bk h=>?_)
 ·exact Nw<|Ll<|oJ h▸Li results155 .nil fun w hw=>⟨ak,mF,al,hw.sub (.cons .here .nil)⟩
 ·refine Nn ?_
  obtain⟨am,bl,h⟩:=wo h
  let A:Value:=(.func (.yield z9H) #[] #[]);refine H0 (fun u N=>(am u=some r)/\(z8q N u)) (fun u N=>[(0,A),(1,vq zcB)]) (fun u N=>[z34 N u]) ?_ ?_
  ·let C:Value:=(vs zf1 z3r.length zf2);let D:Value:=(vi (z3r.length:Int));refine B0q<|Le 15 (xA eV)<|Le 16 (xB zgS U<|wA hz.pv ai)<|Le 17 (w9 underlying128)<|Q1n U<|WC.block<|Dw (fun O c p v=>(vk zU z3r z2V am O c p=some r)/\(z8q v p)) (fun O c p v=>[(0,A),(1,vq zcB),(16,C),(17,D),(18,vi c)]) (fun O c p v=>[z34 v p]) (fun O c p v=>O) ⟨xR,0,af.2,ak⟩ ⟨h,al⟩ .q (.cons .here .nil) ?_
   rintro (_|bm) c p v ⟨h,an⟩;·cases h
   rw[vk] at h
   refine B1n U<|WC.b<|Lj h (fun bn h=>?_)<|fun bn h=>?_
   ·refine Nn<|jK1 h fun bo bp h=>H0 (fun y P=>(bo y=some r)/\(z8q P y)) (fun y P=>[(0,A),(1,vq zcB),(16,C),(17,D),(18,vi c)]) (fun y P=>[z34 P y]) ?_ ?_
    ·refine WC.block<|WC.b<|cK h fun bq h=>Ld<|L3 (dd:=20) (Z:=Z) (Pr:=(jJ Z)) zdL bf bq ?_
     rintro bD bE aH bF ⟨bG,bH,rfl,aI⟩
     refine Le 21 (xB zm0 U<|mG hz.pv aH)<|Q1n U<|WC.b<|bK h fun k aJ h=>D1q U<|N9 (dd:=24) U (Ns call153) .nil (cc hz .nil fun w pz ho=>dU _ _ _ _ _ aJ pz aI) ?_
     rintro br ao _
     refine Q5n U<|B1q U<|Le 28 (w9 underlying175)<|Q1n U<|jK1 h fun ap aK h=>Ov (fun z Q=>(ap z=some r)/\(z8q Q z)) (fun z Q=>[(0,A),(1,vq zcB),(16,C),(17,D),(18,vi c)]) (fun z Q=>[z34 Q z]) ?_ ?_
     ·let F:=(k.1.length:Int);let I:Value:=(vs br k.1.length ao);refine WC.block<|Dw (fun R a d m=>(vj zU k z2V ap R a d=some r)/\(z8q m d)) (fun R a d m=>[(0,A),(1,vq zcB),(16,C),(17,D),(18,vi c),(27,I),(28,vi F),(29,vi a)]) (fun R a d m=>[row I 132 2 (k.1.flatMap xZ),z34 m d]) (fun R a d m=>R) ⟨xR,0,p,v⟩ ⟨h,an⟩ .q .a2 ?_
      rintro (_|bs) a d m ⟨h,aq⟩;·cases h
      rw[vj] at h
      refine B1n U<|WC.b<|Lj h (fun aL h=>?_)<|fun aL h=>?_
      ·refine Nn<|WC.b<|WC.block<|WC.b<|cK h fun Y h=>Ld<|Nj (fun w hw=>Hp.vo .here hw (by intro hz';have:=Y;rw[hz'] at this;omega)) ?_
       rintro⟨bt,rfl⟩
       refine Le 31 (xY z3g Y.1 Y.2 wz)<|Le 32 (wi (cs:=(xZ<|nth k.1 a)) ze<|vB .here<|wG (enc:=xZ) (l:=k.1) (i:=a) (sz:=2) (fun _=>U) Y.1 Y.2) (Lh 8 (xW (cs:=[vi 0,vi 0]) z1s) fun aM _=>Ln (xP z12 .here)<|Q0n<|WC.b ?_)
       refine bK h fun bM aN h=>bK h fun bu aO h=>bK h fun S aP h=>bK h fun aa ar h=>D1q U<|Le 34 (xK ze (xM .here))<|Nr call46 hz (o7 _ _ _ aN)<|Nr call145 hz (uR _ _ _ aO)<|H6 (dd:=37) (x:=bu) (h:=()) (g:=m) (s:=d) (b:=S.1) (s':=S.2) X U (.cons U .nil) ((.cons .h2 .nil):Sel _ [z34 m d] _) aP aq (fun w hw=>hz.call hw ((.cons .h2 .nil):Sel _ [z34 m d] _)) ?_
       intro ab au
       let E:Value:=(vs (some ⟨bt,0,none⟩) k.1.length ao);refine Q2q U<|On (fun B=>z8q B aa.2) (fun B=>[(0,A),(1,vq zcB),(16,C),(17,D),(18,vi c),(27,E),(28,vi F),(29,vi a),(46,.bool aa.1)]) (fun B=>[z34 B aa.2,stb aM 132 [(vi<|(nth k.1 a).fN),(vi<|(nth k.1 a).fD)],row E 132 2 (k.1.flatMap xZ)]) 7 ?_<|fun B av=>?_
       ·rcases Bool.eq_false_or_eq_true (!S.1) with hb' | hb'
        ·have aw:=hb';clear hb'
         have ag:=jD ar aw
         replace ag:=oJ ag
         refine Og (i:=39) U aw<|WL.e U U<|WL.e U U<|WL.e U U<|WL.e U U<|WL.e U U<|WL.e U U<|La U ?_
         subst ag
         exact Oo ab au .q<|.a3
        ·have ax:=hb';clear hb'
         have q:=jE ar ax
         obtain⟨bN,aQ,q⟩:=z8 q
         obtain⟨bv,aR,q⟩:=z8 q
         obtain⟨ay,aS,q⟩:=z8 q
         replace q:=oJ q
         refine Og (i:=39) U ax<|La U<|Le 41 (xK ze (xM .h1))<|Nr call156 hz (Wg _ _ _ aQ)<|Nr call145 hz (uR _ _ _ aR) (H6 (dd:=44) (x:=bv) (h:=()) (g:=ab) (s:=S.2) (b:=ay.1) (s':=ay.2) X U (.cons U .nil) ((.cons .here .nil):Sel _ [z34 ab S.2] _) aS au (fun w hw=>hz.call hw ((.cons .here .nil):Sel _ [z34 ab S.2] _)) fun aT aU=>La U<|La U ?_)
         subst q
         exact Oo aT aU .q<|.a3
       ·refine Q0n<|Lj h (fun aV h=>?_)<|fun aV h=>?_
        ·exact Nw<|Ly<|Ll<|Ll<|Ly<|Ll<|Ly<|Ll<|Ll<|Ly<|Ll<|oJ h▸Li results155 .nil fun w hw=>⟨B,mF,av,hw.sub (.cons .here .nil)⟩
        ·exact N0<|Lt<|Lb<|D2q U<|WL.nil<|Nx ⟨bs,i64 (a+1),aa.2,B⟩ ⟨h,av⟩ (Nat.lt_succ_self _) .q<|.s2 .h2 .here
      ·exact Nz<|Lo<|Lo<|Lv<|Lp ⟨d,m⟩ ⟨h,aq⟩ .q<|.cons .h1 .nil
     ·rintro z Q ⟨h,aW⟩
      replace h:=(aK z).symm.trans h
      exact Lt<|Lp ⟨z,Q⟩ ⟨h,aW⟩ .q<|.cons .here .nil
    ·rintro y P ⟨h,aX⟩
     replace h:=(bp y).symm.trans h
     exact D2q U<|WL.nil<|Nx ⟨bm,i64 (c+1),y,P⟩ ⟨h,aX⟩ (Nat.lt_succ_self _) .q<|.cons .here .nil
   ·exact Nz<|Lo<|Lo<|Lv<|Lp ⟨p,v⟩ ⟨h,an⟩ .q<|.cons .here .nil
  ·rintro u N ⟨h,aY⟩
   replace h:=(bl u).symm.trans h
   refine B0q<|Le 49 (xA Ug)<|Le 50 (xB zc6 U<|wA hz.pv ai)<|Le 51 (w9 underlying175)<|Q1n U<|jK1 h fun az aZ h=>Ov (fun L T=>(az L=some r)/\(z8q T L)) (fun L T=>[]) (fun L T=>[z34 T L]) ?_ ?_
   ·let J:Value:=(vs znX z3D.length znY);let K:Value:=(vi (z3D.length:Int));refine WC.block<|Dw (fun V n j o=>(vm zU z3D z2V az V n j=some r)/\(z8q o j)) (fun V n j o=>[(0,A),(50,J),(51,K),(52,vi n)]) (fun V n j o=>[z34 o j]) (fun V n j o=>V) ⟨xR,0,u,N⟩ ⟨h,aY⟩ .q (.cons .here .nil) ?_
    rintro (_|bw) n j o ⟨h,aA⟩;·cases h
    rw[vm] at h
    refine B1n U<|WC.b<|Lj h (fun a0 h=>?_)<|fun a0 h=>?_
    ·refine Nn<|WC.b<|WC.block<|WC.b<|cK h fun a1 h=>Ld<|L3 (dd:=54) (Z:=Z) (Pr:=(rq xZ)) z3g bg a1 ?_
     rintro bI bJ a2 bL rfl
     refine Le 55 (xK ze (qV hz.pv a2)) (Lh 10 (xW (cs:=[vi 0,vi 0]) z1s) fun a3 _=>Ln (xP z12 .here)<|Q0n<|WC.b ?_)
     refine bK h fun bO a4 h=>bK h fun bx a5 h=>bK h fun W a6 h=>bK h fun ad aB h=>D1q U<|Le 57 (xK ze (xM .here))<|Nr call46 hz (o7 _ _ _ a4)<|Nr call145 hz (uR _ _ _ a5) (H6 (dd:=60) (x:=bx) (h:=()) (g:=o) (s:=j) (b:=W.1) (s':=W.2) X U (.cons U .nil) ((.cons .h1 .nil):Sel _ [z34 o j] _) a6 aA (fun w hw=>hz.call hw ((.cons .h1 .nil):Sel _ [z34 o j] _)) fun ae aC=>Q2q U<|On (fun M=>z8q M ad.2) (fun M=>[(0,A),(50,J),(51,K),(52,vi n),(69,.bool ad.1)]) (fun M=>[z34 M ad.2,stb a3 132 [(vi<|(nth z3D n).fN),(vi<|(nth z3D n).fD)]]) 7 ?_<|fun M aD=>?_)
     ·rcases Bool.eq_false_or_eq_true (!W.1) with hb' | hb'
      ·have aE:=hb';clear hb'
       have ah:=jD aB aE
       replace ah:=oJ ah
       refine Og (i:=62) U aE<|WL.e U U<|WL.e U U<|WL.e U U<|WL.e U U<|WL.e U U<|WL.e U U<|La U ?_
       subst ah
       exact Oo ae aC .q<|.a2
      ·have aF:=hb';clear hb'
       have t:=jE aB aF
       obtain⟨bP,a7,t⟩:=z8 t
       obtain⟨bz,a8,t⟩:=z8 t
       obtain⟨aG,a9,t⟩:=z8 t
       replace t:=oJ t
       refine Og (i:=62) U aF<|La U<|Le 64 (xK ze (xM .h1))<|Nr call156 hz (Wg _ _ _ a7)<|Nr call145 hz (uR _ _ _ a8) (H6 (dd:=67) (x:=bz) (h:=()) (g:=ae) (s:=W.2) (b:=aG.1) (s':=aG.2) X U (.cons U .nil) ((.cons .here .nil):Sel _ [z34 ae W.2] _) a9 aC (fun w hw=>hz.call hw ((.cons .here .nil):Sel _ [z34 ae W.2] _)) fun ba bb=>La U<|La U ?_)
       subst t
       exact Oo ba bb .q<|.a2
     ·refine Q0n<|Lj h (fun bc h=>?_)<|fun bc h=>?_
      ·exact Nw<|Ly<|Ll<|Ll<|Ly<|Ll<|oJ h▸Li results155 .nil fun w hw=>⟨M,mF,aD,hw.sub (.cons .here .nil)⟩
      ·exact N0<|Lt<|Lb<|D2q U<|WL.nil<|Nx ⟨bw,i64 (n+1),ad.2,M⟩ ⟨h,aD⟩ (Nat.lt_succ_self _) .q<|.cons .here .nil
    ·exact Nz<|Lo<|Lo<|Lv<|Lp ⟨j,o⟩ ⟨h,aA⟩ .nil<|.cons .here .nil
   ·rintro L T ⟨h,bd⟩
    replace h:=(aZ L).symm.trans h
    exact oJ h▸Nh results155 .nil fun w hw=>⟨T,mF,bd,hw.sub (.cons .here .nil)⟩
def j4(d:ys)(a:z6)(e:z2):Option (z2×ys):=
 (qI d (fun y0 y1=>gc y0 y1) a.fR e).bind fun b=>(qI b.2 (fun y0 y1=>vQ y0 y1) a.yi b.1).bind fun c=>some (c.1,c.2)
theorem aA(Z b d a c r)(h:j4 d a c=some r){Nv}(hz:Pz [stb b 262 [vi d.fE]] Nv Z)(ip:Ho Nv [stb b 262 [vi d.fE]]):
  RF 148 #[vp b,.agg #[vi a.yi.fN,vi a.yi.fD,vi a.fR.fN,vi a.fR.fD],.agg #[vi c.fN,vi c.fD]] Nv (.agg #[vi r.1.fN,vi r.1.fD]) [stb b 262 [vi d.fE]] [stb b 262 [vi r.2.fE]]:=by
 unfold j4 at h
 refine N6 func148 U ip U<|B0q (Lh 4 (wg (cs:=[vi a.yi.fN,vi a.yi.fD,vi a.fR.fN,vi a.fR.fD])) fun e _=>Lh 5 (wg (cs:=[vi c.fN,vi c.fD])) fun j _=>Lh 6 (xW (cs:=[vi 0,vi 0]) z1s) fun k _=>Q0n<|WC.b ?_)
 refine bK h fun l f h=>bK h fun m g h=>Lu (fun i=>[7,8,9].contains i) [rG e 171 [(0,vi a.yi.fN),(1,vi a.yi.fD)]]<|Lf 0 U q_m<|Lf 1 U (xA uf)<|Nb 2 U (wT.wk (.cons .h2 .nil)<|.stb (.cons U<|.cons U .nil) .nil) (wi (cs:=[vi a.yi.fN,vi a.yi.fD]) ze<|eT .here (.head _)<|(.tail _<|.head _))<|Lf 3 U q_m<|Lf 4 U (xA tR)<|Lg 5 U (wi (cs:=[vi a.fR.fN,vi a.fR.fD]) ze<|gp (s:=2) .h2 U)<|Lg 6 U (xK ze (xM .h1)) (WD.call0 (i:=7) (dd:=14) U (by kernel_rfl) U (.inl ⟨U,(wT.wk (.cons .h3 .nil)<|.stb (.cons U<|.cons U .nil) .nil)⟩) (Ns call167) (.cons .h3 .nil) (cc hz (.cons .h3 .nil) fun w pz ho=>Calls.mono (tJ _ _ (zcr:=70) (zhT:=[]) _ (zeL:=(fun y0 y1=>gc y0 y1)) _ _ _ f pz call70 (fun w' hz' y0 y1  r  hr=>az _ _ _ _ hr hz' ) ho)<|fun _ _ h'=>⟨h'.1,trivial,h'.2⟩) fun _=>WD.call0 (i:=8) (dd:=15) U (by kernel_rfl) U (.inl ⟨U,(wT.wk (.cons .h3 .nil)<|.stb (.cons U<|.cons U .nil) .nil)⟩) (Ns call167) (.cons .here .nil) (cc hz (.cons .here .nil) fun w pz ho=>Calls.mono (tJ _ _ (zcr:=69) (zhT:=[]) _ (zeL:=(fun y0 y1=>vQ y0 y1)) _ _ _ g pz call69 (fun w' hz' y0 y1  r  hr=>pl _ _ _ _ hr hz' ) ho)<|fun _ _ h'=>⟨h'.1,trivial,h'.2⟩) fun _=>Nc (i:=9) U (by kernel_rfl) (by kernel_rfl) (xP z12 .h1)<|Ny (by kernel_rfl)<|Lb<|Nw ?_)
 exact oJ h▸Nm results148 (.agg U ze U (xM .here) .nil) (.cons .h1 .nil)
def vF(b:List z2)(zaS:z2->z2->Option Int)(e:Int->Int->Option z2):Nat->Int->Int->Int->Option z2
 | 0,_,_,_=>none
 | g+1,a,c,d=>if decide (a<b.length) then sK (fun(h:Int) (i:Int)=>vF b zaS e g (i64 (a+1)) h i) fun f=>chk (0<=a/\a<b.length) ((zaS (⟨(nth b a).fN,(nth b a).fD⟩:z2) (⟨c,d⟩:z2)).bind fun j=>if decide (j<0) then chk (0<=a/\a<b.length) (f ((nth b a).fN) ((nth b a).fD)) else f c d) else e c d
def jf(a:List z2)(zaS:z2->z2->Option Int):Option z2:=
 if decide ((a.length:Int)<1) then none else chk ((0:Int)<=0/\0<(a.length:Int)) (sK (fun(b:Int) (c:Int)=>some (⟨b,c⟩:z2)) fun d=>vF a zaS d xR 1 ((nth a 0).fN) ((nth a 0).fD))
theorem ox(Z q s zig zo7 b zaS r)(h:jf b zaS=some r){Nv}(hz:PZ [] Nv Z)(t:ZS Z 2 (rq xZ) q s b)(v:∀ args w,(callFunc zig args).run Tryz.prog w = .ok (.enter zig args) w)(x:∀ w:World,PZ [] w Z->∀(x0:z2) (x1:z2) (r:Int),zaS x0 x1=some r->Calls Tryz.prog zig (([.agg #[vi x0.fN,vi x0.fD],.agg #[vi x1.fN,vi x1.fD]]:List Value)++zo7).toArray w fun e w'=>e = .returned (vi r)/\Hp [] w w' []):
  RC 149 #[vs q b.length s,.func (.func zig) #[] (zo7).toArray] Nv (.agg #[vi r.fN,vi r.fD]) [] []:=by
 unfold jf at h
 refine Lz func149 U U<|B0q (Lh 4 (xW (cs:=[vi 0,vi 0]) z1s) fun k _=>Q0n<|WC.b<|B1q U<|Le 8 (w9 underlying175)<|Q1n U<|Lj h (fun y h=>?_)<|fun y h=>?_)
 ·cases h
 ·refine Nn<|WC.b<|cK h fun z h=>D1q U<|L3 (dd:=12) (Z:=Z) (Pr:=(rq xZ)) z3g t z ?_
  rintro P Q B R rfl
  refine Le 13 (xK ze (qV hz.pv B)) (Lh 5 (xW (cs:=[vi 0,vi 0]) z1s) fun m _=>Ln (xP z12 .here)<|Q0n ?_)
  refine jK2 h fun u D h=>H0 (fun n o=>(u n o=some r)) (fun n o=>[(4,vp k),(5,vp m)]) (fun n o=>[stb k 132 [vi 0,vi 0],stb m 132 [vi n,vi o]]) ?_ ?_
  ·let A:Value:=(.func (.func zig) #[] (zo7).toArray);let C:Value:=(vs q b.length s);refine B1n U<|WC.block<|Dw (fun p a c d=>(vF b zaS u p a c d=some r)) (fun p a c d=>[(0,C),(1,A),(4,vp k),(5,vp m),(6,vi a)]) (fun p a c d=>[stb k 132 [vi 0,vi 0],stb m 132 [vi c,vi d]]) (fun p a c d=>p) ⟨xR,1,(nth b 0).fN,(nth b 0).fD⟩ h .q (.s2 .h1 .here) ?_
   rintro(_|M) a c d h;·cases h
   rw[vF] at h
   refine WC.b<|B2q U<|Le 16 (w9 underlying175)<|Q1n U<|Lj h (fun E h=>?_)<|fun E h=>?_
   ·refine Nn<|jK2 h fun N F h=>H0 (fun g i=>(N g i=some r)) (fun g i=>[(0,C),(1,A),(4,vp k),(5,vp m),(6,vi a)]) (fun g i=>[stb k 132 [vi 0,vi 0],stb m 132 [vi g,vi i]]) ?_ ?_
    ·refine WC.block<|WC.b<|cK h fun G h=>bK h fun O H h=>Lu nc []<|Lf 0 U q_m<|Lf 1 U q_m<|Lf 2 U q_m<|Nf (j:=3) (dd:=23) (by kernel_rfl) z2B z2C (Z:=Z) (Pr:=(rq xZ)) z3g t G ?_
     rintro S T I V rfl
     refine Lg 4 U (xK ze (qV hz.pv I))<|Lg 5 U (xK ze (xM .h1))<|L4 6 U (qi (l:=[.tmp 24,.tmp 25]) (f:=zig) (caps:=zo7) v<|.r2 U U) (fun w hw=>x w (hz.now hw) (⟨(nth b a).fN,(nth b a).fD⟩:z2) (⟨c,d⟩:z2) O  H)<|Lf 7 U sS<|Ny (by kernel_rfl)<|Lb<|Lj h (fun J h=>?_)<|fun J h=>?_
     ·refine cK h fun K h=>D2q U<|L3 (dd:=30) (Z:=Z) (Pr:=(rq xZ)) z3g t K ?_
      rintro W X L Y rfl
      exact Le 31 (xK ze (qV hz.pv L))<|Ln (xP z12 .h1)<|WL.nil<|Lt<|Lp ⟨(nth b a).fN,(nth b a).fD⟩ h .q<|.s2 .h1 .here
     ·exact N0<|Lt<|Lp ⟨c,d⟩ h .q<|.a2
    ·rintro g i h
     replace h:=(F g i).symm.trans h
     exact D3q U<|WL.nil<|Nx ⟨M,i64 (a+1),g,i⟩ h (Nat.lt_succ_self _) .q<|.a2
   ·exact Nz<|Lo<|Lo<|Lv<|Lp ⟨c,d⟩ h .q<|.a2
  ·rintro n o h
   replace h:=(D n o).symm.trans h
   exact B0q<|Le 32 (xK ze (xM .h1))<|Ln (xP z12 .here)<|Q0n<|Nw<|oJ h▸Nm results149 (.agg U ze U (xM .here) .nil) .nil
def kC(b:List z6)(e:z2)(f:(List z2)->Int->Option (z2×Int)):Nat->(List z2)->Int->Int->Option (z2×Int)
 | 0,_,_,_=>none
 | h+1,c,a,g=>if decide (a<b.length) then chk (0<=a/\a<b.length) ((j4 (⟨g⟩:ys) (⟨(⟨((nth b a).yi).fN,((nth b a).yi).fD⟩:z2),(⟨((nth b a).fR).fN,((nth b a).fR).fD⟩:z2)⟩:z6) e).bind fun d=>chk (((c++([d.1]:List z2)).length:Int)*16<=140737488355328/\((c++([d.1]:List z2)).length:Int)<=4611686018427387904) (kC b e f h (c++([d.1]:List z2)) (i64 (a+1)) d.2.fE)) else f c g
def mP(a:List z6)(b:z2):Option (z2×Int):=
 (mw a).bind fun d=>(if !d then some true else(uP b).bind fun e=>some (!e)).bind fun f=>if f then some ((⟨0,0⟩:z2),2) else sK (fun(g:List z2) (c:Int)=>if decide (c≠0) then some ((⟨0,0⟩:z2),c) else(jf g (fun y0 y1=>vZ y0 y1)).bind fun h=>some (h,0)) fun i=>kC a b i xR ([]:List z2) 0 0
theorem F7(Z u x k b r)(h:mP k b=some r){Nv}(hz:PZ [] Nv Z)(y:ZS Z 4 (rq qk) u x k):
  RC 108 #[vs u k.length x,.agg #[vi b.fN,vi b.fD]] Nv (.tuple #[.agg #[vi r.1.fN,vi r.1.fD],vi r.2]) [] []:=by
 unfold mP at h
 refine Lz func108 U U<|B0q (Lh 3 (wg (cs:=[vi b.fN,vi b.fD])) fun z _=>Lh 4 (xW (cs:=[vi 0,vi 0]) z1s) fun s _=>Q1n U<|WC.b<|WC.b ?_)
 refine bK h fun aa D h=>bK h fun R A h=>D1q U<|Nr call146 hz (fun pz=>og _ _ _ _ _ D pz y)<|Q2q U<|Lw false 3 13 (B:=R) (fun h=>(oJ<|jD A h).symm) (fun _ E=>?_) ?_
 ·have m:=jE A E
  obtain⟨ab,F,m⟩:=z8 m
  replace m:=oJ m
  exact Le 14 (xK ze (xM .h1))<|Nr call147 hz (cS _ _ _ F)<|Q2q U<|Lx m U .all
 refine Q0n<|Lj h (fun G h=>?_)<|fun G h=>?_
 ·exact B0q<|Le 18 (wm (v:=(.agg #[vi 0,vi 0])) (Lq (l:=[]) .nil []) (fun _=>by kernel_rfl))<|Ln (xP z12 .here)<|Q1n U<|Nw<|Ll<|oJ h▸Nm results108 (.agg U ze U (xM .here)<|.tmp U .nil) .nil
 ·refine Nn<|B0q (Lh 6 (xW (cs:=[vi 0]) zFB) fun n _=>Q0n<|B1n U ?_)
  refine jK2 h fun C H h=>Ou (fun c d o p=>(C c d=some r)) (fun c d o p=>[(4,vp s),(6,vp n),(7,vs o c.length p)]) (fun c d o p=>[row (vs o c.length p) 132 2 (c.flatMap xZ),stb s 132 [vi 0,vi 0],stb n 262 [vi d]]) ?_ ?_
  ·refine B1q U<|Le 20 (w9 underlying173)<|Q1n U<|WC.block<|WC.nilRow 132 2<|Pa (fun q a e f g j=>(kC k b C q a e f=some r)) (fun q a e f g j=>[(3,vp z),(4,vp s),(6,vp n),(7,vs g a.length j),(19,vs u k.length x),(20,vi (k.length:Int)),(21,vi e)]) (fun q a e f g j=>[row (vs g a.length j) 132 2 (a.flatMap xZ),stb z 132 [vi b.fN,vi b.fD],stb s 132 [vi 0,vi 0],stb n 262 [vi f]]) (fun q a e f g j=>q) ⟨xR,([]:List z2),0,0,none,0⟩ h .q (.s4 .here .h2 .h1 .here) ?_
   rintro(_|S) a e f g j h;·cases h
   rw[kC] at h
   refine B1n U<|WC.b<|Lj h (fun I h=>?_)<|fun I h=>?_
   ·refine Nn<|WC.b<|WC.block<|WC.b<|cK h fun J h=>Ld<|L3 (dd:=23) (Z:=Z) (Pr:=(rq qk)) z8K y J ?_
    rintro T V K W rfl
    refine Le 24 (xK z3v (qV hz.pv K)) (Lh 9 (xW (cs:=[vi 0,vi 0,vi 0,vi 0]) zdM) fun X _=>Ln (xP zc5 .here)<|Q0n ?_)
    refine bK h fun t L h=>cK h fun M h=>D1q U<|Le 26 (xK z3v (xM .here))<|Le 27 (xK ze (xM .h2))<|Lm 28 (Ns call148) (.cons .h4 .nil) (cc hz (.cons .h4 .nil) fun w pz ho=>aA _ _ _ _ _ _ L pz  ho) (Lh 29 (ws (cs:=([t.1]:List z2).flatMap xZ) z3g (Lq (l:=[.tmp 28]) (.cons U .nil) [0]) (fun _=>by kernel_rfl) (by unfold maxLen;omega)) fun Y _=>WL.fA 30 (kK (enc:=xZ) (l1:=a) (l2:=([t.1]:List z2)) z3g .h3 (fun _=>U) (kN .here) (gN Yl _) M) ?_)
    rintro⟨N,O⟩ _
    exact La U<|WL.nil<|Lt<|Lb<|D2q U<|WL.nil<|Nx ⟨S,a++([t.1]:List z2),i64 (e+1),t.2.fE,N,O⟩ h (Nat.lt_succ_self _) .q<|.s4 .here .h3 .h3 .h1
   ·exact Nz<|Lo<|Lo<|Lv<|Lp ⟨a,f,g,j⟩ h .q<|.s3 .here .h1 .h1
  ·rintro c d o p h
   replace h:=(H c d).symm.trans h
   refine WC.b<|B0q<|Le 32 (xA lM)<|Le 33 (Nt z5n .h2)<|Q1n U<|Lj h (fun P h=>?_)<|fun P h=>?_
   ·exact WC.b<|Lu (fun i=>[3].contains i) [rG n 262 [(0,vi d)]]<|Lf 0 U (wm (v:=(.agg #[vi 0,vi 0])) (Lq (l:=[]) .nil []) (fun _=>by kernel_rfl))<|Lf 1 U (xA lM)<|Nb 2 U (wT.wk (.cons .h2 .nil)<|.stb (.cons U .nil) .nil) (xB z5n U<|mH .here<|.head _)<|WD.forced0 (i:=3) U (by kernel_rfl) (wT.wk (.cons .h2 .nil)<|.stb (.cons U .nil) .nil) (xP z12 .h1)<|Lf 4 U q_z<|Ny (by kernel_rfl)<|Lb<|Nw<|Ll<|oJ h▸Nm results108 (.agg U ze U (xM .here)<|.tmp U .nil) .nil
   ·exact Nn<|WC.b<|bK h fun ad Q h=>D1q U<|Lm 39 (Ns call149) .nil (uC hz .nil (.cons .here .nil) fun w pz ho la=>ox _ _ _ (zig:=79) (zo7:=[]) _ (zaS:=(fun y0 y1=>vZ y0 y1)) _ Q pz (ZA.row (la _ (.head _) _) (RR.flat (enc:=xZ) (fun _=>U) _) ⟨w,pz.1⟩) call79<|fun w' hz' y0 y1  r  hr=>mS _ _ _ _ hr hz' )<|Ln (xP z12 .h1)<|Q1n U<|Nw<|oJ h▸Nm results108 (.agg U ze U (xM .here)<|.tmp U .nil) .nil
def jg(b:List (List z6))(e:z2)(f:Int->Int->Int->Option (z2×ys)):Nat->Int->Int->Int->Int->Option (z2×ys)
 | 0,_,_,_,_=>none
 | k+1,a,c,g,h=>if decide (a<b.length) then chk (0<=a/\a<b.length) ((mP (nth b a) e).bind fun i=>qP (fun(l:Int)=>(vu (⟨l⟩:ys) (fun y0 y1=>vQ y0 y1) (⟨g,h⟩:z2) i.1).bind fun d=>jg b e f k (i64 (a+1)) d.2.fE d.1.fN d.1.fD) fun j=>if decide (c=0) then j i.2 else j c) else f g h c
def kU(b:ys)(c:List (List z6))(d:z2):Option (z2×ys):=
 (gI).bind fun a=>jp3 (fun(e:Int) (f:Int) (g:Int)=>some ((⟨e,f⟩:z2),(⟨g⟩:ys))) fun h=>jg c d h xR 0 b.fE a.fN a.fD
theorem oF(Z a s t o f g r)(h:kU o f g=some r){Nv}(hz:Pz [stb a 225 [vi o.fE]] Nv Z)(B:ZS Z 1 (jJ Z) s t f)(ip:Ho Nv [stb a 225 [vi o.fE]]):
  RF 76 #[vp a,vs s f.length t,.agg #[vi g.fN,vi g.fD]] Nv (.agg #[vi r.1.fN,vi r.1.fD]) [stb a 225 [vi o.fE]] [stb a 225 [vi r.2.fE]]:=by
 unfold kU at h
 refine N6 func76 U ip U ?_
 let A:List Value:=[vi g.fN,vi g.fD];refine B0q<|Lh 5 (wg (cs:=A)) ?_
 intro q _
 refine Lh 6 (xW (cs:=[vi 0,vi 0]) z1s) fun i _=>Q0n<|WC.b<|bK h fun x E h=>Ld<|Nr call107 hz (tI _ _ E) (Lh 7 (xW (cs:=[vi 0,vi 0]) z1s) fun j _=>Ln (xP z12 .here)<|Q0n ?_)
 refine jK3 h fun y F h=>N5 (fun k l m=>(y k l m=some r)) (fun k l m=>[(6,vp i),(7,vp j)]) (fun k l m=>[stb i 132 [vi 0,vi 0],stb j 132 [vi k,vi l],stb a 225 [vi m]]) ?_ ?_
 ·let C:Value:=(vs s f.length t);let D:Value:=(vi (f.length:Int));refine B1q U<|Le 14 (w9 underlying128)<|Q1n U<|WC.block<|Dy (fun p b c d e=>(jg f g y p b c d e=some r)) (fun p b c d e=>[(0,vp a),(5,vp q),(6,vp i),(7,vp j),(13,C),(14,D),(15,vi b)]) (fun p b c d e=>[stb a 225 [vi c],stb q 132 A,stb i 132 [vi 0,vi 0],stb j 132 [vi d,vi e]]) (fun p b c d e=>p) ⟨xR,0,o.fE,x.fN,x.fD⟩ h .q (.s4 .h3 .h2 .h1 .here) ?_
  rintro(_|O) b c d e h;·cases h
  rw[jg] at h
  refine B1n U<|WC.b<|Lj h (fun G h=>?_)<|fun G h=>?_
  ·refine Nn<|WC.b<|WC.block<|WC.b<|cK h fun H h=>Ld<|L3 (dd:=17) (Z:=Z) (Pr:=(jJ Z)) zdL B H ?_
   rintro Q R I S ⟨T,V,rfl,J⟩
   refine Le 18 (xB zm0 U<|mG hz.pv I)<|Q1n U<|WC.b<|bK h fun u K h=>D1q U<|Le 21 (xK ze (xM .h1))<|Nr call108 hz (fun pz=>F7 _ _ _ _ _ _ K pz J)<|Q2q U<|La U (Lh 10 (xW (cs:=[vi 0,vi 0]) z1s) fun z _=>Ln (xP z12 .here)<|Q1n U ?_)
   refine jK1 h fun P L h=>L5 (fun n=>(P n=some r)) (fun n=>[(0,vp a),(5,vp q),(6,vp i),(7,vp j),(10,vp z),(13,C),(14,D),(15,vi b)]) (fun n=>[stb a 225 [vi n],stb q 132 A,stb i 132 [vi 0,vi 0],stb j 132 [vi d,vi e],stb z 132 [vi u.1.fN,vi u.1.fD]]) ?_ ?_
   ·refine B1q U<|Le 26 w3<|Le 27 (xA tS)<|Le 28 (Nt z5n .h1)<|Q1n U<|Lj h (fun M h=>?_)<|fun M h=>?_
    ·exact D2q U<|Le 32 w3<|Le 33 (xA tS)<|Ln (xP zqO .h1)<|WL.nil<|Lp u.2 h .q<|.s5 .here .h1 .h1 .h1 .here
    ·exact N0<|Lp c h .q<|.s5 .h1 .h1 .h1 .h1 .here
   ·rintro n h
    replace h:=(L n).symm.trans h
    exact bK h fun v N h=>D1q U<|Le 35 (xK ze (xM .h3))<|Le 36 (xK ze (xM .h4))<|Lm 37 (Ns call73) (.cons .here .nil) (cc hz (.cons .here .nil) fun w pz ho=>kq _ _ (z90:=69) (zaQ:=[]) _ (z9D:=(fun y0 y1=>vQ y0 y1)) _ _ _ N pz call69 (fun w' hz' y0 y1  r  hr=>pl _ _ _ _ hr hz' ) ho)<|Ln (xP z12 .h3)<|WL.nil<|Lt<|Lb<|D2q U<|WL.nil<|Nx ⟨O,i64 (b+1),v.2.fE,v.1.fN,v.1.fD⟩ h (Nat.lt_succ_self _) .q<|.s4 .h1 .h1 .h1 .here
  ·exact Nz<|Lo<|Lo<|Lv<|Lp ⟨d,e,c⟩ h .q<|.s3 .h2 .h2 .here
 ·rintro k l m h
  replace h:=(F k l m).symm.trans h
  exact B0q<|Le 39 (xK ze (xM .h1))<|Ln (xP z12 .here)<|Q0n<|Nw<|oJ h▸Nm results76 (.agg U ze U (xM .here) .nil) (.cons .h2 .nil)
def mT(g:ys)(a:z2)(h:List (List z6))(b:yt):Option (z2×ys):=
 (kU g h a).bind fun c=>(vu c.2 (fun y0 y1=>gJ y0 y1) c.1 b.fR).bind fun d=>(vu d.2 (fun y0 y1=>jq y0 y1) d.1 a).bind fun e=>(vu e.2 (fun y0 y1=>vQ y0 y1) e.1 b.fL).bind fun f=>some (f.1,f.2)
theorem aC(Z c f g j k d b e a r)(h:mT d b e a=some r){Nv}(hz:Pz [stb c 225 [vi d.fE]] Nv Z)(m:ZS Z 1 (jJ Z) g j e)(n:ZC Z f [vs g e.length j])(l:ZC Z k [vi a.fR.fN,vi a.fR.fD,vi a.fL.fN,vi a.fL.fD])(ip:Ho Nv [stb c 225 [vi d.fE]]):
  RF 72 #[vp c,.agg #[vi b.fN,vi b.fD],vq f,vq k] Nv (.agg #[vi r.1.fN,vi r.1.fD]) [stb c 225 [vi d.fE]] [stb c 225 [vi r.2.fE]]:=by
 unfold mT at h
 refine H4 func72 U ip U<|B0q (Lh 5 (wg (cs:=[vi b.fN,vi b.fD])) fun o _=>Lh 6 (xW (cs:=[vi 0,vi 0]) z1s) fun v _=>Q0n<|WC.b ?_)
 refine bK h fun x p h=>bK h fun y q h=>bK h fun z t h=>bK h fun A u h=>Lu (fun i=>[6,9,11,14,15].contains i) [stb o 132 [vi b.fN,vi b.fD]]<|Lf 0 U q_m<|Lf 1 U q_m<|Lf 2 U q_m<|Lf 3 U q_m<|Lg 4 U (xB zgS U<|mG hz.pv n)<|Lg 5 U (xK ze (xM .h1))<|Lf 7 U (xA cH)<|Nb 8 U (wT.of<|.cons .h1 .nil) (wi (cs:=[vi a.fR.fN,vi a.fR.fD]) ze<|dH (off:=0) (s:=2) hz.pv l U)<|Nb 10 U (wT.of<|.cons .h1 .nil) (xK ze (xM .here))<|Lf 12 U (xA lL)<|Nb 13 U (wT.of<|.cons .h1 .nil) (wi (cs:=[vi a.fL.fN,vi a.fL.fD]) ze<|dH (off:=2) (s:=2) hz.pv l U) (WD.call0 (i:=6) (dd:=13) U (by kernel_rfl) U (.inl ⟨U,(wT.of<|.cons .h2 .nil)⟩) (Ns call76) (.cons .h2 .nil) (cc hz (.cons .h2 .nil) fun w pz ho=>Calls.mono (oF _ _ _ _ _ _ _ _ p pz m ho)<|fun _ _ h'=>⟨h'.1,trivial,h'.2⟩) fun _=>WD.call0 (i:=9) (dd:=16) U (by kernel_rfl) U (.inl ⟨U,(wT.of<|.cons .h2 .nil)⟩) (Ns call73) (.cons .here .nil) (cc hz (.cons .here .nil) fun w pz ho=>Calls.mono (kq _ _ (z90:=75) (zaQ:=[]) _ (z9D:=(fun y0 y1=>gJ y0 y1)) _ _ _ q pz call75 (fun w' hz' y0 y1  r  hr=>Q5 _ _ _ _ hr hz' ) ho)<|fun _ _ h'=>⟨h'.1,trivial,h'.2⟩) fun _=>WD.call0 (i:=11) (dd:=18) U (by kernel_rfl) U (.inl ⟨U,(wT.of<|.cons .h2 .nil)⟩) (Ns call73) (.cons .here .nil) (cc hz (.cons .here .nil) fun w pz ho=>Calls.mono (kq _ _ (z90:=74) (zaQ:=[]) _ (z9D:=(fun y0 y1=>jq y0 y1)) _ _ _ t pz call74 (fun w' hz' y0 y1  r  hr=>iu _ _ _ _ hr hz' ) ho)<|fun _ _ h'=>⟨h'.1,trivial,h'.2⟩) fun _=>WD.call0 (i:=14) (dd:=21) U (by kernel_rfl) U (.inl ⟨U,(wT.of<|.cons .h2 .nil)⟩) (Ns call73) (.cons .here .nil) (cc hz (.cons .here .nil) fun w pz ho=>Calls.mono (kq _ _ (z90:=69) (zaQ:=[]) _ (z9D:=(fun y0 y1=>vQ y0 y1)) _ _ _ u pz call69 (fun w' hz' y0 y1  r  hr=>pl _ _ _ _ hr hz' ) ho)<|fun _ _ h'=>⟨h'.1,trivial,h'.2⟩) fun _=>Nc (i:=15) U (by kernel_rfl) (by kernel_rfl) (xP z12 .h1)<|Ny (by kernel_rfl)<|Lb<|Nw ?_)
 exact oJ h▸Nm results72 (.agg U ze U (xM .here) .nil) (.cons .h1 .nil)
end Go.Proofs.YtcahmabkeaijdaaGreat
