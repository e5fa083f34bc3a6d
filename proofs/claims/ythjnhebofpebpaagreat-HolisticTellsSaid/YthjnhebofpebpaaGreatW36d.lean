/- A part of this claim's proof: models of functions, walks, plain laws. No conditions. -/
import Derived.Test.YthjnhebofpebpaaGreatW36c
set_option linter.all false
namespace Go.Proofs.YthjnhebofpebpaaGreat
open Go Go.RowKit Sep Tryz
variable {f:Nat}{g:Int}
set_option maxRecDepth 30000
set_option maxHeartbeats 4000000
def vW(a:yk)(zg8:z1->z1->Option (z1×Int))(c:z1)(d:z1):Option (z1×yk):=
 if decide (a.fE≠0) then some ((⟨0,0⟩:z1),a) else(zg8 c d).bind fun b=>some (b.1,(⟨b.2⟩:yk))
theorem ur(Z:Zp)(c:Nat)(zdt:FuncId)(zkb:List Value)(d:yk)(zg8:z1->z1->Option (z1×Int))(a:z1)(b:z1)(r:z1×yk)(h:vW d zg8 a b=some r)(w₀:World)(hz:Pz [stb c 307 [vi d.fE]] w₀ Z)(g:∀ args w,(callFunc zdt args).run Tryz.prog w = .ok (.enter zdt args) w)(i:∀ w:World,PZ [] w Z->∀(x0:z1) (x1:z1) (r:z1×Int),zg8 x0 x1=some r->Calls Tryz.prog zdt (([.agg #[vi x0.fN,vi x0.fD],.agg #[vi x1.fN,vi x1.fD]]:List Value)++zkb).toArray w fun e w'=>e = .returned (.tuple #[.agg #[vi r.1.fN,vi r.1.fD],vi r.2])/\Hp [] w w' [])(iq:Ho w₀ [stb c 307 [vi d.fE]]):
  RF 210 #[vp c,.func (.func zdt) #[] (zkb).toArray,.agg #[vi a.fN,vi a.fD],.agg #[vi b.fN,vi b.fD]] w₀ (.agg #[vi r.1.fN,vi r.1.fD]) [stb c 307 [vi d.fE]] [stb c 307 [vi r.2.fE]]:=by
 unfold vW at h
 refine Calls.tg func210 ntmps210 iq ?_
 refine WC.b<|Ld (Lg 6 (xO (cs:=[vi a.fN,vi a.fD]) U U) fun n _=>Lg 7 (xO (cs:=[vi b.fN,vi b.fD]) U U) fun o _=>Lg 8 (xG (cs:=[vi 0,vi 0]) z1y U) fun p _=>Q0n<|WC.b<|B1q U<|Le 12 (wG U)<|Le 13 (xk pK U U)<|Le 14 (xl z6z U<|xt .h3 U)<|Q1n U<|Lk U h (fun j h=>?_)<|fun j h=>?_)
 ·refine B0q<|Le 16 (w3 (v:=(.agg #[vi 0,vi 0])) (Lq (l:=[]) .nil []) (fun _=>by kernel_rfl))<|Lo U U (xz zX U U U .here U U U)<|Q0n<|WC.ret<|Ll ?_
  obtain rfl:=oJ h
  exact Li results210 (.agg U zh U (xy .here) .nil)<|fun w hw=>⟨xJ U,hw.sub (.cons .h3 .nil)⟩
 ·refine WC.skip<|Lb<|WC.b<|bK h fun m k h=>D1q U<|Le 19 (xw zh U (xy .h2) U)<|Le 20 (xw zh U (xy .h1) U)<|Lp 21 (qW (l:=[.tmp 19,.tmp 20]) (f:=zdt) (caps:=zkb) g U<|.r2 U U) .nil (fun w hw=>i w (hz.now hw) a b m  k)<|Q2q U<|La U (Lg 9 (xG (cs:=[vi 0,vi 0]) z1y U) fun q _=>Lo U U (xz zX U U U .here U U U)<|Q1n U<|B2q U<|Le 26 (wG U)<|Le 27 (xk pK U U)<|Lo U U (xz ztk U U U .h4 U U U)<|Q0n<|B0q<|Le 28 (xw zh U (xy .h1) U)<|Lo U U (xz zX U U U .h2 U U U)<|Q0n<|WC.ret ?_)
  obtain rfl:=oJ h
  exact Li results210 (.agg U zh U (xy .here) .nil)<|fun w hw=>⟨xJ U,hw.sub (.cons .h1 .nil)⟩
def oP(a:z1)(b:z1):Option (Int×Int):=
 some (i64 (a.fN*b.fD),i64 (a.fD*b.fN))
theorem Qr(Z:Zp)(c:Addr)(d:Addr)(a:z1)(b:z1)(r:Int×Int)(h:oP a b=some r)(w₀:World)(hz:PZ [] w₀ Z)(e:ZC Z c [vi a.fN,vi a.fD])(f:ZC Z d [vi b.fN,vi b.fD]):
  RC 190 #[vq c,vq d] w₀ (.tuple #[vi r.1,vi r.2]) [] []:=by
 unfold oP at h
 refine L3 func190 ntmps190 ?_
 refine B2n U<|WC.b<|Lz nc [] U<|Lf 0 4 U (xk qO U U)<|Lh 1 5 U (xl xu U<|xM hz.pv e U)<|Lf 2 6 U (xk jq U U)<|Lh 3 7 U (xl xu U<|xM hz.pv f U)<|Lf 4 8 U (tk U U U)<|Lf 5 9 U (xk jq U U)<|Lh 6 10 U (xl xu U<|xM hz.pv e U)<|Lf 7 11 U (xk qO U U)<|Lh 8 12 U (xl xu U<|xM hz.pv f U)<|Lf 9 13 U (tk U U U)<|Lf 10 2 U (q_z U)<|Lf 11 3 U (q_z U)<|WD.done (by kernel_rfl)<|Lb<|WC.ret ?_
 obtain rfl:=oJ h
 exact Li results190 (.tmp U<|.tmp U .nil)<|fun w hw=>⟨wV U U,hw.sub .nil⟩
def o9(b:z1)(a:z1):Option (z1×Int):=
 (vR b).bind fun e=>(if !e then some true else(vR a).bind fun f=>some (!f)).bind fun g=>if g||(decide (a.fN=0)) then some ((⟨0,0⟩:z1),2) else(oP b a).bind fun c=>(mw c.1 c.2).bind fun d=>some (d.1,d.2)
theorem J6(Z:Zp)(b:z1)(a:z1)(r:z1×Int)(h:o9 b a=some r)(w₀:World)(hz:PZ [] w₀ Z):
  RC 159 #[.string ⟨#[47]⟩,.agg #[vi b.fN,vi b.fD],.agg #[vi a.fN,vi a.fD]] w₀ (.tuple #[.agg #[vi r.1.fN,vi r.1.fD],vi r.2]) [] []:=by
 unfold o9 at h
 refine Me func159 ntmps159 ?_
 refine WC.b<|Ld (Lg 4 (xO (cs:=[vi b.fN,vi b.fD]) U U) fun d _=>Lg 5 (xO (cs:=[vi a.fN,vi a.fD]) U U) fun e _=>Lg 6 (xG (cs:=[vi 0,vi 0]) z1y U) fun s _=>Q1n U<|WC.b<|WC.b ?_)
 refine bK h fun u i h=>bK h fun f g h=>Ld<|Le 9 (xw zh U (xy .h2) U)<|Lp 10 (zb call130<|.cons U .nil) .nil (cc hz .nil fun w pz ho=>ja _ _ _ i w pz )<|Q2q U<|Lx false 3 12 (B:=f) U U U U U U (fun h=>(oJ<|q7 g h).symm) (fun _ j=>?_) ?_
 ·have c:=q8 g j
  obtain⟨y,m,c⟩:=z8 c
  replace c:=oJ c
  exact Le 13 (xw zh U (xy .h1) U)<|Lp 14 (zb call130<|.cons U .nil) .nil (cc hz .nil fun w pz ho=>ja _ _ _ m w pz )<|Q2q U<|Ly c U U .all
 refine La U<|Lx false 7 17 (B:=f||(decide (a.fN=0))) U U U U U U (fun h=>(kx h).symm) (fun _ n=>?_) ?_
 ·exact La U<|Le 19 (ew (r:=true) (by decide) U U)<|La U<|Le 21 (xk qO U U)<|Le 22 (xl xu U<|xt .h1 U)<|La U<|La U<|La U<|Ly (ky n) U U .all
 refine Q0n<|Lk U h (fun o h=>?_)<|fun o h=>?_
 ·refine B0q<|Le 26 (w3 (v:=(.agg #[vi 0,vi 0])) (Lq (l:=[]) .nil []) (fun _=>by kernel_rfl))<|Lo U U (xz zX U U U .here U U U)<|Q1n U<|WC.ret<|Ll ?_
  obtain rfl:=oJ h
  exact Li results159 (.agg U zh U (xy .here)<|.tmp U .nil)<|fun w hw=>⟨wV U U,hw.sub .nil⟩
 ·refine WC.skip<|Lb<|B0q<|Lg 27 (jN Value.string<|fun x=>x) ?_
  intro t _
  let A:Value:=(.func (.func 190) #[] #[vp d,vp e]);refine Le 28 (wC<|L8 (l:=[.tmp 4,.tmp 5])<|.r2 U U)<|Lo U U (kH (k:=⟨#[43]⟩) (v:=(.func (.func 187) #[] #[vp d,vp e])) gr underlying304 U U U U .here)<|Le 29 (wC<|L8 (l:=[.tmp 4,.tmp 5])<|.r2 U U)<|Lo U U (kH (k:=⟨#[45]⟩) (v:=(.func (.func 188) #[] #[vp d,vp e])) gr underlying304 U U U U .here)<|Le 30 (wC<|L8 (l:=[.tmp 4,.tmp 5])<|.r2 U U)<|Lo U U (kH (k:=⟨#[42]⟩) (v:=(.func (.func 189) #[] #[vp d,vp e])) gr underlying304 U U U U .here)<|Le 31 (wC<|L8 (l:=[.tmp 4,.tmp 5])<|.r2 U U)<|Lo U U (kH (k:=⟨#[47]⟩) (v:=A) gr underlying304 U U U U .here)<|Q2n U<|WC.b ?_
  refine bK h fun z p h=>bK h fun C q h=>D2q U<|Le 35 (eu (k:=⟨#[47]⟩) (dflt:=.nilFunc) (r:=A) gr underlying304 zx2 U U U .here (by rfl))<|Lp 36 (qW (l:=[]) call190 U .nil) .nil (sc hz .nil (.s2 .h3 .h2) fun w pz ho la=>Qr _ _ _ _ _ _ p w pz ((la _ (.head _) _).stb)<|(la _ (.tail _<|.head _) _).stb)<|Q2q U<|Lp 39 (zb call160<|.r2 U U) .nil (cc hz .nil fun w pz ho=>rX _ _ _ _ q w pz )<|Q2q U<|Lo U U (xz zX U U U .h1 U U U)<|Q1n U<|WC.ret ?_
  obtain rfl:=oJ h
  exact Li results159 (.agg U zh U (xy .here)<|.tmp U .nil)<|fun w hw=>⟨wV U U,hw.sub .nil⟩
def kW(b:z1)(c:z1):Option (z1×Int):=
 (o9 b c).bind fun a=>some (a.1,a.2)
theorem Yx(Z:Zp)(a:z1)(b:z1)(r:z1×Int)(h:kW a b=some r)(w₀:World)(hz:PZ [] w₀ Z):
  RC 125 #[.agg #[vi a.fN,vi a.fD],.agg #[vi b.fN,vi b.fD]] w₀ (.tuple #[.agg #[vi r.1.fN,vi r.1.fD],vi r.2]) [] []:=by
 unfold kW at h
 refine L3 func125 ntmps125 ?_
 refine WC.b<|Ld (Lg 2 (xO (cs:=[vi a.fN,vi a.fD]) U U) fun d _=>Lg 3 (xO (cs:=[vi b.fN,vi b.fD]) U U) fun e _=>Lg 4 (xG (cs:=[vi 0,vi 0]) z1y U) fun f _=>Q1n U<|WC.b ?_)
 refine bK h fun g c h=>Ld<|Le 6 (xw zh U (xy .h2) U)<|Le 7 (xw zh U (xy .h1) U)<|Lp 8 (zb call159<|.r3 U U U) .nil (cc hz .nil fun w pz ho=>J6 _ _ _ _ c w pz )<|Q2q U<|Lo U U (xz zX U U U .here U U U)<|Q1n U<|WC.ret ?_
 obtain rfl:=oJ h
 exact Li results125 (.agg U zh U (xy .here)<|.tmp U .nil)<|fun w hw=>⟨wV U U,hw.sub .nil⟩
theorem z15o:∀ w,(isAgg (Tryz.jY.t 24)).run Tryz.prog w = .ok true w:=fun _=>by kernel_rfl
theorem z15p:∀ w,(Go.sizeOf (Tryz.jY.t 24)).run Tryz.prog w = .ok 2 w:=fun _=>by kernel_rfl
def gI(z7C:List z1)(zuK:Int)(zuL:Int)(zpJ:Int)(zn0:z1->z1->Option Int):Option (List z1):=chk ((zuK=0/\zuL=(z7C.length:Int))/\(0<=zpJ/\zpJ<4611686018427387904/\z7C.length<4611686018427387904)) (chk (ry zn0 (w6 zn0 z7C)=true) (some (w6 zn0 z7C)))
theorem rI(Z:Zp)(zn1:Option Addr)(zn2:Nat)(zuM:FuncId)(zGb:List Value)(z7C:List z1)(zuK:Int)(zuL:Int)(zpJ:Int)(zn0:z1->z1->Option Int)(r:List z1)(w₀:World)(hz:Pz [row (vs zn1 z7C.length zn2) 175 2 (z7C.flatMap xL)] w₀ Z)(a:∀ args w,(callFunc zuM args).run Tryz.prog w = .ok (.enter zuM args) w)(b:∀ w:World,PZ [] w Z->∀(x0:z1) (x1:z1) (r:Int),zn0 x0 x1=some r->Calls Tryz.prog zuM (([.agg #[vi x0.fN,vi x0.fD],.agg #[vi x1.fN,vi x1.fD]]:List Value)++zGb).toArray w fun e w'=>e = .returned (vi r)/\Hp [] w w' [])(h:gI z7C zuK zuL zpJ zn0=some r)(iq:Ho w₀ [row (vs zn1 z7C.length zn2) 175 2 (z7C.flatMap xL)]):
  Calls Tryz.prog 227 #[vs zn1 z7C.length zn2,vi zuK,vi zuL,vi zpJ,.func (.func zuM) #[] (zGb).toArray] w₀ fun e w'=>e = .returned (.tuple #[])/\(r.length=z7C.length)/\Hp (fps [row (vs zn1 z7C.length zn2) 175 2 (z7C.flatMap xL)]) w₀ w' [row (vs zn1 r.length zn2) 175 2 (r.flatMap xL)]:=by
 obtain⟨h0,h⟩:=xq h
 obtain⟨h1,h⟩:=xq h
 have hr:=(oJ h).symm
 exact pW (P:=Tryz.prog) (f:=227) (e:=175) (k:=2) (enc:=xL) (fun _=>U) (by decide) ez (fun β _ enc cf g cb hO w5 off cap d0 w0 eg hC R=>Tryz.pD 2 z15o z15p enc cf g cb hO w5 off cap d0 w0 eg hC R) (Tryz.p9 (α:=Unit)) hz a b h0 h1 hr iq
def qi(a:List z1)(zpK:z1->z1->Option Int):Option (List z1):=
 (gb (u64 (a.length:Int))).bind fun b=>(gI a 0 (a.length:Int) b zpK).bind fun c=>some c
theorem ri(Z:Zp)(b:Option Addr)(c:Nat)(zpL:FuncId)(zyj:List Value)(a:List z1)(zpK:z1->z1->Option Int)(r:List z1)(h:qi a zpK=some r)(w₀:World)(hz:Pz [row (vs b a.length c) 175 2 (a.flatMap xL)] w₀ Z)(j:∀ args w,(callFunc zpL args).run Tryz.prog w = .ok (.enter zpL args) w)(k:∀ w:World,PZ [] w Z->∀(x0:z1) (x1:z1) (r:Int),zpK x0 x1=some r->Calls Tryz.prog zpL (([.agg #[vi x0.fN,vi x0.fD],.agg #[vi x1.fN,vi x1.fD]]:List Value)++zyj).toArray w fun e w'=>e = .returned (vi r)/\Hp [] w w' [])(iq:Ho w₀ [row (vs b a.length c) 175 2 (a.flatMap xL)]):
  Calls Tryz.prog 214 #[vs b a.length c,.func (.func zpL) #[] (zyj).toArray] w₀ fun e w'=>e = .returned (.tuple #[])/\(r.length=a.length)/\Hp (fps [row (vs b a.length c) 175 2 (a.flatMap xL)]) w₀ w' [row (vs b r.length c) 175 2 (r.flatMap xL)]:=by
 unfold qi at h
 refine Mf func214 ntmps214 iq ?_
 refine B1q U<|Le 6 (xK underlying229 U)<|Q1n U<|bK h fun d l h=>bK h fun f m h=>D3q U<|Le 10 (rN underlying3 underlying147 U U)<|Lp 11 (zb call57<|.cons U .nil) .nil (cc hz .nil fun w pz ho=>rV (Z:=_)  (zaY:=(u64 (a.length:Int))) (r:=d) w pz  l)<|La U<|WL.fy (dd:=13) U U U (zb call227<|.r5 U U U U U) (.cons .here .nil) (cc hz (.cons .here .nil) fun w pz ho=>rI (Z:=_) (zn1:=b) (zn2:=c) (zuM:=zpL) (zGb:=zyj) (z7C:=a) (zuK:=0) (zuL:=(a.length:Int)) (zpJ:=d) (zn0:=zpK) (r:=f) w pz j k m ho) ?_
 rintro  g
 refine Mh (i:=0) U (u:=(vs b f.length c)) (px g.symm)<|WL.nil ?_
 obtain rfl:=oJ h
 exact WX.my results214 .nil<|fun w hw=>⟨pp,g.trans U,hw.sub (.cons .here .nil)⟩
def wS(e:List z1)(b:Int)(f:(List z1)->Int->Option (List z1)):Nat->(List z1)->Int->Int->Option (List z1)
 | 0,_,_,_=>none
 | h+1,c,d,a=>if decide (a<((e.length-(b:Int).toNat:Nat):Int)) then tZ (fun(i:List z1) (j:Int)=>wS e b f h i j (i64 (a+1))) fun g=>chk (0<=a/\a<((e.length-(b:Int).toNat:Nat):Int)) (chk (0<=(i64 (a-1))/\(i64 (a-1))<((e.length-(b:Int).toNat:Nat):Int)) (if decide ((⟨(nth c (b+a)).fN,(nth c (b+a)).fD⟩:z1)≠(⟨(nth c (b+(i64 (a-1)))).fN,(nth c (b+(i64 (a-1)))).fD⟩:z1)) then chk (0<=a/\a<((e.length-(b:Int).toNat:Nat):Int)) (chk (0<=d/\d<c.length) (g (c.set (d:Int).toNat (⟨(nth c (b+a)).fN,(nth c (b+a)).fD⟩:z1)) (i64 (d+1)))) else g c d)) else f c d
theorem tt{n:Nat}{a:List z1}{b:(List z1)->Int->Option (List z1)}{c:List z1}{d:Int}{e:Int}{r:List z1}(h:wS a g b n c d e=some r):∃ m,n=m+1:=by
 cases n with
 | zero=>cases h
 | succ m=>exact⟨m,rfl⟩
def wT(b:List z1)(e:Option (List z1)):Nat->Int->Option (List z1)
 | 0,_=>none
 | f+1,a=>if decide (a<b.length) then g8 (wT b e f (i64 (a+1))) fun g=>chk (0<=a/\a<b.length) (chk (0<=(i64 (a-1))/\(i64 (a-1))<b.length) (if decide ((⟨(nth b a).fN,(nth b a).fD⟩:z1)=(⟨(nth b (i64 (a-1))).fN,(nth b (i64 (a-1))).fD⟩:z1)) then chk (0<=a/\a<b.length) (tZ (fun(d:List z1) (c:Int)=>chk (0<=c/\c<=d.length) (chk (0<=c/\c<=(((d.take (c:Int).toNat++List.replicate (d.length-(c:Int).toNat) ((⟨0,0⟩:z1):z1)).length:Nat):Int)) (some ((d.take (c:Int).toNat++List.replicate (d.length-(c:Int).toNat) ((⟨0,0⟩:z1):z1)).take (c:Int).toNat)))) fun h=>wS b a h xC b a 1) else g)) else e
def qv(a:List z1):Option (List z1):=
 if decide ((a.length:Int)<2) then some a else g8 (some a) fun b=>wT a b xC 1
theorem rA(Z:Zp)(s:Option Addr)(j:Nat)(g:List z1)(r:List z1)(h:qv g=some r)(w₀:World)(hz:Pz [row (vs s g.length j) 175 2 (g.flatMap xL)] w₀ Z)(iq:Ho w₀ [row (vs s g.length j) 175 2 (g.flatMap xL)]):
  Calls Tryz.prog 215 #[vs s g.length j] w₀ fun e w'=>∃ N:Option Addr,∃ O:Nat,e = .returned (vs N r.length O)/\True/\Hp (fps [row (vs s g.length j) 175 2 (g.flatMap xL)]) w₀ w' [row (vs N r.length O) 175 2 (r.flatMap xL)]:=by
 unfold qv at h
 refine Calls.oh1 func215 ntmps215 iq ?_
 refine B1n U<|WC.b<|B1q U<|Le 7 (xK underlying229 U)<|Q1n U<|Lk U h (fun V h=>?_)<|fun V h=>?_
 ·refine B2n U<|WC.ret<|Ll ?_
  obtain rfl:=oJ h
  exact Li results215 (.tmp U .nil)<|fun w hw=>⟨s,j,xJ U,trivial,hw.sub (.cons .here .nil)⟩
 ·refine WC.skip<|Lb ?_
  obtain⟨P,W,h⟩:=wJ h
  let C:Value:=(vs s g.length j);let E:List Asrt:=[row C 175 2 (g.flatMap xL)];refine L7 (P=some r) ([(0,C)]) (E) ?_ ?_
  ·refine B1n U<|WC.block<|L6 (fun(G:Nat) (c:Int)=>(wT g P G c=some r)) (fun G c=>[(0,C),(3,vi c)]) (fun G c=>E) (fun G c=>G) ⟨xC,1⟩ h (.q U) (.cons .here .nil) ?_
   rintro(_|al) c h;·cases h
   rw[wT] at h
   refine WC.b<|B2q U<|Le 12 (xK underlying229 U)<|Q1n U<|Lk U h (fun X h=>?_)<|fun X h=>?_
   ·refine WC.skip<|Lb<|jK0 h fun am Y h=>L7 (am=some r) ([(0,C),(3,vi c)]) (E) ?_ ?_
    ·refine WC.block<|WC.b<|cK h fun H h=>cK h fun I h=>Lz nc [] U<|Lf 0 16 U (q_m U)<|Lf 1 17 U (q_m U)<|Mg (fun w hw=>Hp.vB .here hw (by intro iT;have:=H;rw[iT] at this;omega)) ?_
     rintro⟨o,rfl⟩
     refine Lf 2 18 U (w7 z3L U U H.1 H.2 vN)<|Lh 3 19 U (wu (cs:=(xL<|nth g c)) zh U U<|g5 .here<|vt (enc:=xL) (l:=g) (i:=c) (sz:=2) (fun _=>U) H.1 H.2)<|Lf 4 20 U (q_m U)<|Lf 5 21 U (q_m U)<|Lf 6 22 U (tj U U U)<|Lf 7 23 U (w7 z3L U U I.1 I.2 vN)<|Lh 8 24 U (wu (cs:=(xL<|nth g<|i64 (c-1))) zh U U<|g5 .here<|vt (enc:=xL) (l:=g) (i:=i64 (c-1)) (sz:=2) (fun _=>U) I.1 I.2)<|Lf 9 25 U (pw (enc:=xL) (a:=(⟨(nth g c).fN,(nth g c).fD⟩:z1)) (b:=(⟨(nth g<|i64 (c-1)).fN,(nth g<|i64 (c-1)).fD⟩:z1)) zMw U U)<|WD.done (by kernel_rfl)<|Lb<|Lk U h (fun aa h=>?_)<|fun aa h=>?_
     ·refine WC.b<|cK h fun t h=>D2q U<|WL.QU (dd:=28) U U z3L U U .here t<|Q1n U<|jK2 h fun Q ab h=>WC.jO (fun(m:List z1) (p:Int)=>(Q m p=some r)/\(m.length=g.length)) (fun m p=>[(0,vs (some ⟨o,0,none⟩) m.length j),(3,vi p)]) (fun m p=>[row (vs (some ⟨o,0,none⟩) m.length j) 175 2 (m.flatMap xL)]) ?_ ?_
      ·let D:Value:=(vs (some ⟨o,(c:Int).toNat*2,none⟩) (g.length-(c:Int).toNat) (j-(c:Int).toNat));refine B1n U<|WC.block<|WC.fj (fun(x:Nat) (d:List z1) (n:Int) (f:Int)=>(wS g c Q x d n f=some r)/\(d.length=g.length)) (fun x d n f=>[(0,vs (some ⟨o,0,none⟩) d.length j),(3,vi n),(4,D),(5,vi f)]) (fun x d n f=>[row (vs (some ⟨o,0,none⟩) d.length j) 175 2 (d.flatMap xL)]) (fun x d n f=>x) ⟨xC,g,c,1⟩ ⟨h,U⟩ (.q U) (.cons .here .nil) ?_
       rintro x d n f ⟨h,z⟩
       obtain⟨an,rfl⟩:=tt h
       rw[wS] at h
       refine WC.b<|B2q U<|Le 31 (xK underlying229 U)<|Q1n U<|Lk U h (fun ad h=>?_)<|fun ad h=>?_
       ·refine WC.skip<|Lb<|jK2 h fun ao ae h=>WC.jO (fun(q:List z1) (v:Int)=>(ao q v=some r)/\(q.length=g.length)) (fun q v=>[(0,vs (some ⟨o,0,none⟩) q.length j),(3,vi v),(4,D),(5,vi f)]) (fun q v=>[row (vs (some ⟨o,0,none⟩) q.length j) 175 2 (q.flatMap xL)]) ?_ ?_
        ·refine WC.block<|WC.b<|cK h fun J h=>cK h fun K h=>Lz nc [] U<|Lf 0 35 U (q_m U)<|Lf 1 36 U (q_m U) ?_
         have R:(0:Int)<=c+f/\c+f<d.length:=by have h1:=z;have h2:=t;have h3:=J;omega
         refine Lf 2 37 U (w7 z3L U U J.1 J.2<|ns t.1 J.1)<|Lh 3 38 U (wu (cs:=(xL<|nth d (c+f))) zh U U<|g5 .here<|vt (enc:=xL) (l:=d) (i:=c+f) (sz:=2) (fun _=>U) R.1 R.2)<|Lf 4 39 U (q_m U)<|Lf 5 40 U (q_m U)<|Lf 6 41 U (tj U U U) ?_
         have S:(0:Int)<=c+(i64 (f-1))/\c+(i64 (f-1))<d.length:=by have h1:=z;have h2:=t;have h3:=K;omega
         refine Lf 7 42 U (w7 z3L U U K.1 K.2<|ns t.1 K.1)<|Lh 8 43 U (wu (cs:=(xL<|nth d (c+(i64 (f-1))))) zh U U<|g5 .here<|vt (enc:=xL) (l:=d) (i:=c+(i64 (f-1))) (sz:=2) (fun _=>U) S.1 S.2)<|Lf 9 44 U (cF (enc:=xL) (a:=(⟨(nth d (c+f)).fN,(nth d (c+f)).fD⟩:z1)) (b:=(⟨(nth d (c+(i64 (f-1)))).fN,(nth d (c+(i64 (f-1)))).fD⟩:z1)) zMw U U)<|WD.done (by kernel_rfl)<|Lb<|Lk U h (fun af h=>?_)<|fun af h=>?_
         ·refine WC.b<|cK h fun L h=>cK h fun B h=>D3q U<|La U ?_
          have T:(0:Int)<=c+f/\c+f<d.length:=by have h1:=z;have h2:=t;have h3:=L;omega
          let F:List Value:=[vi ((nth d (c+f)).fN),vi ((nth d (c+f)).fD)];refine Le 49 (w7 z3L U U L.1 L.2<|ns t.1 L.1)<|Le 50 (wu (cs:=(xL<|nth d (c+f))) zh U U<|g5 .here<|vt (enc:=xL) (l:=d) (i:=c+f) (sz:=2) (fun _=>U) T.1 T.2)<|Le 51 (w7 z3L U U B.1 B.2 vN)<|Lo U U (nT (vs:=F) (ds:=(d.set (n:Int).toNat (⟨(nth d (c+f)).fN,(nth d (c+f)).fD⟩:z1)).flatMap xL) zX U U U U (bN U) .here (Xv (enc:=xL) (sz:=2) (k:=0) (fun _=>U) B.1 B.2 (by decide))<|Xr (enc:=xL) (l:=d) (sz:=2) (vs:=F) (y:=(⟨(nth d (c+f)).fN,(nth d (c+f)).fD⟩:z1)) (k:=0) (fun _=>U) B.1 B.2 U<|Nat.le_of_ble_eq_true U)<|WL.relen .here (u:=(vs (some ⟨o,0,none⟩) ((d.set (n:Int).toNat (⟨(nth d (c+f)).fN,(nth d (c+f)).fD⟩:z1)).length) j)) (px (List.length_set).symm)<|Mh (i:=0) U (u:=(vs (some ⟨o,0,none⟩) ((d.set (n:Int).toNat (⟨(nth d (c+f)).fN,(nth d (c+f)).fD⟩:z1)).length) j)) (px (List.length_set).symm)<|Q0n<|D3q U<|WL.nil<|Lt ?_
          exact Ln ⟨d.set (n:Int).toNat (⟨(nth d (c+f)).fN,(nth d (c+f)).fD⟩:z1),i64 (n+1)⟩ ⟨h,(List.length_set).trans z⟩ (.q U)<|.cons .here .nil
         ·exact WC.skip<|Lt<|Ln ⟨d,n⟩ ⟨h,z⟩ (.q U)<|.cons .here .nil
        ·rintro q v ⟨h,ag⟩
         replace h:=(ae q v).symm.trans h
         exact D3q U<|WL.nil<|WX.round ⟨an,q,v,i64 (f+1)⟩ ⟨h,ag⟩ (Nat.lt_succ_self _) (.q U)<|.cons .here .nil
       ·exact WC.exit<|Lm<|Lm<|Lv<|Ln ⟨d,n⟩ ⟨h,z⟩ (.q U)<|.cons .here .nil
      ·rintro m p ⟨h,ap⟩
       replace h:=(ab m p).symm.trans h
       refine WC.b<|cK h fun M h=>D2q U<|WL.QR (dd:=56) U U z3L U U .here M ?_
       intro aq ar ah
       let A:Value:=(vs (some ⟨o,0,none⟩) ((m.take (p:Int).toNat++List.replicate (m.length-(p:Int).toNat) ((⟨0,0⟩:z1):z1)).length) j);refine Lo U U (Xu (enc:=xL) (z0:=((⟨0,0⟩:z1):z1)) (l:=m) z3L z1y U ah M (fun _=>U) (by decide) U ez .here)<|WL.relen .here (u:=A) (px (db M).symm)<|Mh (i:=0) U (u:=A) (px (db M).symm)<|Q0n<|WC.b ?_
       refine cK h fun ai h=>D1q U<|La U (WL.QQ (dd:=59) (enc:=xL) (ls:=m.take (p:Int).toNat++List.replicate (m.length-(p:Int).toNat) ((⟨0,0⟩:z1):z1)) U U z3L U U .here (fun _=>U) ai fun aj ak=>Q1n U<|WC.ret<|Lu<|Ll<|Ll<|Lu<|Ll ?_)
       obtain rfl:=oJ h
       exact Li results215 (.tmp U .nil)<|fun w hw=>⟨aj,ak,xJ U,trivial,hw.sub (.cons .here .nil)⟩
     ·exact WC.skip<|Lt<|Ln () h (.q U)<|.cons .here .nil
    ·rintro  h
     replace h:=Y.symm.trans h
     exact D3q U<|WL.nil<|WX.round ⟨al,i64 (c+1)⟩ h (Nat.lt_succ_self _) (.q U)<|.cons .here .nil
   ·exact WC.exit<|Lm<|Lm<|Lv<|Ln () h (.cons U .nil)<|.cons .here .nil
  ·rintro  h
   replace h:=W.symm.trans h
   refine B2n U<|WC.ret ?_
   obtain rfl:=oJ h
   exact Li results215 (.tmp U .nil)<|fun w hw=>⟨s,j,xJ U,trivial,hw.sub (.cons .here .nil)⟩
def vx(a:z6×z6)(b:List z1)(d:Int):Option (Bool×(Nat×List z1×Int)):=
 (vh a.1.yg a.2.yg).bind fun g=>if decide (g<0) then(vW (⟨d⟩:yk) (fun(y0:z1) (y1:z1)=>qG y0 y1) a.2.yg a.1.yg).bind fun e=>(vW e.2 (fun(y0:z1) (y1:z1)=>qG y0 y1) a.1.fR a.2.fR).bind fun f=>(vW f.2 (fun(y0:z1) (y1:z1)=>kW y0 y1) e.1 f.1).bind fun c=>chk (((b++([c.1]:List z1)).length:Int)*16<=140737488355328/\((b++([c.1]:List z1)).length:Int)<=4611686018427387904) (some (true,(0,b++([c.1]:List z1),c.2.fE))) else some (true,(0,b,d))
def qV(a:List z6):Option (List z1×Int):=
 (f8 a).bind fun f=>if !f then some (([]:List z1),2) else(sx a).bind fun b=>tZ (fun(c:Int) (g:List z1)=>if decide (c≠0) then some (([]:List z1),c) else(qi g (fun(y0:z1) (y1:z1)=>vh y0 y1)).bind fun h=>(qv h).bind fun i=>some (i,0)) fun j=>(tI b b).bind fun d=>(me (Nat×List z1×Int) (fun(x:z6×z6) (s:Nat×List z1×Int)=>chk (s.1=0) (vx x s.2.1 s.2.2)) (0,([]:List z1),0) d.1 d.2).bind fun e=>j e.2.2 e.2.1
theorem iW(Z:Zp)(W:Option Addr)(X:Nat)(S:List z6)(r:List z1×Int)(h:qV S=some r)(w₀:World)(hz:PZ [] w₀ Z)(aa:ZS Z 4 (rq vF) W X S):
  Calls Tryz.prog 199 #[vs W S.length X] w₀ fun e w'=>∃ ab:Option Addr,∃ ad:Nat,e = .returned (.tuple #[vs ab r.1.length ad,vi r.2])/\True/\Hp [] w₀ w' [row (vs ab r.1.length ad) 175 2 (r.1.flatMap xL)]:=by
 unfold qV at h
 let O:Value:=(vs W S.length X);refine Calls.pP (vs:=[O]) (pre:=[]) (env:=[(0,O)]) func199 U ntmps199 U (Hp.nil w₀ _) U ?_
 refine WC.pool<|B2n U<|WC.b<|WC.b<|bK h fun aV au h=>D1q U<|Lp 10 (zb call192<|.cons U .nil) .nil (jH hz .nil .here fun w pz ho=>rp _ _ _ _ _ au w pz<|aa.mono<|zl)<|Q1n U<|Lk U h (fun av h=>?_)<|fun av h=>?_
 ·refine B2n U<|WC.ret<|Ll<|WX.nilRow 175 2 ?_
  obtain rfl:=oJ h
  exact WX.dg results199 (.tmp U<|.tmp U .nil)<|fun w hw=>⟨none,0,wV U U,trivial,hw.sub (.cons .here .nil)⟩
 ·refine WC.skip<|Lb<|WC.b<|Ld (Lg 4 (xG (cs:=[vi 0]) zMt U) fun o _=>Q0n<|WC.b<|Ld (Lg 5 (xG (cs:=[vn]) zC4 U) fun n _=>Q0n<|WC.b ?_))
  refine bK h fun aW aw h=>D1q U<|WL.jk (dd:=13) U U U (zb call212<|.cons U .nil) .nil (jH hz .nil .h2 fun w pz ho=>XP _ _ _ _ _ aw w pz<|aa.mono<|zl) ?_
  rintro aZ a0 _
  refine Q1n U<|jK2 h fun aX ax h=>WC.V0 (fun(P:Nat) (t:Int) (p:List z1) (Q:Zp) (u:Option Addr) (v:Nat)=>(aX t p=some r)/\(xm (Z++[]) (Z++Q))) (fun(P:Nat) (t:Int) (p:List z1) (Q:Zp) (u:Option Addr) (v:Nat)=>[(4,vp o),(5,vp n)]) (fun(P:Nat) (t:Int) (p:List z1) (Q:Zp) (u:Option Addr) (v:Nat)=>[fz Q,stb o 307 [vi t],stb n 229 [vs u p.length v],row (vs u p.length v) 175 2 (p.flatMap xL),jl P]) ?_ ?_
  ·refine WC.b<|WC.freezeS (ls:=aW) .here .h2 hz (RR.flat (enc:=vF) (fun _=>U) _) ?_
   intro k ay ae
   refine bK h fun T az h=>D2q U<|WL.QN (dd:=16) U U U (zb call213<|.r2 U U) .nil (jH hz .nil .here fun w pz ho=>X3 _ _ _ _ _ _ _ _ az w pz ae ae) ?_
   rintro c d af ag ah ai ⟨aA,aB⟩
   refine Q0n<|WC.block<|WC.pool<|WC.drop (.s6 .here .h3 .h3 .here .here .here)<|WC.nilRow 175 2<|WC.rangeFunc (f:=226) (caps:=[vp c,vp d]) U call226 ?_
   intro a1 a2 q j y V aC aD w hw
   let L:Value:=(vs none (([]:List z1).length) 0);let A:List Asrt:=[fz [],stb n 229 [L],row L 175 2 (([]:List z1).flatMap xL),stb o 307 [vi 0],w5 q (y .ready none)];have hw1:=hw.selAll ((.s5 .h3 .h3 .h2 .h2 .here):Sel _ A _)
   let C:List Value:=[vs af T.1.length ag];let E:List Value:=[vs ah T.2.length ai];let H:List Asrt:=[stb c 227 C,stb d 227 E];have pz:=(hz.call2 hw1 ((.cons .here .nil):Sel [vE A,jl j,stb c 227 C,stb d 227 E,fz k] [vE A] [jl j,stb c 227 C,stb d 227 E,fz k]) .h3).lend hw1 ((.cons .here .nil):Sel [vE A,jl j,stb c 227 C,stb d 227 E,fz k] [vE A] [jl j,stb c 227 C,stb d 227 E,fz k]) (B:=H) (fun _ hx'=>((.s2 .h1 .h1):Sel _ H _).mem hx')
   refine bK h fun m aE h=>Calls.mono (am (Z:=_) (zmP:=q) (zcl:=(Option Addr×Nat)) (z9n:=(fun(g:Option Addr×Nat) (s:Nat×List z1×Int)=>vE ([fz [],stb n 229 [vs g.1 s.2.1.length g.2],row (vs g.1 s.2.1.length g.2) 175 2 (s.2.1.flatMap xL),stb o 307 [vi s.2.2]]++[w5 q (y (sa<|fY [] s.1)<|fY [] s.1)]))) (zg7:=(fun(g:Option Addr×Nat) (s:Nat×List z1×Int)=>True)) (zmQ:=(none,0)) (zG2:=⟨c,0,none⟩) (zmR:=af) (zmS:=ag) (zmT:=⟨d,0,none⟩) (zyc:=ah) (zyd:=ai) (z1b:=(Nat×List z1×Int)) (z7B:=(fun(x:z6×z6) (s:Nat×List z1×Int)=>chk (s.1=0)<|vx x s.2.1 s.2.2)) (zdr:=(0,([]:List z1),0)) (z2s:=T.1) (z3a:=T.2) (r:=m) w pz ?_ trivial (aA.mono<|zl) ((hw1.lent ((.cons .here .nil):Sel [vE A,jl j,stb c 227 C,stb d 227 E,fz k] [vE A] [jl j,stb c 227 C,stb d 227 E,fz k]) (B:=H) (fun _ hx'=>((.s2 .h1 .h1):Sel _ H _).mem hx') (.head _) _).stb) (aB.mono<|zl) ((hw1.lent ((.cons .here .nil):Sel [vE A,jl j,stb c 227 C,stb d 227 E,fz k] [vE A] [jl j,stb c 227 C,stb d 227 E,fz k]) (B:=H) (fun _ hx'=>((.s2 .h1 .h1):Sel _ H _).mem hx') (.tail _<|.head _) _).stb) aE<|hw1.owns ((.cons .here .nil):Sel [vE A,jl j,stb c 227 C,stb d 227 E,fz k] [vE A] [jl j,stb c 227 C,stb d 227 E,fz k])) ?_
   ·refine lW (LI:=(fun(g:Option Addr×Nat) (s:Nat×List z1×Int)=>[fz [],stb n 229 [vs g.1 s.2.1.length g.2],row (vs g.1 s.2.1.length g.2) 175 2 (s.2.1.flatMap xL),stb o 307 [vi s.2.2]])) (pc:=(fun(s:Nat×List z1×Int)=>fY [] s.1)) V aC aD (fun _ _=>U) (by decide) ?_
    rintro a _ ⟨aj,ak⟩ ⟨aF,z,al⟩ aG aH Fb wb an _ hz
    replace hz:=hz.left
    letI:Rnd:=lV q
    obtain⟨zT,b⟩:=xq an
    replace zT:aF=0:=zT;subst zT;clear an
    replace b:vx a z al=some (aG,aH):=b
    unfold vx at b
    let J:Value:=(vs aj z.length ak);let F:List Asrt:=[fz [],stb n 229 [J],row J 175 2 (z.flatMap xL),stb o 307 [vi al],w5 q (y .ready none)];refine WC.restr (env':=[(11,.bool (!aV)),(4,vp o),(5,vp n),(17,.agg #[vi a.1.yg.fN,vi a.1.yg.fD,vi a.1.fR.fN,vi a.1.fR.fD]),(18,.agg #[vi a.2.yg.fN,vi a.2.yg.fD,vi a.2.fR.fN,vi a.2.fR.fD])]) (.q U)<|WC.eqL (L':=F) U<|B0q<|Lg 7 (xG (cs:=[vi 0,vi 0,vi 0,vi 0]) zf9 U) ?_
    intro aI _
    refine Lo U U (xz zd6 U U U .here U U U)<|Q0n<|Ld (Lg 8 (xG (cs:=[vi 0,vi 0,vi 0,vi 0]) zf9 U) fun aJ _=>Lo U U (xz zd6 U U U .here U U U)<|WL.nil<|WX.cG V .h6<|WC.block<|WC.b ?_)
    obtain⟨a5,aK,b⟩:=z8 b
    let M:List Value:=[vi a.1.yg.fN,vi a.1.yg.fD];let N:List Value:=[vi a.2.yg.fN,vi a.2.yg.fD];refine Ld<|Le 19 (xk ml U U)<|Le 20 (wu (cs:=M) zh U U<|g7 (s:=2) .h2 U)<|Le 21 (xk ml U U)<|Le 22 (wu (cs:=N) zh U U<|g7 (s:=2) .h1 U)<|Lp 23 (zb call129<|.r2 U U) .nil (jH hz .nil .h3 fun w pz ho=>fF _ _ _ _ aK w pz )<|Q1n U<|WC.cond U (fun Y=>?_)<|fun Y=>?_
    ·replace b:=q7 b Y
     obtain⟨a6,aL,b⟩:=z8 b
     obtain⟨a7,aM,b⟩:=z8 b
     obtain⟨R,aN,b⟩:=z8 b
     obtain⟨aO,b⟩:=xq b
     refine Lz (fun i=>[5,10,11,13,14].contains i) [sq n 229 [(0,J)],sq aI 225 [(2,vi a.1.fR.fN),(3,vi a.1.fR.fD)],sq aJ 225 [(2,vi a.2.fR.fN),(3,vi a.2.fR.fD)]] U<|Mb 0 25 U (wB.wk (.s3 .h4 .h2 .h1)<|.stb (.cons U .nil)<|.stb (.cons U<|.cons U .nil)<|.stb (.cons U<|.cons U .nil) .nil) (xl zd7 U<|fZ .here<|.head _)<|Lf 1 26 U (xk ml U U)<|Lh 2 27 U (wu (cs:=N) zh U U<|g7 (s:=2) .h1 U)<|Lf 3 28 U (xk ml U U)<|Lh 4 29 U (wu (cs:=M) zh U U<|g7 (s:=2) .h2 U)<|Lf 6 31 U (xk uA U U)<|Mb 7 32 U (wB.wk (.s3 .h4 .h2 .h1)<|.stb (.cons U .nil)<|.stb (.cons U<|.cons U .nil)<|.stb (.cons U<|.cons U .nil) .nil) (wu (cs:=[vi a.1.fR.fN,vi a.1.fR.fD]) zh U U<|cL .h1 (.head _)<|(.tail _<|.head _))<|Lf 8 33 U (xk uA U U)<|Mb 9 34 U (wB.wk (.s3 .h4 .h2 .h1)<|.stb (.cons U .nil)<|.stb (.cons U<|.cons U .nil)<|.stb (.cons U<|.cons U .nil) .nil) (wu (cs:=[vi a.2.fR.fN,vi a.2.fR.fD]) zh U U<|cL .h2 (.head _)<|(.tail _<|.head _)) (WD.call0 (i:=5) (dd:=30) U (by kernel_rfl) U U U (.inl ⟨U,(wB.wk (.s3 .h5 .h3 .h2)<|.stb (.cons U .nil)<|.stb (.cons U<|.cons U .nil)<|.stb (.cons U<|.cons U .nil) .nil)⟩) (zb call210<|.r4 U U U U) (.cons .h6 .nil) (jH hz (.cons .h6 .nil) .h3 fun w pz ho=>Calls.mono (ur _ _ (zdt:=124) (zkb:=[]) _ (zg8:=(fun(y0:z1) (y1:z1)=>qG y0 y1)) _ _ _ aL w pz call124 (fun w' iT y0 y1  r  hr=>o8 _ _ _ _ hr w' iT ) ho)<|fun _ _ h'=>⟨h'.1,trivial,h'.2⟩) fun _=>WD.call0 (i:=10) (dd:=35) U (by kernel_rfl) U U U (.inl ⟨U,(wB.wk (.s3 .h5 .h3 .h2)<|.stb (.cons U .nil)<|.stb (.cons U<|.cons U .nil)<|.stb (.cons U<|.cons U .nil) .nil)⟩) (zb call210<|.r4 U U U U) (.cons .here .nil) (jH hz (.cons .here .nil) .h3 fun w pz ho=>Calls.mono (ur _ _ (zdt:=124) (zkb:=[]) _ (zg8:=(fun(y0:z1) (y1:z1)=>qG y0 y1)) _ _ _ aM w pz call124 (fun w' iT y0 y1  r  hr=>o8 _ _ _ _ hr w' iT ) ho)<|fun _ _ h'=>⟨h'.1,trivial,h'.2⟩) fun _=>WD.call0 (i:=11) (dd:=36) U (by kernel_rfl) U U U (.inl ⟨U,(wB.wk (.s3 .h5 .h3 .h2)<|.stb (.cons U .nil)<|.stb (.cons U<|.cons U .nil)<|.stb (.cons U<|.cons U .nil) .nil)⟩) (zb call210<|.r4 U U U U) (.cons .here .nil) (jH hz (.cons .here .nil) .h3 fun w pz ho=>Calls.mono (ur _ _ (zdt:=125) (zkb:=[]) _ (zg8:=(fun(y0:z1) (y1:z1)=>kW y0 y1)) _ _ _ aN w pz call125 (fun w' iT y0 y1  r  hr=>Yx _ _ _ _ hr w' iT ) ho)<|fun _ _ h'=>⟨h'.1,trivial,h'.2⟩) ?_)
     intro _
     refine WD.new (i:=12) (dd:=37) U (by kernel_rfl) U U U (xU (cs:=([R.1]:List z1).flatMap xL) z3L (Lq (l:=[.tmp 36]) (.cons U .nil) [0]) (fun _=>by kernel_rfl) U (by unfold maxLen;omega)) (fun h'=>absurd h' (by decide)) fun a3 _=>WD.old (i:=13) (dd:=38) U (by kernel_rfl) U U U U (fun _=>(wB.wk (.s3 .h7 .h5 .h4)<|.stb (.cons U .nil)<|.stb (.cons U<|.cons U .nil)<|.stb (.cons U<|.cons U .nil) .nil)) (vT (enc:=xL) (l1:=z) (l2:=([R.1]:List z1)) z3L U U .h7 (fun _=>U) U U (vL .here) (qR ez _) aO) ?_
     rintro⟨ao,ap⟩ _
     refine WD.jD (i:=14) U (by kernel_rfl) U U U (by kernel_rfl) (xz zC5 U U U .h7 U U U)<|WD.done (by kernel_rfl)<|Lt ?_
     obtain⟨rfl,rfl⟩:=l9 b
     let K:Value:=(vs ao ((z++([R.1]:List z1)).length) ap);exact WX.tn V .h4<|fun w' mT=>⟨(ao,ap),U,trivial,(mT.selAll ((.s5 .h7 .h1 .h1 .h2 .here):Sel _ [fz [],stb n 229 [K],row K 175 2 ((z++([R.1]:List z1)).flatMap xL),stb o 307 [vi R.2.fE],w5 q (y .ready none)] _)).sub (.cons .here .nil)⟩
    ·replace b:=q8 b Y
     refine WC.skip<|Lt ?_
     obtain⟨rfl,rfl⟩:=l9 b
     exact WX.tn V .here<|fun w' mT=>⟨(aj,ak),U,trivial,(mT.selAll ((.s5 .h3 .h3 .h3 .h3 .here):Sel _ F _)).sub (.cons .here .nil)⟩
   ·rintro _ w' ⟨⟨aq,ar⟩,rfl,_,hp⟩
    have xv:=hw1.call ((.cons .here .nil):Sel [vE A,jl j,stb c 227 C,stb d 227 E,fz k] [vE A] [jl j,stb c 227 C,stb d 227 E,fz k]) hp
    let I:Value:=(vs aq m.2.1.length ar);have zn:Hp _ _ w' [fz [],stb n 229 [I],row I 175 2 (m.2.1.flatMap xL),stb o 307 [vi m.2.2],w5 q (y (sa (fY [] m.1)) (fY [] m.1)),jl j,stb c 227 C,stb d 227 E,fz k]:=xv.pickAll .here
    refine⟨_,fY [] m.1,_,U,zn.sub ((.s9 .h4 .here .here .here .here .here .here .here .here):Sel _ [w5 q (y (sa (fY [] m.1)) (fY [] m.1)),fz [],stb n 229 [I],row I 175 2 (m.2.1.flatMap xL),stb o 307 [vi m.2.2],jl j,stb c 227 C,stb d 227 E,fz k] _),?_⟩
    clear hp xv zn pz hw hw1
    refine wjN ?_
    letI:Rnd:=mR j
    exact WX.merge .here .h6<|Lt<|WX.midR (D:=fun(g:Nat×Int×List z1×Zp×Option Addr×Nat)=>g.1) (G:=Nat×Int×List z1×Zp×Option Addr×Nat) ⟨j,m.2.2,m.2.1,k++[],aq,ar⟩ ⟨h,(ay.trans<|zl.trans (xm.xX _ _ _))⟩ (.q U)<|.s5 .here .h2 .here .here .here
  ·rintro P t p Q u v ⟨h,a4⟩
   replace h:=(ax t p).symm.trans h
   letI:Rnd:=mR P
   refine WC.b<|B0q<|Le 39 (xk pK U U)<|Le 40 (xl z6z U<|xt .h1 U)<|Q1n U<|Lk U h (fun aP h=>?_)<|fun aP h=>?_
   ·refine WC.b<|Lz nc [] U<|Lf 0 42 U (xk pK U U)<|Lh 1 43 U (xl z6z U<|xt .h1 U)<|Lf 2 2 U (q_z U)<|Lf 3 3 U (q_z U)<|WD.done (by kernel_rfl)<|Lb<|WC.ret<|Ll<|WX.nilRow 175 2 ?_
    obtain rfl:=oJ h
    exact WX.sp .h5 results199 (.tmp U<|.tmp U .nil)<|fun w hw=>⟨none,0,wV U U,trivial,hw.sub (.cons .h1 .nil)⟩
   ·refine WC.skip<|Lb<|WC.b<|bK h fun aY aQ h=>Ld<|Le 44 (xl zd7 U<|xt .h2 U)<|WL.fy (dd:=45) U U U (zb call214<|.r2 U U) (.cons .h3 .nil) (jH hz (.cons .h3 .nil) .here fun w pz ho=>ri _ _ _ (zpL:=129) (zyj:=[]) _ (zpK:=(fun(y0:z1) (y1:z1)=>vh y0 y1)) _ aQ w pz call129 (fun w' iT y0 y1  r  hr=>fF _ _ _ _ hr w' iT ) ho) ?_
    rintro  aR
    refine WL.restb (cs':=[vs u aY.length v]) .h3 (by rw[aR])<|Q0n<|WC.b<|bK h fun a8 aS h=>Ld<|Le 46 (xl zd7 U<|xt .here U)<|WL.jk (dd:=47) U U U (zb call215<|.cons U .nil) (.cons .h1 .nil) (jH hz (.cons .h1 .nil) .h1 fun w pz ho=>rA _ _ _ _ _ aS w pz  ho) ?_
    rintro aT aU _
    refine Q2n U<|WC.ret ?_
    obtain rfl:=oJ h
    exact WX.sp .h4 results199 (.tmp U<|.tmp U .nil)<|fun w hw=>⟨aT,aU,wV U U,trivial,hw.sub (.cons .h1 .nil)⟩
def kE(a:z6)(b:z6):Option Int:=
 (vh a.fR b.fR).bind fun c=>some c
theorem Yd(Z:Zp)(a:z6)(b:z6)(r:Int)(h:kE a b=some r)(w₀:World)(hz:PZ [] w₀ Z):
  RC 217 #[.agg #[vi a.yg.fN,vi a.yg.fD,vi a.fR.fN,vi a.fR.fD],.agg #[vi b.yg.fN,vi b.yg.fD,vi b.fR.fN,vi b.fR.fD]] w₀ (vi r) [] []:=by
 unfold kE at h
 refine L3 func217 ntmps217 ?_
 refine WC.b<|Ld (Lg 2 (xO (cs:=[vi a.yg.fN,vi a.yg.fD,vi a.fR.fN,vi a.fR.fD]) U U) fun d _=>Lg 3 (xO (cs:=[vi b.yg.fN,vi b.yg.fD,vi b.fR.fN,vi b.fR.fD]) U U) fun e _=>Q1n U<|WC.b ?_)
 refine bK h fun f c h=>Ld<|Le 5 (xk uA U U)<|Le 6 (wu (cs:=[vi a.fR.fN,vi a.fR.fD]) zh U U<|g7 (s:=2) .h1 U)<|Le 7 (xk uA U U)<|Le 8 (wu (cs:=[vi b.fR.fN,vi b.fR.fD]) zh U U<|g7 (s:=2) .here U)<|Lp 9 (zb call129<|.r2 U U) .nil (cc hz .nil fun w pz ho=>fF _ _ _ _ c w pz )<|Q1n U<|WC.ret ?_
 obtain rfl:=oJ h
 exact Li results217 (.tmp U .nil)<|fun w hw=>⟨xJ U,hw.sub .nil⟩
def wD(b:List z6)(zcn:z6->z6->Option Int)(g:Int->Int->Int->Int->Option z6):Nat->Int->Int->Int->Int->Int->Option z6
 | 0,_,_,_,_,_=>none
 | i+1,a,c,d,e,f=>if decide (a<b.length) then jp4 (fun(j:Int) (k:Int) (l:Int) (m:Int)=>wD b zcn g i (i64 (a+1)) j k l m) fun h=>chk (0<=a/\a<b.length) ((zcn (⟨(⟨((nth b a).yg).fN,((nth b a).yg).fD⟩:z1),(⟨((nth b a).fR).fN,((nth b a).fR).fD⟩:z1)⟩:z6) (⟨(⟨c,d⟩:z1),(⟨e,f⟩:z1)⟩:z6)).bind fun n=>if decide (n<0) then chk (0<=a/\a<b.length) (h (((nth b a).yg).fN) (((nth b a).yg).fD) (((nth b a).fR).fN) (((nth b a).fR).fD)) else h c d e f) else g c d e f
def vP(a:List z6)(zcn:z6->z6->Option Int):Option z6:=
 if decide ((a.length:Int)<1) then none else chk ((0:Int)<=0/\0<(a.length:Int)) (jp4 (fun(b:Int) (c:Int) (d:Int) (e:Int)=>some (⟨(⟨b,c⟩:z1),(⟨d,e⟩:z1)⟩:z6)) fun f=>wD a zcn f xC 1 (((nth a 0).yg).fN) (((nth a 0).yg).fD) (((nth a 0).fR).fN) (((nth a 0).fR).fD))
theorem sg(Z:Zp)(y:Option Addr)(z:Nat)(zkk:FuncId)(zpV:List Value)(a:List z6)(zcn:z6->z6->Option Int)(r:z6)(h:vP a zcn=some r)(w₀:World)(hz:PZ [] w₀ Z)(B:ZS Z 4 (rq vF) y z a)(F:∀ args w,(callFunc zkk args).run Tryz.prog w = .ok (.enter zkk args) w)(G:∀ w:World,PZ [] w Z->∀(x0:z6) (x1:z6) (r:Int),zcn x0 x1=some r->Calls Tryz.prog zkk (([.agg #[vi x0.yg.fN,vi x0.yg.fD,vi x0.fR.fN,vi x0.fR.fD],.agg #[vi x1.yg.fN,vi x1.yg.fD,vi x1.fR.fN,vi x1.fR.fD]]:List Value)++zpV).toArray w fun e w'=>e = .returned (vi r)/\Hp [] w w' []):
  RC 216 #[vs y a.length z,.func (.func zkk) #[] (zpV).toArray] w₀ (.agg #[vi r.yg.fN,vi r.yg.fD,vi r.fR.fN,vi r.fR.fD]) [] []:=by
 unfold vP at h
 refine L3 func216 ntmps216 ?_
 let A:List Value:=[vi 0,vi 0,vi 0,vi 0];refine B0q<|Lg 4 (xG (cs:=A) zf9 U) ?_
 intro p _
 refine Q0n<|WC.b<|B1q U<|Le 8 (xK underlying227 U)<|Q1n U<|Lk U h (fun H h=>?_)<|fun H h=>?_
 ·cases h
 ·refine WC.skip<|Lb<|WC.b<|cK h fun I h=>D1q U<|L0 (dd:=12) U U (Z:=Z) (Pr:=(rq vF)) za5 U U B I ?_
  rintro X Y J aa rfl
  refine Le 13 (xw z4c U (vQ hz.pv J) U) (Lg 5 (xG (cs:=A) zf9 U) fun q _=>Lo U U (xz zd6 U U U .here U U U)<|Q0n ?_)
  refine jK4 h fun E K h=>WC.tm (fun(s:Int) (t:Int) (u:Int) (v:Int)=>(E s t u v=some r)) (fun s t u v=>[(4,vp p),(5,vp q)]) (fun s t u v=>[stb p 225 A,stb q 225 [vi s,vi t,vi u,vi v]]) ?_ ?_
  ·let C:Value:=(.func (.func zkk) #[] (zpV).toArray);let D:Value:=(vs y a.length z);refine B1n U<|WC.block<|WC.rx (fun(x:Nat) (b:Int) (c:Int) (d:Int) (g:Int) (i:Int)=>(wD a zcn E x b c d g i=some r)) (fun x b c d g i=>[(0,D),(1,C),(4,vp p),(5,vp q),(6,vi b)]) (fun x b c d g i=>[stb p 225 A,stb q 225 [vi c,vi d,vi g,vi i]]) (fun x b c d g i=>x) ⟨xC,1,((nth a 0).yg).fN,((nth a 0).yg).fD,((nth a 0).fR).fN,((nth a 0).fR).fD⟩ h (.q U) (.s2 .h1 .here) ?_
   rintro(_|T) b c d g i h;·cases h
   rw[wD] at h
   refine WC.b<|B2q U<|Le 16 (xK underlying227 U)<|Q1n U<|Lk U h (fun L h=>?_)<|fun L h=>?_
   ·refine WC.skip<|Lb<|jK4 h fun V M h=>WC.tm (fun(k:Int) (m:Int) (n:Int) (o:Int)=>(V k m n o=some r)) (fun k m n o=>[(0,D),(1,C),(4,vp p),(5,vp q),(6,vi b)]) (fun k m n o=>[stb p 225 A,stb q 225 [vi k,vi m,vi n,vi o]]) ?_ ?_
    ·refine WC.block<|WC.b<|cK h fun N h=>bK h fun W O h=>Lz nc [] U<|Lf 0 20 U (q_m U)<|Lf 1 21 U (q_m U)<|Lf 2 22 U (q_m U)<|L2 (j:=3) (dd:=23) (by kernel_rfl) U zO zP U U (Z:=Z) (Pr:=(rq vF)) za5 U U B N ?_
     rintro ab ad P ae rfl
     refine Lh 4 24 U (xw z4c U (vQ hz.pv P) U)<|Lh 5 25 U (xw z4c U (xy .h1) U)<|L5 6 26 U (qW (l:=[.tmp 24,.tmp 25]) (f:=zkk) (caps:=zpV) F U<|.r2 U U) (fun w hw=>G w (hz.now hw) (⟨(⟨((nth a b).yg).fN,((nth a b).yg).fD⟩:z1),(⟨((nth a b).fR).fN,((nth a b).fR).fD⟩:z1)⟩:z6) (⟨(⟨c,d⟩:z1),(⟨g,i⟩:z1)⟩:z6) W  O)<|Lf 7 27 U (lR U U)<|WD.done (by kernel_rfl)<|Lb<|Lk U h (fun Q h=>?_)<|fun Q h=>?_
     ·refine cK h fun R h=>D2q U<|L0 (dd:=30) U U (Z:=Z) (Pr:=(rq vF)) za5 U U B R ?_
      rintro af ag S ah rfl
      exact Le 31 (xw z4c U (vQ hz.pv S) U)<|Lo U U (xz zd6 U U U .h1 U U U)<|WL.nil<|Lt<|Ln ⟨((nth a b).yg).fN,((nth a b).yg).fD,((nth a b).fR).fN,((nth a b).fR).fD⟩ h (.q U)<|.s2 .h1 .here
     ·exact WC.skip<|Lt<|Ln ⟨c,d,g,i⟩ h (.q U)<|.a2
    ·rintro k m n o h
     replace h:=(M k m n o).symm.trans h
     exact D3q U<|WL.nil<|WX.round ⟨T,i64 (b+1),k,m,n,o⟩ h (Nat.lt_succ_self _) (.q U)<|.a2
   ·exact WC.exit<|Lm<|Lm<|Lv<|Ln ⟨c,d,g,i⟩ h (.q U)<|.a2
  ·rintro s t u v h
   replace h:=(K s t u v).symm.trans h
   refine B0q<|Le 32 (xw z4c U (xy .h1) U)<|Lo U U (xz zd6 U U U .here U U U)<|Q0n<|WC.ret ?_
   obtain rfl:=oJ h
   exact Li results216 (.agg U z4c U (xy .here) .nil)<|fun w hw=>⟨xJ U,hw.sub .nil⟩
def mI(a:List z6):Option (z1×Int):=
 (f8 a).bind fun b=>if !b then some ((⟨0,0⟩:z1),2) else(vP a (fun(y0:z6) (y1:z6)=>kE y0 y1)).bind fun c=>some (c.fR,0)
theorem XQ(Z:Zp)(b:Option Addr)(c:Nat)(a:List z6)(r:z1×Int)(h:mI a=some r)(w₀:World)(hz:PZ [] w₀ Z)(d:ZS Z 4 (rq vF) b c a):
  RC 200 #[vs b a.length c] w₀ (.tuple #[.agg #[vi r.1.fN,vi r.1.fD],vi r.2]) [] []:=by
 unfold mI at h
 refine L9 func200 ntmps200 ?_
 refine WC.b<|Ld (Lg 2 (xG (cs:=[vi 0,vi 0]) z1y U) fun j _=>Q1n U<|WC.b<|WC.b ?_)
 refine bK h fun k f h=>D1q U<|Lp 5 (zb call192<|.cons U .nil) .nil (cc hz .nil fun w pz ho=>rp _ _ _ _ _ f w pz d)<|Q1n U<|Lk U h (fun g h=>?_)<|fun g h=>?_
 ·refine B0q<|Le 7 (w3 (v:=(.agg #[vi 0,vi 0])) (Lq (l:=[]) .nil []) (fun _=>by kernel_rfl))<|Lo U U (xz zX U U U .here U U U)<|Q1n U<|WC.ret<|Ll ?_
  obtain rfl:=oJ h
  exact Li results200 (.agg U zh U (xy .here)<|.tmp U .nil)<|fun w hw=>⟨wV U U,hw.sub .nil⟩
 ·refine WC.skip<|Lb<|WC.b<|bK h fun e i h=>D1q U<|Lp 9 (zb call216<|.r2 U U) .nil (cc hz .nil fun w pz ho=>sg _ _ _ (zkk:=217) (zpV:=[]) _ (zcn:=(fun(y0:z6) (y1:z6)=>kE y0 y1)) _ i w pz d call217<|fun w' iT y0 y1  r  hr=>Yd _ _ _ _ hr w' iT )<|Le 10 (K4 (cs':=#[vi e.fR.fN,vi e.fR.fD]) Qn zh U U)<|Lo U U (xz zX U U U .here U U U)<|Q1n U<|WC.ret ?_
  obtain rfl:=oJ h
  exact Li results200 (.agg U zh U (xy .here)<|.tmp U .nil)<|fun w hw=>⟨wV U U,hw.sub .nil⟩
def wQ(b:yk)(zb7:z1->z1->Option (z1×Int))(c:z1)(d:z1):Option (z1×yk):=
 if decide (b.fE≠0) then(kV).bind fun e=>some (e,b) else(zb7 c d).bind fun a=>if decide (a.2≠0) then(kV).bind fun f=>some (f,(⟨a.2⟩:yk)) else some (a.1,(⟨a.2⟩:yk))
theorem jy(Z:Zp)(c:Nat)(zak:FuncId)(zco:List Value)(d:yk)(zb7:z1->z1->Option (z1×Int))(a:z1)(b:z1)(r:z1×yk)(h:wQ d zb7 a b=some r)(w₀:World)(hz:Pz [stb c 277 [vi d.fE]] w₀ Z)(g:∀ args w,(callFunc zak args).run Tryz.prog w = .ok (.enter zak args) w)(i:∀ w:World,PZ [] w Z->∀(x0:z1) (x1:z1) (r:z1×Int),zb7 x0 x1=some r->Calls Tryz.prog zak (([.agg #[vi x0.fN,vi x0.fD],.agg #[vi x1.fN,vi x1.fD]]:List Value)++zco).toArray w fun e w'=>e = .returned (.tuple #[.agg #[vi r.1.fN,vi r.1.fD],vi r.2])/\Hp [] w w' [])(iq:Ho w₀ [stb c 277 [vi d.fE]]):
  RF 123 #[vp c,.func (.func zak) #[] (zco).toArray,.agg #[vi a.fN,vi a.fD],.agg #[vi b.fN,vi b.fD]] w₀ (.agg #[vi r.1.fN,vi r.1.fD]) [stb c 277 [vi d.fE]] [stb c 277 [vi r.2.fE]]:=by
 unfold wQ at h
 refine Calls.tg func123 ntmps123 iq ?_
 refine WC.b<|Ld (Lg 6 (xO (cs:=[vi a.fN,vi a.fD]) U U) fun q _=>Lg 7 (xO (cs:=[vi b.fN,vi b.fD]) U U) fun s _=>Lg 8 (xG (cs:=[vi 0,vi 0]) z1y U) fun t _=>Q0n<|WC.b<|B1q U<|Le 12 (wG U)<|Le 13 (xk uB U U)<|Le 14 (xl z6z U<|xt .h3 U)<|Q1n U<|Lk U h (fun j h=>?_)<|fun j h=>?_)
 ·refine WC.b<|bK h fun v k h=>Ld<|Lp 16 (zb call161 .nil) .nil (cc hz .nil fun w pz ho=>uq _ _ k w pz )<|Lo U U (xz zX U U U .here U U U)<|Q0n<|WC.ret<|Ll ?_
  obtain rfl:=oJ h
  exact Li results123 (.agg U zh U (xy .here) .nil)<|fun w hw=>⟨xJ U,hw.sub (.cons .h3 .nil)⟩
 ·refine WC.skip<|Lb<|WC.b<|bK h fun p m h=>D1q U<|Le 19 (xw zh U (xy .h2) U)<|Le 20 (xw zh U (xy .h1) U)<|Lp 21 (qW (l:=[.tmp 19,.tmp 20]) (f:=zak) (caps:=zco) g U<|.r2 U U) .nil (fun w hw=>i w (hz.now hw) a b p  m)<|Q2q U<|La U (Lg 9 (xG (cs:=[vi 0,vi 0]) z1y U) fun u _=>Lo U U (xz zX U U U .here U U U)<|Q1n U<|WC.b<|B2q U<|Le 26 (wG U)<|Le 27 (xk uB U U)<|Lo U U (xz ztk U U U .h4 U U U)<|Q0n<|B2n U<|Lk U h (fun n h=>?_)<|fun n h=>?_)
  ·refine WC.b<|bK h fun x o h=>Ld<|Lp 30 (zb call161 .nil) .nil (cc hz .nil fun w pz ho=>uq _ _ o w pz )<|Lo U U (xz zX U U U .h2 U U U)<|Q0n<|WC.ret<|Ll ?_
   obtain rfl:=oJ h
   exact Li results123 (.agg U zh U (xy .here) .nil)<|fun w hw=>⟨xJ U,hw.sub (.cons .h1 .nil)⟩
  ·refine WC.skip<|Lb<|B0q<|Le 31 (xw zh U (xy .h1) U)<|Lo U U (xz zX U U U .h2 U U U)<|Q0n<|WC.ret ?_
   obtain rfl:=oJ h
   exact Li results123 (.agg U zh U (xy .here) .nil)<|fun w hw=>⟨xJ U,hw.sub (.cons .h1 .nil)⟩
def vd(b:List (List z6))(d:Int->Int->Int->Option Int):Nat->Int->Int->Int->Int->Option Int
 | 0,_,_,_,_=>none
 | i+1,a,e,f,g=>if decide (a<b.length) then chk (0<=a/\a<b.length) ((qV (nth b a)).bind fun h=>if decide (h.2≠0) then some h.2 else(mI (nth b a)).bind fun j=>(wQ (⟨e⟩:yk) (fun(y0:z1) (y1:z1)=>vb y0 y1) (⟨f,g⟩:z1) j.1).bind fun c=>vd b d i (i64 (a+1)) c.2.fE c.1.fN c.1.fD) else d e f g
def vZ(a:List (List z6))(b:yl)(n:List (List z6))(o:yl)(p:List z1):Option Int:=
 (if decide ((a.length:Int)>32) then some true else(vr a (fun(y0:List z6)=>qh y0)).bind fun e=>some e).bind fun f=>(if f then some true else(mG b).bind fun g=>some (!g)).bind fun h=>if h then some 2 else(kV).bind fun c=>Yp (fun(d:Int) (i:Int) (j:Int)=>(if decide (d=0) then(vh (⟨i,j⟩:z1) b.fR).bind fun k=>some (decide (k>0)) else some false).bind fun l=>if l then some 6 else some d) fun m=>vd a m xC 0 0 c.fN c.fD
theorem sS(Z:Zp)(x:Option Addr)(y:Nat)(z:Addr)(I:Option Addr)(J:Nat)(D:Addr)(E:Option Addr)(F:Nat)(g:List (List z6))(a:yl)(G:List (List z6))(l:yl)(q:List z1)(r:Int)(h:vZ g a G l q=some r)(w₀:World)(hz:PZ [] w₀ Z)(K:ZS Z 1 (j9 Z) x y g)(ap:ZS Z 1 (j9 Z) I J G)(aq:ZC Z z [vs I G.length J])(ar:ZC Z D [vi l.fR.fN,vi l.fR.fD,vi l.fL.fN,vi l.fL.fD])(au:ZS Z 2 (rq xL) E F q):
  RC 163 #[.agg #[vs x g.length y,vi a.fR.fN,vi a.fR.fD,vi a.fL.fN,vi a.fL.fD,.func (.func f) #[] #[vq z,vq D],vs E q.length F]] w₀ (vi r) [] []:=by
 unfold vZ at h
 refine L9 func163 ntmps163 ?_
 let C:Value:=(vs x g.length y);let A:List Value:=[C,vi a.fR.fN,vi a.fR.fD,vi a.fL.fN,vi a.fL.fD,.func (.func f) #[] #[vq z,vq D],vs E q.length F];refine B0q<|Lg 1 (xO (cs:=A) U U) ?_
 intro t _
 refine Q1n U<|WC.b<|WC.b<|bK h fun al L h=>bK h fun am M h=>Ld<|Le 11 (xk cN U U)<|Le 12 (xl zj9 U<|xt .here U)<|Le 13 (xK underlying171 U)<|Q2q U<|Lx false 3 15 (B:=al) U U U U U U (fun h=>(oJ<|q7 L h).symm) (fun _ R=>?_) ?_
 ·have m:=q8 L R
  obtain⟨aD,S,m⟩:=z8 m
  replace m:=oJ m
  exact Le 16 (xk cN U U)<|Le 17 (xl zj9 U<|xt .here U)<|Lp 18 (zb call196<|.r2 U U) .nil (cc hz .nil fun w pz ho=>tc _ _ _ (zpp:=197) (zy2:=[]) _ (zpo:=(fun(y0:List z6)=>qh y0)) _ S w pz K call197<|fun w' iT y0 ga0 gc0 r CL hr=>oN _ _ _ _ _ hr w' iT CL)<|La U<|Ly m U U .all
 refine La U<|Lx false 4 20 (B:=am) U U U U U U (fun h=>(oJ<|q7 M h).symm) (fun _ T=>?_) ?_
 ·have n:=q8 M T
  obtain⟨aE,V,n⟩:=z8 n
  replace n:=oJ n
  exact Le 21 (xk XM U U)<|Le 22 (wu (cs:=[vi a.fR.fN,vi a.fR.fD,vi a.fL.fN,vi a.fL.fD]) ztl U U<|g7 (s:=4) .here U)<|Lp 23 (zb call198<|.cons U .nil) .nil (cc hz .nil fun w pz ho=>nz _ _ _ V w pz )<|Q2q U<|Ly n U U .all
 refine Q0n<|Lk U h (fun W h=>?_)<|fun W h=>?_
 ·refine B1n U<|WC.ret<|Ll ?_
  obtain rfl:=oJ h
  exact Li results163 (.tmp U .nil)<|fun w hw=>⟨xJ U,hw.sub .nil⟩
 ·refine WC.skip<|Lb<|WC.b<|Ld (Lg 3 (xG (cs:=[vi 0]) zC3 U) fun u _=>Q0n<|WC.b ?_)
  refine bK h fun N X h=>Ld<|Lp 26 (zb call161 .nil) .nil (cc hz .nil fun w pz ho=>uq _ _ X w pz ) (Lg 4 (xG (cs:=[vi 0,vi 0]) z1y U) fun v _=>Lo U U (xz zX U U U .here U U U)<|Q0n ?_)
  refine jK3 h fun O Y h=>Md (fun(i:Int) (j:Int) (k:Int)=>(O i j k=some r)) (fun i j k=>[(1,vp t),(3,vp u),(4,vp v)]) (fun i j k=>[stb t 231 A,stb u 277 [vi i],stb v 175 [vi j,vi k]]) ?_ ?_
  ·refine B0q<|Le 27 (xk cN U U)<|Le 28 (xl zj9 U<|xt .h2 U)<|Le 29 (xK underlying171 U)<|Q1n U<|WC.block<|WC.fk (fun(o:Nat) (b:Int) (c:Int) (d:Int) (e:Int)=>(vd g O o b c d e=some r)) (fun o b c d e=>[(1,vp t),(3,vp u),(4,vp v),(28,C),(29,vi (g.length:Int)),(30,vi b)]) (fun o b c d e=>[stb t 231 A,stb u 277 [vi c],stb v 175 [vi d,vi e]]) (fun o b c d e=>o) ⟨xC,0,0,N.fN,N.fD⟩ h (.q U) (.s3 .h2 .h1 .here) ?_
   rintro(_|an) b c d e h;·cases h
   rw[vd] at h
   refine B1n U<|WC.b<|Lk U h (fun aa h=>?_)<|fun aa h=>?_
   ·refine WC.skip<|Lb<|WC.b<|WC.block<|WC.b<|cK h fun ab h=>Ld<|L0 (dd:=32) U U (Z:=Z) (Pr:=(j9 Z)) zf8 U U K ab ?_
    rintro av aw ad ax ⟨ay,az,rfl,P⟩
    refine Le 33 (xl zod U<|q9 hz.pv ad U)<|Q1n U<|WC.b<|WC.b<|bK h fun aF ae h=>D1q U<|WL.jk (dd:=36) U U U (zb call199<|.cons U .nil) .nil (cc hz .nil fun w pz ho=>iW _ _ _ _ _ ae w pz P) ?_
    rintro aA aB _
    refine Q5n U<|B2n U<|Lk U h (fun af h=>?_)<|fun af h=>?_
    ·refine B2n U<|WC.ret<|Ll<|Lu<|Ll<|Ll<|Lu<|Ll ?_
     obtain rfl:=oJ h
     exact Li results163 (.tmp U .nil)<|fun w hw=>⟨xJ U,hw.sub .nil⟩
    ·refine WC.skip<|Lb<|WC.b<|bK h fun aG ag h=>D1q U<|Lp 44 (zb call200<|.cons U .nil) .nil (cc hz .nil fun w pz ho=>XQ _ _ _ _ _ ag w pz P)<|Q2q U<|La U (Lg 9 (xG (cs:=[vi 0,vi 0]) z1y U) fun aC _=>Lo U U (xz zX U U U .here U U U)<|Q1n U ?_)
     exact bK h fun H ah h=>Ld<|Le 47 (xw zh U (xy .h4) U)<|Le 48 (xw zh U (xy .here) U)<|Lp 49 (zb call123<|.r4 U U U U) (.cons .h3 .nil) (cc hz (.cons .h3 .nil) fun w pz ho=>jy _ _ (zak:=119) (zco:=[]) _ (zb7:=(fun(y0:z1) (y1:z1)=>vb y0 y1)) _ _ _ ah w pz call119 (fun w' iT y0 y1  r  hr=>sv _ _ _ _ hr w' iT ) ho)<|Lo U U (xz zX U U U .h4 U U U)<|WL.nil<|Lt<|Lb<|D2q U<|WL.nil<|WX.round ⟨an,i64 (b+1),H.2.fE,H.1.fN,H.1.fD⟩ h (Nat.lt_succ_self _) (.q U)<|.s3 .h4 .h1 .here
   ·exact WC.exit<|Lm<|Lm<|Lv<|Ln ⟨c,d,e⟩ h (.q U)<|.a3
  ·rintro i j k h
   replace h:=(Y i j k).symm.trans h
   refine WC.b<|WC.b<|bK h fun ao Q h=>Ld<|Le 51 (xk uB U U)<|Le 52 (xl z6z U<|xt .h1 U)<|Q2q U<|Lx true 6 54 (B:=ao) U U U U U U (fun h=>(oJ<|q8 Q h).symm) (fun _ ai=>?_) ?_
   ·have p:=q7 Q ai
    obtain⟨aH,aj,p⟩:=z8 p
    replace p:=oJ p
    exact Le 55 (xw zh U (xy .h2) U)<|Le 56 (xk XM U U)<|Le 57 (xk lf U U)<|Le 58 (wu (cs:=[vi a.fR.fN,vi a.fR.fD]) zh U U<|g7 (s:=2) .here U)<|Lp 59 (zb call129<|.r2 U U) .nil (cc hz .nil fun w pz ho=>fF _ _ _ _ aj w pz )<|Q2q U<|Ly p U U .all
   refine Q0n<|Lk U h (fun ak h=>?_)<|fun ak h=>?_
   ·refine B1n U<|WC.ret<|Ll ?_
    obtain rfl:=oJ h
    exact Li results163 (.tmp U .nil)<|fun w hw=>⟨xJ U,hw.sub .nil⟩
   ·refine WC.skip<|Lb<|B0q<|Le 62 (xk uB U U)<|Le 63 (xl z6z U<|xt .h1 U)<|Q1n U<|WC.ret ?_
    obtain rfl:=oJ h
    exact Li results163 (.tmp U .nil)<|fun w hw=>⟨xJ U,hw.sub .nil⟩
def jr(b:List (List z6))(a:yl)(c:List (List z6))(d:yl)(e:List z1):Option (Int×Int×Int×Int):=
 some (a.fR.fN,a.fR.fD,a.fL.fN,a.fL.fD)
theorem sy(Z:Zp)(g:Option Addr)(i:Nat)(j:Addr)(p:Option Addr)(q:Nat)(k:Addr)(m:Option Addr)(n:Nat)(b:List (List z6))(a:yl)(o:List (List z6))(c:yl)(d:List z1)(r:Int×Int×Int×Int)(h:jr b a o c d=some r)(w₀:World)(hz:PZ [] w₀ Z)(u:ZS Z 1 (j9 Z) g i b)(v:ZS Z 1 (j9 Z) p q o)(x:ZC Z j [vs p o.length q])(y:ZC Z k [vi c.fR.fN,vi c.fR.fD,vi c.fL.fN,vi c.fL.fD])(z:ZS Z 2 (rq xL) m n d):
  Calls Tryz.prog 164 #[.agg #[vs g b.length i,vi a.fR.fN,vi a.fR.fD,vi a.fL.fN,vi a.fL.fD,.func (.func f) #[] #[vq j,vq k],vs m d.length n]] w₀ fun e w'=>∃ s:Nat,e = .returned (.func (.func 201) #[] #[vp s])/\True/\Hp [] w₀ w' [stb s 231 [vs g b.length i,vi r.1,vi r.2.1,vi r.2.2.1,vi r.2.2.2,.func (.func f) #[] #[vq j,vq k],vs m d.length n]]:=by
 unfold jr at h
 refine L9 func164 ntmps164 ?_
 refine WC.b<|Ld (Lg 1 (xO (cs:=[vs g b.length i,vi a.fR.fN,vi a.fR.fD,vi a.fL.fN,vi a.fL.fD,.func (.func f) #[] #[vq j,vq k],vs m d.length n]) U U) fun t _=>Q1n U<|B0q<|Le 3 (wC<|L8 (l:=[.tmp 1])<|.cons U .nil)<|Q1n U<|WC.ret ?_)
 obtain rfl:=oJ h
 exact Li results164 (.tmp U .nil)<|fun w hw=>⟨t,xJ U,trivial,hw.sub (.cons .here .nil)⟩
def qj(a:z1):Option Int:=
 (vR a).bind fun c=>if !c then some 0 else chk ((a.fD:Int)≠0) (vk (fun(d:Int)=>some d) fun b=>chk ((a.fD:Int)≠0) (if decide ((Int.tmod a.fN a.fD)<0) then b (i64 ((i64 (Int.tdiv a.fN a.fD))-1)) else b (i64 (Int.tdiv a.fN a.fD))))
theorem rj(Z:Zp)(a:z1)(r:Int)(h:qj a=some r)(w₀:World)(hz:PZ [] w₀ Z):
  RC 83 #[.agg #[vi a.fN,vi a.fD]] w₀ (vi r) [] []:=by
 unfold qj at h
 refine L9 func83 ntmps83 ?_
 refine WC.b<|Ld (Lg 1 (xO (cs:=[vi a.fN,vi a.fD]) U U) fun k _=>Q1n U<|WC.b<|WC.b ?_)
 refine bK h fun l c h=>Ld<|Le 4 (xw zh U (xy .here) U)<|Lp 5 (zb call130<|.cons U .nil) .nil (cc hz .nil fun w pz ho=>ja _ _ _ c w pz )<|Q1n U<|Lk U h (fun d h=>?_)<|fun d h=>?_
 ·refine B1n U<|WC.ret<|Ll ?_
  obtain rfl:=oJ h
  exact Li results83 (.tmp U .nil)<|fun w hw=>⟨xJ U,hw.sub .nil⟩
 ·refine WC.skip<|Lb<|WC.b<|cK h fun e h=>Ld<|Le 7 (xk qO U U)<|Le 8 (xl xu U<|xt .here U)<|Le 9 (xk jq U U)<|Le 10 (xl xu U<|xt .here U)<|Le 11 (rM U U e U)<|Q1n U<|jK1 h fun j f h=>Ma (fun(b:Int)=>(j b=some r)) (fun b=>[(3,vi b)]) (fun b=>[]) ?_ ?_
  ·refine WC.b<|cK h fun g h=>Ld<|Le 12 (xk qO U U)<|Le 13 (xl xu U<|xt .here U)<|Le 14 (xk jq U U)<|Le 15 (xl xu U<|xt .here U)<|Le 16 (Xb U U g U)<|Q1n U<|Lk U h (fun i h=>?_)<|fun i h=>?_
   ·exact D3q U<|WL.nil<|Ln (i64 ((i64<|Int.tdiv a.fN a.fD)-1)) h (.cons U .nil) .nil
   ·exact WC.skip<|Ln (i64<|Int.tdiv a.fN a.fD) h (.cons U .nil) .nil
  ·rintro b h
   replace h:=(f b).symm.trans h
   refine B2n U<|WC.ret ?_
   obtain rfl:=oJ h
   exact Li results83 (.tmp U .nil)<|fun w hw=>⟨xJ U,hw.sub .nil⟩
def jP(a:z1):Option Int:=
 (vR a).bind fun b=>if !b then some 0 else(qj (⟨i64 (0-a.fN),a.fD⟩:z1)).bind fun c=>some (i64 (0-c))
theorem ap(Z:Zp)(a:z1)(r:Int)(h:jP a=some r)(w₀:World)(hz:PZ [] w₀ Z):
  RC 202 #[.agg #[vi a.fN,vi a.fD]] w₀ (vi r) [] []:=by
 unfold jP at h
 refine L9 func202 ntmps202 ?_
 refine WC.b<|Ld (Lg 1 (xO (cs:=[vi a.fN,vi a.fD]) U U) fun e _=>Q1n U<|WC.b<|WC.b ?_)
 refine bK h fun f b h=>Ld<|Le 3 (xw zh U (xy .here) U)<|Lp 4 (zb call130<|.cons U .nil) .nil (cc hz .nil fun w pz ho=>ja _ _ _ b w pz )<|Q1n U<|Lk U h (fun c h=>?_)<|fun c h=>?_
 ·refine B1n U<|WC.ret<|Ll ?_
  obtain rfl:=oJ h
  exact Li results202 (.tmp U .nil)<|fun w hw=>⟨xJ U,hw.sub .nil⟩
 ·refine WC.skip<|Lb<|WC.b<|bK h fun g d h=>Ld<|Le 6 (xk qO U U)<|Le 7 (xl xu U<|xt .here U)<|Le 8 (Xd U U)<|Le 9 (xk jq U U)<|Le 10 (xl xu U<|xt .here U)<|Le 11 (w3 (v:=(.agg #[(vi<|i64 (0-a.fN)),vi a.fD])) (Lq (l:=[.tmp 8,.tmp 10]) (.r2 U U) [0,1]) (fun _=>by kernel_rfl))<|Lp 12 (zb call83<|.cons U .nil) .nil (cc hz .nil fun w pz ho=>rj _ _ _ d w pz )<|Le 13 (Xd U U)<|Q1n U<|WC.ret ?_
  obtain rfl:=oJ h
  exact Li results202 (.tmp U .nil)<|fun w hw=>⟨xJ U,hw.sub .nil⟩
def wN(zM:Type)(b:List z1×Int)(z3k:z1->zM->Option (Bool×zM))(e:zM->Option zM):Nat->Int->zM->Option zM
 | 0,_,_=>none
 | h+1,a,f=>if decide (a<b.1.length) then chk (0<=a/\a<b.1.length) ((qj (⟨(nth b.1 a).fN,(nth b.1 a).fD⟩:z1)).bind fun i=>(qu i).bind fun j=>(z3k j f).bind fun c=>(if !c.1 then some (true,c.2) else(jP (⟨(nth b.1 a).fN,(nth b.1 a).fD⟩:z1)).bind fun k=>(qu k).bind fun l=>(z3k l c.2).bind fun g=>some (!g.1,g.2)).bind fun d=>if d.1 then some d.2 else wN zM b z3k e h (i64 (a+1)) d.2) else e f
theorem sZ{n:Nat}{zM:Type}{a:List z1×Int}{z3k:z1->zM->Option (Bool×zM)}{b:zM->Option zM}{c:zM}{r:zM}(h:wN zM a z3k b n g c=some r):∃ m,n=m+1:=by
 cases n with
 | zero=>cases h
 | succ m=>exact⟨m,rfl⟩
def wO(zM:Type)(z42:List (List z6))(z3k:z1->zM->Option (Bool×zM))(b:zM->Option zM):Nat->Int->zM->Option zM
 | 0,_,_=>none
 | d+1,a,c=>if decide (a<z42.length) then vk (fun(e:zM)=>wO zM z42 z3k b d (i64 (a+1)) e) fun f=>chk (0<=a/\a<z42.length) ((qV (nth z42 a)).bind fun g=>vk (fun(h:zM)=>f h) fun i=>wN zM g z3k i xC 0 c) else b c
theorem ra{n:Nat}{zM:Type}{z42:List (List z6)}{z3k:z1->zM->Option (Bool×zM)}{a:zM->Option zM}{b:zM}{r:zM}(h:wO zM z42 z3k a n g b=some r):∃ m,n=m+1:=by
 cases n with
 | zero=>cases h
 | succ m=>exact⟨m,rfl⟩
def wP(zM:Type)(z4l:List z1)(z3k:z1->zM->Option (Bool×zM))(d:zM->Option zM):Nat->Int->zM->Option zM
 | 0,_,_=>none
 | g+1,a,e=>if decide (a<z4l.length) then chk (0<=a/\a<z4l.length) ((qj (⟨(nth z4l a).fN,(nth z4l a).fD⟩:z1)).bind fun h=>(qu h).bind fun i=>(z3k i e).bind fun b=>(if !b.1 then some (true,b.2) else(jP (⟨(nth z4l a).fN,(nth z4l a).fD⟩:z1)).bind fun j=>(qu j).bind fun k=>(z3k k b.2).bind fun f=>some (!f.1,f.2)).bind fun c=>if c.1 then some c.2 else wP zM z4l z3k d g (i64 (a+1)) c.2) else d e
theorem rb{n:Nat}{zM:Type}{z4l:List z1}{z3k:z1->zM->Option (Bool×zM)}{a:zM->Option zM}{b:zM}{r:zM}(h:wP zM z4l z3k a n g b=some r):∃ m,n=m+1:=by
 cases n with
 | zero=>cases h
 | succ m=>exact⟨m,rfl⟩
def vD(zM:Type)(z3k:z1->zM->Option (Bool×zM))(zal:zM)(z42:List (List z6))(zkt:yl)(zq9:List (List z6))(zku:yl)(z4l:List z1):Option zM:=
 (kV).bind fun b=>(z3k b zal).bind fun a=>if !a.1 then some a.2 else vk (fun(c:zM)=>vk (fun(d:zM)=>some d) fun e=>wP zM z4l z3k e xC 0 c) fun f=>wO zM z42 z3k f xC 0 a.2
theorem tJ(Z:Zp)(zM:Type)(zbb:Nat)(z5K:Type)(z3u:z5K->zM->Asrt)(z9q:z5K->zM->Prop)(zdC:z5K)(zdD:Addr)(zgo:Option Addr)(zgp:Nat)(zyK:Addr)(zyL:Option Addr)(zyM:Nat)(zyN:Addr)(zqa:Option Addr)(zqb:Nat)(z3k:z1->zM->Option (Bool×zM))(zal:zM)(z42:List (List z6))(zkt:yl)(zq9:List (List z6))(zku:yl)(z4l:List z1)(r:zM)(w₀:World)(hz:Pz [z3u zdC zal] w₀ Z)(X:df Tryz.prog Z zbb (α:=z1) (σ:=zM) (G:=z5K) (H:=Unit) (fun h x=>[.agg #[vi x.fN,vi x.fD]]) (fun h x=>[]) z3k z3u z9q)(aI:z9q zdC zal)(aJ:ZS Z 1 (j9 Z) zgo zgp z42)(bB:ZS Z 1 (j9 Z) zyL zyM zq9)(bC:ZC Z zyK [vs zyL zq9.length zyM])(bD:ZC Z zyN [vi zku.fR.fN,vi zku.fR.fD,vi zku.fL.fN,vi zku.fL.fD])(aK:ZS Z 2 (rq xL) zqa zqb z4l)(ai:ZC Z zdD [vs zgo z42.length zgp,vi zkt.fR.fN,vi zkt.fR.fD,vi zkt.fL.fN,vi zkt.fL.fD,.func (.func f) #[] #[vq zyK,vq zyN],vs zqa z4l.length zqb])(h:vD zM z3k zal z42 zkt zq9 zku z4l=some r)(iq:Ho w₀ [z3u zdC zal]):
  Calls Tryz.prog 201 #[.func (.yield zbb) #[] #[],vq zdD] w₀ fun e w'=>∃ aj:z5K,e = .returned (.tuple #[])/\(z9q aj r)/\Hp (fps [z3u zdC zal]) w₀ w' [z3u aj r]:=by
 unfold vD at h
 refine Mf func201 ntmps201 iq ?_
 refine WC.b<|WC.b<|bK h fun bp aL h=>bK h fun af aM h=>D1q U<|Lp 12 (zb call161 .nil) .nil (cc hz .nil fun w pz ho=>uq _ _ aL w pz ) (WL.yield (dd:=13) (x:=bp) (h:=()) (g:=zdC) (s:=zal) (b:=af.1) (s':=af.2) X U U U (.cons U .nil) ((.cons .here .nil):Sel _ [z3u zdC zal] _) aM aI (fun w hw=>hz.call hw ((.cons .here .nil):Sel _ [z3u zdC zal] _)) fun ak al=>Q1n U<|Lk U h (fun aN h=>?_)<|fun aN h=>?_)
 ·refine WC.ret<|Ll ?_
  obtain rfl:=oJ h
  exact Li results201 .nil<|fun w hw=>⟨ak,pp,al,hw.sub (.cons .here .nil)⟩
 ·refine WC.skip<|Lb ?_
  obtain⟨am,aO,h⟩:=xS h
  let A:Value:=(.func (.yield zbb) #[] #[]);refine WC.jO (fun(u:zM) (N:z5K)=>(am u=some r)/\(z9q N u)) (fun u N=>[(0,A),(1,vq zdD)]) (fun u N=>[z3u N u]) ?_ ?_
  ·let C:Value:=(vs zgo z42.length zgp);let D:Value:=(vi (z42.length:Int));refine B0q<|Le 15 (xk cN U U)<|Le 16 (xl zj9 U<|xM hz.pv ai U)<|Le 17 (xK underlying171 U)<|Q1n U<|WC.block<|WC.fj (fun(O:Nat) (c:Int) (p:zM) (v:z5K)=>(wO zM z42 z3k am O c p=some r)/\(z9q v p)) (fun O c p v=>[(0,A),(1,vq zdD),(16,C),(17,D),(18,vi c)]) (fun O c p v=>[z3u v p]) (fun O c p v=>O) ⟨xC,0,af.2,ak⟩ ⟨h,al⟩ (.q U) (.cons .here .nil) ?_
   rintro O c p v ⟨h,an⟩
   obtain⟨bq,rfl⟩:=ra h
   rw[wO] at h
   refine B1n U<|WC.b<|Lk U h (fun aP h=>?_)<|fun aP h=>?_
   ·refine WC.skip<|Lb<|jK1 h fun br aQ h=>WC.jO (fun(y:zM) (P:z5K)=>(br y=some r)/\(z9q P y)) (fun y P=>[(0,A),(1,vq zdD),(16,C),(17,D),(18,vi c)]) (fun y P=>[z3u P y]) ?_ ?_
    ·refine WC.block<|WC.b<|cK h fun aR h=>Ld<|L0 (dd:=20) U U (Z:=Z) (Pr:=(j9 Z)) zf8 U U aJ aR ?_
     rintro bE bF aS bG ⟨bH,bI,rfl,aT⟩
     refine Le 21 (xl zod U<|q9 hz.pv aS U)<|Q1n U<|WC.b<|bK h fun k aU h=>D1q U<|WL.jk (dd:=24) U U U (zb call199<|.cons U .nil) .nil (cc hz .nil fun w pz ho=>iW _ _ _ _ _ aU w pz aT) ?_
     rintro bs ao _
     refine Q5n U<|B1q U<|Le 28 (xK underlying229 U)<|Q1n U<|jK1 h fun aq aV h=>WC.iO (fun(z:zM) (Q:z5K)=>(aq z=some r)/\(z9q Q z)) (fun z Q=>[(0,A),(1,vq zdD),(16,C),(17,D),(18,vi c)]) (fun z Q=>[z3u Q z]) ?_ ?_
     ·let F:=(k.1.length:Int);let I:Value:=(vs bs k.1.length ao);refine WC.block<|WC.fj (fun(R:Nat) (a:Int) (d:zM) (m:z5K)=>(wN zM k z3k aq R a d=some r)/\(z9q m d)) (fun R a d m=>[(0,A),(1,vq zdD),(16,C),(17,D),(18,vi c),(27,I),(28,vi F),(29,vi a)]) (fun R a d m=>[row I 175 2 (k.1.flatMap xL),z3u m d]) (fun R a d m=>R) ⟨xC,0,p,v⟩ ⟨h,an⟩ (.q U) (.a2) ?_
      rintro R a d m ⟨h,ar⟩
      obtain⟨bt,rfl⟩:=sZ h
      rw[wN] at h
      refine B1n U<|WC.b<|Lk U h (fun aW h=>?_)<|fun aW h=>?_
      ·refine WC.skip<|Lb<|WC.b<|WC.block<|WC.b<|cK h fun Y h=>Ld<|WL.know (fun w hw=>Hp.vB .here hw (by intro iT;have:=Y;rw[iT] at this;omega)) ?_
       rintro⟨bu,rfl⟩
       refine Le 31 (w7 z3L U U Y.1 Y.2 vN)<|Le 32 (wu (cs:=(xL<|nth k.1 a)) zh U U<|g5 .here<|vt (enc:=xL) (l:=k.1) (i:=a) (sz:=2) (fun _=>U) Y.1 Y.2) (Lg 8 (xG (cs:=[vi 0,vi 0]) z1y U) fun aX _=>Lo U U (xz zX U U U .here U U U)<|Q0n<|WC.b ?_)
       refine bK h fun bN aY h=>bK h fun bv aZ h=>bK h fun S a0 h=>bK h fun aa au h=>D1q U<|Le 34 (xw zh U (xy .here) U)<|Lp 35 (zb call83<|.cons U .nil) .nil (cc hz .nil fun w pz ho=>rj _ _ _ aY w pz )<|Lp 36 (zb call191<|.cons U .nil) .nil (cc hz .nil fun w pz ho=>mH _ _ _ aZ w pz )<|WL.yield (dd:=37) (x:=bv) (h:=()) (g:=m) (s:=d) (b:=S.1) (s':=S.2) X U U U (.cons U .nil) ((.cons .h2 .nil):Sel _ [z3u m d] _) a0 ar (fun w hw=>hz.call hw ((.cons .h2 .nil):Sel _ [z3u m d] _)) ?_
       intro ab av
       let E:Value:=(vs (some ⟨bu,0,none⟩) k.1.length ao);refine Q2q U<|WL.cut1 (fun(B:z5K)=>z9q B aa.2) (fun(B:z5K)=>[(0,A),(1,vq zdD),(16,C),(17,D),(18,vi c),(27,E),(28,vi F),(29,vi a),(46,.bool aa.1)]) (fun(B:z5K)=>[z3u B aa.2,stb aX 175 [(vi<|(nth k.1 a).fN),(vi<|(nth k.1 a).fD)],row E 175 2 (k.1.flatMap xL)]) 7 ?_<|fun B aw=>?_
       ·rcases Bool.eq_false_or_eq_true (!S.1) with hb' | hb'
        ·have ax:=hb';clear hb'
         have ag:=q7 au ax
         replace ag:=oJ ag
         refine WL.pin (i:=39) U ax<|WL.e U U U<|WL.e U U U<|WL.e U U U<|WL.e U U U<|WL.e U U U<|WL.e U U U<|La U ?_
         subst ag
         exact WL.lT ab av (.q U)<|.a3
        ·have ay:=hb';clear hb'
         have q:=q8 au ay
         obtain⟨bO,a1,q⟩:=z8 q
         obtain⟨bw,a2,q⟩:=z8 q
         obtain⟨az,a3,q⟩:=z8 q
         replace q:=oJ q
         refine WL.pin (i:=39) U ay<|La U<|Le 41 (xw zh U (xy .h1) U)<|Lp 42 (zb call202<|.cons U .nil) .nil (cc hz .nil fun w pz ho=>ap _ _ _ a1 w pz )<|Lp 43 (zb call191<|.cons U .nil) .nil (cc hz .nil fun w pz ho=>mH _ _ _ a2 w pz ) (WL.yield (dd:=44) (x:=bw) (h:=()) (g:=ab) (s:=S.2) (b:=az.1) (s':=az.2) X U U U (.cons U .nil) ((.cons .here .nil):Sel _ [z3u ab S.2] _) a3 av (fun w hw=>hz.call hw ((.cons .here .nil):Sel _ [z3u ab S.2] _)) fun a4 a5=>La U<|La U ?_)
         subst q
         exact WL.lT a4 a5 (.q U)<|.a3
       ·refine Q0n<|Lk U h (fun a6 h=>?_)<|fun a6 h=>?_
        ·refine WC.ret<|Lu<|Ll<|Ll<|Lu<|Ll<|Lu<|Ll<|Ll<|Lu<|Ll ?_
         obtain rfl:=oJ h
         exact Li results201 .nil<|fun w hw=>⟨B,pp,aw,hw.sub (.cons .here .nil)⟩
        ·exact WC.skip<|Lt<|Lb<|D2q U<|WL.nil<|WX.round ⟨bt,i64 (a+1),aa.2,B⟩ ⟨h,aw⟩ (Nat.lt_succ_self _) (.q U)<|.s2 .h2 .here
      ·exact WC.exit<|Lm<|Lm<|Lv<|Ln ⟨d,m⟩ ⟨h,ar⟩ (.q U)<|.cons .h1 .nil
     ·rintro z Q ⟨h,a7⟩
      replace h:=(aV z).symm.trans h
      exact Lt<|Ln ⟨z,Q⟩ ⟨h,a7⟩ (.q U)<|.cons .here .nil
    ·rintro y P ⟨h,a8⟩
     replace h:=(aQ y).symm.trans h
     exact D2q U<|WL.nil<|WX.round ⟨bq,i64 (c+1),y,P⟩ ⟨h,a8⟩ (Nat.lt_succ_self _) (.q U)<|.cons .here .nil
   ·exact WC.exit<|Lm<|Lm<|Lv<|Ln ⟨p,v⟩ ⟨h,an⟩ (.q U)<|.cons .here .nil
  ·rintro u N ⟨h,a9⟩
   replace h:=(aO u).symm.trans h
   refine B0q<|Le 49 (xk K9 U U)<|Le 50 (xl zd7 U<|xM hz.pv ai U)<|Le 51 (xK underlying229 U)<|Q1n U<|jK1 h fun aA ba h=>WC.iO (fun(L:zM) (T:z5K)=>(aA L=some r)/\(z9q T L)) (fun L T=>[]) (fun L T=>[z3u T L]) ?_ ?_
   ·let J:Value:=(vs zqa z4l.length zqb);let K:Value:=(vi (z4l.length:Int));refine WC.block<|WC.fj (fun(V:Nat) (n:Int) (j:zM) (o:z5K)=>(wP zM z4l z3k aA V n j=some r)/\(z9q o j)) (fun V n j o=>[(0,A),(50,J),(51,K),(52,vi n)]) (fun V n j o=>[z3u o j]) (fun V n j o=>V) ⟨xC,0,u,N⟩ ⟨h,a9⟩ (.q U) (.cons .here .nil) ?_
    rintro V n j o ⟨h,aB⟩
    obtain⟨bx,rfl⟩:=rb h
    rw[wP] at h
    refine B1n U<|WC.b<|Lk U h (fun bb h=>?_)<|fun bb h=>?_
    ·refine WC.skip<|Lb<|WC.b<|WC.block<|WC.b<|cK h fun bc h=>Ld<|L0 (dd:=54) U U (Z:=Z) (Pr:=(rq xL)) z3L U U aK bc ?_
     rintro bJ bL bd bM rfl
     refine Le 55 (xw zh U (vQ hz.pv bd) U) (Lg 10 (xG (cs:=[vi 0,vi 0]) z1y U) fun be _=>Lo U U (xz zX U U U .here U U U)<|Q0n<|WC.b ?_)
     refine bK h fun bP bf h=>bK h fun bz bg h=>bK h fun W bh h=>bK h fun ad aC h=>D1q U<|Le 57 (xw zh U (xy .here) U)<|Lp 58 (zb call83<|.cons U .nil) .nil (cc hz .nil fun w pz ho=>rj _ _ _ bf w pz )<|Lp 59 (zb call191<|.cons U .nil) .nil (cc hz .nil fun w pz ho=>mH _ _ _ bg w pz ) (WL.yield (dd:=60) (x:=bz) (h:=()) (g:=o) (s:=j) (b:=W.1) (s':=W.2) X U U U (.cons U .nil) ((.cons .h1 .nil):Sel _ [z3u o j] _) bh aB (fun w hw=>hz.call hw ((.cons .h1 .nil):Sel _ [z3u o j] _)) fun ae aD=>Q2q U<|WL.cut1 (fun(M:z5K)=>z9q M ad.2) (fun(M:z5K)=>[(0,A),(50,J),(51,K),(52,vi n),(69,.bool ad.1)]) (fun(M:z5K)=>[z3u M ad.2,stb be 175 [(vi<|(nth z4l n).fN),(vi<|(nth z4l n).fD)]]) 7 ?_<|fun M aE=>?_)
     ·rcases Bool.eq_false_or_eq_true (!W.1) with hb' | hb'
      ·have aF:=hb';clear hb'
       have ah:=q7 aC aF
       replace ah:=oJ ah
       refine WL.pin (i:=62) U aF<|WL.e U U U<|WL.e U U U<|WL.e U U U<|WL.e U U U<|WL.e U U U<|WL.e U U U<|La U ?_
       subst ah
       exact WL.lT ae aD (.q U)<|.a2
      ·have aG:=hb';clear hb'
       have t:=q8 aC aG
       obtain⟨bQ,bi,t⟩:=z8 t
       obtain⟨bA,bj,t⟩:=z8 t
       obtain⟨aH,bk,t⟩:=z8 t
       replace t:=oJ t
       refine WL.pin (i:=62) U aG<|La U<|Le 64 (xw zh U (xy .h1) U)<|Lp 65 (zb call202<|.cons U .nil) .nil (cc hz .nil fun w pz ho=>ap _ _ _ bi w pz )<|Lp 66 (zb call191<|.cons U .nil) .nil (cc hz .nil fun w pz ho=>mH _ _ _ bj w pz ) (WL.yield (dd:=67) (x:=bA) (h:=()) (g:=ae) (s:=W.2) (b:=aH.1) (s':=aH.2) X U U U (.cons U .nil) ((.cons .here .nil):Sel _ [z3u ae W.2] _) bk aD (fun w hw=>hz.call hw ((.cons .here .nil):Sel _ [z3u ae W.2] _)) fun bl bm=>La U<|La U ?_)
       subst t
       exact WL.lT bl bm (.q U)<|.a2
     ·refine Q0n<|Lk U h (fun bn h=>?_)<|fun bn h=>?_
      ·refine WC.ret<|Lu<|Ll<|Ll<|Lu<|Ll ?_
       obtain rfl:=oJ h
       exact Li results201 .nil<|fun w hw=>⟨M,pp,aE,hw.sub (.cons .here .nil)⟩
      ·exact WC.skip<|Lt<|Lb<|D2q U<|WL.nil<|WX.round ⟨bx,i64 (n+1),ad.2,M⟩ ⟨h,aE⟩ (Nat.lt_succ_self _) (.q U)<|.cons .here .nil
    ·exact WC.exit<|Lm<|Lm<|Lv<|Ln ⟨j,o⟩ ⟨h,aB⟩ .nil<|.cons .here .nil
   ·rintro L T ⟨h,bo⟩
    replace h:=(ba L).symm.trans h
    obtain rfl:=oJ h
    exact WX.my results201 .nil<|fun w hw=>⟨T,pp,bo,hw.sub (.cons .here .nil)⟩
def qk(d:yk)(a:z6)(e:z1):Option (z1×yk):=
 (vW d (fun(y0:z1) (y1:z1)=>kd y0 y1) a.fR e).bind fun b=>(vW b.2 (fun(y0:z1) (y1:z1)=>vb y0 y1) a.yg b.1).bind fun c=>some (c.1,c.2)
theorem dx(Z:Zp)(b:Nat)(d:yk)(a:z6)(c:z1)(r:z1×yk)(h:qk d a c=some r)(w₀:World)(hz:Pz [stb b 307 [vi d.fE]] w₀ Z)(iq:Ho w₀ [stb b 307 [vi d.fE]]):
  RF 194 #[vp b,.agg #[vi a.yg.fN,vi a.yg.fD,vi a.fR.fN,vi a.fR.fD],.agg #[vi c.fN,vi c.fD]] w₀ (.agg #[vi r.1.fN,vi r.1.fD]) [stb b 307 [vi d.fE]] [stb b 307 [vi r.2.fE]]:=by
 unfold qk at h
 refine Calls.oh3 func194 ntmps194 iq ?_
 refine WC.b<|Ld (Lg 4 (xO (cs:=[vi a.yg.fN,vi a.yg.fD,vi a.fR.fN,vi a.fR.fD]) U U) fun e _=>Lg 5 (xO (cs:=[vi c.fN,vi c.fD]) U U) fun j _=>Lg 6 (xG (cs:=[vi 0,vi 0]) z1y U) fun k _=>Q0n<|WC.b ?_)
 refine bK h fun l f h=>bK h fun m g h=>Lz (fun i=>[7,8,9].contains i) [sq e 225 [(0,vi a.yg.fN),(1,vi a.yg.fD)]] U<|Lf 0 7 U (q_m U)<|Lf 1 8 U (xk ml U U)<|Mb 2 9 U (wB.wk (.cons .h2 .nil)<|.stb (.cons U<|.cons U .nil) .nil) (wu (cs:=[vi a.yg.fN,vi a.yg.fD]) zh U U<|cL .here (.head _)<|(.tail _<|.head _))<|Lf 3 10 U (q_m U)<|Lf 4 11 U (xk uA U U)<|Lh 5 12 U (wu (cs:=[vi a.fR.fN,vi a.fR.fD]) zh U U<|g7 (s:=2) .h2 U)<|Lh 6 13 U (xw zh U (xy .h1) U) (WD.call0 (i:=7) (dd:=14) U (by kernel_rfl) U U U (.inl ⟨U,(wB.wk (.cons .h3 .nil)<|.stb (.cons U<|.cons U .nil) .nil)⟩) (zb call210<|.r4 U U U U) (.cons .h3 .nil) (cc hz (.cons .h3 .nil) fun w pz ho=>Calls.mono (ur _ _ (zdt:=120) (zkb:=[]) _ (zg8:=(fun(y0:z1) (y1:z1)=>kd y0 y1)) _ _ _ f w pz call120 (fun w' iT y0 y1  r  hr=>dw _ _ _ _ hr w' iT ) ho)<|fun _ _ h'=>⟨h'.1,trivial,h'.2⟩) fun _=>WD.call0 (i:=8) (dd:=15) U (by kernel_rfl) U U U (.inl ⟨U,(wB.wk (.cons .h3 .nil)<|.stb (.cons U<|.cons U .nil) .nil)⟩) (zb call210<|.r4 U U U U) (.cons .here .nil) (cc hz (.cons .here .nil) fun w pz ho=>Calls.mono (ur _ _ (zdt:=119) (zkb:=[]) _ (zg8:=(fun(y0:z1) (y1:z1)=>vb y0 y1)) _ _ _ g w pz call119 (fun w' iT y0 y1  r  hr=>sv _ _ _ _ hr w' iT ) ho)<|fun _ _ h'=>⟨h'.1,trivial,h'.2⟩) fun _=>WD.jD (i:=9) U (by kernel_rfl) U U U (by kernel_rfl) (xz zX U U U .h1 U U U)<|WD.done (by kernel_rfl)<|Lb<|WC.ret ?_)
 obtain rfl:=oJ h
 exact Li results194 (.agg U zh U (xy .here) .nil)<|fun w hw=>⟨xJ U,hw.sub (.cons .h1 .nil)⟩
def wU(b:List z1)(zcq:z1->z1->Option Int)(e:Int->Int->Option z1):Nat->Int->Int->Int->Option z1
 | 0,_,_,_=>none
 | g+1,a,c,d=>if decide (a<b.length) then tZ (fun(h:Int) (i:Int)=>wU b zcq e g (i64 (a+1)) h i) fun f=>chk (0<=a/\a<b.length) ((zcq (⟨(nth b a).fN,(nth b a).fD⟩:z1) (⟨c,d⟩:z1)).bind fun j=>if decide (j<0) then chk (0<=a/\a<b.length) (f ((nth b a).fN) ((nth b a).fD)) else f c d) else e c d
def qw(a:List z1)(zcq:z1->z1->Option Int):Option z1:=
 if decide ((a.length:Int)<1) then none else chk ((0:Int)<=0/\0<(a.length:Int)) (tZ (fun(b:Int) (c:Int)=>some (⟨b,c⟩:z1)) fun d=>wU a zcq d xC 1 ((nth a 0).fN) ((nth a 0).fD))
theorem rB(Z:Zp)(q:Option Addr)(s:Nat)(zky:FuncId)(zqk:List Value)(b:List z1)(zcq:z1->z1->Option Int)(r:z1)(h:qw b zcq=some r)(w₀:World)(hz:PZ [] w₀ Z)(t:ZS Z 2 (rq xL) q s b)(v:∀ args w,(callFunc zky args).run Tryz.prog w = .ok (.enter zky args) w)(x:∀ w:World,PZ [] w Z->∀(x0:z1) (x1:z1) (r:Int),zcq x0 x1=some r->Calls Tryz.prog zky (([.agg #[vi x0.fN,vi x0.fD],.agg #[vi x1.fN,vi x1.fD]]:List Value)++zqk).toArray w fun e w'=>e = .returned (vi r)/\Hp [] w w' []):
  RC 195 #[vs q b.length s,.func (.func zky) #[] (zqk).toArray] w₀ (.agg #[vi r.fN,vi r.fD]) [] []:=by
 unfold qw at h
 refine L3 func195 ntmps195 ?_
 refine WC.b<|Ld (Lg 4 (xG (cs:=[vi 0,vi 0]) z1y U) fun k _=>Q0n<|WC.b<|B1q U<|Le 8 (xK underlying229 U)<|Q1n U<|Lk U h (fun y h=>?_)<|fun y h=>?_)
 ·cases h
 ·refine WC.skip<|Lb<|WC.b<|cK h fun z h=>D1q U<|L0 (dd:=12) U U (Z:=Z) (Pr:=(rq xL)) z3L U U t z ?_
  rintro P Q B R rfl
  refine Le 13 (xw zh U (vQ hz.pv B) U) (Lg 5 (xG (cs:=[vi 0,vi 0]) z1y U) fun m _=>Lo U U (xz zX U U U .here U U U)<|Q0n ?_)
  refine jK2 h fun u D h=>WC.jO (fun(n:Int) (o:Int)=>(u n o=some r)) (fun n o=>[(4,vp k),(5,vp m)]) (fun n o=>[stb k 175 [vi 0,vi 0],stb m 175 [vi n,vi o]]) ?_ ?_
  ·let A:Value:=(.func (.func zky) #[] (zqk).toArray);let C:Value:=(vs q b.length s);refine B1n U<|WC.block<|WC.fj (fun(p:Nat) (a:Int) (c:Int) (d:Int)=>(wU b zcq u p a c d=some r)) (fun p a c d=>[(0,C),(1,A),(4,vp k),(5,vp m),(6,vi a)]) (fun p a c d=>[stb k 175 [vi 0,vi 0],stb m 175 [vi c,vi d]]) (fun p a c d=>p) ⟨xC,1,(nth b 0).fN,(nth b 0).fD⟩ h (.q U) (.s2 .h1 .here) ?_
   rintro(_|M) a c d h;·cases h
   rw[wU] at h
   refine WC.b<|B2q U<|Le 16 (xK underlying229 U)<|Q1n U<|Lk U h (fun E h=>?_)<|fun E h=>?_
   ·refine WC.skip<|Lb<|jK2 h fun N F h=>WC.jO (fun(g:Int) (i:Int)=>(N g i=some r)) (fun g i=>[(0,C),(1,A),(4,vp k),(5,vp m),(6,vi a)]) (fun g i=>[stb k 175 [vi 0,vi 0],stb m 175 [vi g,vi i]]) ?_ ?_
    ·refine WC.block<|WC.b<|cK h fun G h=>bK h fun O H h=>Lz nc [] U<|Lf 0 20 U (q_m U)<|Lf 1 21 U (q_m U)<|Lf 2 22 U (q_m U)<|L2 (j:=3) (dd:=23) (by kernel_rfl) U zO zP U U (Z:=Z) (Pr:=(rq xL)) z3L U U t G ?_
     rintro S T I V rfl
     refine Lh 4 24 U (xw zh U (vQ hz.pv I) U)<|Lh 5 25 U (xw zh U (xy .h1) U)<|L5 6 26 U (qW (l:=[.tmp 24,.tmp 25]) (f:=zky) (caps:=zqk) v U<|.r2 U U) (fun w hw=>x w (hz.now hw) (⟨(nth b a).fN,(nth b a).fD⟩:z1) (⟨c,d⟩:z1) O  H)<|Lf 7 27 U (lR U U)<|WD.done (by kernel_rfl)<|Lb<|Lk U h (fun J h=>?_)<|fun J h=>?_
     ·refine cK h fun K h=>D2q U<|L0 (dd:=30) U U (Z:=Z) (Pr:=(rq xL)) z3L U U t K ?_
      rintro W X L Y rfl
      exact Le 31 (xw zh U (vQ hz.pv L) U)<|Lo U U (xz zX U U U .h1 U U U)<|WL.nil<|Lt<|Ln ⟨(nth b a).fN,(nth b a).fD⟩ h (.q U)<|.s2 .h1 .here
     ·exact WC.skip<|Lt<|Ln ⟨c,d⟩ h (.q U)<|.a2
    ·rintro g i h
     replace h:=(F g i).symm.trans h
     exact D3q U<|WL.nil<|WX.round ⟨M,i64 (a+1),g,i⟩ h (Nat.lt_succ_self _) (.q U)<|.a2
   ·exact WC.exit<|Lm<|Lm<|Lv<|Ln ⟨c,d⟩ h (.q U)<|.a2
  ·rintro n o h
   replace h:=(D n o).symm.trans h
   refine B0q<|Le 32 (xw zh U (xy .h1) U)<|Lo U U (xz zX U U U .here U U U)<|Q0n<|WC.ret ?_
   obtain rfl:=oJ h
   exact Li results195 (.agg U zh U (xy .here) .nil)<|fun w hw=>⟨xJ U,hw.sub .nil⟩
def jK(b:List z6)(e:z1)(f:(List z1)->Int->Option (z1×Int)):Nat->(List z1)->Int->Int->Option (z1×Int)
 | 0,_,_,_=>none
 | h+1,c,a,g=>if decide (a<b.length) then chk (0<=a/\a<b.length) ((qk (⟨g⟩:yk) (⟨(⟨((nth b a).yg).fN,((nth b a).yg).fD⟩:z1),(⟨((nth b a).fR).fN,((nth b a).fR).fD⟩:z1)⟩:z6) e).bind fun d=>chk (((c++([d.1]:List z1)).length:Int)*16<=140737488355328/\((c++([d.1]:List z1)).length:Int)<=4611686018427387904) (jK b e f h (c++([d.1]:List z1)) (i64 (a+1)) d.2.fE)) else f c g
def fw(a:List z6)(b:z1):Option (z1×Int):=
 (f8 a).bind fun d=>(if !d then some true else(mF b).bind fun e=>some (!e)).bind fun f=>if f then some ((⟨0,0⟩:z1),2) else tZ (fun(g:List z1) (c:Int)=>if decide (c≠0) then some ((⟨0,0⟩:z1),c) else(qw g (fun(y0:z1) (y1:z1)=>vh y0 y1)).bind fun h=>some (h,0)) fun i=>jK a b i xC ([]:List z1) 0 0
theorem Qs(Z:Zp)(u:Option Addr)(x:Nat)(k:List z6)(b:z1)(r:z1×Int)(h:fw k b=some r)(w₀:World)(hz:PZ [] w₀ Z)(y:ZS Z 4 (rq vF) u x k):
  RC 162 #[vs u k.length x,.agg #[vi b.fN,vi b.fD]] w₀ (.tuple #[.agg #[vi r.1.fN,vi r.1.fD],vi r.2]) [] []:=by
 unfold fw at h
 refine L3 func162 ntmps162 ?_
 refine WC.b<|Ld (Lg 3 (xO (cs:=[vi b.fN,vi b.fD]) U U) fun z _=>Lg 4 (xG (cs:=[vi 0,vi 0]) z1y U) fun s _=>Q1n U<|WC.b<|WC.b ?_)
 refine bK h fun aa D h=>bK h fun R A h=>D1q U<|Lp 11 (zb call192<|.cons U .nil) .nil (cc hz .nil fun w pz ho=>rp _ _ _ _ _ D w pz y)<|Q2q U<|Lx false 3 13 (B:=R) U U U U U U (fun h=>(oJ<|q7 A h).symm) (fun _ E=>?_) ?_
 ·have m:=q8 A E
  obtain⟨ab,F,m⟩:=z8 m
  replace m:=oJ m
  exact Le 14 (xw zh U (xy .h1) U)<|Lp 15 (zb call193<|.cons U .nil) .nil (cc hz .nil fun w pz ho=>lp _ _ _ F w pz )<|Q2q U<|Ly m U U .all
 refine Q0n<|Lk U h (fun G h=>?_)<|fun G h=>?_
 ·refine B0q<|Le 18 (w3 (v:=(.agg #[vi 0,vi 0])) (Lq (l:=[]) .nil []) (fun _=>by kernel_rfl))<|Lo U U (xz zX U U U .here U U U)<|Q1n U<|WC.ret<|Ll ?_
  obtain rfl:=oJ h
  exact Li results162 (.agg U zh U (xy .here)<|.tmp U .nil)<|fun w hw=>⟨wV U U,hw.sub .nil⟩
 ·refine WC.skip<|Lb<|WC.b<|Ld (Lg 6 (xG (cs:=[vi 0]) zMt U) fun n _=>Q0n<|B1n U ?_)
  refine jK2 h fun C H h=>WC.tm (fun(c:List z1) (d:Int) (o:Option Addr) (p:Nat)=>(C c d=some r)) (fun c d o p=>[(4,vp s),(6,vp n),(7,vs o c.length p)]) (fun c d o p=>[row (vs o c.length p) 175 2 (c.flatMap xL),stb s 175 [vi 0,vi 0],stb n 307 [vi d]]) ?_ ?_
  ·refine B1q U<|Le 20 (xK underlying227 U)<|Q1n U<|WC.block<|WC.nilRow 175 2<|WC.rx (fun(q:Nat) (a:List z1) (e:Int) (f:Int) (g:Option Addr) (j:Nat)=>(jK k b C q a e f=some r)) (fun q a e f g j=>[(3,vp z),(4,vp s),(6,vp n),(7,vs g a.length j),(19,vs u k.length x),(20,vi (k.length:Int)),(21,vi e)]) (fun q a e f g j=>[row (vs g a.length j) 175 2 (a.flatMap xL),stb z 175 [vi b.fN,vi b.fD],stb s 175 [vi 0,vi 0],stb n 307 [vi f]]) (fun q a e f g j=>q) ⟨xC,([]:List z1),0,0,none,0⟩ h (.q U) (.s4 .here .h2 .h1 .here) ?_
   rintro(_|S) a e f g j h;·cases h
   rw[jK] at h
   refine B1n U<|WC.b<|Lk U h (fun I h=>?_)<|fun I h=>?_
   ·refine WC.skip<|Lb<|WC.b<|WC.block<|WC.b<|cK h fun J h=>Ld<|L0 (dd:=23) U U (Z:=Z) (Pr:=(rq vF)) za5 U U y J ?_
    rintro T V K W rfl
    refine Le 24 (xw z4c U (vQ hz.pv K) U) (Lg 9 (xG (cs:=[vi 0,vi 0,vi 0,vi 0]) zf9 U) fun X _=>Lo U U (xz zd6 U U U .here U U U)<|Q0n ?_)
    refine bK h fun t L h=>cK h fun M h=>D1q U<|Le 26 (xw z4c U (xy .here) U)<|Le 27 (xw zh U (xy .h2) U)<|Lp 28 (zb call194<|.r3 U U U) (.cons .h4 .nil) (cc hz (.cons .h4 .nil) fun w pz ho=>dx _ _ _ _ _ _ L w pz  ho) (Lg 29 (xU (cs:=([t.1]:List z1).flatMap xL) z3L (Lq (l:=[.tmp 28]) (.cons U .nil) [0]) (fun _=>by kernel_rfl) U (by unfold maxLen;omega)) fun Y _=>WL.fA 30 (vT (enc:=xL) (l1:=a) (l2:=([t.1]:List z1)) z3L U U .h3 (fun _=>U) U U (vL .here) (qR ez _) M) ?_)
    rintro⟨N,O⟩ _
    exact La U<|WL.nil<|Lt<|Lb<|D2q U<|WL.nil<|WX.round ⟨S,a++([t.1]:List z1),i64 (e+1),t.2.fE,N,O⟩ h (Nat.lt_succ_self _) (.q U)<|.s4 .here .h3 .h3 .h1
   ·exact WC.exit<|Lm<|Lm<|Lv<|Ln ⟨a,f,g,j⟩ h (.q U)<|.s3 .here .h1 .h1
  ·rintro c d o p h
   replace h:=(H c d).symm.trans h
   refine WC.b<|B0q<|Le 32 (xk pK U U)<|Le 33 (xl z6z U<|xt .h2 U)<|Q1n U<|Lk U h (fun P h=>?_)<|fun P h=>?_
   ·refine WC.b<|Lz (fun i=>[3].contains i) [sq n 307 [(0,vi d)]] U<|Lf 0 35 U (w3 (v:=(.agg #[vi 0,vi 0])) (Lq (l:=[]) .nil []) (fun _=>by kernel_rfl))<|Lf 1 36 U (xk pK U U)<|Mb 2 37 U (wB.wk (.cons .h2 .nil)<|.stb (.cons U .nil) .nil) (xl z6z U<|fZ .here<|.head _)<|WD.forced0 (i:=3) U (by kernel_rfl) U U U (wB.wk (.cons .h2 .nil)<|.stb (.cons U .nil) .nil) (xz zX U U U .h1 U U U)<|Lf 4 5 U (q_z U)<|WD.done (by kernel_rfl)<|Lb<|WC.ret<|Ll ?_
    obtain rfl:=oJ h
    exact Li results162 (.agg U zh U (xy .here)<|.tmp U .nil)<|fun w hw=>⟨wV U U,hw.sub .nil⟩
   ·refine WC.skip<|Lb<|WC.b<|bK h fun ad Q h=>D1q U<|Lp 39 (zb call195<|.r2 U U) .nil (sc hz .nil (.cons .here .nil) fun w pz ho la=>rB _ _ _ (zky:=129) (zqk:=[]) _ (zcq:=(fun(y0:z1) (y1:z1)=>vh y0 y1)) _ Q w pz (ZA.row (la _ (.head _) _) (RR.flat (enc:=xL) (fun _=>U) _) ⟨w,pz.1⟩) call129<|fun w' iT y0 y1  r  hr=>fF _ _ _ _ hr w' iT )<|Lo U U (xz zX U U U .h1 U U U)<|Q1n U<|WC.ret ?_
    obtain rfl:=oJ h
    exact Li results162 (.agg U zh U (xy .here)<|.tmp U .nil)<|fun w hw=>⟨wV U U,hw.sub .nil⟩
def qx(b:List (List z6))(e:z1)(f:Int->Int->Int->Option (z1×yk)):Nat->Int->Int->Int->Int->Option (z1×yk)
 | 0,_,_,_,_=>none
 | k+1,a,c,g,h=>if decide (a<b.length) then chk (0<=a/\a<b.length) ((fw (nth b a) e).bind fun i=>vk (fun(l:Int)=>(wQ (⟨l⟩:yk) (fun(y0:z1) (y1:z1)=>vb y0 y1) (⟨g,h⟩:z1) i.1).bind fun d=>qx b e f k (i64 (a+1)) d.2.fE d.1.fN d.1.fD) fun j=>if decide (c=0) then j i.2 else j c) else f g h c
def jS(b:yk)(c:List (List z6))(d:z1):Option (z1×yk):=
 (kV).bind fun a=>Yp (fun(e:Int) (f:Int) (g:Int)=>some ((⟨e,f⟩:z1),(⟨g⟩:yk))) fun h=>qx c d h xC 0 b.fE a.fN a.fD
theorem rF(Z:Zp)(a:Nat)(s:Option Addr)(t:Nat)(o:yk)(f:List (List z6))(g:z1)(r:z1×yk)(h:jS o f g=some r)(w₀:World)(hz:Pz [stb a 277 [vi o.fE]] w₀ Z)(B:ZS Z 1 (j9 Z) s t f)(iq:Ho w₀ [stb a 277 [vi o.fE]]):
  RF 126 #[vp a,vs s f.length t,.agg #[vi g.fN,vi g.fD]] w₀ (.agg #[vi r.1.fN,vi r.1.fD]) [stb a 277 [vi o.fE]] [stb a 277 [vi r.2.fE]]:=by
 unfold jS at h
 refine Calls.oh3 func126 ntmps126 iq ?_
 let A:List Value:=[vi g.fN,vi g.fD];refine B0q<|Lg 5 (xO (cs:=A) U U) ?_
 intro q _
 refine Lg 6 (xG (cs:=[vi 0,vi 0]) z1y U) fun i _=>Q0n<|WC.b<|bK h fun x E h=>Ld<|Lp 12 (zb call161 .nil) .nil (cc hz .nil fun w pz ho=>uq _ _ E w pz ) (Lg 7 (xG (cs:=[vi 0,vi 0]) z1y U) fun j _=>Lo U U (xz zX U U U .here U U U)<|Q0n ?_)
 refine jK3 h fun y F h=>Md (fun(k:Int) (l:Int) (m:Int)=>(y k l m=some r)) (fun k l m=>[(6,vp i),(7,vp j)]) (fun k l m=>[stb i 175 [vi 0,vi 0],stb j 175 [vi k,vi l],stb a 277 [vi m]]) ?_ ?_
 ·let C:Value:=(vs s f.length t);let D:Value:=(vi (f.length:Int));refine B1q U<|Le 14 (xK underlying171 U)<|Q1n U<|WC.block<|WC.fk (fun(p:Nat) (b:Int) (c:Int) (d:Int) (e:Int)=>(qx f g y p b c d e=some r)) (fun p b c d e=>[(0,vp a),(5,vp q),(6,vp i),(7,vp j),(13,C),(14,D),(15,vi b)]) (fun p b c d e=>[stb a 277 [vi c],stb q 175 A,stb i 175 [vi 0,vi 0],stb j 175 [vi d,vi e]]) (fun p b c d e=>p) ⟨xC,0,o.fE,x.fN,x.fD⟩ h (.q U) (.s4 .h3 .h2 .h1 .here) ?_
  rintro(_|O) b c d e h;·cases h
  rw[qx] at h
  refine B1n U<|WC.b<|Lk U h (fun G h=>?_)<|fun G h=>?_
  ·refine WC.skip<|Lb<|WC.b<|WC.block<|WC.b<|cK h fun H h=>Ld<|L0 (dd:=17) U U (Z:=Z) (Pr:=(j9 Z)) zf8 U U B H ?_
   rintro Q R I S ⟨T,V,rfl,J⟩
   refine Le 18 (xl zod U<|q9 hz.pv I U)<|Q1n U<|WC.b<|bK h fun u K h=>D1q U<|Le 21 (xw zh U (xy .h1) U)<|Lp 22 (zb call162<|.r2 U U) .nil (cc hz .nil fun w pz ho=>Qs _ _ _ _ _ _ K w pz J)<|Q2q U<|La U (Lg 10 (xG (cs:=[vi 0,vi 0]) z1y U) fun z _=>Lo U U (xz zX U U U .here U U U)<|Q1n U ?_)
   refine jK1 h fun P L h=>Ma (fun(n:Int)=>(P n=some r)) (fun n=>[(0,vp a),(5,vp q),(6,vp i),(7,vp j),(10,vp z),(13,C),(14,D),(15,vi b)]) (fun n=>[stb a 277 [vi n],stb q 175 A,stb i 175 [vi 0,vi 0],stb j 175 [vi d,vi e],stb z 175 [vi u.1.fN,vi u.1.fD]]) ?_ ?_
   ·refine B1q U<|Le 26 (wG U)<|Le 27 (xk uB U U)<|Le 28 (xl z6z U<|xt .h1 U)<|Q1n U<|Lk U h (fun M h=>?_)<|fun M h=>?_
    ·exact D2q U<|Le 32 (wG U)<|Le 33 (xk uB U U)<|Lo U U (xz ztk U U U .h1 U U U)<|WL.nil<|Ln u.2 h (.q U)<|.s5 .here .h1 .h1 .h1 .here
    ·exact WC.skip<|Ln c h (.q U)<|.s5 .h1 .h1 .h1 .h1 .here
   ·rintro n h
    replace h:=(L n).symm.trans h
    exact bK h fun v N h=>D1q U<|Le 35 (xw zh U (xy .h3) U)<|Le 36 (xw zh U (xy .h4) U)<|Lp 37 (zb call123<|.r4 U U U U) (.cons .here .nil) (cc hz (.cons .here .nil) fun w pz ho=>jy _ _ (zak:=119) (zco:=[]) _ (zb7:=(fun(y0:z1) (y1:z1)=>vb y0 y1)) _ _ _ N w pz call119 (fun w' iT y0 y1  r  hr=>sv _ _ _ _ hr w' iT ) ho)<|Lo U U (xz zX U U U .h3 U U U)<|WL.nil<|Lt<|Lb<|D2q U<|WL.nil<|WX.round ⟨O,i64 (b+1),v.2.fE,v.1.fN,v.1.fD⟩ h (Nat.lt_succ_self _) (.q U)<|.s4 .h1 .h1 .h1 .here
  ·exact WC.exit<|Lm<|Lm<|Lv<|Ln ⟨d,e,c⟩ h (.q U)<|.s3 .h2 .h2 .here
 ·rintro k l m h
  replace h:=(F k l m).symm.trans h
  refine B0q<|Le 39 (xw zh U (xy .h1) U)<|Lo U U (xz zX U U U .here U U U)<|Q0n<|WC.ret ?_
  obtain rfl:=oJ h
  exact Li results126 (.agg U zh U (xy .here) .nil)<|fun w hw=>⟨xJ U,hw.sub (.cons .h2 .nil)⟩
def fG(g:yk)(a:z1)(h:List (List z6))(b:yl):Option (z1×yk):=
 (jS g h a).bind fun c=>(wQ c.2 (fun(y0:z1) (y1:z1)=>kW y0 y1) c.1 b.fR).bind fun d=>(wQ d.2 (fun(y0:z1) (y1:z1)=>qG y0 y1) d.1 a).bind fun e=>(wQ e.2 (fun(y0:z1) (y1:z1)=>vb y0 y1) e.1 b.fL).bind fun f=>some (f.1,f.2)
theorem dz(Z:Zp)(c:Nat)(f:Addr)(g:Option Addr)(j:Nat)(k:Addr)(d:yk)(b:z1)(e:List (List z6))(a:yl)(r:z1×yk)(h:fG d b e a=some r)(w₀:World)(hz:Pz [stb c 277 [vi d.fE]] w₀ Z)(m:ZS Z 1 (j9 Z) g j e)(n:ZC Z f [vs g e.length j])(l:ZC Z k [vi a.fR.fN,vi a.fR.fD,vi a.fL.fN,vi a.fL.fD])(iq:Ho w₀ [stb c 277 [vi d.fE]]):
  RF 122 #[vp c,.agg #[vi b.fN,vi b.fD],vq f,vq k] w₀ (.agg #[vi r.1.fN,vi r.1.fD]) [stb c 277 [vi d.fE]] [stb c 277 [vi r.2.fE]]:=by
 unfold fG at h
 refine Calls.tg func122 ntmps122 iq ?_
 refine WC.b<|Ld (Lg 5 (xO (cs:=[vi b.fN,vi b.fD]) U U) fun o _=>Lg 6 (xG (cs:=[vi 0,vi 0]) z1y U) fun v _=>Q0n<|WC.b ?_)
 refine bK h fun x p h=>bK h fun y q h=>bK h fun z t h=>bK h fun A u h=>Lz (fun i=>[6,9,11,14,15].contains i) [stb o 175 [vi b.fN,vi b.fD]] U<|Lf 0 7 U (q_m U)<|Lf 1 8 U (q_m U)<|Lf 2 9 U (q_m U)<|Lf 3 10 U (q_m U)<|Lh 4 11 U (xl zj9 U<|q9 hz.pv n U)<|Lh 5 12 U (xw zh U (xy .h1) U)<|Lf 7 14 U (xk lf U U)<|Mb 8 15 U (wB.of<|.cons .h1 .nil) (wu (cs:=[vi a.fR.fN,vi a.fR.fD]) zh U U<|iN (off:=0) (s:=2) hz.pv l U)<|Mb 10 17 U (wB.of<|.cons .h1 .nil) (xw zh U (xy .here) U)<|Lf 12 19 U (xk pJ U U)<|Mb 13 20 U (wB.of<|.cons .h1 .nil) (wu (cs:=[vi a.fL.fN,vi a.fL.fD]) zh U U<|iN (off:=2) (s:=2) hz.pv l U) (WD.call0 (i:=6) (dd:=13) U (by kernel_rfl) U U U (.inl ⟨U,(wB.of<|.cons .h2 .nil)⟩) (zb call126<|.r3 U U U) (.cons .h2 .nil) (cc hz (.cons .h2 .nil) fun w pz ho=>Calls.mono (rF _ _ _ _ _ _ _ _ p w pz m ho)<|fun _ _ h'=>⟨h'.1,trivial,h'.2⟩) fun _=>WD.call0 (i:=9) (dd:=16) U (by kernel_rfl) U U U (.inl ⟨U,(wB.of<|.cons .h2 .nil)⟩) (zb call123<|.r4 U U U U) (.cons .here .nil) (cc hz (.cons .here .nil) fun w pz ho=>Calls.mono (jy _ _ (zak:=125) (zco:=[]) _ (zb7:=(fun(y0:z1) (y1:z1)=>kW y0 y1)) _ _ _ q w pz call125 (fun w' iT y0 y1  r  hr=>Yx _ _ _ _ hr w' iT ) ho)<|fun _ _ h'=>⟨h'.1,trivial,h'.2⟩) fun _=>WD.call0 (i:=11) (dd:=18) U (by kernel_rfl) U U U (.inl ⟨U,(wB.of<|.cons .h2 .nil)⟩) (zb call123<|.r4 U U U U) (.cons .here .nil) (cc hz (.cons .here .nil) fun w pz ho=>Calls.mono (jy _ _ (zak:=124) (zco:=[]) _ (zb7:=(fun(y0:z1) (y1:z1)=>qG y0 y1)) _ _ _ t w pz call124 (fun w' iT y0 y1  r  hr=>o8 _ _ _ _ hr w' iT ) ho)<|fun _ _ h'=>⟨h'.1,trivial,h'.2⟩) fun _=>WD.call0 (i:=14) (dd:=21) U (by kernel_rfl) U U U (.inl ⟨U,(wB.of<|.cons .h2 .nil)⟩) (zb call123<|.r4 U U U U) (.cons .here .nil) (cc hz (.cons .here .nil) fun w pz ho=>Calls.mono (jy _ _ (zak:=119) (zco:=[]) _ (zb7:=(fun(y0:z1) (y1:z1)=>vb y0 y1)) _ _ _ u w pz call119 (fun w' iT y0 y1  r  hr=>sv _ _ _ _ hr w' iT ) ho)<|fun _ _ h'=>⟨h'.1,trivial,h'.2⟩) fun _=>WD.jD (i:=15) U (by kernel_rfl) U U U (by kernel_rfl) (xz zX U U U .h1 U U U)<|WD.done (by kernel_rfl)<|Lb<|WC.ret ?_)
 obtain rfl:=oJ h
 exact Li results122 (.agg U zh U (xy .here) .nil)<|fun w hw=>⟨xJ U,hw.sub (.cons .h1 .nil)⟩
end Go.Proofs.YthjnhebofpebpaaGreat
