/- A part of this claim's proof: models of functions, walks, plain laws. No conditions. -/
import Derived.Test.YthjnhebofpebpaaGreatW36wc
set_option linter.all false
namespace Go.Proofs.YthjnhebofpebpaaGreat
open Go Go.RowKit Sep Tryz
variable {f:Nat}{g:Int}
set_option maxRecDepth 30000
set_option maxHeartbeats 4000000
def vA(a:ym)(zd2:z1->z1->Option (z1×Int))(c:z1)(d:z1):Option (z1×ym):=
 if decide (a.fE≠0) then some ((⟨0,0⟩:z1),a) else(zd2 c d).bind fun b=>some (b.1,(⟨b.2⟩:ym))
theorem fI(Z:Zp)(c:Nat)(zb3:FuncId)(zf5:List Value)(d:ym)(zd2:z1->z1->Option (z1×Int))(a:z1)(b:z1)(r:z1×ym)(h:vA d zd2 a b=some r)(w₀:World)(hz:Pz [stb c 307 [vi d.fE]] w₀ Z)(g:∀ args w,(callFunc zb3 args).run Tryz.prog w = .ok (.enter zb3 args) w)(i:∀ w:World,PZ [] w Z->∀(x0:z1) (x1:z1) (r:z1×Int),zd2 x0 x1=some r->Calls Tryz.prog zb3 (([.agg #[vi x0.fN,vi x0.fD],.agg #[vi x1.fN,vi x1.fD]]:List Value)++zf5).toArray w fun e w'=>e = .returned (.tuple #[.agg #[vi r.1.fN,vi r.1.fD],vi r.2])/\Hp [] w w' [])(fh:Ho w₀ [stb c 307 [vi d.fE]]):
  RF 210 #[vp c,.func (.func zb3) #[] (zf5).toArray,.agg #[vi a.fN,vi a.fD],.agg #[vi b.fN,vi b.fD]] w₀ (.agg #[vi r.1.fN,vi r.1.fD]) [stb c 307 [vi d.fE]] [stb c 307 [vi r.2.fE]]:=by
 unfold vA at h
 refine Calls.mE func210 ntmps210 fh ?_
 refine WC.b<|Ld (Lg 6 (xP (cs:=[vi a.fN,vi a.fD]) U U) fun n _=>Lg 7 (xP (cs:=[vi b.fN,vi b.fD]) U U) fun o _=>Lg 8 (xC (cs:=[vi 0,vi 0]) z1d U) fun p _=>Q0n<|WC.b<|B1q U<|Le 12 (wx U)<|Le 13 (xk sH U U)<|Le 14 (xl z5S U<|xu .h3 U)<|Q1n U<|Lj U h (fun j h=>?_)<|fun j h=>?_)
 ·refine B0q<|Le 16 (xU (v:=(.agg #[vi 0,vi 0])) (Lq (l:=[]) .nil []) (fun _=>by kernel_rfl))<|Lk U U (xx zI U U U .here U U U)<|Q0n<|WC.ret<|Ll ?_
  obtain rfl:=oJ h
  exact Lh results210 (.agg U zi U (xt .here) .nil)<|fun w hw=>⟨xK U,hw.sub (.cons .h3 .nil)⟩
 ·refine WC.skip<|Lb<|WC.b<|bK h fun k m h=>D1q U<|Le 19 (xq zi U (xt .h2) U)<|Le 20 (xq zi U (xt .h1) U)<|Lm 21 (qp (l:=[.tmp 19,.tmp 20]) (f:=zb3) (caps:=zf5) g U<|.r2 U U) .nil (fun w hw=>i w (hz.now hw) a b k  m)<|Q2q U<|La U (Lg 9 (xC (cs:=[vi 0,vi 0]) z1d U) fun q _=>Lk U U (xx zI U U U .here U U U)<|Q1n U<|WC.b<|Ld<|La U<|La U<|Le 26 (wx U)<|Le 27 (xk sH U U)<|Lk U U (xx zlQ U U U .h4 U U U)<|Q0n<|B0q<|Le 28 (xq zi U (xt .h1) U)<|Lk U U (xx zI U U U .h2 U U U)<|Q0n<|WC.ret ?_)
  obtain rfl:=oJ h
  exact Lh results210 (.agg U zi U (xt .here) .nil)<|fun w hw=>⟨xK U,hw.sub (.cons .h1 .nil)⟩
def rS(a:z1)(b:z1):Option (Int×Int):=
 some (i64 (a.fN*b.fD),i64 (a.fD*b.fN))
theorem Xh(Z:Zp)(c:Addr)(d:Addr)(a:z1)(b:z1)(r:Int×Int)(h:rS a b=some r)(w₀:World)(hz:PZ [] w₀ Z)(e:ZC Z c [vi a.fN,vi a.fD])(f:ZC Z d [vi b.fN,vi b.fD]):
  RC 190 #[vq c,vq d] w₀ (.tuple #[vi r.1,vi r.2]) [] []:=by
 unfold rS at h
 refine L0 func190 ntmps190 ?_
 refine B2n U<|WC.b<|Lw nc [] U<|Lf 0 4 U (xk qh U U)<|Li 1 5 U (xl xB U<|wy hz.pv e U)<|Lf 2 6 U (xk qR U U)<|Li 3 7 U (xl xB U<|wy hz.pv f U)<|Lf 4 8 U (uk U U U)<|Lf 5 9 U (xk qR U U)<|Li 6 10 U (xl xB U<|wy hz.pv e U)<|Lf 7 11 U (xk qh U U)<|Li 8 12 U (xl xB U<|wy hz.pv f U)<|Lf 9 13 U (uk U U U)<|Lf 10 2 U (q_z U)<|Lf 11 3 U (q_z U)<|WD.done (by kernel_rfl)<|Lb<|WC.ret ?_
 obtain rfl:=oJ h
 exact Lh results190 (.tmp U<|.tmp U .nil)<|fun w hw=>⟨vg U U,hw.sub .nil⟩
def rg(b:z1)(a:z1):Option (z1×Int):=
 (vx b).bind fun e=>(if !e then some true else(vx a).bind fun f=>some (!f)).bind fun g=>if g||(decide (a.fN=0)) then some ((⟨0,0⟩:z1),2) else(rS b a).bind fun c=>(gN c.1 c.2).bind fun d=>some (d.1,d.2)
theorem XY(Z:Zp)(b:z1)(a:z1)(r:z1×Int)(h:rg b a=some r)(w₀:World)(hz:PZ [] w₀ Z):
  RC 159 #[.string ⟨#[47]⟩,.agg #[vi b.fN,vi b.fD],.agg #[vi a.fN,vi a.fD]] w₀ (.tuple #[.agg #[vi r.1.fN,vi r.1.fD],vi r.2]) [] []:=by
 unfold rg at h
 refine Kc func159 ntmps159 ?_
 refine WC.b<|Ld (Lg 4 (xP (cs:=[vi b.fN,vi b.fD]) U U) fun d _=>Lg 5 (xP (cs:=[vi a.fN,vi a.fD]) U U) fun e _=>Lg 6 (xC (cs:=[vi 0,vi 0]) z1d U) fun s _=>Q1n U<|WC.b<|WC.b ?_)
 refine bK h fun u i h=>bK h fun f g h=>Ld<|Le 9 (xq zi U (xt .h2) U)<|Lm 10 (zf call130<|.cons U .nil) .nil (cc hz .nil fun w pz ho=>qC _ _ _ i w pz )<|Q2q U<|Ly false 3 12 (B:=f) U U U U U U (fun h=>(oJ<|qq g h).symm) (fun _ j=>?_) ?_
 ·have c:=qr g j
  obtain⟨y,m,c⟩:=ze c
  replace c:=oJ c
  exact Le 13 (xq zi U (xt .h1) U)<|Lm 14 (zf call130<|.cons U .nil) .nil (cc hz .nil fun w pz ho=>qC _ _ _ m w pz )<|Q2q U<|Lz c U U .all
 refine La U<|Ly false 7 17 (B:=f||(decide (a.fN=0))) U U U U U U (fun h=>(uz h).symm) (fun _ n=>?_) ?_
 ·exact La U<|Le 19 (cD (r:=true) (by decide) U U)<|La U<|Le 21 (xk qh U U)<|Le 22 (xl xB U<|xu .h1 U)<|La U<|La U<|La U<|Lz (uA n) U U .all
 refine Q0n<|Lj U h (fun o h=>?_)<|fun o h=>?_
 ·refine B0q<|Le 26 (xU (v:=(.agg #[vi 0,vi 0])) (Lq (l:=[]) .nil []) (fun _=>by kernel_rfl))<|Lk U U (xx zI U U U .here U U U)<|Q1n U<|WC.ret<|Ll ?_
  obtain rfl:=oJ h
  exact Lh results159 (.agg U zi U (xt .here)<|.tmp U .nil)<|fun w hw=>⟨vg U U,hw.sub .nil⟩
 ·refine WC.skip<|Lb<|B0q<|Lg 27 (je Value.string<|fun x=>x) ?_
  intro t _
  let A:Value:=(.func (.func 190) #[] #[vp d,vp e]);refine Le 28 (wq<|L4 (l:=[.tmp 4,.tmp 5])<|.r2 U U)<|Lk U U (jT (k:=⟨#[43]⟩) (v:=(.func (.func 187) #[] #[vp d,vp e])) ky underlying304 U U U U .here)<|Le 29 (wq<|L4 (l:=[.tmp 4,.tmp 5])<|.r2 U U)<|Lk U U (jT (k:=⟨#[45]⟩) (v:=(.func (.func 188) #[] #[vp d,vp e])) ky underlying304 U U U U .here)<|Le 30 (wq<|L4 (l:=[.tmp 4,.tmp 5])<|.r2 U U)<|Lk U U (jT (k:=⟨#[42]⟩) (v:=(.func (.func 189) #[] #[vp d,vp e])) ky underlying304 U U U U .here)<|Le 31 (wq<|L4 (l:=[.tmp 4,.tmp 5])<|.r2 U U)<|Lk U U (jT (k:=⟨#[47]⟩) (v:=A) ky underlying304 U U U U .here)<|Q2n U<|WC.b ?_
  refine bK h fun z p h=>bK h fun C q h=>D2q U<|Le 35 (cC (k:=⟨#[47]⟩) (dflt:=.nilFunc) (r:=A) ky underlying304 zp1 U U U .here (by rfl))<|Lm 36 (qp (l:=[]) call190 U .nil) .nil (sX hz .nil (.s2 .h3 .h2) fun w pz ho la=>Xh _ _ _ _ _ _ p w pz ((la _ (.head _) _).stb)<|(la _ (.tail _<|.head _) _).stb)<|Q2q U<|Lm 39 (zf call160<|.r2 U U) .nil (cc hz .nil fun w pz ho=>sb _ _ _ _ q w pz )<|Q2q U<|Lk U U (xx zI U U U .h1 U U U)<|Q1n U<|WC.ret ?_
  obtain rfl:=oJ h
  exact Lh results159 (.agg U zi U (xt .here)<|.tmp U .nil)<|fun w hw=>⟨vg U U,hw.sub .nil⟩
def ki(b:z1)(c:z1):Option (z1×Int):=
 (rg b c).bind fun a=>some (a.1,a.2)
theorem eR(Z:Zp)(a:z1)(b:z1)(r:z1×Int)(h:ki a b=some r)(w₀:World)(hz:PZ [] w₀ Z):
  RC 125 #[.agg #[vi a.fN,vi a.fD],.agg #[vi b.fN,vi b.fD]] w₀ (.tuple #[.agg #[vi r.1.fN,vi r.1.fD],vi r.2]) [] []:=by
 unfold ki at h
 refine L0 func125 ntmps125 ?_
 refine WC.b<|Ld (Lg 2 (xP (cs:=[vi a.fN,vi a.fD]) U U) fun d _=>Lg 3 (xP (cs:=[vi b.fN,vi b.fD]) U U) fun e _=>Lg 4 (xC (cs:=[vi 0,vi 0]) z1d U) fun f _=>Q1n U<|WC.b ?_)
 refine bK h fun g c h=>Ld<|Le 6 (xq zi U (xt .h2) U)<|Le 7 (xq zi U (xt .h1) U)<|Lm 8 (zf call159<|.r3 U U U) .nil (cc hz .nil fun w pz ho=>XY _ _ _ _ c w pz )<|Q2q U<|Lk U U (xx zI U U U .here U U U)<|Q1n U<|WC.ret ?_
 obtain rfl:=oJ h
 exact Lh results125 (.agg U zi U (xt .here)<|.tmp U .nil)<|fun w hw=>⟨vg U U,hw.sub .nil⟩
theorem zS9:∀ w,(isAgg (Tryz.jr.t 24)).run Tryz.prog w = .ok true w:=fun _=>by kernel_rfl
theorem zSa:∀ w,(Go.sizeOf (Tryz.jr.t 24)).run Tryz.prog w = .ok 2 w:=fun _=>by kernel_rfl
def kM(z6R:List z1)(znf:Int)(zng:Int)(zjS:Int)(zhg:z1->z1->Option Int):Option (List z1):=chk ((znf=0/\zng=(z6R.length:Int))/\(0<=zjS/\zjS<4611686018427387904/\z6R.length<4611686018427387904)) (chk (tB zhg (w8 zhg z6R)=true) (some (w8 zhg z6R)))
theorem tN(Z:Zp)(zhh:Option Addr)(zhi:Nat)(znh:FuncId)(zx2:List Value)(z6R:List z1)(znf:Int)(zng:Int)(zjS:Int)(zhg:z1->z1->Option Int)(r:List z1)(w₀:World)(hz:Pz [row (vs zhh z6R.length zhi) 175 2 (z6R.flatMap xG)] w₀ Z)(a:∀ args w,(callFunc znh args).run Tryz.prog w = .ok (.enter znh args) w)(b:∀ w:World,PZ [] w Z->∀(x0:z1) (x1:z1) (r:Int),zhg x0 x1=some r->Calls Tryz.prog znh (([.agg #[vi x0.fN,vi x0.fD],.agg #[vi x1.fN,vi x1.fD]]:List Value)++zx2).toArray w fun e w'=>e = .returned (vi r)/\Hp [] w w' [])(h:kM z6R znf zng zjS zhg=some r)(fh:Ho w₀ [row (vs zhh z6R.length zhi) 175 2 (z6R.flatMap xG)]):
  Calls Tryz.prog 227 #[vs zhh z6R.length zhi,vi znf,vi zng,vi zjS,.func (.func znh) #[] (zx2).toArray] w₀ fun e w'=>e = .returned (.tuple #[])/\(r.length=z6R.length)/\Hp (fps [row (vs zhh z6R.length zhi) 175 2 (z6R.flatMap xG)]) w₀ w' [row (vs zhh r.length zhi) 175 2 (r.flatMap xG)]:=by
 obtain⟨h0,h⟩:=xv h
 obtain⟨h1,h⟩:=xv h
 have hr:=(oJ h).symm
 exact sW (P:=Tryz.prog) (f:=227) (e:=175) (k:=2) (enc:=xG) (fun _=>U) (by decide) cF (fun β _ enc cf g cb hO xR off cap d0 w0 eg hC R=>Tryz.sy 2 zS9 zSa enc cf g cb hO xR off cap d0 w0 eg hC R) (Tryz.sf (α:=Unit)) hz a b h0 h1 hr fh
def vL(a:List z1)(zjT:z1->z1->Option Int):Option (List z1):=
 (kq (u64 (a.length:Int))).bind fun b=>(kM a 0 (a.length:Int) b zjT).bind fun c=>some c
theorem tr(Z:Zp)(b:Option Addr)(c:Nat)(zjU:FuncId)(zqi:List Value)(a:List z1)(zjT:z1->z1->Option Int)(r:List z1)(h:vL a zjT=some r)(w₀:World)(hz:Pz [row (vs b a.length c) 175 2 (a.flatMap xG)] w₀ Z)(j:∀ args w,(callFunc zjU args).run Tryz.prog w = .ok (.enter zjU args) w)(k:∀ w:World,PZ [] w Z->∀(x0:z1) (x1:z1) (r:Int),zjT x0 x1=some r->Calls Tryz.prog zjU (([.agg #[vi x0.fN,vi x0.fD],.agg #[vi x1.fN,vi x1.fD]]:List Value)++zqi).toArray w fun e w'=>e = .returned (vi r)/\Hp [] w w' [])(fh:Ho w₀ [row (vs b a.length c) 175 2 (a.flatMap xG)]):
  Calls Tryz.prog 214 #[vs b a.length c,.func (.func zjU) #[] (zqi).toArray] w₀ fun e w'=>e = .returned (.tuple #[])/\(r.length=a.length)/\Hp (fps [row (vs b a.length c) 175 2 (a.flatMap xG)]) w₀ w' [row (vs b r.length c) 175 2 (r.flatMap xG)]:=by
 unfold vL at h
 refine Kd func214 ntmps214 fh ?_
 refine B1q U<|Le 6 (xQ underlying229 U)<|Q1n U<|bK h fun d l h=>bK h fun f m h=>D3q U<|Le 10 (tk underlying3 underlying147 U U)<|Lm 11 (zf call57<|.cons U .nil) .nil (cc hz .nil fun w pz ho=>tZ (Z:=_)  (z9m:=(u64 (a.length:Int))) (r:=d) w pz  l)<|La U<|WL.gj (dd:=13) U U U (zf call227<|.r5 U U U U U) (.cons .here .nil) (cc hz (.cons .here .nil) fun w pz ho=>tN (Z:=_) (zhh:=b) (zhi:=c) (znh:=zjU) (zx2:=zqi) (z6R:=a) (znf:=0) (zng:=(a.length:Int)) (zjS:=d) (zhg:=zjT) (r:=f) w pz j k m ho) ?_
 rintro  g
 refine Ke (i:=0) U (u:=(vs b f.length c)) (ue g.symm)<|WL.nil ?_
 obtain rfl:=oJ h
 exact WX.gP results214 .nil<|fun w hw=>⟨sp,g.trans U,hw.sub (.cons .here .nil)⟩
def wG(e:List z1)(b:Int)(f:(List z1)->Int->Option (List z1)):Nat->(List z1)->Int->Int->Option (List z1)
 | 0,_,_,_=>none
 | h+1,c,d,a=>if decide (a<((e.length-(b:Int).toNat:Nat):Int)) then si (fun(i:List z1) (j:Int)=>wG e b f h i j (i64 (a+1))) fun g=>chk (0<=a/\a<((e.length-(b:Int).toNat:Nat):Int)) (chk (0<=(i64 (a-1))/\(i64 (a-1))<((e.length-(b:Int).toNat:Nat):Int)) (if decide ((⟨(nth c (b+a)).fN,(nth c (b+a)).fD⟩:z1)≠(⟨(nth c (b+(i64 (a-1)))).fN,(nth c (b+(i64 (a-1)))).fD⟩:z1)) then chk (0<=a/\a<((e.length-(b:Int).toNat:Nat):Int)) (chk (0<=d/\d<c.length) (g (c.set (d:Int).toNat (⟨(nth c (b+a)).fN,(nth c (b+a)).fD⟩:z1)) (i64 (d+1)))) else g c d)) else f c d
theorem mK{n:Nat}{d:List z1}{a:(List z1)->Int->Option (List z1)}{e:List z1}{b:Int}{c:Int}{r:List z1}(h:wG d g a n e b c=some r):∃ m,n=m+1:=by
 cases n with
 | zero=>cases h
 | succ m=>exact⟨m,rfl⟩
def wH(b:List z1)(e:Option (List z1)):Nat->Int->Option (List z1)
 | 0,_=>none
 | f+1,a=>if decide (a<b.length) then mh (wH b e f (i64 (a+1))) fun g=>chk (0<=a/\a<b.length) (chk (0<=(i64 (a-1))/\(i64 (a-1))<b.length) (if decide ((⟨(nth b a).fN,(nth b a).fD⟩:z1)=(⟨(nth b (i64 (a-1))).fN,(nth b (i64 (a-1))).fD⟩:z1)) then chk (0<=a/\a<b.length) (si (fun(d:List z1) (c:Int)=>chk (0<=c/\c<=d.length) (chk (0<=c/\c<=(((d.take (c:Int).toNat++List.replicate (d.length-(c:Int).toNat) ((⟨0,0⟩:z1):z1)).length:Nat):Int)) (some ((d.take (c:Int).toNat++List.replicate (d.length-(c:Int).toNat) ((⟨0,0⟩:z1):z1)).take (c:Int).toNat)))) fun h=>wG b a h xI b a 1) else g)) else e
def vV(a:List z1):Option (List z1):=
 if decide ((a.length:Int)<2) then some a else mh (some a) fun b=>wH a b xI 1
theorem tD(Z:Zp)(s:Option Addr)(j:Nat)(g:List z1)(r:List z1)(h:vV g=some r)(w₀:World)(hz:Pz [row (vs s g.length j) 175 2 (g.flatMap xG)] w₀ Z)(fh:Ho w₀ [row (vs s g.length j) 175 2 (g.flatMap xG)]):
  Calls Tryz.prog 215 #[vs s g.length j] w₀ fun e w'=>∃ N:Option Addr,∃ O:Nat,e = .returned (vs N r.length O)/\True/\Hp (fps [row (vs s g.length j) 175 2 (g.flatMap xG)]) w₀ w' [row (vs N r.length O) 175 2 (r.flatMap xG)]:=by
 unfold vV at h
 refine Calls.oh1 func215 ntmps215 fh ?_
 refine B1n U<|WC.b<|B1q U<|Le 7 (xQ underlying229 U)<|Q1n U<|Lj U h (fun V h=>?_)<|fun V h=>?_
 ·refine B2n U<|WC.ret<|Ll ?_
  obtain rfl:=oJ h
  exact Lh results215 (.tmp U .nil)<|fun w hw=>⟨s,j,xK U,trivial,hw.sub (.cons .here .nil)⟩
 ·refine WC.skip<|Lb ?_
  obtain⟨P,W,h⟩:=qy h
  let C:Value:=(vs s g.length j);let E:List Asrt:=[row C 175 2 (g.flatMap xG)];refine L9 (P=some r) ([(0,C)]) (E) ?_ ?_
  ·refine B1n U<|WC.block<|Ka (fun(G:Nat) (c:Int)=>(wH g P G c=some r)) (fun G c=>[(0,C),(3,vi c)]) (fun G c=>E) (fun G c=>G) ⟨xI,1⟩ h (.q U) (.cons .here .nil) ?_
   rintro(_|X) c h;·cases h
   rw[wH] at h
   refine WC.b<|WC.b<|Ld<|La U<|La U<|Le 12 (xQ underlying229 U)<|Q1n U<|Lj U h (fun Y h=>?_)<|fun Y h=>?_
   ·refine WC.skip<|Lb<|jK0 h fun aa ab h=>L9 (aa=some r) ([(0,C),(3,vi c)]) (E) ?_ ?_
    ·refine WC.block<|WC.b<|cK h fun H h=>cK h fun I h=>Lw nc [] U<|Lf 0 16 U (q_m U)<|Lf 1 17 U (q_m U)<|WD.know (fun w hw=>Hp.vJ .here hw (by intro il;have:=H;rw[il] at this;omega)) ?_
     rintro⟨o,rfl⟩
     refine Lf 2 18 U (w7 z3K U U H.1 H.2 qQ)<|Li 3 19 U (wp (cs:=(xG<|nth g c)) zi U U<|gq .here<|jb (enc:=xG) (l:=g) (i:=c) (sz:=2) (fun _=>U) H.1 H.2)<|Lf 4 20 U (q_m U)<|Lf 5 21 U (q_m U)<|Lf 6 22 U (sM U U U)<|Lf 7 23 U (w7 z3K U U I.1 I.2 qQ)<|Li 8 24 U (wp (cs:=(xG<|nth g<|i64 (c-1))) zi U U<|gq .here<|jb (enc:=xG) (l:=g) (i:=i64 (c-1)) (sz:=2) (fun _=>U) I.1 I.2)<|Lf 9 25 U (su (enc:=xG) (a:=(⟨(nth g c).fN,(nth g c).fD⟩:z1)) (b:=(⟨(nth g<|i64 (c-1)).fN,(nth g<|i64 (c-1)).fD⟩:z1)) zAG U U)<|WD.done (by kernel_rfl)<|Lb<|Lj U h (fun ad h=>?_)<|fun ad h=>?_
     ·refine WC.b<|cK h fun t h=>D2q U<|WL.XM (dd:=28) U U z3K U U .here t<|Q1n U<|jK2 h fun Q ae h=>WC.fm (fun(m:List z1) (p:Int)=>(Q m p=some r)/\(m.length=g.length)) (fun m p=>[(0,vs (some ⟨o,0,none⟩) m.length j),(3,vi p)]) (fun m p=>[row (vs (some ⟨o,0,none⟩) m.length j) 175 2 (m.flatMap xG)]) ?_ ?_
      ·let D:Value:=(vs (some ⟨o,(c:Int).toNat*2,none⟩) (g.length-(c:Int).toNat) (j-(c:Int).toNat));refine B1n U<|WC.block<|WC.mG (fun(x:Nat) (d:List z1) (n:Int) (f:Int)=>(wG g c Q x d n f=some r)/\(d.length=g.length)) (fun x d n f=>[(0,vs (some ⟨o,0,none⟩) d.length j),(3,vi n),(4,D),(5,vi f)]) (fun x d n f=>[row (vs (some ⟨o,0,none⟩) d.length j) 175 2 (d.flatMap xG)]) (fun x d n f=>x) ⟨xI,g,c,1⟩ ⟨h,U⟩ (.q U) (.cons .here .nil) ?_
       rintro x d n f ⟨h,z⟩
       obtain⟨af,rfl⟩:=mK h
       rw[wG] at h
       refine WC.b<|WC.b<|Ld<|La U<|La U<|Le 31 (xQ underlying229 U)<|Q1n U<|Lj U h (fun ag h=>?_)<|fun ag h=>?_
       ·refine WC.skip<|Lb<|jK2 h fun ah ai h=>WC.fm (fun(q:List z1) (v:Int)=>(ah q v=some r)/\(q.length=g.length)) (fun q v=>[(0,vs (some ⟨o,0,none⟩) q.length j),(3,vi v),(4,D),(5,vi f)]) (fun q v=>[row (vs (some ⟨o,0,none⟩) q.length j) 175 2 (q.flatMap xG)]) ?_ ?_
        ·refine WC.block<|WC.b<|cK h fun J h=>cK h fun K h=>Lw nc [] U<|Lf 0 35 U (q_m U)<|Lf 1 36 U (q_m U) ?_
         have R:(0:Int)<=c+f/\c+f<d.length:=by have h1:=z;have h2:=t;have h3:=J;omega
         refine Lf 2 37 U (w7 z3K U U J.1 J.2<|bE t.1 J.1)<|Li 3 38 U (wp (cs:=(xG<|nth d (c+f))) zi U U<|gq .here<|jb (enc:=xG) (l:=d) (i:=c+f) (sz:=2) (fun _=>U) R.1 R.2)<|Lf 4 39 U (q_m U)<|Lf 5 40 U (q_m U)<|Lf 6 41 U (sM U U U) ?_
         have S:(0:Int)<=c+(i64 (f-1))/\c+(i64 (f-1))<d.length:=by have h1:=z;have h2:=t;have h3:=K;omega
         refine Lf 7 42 U (w7 z3K U U K.1 K.2<|bE t.1 K.1)<|Li 8 43 U (wp (cs:=(xG<|nth d (c+(i64 (f-1))))) zi U U<|gq .here<|jb (enc:=xG) (l:=d) (i:=c+(i64 (f-1))) (sz:=2) (fun _=>U) S.1 S.2)<|Lf 9 44 U (l9 (enc:=xG) (a:=(⟨(nth d (c+f)).fN,(nth d (c+f)).fD⟩:z1)) (b:=(⟨(nth d (c+(i64 (f-1)))).fN,(nth d (c+(i64 (f-1)))).fD⟩:z1)) zAG U U)<|WD.done (by kernel_rfl)<|Lb<|Lj U h (fun aj h=>?_)<|fun aj h=>?_
         ·refine WC.b<|cK h fun L h=>cK h fun B h=>D3q U<|La U ?_
          have T:(0:Int)<=c+f/\c+f<d.length:=by have h1:=z;have h2:=t;have h3:=L;omega
          let F:List Value:=[vi ((nth d (c+f)).fN),vi ((nth d (c+f)).fD)];refine Le 49 (w7 z3K U U L.1 L.2<|bE t.1 L.1)<|Le 50 (wp (cs:=(xG<|nth d (c+f))) zi U U<|gq .here<|jb (enc:=xG) (l:=d) (i:=c+f) (sz:=2) (fun _=>U) T.1 T.2)<|Le 51 (w7 z3K U U B.1 B.2 qQ)<|Lk U U (uQ (vs:=F) (ds:=(d.set (n:Int).toNat (⟨(nth d (c+f)).fN,(nth d (c+f)).fD⟩:z1)).flatMap xG) zI U U U U (iH U) .here (WG (enc:=xG) (sz:=2) (k:=0) (fun _=>U) B.1 B.2 (by decide))<|WE (enc:=xG) (l:=d) (sz:=2) (vs:=F) (y:=(⟨(nth d (c+f)).fN,(nth d (c+f)).fD⟩:z1)) (k:=0) (fun _=>U) B.1 B.2 U<|Nat.le_of_ble_eq_true U)<|WL.relen .here (u:=(vs (some ⟨o,0,none⟩) ((d.set (n:Int).toNat (⟨(nth d (c+f)).fN,(nth d (c+f)).fD⟩:z1)).length) j)) (ue (List.length_set).symm)<|Ke (i:=0) U (u:=(vs (some ⟨o,0,none⟩) ((d.set (n:Int).toNat (⟨(nth d (c+f)).fN,(nth d (c+f)).fD⟩:z1)).length) j)) (ue (List.length_set).symm)<|Q0n<|D3q U<|WL.nil<|Lu ?_
          exact Lp ⟨d.set (n:Int).toNat (⟨(nth d (c+f)).fN,(nth d (c+f)).fD⟩:z1),i64 (n+1)⟩ ⟨h,(List.length_set).trans z⟩ (.q U)<|.cons .here .nil
         ·exact WC.skip<|Lu<|Lp ⟨d,n⟩ ⟨h,z⟩ (.q U)<|.cons .here .nil
        ·rintro q v ⟨h,ak⟩
         replace h:=(ai q v).symm.trans h
         exact D3q U<|WL.nil<|WX.round ⟨af,q,v,i64 (f+1)⟩ ⟨h,ak⟩ (Nat.lt_succ_self _) (.q U)<|.cons .here .nil
       ·exact WC.exit<|Ln<|Ln<|Lx<|Lp ⟨d,n⟩ ⟨h,z⟩ (.q U)<|.cons .here .nil
      ·rintro m p ⟨h,ap⟩
       replace h:=(ae m p).symm.trans h
       refine WC.b<|cK h fun M h=>D2q U<|WL.XI (dd:=56) U U z3K U U .here M ?_
       intro aq ar al
       let A:Value:=(vs (some ⟨o,0,none⟩) ((m.take (p:Int).toNat++List.replicate (m.length-(p:Int).toNat) ((⟨0,0⟩:z1):z1)).length) j);refine Lk U U (nI (enc:=xG) (z0:=((⟨0,0⟩:z1):z1)) (l:=m) z3K z1d U al M (fun _=>U) (by decide) U cF .here)<|WL.relen .here (u:=A) (ue (iB M).symm)<|Ke (i:=0) U (u:=A) (ue (iB M).symm)<|Q0n<|WC.b ?_
       refine cK h fun am h=>D1q U<|La U (WL.XH (dd:=59) (enc:=xG) (ls:=m.take (p:Int).toNat++List.replicate (m.length-(p:Int).toNat) ((⟨0,0⟩:z1):z1)) U U z3K U U .here (fun _=>U) am fun an ao=>Q1n U<|WC.ret<|Lv<|Ll<|Ll<|Lv<|Ll ?_)
       obtain rfl:=oJ h
       exact Lh results215 (.tmp U .nil)<|fun w hw=>⟨an,ao,xK U,trivial,hw.sub (.cons .here .nil)⟩
     ·exact WC.skip<|Lu<|Lp () h (.q U)<|.cons .here .nil
    ·rintro  h
     replace h:=ab.symm.trans h
     exact D3q U<|WL.nil<|WX.round ⟨X,i64 (c+1)⟩ h (Nat.lt_succ_self _) (.q U)<|.cons .here .nil
   ·exact WC.exit<|Ln<|Ln<|Lx<|Lp () h (.cons U .nil)<|.cons .here .nil
  ·rintro  h
   replace h:=W.symm.trans h
   refine B2n U<|WC.ret ?_
   obtain rfl:=oJ h
   exact Lh results215 (.tmp U .nil)<|fun w hw=>⟨s,j,xK U,trivial,hw.sub (.cons .here .nil)⟩
def wZ(a:z8×z8)(b:List z1)(d:Int):Option (Bool×(Nat×List z1×Int)):=
 (wS a.1.yg a.2.yg).bind fun g=>if decide (g<0) then(vA (⟨d⟩:ym) (fun(y0:z1) (y1:z1)=>qa y0 y1) a.2.yg a.1.yg).bind fun e=>(vA e.2 (fun(y0:z1) (y1:z1)=>qa y0 y1) a.1.ye a.2.ye).bind fun f=>(vA f.2 (fun(y0:z1) (y1:z1)=>ki y0 y1) e.1 f.1).bind fun c=>chk (((b++([c.1]:List z1)).length:Int)*16<=140737488355328/\((b++([c.1]:List z1)).length:Int)<=4611686018427387904) (some (true,(0,b++([c.1]:List z1),c.2.fE))) else some (true,(0,b,d))
def qm(a:List z8):Option (List z1×Int):=
 (g4 a).bind fun f=>if !f then some (([]:List z1),2) else(uK a).bind fun b=>si (fun(c:Int) (g:List z1)=>if decide (c≠0) then some (([]:List z1),c) else(vL g (fun(y0:z1) (y1:z1)=>wS y0 y1)).bind fun h=>(vV h).bind fun i=>some (i,0)) fun j=>(mX b b).bind fun d=>(gz (Nat×List z1×Int) (fun(x:z8×z8) (s:Nat×List z1×Int)=>chk (s.1=0) (wZ x s.2.1 s.2.2)) (0,([]:List z1),0) d.1 d.2).bind fun e=>j e.2.2 e.2.1
theorem oM(Z:Zp)(W:Option Addr)(X:Nat)(S:List z8)(r:List z1×Int)(h:qm S=some r)(w₀:World)(hz:PZ [] w₀ Z)(aa:ZS Z 4 (rq vf) W X S):
  Calls Tryz.prog 199 #[vs W S.length X] w₀ fun e w'=>∃ ab:Option Addr,∃ ad:Nat,e = .returned (.tuple #[vs ab r.1.length ad,vi r.2])/\True/\Hp [] w₀ w' [row (vs ab r.1.length ad) 175 2 (r.1.flatMap xG)]:=by
 unfold qm at h
 let O:Value:=(vs W S.length X);refine Calls.sN (vs:=[O]) (pre:=[]) (env:=[(0,O)]) func199 U ntmps199 U (Hp.nil w₀ _) U ?_
 refine WC.pool<|B2n U<|WC.b<|WC.b<|bK h fun au av h=>D1q U<|Lm 10 (zf call192<|.cons U .nil) .nil (jH hz .nil .here fun w pz ho=>tx _ _ _ _ _ av w pz<|aa.mono<|zl)<|Q1n U<|Lj U h (fun aw h=>?_)<|fun aw h=>?_
 ·refine B2n U<|WC.ret<|Ll<|WX.nilRow 175 2 ?_
  obtain rfl:=oJ h
  exact WX.iD results199 (.tmp U<|.tmp U .nil)<|fun w hw=>⟨none,0,vg U U,trivial,hw.sub (.cons .here .nil)⟩
 ·refine WC.skip<|Lb<|WC.b<|Ld (Lg 4 (xC (cs:=[vi 0]) zAD U) fun o _=>Q0n<|WC.b<|Ld (Lg 5 (xC (cs:=[vn]) zsW U) fun n _=>Q0n<|WC.b ?_))
  refine bK h fun ax ay h=>D1q U<|WL.kY (dd:=13) U U U (zf call212<|.cons U .nil) .nil (jH hz .nil .h2 fun w pz ho=>af _ _ _ _ _ ay w pz<|aa.mono<|zl) ?_
  rintro aZ a0 _
  refine Q1n U<|jK2 h fun az aA h=>WC.Yd (fun(P:Nat) (t:Int) (p:List z1) (Q:Zp) (u:Option Addr) (v:Nat)=>(az t p=some r)/\(xm (Z++[]) (Z++Q))) (fun(P:Nat) (t:Int) (p:List z1) (Q:Zp) (u:Option Addr) (v:Nat)=>[(4,vp o),(5,vp n)]) (fun(P:Nat) (t:Int) (p:List z1) (Q:Zp) (u:Option Addr) (v:Nat)=>[fz Q,stb o 307 [vi t],stb n 229 [vs u p.length v],row (vs u p.length v) 175 2 (p.flatMap xG),qL P]) ?_ ?_
  ·refine WC.b<|WC.freezeS (ls:=ax) .here .h2 hz (RR.flat (enc:=vf) (fun _=>U) _) ?_
   intro k aB ae
   refine bK h fun T aC h=>D2q U<|WL.XE (dd:=16) U U U (zf call213<|.r2 U U) .nil (jH hz .nil .here fun w pz ho=>nn _ _ _ _ _ _ _ _ aC w pz ae ae) ?_
   rintro c d ag ah ai aj ⟨aD,aE⟩
   refine Q0n<|WC.block<|WC.pool<|WC.drop (.s6 .here .h3 .h3 .here .here .here)<|WC.nilRow 175 2<|WC.rangeFunc (f:=226) (caps:=[vp c,vp d]) U call226 ?_
   intro a1 a2 q j y V aF aG w hw
   let L:Value:=(vs none (([]:List z1).length) 0);let A:List Asrt:=[fz [],stb n 229 [L],row L 175 2 (([]:List z1).flatMap xG),stb o 307 [vi 0],xR q (y .ready none)];have hw1:=hw.selAll ((.s5 .h3 .h3 .h2 .h2 .here):Sel _ A _)
   let C:List Value:=[vs ag T.1.length ah];let E:List Value:=[vs ai T.2.length aj];let H:List Asrt:=[stb c 227 C,stb d 227 E];have pz:=(hz.call2 hw1 ((.cons .here .nil):Sel [ve A,qL j,stb c 227 C,stb d 227 E,fz k] [ve A] [qL j,stb c 227 C,stb d 227 E,fz k]) .h3).lend hw1 ((.cons .here .nil):Sel [ve A,qL j,stb c 227 C,stb d 227 E,fz k] [ve A] [qL j,stb c 227 C,stb d 227 E,fz k]) (B:=H) (fun _ hx'=>((.s2 .h1 .h1):Sel _ H _).mem hx')
   refine bK h fun m aH h=>Calls.mono (du (Z:=_) (zh5:=q) (zan:=(Option Addr×Nat)) (z8p:=(fun(g:Option Addr×Nat) (s:Nat×List z1×Int)=>ve ([fz [],stb n 229 [vs g.1 s.2.1.length g.2],row (vs g.1 s.2.1.length g.2) 175 2 (s.2.1.flatMap xG),stb o 307 [vi s.2.2]]++[xR q (y (ul<|gt [] s.1)<|gt [] s.1)]))) (zd1:=(fun(g:Option Addr×Nat) (s:Nat×List z1×Int)=>True)) (zh6:=(none,0)) (zwT:=⟨c,0,none⟩) (zh7:=ag) (zh8:=ah) (zh9:=⟨d,0,none⟩) (zqb:=ai) (zqc:=aj) (zU:=(Nat×List z1×Int)) (z6Q:=(fun(x:z8×z8) (s:Nat×List z1×Int)=>chk (s.1=0)<|wZ x s.2.1 s.2.2)) (zb1:=(0,([]:List z1),0)) (z26:=T.1) (z31:=T.2) (r:=m) w pz ?_ trivial (aD.mono<|zl) ((hw1.lent ((.cons .here .nil):Sel [ve A,qL j,stb c 227 C,stb d 227 E,fz k] [ve A] [qL j,stb c 227 C,stb d 227 E,fz k]) (B:=H) (fun _ hx'=>((.s2 .h1 .h1):Sel _ H _).mem hx') (.head _) _).stb) (aE.mono<|zl) ((hw1.lent ((.cons .here .nil):Sel [ve A,qL j,stb c 227 C,stb d 227 E,fz k] [ve A] [qL j,stb c 227 C,stb d 227 E,fz k]) (B:=H) (fun _ hx'=>((.s2 .h1 .h1):Sel _ H _).mem hx') (.tail _<|.head _) _).stb) aH<|hw1.owns ((.cons .here .nil):Sel [ve A,qL j,stb c 227 C,stb d 227 E,fz k] [ve A] [qL j,stb c 227 C,stb d 227 E,fz k])) ?_
   ·refine pT (LI:=(fun(g:Option Addr×Nat) (s:Nat×List z1×Int)=>[fz [],stb n 229 [vs g.1 s.2.1.length g.2],row (vs g.1 s.2.1.length g.2) 175 2 (s.2.1.flatMap xG),stb o 307 [vi s.2.2]])) (pc:=(fun(s:Nat×List z1×Int)=>gt [] s.1)) V aF aG (fun _ _=>U) (by decide) ?_
    rintro a _ ⟨ak,al⟩ ⟨aI,z,am⟩ aJ aK Fb wb an _ hz
    replace hz:=hz.left
    letI:Rnd:=pS q
    obtain⟨z2,b⟩:=xv an
    replace z2:aI=0:=z2;subst z2;clear an
    replace b:wZ a z am=some (aJ,aK):=b
    unfold wZ at b
    let J:Value:=(vs ak z.length al);let F:List Asrt:=[fz [],stb n 229 [J],row J 175 2 (z.flatMap xG),stb o 307 [vi am],xR q (y .ready none)];refine WC.restr (env':=[(11,.bool (!au)),(4,vp o),(5,vp n),(17,.agg #[vi a.1.yg.fN,vi a.1.yg.fD,vi a.1.ye.fN,vi a.1.ye.fD]),(18,.agg #[vi a.2.yg.fN,vi a.2.yg.fD,vi a.2.ye.fN,vi a.2.ye.fD])]) (.q U)<|WC.eqL (L':=F) U<|B0q<|Lg 7 (xC (cs:=[vi 0,vi 0,vi 0,vi 0]) zc2 U) ?_
    intro aL _
    refine Lk U U (xx zaH U U U .here U U U)<|Q0n<|Ld (Lg 8 (xC (cs:=[vi 0,vi 0,vi 0,vi 0]) zc2 U) fun aM _=>Lk U U (xx zaH U U U .here U U U)<|WL.nil<|WX.lb V .h6<|WC.block<|WC.b ?_)
    obtain⟨a5,aN,b⟩:=ze b
    let M:List Value:=[vi a.1.yg.fN,vi a.1.yg.fD];let N:List Value:=[vi a.2.yg.fN,vi a.2.yg.fD];refine Ld<|Le 19 (xk gD U U)<|Le 20 (wp (cs:=M) zi U U<|ko (s:=2) .h2 U)<|Le 21 (xk gD U U)<|Le 22 (wp (cs:=N) zi U U<|ko (s:=2) .h1 U)<|Lm 23 (zf call129<|.r2 U U) .nil (jH hz .nil .h3 fun w pz ho=>gl _ _ _ _ aN w pz )<|Q1n U<|WC.cond U (fun Y=>?_)<|fun Y=>?_
    ·replace b:=qq b Y
     obtain⟨a6,aO,b⟩:=ze b
     obtain⟨a7,aP,b⟩:=ze b
     obtain⟨R,aQ,b⟩:=ze b
     obtain⟨aR,b⟩:=xv b
     refine Lw (fun i=>[5,10,11,13,14].contains i) [uE n 229 [(0,J)],uE aL 225 [(2,vi a.1.ye.fN),(3,vi a.1.ye.fD)],uE aM 225 [(2,vi a.2.ye.fN),(3,vi a.2.ye.fD)]] U<|L6 0 25 U (ws.wk (.s3 .h4 .h2 .h1)<|.stb (.cons U .nil)<|.stb (.cons U<|.cons U .nil)<|.stb (.cons U<|.cons U .nil) .nil) (xl zaI U<|gQ .here<|.head _)<|Lf 1 26 U (xk gD U U)<|Li 2 27 U (wp (cs:=N) zi U U<|ko (s:=2) .h1 U)<|Lf 3 28 U (xk gD U U)<|Li 4 29 U (wp (cs:=M) zi U U<|ko (s:=2) .h2 U)<|Lf 6 31 U (xk me U U)<|L6 7 32 U (ws.wk (.s3 .h4 .h2 .h1)<|.stb (.cons U .nil)<|.stb (.cons U<|.cons U .nil)<|.stb (.cons U<|.cons U .nil) .nil) (wp (cs:=[vi a.1.ye.fN,vi a.1.ye.fD]) zi U U<|li .h1 (.head _)<|(.tail _<|.head _))<|Lf 8 33 U (xk me U U)<|L6 9 34 U (ws.wk (.s3 .h4 .h2 .h1)<|.stb (.cons U .nil)<|.stb (.cons U<|.cons U .nil)<|.stb (.cons U<|.cons U .nil) .nil) (wp (cs:=[vi a.2.ye.fN,vi a.2.ye.fD]) zi U U<|li .h2 (.head _)<|(.tail _<|.head _)) (WD.call0 (i:=5) (dd:=30) U (by kernel_rfl) U U U (.inl ⟨U,(ws.wk (.s3 .h5 .h3 .h2)<|.stb (.cons U .nil)<|.stb (.cons U<|.cons U .nil)<|.stb (.cons U<|.cons U .nil) .nil)⟩) (zf call210<|.r4 U U U U) (.cons .h6 .nil) (jH hz (.cons .h6 .nil) .h3 fun w pz ho=>Calls.mono (fI _ _ (zb3:=124) (zf5:=[]) _ (zd2:=(fun(y0:z1) (y1:z1)=>qa y0 y1)) _ _ _ aO w pz call124 (fun w' il y0 y1  r  hr=>rf _ _ _ _ hr w' il ) ho)<|fun _ _ h'=>⟨h'.1,trivial,h'.2⟩) fun _=>WD.call0 (i:=10) (dd:=35) U (by kernel_rfl) U U U (.inl ⟨U,(ws.wk (.s3 .h5 .h3 .h2)<|.stb (.cons U .nil)<|.stb (.cons U<|.cons U .nil)<|.stb (.cons U<|.cons U .nil) .nil)⟩) (zf call210<|.r4 U U U U) (.cons .here .nil) (jH hz (.cons .here .nil) .h3 fun w pz ho=>Calls.mono (fI _ _ (zb3:=124) (zf5:=[]) _ (zd2:=(fun(y0:z1) (y1:z1)=>qa y0 y1)) _ _ _ aP w pz call124 (fun w' il y0 y1  r  hr=>rf _ _ _ _ hr w' il ) ho)<|fun _ _ h'=>⟨h'.1,trivial,h'.2⟩) fun _=>WD.call0 (i:=11) (dd:=36) U (by kernel_rfl) U U U (.inl ⟨U,(ws.wk (.s3 .h5 .h3 .h2)<|.stb (.cons U .nil)<|.stb (.cons U<|.cons U .nil)<|.stb (.cons U<|.cons U .nil) .nil)⟩) (zf call210<|.r4 U U U U) (.cons .here .nil) (jH hz (.cons .here .nil) .h3 fun w pz ho=>Calls.mono (fI _ _ (zb3:=125) (zf5:=[]) _ (zd2:=(fun(y0:z1) (y1:z1)=>ki y0 y1)) _ _ _ aQ w pz call125 (fun w' il y0 y1  r  hr=>eR _ _ _ _ hr w' il ) ho)<|fun _ _ h'=>⟨h'.1,trivial,h'.2⟩) ?_)
     intro _
     refine WD.new (i:=12) (dd:=37) U (by kernel_rfl) U U U (xV (cs:=([R.1]:List z1).flatMap xG) z3K (Lq (l:=[.tmp 36]) (.cons U .nil) [0]) (fun _=>by kernel_rfl) U (by unfold maxLen;omega)) (fun h'=>absurd h' (by decide)) fun a3 _=>WD.old (i:=13) (dd:=38) U (by kernel_rfl) U U U U (fun _=>(ws.wk (.s3 .h7 .h5 .h4)<|.stb (.cons U .nil)<|.stb (.cons U<|.cons U .nil)<|.stb (.cons U<|.cons U .nil) .nil)) (kZ (enc:=xG) (l1:=z) (l2:=([R.1]:List z1)) z3K U U .h7 (fun _=>U) U U (qg .here) (gr cF _) aR) ?_
     rintro⟨ao,ap⟩ _
     refine WD.jf (i:=14) U (by kernel_rfl) U U U (by kernel_rfl) (xx zsX U U U .h7 U U U)<|WD.done (by kernel_rfl)<|Lu ?_
     obtain⟨rfl,rfl⟩:=pg b
     let K:Value:=(vs ao ((z++([R.1]:List z1)).length) ap);exact WX.mH V .h4<|fun w' oa=>⟨(ao,ap),U,trivial,(oa.selAll ((.s5 .h7 .h1 .h1 .h2 .here):Sel _ [fz [],stb n 229 [K],row K 175 2 ((z++([R.1]:List z1)).flatMap xG),stb o 307 [vi R.2.fE],xR q (y .ready none)] _)).sub (.cons .here .nil)⟩
    ·replace b:=qr b Y
     refine WC.skip<|Lu ?_
     obtain⟨rfl,rfl⟩:=pg b
     exact WX.mH V .here<|fun w' oa=>⟨(ak,al),U,trivial,(oa.selAll ((.s5 .h3 .h3 .h3 .h3 .here):Sel _ F _)).sub (.cons .here .nil)⟩
   ·rintro _ w' ⟨⟨aq,ar⟩,rfl,_,hp⟩
    have zB:=hw1.call ((.cons .here .nil):Sel [ve A,qL j,stb c 227 C,stb d 227 E,fz k] [ve A] [qL j,stb c 227 C,stb d 227 E,fz k]) hp
    let I:Value:=(vs aq m.2.1.length ar);have AO:Hp _ _ w' [fz [],stb n 229 [I],row I 175 2 (m.2.1.flatMap xG),stb o 307 [vi m.2.2],xR q (y (ul (gt [] m.1)) (gt [] m.1)),qL j,stb c 227 C,stb d 227 E,fz k]:=zB.pickAll .here
    refine⟨_,gt [] m.1,_,U,AO.sub ((.s9 .h4 .here .here .here .here .here .here .here .here):Sel _ [xR q (y (ul (gt [] m.1)) (gt [] m.1)),fz [],stb n 229 [I],row I 175 2 (m.2.1.flatMap xG),stb o 307 [vi m.2.2],qL j,stb c 227 C,stb d 227 E,fz k] _),?_⟩
    clear hp zB AO pz hw hw1
    refine wjN ?_
    letI:Rnd:=f9 j
    exact WX.merge .here .h6<|Lu<|WX.midR (D:=fun(g:Nat×Int×List z1×Zp×Option Addr×Nat)=>g.1) (G:=Nat×Int×List z1×Zp×Option Addr×Nat) ⟨j,m.2.2,m.2.1,k++[],aq,ar⟩ ⟨h,(aB.trans<|zl.trans (xm.xH _ _ _))⟩ (.q U)<|.s5 .here .h2 .here .here .here
  ·rintro P t p Q u v ⟨h,a4⟩
   replace h:=(aA t p).symm.trans h
   letI:Rnd:=f9 P
   refine WC.b<|B0q<|Le 39 (xk sH U U)<|Le 40 (xl z5S U<|xu .h1 U)<|Q1n U<|Lj U h (fun aS h=>?_)<|fun aS h=>?_
   ·refine WC.b<|Lw nc [] U<|Lf 0 42 U (xk sH U U)<|Li 1 43 U (xl z5S U<|xu .h1 U)<|Lf 2 2 U (q_z U)<|Lf 3 3 U (q_z U)<|WD.done (by kernel_rfl)<|Lb<|WC.ret<|Ll<|WX.nilRow 175 2 ?_
    obtain rfl:=oJ h
    exact WX.uD .h5 results199 (.tmp U<|.tmp U .nil)<|fun w hw=>⟨none,0,vg U U,trivial,hw.sub (.cons .h1 .nil)⟩
   ·refine WC.skip<|Lb<|WC.b<|bK h fun aT aU h=>Ld<|Le 44 (xl zaI U<|xu .h2 U)<|WL.gj (dd:=45) U U U (zf call214<|.r2 U U) (.cons .h3 .nil) (jH hz (.cons .h3 .nil) .here fun w pz ho=>tr _ _ _ (zjU:=129) (zqi:=[]) _ (zjT:=(fun(y0:z1) (y1:z1)=>wS y0 y1)) _ aU w pz call129 (fun w' il y0 y1  r  hr=>gl _ _ _ _ hr w' il ) ho) ?_
    rintro  aV
    refine WL.restb (cs':=[vs u aT.length v]) .h3 (by rw[aV])<|Q0n<|WC.b<|bK h fun a8 aW h=>Ld<|Le 46 (xl zaI U<|xu .here U)<|WL.kY (dd:=47) U U U (zf call215<|.cons U .nil) (.cons .h1 .nil) (jH hz (.cons .h1 .nil) .h1 fun w pz ho=>tD _ _ _ _ _ aW w pz  ho) ?_
    rintro aX aY _
    refine Q2n U<|WC.ret ?_
    obtain rfl:=oJ h
    exact WX.uD .h4 results199 (.tmp U<|.tmp U .nil)<|fun w hw=>⟨aX,aY,vg U U,trivial,hw.sub (.cons .h1 .nil)⟩
def jN(a:z8)(b:z8):Option Int:=
 (wS a.ye b.ye).bind fun c=>some c
theorem ey(Z:Zp)(a:z8)(b:z8)(r:Int)(h:jN a b=some r)(w₀:World)(hz:PZ [] w₀ Z):
  RC 217 #[.agg #[vi a.yg.fN,vi a.yg.fD,vi a.ye.fN,vi a.ye.fD],.agg #[vi b.yg.fN,vi b.yg.fD,vi b.ye.fN,vi b.ye.fD]] w₀ (vi r) [] []:=by
 unfold jN at h
 refine L0 func217 ntmps217 ?_
 refine WC.b<|Ld (Lg 2 (xP (cs:=[vi a.yg.fN,vi a.yg.fD,vi a.ye.fN,vi a.ye.fD]) U U) fun d _=>Lg 3 (xP (cs:=[vi b.yg.fN,vi b.yg.fD,vi b.ye.fN,vi b.ye.fD]) U U) fun e _=>Q1n U<|WC.b ?_)
 refine bK h fun f c h=>Ld<|Le 5 (xk me U U)<|Le 6 (wp (cs:=[vi a.ye.fN,vi a.ye.fD]) zi U U<|ko (s:=2) .h1 U)<|Le 7 (xk me U U)<|Le 8 (wp (cs:=[vi b.ye.fN,vi b.ye.fD]) zi U U<|ko (s:=2) .here U)<|Lm 9 (zf call129<|.r2 U U) .nil (cc hz .nil fun w pz ho=>gl _ _ _ _ c w pz )<|Q1n U<|WC.ret ?_
 obtain rfl:=oJ h
 exact Lh results217 (.tmp U .nil)<|fun w hw=>⟨xK U,hw.sub .nil⟩
def wr(b:List z8)(zap:z8->z8->Option Int)(g:Int->Int->Int->Int->Option z8):Nat->Int->Int->Int->Int->Int->Option z8
 | 0,_,_,_,_,_=>none
 | i+1,a,c,d,e,f=>if decide (a<b.length) then jp4 (fun(j:Int) (k:Int) (l:Int) (m:Int)=>wr b zap g i (i64 (a+1)) j k l m) fun h=>chk (0<=a/\a<b.length) ((zap (⟨(⟨((nth b a).yg).fN,((nth b a).yg).fD⟩:z1),(⟨((nth b a).ye).fN,((nth b a).ye).fD⟩:z1)⟩:z8) (⟨(⟨c,d⟩:z1),(⟨e,f⟩:z1)⟩:z8)).bind fun n=>if decide (n<0) then chk (0<=a/\a<b.length) (h (((nth b a).yg).fN) (((nth b a).yg).fD) (((nth b a).ye).fN) (((nth b a).ye).fD)) else h c d e f) else g c d e f
def vt(a:List z8)(zap:z8->z8->Option Int):Option z8:=
 if decide ((a.length:Int)<1) then none else chk ((0:Int)<=0/\0<(a.length:Int)) (jp4 (fun(b:Int) (c:Int) (d:Int) (e:Int)=>some (⟨(⟨b,c⟩:z1),(⟨d,e⟩:z1)⟩:z8)) fun f=>wr a zap f xI 1 (((nth a 0).yg).fN) (((nth a 0).yg).fD) (((nth a 0).ye).fN) (((nth a 0).ye).fD))
theorem uu(Z:Zp)(y:Option Addr)(z:Nat)(zfe:FuncId)(zk4:List Value)(a:List z8)(zap:z8->z8->Option Int)(r:z8)(h:vt a zap=some r)(w₀:World)(hz:PZ [] w₀ Z)(B:ZS Z 4 (rq vf) y z a)(F:∀ args w,(callFunc zfe args).run Tryz.prog w = .ok (.enter zfe args) w)(G:∀ w:World,PZ [] w Z->∀(x0:z8) (x1:z8) (r:Int),zap x0 x1=some r->Calls Tryz.prog zfe (([.agg #[vi x0.yg.fN,vi x0.yg.fD,vi x0.ye.fN,vi x0.ye.fD],.agg #[vi x1.yg.fN,vi x1.yg.fD,vi x1.ye.fN,vi x1.ye.fD]]:List Value)++zk4).toArray w fun e w'=>e = .returned (vi r)/\Hp [] w w' []):
  RC 216 #[vs y a.length z,.func (.func zfe) #[] (zk4).toArray] w₀ (.agg #[vi r.yg.fN,vi r.yg.fD,vi r.ye.fN,vi r.ye.fD]) [] []:=by
 unfold vt at h
 refine L0 func216 ntmps216 ?_
 let A:List Value:=[vi 0,vi 0,vi 0,vi 0];refine B0q<|Lg 4 (xC (cs:=A) zc2 U) ?_
 intro p _
 refine Q0n<|WC.b<|B1q U<|Le 8 (xQ underlying227 U)<|Q1n U<|Lj U h (fun H h=>?_)<|fun H h=>?_
 ·cases h
 ·refine WC.skip<|Lb<|WC.b<|cK h fun I h=>D1q U<|L2 (dd:=12) U U (Z:=Z) (Pr:=(rq vf)) z8J U U B I ?_
  rintro X Y J aa rfl
  refine Le 13 (xq z40 U (vY hz.pv J) U) (Lg 5 (xC (cs:=A) zc2 U) fun q _=>Lk U U (xx zaH U U U .here U U U)<|Q0n ?_)
  refine jK4 h fun E K h=>WC.rK (fun(s:Int) (t:Int) (u:Int) (v:Int)=>(E s t u v=some r)) (fun s t u v=>[(4,vp p),(5,vp q)]) (fun s t u v=>[stb p 225 A,stb q 225 [vi s,vi t,vi u,vi v]]) ?_ ?_
  ·let C:Value:=(.func (.func zfe) #[] (zk4).toArray);let D:Value:=(vs y a.length z);refine B1n U<|WC.block<|WC.pa (fun(x:Nat) (b:Int) (c:Int) (d:Int) (g:Int) (i:Int)=>(wr a zap E x b c d g i=some r)) (fun x b c d g i=>[(0,D),(1,C),(4,vp p),(5,vp q),(6,vi b)]) (fun x b c d g i=>[stb p 225 A,stb q 225 [vi c,vi d,vi g,vi i]]) (fun x b c d g i=>x) ⟨xI,1,((nth a 0).yg).fN,((nth a 0).yg).fD,((nth a 0).ye).fN,((nth a 0).ye).fD⟩ h (.q U) (.s2 .h1 .here) ?_
   rintro(_|L) b c d g i h;·cases h
   rw[wr] at h
   refine WC.b<|WC.b<|Ld<|La U<|La U<|Le 16 (xQ underlying227 U)<|Q1n U<|Lj U h (fun M h=>?_)<|fun M h=>?_
   ·refine WC.skip<|Lb<|jK4 h fun N O h=>WC.rK (fun(k:Int) (m:Int) (n:Int) (o:Int)=>(N k m n o=some r)) (fun k m n o=>[(0,D),(1,C),(4,vp p),(5,vp q),(6,vi b)]) (fun k m n o=>[stb p 225 A,stb q 225 [vi k,vi m,vi n,vi o]]) ?_ ?_
    ·refine WC.block<|WC.b<|cK h fun P h=>bK h fun Q R h=>Lw nc [] U<|Lf 0 20 U (q_m U)<|Lf 1 21 U (q_m U)<|Lf 2 22 U (q_m U)<|L8 (j:=3) (dd:=23) (by kernel_rfl) U z2J z2K U U (Z:=Z) (Pr:=(rq vf)) z8J U U B P ?_
     rintro ab ad S ae rfl
     refine Li 4 24 U (xq z40 U (vY hz.pv S) U)<|Li 5 25 U (xq z40 U (xt .h1) U)<|L5 6 26 U (qp (l:=[.tmp 24,.tmp 25]) (f:=zfe) (caps:=zk4) F U<|.r2 U U) (fun w hw=>G w (hz.now hw) (⟨(⟨((nth a b).yg).fN,((nth a b).yg).fD⟩:z1),(⟨((nth a b).ye).fN,((nth a b).ye).fD⟩:z1)⟩:z8) (⟨(⟨c,d⟩:z1),(⟨g,i⟩:z1)⟩:z8) Q  R)<|Lf 7 27 U (nr U U)<|WD.done (by kernel_rfl)<|Lb<|Lj U h (fun T h=>?_)<|fun T h=>?_
     ·refine cK h fun V h=>D2q U<|L2 (dd:=30) U U (Z:=Z) (Pr:=(rq vf)) z8J U U B V ?_
      rintro af ag W ah rfl
      exact Le 31 (xq z40 U (vY hz.pv W) U)<|Lk U U (xx zaH U U U .h1 U U U)<|WL.nil<|Lu<|Lp ⟨((nth a b).yg).fN,((nth a b).yg).fD,((nth a b).ye).fN,((nth a b).ye).fD⟩ h (.q U)<|.s2 .h1 .here
     ·exact WC.skip<|Lu<|Lp ⟨c,d,g,i⟩ h (.q U)<|.a2
    ·rintro k m n o h
     replace h:=(O k m n o).symm.trans h
     exact D3q U<|WL.nil<|WX.round ⟨L,i64 (b+1),k,m,n,o⟩ h (Nat.lt_succ_self _) (.q U)<|.a2
   ·exact WC.exit<|Ln<|Ln<|Lx<|Lp ⟨c,d,g,i⟩ h (.q U)<|.a2
  ·rintro s t u v h
   replace h:=(K s t u v).symm.trans h
   refine B0q<|Le 32 (xq z40 U (xt .h1) U)<|Lk U U (xx zaH U U U .here U U U)<|Q0n<|WC.ret ?_
   obtain rfl:=oJ h
   exact Lh results216 (.agg U z40 U (xt .here) .nil)<|fun w hw=>⟨xK U,hw.sub .nil⟩
def gZ(a:List z8):Option (z1×Int):=
 (g4 a).bind fun b=>if !b then some ((⟨0,0⟩:z1),2) else(vt a (fun(y0:z8) (y1:z8)=>jN y0 y1)).bind fun c=>some (c.ye,0)
theorem ag(Z:Zp)(b:Option Addr)(c:Nat)(a:List z8)(r:z1×Int)(h:gZ a=some r)(w₀:World)(hz:PZ [] w₀ Z)(d:ZS Z 4 (rq vf) b c a):
  RC 200 #[vs b a.length c] w₀ (.tuple #[.agg #[vi r.1.fN,vi r.1.fD],vi r.2]) [] []:=by
 unfold gZ at h
 refine L7 func200 ntmps200 ?_
 refine WC.b<|Ld (Lg 2 (xC (cs:=[vi 0,vi 0]) z1d U) fun j _=>Q1n U<|WC.b<|WC.b ?_)
 refine bK h fun k f h=>D1q U<|Lm 5 (zf call192<|.cons U .nil) .nil (cc hz .nil fun w pz ho=>tx _ _ _ _ _ f w pz d)<|Q1n U<|Lj U h (fun g h=>?_)<|fun g h=>?_
 ·refine B0q<|Le 7 (xU (v:=(.agg #[vi 0,vi 0])) (Lq (l:=[]) .nil []) (fun _=>by kernel_rfl))<|Lk U U (xx zI U U U .here U U U)<|Q1n U<|WC.ret<|Ll ?_
  obtain rfl:=oJ h
  exact Lh results200 (.agg U zi U (xt .here)<|.tmp U .nil)<|fun w hw=>⟨vg U U,hw.sub .nil⟩
 ·refine WC.skip<|Lb<|WC.b<|bK h fun e i h=>D1q U<|Lm 9 (zf call216<|.r2 U U) .nil (cc hz .nil fun w pz ho=>uu _ _ _ (zfe:=217) (zk4:=[]) _ (zap:=(fun(y0:z8) (y1:z8)=>jN y0 y1)) _ i w pz d call217<|fun w' il y0 y1  r  hr=>ey _ _ _ _ hr w' il )<|Le 10 (WM (cs':=#[vi e.ye.fN,vi e.ye.fD]) Xd zi U U)<|Lk U U (xx zI U U U .here U U U)<|Q1n U<|WC.ret ?_
  obtain rfl:=oJ h
  exact Lh results200 (.agg U zi U (xt .here)<|.tmp U .nil)<|fun w hw=>⟨vg U U,hw.sub .nil⟩
def wE(b:ym)(z9v:z1->z1->Option (z1×Int))(c:z1)(d:z1):Option (z1×ym):=
 if decide (b.fE≠0) then(kh).bind fun e=>some (e,b) else(z9v c d).bind fun a=>if decide (a.2≠0) then(kh).bind fun f=>some (f,(⟨a.2⟩:ym)) else some (a.1,(⟨a.2⟩:ym))
theorem qY(Z:Zp)(c:Nat)(z8Y:FuncId)(zaq:List Value)(d:ym)(z9v:z1->z1->Option (z1×Int))(a:z1)(b:z1)(r:z1×ym)(h:wE d z9v a b=some r)(w₀:World)(hz:Pz [stb c 277 [vi d.fE]] w₀ Z)(g:∀ args w,(callFunc z8Y args).run Tryz.prog w = .ok (.enter z8Y args) w)(i:∀ w:World,PZ [] w Z->∀(x0:z1) (x1:z1) (r:z1×Int),z9v x0 x1=some r->Calls Tryz.prog z8Y (([.agg #[vi x0.fN,vi x0.fD],.agg #[vi x1.fN,vi x1.fD]]:List Value)++zaq).toArray w fun e w'=>e = .returned (.tuple #[.agg #[vi r.1.fN,vi r.1.fD],vi r.2])/\Hp [] w w' [])(fh:Ho w₀ [stb c 277 [vi d.fE]]):
  RF 123 #[vp c,.func (.func z8Y) #[] (zaq).toArray,.agg #[vi a.fN,vi a.fD],.agg #[vi b.fN,vi b.fD]] w₀ (.agg #[vi r.1.fN,vi r.1.fD]) [stb c 277 [vi d.fE]] [stb c 277 [vi r.2.fE]]:=by
 unfold wE at h
 refine Calls.mE func123 ntmps123 fh ?_
 refine WC.b<|Ld (Lg 6 (xP (cs:=[vi a.fN,vi a.fD]) U U) fun q _=>Lg 7 (xP (cs:=[vi b.fN,vi b.fD]) U U) fun s _=>Lg 8 (xC (cs:=[vi 0,vi 0]) z1d U) fun t _=>Q0n<|WC.b<|B1q U<|Le 12 (wx U)<|Le 13 (xk mf U U)<|Le 14 (xl z5S U<|xu .h3 U)<|Q1n U<|Lj U h (fun j h=>?_)<|fun j h=>?_)
 ·refine WC.b<|bK h fun v k h=>Ld<|Lm 16 (zf call161 .nil) .nil (cc hz .nil fun w pz ho=>fG _ _ k w pz )<|Lk U U (xx zI U U U .here U U U)<|Q0n<|WC.ret<|Ll ?_
  obtain rfl:=oJ h
  exact Lh results123 (.agg U zi U (xt .here) .nil)<|fun w hw=>⟨xK U,hw.sub (.cons .h3 .nil)⟩
 ·refine WC.skip<|Lb<|WC.b<|bK h fun m n h=>D1q U<|Le 19 (xq zi U (xt .h2) U)<|Le 20 (xq zi U (xt .h1) U)<|Lm 21 (qp (l:=[.tmp 19,.tmp 20]) (f:=z8Y) (caps:=zaq) g U<|.r2 U U) .nil (fun w hw=>i w (hz.now hw) a b m  n)<|Q2q U<|La U (Lg 9 (xC (cs:=[vi 0,vi 0]) z1d U) fun u _=>Lk U U (xx zI U U U .here U U U)<|Q1n U<|WC.b<|WC.b<|Ld<|La U<|La U<|Le 26 (wx U)<|Le 27 (xk mf U U)<|Lk U U (xx zlQ U U U .h4 U U U)<|Q0n<|B2n U<|Lj U h (fun o h=>?_)<|fun o h=>?_)
  ·refine WC.b<|bK h fun x p h=>Ld<|Lm 30 (zf call161 .nil) .nil (cc hz .nil fun w pz ho=>fG _ _ p w pz )<|Lk U U (xx zI U U U .h2 U U U)<|Q0n<|WC.ret<|Ll ?_
   obtain rfl:=oJ h
   exact Lh results123 (.agg U zi U (xt .here) .nil)<|fun w hw=>⟨xK U,hw.sub (.cons .h1 .nil)⟩
  ·refine WC.skip<|Lb<|B0q<|Le 31 (xq zi U (xt .h1) U)<|Lk U U (xx zI U U U .h2 U U U)<|Q0n<|WC.ret ?_
   obtain rfl:=oJ h
   exact Lh results123 (.agg U zi U (xt .here) .nil)<|fun w hw=>⟨xK U,hw.sub (.cons .h1 .nil)⟩
def wN(b:List (List z8))(d:Int->Int->Int->Option Int):Nat->Int->Int->Int->Int->Option Int
 | 0,_,_,_,_=>none
 | i+1,a,e,f,g=>if decide (a<b.length) then chk (0<=a/\a<b.length) ((qm (nth b a)).bind fun h=>if decide (h.2≠0) then some h.2 else(gZ (nth b a)).bind fun j=>(wE (⟨e⟩:ym) (fun(y0:z1) (y1:z1)=>wL y0 y1) (⟨f,g⟩:z1) j.1).bind fun c=>wN b d i (i64 (a+1)) c.2.fE c.1.fN c.1.fD) else d e f g
def vD(a:List (List z8))(b:yn)(n:List (List z8))(o:yn)(p:List z1):Option Int:=
 (if decide ((a.length:Int)>32) then some true else(wW a (fun(y0:List z8)=>vH y0)).bind fun e=>some e).bind fun f=>(if f then some true else(gX b).bind fun g=>some (!g)).bind fun h=>if h then some 2 else(kh).bind fun c=>d7 (fun(d:Int) (i:Int) (j:Int)=>(if decide (d=0) then(wS (⟨i,j⟩:z1) b.ye).bind fun k=>some (decide (k>0)) else some false).bind fun l=>if l then some 6 else some d) fun m=>wN a m xI 0 0 c.fN c.fD
theorem t7(Z:Zp)(x:Option Addr)(y:Nat)(z:Addr)(I:Option Addr)(J:Nat)(D:Addr)(E:Option Addr)(F:Nat)(g:List (List z8))(a:yn)(G:List (List z8))(l:yn)(q:List z1)(r:Int)(h:vD g a G l q=some r)(w₀:World)(hz:PZ [] w₀ Z)(K:ZS Z 1 (qB Z) x y g)(ar:ZS Z 1 (qB Z) I J G)(au:ZC Z z [vs I G.length J])(av:ZC Z D [vi l.ye.fN,vi l.ye.fD,vi l.fL.fN,vi l.fL.fD])(aw:ZS Z 2 (rq xG) E F q):
  RC 163 #[.agg #[vs x g.length y,vi a.ye.fN,vi a.ye.fD,vi a.fL.fN,vi a.fL.fD,.func (.func f) #[] #[vq z,vq D],vs E q.length F]] w₀ (vi r) [] []:=by
 unfold vD at h
 refine L7 func163 ntmps163 ?_
 let C:Value:=(vs x g.length y);let A:List Value:=[C,vi a.ye.fN,vi a.ye.fD,vi a.fL.fN,vi a.fL.fD,.func (.func f) #[] #[vq z,vq D],vs E q.length F];refine B0q<|Lg 1 (xP (cs:=A) U U) ?_
 intro t _
 refine Q1n U<|WC.b<|WC.b<|bK h fun R L h=>bK h fun S M h=>Ld<|Le 11 (xk lm U U)<|Le 12 (xl ze4 U<|xu .here U)<|Le 13 (xQ underlying171 U)<|Q2q U<|Ly false 3 15 (B:=R) U U U U U U (fun h=>(oJ<|qq L h).symm) (fun _ T=>?_) ?_
 ·have m:=qr L T
  obtain⟨aF,V,m⟩:=ze m
  replace m:=oJ m
  exact Le 16 (xk lm U U)<|Le 17 (xl ze4 U<|xu .here U)<|Lm 18 (zf call196<|.r2 U U) .nil (cc hz .nil fun w pz ho=>mC _ _ _ (zjy:=197) (zq1:=[]) _ (zjx:=(fun(y0:List z8)=>vH y0)) _ V w pz K call197<|fun w' il y0 ga0 gc0 r C0 hr=>rQ _ _ _ _ _ hr w' il C0)<|La U<|Lz m U U .all
 refine La U<|Ly false 4 20 (B:=S) U U U U U U (fun h=>(oJ<|qq M h).symm) (fun _ W=>?_) ?_
 ·have n:=qr M W
  obtain⟨aG,X,n⟩:=ze n
  replace n:=oJ n
  exact Le 21 (xk ad U U)<|Le 22 (wp (cs:=[vi a.ye.fN,vi a.ye.fD,vi a.fL.fN,vi a.fL.fD]) zlR U U<|ko (s:=4) .here U)<|Lm 23 (zf call198<|.cons U .nil) .nil (cc hz .nil fun w pz ho=>bL _ _ _ X w pz )<|Q2q U<|Lz n U U .all
 refine Q0n<|Lj U h (fun Y h=>?_)<|fun Y h=>?_
 ·refine B1n U<|WC.ret<|Ll ?_
  obtain rfl:=oJ h
  exact Lh results163 (.tmp U .nil)<|fun w hw=>⟨xK U,hw.sub .nil⟩
 ·refine WC.skip<|Lb<|WC.b<|Ld (Lg 3 (xC (cs:=[vi 0]) zsV U) fun u _=>Q0n<|WC.b ?_)
  refine bK h fun N aa h=>Ld<|Lm 26 (zf call161 .nil) .nil (cc hz .nil fun w pz ho=>fG _ _ aa w pz ) (Lg 4 (xC (cs:=[vi 0,vi 0]) z1d U) fun v _=>Lk U U (xx zI U U U .here U U U)<|Q0n ?_)
  refine jK3 h fun O ab h=>WC.qN (fun(i:Int) (j:Int) (k:Int)=>(O i j k=some r)) (fun i j k=>[(1,vp t),(3,vp u),(4,vp v)]) (fun i j k=>[stb t 231 A,stb u 277 [vi i],stb v 175 [vi j,vi k]]) ?_ ?_
  ·refine B0q<|Le 27 (xk lm U U)<|Le 28 (xl ze4 U<|xu .h2 U)<|Le 29 (xQ underlying171 U)<|Q1n U<|WC.block<|WC.tz (fun(o:Nat) (b:Int) (c:Int) (d:Int) (e:Int)=>(wN g O o b c d e=some r)) (fun o b c d e=>[(1,vp t),(3,vp u),(4,vp v),(28,C),(29,vi (g.length:Int)),(30,vi b)]) (fun o b c d e=>[stb t 231 A,stb u 277 [vi c],stb v 175 [vi d,vi e]]) (fun o b c d e=>o) ⟨xI,0,0,N.fN,N.fD⟩ h (.q U) (.s3 .h2 .h1 .here) ?_
   rintro(_|ae) b c d e h;·cases h
   rw[wN] at h
   refine B1n U<|WC.b<|Lj U h (fun af h=>?_)<|fun af h=>?_
   ·refine WC.skip<|Lb<|WC.b<|WC.block<|WC.b<|cK h fun ah h=>Ld<|L2 (dd:=32) U U (Z:=Z) (Pr:=(qB Z)) zc1 U U K ah ?_
    rintro ax ay ai az ⟨aA,aB,rfl,P⟩
    refine Le 33 (xl zik U<|jS hz.pv ai U)<|Q1n U<|WC.b<|WC.b<|bK h fun aH aj h=>D1q U<|WL.kY (dd:=36) U U U (zf call199<|.cons U .nil) .nil (cc hz .nil fun w pz ho=>oM _ _ _ _ _ aj w pz P) ?_
    rintro aC aD _
    refine Q5n U<|B2n U<|Lj U h (fun ak h=>?_)<|fun ak h=>?_
    ·refine B2n U<|WC.ret<|Ll<|Lv<|Ll<|Ll<|Lv<|Ll ?_
     obtain rfl:=oJ h
     exact Lh results163 (.tmp U .nil)<|fun w hw=>⟨xK U,hw.sub .nil⟩
    ·refine WC.skip<|Lb<|WC.b<|bK h fun aI al h=>D1q U<|Lm 44 (zf call200<|.cons U .nil) .nil (cc hz .nil fun w pz ho=>ag _ _ _ _ _ al w pz P)<|Q2q U<|La U (Lg 9 (xC (cs:=[vi 0,vi 0]) z1d U) fun aE _=>Lk U U (xx zI U U U .here U U U)<|Q1n U ?_)
     exact bK h fun H am h=>Ld<|Le 47 (xq zi U (xt .h4) U)<|Le 48 (xq zi U (xt .here) U)<|Lm 49 (zf call123<|.r4 U U U U) (.cons .h3 .nil) (cc hz (.cons .h3 .nil) fun w pz ho=>qY _ _ (z8Y:=119) (zaq:=[]) _ (z9v:=(fun(y0:z1) (y1:z1)=>wL y0 y1)) _ _ _ am w pz call119 (fun w' il y0 y1  r  hr=>uJ _ _ _ _ hr w' il ) ho)<|Lk U U (xx zI U U U .h4 U U U)<|WL.nil<|Lu<|Lb<|D2q U<|WL.nil<|WX.round ⟨ae,i64 (b+1),H.2.fE,H.1.fN,H.1.fD⟩ h (Nat.lt_succ_self _) (.q U)<|.s3 .h4 .h1 .here
   ·exact WC.exit<|Ln<|Ln<|Lx<|Lp ⟨c,d,e⟩ h (.q U)<|.a3
  ·rintro i j k h
   replace h:=(ab i j k).symm.trans h
   refine WC.b<|WC.b<|bK h fun an Q h=>Ld<|Le 51 (xk mf U U)<|Le 52 (xl z5S U<|xu .h1 U)<|Q2q U<|Ly true 6 54 (B:=an) U U U U U U (fun h=>(oJ<|qr Q h).symm) (fun _ ao=>?_) ?_
   ·have p:=qq Q ao
    obtain⟨aJ,ap,p⟩:=ze p
    replace p:=oJ p
    exact Le 55 (xq zi U (xt .h2) U)<|Le 56 (xk ad U U)<|Le 57 (xk pj U U)<|Le 58 (wp (cs:=[vi a.ye.fN,vi a.ye.fD]) zi U U<|ko (s:=2) .here U)<|Lm 59 (zf call129<|.r2 U U) .nil (cc hz .nil fun w pz ho=>gl _ _ _ _ ap w pz )<|Q2q U<|Lz p U U .all
   refine Q0n<|Lj U h (fun aq h=>?_)<|fun aq h=>?_
   ·refine B1n U<|WC.ret<|Ll ?_
    obtain rfl:=oJ h
    exact Lh results163 (.tmp U .nil)<|fun w hw=>⟨xK U,hw.sub .nil⟩
   ·refine WC.skip<|Lb<|B0q<|Le 62 (xk mf U U)<|Le 63 (xl z5S U<|xu .h1 U)<|Q1n U<|WC.ret ?_
    obtain rfl:=oJ h
    exact Lh results163 (.tmp U .nil)<|fun w hw=>⟨xK U,hw.sub .nil⟩
def qS(b:List (List z8))(a:yn)(c:List (List z8))(d:yn)(e:List z1):Option (Int×Int×Int×Int):=
 some (a.ye.fN,a.ye.fD,a.fL.fN,a.fL.fD)
theorem uL(Z:Zp)(g:Option Addr)(i:Nat)(j:Addr)(p:Option Addr)(q:Nat)(k:Addr)(m:Option Addr)(n:Nat)(b:List (List z8))(a:yn)(o:List (List z8))(c:yn)(d:List z1)(r:Int×Int×Int×Int)(h:qS b a o c d=some r)(w₀:World)(hz:PZ [] w₀ Z)(u:ZS Z 1 (qB Z) g i b)(v:ZS Z 1 (qB Z) p q o)(x:ZC Z j [vs p o.length q])(y:ZC Z k [vi c.ye.fN,vi c.ye.fD,vi c.fL.fN,vi c.fL.fD])(z:ZS Z 2 (rq xG) m n d):
  Calls Tryz.prog 164 #[.agg #[vs g b.length i,vi a.ye.fN,vi a.ye.fD,vi a.fL.fN,vi a.fL.fD,.func (.func f) #[] #[vq j,vq k],vs m d.length n]] w₀ fun e w'=>∃ s:Nat,e = .returned (.func (.func 201) #[] #[vp s])/\True/\Hp [] w₀ w' [stb s 231 [vs g b.length i,vi r.1,vi r.2.1,vi r.2.2.1,vi r.2.2.2,.func (.func f) #[] #[vq j,vq k],vs m d.length n]]:=by
 unfold qS at h
 refine L7 func164 ntmps164 ?_
 refine WC.b<|Ld (Lg 1 (xP (cs:=[vs g b.length i,vi a.ye.fN,vi a.ye.fD,vi a.fL.fN,vi a.fL.fD,.func (.func f) #[] #[vq j,vq k],vs m d.length n]) U U) fun t _=>Q1n U<|B0q<|Le 3 (wq<|L4 (l:=[.tmp 1])<|.cons U .nil)<|Q1n U<|WC.ret ?_)
 obtain rfl:=oJ h
 exact Lh results164 (.tmp U .nil)<|fun w hw=>⟨t,xK U,trivial,hw.sub (.cons .here .nil)⟩
def vM(a:z1):Option Int:=
 (vx a).bind fun c=>if !c then some 0 else chk ((a.fD:Int)≠0) (jG (fun(d:Int)=>some d) fun b=>chk ((a.fD:Int)≠0) (if decide ((Int.tmod a.fN a.fD)<0) then b (i64 ((i64 (Int.tdiv a.fN a.fD))-1)) else b (i64 (Int.tdiv a.fN a.fD))))
theorem tt(Z:Zp)(a:z1)(r:Int)(h:vM a=some r)(w₀:World)(hz:PZ [] w₀ Z):
  RC 83 #[.agg #[vi a.fN,vi a.fD]] w₀ (vi r) [] []:=by
 unfold vM at h
 refine L7 func83 ntmps83 ?_
 refine WC.b<|Ld (Lg 1 (xP (cs:=[vi a.fN,vi a.fD]) U U) fun k _=>Q1n U<|WC.b<|WC.b ?_)
 refine bK h fun l c h=>Ld<|Le 4 (xq zi U (xt .here) U)<|Lm 5 (zf call130<|.cons U .nil) .nil (cc hz .nil fun w pz ho=>qC _ _ _ c w pz )<|Q1n U<|Lj U h (fun d h=>?_)<|fun d h=>?_
 ·refine B1n U<|WC.ret<|Ll ?_
  obtain rfl:=oJ h
  exact Lh results83 (.tmp U .nil)<|fun w hw=>⟨xK U,hw.sub .nil⟩
 ·refine WC.skip<|Lb<|WC.b<|cK h fun e h=>Ld<|Le 7 (xk qh U U)<|Le 8 (xl xB U<|xu .here U)<|Le 9 (xk qR U U)<|Le 10 (xl xB U<|xu .here U)<|Le 11 (l3 U U e U)<|Q1n U<|jK1 h fun f g h=>WC.jh (fun(b:Int)=>(f b=some r)) (fun b=>[(3,vi b)]) (fun b=>[]) ?_ ?_
  ·refine WC.b<|cK h fun i h=>Ld<|Le 12 (xk qh U U)<|Le 13 (xl xB U<|xu .here U)<|Le 14 (xk qR U U)<|Le 15 (xl xB U<|xu .here U)<|Le 16 (nq U U i U)<|Q1n U<|Lj U h (fun j h=>?_)<|fun j h=>?_
   ·exact D3q U<|WL.nil<|Lp (i64 ((i64<|Int.tdiv a.fN a.fD)-1)) h (.cons U .nil) .nil
   ·exact WC.skip<|Lp (i64<|Int.tdiv a.fN a.fD) h (.cons U .nil) .nil
  ·rintro b h
   replace h:=(g b).symm.trans h
   refine B2n U<|WC.ret ?_
   obtain rfl:=oJ h
   exact Lh results83 (.tmp U .nil)<|fun w hw=>⟨xK U,hw.sub .nil⟩
def ji(a:z1):Option Int:=
 (vx a).bind fun b=>if !b then some 0 else(vM (⟨i64 (0-a.fN),a.fD⟩:z1)).bind fun c=>some (i64 (0-c))
theorem dw(Z:Zp)(a:z1)(r:Int)(h:ji a=some r)(w₀:World)(hz:PZ [] w₀ Z):
  RC 202 #[.agg #[vi a.fN,vi a.fD]] w₀ (vi r) [] []:=by
 unfold ji at h
 refine L7 func202 ntmps202 ?_
 refine WC.b<|Ld (Lg 1 (xP (cs:=[vi a.fN,vi a.fD]) U U) fun e _=>Q1n U<|WC.b<|WC.b ?_)
 refine bK h fun f b h=>Ld<|Le 3 (xq zi U (xt .here) U)<|Lm 4 (zf call130<|.cons U .nil) .nil (cc hz .nil fun w pz ho=>qC _ _ _ b w pz )<|Q1n U<|Lj U h (fun c h=>?_)<|fun c h=>?_
 ·refine B1n U<|WC.ret<|Ll ?_
  obtain rfl:=oJ h
  exact Lh results202 (.tmp U .nil)<|fun w hw=>⟨xK U,hw.sub .nil⟩
 ·refine WC.skip<|Lb<|WC.b<|bK h fun g d h=>Ld<|Le 6 (xk qh U U)<|Le 7 (xl xB U<|xu .here U)<|Le 8 (ns U U)<|Le 9 (xk qR U U)<|Le 10 (xl xB U<|xu .here U)<|Le 11 (xU (v:=(.agg #[(vi<|i64 (0-a.fN)),vi a.fD])) (Lq (l:=[.tmp 8,.tmp 10]) (.r2 U U) [0,1]) (fun _=>by kernel_rfl))<|Lm 12 (zf call83<|.cons U .nil) .nil (cc hz .nil fun w pz ho=>tt _ _ _ d w pz )<|Le 13 (ns U U)<|Q1n U<|WC.ret ?_
  obtain rfl:=oJ h
  exact Lh results202 (.tmp U .nil)<|fun w hw=>⟨xK U,hw.sub .nil⟩
def wB(zA:Type)(b:List z1×Int)(z38:z1->zA->Option (Bool×zA))(e:zA->Option zA):Nat->Int->zA->Option zA
 | 0,_,_=>none
 | h+1,a,f=>if decide (a<b.1.length) then chk (0<=a/\a<b.1.length) ((vM (⟨(nth b.1 a).fN,(nth b.1 a).fD⟩:z1)).bind fun i=>(vU i).bind fun j=>(z38 j f).bind fun c=>(if !c.1 then some (true,c.2) else(ji (⟨(nth b.1 a).fN,(nth b.1 a).fD⟩:z1)).bind fun k=>(vU k).bind fun l=>(z38 l c.2).bind fun g=>some (!g.1,g.2)).bind fun d=>if d.1 then some d.2 else wB zA b z38 e h (i64 (a+1)) d.2) else e f
theorem tf{n:Nat}{zA:Type}{a:List z1×Int}{z38:z1->zA->Option (Bool×zA)}{b:zA->Option zA}{c:zA}{r:zA}(h:wB zA a z38 b n g c=some r):∃ m,n=m+1:=by
 cases n with
 | zero=>cases h
 | succ m=>exact⟨m,rfl⟩
def wC(zA:Type)(z3W:List (List z8))(z38:z1->zA->Option (Bool×zA))(b:zA->Option zA):Nat->Int->zA->Option zA
 | 0,_,_=>none
 | d+1,a,c=>if decide (a<z3W.length) then jG (fun(e:zA)=>wC zA z3W z38 b d (i64 (a+1)) e) fun f=>chk (0<=a/\a<z3W.length) ((qm (nth z3W a)).bind fun g=>jG (fun(h:zA)=>f h) fun i=>wB zA g z38 i xI 0 c) else b c
theorem tg{n:Nat}{zA:Type}{z3W:List (List z8)}{z38:z1->zA->Option (Bool×zA)}{a:zA->Option zA}{b:zA}{r:zA}(h:wC zA z3W z38 a n g b=some r):∃ m,n=m+1:=by
 cases n with
 | zero=>cases h
 | succ m=>exact⟨m,rfl⟩
def wD(zA:Type)(z4b:List z1)(z38:z1->zA->Option (Bool×zA))(d:zA->Option zA):Nat->Int->zA->Option zA
 | 0,_,_=>none
 | g+1,a,e=>if decide (a<z4b.length) then chk (0<=a/\a<z4b.length) ((vM (⟨(nth z4b a).fN,(nth z4b a).fD⟩:z1)).bind fun h=>(vU h).bind fun i=>(z38 i e).bind fun b=>(if !b.1 then some (true,b.2) else(ji (⟨(nth z4b a).fN,(nth z4b a).fD⟩:z1)).bind fun j=>(vU j).bind fun k=>(z38 k b.2).bind fun f=>some (!f.1,f.2)).bind fun c=>if c.1 then some c.2 else wD zA z4b z38 d g (i64 (a+1)) c.2) else d e
theorem th{n:Nat}{zA:Type}{z4b:List z1}{z38:z1->zA->Option (Bool×zA)}{a:zA->Option zA}{b:zA}{r:zA}(h:wD zA z4b z38 a n g b=some r):∃ m,n=m+1:=by
 cases n with
 | zero=>cases h
 | succ m=>exact⟨m,rfl⟩
def vb(zA:Type)(z38:z1->zA->Option (Bool×zA))(z8Z:zA)(z3W:List (List z8))(zfn:yn)(zki:List (List z8))(zfo:yn)(z4b:List z1):Option zA:=
 (kh).bind fun b=>(z38 b z8Z).bind fun a=>if !a.1 then some a.2 else jG (fun(c:zA)=>jG (fun(d:zA)=>some d) fun e=>wD zA z4b z38 e xI 0 c) fun f=>wC zA z3W z38 f xI 0 a.2
theorem mY(Z:Zp)(zA:Type)(z9z:Nat)(z5i:Type)(z3h:z5i->zA->Asrt)(z8s:z5i->zA->Prop)(zbc:z5i)(zbd:Addr)(zdi:Option Addr)(zdj:Nat)(zqJ:Addr)(zqK:Option Addr)(zqL:Nat)(zqM:Addr)(zkj:Option Addr)(zkk:Nat)(z38:z1->zA->Option (Bool×zA))(z8Z:zA)(z3W:List (List z8))(zfn:yn)(zki:List (List z8))(zfo:yn)(z4b:List z1)(r:zA)(w₀:World)(hz:Pz [z3h zbc z8Z] w₀ Z)(X:iC Tryz.prog Z z9z (α:=z1) (σ:=zA) (G:=z5i) (H:=Unit) (fun h x=>[.agg #[vi x.fN,vi x.fD]]) (fun h x=>[]) z38 z3h z8s)(aH:z8s zbc z8Z)(aI:ZS Z 1 (qB Z) zdi zdj z3W)(bA:ZS Z 1 (qB Z) zqK zqL zki)(bB:ZC Z zqJ [vs zqK zki.length zqL])(bC:ZC Z zqM [vi zfo.ye.fN,vi zfo.ye.fD,vi zfo.fL.fN,vi zfo.fL.fD])(aJ:ZS Z 2 (rq xG) zkj zkk z4b)(ai:ZC Z zbd [vs zdi z3W.length zdj,vi zfn.ye.fN,vi zfn.ye.fD,vi zfn.fL.fN,vi zfn.fL.fD,.func (.func f) #[] #[vq zqJ,vq zqM],vs zkj z4b.length zkk])(h:vb zA z38 z8Z z3W zfn zki zfo z4b=some r)(fh:Ho w₀ [z3h zbc z8Z]):
  Calls Tryz.prog 201 #[.func (.yield z9z) #[] #[],vq zbd] w₀ fun e w'=>∃ aj:z5i,e = .returned (.tuple #[])/\(z8s aj r)/\Hp (fps [z3h zbc z8Z]) w₀ w' [z3h aj r]:=by
 unfold vb at h
 refine Kd func201 ntmps201 fh ?_
 refine WC.b<|WC.b<|bK h fun aK aL h=>bK h fun af aM h=>D1q U<|Lm 12 (zf call161 .nil) .nil (cc hz .nil fun w pz ho=>fG _ _ aL w pz ) (WL.yield (dd:=13) (x:=aK) (h:=()) (g:=zbc) (s:=z8Z) (b:=af.1) (s':=af.2) X U U U (.cons U .nil) ((.cons .here .nil):Sel _ [z3h zbc z8Z] _) aM aH (fun w hw=>hz.call hw ((.cons .here .nil):Sel _ [z3h zbc z8Z] _)) fun ak al=>Q1n U<|Lj U h (fun aN h=>?_)<|fun aN h=>?_)
 ·refine WC.ret<|Ll ?_
  obtain rfl:=oJ h
  exact Lh results201 .nil<|fun w hw=>⟨ak,sp,al,hw.sub (.cons .here .nil)⟩
 ·refine WC.skip<|Lb ?_
  obtain⟨am,aO,h⟩:=wv h
  let A:Value:=(.func (.yield z9z) #[] #[]);refine WC.fm (fun(u:zA) (N:z5i)=>(am u=some r)/\(z8s N u)) (fun u N=>[(0,A),(1,vq zbd)]) (fun u N=>[z3h N u]) ?_ ?_
  ·let C:Value:=(vs zdi z3W.length zdj);let D:Value:=(vi (z3W.length:Int));refine B0q<|Le 15 (xk lm U U)<|Le 16 (xl ze4 U<|wy hz.pv ai U)<|Le 17 (xQ underlying171 U)<|Q1n U<|WC.block<|WC.mG (fun(O:Nat) (c:Int) (p:zA) (v:z5i)=>(wC zA z3W z38 am O c p=some r)/\(z8s v p)) (fun O c p v=>[(0,A),(1,vq zbd),(16,C),(17,D),(18,vi c)]) (fun O c p v=>[z3h v p]) (fun O c p v=>O) ⟨xI,0,af.2,ak⟩ ⟨h,al⟩ (.q U) (.cons .here .nil) ?_
   rintro O c p v ⟨h,an⟩
   obtain⟨aP,rfl⟩:=tg h
   rw[wC] at h
   refine B1n U<|WC.b<|Lj U h (fun aQ h=>?_)<|fun aQ h=>?_
   ·refine WC.skip<|Lb<|jK1 h fun aR aS h=>WC.fm (fun(y:zA) (P:z5i)=>(aR y=some r)/\(z8s P y)) (fun y P=>[(0,A),(1,vq zbd),(16,C),(17,D),(18,vi c)]) (fun y P=>[z3h P y]) ?_ ?_
    ·refine WC.block<|WC.b<|cK h fun aT h=>Ld<|L2 (dd:=20) U U (Z:=Z) (Pr:=(qB Z)) zc1 U U aI aT ?_
     rintro bD bE aU bF ⟨bG,bH,rfl,aV⟩
     refine Le 21 (xl zik U<|jS hz.pv aU U)<|Q1n U<|WC.b<|bK h fun k aW h=>D1q U<|WL.kY (dd:=24) U U U (zf call199<|.cons U .nil) .nil (cc hz .nil fun w pz ho=>oM _ _ _ _ _ aW w pz aV) ?_
     rintro aX ao _
     refine Q5n U<|B1q U<|Le 28 (xQ underlying229 U)<|Q1n U<|jK1 h fun ap aY h=>WC.oz (fun(z:zA) (Q:z5i)=>(ap z=some r)/\(z8s Q z)) (fun z Q=>[(0,A),(1,vq zbd),(16,C),(17,D),(18,vi c)]) (fun z Q=>[z3h Q z]) ?_ ?_
     ·let F:=(k.1.length:Int);let I:Value:=(vs aX k.1.length ao);refine WC.block<|WC.mG (fun(R:Nat) (a:Int) (d:zA) (m:z5i)=>(wB zA k z38 ap R a d=some r)/\(z8s m d)) (fun R a d m=>[(0,A),(1,vq zbd),(16,C),(17,D),(18,vi c),(27,I),(28,vi F),(29,vi a)]) (fun R a d m=>[row I 175 2 (k.1.flatMap xG),z3h m d]) (fun R a d m=>R) ⟨xI,0,p,v⟩ ⟨h,an⟩ (.q U) (.a2) ?_
      rintro R a d m ⟨h,aq⟩
      obtain⟨aZ,rfl⟩:=tf h
      rw[wB] at h
      refine B1n U<|WC.b<|Lj U h (fun a0 h=>?_)<|fun a0 h=>?_
      ·refine WC.skip<|Lb<|WC.b<|WC.block<|WC.b<|cK h fun Y h=>Ld<|Kf (fun w hw=>Hp.vJ .here hw (by intro il;have:=Y;rw[il] at this;omega)) ?_
       rintro⟨a1,rfl⟩
       refine Le 31 (w7 z3K U U Y.1 Y.2 qQ)<|Le 32 (wp (cs:=(xG<|nth k.1 a)) zi U U<|gq .here<|jb (enc:=xG) (l:=k.1) (i:=a) (sz:=2) (fun _=>U) Y.1 Y.2) (Lg 8 (xC (cs:=[vi 0,vi 0]) z1d U) fun a2 _=>Lk U U (xx zI U U U .here U U U)<|Q0n<|WC.b ?_)
       refine bK h fun bM a3 h=>bK h fun a4 a5 h=>bK h fun S a6 h=>bK h fun aa ar h=>D1q U<|Le 34 (xq zi U (xt .here) U)<|Lm 35 (zf call83<|.cons U .nil) .nil (cc hz .nil fun w pz ho=>tt _ _ _ a3 w pz )<|Lm 36 (zf call191<|.cons U .nil) .nil (cc hz .nil fun w pz ho=>gY _ _ _ a5 w pz )<|WL.yield (dd:=37) (x:=a4) (h:=()) (g:=m) (s:=d) (b:=S.1) (s':=S.2) X U U U (.cons U .nil) ((.cons .h2 .nil):Sel _ [z3h m d] _) a6 aq (fun w hw=>hz.call hw ((.cons .h2 .nil):Sel _ [z3h m d] _)) ?_
       intro ab au
       let E:Value:=(vs (some ⟨a1,0,none⟩) k.1.length ao);refine Q2q U<|WL.cut1 (fun(B:z5i)=>z8s B aa.2) (fun(B:z5i)=>[(0,A),(1,vq zbd),(16,C),(17,D),(18,vi c),(27,E),(28,vi F),(29,vi a),(46,.bool aa.1)]) (fun(B:z5i)=>[z3h B aa.2,stb a2 175 [(vi<|(nth k.1 a).fN),(vi<|(nth k.1 a).fD)],row E 175 2 (k.1.flatMap xG)]) 7 ?_<|fun B av=>?_
       ·rcases Bool.eq_false_or_eq_true (!S.1) with hb' | hb'
        ·have aw:=hb';clear hb'
         have ag:=qq ar aw
         replace ag:=oJ ag
         refine WL.pin (i:=39) U aw<|WL.e U U U<|WL.e U U U<|WL.e U U U<|WL.e U U U<|WL.e U U U<|WL.e U U U<|La U ?_
         subst ag
         exact WL.pQ ab au (.q U)<|.a3
        ·have ax:=hb';clear hb'
         have q:=qr ar ax
         obtain⟨bN,a7,q⟩:=ze q
         obtain⟨a8,a9,q⟩:=ze q
         obtain⟨ay,ba,q⟩:=ze q
         replace q:=oJ q
         refine WL.pin (i:=39) U ax<|La U<|Le 41 (xq zi U (xt .h1) U)<|Lm 42 (zf call202<|.cons U .nil) .nil (cc hz .nil fun w pz ho=>dw _ _ _ a7 w pz )<|Lm 43 (zf call191<|.cons U .nil) .nil (cc hz .nil fun w pz ho=>gY _ _ _ a9 w pz ) (WL.yield (dd:=44) (x:=a8) (h:=()) (g:=ab) (s:=S.2) (b:=ay.1) (s':=ay.2) X U U U (.cons U .nil) ((.cons .here .nil):Sel _ [z3h ab S.2] _) ba au (fun w hw=>hz.call hw ((.cons .here .nil):Sel _ [z3h ab S.2] _)) fun bb bc=>La U<|La U ?_)
         subst q
         exact WL.pQ bb bc (.q U)<|.a3
       ·refine Q0n<|Lj U h (fun bd h=>?_)<|fun bd h=>?_
        ·refine WC.ret<|Lv<|Ll<|Ll<|Lv<|Ll<|Lv<|Ll<|Ll<|Lv<|Ll ?_
         obtain rfl:=oJ h
         exact Lh results201 .nil<|fun w hw=>⟨B,sp,av,hw.sub (.cons .here .nil)⟩
        ·exact WC.skip<|Lu<|Lb<|D2q U<|WL.nil<|WX.round ⟨aZ,i64 (a+1),aa.2,B⟩ ⟨h,av⟩ (Nat.lt_succ_self _) (.q U)<|.s2 .h2 .here
      ·exact WC.exit<|Ln<|Ln<|Lx<|Lp ⟨d,m⟩ ⟨h,aq⟩ (.q U)<|.cons .h1 .nil
     ·rintro z Q ⟨h,be⟩
      replace h:=(aY z).symm.trans h
      exact Lu<|Lp ⟨z,Q⟩ ⟨h,be⟩ (.q U)<|.cons .here .nil
    ·rintro y P ⟨h,bf⟩
     replace h:=(aS y).symm.trans h
     exact D2q U<|WL.nil<|WX.round ⟨aP,i64 (c+1),y,P⟩ ⟨h,bf⟩ (Nat.lt_succ_self _) (.q U)<|.cons .here .nil
   ·exact WC.exit<|Ln<|Ln<|Lx<|Lp ⟨p,v⟩ ⟨h,an⟩ (.q U)<|.cons .here .nil
  ·rintro u N ⟨h,bg⟩
   replace h:=(aO u).symm.trans h
   refine B0q<|Le 49 (xk WT U U)<|Le 50 (xl zaI U<|wy hz.pv ai U)<|Le 51 (xQ underlying229 U)<|Q1n U<|jK1 h fun az bh h=>WC.oz (fun(L:zA) (T:z5i)=>(az L=some r)/\(z8s T L)) (fun L T=>[]) (fun L T=>[z3h T L]) ?_ ?_
   ·let J:Value:=(vs zkj z4b.length zkk);let K:Value:=(vi (z4b.length:Int));refine WC.block<|WC.mG (fun(V:Nat) (n:Int) (j:zA) (o:z5i)=>(wD zA z4b z38 az V n j=some r)/\(z8s o j)) (fun V n j o=>[(0,A),(50,J),(51,K),(52,vi n)]) (fun V n j o=>[z3h o j]) (fun V n j o=>V) ⟨xI,0,u,N⟩ ⟨h,bg⟩ (.q U) (.cons .here .nil) ?_
    rintro V n j o ⟨h,aA⟩
    obtain⟨bi,rfl⟩:=th h
    rw[wD] at h
    refine B1n U<|WC.b<|Lj U h (fun bj h=>?_)<|fun bj h=>?_
    ·refine WC.skip<|Lb<|WC.b<|WC.block<|WC.b<|cK h fun bk h=>Ld<|L2 (dd:=54) U U (Z:=Z) (Pr:=(rq xG)) z3K U U aJ bk ?_
     rintro bI bJ bl bL rfl
     refine Le 55 (xq zi U (vY hz.pv bl) U) (Lg 10 (xC (cs:=[vi 0,vi 0]) z1d U) fun bm _=>Lk U U (xx zI U U U .here U U U)<|Q0n<|WC.b ?_)
     refine bK h fun bO bn h=>bK h fun bo bp h=>bK h fun W bq h=>bK h fun ad aB h=>D1q U<|Le 57 (xq zi U (xt .here) U)<|Lm 58 (zf call83<|.cons U .nil) .nil (cc hz .nil fun w pz ho=>tt _ _ _ bn w pz )<|Lm 59 (zf call191<|.cons U .nil) .nil (cc hz .nil fun w pz ho=>gY _ _ _ bp w pz ) (WL.yield (dd:=60) (x:=bo) (h:=()) (g:=o) (s:=j) (b:=W.1) (s':=W.2) X U U U (.cons U .nil) ((.cons .h1 .nil):Sel _ [z3h o j] _) bq aA (fun w hw=>hz.call hw ((.cons .h1 .nil):Sel _ [z3h o j] _)) fun ae aC=>Q2q U<|WL.cut1 (fun(M:z5i)=>z8s M ad.2) (fun(M:z5i)=>[(0,A),(50,J),(51,K),(52,vi n),(69,.bool ad.1)]) (fun(M:z5i)=>[z3h M ad.2,stb bm 175 [(vi<|(nth z4b n).fN),(vi<|(nth z4b n).fD)]]) 7 ?_<|fun M aD=>?_)
     ·rcases Bool.eq_false_or_eq_true (!W.1) with hb' | hb'
      ·have aE:=hb';clear hb'
       have ah:=qq aB aE
       replace ah:=oJ ah
       refine WL.pin (i:=62) U aE<|WL.e U U U<|WL.e U U U<|WL.e U U U<|WL.e U U U<|WL.e U U U<|WL.e U U U<|La U ?_
       subst ah
       exact WL.pQ ae aC (.q U)<|.a2
      ·have aF:=hb';clear hb'
       have t:=qr aB aF
       obtain⟨bP,br,t⟩:=ze t
       obtain⟨bs,bt,t⟩:=ze t
       obtain⟨aG,bu,t⟩:=ze t
       replace t:=oJ t
       refine WL.pin (i:=62) U aF<|La U<|Le 64 (xq zi U (xt .h1) U)<|Lm 65 (zf call202<|.cons U .nil) .nil (cc hz .nil fun w pz ho=>dw _ _ _ br w pz )<|Lm 66 (zf call191<|.cons U .nil) .nil (cc hz .nil fun w pz ho=>gY _ _ _ bt w pz ) (WL.yield (dd:=67) (x:=bs) (h:=()) (g:=ae) (s:=W.2) (b:=aG.1) (s':=aG.2) X U U U (.cons U .nil) ((.cons .here .nil):Sel _ [z3h ae W.2] _) bu aC (fun w hw=>hz.call hw ((.cons .here .nil):Sel _ [z3h ae W.2] _)) fun bv bw=>La U<|La U ?_)
       subst t
       exact WL.pQ bv bw (.q U)<|.a2
     ·refine Q0n<|Lj U h (fun bx h=>?_)<|fun bx h=>?_
      ·refine WC.ret<|Lv<|Ll<|Ll<|Lv<|Ll ?_
       obtain rfl:=oJ h
       exact Lh results201 .nil<|fun w hw=>⟨M,sp,aD,hw.sub (.cons .here .nil)⟩
      ·exact WC.skip<|Lu<|Lb<|D2q U<|WL.nil<|WX.round ⟨bi,i64 (n+1),ad.2,M⟩ ⟨h,aD⟩ (Nat.lt_succ_self _) (.q U)<|.cons .here .nil
    ·exact WC.exit<|Ln<|Ln<|Lx<|Lp ⟨j,o⟩ ⟨h,aA⟩ .nil<|.cons .here .nil
   ·rintro L T ⟨h,bz⟩
    replace h:=(bh L).symm.trans h
    obtain rfl:=oJ h
    exact WX.gP results201 .nil<|fun w hw=>⟨T,sp,bz,hw.sub (.cons .here .nil)⟩
def vN(d:ym)(a:z8)(e:z1):Option (z1×ym):=
 (vA d (fun(y0:z1) (y1:z1)=>jy y0 y1) a.ye e).bind fun b=>(vA b.2 (fun(y0:z1) (y1:z1)=>wL y0 y1) a.yg b.1).bind fun c=>some (c.1,c.2)
theorem iQ(Z:Zp)(b:Nat)(d:ym)(a:z8)(c:z1)(r:z1×ym)(h:vN d a c=some r)(w₀:World)(hz:Pz [stb b 307 [vi d.fE]] w₀ Z)(fh:Ho w₀ [stb b 307 [vi d.fE]]):
  RF 194 #[vp b,.agg #[vi a.yg.fN,vi a.yg.fD,vi a.ye.fN,vi a.ye.fD],.agg #[vi c.fN,vi c.fD]] w₀ (.agg #[vi r.1.fN,vi r.1.fD]) [stb b 307 [vi d.fE]] [stb b 307 [vi r.2.fE]]:=by
 unfold vN at h
 refine Calls.oh3 func194 ntmps194 fh ?_
 refine WC.b<|Ld (Lg 4 (xP (cs:=[vi a.yg.fN,vi a.yg.fD,vi a.ye.fN,vi a.ye.fD]) U U) fun e _=>Lg 5 (xP (cs:=[vi c.fN,vi c.fD]) U U) fun j _=>Lg 6 (xC (cs:=[vi 0,vi 0]) z1d U) fun k _=>Q0n<|WC.b ?_)
 refine bK h fun l f h=>bK h fun m g h=>Lw (fun i=>[7,8,9].contains i) [uE e 225 [(0,vi a.yg.fN),(1,vi a.yg.fD)]] U<|Lf 0 7 U (q_m U)<|Lf 1 8 U (xk gD U U)<|L6 2 9 U (ws.wk (.cons .h2 .nil)<|.stb (.cons U<|.cons U .nil) .nil) (wp (cs:=[vi a.yg.fN,vi a.yg.fD]) zi U U<|li .here (.head _)<|(.tail _<|.head _))<|Lf 3 10 U (q_m U)<|Lf 4 11 U (xk me U U)<|Li 5 12 U (wp (cs:=[vi a.ye.fN,vi a.ye.fD]) zi U U<|ko (s:=2) .h2 U)<|Li 6 13 U (xq zi U (xt .h1) U) (WD.call0 (i:=7) (dd:=14) U (by kernel_rfl) U U U (.inl ⟨U,(ws.wk (.cons .h3 .nil)<|.stb (.cons U<|.cons U .nil) .nil)⟩) (zf call210<|.r4 U U U U) (.cons .h3 .nil) (cc hz (.cons .h3 .nil) fun w pz ho=>Calls.mono (fI _ _ (zb3:=120) (zf5:=[]) _ (zd2:=(fun(y0:z1) (y1:z1)=>jy y0 y1)) _ _ _ f w pz call120 (fun w' il y0 y1  r  hr=>iP _ _ _ _ hr w' il ) ho)<|fun _ _ h'=>⟨h'.1,trivial,h'.2⟩) fun _=>WD.call0 (i:=8) (dd:=15) U (by kernel_rfl) U U U (.inl ⟨U,(ws.wk (.cons .h3 .nil)<|.stb (.cons U<|.cons U .nil) .nil)⟩) (zf call210<|.r4 U U U U) (.cons .here .nil) (cc hz (.cons .here .nil) fun w pz ho=>Calls.mono (fI _ _ (zb3:=119) (zf5:=[]) _ (zd2:=(fun(y0:z1) (y1:z1)=>wL y0 y1)) _ _ _ g w pz call119 (fun w' il y0 y1  r  hr=>uJ _ _ _ _ hr w' il ) ho)<|fun _ _ h'=>⟨h'.1,trivial,h'.2⟩) fun _=>WD.jf (i:=9) U (by kernel_rfl) U U U (by kernel_rfl) (xx zI U U U .h1 U U U)<|WD.done (by kernel_rfl)<|Lb<|WC.ret ?_)
 obtain rfl:=oJ h
 exact Lh results194 (.agg U zi U (xt .here) .nil)<|fun w hw=>⟨xK U,hw.sub (.cons .h1 .nil)⟩
def wI(b:List z1)(zas:z1->z1->Option Int)(e:Int->Int->Option z1):Nat->Int->Int->Int->Option z1
 | 0,_,_,_=>none
 | g+1,a,c,d=>if decide (a<b.length) then si (fun(h:Int) (i:Int)=>wI b zas e g (i64 (a+1)) h i) fun f=>chk (0<=a/\a<b.length) ((zas (⟨(nth b a).fN,(nth b a).fD⟩:z1) (⟨c,d⟩:z1)).bind fun j=>if decide (j<0) then chk (0<=a/\a<b.length) (f ((nth b a).fN) ((nth b a).fD)) else f c d) else e c d
def vW(a:List z1)(zas:z1->z1->Option Int):Option z1:=
 if decide ((a.length:Int)<1) then none else chk ((0:Int)<=0/\0<(a.length:Int)) (si (fun(b:Int) (c:Int)=>some (⟨b,c⟩:z1)) fun d=>wI a zas d xI 1 ((nth a 0).fN) ((nth a 0).fD))
theorem tE(Z:Zp)(q:Option Addr)(s:Nat)(zfs:FuncId)(zkt:List Value)(b:List z1)(zas:z1->z1->Option Int)(r:z1)(h:vW b zas=some r)(w₀:World)(hz:PZ [] w₀ Z)(t:ZS Z 2 (rq xG) q s b)(v:∀ args w,(callFunc zfs args).run Tryz.prog w = .ok (.enter zfs args) w)(x:∀ w:World,PZ [] w Z->∀(x0:z1) (x1:z1) (r:Int),zas x0 x1=some r->Calls Tryz.prog zfs (([.agg #[vi x0.fN,vi x0.fD],.agg #[vi x1.fN,vi x1.fD]]:List Value)++zkt).toArray w fun e w'=>e = .returned (vi r)/\Hp [] w w' []):
  RC 195 #[vs q b.length s,.func (.func zfs) #[] (zkt).toArray] w₀ (.agg #[vi r.fN,vi r.fD]) [] []:=by
 unfold vW at h
 refine L0 func195 ntmps195 ?_
 refine WC.b<|Ld (Lg 4 (xC (cs:=[vi 0,vi 0]) z1d U) fun k _=>Q0n<|WC.b<|B1q U<|Le 8 (xQ underlying229 U)<|Q1n U<|Lj U h (fun y h=>?_)<|fun y h=>?_)
 ·cases h
 ·refine WC.skip<|Lb<|WC.b<|cK h fun z h=>D1q U<|L2 (dd:=12) U U (Z:=Z) (Pr:=(rq xG)) z3K U U t z ?_
  rintro P Q B R rfl
  refine Le 13 (xq zi U (vY hz.pv B) U) (Lg 5 (xC (cs:=[vi 0,vi 0]) z1d U) fun m _=>Lk U U (xx zI U U U .here U U U)<|Q0n ?_)
  refine jK2 h fun u D h=>WC.fm (fun(n:Int) (o:Int)=>(u n o=some r)) (fun n o=>[(4,vp k),(5,vp m)]) (fun n o=>[stb k 175 [vi 0,vi 0],stb m 175 [vi n,vi o]]) ?_ ?_
  ·let A:Value:=(.func (.func zfs) #[] (zkt).toArray);let C:Value:=(vs q b.length s);refine B1n U<|WC.block<|WC.mG (fun(p:Nat) (a:Int) (c:Int) (d:Int)=>(wI b zas u p a c d=some r)) (fun p a c d=>[(0,C),(1,A),(4,vp k),(5,vp m),(6,vi a)]) (fun p a c d=>[stb k 175 [vi 0,vi 0],stb m 175 [vi c,vi d]]) (fun p a c d=>p) ⟨xI,1,(nth b 0).fN,(nth b 0).fD⟩ h (.q U) (.s2 .h1 .here) ?_
   rintro(_|E) a c d h;·cases h
   rw[wI] at h
   refine WC.b<|WC.b<|Ld<|La U<|La U<|Le 16 (xQ underlying229 U)<|Q1n U<|Lj U h (fun F h=>?_)<|fun F h=>?_
   ·refine WC.skip<|Lb<|jK2 h fun G H h=>WC.fm (fun(g:Int) (i:Int)=>(G g i=some r)) (fun g i=>[(0,C),(1,A),(4,vp k),(5,vp m),(6,vi a)]) (fun g i=>[stb k 175 [vi 0,vi 0],stb m 175 [vi g,vi i]]) ?_ ?_
    ·refine WC.block<|WC.b<|cK h fun I h=>bK h fun J K h=>Lw nc [] U<|Lf 0 20 U (q_m U)<|Lf 1 21 U (q_m U)<|Lf 2 22 U (q_m U)<|L8 (j:=3) (dd:=23) (by kernel_rfl) U z2J z2K U U (Z:=Z) (Pr:=(rq xG)) z3K U U t I ?_
     rintro S T L V rfl
     refine Li 4 24 U (xq zi U (vY hz.pv L) U)<|Li 5 25 U (xq zi U (xt .h1) U)<|L5 6 26 U (qp (l:=[.tmp 24,.tmp 25]) (f:=zfs) (caps:=zkt) v U<|.r2 U U) (fun w hw=>x w (hz.now hw) (⟨(nth b a).fN,(nth b a).fD⟩:z1) (⟨c,d⟩:z1) J  K)<|Lf 7 27 U (nr U U)<|WD.done (by kernel_rfl)<|Lb<|Lj U h (fun M h=>?_)<|fun M h=>?_
     ·refine cK h fun N h=>D2q U<|L2 (dd:=30) U U (Z:=Z) (Pr:=(rq xG)) z3K U U t N ?_
      rintro W X O Y rfl
      exact Le 31 (xq zi U (vY hz.pv O) U)<|Lk U U (xx zI U U U .h1 U U U)<|WL.nil<|Lu<|Lp ⟨(nth b a).fN,(nth b a).fD⟩ h (.q U)<|.s2 .h1 .here
     ·exact WC.skip<|Lu<|Lp ⟨c,d⟩ h (.q U)<|.a2
    ·rintro g i h
     replace h:=(H g i).symm.trans h
     exact D3q U<|WL.nil<|WX.round ⟨E,i64 (a+1),g,i⟩ h (Nat.lt_succ_self _) (.q U)<|.a2
   ·exact WC.exit<|Ln<|Ln<|Lx<|Lp ⟨c,d⟩ h (.q U)<|.a2
  ·rintro n o h
   replace h:=(D n o).symm.trans h
   refine B0q<|Le 32 (xq zi U (xt .h1) U)<|Lk U U (xx zI U U U .here U U U)<|Q0n<|WC.ret ?_
   obtain rfl:=oJ h
   exact Lh results195 (.agg U zi U (xt .here) .nil)<|fun w hw=>⟨xK U,hw.sub .nil⟩
def j9(b:List z8)(e:z1)(f:(List z1)->Int->Option (z1×Int)):Nat->(List z1)->Int->Int->Option (z1×Int)
 | 0,_,_,_=>none
 | h+1,c,a,g=>if decide (a<b.length) then chk (0<=a/\a<b.length) ((vN (⟨g⟩:ym) (⟨(⟨((nth b a).yg).fN,((nth b a).yg).fD⟩:z1),(⟨((nth b a).ye).fN,((nth b a).ye).fD⟩:z1)⟩:z8) e).bind fun d=>chk (((c++([d.1]:List z1)).length:Int)*16<=140737488355328/\((c++([d.1]:List z1)).length:Int)<=4611686018427387904) (j9 b e f h (c++([d.1]:List z1)) (i64 (a+1)) d.2.fE)) else f c g
def gg(a:List z8)(b:z1):Option (z1×Int):=
 (g4 a).bind fun d=>(if !d then some true else(gW b).bind fun e=>some (!e)).bind fun f=>if f then some ((⟨0,0⟩:z1),2) else si (fun(g:List z1) (c:Int)=>if decide (c≠0) then some ((⟨0,0⟩:z1),c) else(vW g (fun(y0:z1) (y1:z1)=>wS y0 y1)).bind fun h=>some (h,0)) fun i=>j9 a b i xI ([]:List z1) 0 0
theorem Xi(Z:Zp)(u:Option Addr)(x:Nat)(k:List z8)(b:z1)(r:z1×Int)(h:gg k b=some r)(w₀:World)(hz:PZ [] w₀ Z)(y:ZS Z 4 (rq vf) u x k):
  RC 162 #[vs u k.length x,.agg #[vi b.fN,vi b.fD]] w₀ (.tuple #[.agg #[vi r.1.fN,vi r.1.fD],vi r.2]) [] []:=by
 unfold gg at h
 refine L0 func162 ntmps162 ?_
 refine WC.b<|Ld (Lg 3 (xP (cs:=[vi b.fN,vi b.fD]) U U) fun z _=>Lg 4 (xC (cs:=[vi 0,vi 0]) z1d U) fun s _=>Q1n U<|WC.b<|WC.b ?_)
 refine bK h fun aa D h=>bK h fun E A h=>D1q U<|Lm 11 (zf call192<|.cons U .nil) .nil (cc hz .nil fun w pz ho=>tx _ _ _ _ _ D w pz y)<|Q2q U<|Ly false 3 13 (B:=E) U U U U U U (fun h=>(oJ<|qq A h).symm) (fun _ F=>?_) ?_
 ·have m:=qr A F
  obtain⟨ab,G,m⟩:=ze m
  replace m:=oJ m
  exact Le 14 (xq zi U (xt .h1) U)<|Lm 15 (zf call193<|.cons U .nil) .nil (cc hz .nil fun w pz ho=>pp _ _ _ G w pz )<|Q2q U<|Lz m U U .all
 refine Q0n<|Lj U h (fun H h=>?_)<|fun H h=>?_
 ·refine B0q<|Le 18 (xU (v:=(.agg #[vi 0,vi 0])) (Lq (l:=[]) .nil []) (fun _=>by kernel_rfl))<|Lk U U (xx zI U U U .here U U U)<|Q1n U<|WC.ret<|Ll ?_
  obtain rfl:=oJ h
  exact Lh results162 (.agg U zi U (xt .here)<|.tmp U .nil)<|fun w hw=>⟨vg U U,hw.sub .nil⟩
 ·refine WC.skip<|Lb<|WC.b<|Ld (Lg 6 (xC (cs:=[vi 0]) zAD U) fun n _=>Q0n<|B1n U ?_)
  refine jK2 h fun C I h=>WC.rK (fun(c:List z1) (d:Int) (o:Option Addr) (p:Nat)=>(C c d=some r)) (fun c d o p=>[(4,vp s),(6,vp n),(7,vs o c.length p)]) (fun c d o p=>[row (vs o c.length p) 175 2 (c.flatMap xG),stb s 175 [vi 0,vi 0],stb n 307 [vi d]]) ?_ ?_
  ·refine B1q U<|Le 20 (xQ underlying227 U)<|Q1n U<|WC.block<|WC.nilRow 175 2<|WC.pa (fun(q:Nat) (a:List z1) (e:Int) (f:Int) (g:Option Addr) (j:Nat)=>(j9 k b C q a e f=some r)) (fun q a e f g j=>[(3,vp z),(4,vp s),(6,vp n),(7,vs g a.length j),(19,vs u k.length x),(20,vi (k.length:Int)),(21,vi e)]) (fun q a e f g j=>[row (vs g a.length j) 175 2 (a.flatMap xG),stb z 175 [vi b.fN,vi b.fD],stb s 175 [vi 0,vi 0],stb n 307 [vi f]]) (fun q a e f g j=>q) ⟨xI,([]:List z1),0,0,none,0⟩ h (.q U) (.s4 .here .h2 .h1 .here) ?_
   rintro(_|J) a e f g j h;·cases h
   rw[j9] at h
   refine B1n U<|WC.b<|Lj U h (fun K h=>?_)<|fun K h=>?_
   ·refine WC.skip<|Lb<|WC.b<|WC.block<|WC.b<|cK h fun L h=>Ld<|L2 (dd:=23) U U (Z:=Z) (Pr:=(rq vf)) z8J U U y L ?_
    rintro T V M W rfl
    refine Le 24 (xq z40 U (vY hz.pv M) U) (Lg 9 (xC (cs:=[vi 0,vi 0,vi 0,vi 0]) zc2 U) fun X _=>Lk U U (xx zaH U U U .here U U U)<|Q0n ?_)
    refine bK h fun t N h=>cK h fun O h=>D1q U<|Le 26 (xq z40 U (xt .here) U)<|Le 27 (xq zi U (xt .h2) U)<|Lm 28 (zf call194<|.r3 U U U) (.cons .h4 .nil) (cc hz (.cons .h4 .nil) fun w pz ho=>iQ _ _ _ _ _ _ N w pz  ho) (Lg 29 (xV (cs:=([t.1]:List z1).flatMap xG) z3K (Lq (l:=[.tmp 28]) (.cons U .nil) [0]) (fun _=>by kernel_rfl) U (by unfold maxLen;omega)) fun Y _=>WL.fA 30 (kZ (enc:=xG) (l1:=a) (l2:=([t.1]:List z1)) z3K U U .h3 (fun _=>U) U U (qg .here) (gr cF _) O) ?_)
    rintro⟨P,Q⟩ _
    exact La U<|WL.nil<|Lu<|Lb<|D2q U<|WL.nil<|WX.round ⟨J,a++([t.1]:List z1),i64 (e+1),t.2.fE,P,Q⟩ h (Nat.lt_succ_self _) (.q U)<|.s4 .here .h3 .h3 .h1
   ·exact WC.exit<|Ln<|Ln<|Lx<|Lp ⟨a,f,g,j⟩ h (.q U)<|.s3 .here .h1 .h1
  ·rintro c d o p h
   replace h:=(I c d).symm.trans h
   refine WC.b<|B0q<|Le 32 (xk sH U U)<|Le 33 (xl z5S U<|xu .h2 U)<|Q1n U<|Lj U h (fun R h=>?_)<|fun R h=>?_
   ·refine WC.b<|Lw (fun i=>[3].contains i) [uE n 307 [(0,vi d)]] U<|Lf 0 35 U (xU (v:=(.agg #[vi 0,vi 0])) (Lq (l:=[]) .nil []) (fun _=>by kernel_rfl))<|Lf 1 36 U (xk sH U U)<|L6 2 37 U (ws.wk (.cons .h2 .nil)<|.stb (.cons U .nil) .nil) (xl z5S U<|gQ .here<|.head _)<|WD.forced0 (i:=3) U (by kernel_rfl) U U U (ws.wk (.cons .h2 .nil)<|.stb (.cons U .nil) .nil) (xx zI U U U .h1 U U U)<|Lf 4 5 U (q_z U)<|WD.done (by kernel_rfl)<|Lb<|WC.ret<|Ll ?_
    obtain rfl:=oJ h
    exact Lh results162 (.agg U zi U (xt .here)<|.tmp U .nil)<|fun w hw=>⟨vg U U,hw.sub .nil⟩
   ·refine WC.skip<|Lb<|WC.b<|bK h fun ad S h=>D1q U<|Lm 39 (zf call195<|.r2 U U) .nil (sX hz .nil (.cons .here .nil) fun w pz ho la=>tE _ _ _ (zfs:=129) (zkt:=[]) _ (zas:=(fun(y0:z1) (y1:z1)=>wS y0 y1)) _ S w pz (ZA.row (la _ (.head _) _) (RR.flat (enc:=xG) (fun _=>U) _) ⟨w,pz.1⟩) call129<|fun w' il y0 y1  r  hr=>gl _ _ _ _ hr w' il )<|Lk U U (xx zI U U U .h1 U U U)<|Q1n U<|WC.ret ?_
    obtain rfl:=oJ h
    exact Lh results162 (.agg U zi U (xt .here)<|.tmp U .nil)<|fun w hw=>⟨vg U U,hw.sub .nil⟩
def vX(b:List (List z8))(e:z1)(f:Int->Int->Int->Option (z1×ym)):Nat->Int->Int->Int->Int->Option (z1×ym)
 | 0,_,_,_,_=>none
 | k+1,a,c,g,h=>if decide (a<b.length) then chk (0<=a/\a<b.length) ((gg (nth b a) e).bind fun i=>jG (fun(l:Int)=>(wE (⟨l⟩:ym) (fun(y0:z1) (y1:z1)=>wL y0 y1) (⟨g,h⟩:z1) i.1).bind fun d=>vX b e f k (i64 (a+1)) d.2.fE d.1.fN d.1.fD) fun j=>if decide (c=0) then j i.2 else j c) else f g h c
def jk(b:ym)(c:List (List z8))(d:z1):Option (z1×ym):=
 (kh).bind fun a=>d7 (fun(e:Int) (f:Int) (g:Int)=>some ((⟨e,f⟩:z1),(⟨g⟩:ym))) fun h=>vX c d h xI 0 b.fE a.fN a.fD
theorem tL(Z:Zp)(a:Nat)(s:Option Addr)(t:Nat)(o:ym)(f:List (List z8))(g:z1)(r:z1×ym)(h:jk o f g=some r)(w₀:World)(hz:Pz [stb a 277 [vi o.fE]] w₀ Z)(B:ZS Z 1 (qB Z) s t f)(fh:Ho w₀ [stb a 277 [vi o.fE]]):
  RF 126 #[vp a,vs s f.length t,.agg #[vi g.fN,vi g.fD]] w₀ (.agg #[vi r.1.fN,vi r.1.fD]) [stb a 277 [vi o.fE]] [stb a 277 [vi r.2.fE]]:=by
 unfold jk at h
 refine Calls.oh3 func126 ntmps126 fh ?_
 let A:List Value:=[vi g.fN,vi g.fD];refine B0q<|Lg 5 (xP (cs:=A) U U) ?_
 intro q _
 refine Lg 6 (xC (cs:=[vi 0,vi 0]) z1d U) fun i _=>Q0n<|WC.b<|bK h fun x E h=>Ld<|Lm 12 (zf call161 .nil) .nil (cc hz .nil fun w pz ho=>fG _ _ E w pz ) (Lg 7 (xC (cs:=[vi 0,vi 0]) z1d U) fun j _=>Lk U U (xx zI U U U .here U U U)<|Q0n ?_)
 refine jK3 h fun y F h=>WC.qN (fun(k:Int) (l:Int) (m:Int)=>(y k l m=some r)) (fun k l m=>[(6,vp i),(7,vp j)]) (fun k l m=>[stb i 175 [vi 0,vi 0],stb j 175 [vi k,vi l],stb a 277 [vi m]]) ?_ ?_
 ·let C:Value:=(vs s f.length t);let D:Value:=(vi (f.length:Int));refine B1q U<|Le 14 (xQ underlying171 U)<|Q1n U<|WC.block<|WC.tz (fun(p:Nat) (b:Int) (c:Int) (d:Int) (e:Int)=>(vX f g y p b c d e=some r)) (fun p b c d e=>[(0,vp a),(5,vp q),(6,vp i),(7,vp j),(13,C),(14,D),(15,vi b)]) (fun p b c d e=>[stb a 277 [vi c],stb q 175 A,stb i 175 [vi 0,vi 0],stb j 175 [vi d,vi e]]) (fun p b c d e=>p) ⟨xI,0,o.fE,x.fN,x.fD⟩ h (.q U) (.s4 .h3 .h2 .h1 .here) ?_
  rintro(_|G) b c d e h;·cases h
  rw[vX] at h
  refine B1n U<|WC.b<|Lj U h (fun H h=>?_)<|fun H h=>?_
  ·refine WC.skip<|Lb<|WC.b<|WC.block<|WC.b<|cK h fun I h=>Ld<|L2 (dd:=17) U U (Z:=Z) (Pr:=(qB Z)) zc1 U U B I ?_
   rintro Q R J S ⟨T,V,rfl,K⟩
   refine Le 18 (xl zik U<|jS hz.pv J U)<|Q1n U<|WC.b<|bK h fun u L h=>D1q U<|Le 21 (xq zi U (xt .h1) U)<|Lm 22 (zf call162<|.r2 U U) .nil (cc hz .nil fun w pz ho=>Xi _ _ _ _ _ _ L w pz K)<|Q2q U<|La U (Lg 10 (xC (cs:=[vi 0,vi 0]) z1d U) fun z _=>Lk U U (xx zI U U U .here U U U)<|Q1n U ?_)
   refine jK1 h fun M N h=>WC.jh (fun(n:Int)=>(M n=some r)) (fun n=>[(0,vp a),(5,vp q),(6,vp i),(7,vp j),(10,vp z),(13,C),(14,D),(15,vi b)]) (fun n=>[stb a 277 [vi n],stb q 175 A,stb i 175 [vi 0,vi 0],stb j 175 [vi d,vi e],stb z 175 [vi u.1.fN,vi u.1.fD]]) ?_ ?_
   ·refine B1q U<|Le 26 (wx U)<|Le 27 (xk mf U U)<|Le 28 (xl z5S U<|xu .h1 U)<|Q1n U<|Lj U h (fun O h=>?_)<|fun O h=>?_
    ·exact D2q U<|Le 32 (wx U)<|Le 33 (xk mf U U)<|Lk U U (xx zlQ U U U .h1 U U U)<|WL.nil<|Lp u.2 h (.q U)<|.s5 .here .h1 .h1 .h1 .here
    ·exact WC.skip<|Lp c h (.q U)<|.s5 .h1 .h1 .h1 .h1 .here
   ·rintro n h
    replace h:=(N n).symm.trans h
    exact bK h fun v P h=>D1q U<|Le 35 (xq zi U (xt .h3) U)<|Le 36 (xq zi U (xt .h4) U)<|Lm 37 (zf call123<|.r4 U U U U) (.cons .here .nil) (cc hz (.cons .here .nil) fun w pz ho=>qY _ _ (z8Y:=119) (zaq:=[]) _ (z9v:=(fun(y0:z1) (y1:z1)=>wL y0 y1)) _ _ _ P w pz call119 (fun w' il y0 y1  r  hr=>uJ _ _ _ _ hr w' il ) ho)<|Lk U U (xx zI U U U .h3 U U U)<|WL.nil<|Lu<|Lb<|D2q U<|WL.nil<|WX.round ⟨G,i64 (b+1),v.2.fE,v.1.fN,v.1.fD⟩ h (Nat.lt_succ_self _) (.q U)<|.s4 .h1 .h1 .h1 .here
  ·exact WC.exit<|Ln<|Ln<|Lx<|Lp ⟨d,e,c⟩ h (.q U)<|.s3 .h2 .h2 .here
 ·rintro k l m h
  replace h:=(F k l m).symm.trans h
  refine B0q<|Le 39 (xq zi U (xt .h1) U)<|Lk U U (xx zI U U U .here U U U)<|Q0n<|WC.ret ?_
  obtain rfl:=oJ h
  exact Lh results126 (.agg U zi U (xt .here) .nil)<|fun w hw=>⟨xK U,hw.sub (.cons .h2 .nil)⟩
def gm(g:ym)(a:z1)(h:List (List z8))(b:yn):Option (z1×ym):=
 (jk g h a).bind fun c=>(wE c.2 (fun(y0:z1) (y1:z1)=>ki y0 y1) c.1 b.ye).bind fun d=>(wE d.2 (fun(y0:z1) (y1:z1)=>qa y0 y1) d.1 a).bind fun e=>(wE e.2 (fun(y0:z1) (y1:z1)=>wL y0 y1) e.1 b.fL).bind fun f=>some (f.1,f.2)
theorem iS(Z:Zp)(c:Nat)(f:Addr)(g:Option Addr)(j:Nat)(k:Addr)(d:ym)(b:z1)(e:List (List z8))(a:yn)(r:z1×ym)(h:gm d b e a=some r)(w₀:World)(hz:Pz [stb c 277 [vi d.fE]] w₀ Z)(m:ZS Z 1 (qB Z) g j e)(n:ZC Z f [vs g e.length j])(l:ZC Z k [vi a.ye.fN,vi a.ye.fD,vi a.fL.fN,vi a.fL.fD])(fh:Ho w₀ [stb c 277 [vi d.fE]]):
  RF 122 #[vp c,.agg #[vi b.fN,vi b.fD],vq f,vq k] w₀ (.agg #[vi r.1.fN,vi r.1.fD]) [stb c 277 [vi d.fE]] [stb c 277 [vi r.2.fE]]:=by
 unfold gm at h
 refine Calls.mE func122 ntmps122 fh ?_
 refine WC.b<|Ld (Lg 5 (xP (cs:=[vi b.fN,vi b.fD]) U U) fun o _=>Lg 6 (xC (cs:=[vi 0,vi 0]) z1d U) fun v _=>Q0n<|WC.b ?_)
 refine bK h fun x p h=>bK h fun y q h=>bK h fun z t h=>bK h fun A u h=>Lw (fun i=>[6,9,11,14,15].contains i) [stb o 175 [vi b.fN,vi b.fD]] U<|Lf 0 7 U (q_m U)<|Lf 1 8 U (q_m U)<|Lf 2 9 U (q_m U)<|Lf 3 10 U (q_m U)<|Li 4 11 U (xl ze4 U<|jS hz.pv n U)<|Li 5 12 U (xq zi U (xt .h1) U)<|Lf 7 14 U (xk pj U U)<|L6 8 15 U (ws.of<|.cons .h1 .nil) (wp (cs:=[vi a.ye.fN,vi a.ye.fD]) zi U U<|oy (off:=0) (s:=2) hz.pv l U)<|L6 10 17 U (ws.of<|.cons .h1 .nil) (xq zi U (xt .here) U)<|Lf 12 19 U (xk sG U U)<|L6 13 20 U (ws.of<|.cons .h1 .nil) (wp (cs:=[vi a.fL.fN,vi a.fL.fD]) zi U U<|oy (off:=2) (s:=2) hz.pv l U) (WD.call0 (i:=6) (dd:=13) U (by kernel_rfl) U U U (.inl ⟨U,(ws.of<|.cons .h2 .nil)⟩) (zf call126<|.r3 U U U) (.cons .h2 .nil) (cc hz (.cons .h2 .nil) fun w pz ho=>Calls.mono (tL _ _ _ _ _ _ _ _ p w pz m ho)<|fun _ _ h'=>⟨h'.1,trivial,h'.2⟩) fun _=>WD.call0 (i:=9) (dd:=16) U (by kernel_rfl) U U U (.inl ⟨U,(ws.of<|.cons .h2 .nil)⟩) (zf call123<|.r4 U U U U) (.cons .here .nil) (cc hz (.cons .here .nil) fun w pz ho=>Calls.mono (qY _ _ (z8Y:=125) (zaq:=[]) _ (z9v:=(fun(y0:z1) (y1:z1)=>ki y0 y1)) _ _ _ q w pz call125 (fun w' il y0 y1  r  hr=>eR _ _ _ _ hr w' il ) ho)<|fun _ _ h'=>⟨h'.1,trivial,h'.2⟩) fun _=>WD.call0 (i:=11) (dd:=18) U (by kernel_rfl) U U U (.inl ⟨U,(ws.of<|.cons .h2 .nil)⟩) (zf call123<|.r4 U U U U) (.cons .here .nil) (cc hz (.cons .here .nil) fun w pz ho=>Calls.mono (qY _ _ (z8Y:=124) (zaq:=[]) _ (z9v:=(fun(y0:z1) (y1:z1)=>qa y0 y1)) _ _ _ t w pz call124 (fun w' il y0 y1  r  hr=>rf _ _ _ _ hr w' il ) ho)<|fun _ _ h'=>⟨h'.1,trivial,h'.2⟩) fun _=>WD.call0 (i:=14) (dd:=21) U (by kernel_rfl) U U U (.inl ⟨U,(ws.of<|.cons .h2 .nil)⟩) (zf call123<|.r4 U U U U) (.cons .here .nil) (cc hz (.cons .here .nil) fun w pz ho=>Calls.mono (qY _ _ (z8Y:=119) (zaq:=[]) _ (z9v:=(fun(y0:z1) (y1:z1)=>wL y0 y1)) _ _ _ u w pz call119 (fun w' il y0 y1  r  hr=>uJ _ _ _ _ hr w' il ) ho)<|fun _ _ h'=>⟨h'.1,trivial,h'.2⟩) fun _=>WD.jf (i:=15) U (by kernel_rfl) U U U (by kernel_rfl) (xx zI U U U .h1 U U U)<|WD.done (by kernel_rfl)<|Lb<|WC.ret ?_)
 obtain rfl:=oJ h
 exact Lh results122 (.agg U zi U (xt .here) .nil)<|fun w hw=>⟨xK U,hw.sub (.cons .h1 .nil)⟩
end Go.Proofs.YthjnhebofpebpaaGreat
