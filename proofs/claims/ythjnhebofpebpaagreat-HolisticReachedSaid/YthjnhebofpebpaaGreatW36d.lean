/- A part of this claim's proof: models of functions, walks, plain laws. No conditions. -/
import Derived.Test.YthjnhebofpebpaaGreatW36c
set_option linter.all false
namespace Go.Proofs.YthjnhebofpebpaaGreat
open Go Go.RowKit Sep Tryz
variable {f:Nat}{g:Int}
set_option maxRecDepth 30000
set_option maxHeartbeats 4000000
def qM(a:yt)(zgr:z2->z2->Option (z2×Int))(c:z2)(d:z2):Option (z2×yt):=
 if decide (a.fE≠0) then some ((⟨0,0⟩:z2),a) else(zgr c d).bind fun b=>some (b.1,(⟨b.2⟩:yt))
theorem tR{Z c}(ze2 zjO){d}(zgr){a b r}(h:qM d zgr a b=some r){Nx}(hz:Pz [stb c 307 [vi d.fE]] Nx Z)(g:∀ args w,(callFunc ze2 args).run Tryz.prog w = .ok (.enter ze2 args) w)(i:∀ w:World,PZ [] w Z->∀(x0:z2) (x1:z2) (r:z2×Int),zgr x0 x1=some r->Calls Tryz.prog ze2 (([.agg #[vi x0.fN,vi x0.fD],.agg #[vi x1.fN,vi x1.fD]]:List Value)++zjO).toArray w fun e w'=>e = .returned (.tuple #[.agg #[vi r.1.fN,vi r.1.fD],vi r.2])/\Hp [] w w' [])(eO:Ho Nx [stb c 307 [vi d.fE]]):
  RF 210 #[vp c,.func (.func ze2) #[] (zjO).toArray,.agg #[vi a.fN,vi a.fD],.agg #[vi b.fN,vi b.fD]] Nx (.agg #[vi r.1.fN,vi r.1.fD]) [stb c 307 [vi d.fE]] [stb c 307 [vi r.2.fE]]:=by
 unfold qM at h
 refine H3 func210 U eO U<|B0q (Lg 6 (wa (cs:=[vi a.fN,vi a.fD])) fun n _=>Lg 7 (wa (cs:=[vi b.fN,vi b.fD])) fun o _=>Lg 8 (xT (cs:=[vi 0,vi 0]) z1z) fun p _=>Q0n<|WC.b<|B1q U<|Le 12 xY<|Le 13 (xz lL)<|Le 14 (Nt z6h .h3)<|Q1n U<|Lj h (fun j h=>?_)<|fun j h=>?_)
 ·exact B0q<|Le 16 (we (v:=(.agg #[vi 0,vi 0])) (Lq (l:=[]) .nil []))<|Ll (xP zZ .here)<|Q0n<|Ny<|Lk<|oJ h▸Nm results210 (.agg U zh U (xM .here) .nil) (.cons .h3 .nil)
 ·refine Nn<|WC.b<|bK h fun m k h=>D1q U<|Le 19 (xK zh (xM .h2))<|Le 20 (xK zh (xM .h1))<|Ln 21 (qg (l:=[.tmp 19,.tmp 20]) (f:=ze2) (caps:=zjO) g<|.r2 U U) .nil (fun w hw=>i w (hz.now hw) a b m  k)<|Q2q U<|La U (Lg 9 (xT (cs:=[vi 0,vi 0]) z1z) fun q _=>Ll (xP zZ .here)<|Q1n U<|B2q U<|Le 26 xY<|Le 27 (xz lL)<|Ll (xP ztm .h4)<|Q0n<|B0q<|Le 28 (xK zh (xM .h1))<|Ll (xP zZ .h2)<|Q0n<|Ny ?_)
  exact oJ h▸Nm results210 (.agg U zh U (xM .here) .nil) (.cons .h1 .nil)
def c8(a:z2)(b:z2):Option (Int×Int):=
 some (i64 (a.fN*b.fD),i64 (a.fD*b.fN))
theorem Gl{Z c d a b r}(h:c8 a b=some r){Nx}(hz:PZ [] Nx Z)(e:ZC Z c [vi a.fN,vi a.fD])(f:ZC Z d [vi b.fN,vi b.fD]):
  RC 190 #[vq c,vq d] Nx (.tuple #[vi r.1,vi r.2]) [] []:=by
 unfold c8 at h
 exact L0 func190 U U<|B2n U<|WC.b<|Lu nc []<|Lf 0 U (xz jC)<|Lh 1 U (xA xJ U<|wq hz.pv e)<|Lf 2 U (xz kw)<|Lh 3 U (xA xJ U<|wq hz.pv f)<|Lf 4 U sZ<|Lf 5 U (xz kw)<|Lh 6 U (xA xJ U<|wq hz.pv e)<|Lf 7 U (xz jC)<|Lh 8 U (xA xJ U<|wq hz.pv f)<|Lf 9 U sZ<|Lf 10 U q_z<|Lf 11 U q_z<|N0<|Lb<|Ny<|oJ h▸Nm results190 (.tmp U<|.tmp U .nil) .nil
def ir(b:z2)(a:z2):Option (z2×Int):=
 (qG b).bind fun e=>(if !e then some true else(qG a).bind fun f=>some (!f)).bind fun g=>if g||(decide (a.fN=0)) then some ((⟨0,0⟩:z2),2) else(c8 b a).bind fun c=>(uF c.1 c.2).bind fun d=>some (d.1,d.2)
theorem Fa{Z b a r}(h:ir b a=some r){Nx}(hz:PZ [] Nx Z):
  RC 159 #[.string ⟨#[47]⟩,.agg #[vi b.fN,vi b.fD],.agg #[vi a.fN,vi a.fD]] Nx (.tuple #[.agg #[vi r.1.fN,vi r.1.fD],vi r.2]) [] []:=by
 unfold ir at h
 refine Nk func159 U U<|B0q (Lg 4 (wa (cs:=[vi b.fN,vi b.fD])) fun d _=>Lg 5 (wa (cs:=[vi a.fN,vi a.fD])) fun e _=>Lg 6 (xT (cs:=[vi 0,vi 0]) z1z) fun s _=>Q1n U<|WC.b<|WC.b ?_)
 refine bK h fun u i h=>bK h fun f g h=>Ld<|Le 9 (xK zh (xM .h2))<|Nr call130 hz (jU i)<|Q2q U<|Ly false 3 12 (B:=f) (hB:=(fun h=>(oJ<|qY g h).symm)) (fun _ j=>?_) ?_
 ·have c:=qZ g j
  obtain⟨y,m,c⟩:=za c
  replace c:=oJ c
  exact Le 13 (xK zh (xM .h1))<|Nr call130 hz (jU m)<|Q2q U<|Lz c U .all
 refine La U<|Ly false 7 17 (B:=f||(decide (a.fN=0))) (hB:=(fun h=>(gO h).symm)) (fun _ n=>?_) ?_
 ·exact La U<|Le 19 (Y7 (r:=true) U U)<|La U<|Le 21 (xz jC)<|Le 22 (Nt xJ .h1)<|La U<|La U<|La U<|Lz (gP n) U .all
 refine Q0n<|Lj h (fun o h=>?_)<|fun o h=>?_
 ·exact B0q<|Le 26 (we (v:=(.agg #[vi 0,vi 0])) (Lq (l:=[]) .nil []))<|Ll (xP zZ .here)<|Q1n U<|Ny<|Lk<|oJ h▸Nm results159 (.agg U zh U (xM .here)<|.tmp U .nil) .nil
 ·refine Nn<|B0q<|Lg 27 (kH Value.string<|fun x=>x) ?_
  intro t _
  let A:Value:=(.func (.func 190) #[] #[vp d,vp e]);refine Le 28 (wJ<|L6 (l:=[.tmp 4,.tmp 5])<|.r2 U U)<|Ll (gQ (k:=⟨#[43]⟩) (v:=(.func (.func 187) #[] #[vp d,vp e])) fI underlying304 .here)<|Le 29 (wJ<|L6 (l:=[.tmp 4,.tmp 5])<|.r2 U U)<|Ll (gQ (k:=⟨#[45]⟩) (v:=(.func (.func 188) #[] #[vp d,vp e])) fI underlying304 .here)<|Le 30 (wJ<|L6 (l:=[.tmp 4,.tmp 5])<|.r2 U U)<|Ll (gQ (k:=⟨#[42]⟩) (v:=(.func (.func 189) #[] #[vp d,vp e])) fI underlying304 .here)<|Le 31 (wJ<|L6 (l:=[.tmp 4,.tmp 5])<|.r2 U U)<|Ll (gQ (k:=⟨#[47]⟩) (v:=A) fI underlying304 .here)<|Q2n U<|WC.b ?_
  exact bK h fun z p h=>bK h fun C q h=>D2q U<|Le 35 (Y6 (k:=⟨#[47]⟩) (dflt:=.nilFunc) (r:=A) fI underlying304 zxk U U U .here)<|Ln 36 (qg (l:=[]) call190 .nil) .nil (ux hz .nil (.s2 .h3 .h2) fun w pz ho la=>Gl p pz ((la _ (.head _) _).stb)<|(la _ (.tail _<|.head _) _).stb)<|Q2q U<|Nr call160 hz (l4 q)<|Q2q U<|Ll (xP zZ .h1)<|Q1n U<|Ny<|oJ h▸Nm results159 (.agg U zh U (xM .here)<|.tmp U .nil) .nil
def f0(b:z2)(c:z2):Option (z2×Int):=
 (ir b c).bind fun a=>some (a.1,a.2)
theorem Vl{Z a b r}(h:f0 a b=some r){Nx}(hz:PZ [] Nx Z):
  RC 125 #[.agg #[vi a.fN,vi a.fD],.agg #[vi b.fN,vi b.fD]] Nx (.tuple #[.agg #[vi r.1.fN,vi r.1.fD],vi r.2]) [] []:=by
 unfold f0 at h
 refine L0 func125 U U<|B0q (Lg 2 (wa (cs:=[vi a.fN,vi a.fD])) fun d _=>Lg 3 (wa (cs:=[vi b.fN,vi b.fD])) fun e _=>Lg 4 (xT (cs:=[vi 0,vi 0]) z1z) fun f _=>Q1n U<|WC.b ?_)
 exact bK h fun g c h=>Ld<|Le 6 (xK zh (xM .h2))<|Le 7 (xK zh (xM .h1))<|Nr call159 hz (Fa c)<|Q2q U<|Ll (xP zZ .here)<|Q1n U<|Ny<|oJ h▸Nm results125 (.agg U zh U (xM .here)<|.tmp U .nil) .nil
theorem z15P:∀ w,(isAgg (Tryz.gn.t 24)).run Tryz.prog w = .ok true w:=fun _=>by kernel_rfl
theorem z15Q:∀ w,(Go.sizeOf (Tryz.gn.t 24)).run Tryz.prog w = .ok 2 w:=fun _=>by kernel_rfl
def mj(z7l:List z2)(zuL:Int)(zuM:Int)(zpM:Int)(zmJ:z2->z2->Option Int):Option (List z2):=chk ((zuL=0/\zuM=(z7l.length:Int))/\(0<=zpM/\zpM<4611686018427387904/\z7l.length<4611686018427387904)) (chk (oq zmJ (wx zmJ z7l)=true) (some (wx zmJ z7l)))
theorem oG{Z}(zmK zmL zuN zGH z7l zuL zuM zpM zmJ r){Nx}(hz:Pz [row (vs zmK z7l.length zmL) 175 2 (z7l.flatMap xX)] Nx Z)(a:∀ args w,(callFunc zuN args).run Tryz.prog w = .ok (.enter zuN args) w)(b:∀ w:World,PZ [] w Z->∀(x0:z2) (x1:z2) (r:Int),zmJ x0 x1=some r->Calls Tryz.prog zuN (([.agg #[vi x0.fN,vi x0.fD],.agg #[vi x1.fN,vi x1.fD]]:List Value)++zGH).toArray w fun e w'=>e = .returned (vi r)/\Hp [] w w' [])(h:mj z7l zuL zuM zpM zmJ=some r)(eO:Ho Nx [row (vs zmK z7l.length zmL) 175 2 (z7l.flatMap xX)]):
  Calls Tryz.prog 227 #[vs zmK z7l.length zmL,vi zuL,vi zuM,vi zpM,.func (.func zuN) #[] (zGH).toArray] Nx fun e w'=>e = .returned (.tuple #[])/\(r.length=z7l.length)/\Hp (fps [row (vs zmK z7l.length zmL) 175 2 (z7l.flatMap xX)]) Nx w' [row (vs zmK r.length zmL) 175 2 (r.flatMap xX)]:=by
 obtain⟨h0,h⟩:=xG h
 obtain⟨h1,h⟩:=xG h
 have hr:=(oJ h).symm
 exact ig (P:=Tryz.prog) (f:=227) (e:=175) (k:=2) (enc:=xX) Y8 (fun β _ enc cf g cb hO wm off cap d0 w0 eg hC R=>Tryz.lF 2 z15P z15Q enc cf g cb hO wm off cap d0 w0 eg hC R) (Tryz.lf (α:=Unit)) hz a b h0 h1 hr eO
def j5(a:List z2)(zpN:z2->z2->Option Int):Option (List z2):=
 (fj (u64 (a.length:Int))).bind fun b=>(mj a 0 (a.length:Int) b zpN).bind fun c=>some c
theorem og{Z b c}(zpO zyD){a}(zpN){r}(h:j5 a zpN=some r){Nx}(hz:Pz [row (vs b a.length c) 175 2 (a.flatMap xX)] Nx Z)(j:∀ args w,(callFunc zpO args).run Tryz.prog w = .ok (.enter zpO args) w)(k:∀ w:World,PZ [] w Z->∀(x0:z2) (x1:z2) (r:Int),zpN x0 x1=some r->Calls Tryz.prog zpO (([.agg #[vi x0.fN,vi x0.fD],.agg #[vi x1.fN,vi x1.fD]]:List Value)++zyD).toArray w fun e w'=>e = .returned (vi r)/\Hp [] w w' [])(eO:Ho Nx [row (vs b a.length c) 175 2 (a.flatMap xX)]):
  Calls Tryz.prog 214 #[vs b a.length c,.func (.func zpO) #[] (zyD).toArray] Nx fun e w'=>e = .returned (.tuple #[])/\(r.length=a.length)/\Hp (fps [row (vs b a.length c) 175 2 (a.flatMap xX)]) Nx w' [row (vs b r.length c) 175 2 (r.flatMap xX)]:=by
 unfold j5 at h
 refine Ni func214 U eO U<|B1q U<|Le 6 (w9 underlying229)<|Q1n U<|bK h fun d l h=>bK h fun f m h=>D3q U<|Le 10 (mL underlying3 underlying147)<|Nr call57 hz (fun pz=>oZ  (zaZ:=(u64 (a.length:Int))) (r:=d) pz  l)<|La U<|Nb U (Ns call227) (.cons .here .nil) (cc hz (.cons .here .nil) fun w pz ho=>oG (zmK:=b) (zmL:=c) (zuN:=zpO) (zGH:=zyD) (z7l:=a) (zuL:=0) (zuM:=(a.length:Int)) (zpM:=d) (zmJ:=zpN) (r:=f) pz j k m ho) ?_
 rintro  g
 exact L9 (i:=0) U (u:=(vs b f.length c)) (qB g.symm)<|WL.nil<|oJ h▸Nh results214 .nil fun w hw=>⟨mq,g.trans U,hw.sub (.cons .here .nil)⟩
def vD(e:List z2)(b:Int)(f:(List z2)->Int->Option (List z2)):Nat->(List z2)->Int->Int->Option (List z2)
 | 0,_,_,_=>none
 | h+1,c,d,a=>if decide (a<((e.length-(b:Int).toNat:Nat):Int)) then sk (fun(i:List z2) (j:Int)=>vD e b f h i j (i64 (a+1))) fun g=>chk (0<=a/\a<((e.length-(b:Int).toNat:Nat):Int)) (chk (0<=(i64 (a-1))/\(i64 (a-1))<((e.length-(b:Int).toNat:Nat):Int)) (if decide ((⟨(nth c (b+a)).fN,(nth c (b+a)).fD⟩:z2)≠(⟨(nth c (b+(i64 (a-1)))).fN,(nth c (b+(i64 (a-1)))).fD⟩:z2)) then chk (0<=a/\a<((e.length-(b:Int).toNat:Nat):Int)) (chk (0<=d/\d<c.length) (g (c.set (d:Int).toNat (⟨(nth c (b+a)).fN,(nth c (b+a)).fD⟩:z2)) (i64 (d+1)))) else g c d)) else f c d
def vE(b:List z2)(e:Option (List z2)):Nat->Int->Option (List z2)
 | 0,_=>none
 | f+1,a=>if decide (a<b.length) then mZ (vE b e f (i64 (a+1))) fun g=>chk (0<=a/\a<b.length) (chk (0<=(i64 (a-1))/\(i64 (a-1))<b.length) (if decide ((⟨(nth b a).fN,(nth b a).fD⟩:z2)=(⟨(nth b (i64 (a-1))).fN,(nth b (i64 (a-1))).fD⟩:z2)) then chk (0<=a/\a<b.length) (sk (fun(d:List z2) (c:Int)=>chk (0<=c/\c<=d.length) (chk (0<=c/\c<=(((d.take (c:Int).toNat++List.replicate (d.length-(c:Int).toNat) ((⟨0,0⟩:z2):z2)).length:Nat):Int)) (some ((d.take (c:Int).toNat++List.replicate (d.length-(c:Int).toNat) ((⟨0,0⟩:z2):z2)).take (c:Int).toNat)))) fun h=>vD b a h xR b a 1) else g)) else e
def jl(a:List z2):Option (List z2):=
 if decide ((a.length:Int)<2) then some a else mZ (some a) fun b=>vE a b xR 1
theorem ou{Z s j g r}(h:jl g=some r){Nx}(hz:Pz [row (vs s g.length j) 175 2 (g.flatMap xX)] Nx Z)(eO:Ho Nx [row (vs s g.length j) 175 2 (g.flatMap xX)]):
  Calls Tryz.prog 215 #[vs s g.length j] Nx fun e w'=>∃ N:Option Addr,∃ O:Nat,e = .returned (vs N r.length O)/\True/\Hp (fps [row (vs s g.length j) 175 2 (g.flatMap xX)]) Nx w' [row (vs N r.length O) 175 2 (r.flatMap xX)]:=by
 unfold jl at h
 refine Dz func215 U eO U<|B1n U<|WC.b<|B1q U<|Le 7 (w9 underlying229)<|Q1n U<|Lj h (fun V h=>?_)<|fun V h=>?_
 ·exact B2n U<|Ny<|Lk<|oJ h▸Li results215 (.tmp U .nil) fun w hw=>⟨s,j,xZ,trivial,hw.sub (.cons .here .nil)⟩
 ·refine Nn ?_
  obtain⟨P,W,h⟩:=qj h
  let C:Value:=(vs s g.length j);let E:List Asrt:=[row C 175 2 (g.flatMap xX)];refine Nd (P=some r) ([(0,C)]) E ?_ ?_
  ·refine B1n U<|WC.block<|Ng (fun G c=>(vE g P G c=some r)) (fun G c=>[(0,C),(3,vi c)]) (fun G c=>E) (fun G c=>G) ⟨xR,1⟩ h .q (.cons .here .nil) ?_
   rintro(_|am) c h;·cases h
   rw[vE] at h
   refine WC.b<|B2q U<|Le 12 (w9 underlying229)<|Q1n U<|Lj h (fun X h=>?_)<|fun X h=>?_
   ·refine Nn<|jK0 h fun an Y h=>Nd (an=some r) ([(0,C),(3,vi c)]) E ?_ ?_
    ·refine WC.block<|WC.b<|cK h fun H h=>cK h fun I h=>Lu nc []<|Lf 0 U q_m<|Lf 1 U q_m<|N5 (fun w hw=>Hp.vr .here hw (by intro hz';have:=H;rw[hz'] at this;omega)) ?_
     rintro⟨o,rfl⟩
     refine Lf 2 U (w3 z3U H.1 H.2 wI)<|Lh 3 U (wn (cs:=(xX<|nth g c)) zh<|vU .here<|wU (enc:=xX) (l:=g) (i:=c) (sz:=2) H.1 H.2)<|Lf 4 U q_m<|Lf 5 U q_m<|Lf 6 U td<|Lf 7 U (w3 z3U I.1 I.2 wI)<|Lh 8 U (wn (cs:=(xX<|nth g<|i64 (c-1))) zh<|vU .here<|wU (enc:=xX) (l:=g) (i:=i64 (c-1)) (sz:=2) I.1 I.2)<|Lf 9 U (lz (enc:=xX) (a:=(⟨(nth g c).fN,(nth g c).fD⟩:z2)) (b:=(⟨(nth g<|i64 (c-1)).fN,(nth g<|i64 (c-1)).fD⟩:z2)) zLI)<|N0<|Lb<|Lj h (fun aa h=>?_)<|fun aa h=>?_
     ·refine WC.b<|cK h fun t h=>D2q U<|P5 U U z3U U U .here t<|Q1n U<|jK2 h fun Q ab h=>H6 (fun m p=>(Q m p=some r)/\(m.length=g.length)) (fun m p=>[(0,vs (some ⟨o,0,none⟩) m.length j),(3,vi p)]) (fun m p=>[row (vs (some ⟨o,0,none⟩) m.length j) 175 2 (m.flatMap xX)]) ?_ ?_
      ·let D:Value:=(vs (some ⟨o,(c:Int).toNat*2,none⟩) (g.length-(c:Int).toNat) (j-(c:Int).toNat));refine B1n U<|WC.block<|H9 (fun x d n f=>(vD g c Q x d n f=some r)/\(d.length=g.length)) (fun x d n f=>[(0,vs (some ⟨o,0,none⟩) d.length j),(3,vi n),(4,D),(5,vi f)]) (fun x d n f=>[row (vs (some ⟨o,0,none⟩) d.length j) 175 2 (d.flatMap xX)]) (fun x d n f=>x) ⟨xR,g,c,1⟩ ⟨h,U⟩ .q (.cons .here .nil) ?_
       rintro (_|ao) d n f ⟨h,z⟩;·cases h
       rw[vD] at h
       refine WC.b<|B2q U<|Le 31 (w9 underlying229)<|Q1n U<|Lj h (fun ad h=>?_)<|fun ad h=>?_
       ·refine Nn<|jK2 h fun ap ae h=>H6 (fun q v=>(ap q v=some r)/\(q.length=g.length)) (fun q v=>[(0,vs (some ⟨o,0,none⟩) q.length j),(3,vi v),(4,D),(5,vi f)]) (fun q v=>[row (vs (some ⟨o,0,none⟩) q.length j) 175 2 (q.flatMap xX)]) ?_ ?_
        ·refine WC.block<|WC.b<|cK h fun J h=>cK h fun K h=>Lu nc []<|Lf 0 U q_m<|Lf 1 U q_m ?_
         have R:(0:Int)<=c+f/\c+f<d.length:=by have h1:=z;have h2:=t;have h3:=J;omega
         refine Lf 2 U (w3 z3U J.1 J.2<|YV t.1 J.1)<|Lh 3 U (wn (cs:=(xX<|nth d (c+f))) zh<|vU .here<|wU (enc:=xX) (l:=d) (i:=c+f) (sz:=2) R.1 R.2)<|Lf 4 U q_m<|Lf 5 U q_m<|Lf 6 U td ?_
         have S:(0:Int)<=c+(i64 (f-1))/\c+(i64 (f-1))<d.length:=by have h1:=z;have h2:=t;have h3:=K;omega
         refine Lf 7 U (w3 z3U K.1 K.2<|YV t.1 K.1)<|Lh 8 U (wn (cs:=(xX<|nth d (c+(i64 (f-1))))) zh<|vU .here<|wU (enc:=xX) (l:=d) (i:=c+(i64 (f-1))) (sz:=2) S.1 S.2)<|Lf 9 U (ew (enc:=xX) (a:=(⟨(nth d (c+f)).fN,(nth d (c+f)).fD⟩:z2)) (b:=(⟨(nth d (c+(i64 (f-1)))).fN,(nth d (c+(i64 (f-1)))).fD⟩:z2)) zLI U U)<|N0<|Lb<|Lj h (fun af h=>?_)<|fun af h=>?_
         ·refine WC.b<|cK h fun L h=>cK h fun B h=>D3q U<|La U ?_
          have T:(0:Int)<=c+f/\c+f<d.length:=by have h1:=z;have h2:=t;have h3:=L;omega
          let F:List Value:=[vi ((nth d (c+f)).fN),vi ((nth d (c+f)).fD)];refine Le 49 (w3 z3U L.1 L.2<|YV t.1 L.1)<|Le 50 (wn (cs:=(xX<|nth d (c+f))) zh<|vU .here<|wU (enc:=xX) (l:=d) (i:=c+f) (sz:=2) T.1 T.2)<|Le 51 (w3 z3U B.1 B.2 wI)<|Ll (g7 (vs:=F) (ds:=(d.set (n:Int).toNat (⟨(nth d (c+f)).fN,(nth d (c+f)).fD⟩:z2)).flatMap xX) zZ ry .here (mS (enc:=xX) (sz:=2) (k:=0) B.1 B.2)<|mR (enc:=xX) (l:=d) (sz:=2) (vs:=F) (y:=(⟨(nth d (c+f)).fN,(nth d (c+f)).fD⟩:z2)) (k:=0) B.1 B.2<|Nat.le_of_ble_eq_true U)<|Dy .here (u:=(vs (some ⟨o,0,none⟩) ((d.set (n:Int).toNat (⟨(nth d (c+f)).fN,(nth d (c+f)).fD⟩:z2)).length) j)) (qB (List.length_set).symm)<|L9 (i:=0) U (u:=(vs (some ⟨o,0,none⟩) ((d.set (n:Int).toNat (⟨(nth d (c+f)).fN,(nth d (c+f)).fD⟩:z2)).length) j)) (qB (List.length_set).symm)<|Q0n<|D3q U<|WL.nil<|Lt ?_
          exact Lo ⟨d.set (n:Int).toNat (⟨(nth d (c+f)).fN,(nth d (c+f)).fD⟩:z2),i64 (n+1)⟩ ⟨h,(List.length_set).trans z⟩ .q<|.cons .here .nil
         ·exact N2<|Lt<|Lo ⟨d,n⟩ ⟨h,z⟩ .q<|.cons .here .nil
        ·rintro q v ⟨h,ag⟩
         replace h:=(ae q v).symm.trans h
         exact D3q U<|WL.nil<|Nz ⟨ao,q,v,i64 (f+1)⟩ ⟨h,ag⟩ .q<|.cons .here .nil
       ·exact N1<|Lm<|Lm<|Lv<|Lo ⟨d,n⟩ ⟨h,z⟩ .q<|.cons .here .nil
      ·rintro m p ⟨h,aq⟩
       replace h:=(ab m p).symm.trans h
       refine WC.b<|cK h fun M h=>D2q U<|Po U U z3U U U .here M ?_
       intro ar au ai
       let A:Value:=(vs (some ⟨o,0,none⟩) ((m.take (p:Int).toNat++List.replicate (m.length-(p:Int).toNat) ((⟨0,0⟩:z2):z2)).length) j);refine Ll (ah (enc:=xX) (z0:=((⟨0,0⟩:z2):z2)) (l:=m) z3U z1z U ai M (fun _=>U) U Y8 .here)<|Dy .here (u:=A) (qB (oR M).symm)<|L9 (i:=0) U (u:=A) (qB (oR M).symm)<|Q0n<|WC.b ?_
       refine cK h fun aj h=>D1q U<|La U (Pa (enc:=xX) (ls:=m.take (p:Int).toNat++List.replicate (m.length-(p:Int).toNat) ((⟨0,0⟩:z2):z2)) U U z3U U U .here aj fun ak al=>Q1n U<|Ny<|Lw<|Lk<|Lk<|Lw<|Lk ?_)
       exact oJ h▸Li results215 (.tmp U .nil) fun w hw=>⟨ak,al,xZ,trivial,hw.sub (.cons .here .nil)⟩
     ·exact N2<|Lt<|Lo () h .q<|.cons .here .nil
    ·rintro  h
     replace h:=Y.symm.trans h
     exact D3q U<|WL.nil<|Nz ⟨am,i64 (c+1)⟩ h .q<|.cons .here .nil
   ·exact N1<|Lm<|Lm<|Lv<|Lo () h (.cons U .nil)<|.cons .here .nil
  ·rintro  h
   replace h:=W.symm.trans h
   exact B2n U<|Ny<|oJ h▸Li results215 (.tmp U .nil) fun w hw=>⟨s,j,xZ,trivial,hw.sub (.cons .here .nil)⟩
def qo(a:z8×z8)(b:List z2)(d:Int):Option (Bool×(Nat×List z2×Int)):=
 (q8 a.1.yi a.2.yi).bind fun g=>if decide (g<0) then(qM (⟨d⟩:yt) (fun y0 y1=>ju y0 y1) a.2.yi a.1.yi).bind fun e=>(qM e.2 (fun y0 y1=>ju y0 y1) a.1.fR a.2.fR).bind fun f=>(qM f.2 (fun y0 y1=>f0 y0 y1) e.1 f.1).bind fun c=>chk (((b++([c.1]:List z2)).length:Int)*16<=140737488355328/\((b++([c.1]:List z2)).length:Int)<=4611686018427387904) (some (true,(0,b++([c.1]:List z2),c.2.fE))) else some (true,(0,b,d))
def jH(a:List z8):Option (List z2×Int):=
 (mH a).bind fun f=>if !f then some (([]:List z2),2) else(py a).bind fun b=>sk (fun(c:Int) (g:List z2)=>if decide (c≠0) then some (([]:List z2),c) else(j5 g (fun y0 y1=>q8 y0 y1)).bind fun h=>(jl h).bind fun i=>some (i,0)) fun j=>(rD b b).bind fun d=>(uj (Nat×List z2×Int) (fun(x:z8×z8) (s:Nat×List z2×Int)=>chk (s.1=0) (qo x s.2.1 s.2.2)) (0,([]:List z2),0) d.1 d.2).bind fun e=>j e.2.2 e.2.1
theorem dJ{Z W X S r}(h:jH S=some r){Nx}(hz:PZ [] Nx Z)(aa:ZS Z 4 (rq qt) W X S):
  Calls Tryz.prog 199 #[vs W S.length X] Nx fun e w'=>∃ ab:Option Addr,∃ ad:Nat,e = .returned (.tuple #[vs ab r.1.length ad,vi r.2])/\True/\Hp [] Nx w' [row (vs ab r.1.length ad) 175 2 (r.1.flatMap xX)]:=by
 unfold jH at h
 let O:Value:=(vs W S.length X);refine Ob (vs:=[O]) (pre:=[]) (env:=[(0,O)]) func199 U ntmps199 U (Hp.nil Nx _) U ?_
 refine WC.pool<|B2n U<|WC.b<|WC.b<|bK h fun aU ar h=>D1q U<|Ln 10 (Ns call192) .nil (ms hz .nil .here fun w pz ho=>om ar pz<|aa.mono<|zl)<|Q1n U<|Lj h (fun au h=>?_)<|fun au h=>?_
 ·exact B2n U<|Ny<|Lk<|WX.nilRow 175 2<|oJ h▸O7 results199 (.tmp U<|.tmp U .nil) fun w hw=>⟨none,0,q9,trivial,hw.sub (.cons .here .nil)⟩
 ·refine Nn<|B0q (Lg 4 (xT (cs:=[vi 0]) zLF) fun o _=>Q0n<|B0q (Lg 5 (xT (cs:=[vn]) zCu) fun n _=>Q0n<|WC.b ?_))
  refine bK h fun aV av h=>D1q U<|H5 U (Ns call212) .nil (ms hz .nil .h2 fun w pz ho=>QO av pz<|aa.mono<|zl) ?_
  rintro aY aZ _
  refine Q1n U<|jK2 h fun aW aw h=>Rf (fun P t p Q u v=>(aW t p=some r)/\(xE (Z++[]) (Z++Q))) (fun P t p Q u v=>[(4,vp o),(5,vp n)]) (fun P t p Q u v=>[fz Q,stb o 307 [vi t],stb n 229 [vs u p.length v],row (vs u p.length v) 175 2 (p.flatMap xX),kj P]) ?_ ?_
  ·refine WC.b<|WC.freezeS (ls:=aV) .here .h2 hz (RR.flat (enc:=qt)) ?_
   intro k ax ae
   refine bK h fun T ay h=>D2q U<|P7 U U U (Ns call213) .nil (ms hz .nil .here fun w pz ho=>Q2 ay pz ae ae) ?_
   rintro c d af ag ah ai ⟨az,aA⟩
   refine Q0n<|WC.block<|WC.pool<|WC.drop (.s6 .here .h3 .h3 .here .here .here)<|WC.nilRow 175 2<|H7 (f:=226) (caps:=[vp c,vp d]) U call226 ?_
   intro a0 a1 q j y V aB aC w hw
   let L:Value:=(vs none (([]:List z2).length) 0);let A:List Asrt:=[fz [],stb n 229 [L],row L 175 2 (([]:List z2).flatMap xX),stb o 307 [vi 0],wm q (y .ready none)];have hw1:=hw.selAll ((.s5 .h3 .h3 .h2 .h2 .here):Sel _ A _)
   let C:List Value:=[vs af T.1.length ag];let E:List Value:=[vs ah T.2.length ai];let H:List Asrt:=[stb c 227 C,stb d 227 E];have pz:=(hz.call2 hw1 ((.cons .here .nil):Sel [qs A,kj j,stb c 227 C,stb d 227 E,fz k] [qs A] [kj j,stb c 227 C,stb d 227 E,fz k]) .h3).lend hw1 ((.cons .here .nil):Sel [qs A,kj j,stb c 227 C,stb d 227 E,fz k] [qs A] [kj j,stb c 227 C,stb d 227 E,fz k]) (B:=H) (fun _ hx'=>((.s2 .h1 .h1):Sel _ H _).mem hx')
   refine bK h fun m aD h=>Calls.mono (XS (zmy:=q) (zci:=(Option Addr×Nat)) (z9H:=(fun(g:Option Addr×Nat) (s:Nat×List z2×Int)=>qs ([fz [],stb n 229 [vs g.1 s.2.1.length g.2],row (vs g.1 s.2.1.length g.2) 175 2 (s.2.1.flatMap xX),stb o 307 [vi s.2.2]]++[wm q (y (rX<|uf [] s.1)<|uf [] s.1)]))) (zgq:=(fun(g:Option Addr×Nat) (s:Nat×List z2×Int)=>True)) (zmz:=(none,0)) (zGy:=⟨c,0,none⟩) (zmA:=af) (zmB:=ag) (zmC:=⟨d,0,none⟩) (zyw:=ah) (zyx:=ai) (z1d:=(Nat×List z2×Int)) (z7k:=(fun(x:z8×z8) (s:Nat×List z2×Int)=>chk (s.1=0)<|qo x s.2.1 s.2.2)) (ze0:=(0,([]:List z2),0)) (z2o:=T.1) (z3i:=T.2) (r:=m) pz ?_ trivial (az.mono<|zl) ((hw1.lent ((.cons .here .nil):Sel [qs A,kj j,stb c 227 C,stb d 227 E,fz k] [qs A] [kj j,stb c 227 C,stb d 227 E,fz k]) (B:=H) (fun _ hx'=>((.s2 .h1 .h1):Sel _ H _).mem hx') (.head _) _).stb) (aA.mono<|zl) ((hw1.lent ((.cons .here .nil):Sel [qs A,kj j,stb c 227 C,stb d 227 E,fz k] [qs A] [kj j,stb c 227 C,stb d 227 E,fz k]) (B:=H) (fun _ hx'=>((.s2 .h1 .h1):Sel _ H _).mem hx') (.tail _<|.head _) _).stb) aD<|hw1.owns ((.cons .here .nil):Sel [qs A,kj j,stb c 227 C,stb d 227 E,fz k] [qs A] [kj j,stb c 227 C,stb d 227 E,fz k])) ?_
   ·refine bH (LI:=(fun(g:Option Addr×Nat) (s:Nat×List z2×Int)=>[fz [],stb n 229 [vs g.1 s.2.1.length g.2],row (vs g.1 s.2.1.length g.2) 175 2 (s.2.1.flatMap xX),stb o 307 [vi s.2.2]])) (pc:=(fun(s:Nat×List z2×Int)=>uf [] s.1)) V aB aC ?_
    rintro a _ ⟨aj,ak⟩ ⟨aE,z,al⟩ aF aG Fb wb am _ hz
    replace hz:=hz.left
    letI:Rnd:=bG q
    obtain⟨Af,b⟩:=xG am
    replace Af:aE=0:=Af;subst Af;clear am
    replace b:qo a z al=some (aF,aG):=b
    unfold qo at b
    let J:Value:=(vs aj z.length ak);let F:List Asrt:=[fz [],stb n 229 [J],row J 175 2 (z.flatMap xX),stb o 307 [vi al],wm q (y .ready none)];refine WC.restr (env':=[(11,.bool (!aU)),(4,vp o),(5,vp n),(17,.agg #[vi a.1.yi.fN,vi a.1.yi.fD,vi a.1.fR.fN,vi a.1.fR.fD]),(18,.agg #[vi a.2.yi.fN,vi a.2.yi.fD,vi a.2.fR.fN,vi a.2.fR.fD])]) (.qo U)<|Oq (L':=F) U<|B0q<|Lg 7 (xT (cs:=[vi 0,vi 0,vi 0,vi 0]) zfp) ?_
    intro aH _
    refine Ll (xP zdF .here)<|Q0n<|Ld (Lg 8 (xT (cs:=[vi 0,vi 0,vi 0,vi 0]) zfp) fun aI _=>Ll (xP zdF .here)<|WL.nil<|Bl V .h6<|WC.block<|WC.b ?_)
    obtain⟨a4,aJ,b⟩:=za b
    let M:List Value:=[vi a.1.yi.fN,vi a.1.yi.fD];let N:List Value:=[vi a.2.yi.fN,vi a.2.yi.fD];refine Ld<|Le 19 (xz uq)<|Le 20 (wn (cs:=M) zh<|gK (s:=2) .h2 U)<|Le 21 (xz uq)<|Le 22 (wn (cs:=N) zh<|gK (s:=2) .h1 U)<|Ln 23 (Ns call129) .nil (ms hz .nil .h3 fun w pz ho=>ua aJ pz )<|Q1n U<|WC.cond U (fun Y=>?_)<|fun Y=>?_
    ·replace b:=qY b Y
     obtain⟨a5,aK,b⟩:=za b
     obtain⟨a6,aL,b⟩:=za b
     obtain⟨R,aM,b⟩:=za b
     obtain⟨aN,b⟩:=xG b
     refine Lu (fun i=>[5,10,11,13,14].contains i) [re n 229 [(0,J)],re aH 225 [(2,vi a.1.fR.fN),(3,vi a.1.fR.fD)],re aI 225 [(2,vi a.2.fR.fN),(3,vi a.2.fR.fD)]]<|L7 0 U (wB.wk (.s3 .h4 .h2 .h1)<|.stb (.cons U .nil)<|.stb (.cons U<|.cons U .nil)<|.stb (.cons U<|.cons U .nil) .nil) (xA zdG U<|mC .here<|.head _)<|Lf 1 U (xz uq)<|Lh 2 U (wn (cs:=N) zh<|gK (s:=2) .h1 U)<|Lf 3 U (xz uq)<|Lh 4 U (wn (cs:=M) zh<|gK (s:=2) .h2 U)<|Lf 6 U (xz se)<|L7 7 U (wB.wk (.s3 .h4 .h2 .h1)<|.stb (.cons U .nil)<|.stb (.cons U<|.cons U .nil)<|.stb (.cons U<|.cons U .nil) .nil) (wn (cs:=[vi a.1.fR.fN,vi a.1.fR.fD]) zh<|eH .h1 (.head _)<|(.tail _<|.head _))<|Lf 8 U (xz se)<|L7 9 U (wB.wk (.s3 .h4 .h2 .h1)<|.stb (.cons U .nil)<|.stb (.cons U<|.cons U .nil)<|.stb (.cons U<|.cons U .nil) .nil) (wn (cs:=[vi a.2.fR.fN,vi a.2.fR.fD]) zh<|eH .h2 (.head _)<|(.tail _<|.head _)) (WD.call0 (i:=5) U U (.inl ⟨U,(wB.wk (.s3 .h5 .h3 .h2)<|.stb (.cons U .nil)<|.stb (.cons U<|.cons U .nil)<|.stb (.cons U<|.cons U .nil) .nil)⟩) (Ns call210) (.cons .h6 .nil) (ms hz (.cons .h6 .nil) .h3 fun w pz ho=>Calls.mono (tR (ze2:=124) (zjO:=[]) (zgr:=(fun y0 y1=>ju y0 y1)) aK pz call124 (fun w' hz' y0 y1  r  hr=>iq hr hz' ) ho)<|fun _ _ h'=>⟨h'.1,trivial,h'.2⟩) fun _=>WD.call0 (i:=10) U U (.inl ⟨U,(wB.wk (.s3 .h5 .h3 .h2)<|.stb (.cons U .nil)<|.stb (.cons U<|.cons U .nil)<|.stb (.cons U<|.cons U .nil) .nil)⟩) (Ns call210) (.cons .here .nil) (ms hz (.cons .here .nil) .h3 fun w pz ho=>Calls.mono (tR (ze2:=124) (zjO:=[]) (zgr:=(fun y0 y1=>ju y0 y1)) aL pz call124 (fun w' hz' y0 y1  r  hr=>iq hr hz' ) ho)<|fun _ _ h'=>⟨h'.1,trivial,h'.2⟩) fun _=>WD.call0 (i:=11) U U (.inl ⟨U,(wB.wk (.s3 .h5 .h3 .h2)<|.stb (.cons U .nil)<|.stb (.cons U<|.cons U .nil)<|.stb (.cons U<|.cons U .nil) .nil)⟩) (Ns call210) (.cons .here .nil) (ms hz (.cons .here .nil) .h3 fun w pz ho=>Calls.mono (tR (ze2:=125) (zjO:=[]) (zgr:=(fun y0 y1=>f0 y0 y1)) aM pz call125 (fun w' hz' y0 y1  r  hr=>Vl hr hz' ) ho)<|fun _ _ h'=>⟨h'.1,trivial,h'.2⟩) ?_)
     intro _
     refine WD.new (i:=12) U U (wj (cs:=([R.1]:List z2).flatMap xX) z3U (Lq (l:=[.tmp 36]) (.cons U .nil) [0])) (fun h'=>absurd h' (by decide)) fun a2 _=>WD.old (i:=13) U U (fun _=>(wB.wk (.s3 .h7 .h5 .h4)<|.stb (.cons U .nil)<|.stb (.cons U<|.cons U .nil)<|.stb (.cons U<|.cons U .nil) .nil)) (kG (enc:=xX) (l1:=z) (l2:=([R.1]:List z2)) z3U .h7 (jB .here) (gF Y8) aN) ?_
     rintro⟨an,ao⟩ _
     refine Nc (i:=14) U (xP zCv .h7)<|N0<|Lt ?_
     obtain⟨rfl,rfl⟩:=cD b
     let K:Value:=(vs an ((z++([R.1]:List z2)).length) ao);exact Of V .h4<|fun w' oN=>⟨(an,ao),U,trivial,(oN.selAll ((.s5 .h7 .h1 .h1 .h2 .here):Sel _ [fz [],stb n 229 [K],row K 175 2 ((z++([R.1]:List z2)).flatMap xX),stb o 307 [vi R.2.fE],wm q (y .ready none)] _)).sub (.cons .here .nil)⟩
    ·replace b:=qZ b Y
     refine N2<|Lt ?_
     obtain⟨rfl,rfl⟩:=cD b
     exact Of V .here<|fun w' oN=>⟨(aj,ak),U,trivial,(oN.selAll ((.s5 .h3 .h3 .h3 .h3 .here):Sel _ F _)).sub (.cons .here .nil)⟩
   ·rintro _ w' ⟨⟨ap,aq⟩,rfl,_,hp⟩
    have zw:=hw1.call ((.cons .here .nil):Sel [qs A,kj j,stb c 227 C,stb d 227 E,fz k] [qs A] [kj j,stb c 227 C,stb d 227 E,fz k]) hp
    let I:Value:=(vs ap m.2.1.length aq);have AO:Hp _ _ w' [fz [],stb n 229 [I],row I 175 2 (m.2.1.flatMap xX),stb o 307 [vi m.2.2],wm q (y (rX (uf [] m.1)) (uf [] m.1)),kj j,stb c 227 C,stb d 227 E,fz k]:=zw.pickAll .here
    refine⟨_,uf [] m.1,_,U,AO.sub ((.s9 .h4 .here .here .here .here .here .here .here .here):Sel _ [wm q (y (rX (uf [] m.1)) (uf [] m.1)),fz [],stb n 229 [I],row I 175 2 (m.2.1.flatMap xX),stb o 307 [vi m.2.2],kj j,stb c 227 C,stb d 227 E,fz k] _),?_⟩
    clear hp zw AO pz hw hw1
    refine wjN ?_
    letI:Rnd:=ti j
    exact WX.merge .here .h6<|Lt<|Oe (D:=fun(g:Nat×Int×List z2×Zp×Option Addr×Nat)=>g.1) (G:=Nat×Int×List z2×Zp×Option Addr×Nat) ⟨j,m.2.2,m.2.1,k++[],ap,aq⟩ ⟨h,(ax.trans<|zl.trans xE.wv)⟩ .q<|.s5 .here .h2 .here .here .here
  ·rintro P t p Q u v ⟨h,a3⟩
   replace h:=(aw t p).symm.trans h
   letI:Rnd:=ti P
   refine WC.b<|B0q<|Le 39 (xz lL)<|Le 40 (Nt z6h .h1)<|Q1n U<|Lj h (fun aO h=>?_)<|fun aO h=>?_
   ·refine WC.b<|Lu nc []<|Lf 0 U (xz lL)<|Lh 1 U (Nt z6h .h1)<|Lf 2 U q_z<|Lf 3 U q_z<|N0<|Lb<|Ny<|Lk<|WX.nilRow 175 2 ?_
    obtain rfl:=oJ h
    exact Og .h5 results199 (.tmp U<|.tmp U .nil)<|fun w hw=>⟨none,0,q9,trivial,hw.sub (.cons .h1 .nil)⟩
   ·refine Nn<|WC.b<|bK h fun aX aP h=>Ld<|Le 44 (Nt zdG .h2)<|Nb U (Ns call214) (.cons .h3 .nil) (ms hz (.cons .h3 .nil) .here fun w pz ho=>og (zpO:=129) (zyD:=[]) (zpN:=(fun y0 y1=>q8 y0 y1)) aP pz call129 (fun w' hz' y0 y1  r  hr=>ua hr hz' ) ho) ?_
    rintro  aQ
    refine N9 (cs':=[vs u aX.length v]) .h3 (by rw[aQ])<|Q0n<|WC.b<|bK h fun a7 aR h=>Ld<|Le 46 (Nt zdG .here)<|H5 U (Ns call215) (.cons .h1 .nil) (ms hz (.cons .h1 .nil) .h1 fun w pz ho=>ou aR pz  ho) ?_
    rintro aS aT _
    refine Q2n U<|Ny ?_
    obtain rfl:=oJ h
    exact Og .h4 results199 (.tmp U<|.tmp U .nil)<|fun w hw=>⟨aS,aT,q9,trivial,hw.sub (.cons .h1 .nil)⟩
def gI(a:z8)(b:z8):Option Int:=
 (q8 a.fR b.fR).bind fun c=>some c
theorem WO{Z a b r}(h:gI a b=some r){Nx}(hz:PZ [] Nx Z):
  RC 217 #[.agg #[vi a.yi.fN,vi a.yi.fD,vi a.fR.fN,vi a.fR.fD],.agg #[vi b.yi.fN,vi b.yi.fD,vi b.fR.fN,vi b.fR.fD]] Nx (vi r) [] []:=by
 unfold gI at h
 refine L0 func217 U U<|B0q (Lg 2 (wa (cs:=[vi a.yi.fN,vi a.yi.fD,vi a.fR.fN,vi a.fR.fD])) fun d _=>Lg 3 (wa (cs:=[vi b.yi.fN,vi b.yi.fD,vi b.fR.fN,vi b.fR.fD])) fun e _=>Q1n U<|WC.b ?_)
 exact bK h fun f c h=>Ld<|Le 5 (xz se)<|Le 6 (wn (cs:=[vi a.fR.fN,vi a.fR.fD]) zh<|gK (s:=2) .h1 U)<|Le 7 (xz se)<|Le 8 (wn (cs:=[vi b.fR.fN,vi b.fR.fD]) zh<|gK (s:=2) .here U)<|Nr call129 hz (ua c)<|Q1n U<|Ny<|oJ h▸Nl results217
def wT(b:List z8)(zck:z8->z8->Option Int)(g:Int->Int->Int->Int->Option z8):Nat->Int->Int->Int->Int->Int->Option z8
 | 0,_,_,_,_,_=>none
 | i+1,a,c,d,e,f=>if decide (a<b.length) then jp4 (fun(j:Int) (k:Int) (l:Int) (m:Int)=>wT b zck g i (i64 (a+1)) j k l m) fun h=>chk (0<=a/\a<b.length) ((zck (⟨(⟨((nth b a).yi).fN,((nth b a).yi).fD⟩:z2),(⟨((nth b a).fR).fN,((nth b a).fR).fD⟩:z2)⟩:z8) (⟨(⟨c,d⟩:z2),(⟨e,f⟩:z2)⟩:z8)).bind fun n=>if decide (n<0) then chk (0<=a/\a<b.length) (h (((nth b a).yi).fN) (((nth b a).yi).fD) (((nth b a).fR).fN) (((nth b a).fR).fD)) else h c d e f) else g c d e f
def qF(a:List z8)(zck:z8->z8->Option Int):Option z8:=
 if decide ((a.length:Int)<1) then none else chk ((0:Int)<=0/\0<(a.length:Int)) (jp4 (fun(b:Int) (c:Int) (d:Int) (e:Int)=>some (⟨(⟨b,c⟩:z2),(⟨d,e⟩:z2)⟩:z8)) fun f=>wT a zck f xR 1 (((nth a 0).yi).fN) (((nth a 0).yi).fD) (((nth a 0).fR).fN) (((nth a 0).fR).fD))
theorem ph{Z y z}(zjX zpY){a}(zck){r}(h:qF a zck=some r){Nx}(hz:PZ [] Nx Z)(B:ZS Z 4 (rq qt) y z a)(F:∀ args w,(callFunc zjX args).run Tryz.prog w = .ok (.enter zjX args) w)(G:∀ w:World,PZ [] w Z->∀(x0:z8) (x1:z8) (r:Int),zck x0 x1=some r->Calls Tryz.prog zjX (([.agg #[vi x0.yi.fN,vi x0.yi.fD,vi x0.fR.fN,vi x0.fR.fD],.agg #[vi x1.yi.fN,vi x1.yi.fD,vi x1.fR.fN,vi x1.fR.fD]]:List Value)++zpY).toArray w fun e w'=>e = .returned (vi r)/\Hp [] w w' []):
  RC 216 #[vs y a.length z,.func (.func zjX) #[] (zpY).toArray] Nx (.agg #[vi r.yi.fN,vi r.yi.fD,vi r.fR.fN,vi r.fR.fD]) [] []:=by
 unfold qF at h
 refine L0 func216 U U ?_
 let A:List Value:=[vi 0,vi 0,vi 0,vi 0];refine B0q<|Lg 4 (xT (cs:=A) zfp) ?_
 intro p _
 refine Q0n<|WC.b<|B1q U<|Le 8 (w9 underlying227)<|Q1n U<|Lj h (fun H h=>?_)<|fun H h=>?_
 ·cases h
 ·refine Nn<|WC.b<|cK h fun I h=>D1q U<|L2 (Z:=Z) (Pr:=(rq qt)) zad B I ?_
  rintro X Y J aa rfl
  refine Le 13 (xK z4d (qx hz.pv J)) (Lg 5 (xT (cs:=A) zfp) fun q _=>Ll (xP zdF .here)<|Q0n ?_)
  refine jK4 h fun E K h=>Ow (fun s t u v=>(E s t u v=some r)) (fun s t u v=>[(4,vp p),(5,vp q)]) (fun s t u v=>[stb p 225 A,stb q 225 [vi s,vi t,vi u,vi v]]) ?_ ?_
  ·let C:Value:=(.func (.func zjX) #[] (zpY).toArray);let D:Value:=(vs y a.length z);refine B1n U<|WC.block<|Oi (fun x b c d g i=>(wT a zck E x b c d g i=some r)) (fun x b c d g i=>[(0,D),(1,C),(4,vp p),(5,vp q),(6,vi b)]) (fun x b c d g i=>[stb p 225 A,stb q 225 [vi c,vi d,vi g,vi i]]) (fun x b c d g i=>x) ⟨xR,1,((nth a 0).yi).fN,((nth a 0).yi).fD,((nth a 0).fR).fN,((nth a 0).fR).fD⟩ h .q (.s2 .h1 .here) ?_
   rintro(_|T) b c d g i h;·cases h
   rw[wT] at h
   refine WC.b<|B2q U<|Le 16 (w9 underlying227)<|Q1n U<|Lj h (fun L h=>?_)<|fun L h=>?_
   ·refine Nn<|jK4 h fun V M h=>Ow (fun k m n o=>(V k m n o=some r)) (fun k m n o=>[(0,D),(1,C),(4,vp p),(5,vp q),(6,vi b)]) (fun k m n o=>[stb p 225 A,stb q 225 [vi k,vi m,vi n,vi o]]) ?_ ?_
    ·refine WC.block<|WC.b<|cK h fun N h=>bK h fun W O h=>Lu nc []<|Lf 0 U q_m<|Lf 1 U q_m<|Lf 2 U q_m<|L5 (j:=3) (Z:=Z) (Pr:=(rq qt)) zad B N ?_
     rintro ab ad P ae rfl
     refine Lh 4 U (xK z4d (qx hz.pv P))<|Lh 5 U (xK z4d (xM .h1))<|L4 6 U (qg (l:=[.tmp 24,.tmp 25]) (f:=zjX) (caps:=zpY) F<|.r2 U U) (fun w hw=>G w (hz.now hw) (⟨(⟨((nth a b).yi).fN,((nth a b).yi).fD⟩:z2),(⟨((nth a b).fR).fN,((nth a b).fR).fD⟩:z2)⟩:z8) (⟨(⟨c,d⟩:z2),(⟨g,i⟩:z2)⟩:z8) W  O)<|Lf 7 U ra<|N0<|Lb<|Lj h (fun Q h=>?_)<|fun Q h=>?_
     ·refine cK h fun R h=>D2q U<|L2 (Z:=Z) (Pr:=(rq qt)) zad B R ?_
      rintro af ag S ah rfl
      exact Le 31 (xK z4d (qx hz.pv S))<|Ll (xP zdF .h1)<|WL.nil<|Lt<|Lo ⟨((nth a b).yi).fN,((nth a b).yi).fD,((nth a b).fR).fN,((nth a b).fR).fD⟩ h .q<|.s2 .h1 .here
     ·exact N2<|Lt<|Lo ⟨c,d,g,i⟩ h .q<|.a2
    ·rintro k m n o h
     replace h:=(M k m n o).symm.trans h
     exact D3q U<|WL.nil<|Nz ⟨T,i64 (b+1),k,m,n,o⟩ h .q<|.a2
   ·exact N1<|Lm<|Lm<|Lv<|Lo ⟨c,d,g,i⟩ h .q<|.a2
  ·rintro s t u v h
   replace h:=(K s t u v).symm.trans h
   exact B0q<|Le 32 (xK z4d (xM .h1))<|Ll (xP zdF .here)<|Q0n<|Ny<|oJ h▸Nm results216 (.agg U z4d U (xM .here) .nil) .nil
def uY(a:List z8):Option (z2×Int):=
 (mH a).bind fun b=>if !b then some ((⟨0,0⟩:z2),2) else(qF a (fun y0 y1=>gI y0 y1)).bind fun c=>some (c.fR,0)
theorem QP{Z b c a r}(h:uY a=some r){Nx}(hz:PZ [] Nx Z)(d:ZS Z 4 (rq qt) b c a):
  RC 200 #[vs b a.length c] Nx (.tuple #[.agg #[vi r.1.fN,vi r.1.fD],vi r.2]) [] []:=by
 unfold uY at h
 refine L8 func200 U U<|B0q (Lg 2 (xT (cs:=[vi 0,vi 0]) z1z) fun j _=>Q1n U<|WC.b<|WC.b ?_)
 refine bK h fun k f h=>D1q U<|Nr call192 hz (fun pz=>om f pz d)<|Q1n U<|Lj h (fun g h=>?_)<|fun g h=>?_
 ·exact B0q<|Le 7 (we (v:=(.agg #[vi 0,vi 0])) (Lq (l:=[]) .nil []))<|Ll (xP zZ .here)<|Q1n U<|Ny<|Lk<|oJ h▸Nm results200 (.agg U zh U (xM .here)<|.tmp U .nil) .nil
 ·exact Nn<|WC.b<|bK h fun e i h=>D1q U<|Nr call216 hz (fun pz=>ph (zjX:=217) (zpY:=[]) (zck:=(fun y0 y1=>gI y0 y1)) i pz d call217<|fun w' hz' y0 y1  r  hr=>WO hr hz')<|Le 10 (Mg (cs':=#[vi e.fR.fN,vi e.fR.fD]) Gh zh U U)<|Ll (xP zZ .here)<|Q1n U<|Ny<|oJ h▸Nm results200 (.agg U zh U (xM .here)<|.tmp U .nil) .nil
def vw(b:yt)(zb8:z2->z2->Option (z2×Int))(c:z2)(d:z2):Option (z2×yt):=
 if decide (b.fE≠0) then(gZ).bind fun e=>some (e,b) else(zb8 c d).bind fun a=>if decide (a.2≠0) then(gZ).bind fun f=>some (f,(⟨a.2⟩:yt)) else some (a.1,(⟨a.2⟩:yt))
theorem kK{Z c}(zas zcl){d}(zb8){a b r}(h:vw d zb8 a b=some r){Nx}(hz:Pz [stb c 277 [vi d.fE]] Nx Z)(g:∀ args w,(callFunc zas args).run Tryz.prog w = .ok (.enter zas args) w)(i:∀ w:World,PZ [] w Z->∀(x0:z2) (x1:z2) (r:z2×Int),zb8 x0 x1=some r->Calls Tryz.prog zas (([.agg #[vi x0.fN,vi x0.fD],.agg #[vi x1.fN,vi x1.fD]]:List Value)++zcl).toArray w fun e w'=>e = .returned (.tuple #[.agg #[vi r.1.fN,vi r.1.fD],vi r.2])/\Hp [] w w' [])(eO:Ho Nx [stb c 277 [vi d.fE]]):
  RF 123 #[vp c,.func (.func zas) #[] (zcl).toArray,.agg #[vi a.fN,vi a.fD],.agg #[vi b.fN,vi b.fD]] Nx (.agg #[vi r.1.fN,vi r.1.fD]) [stb c 277 [vi d.fE]] [stb c 277 [vi r.2.fE]]:=by
 unfold vw at h
 refine H3 func123 U eO U<|B0q (Lg 6 (wa (cs:=[vi a.fN,vi a.fD])) fun q _=>Lg 7 (wa (cs:=[vi b.fN,vi b.fD])) fun s _=>Lg 8 (xT (cs:=[vi 0,vi 0]) z1z) fun t _=>Q0n<|WC.b<|B1q U<|Le 12 xY<|Le 13 (xz sf)<|Le 14 (Nt z6h .h3)<|Q1n U<|Lj h (fun j h=>?_)<|fun j h=>?_)
 ·exact WC.b<|bK h fun v k h=>Ld<|Nr call161 hz (tQ k)<|Ll (xP zZ .here)<|Q0n<|Ny<|Lk<|oJ h▸Nm results123 (.agg U zh U (xM .here) .nil) (.cons .h3 .nil)
 ·refine Nn<|WC.b<|bK h fun p m h=>D1q U<|Le 19 (xK zh (xM .h2))<|Le 20 (xK zh (xM .h1))<|Ln 21 (qg (l:=[.tmp 19,.tmp 20]) (f:=zas) (caps:=zcl) g<|.r2 U U) .nil (fun w hw=>i w (hz.now hw) a b p  m)<|Q2q U<|La U (Lg 9 (xT (cs:=[vi 0,vi 0]) z1z) fun u _=>Ll (xP zZ .here)<|Q1n U<|WC.b<|B2q U<|Le 26 xY<|Le 27 (xz sf)<|Ll (xP ztm .h4)<|Q0n<|B2n U<|Lj h (fun n h=>?_)<|fun n h=>?_)
  ·exact WC.b<|bK h fun x o h=>Ld<|Nr call161 hz (tQ o)<|Ll (xP zZ .h2)<|Q0n<|Ny<|Lk<|oJ h▸Nm results123 (.agg U zh U (xM .here) .nil) (.cons .h1 .nil)
  ·exact Nn<|B0q<|Le 31 (xK zh (xM .h1))<|Ll (xP zZ .h2)<|Q0n<|Ny<|oJ h▸Nm results123 (.agg U zh U (xM .here) .nil) (.cons .h1 .nil)
def vT(b:List (List z8))(d:Int->Int->Int->Option Int):Nat->Int->Int->Int->Int->Option Int
 | 0,_,_,_,_=>none
 | i+1,a,e,f,g=>if decide (a<b.length) then chk (0<=a/\a<b.length) ((jH (nth b a)).bind fun h=>if decide (h.2≠0) then some h.2 else(uY (nth b a)).bind fun j=>(vw (⟨e⟩:yt) (fun y0 y1=>vR y0 y1) (⟨f,g⟩:z2) j.1).bind fun c=>vT b d i (i64 (a+1)) c.2.fE c.1.fN c.1.fD) else d e f g
def qT(a:List (List z8))(b:yv)(n:List (List z8))(o:yv)(p:List z2):Option Int:=
 (if decide ((a.length:Int)>32) then some true else(qe a (fun y0=>j4 y0)).bind fun e=>some e).bind fun f=>(if f then some true else(uW b).bind fun g=>some (!g)).bind fun h=>if h then some 2 else(gZ).bind fun c=>Va (fun(d:Int) (i:Int) (j:Int)=>(if decide (d=0) then(q8 (⟨i,j⟩:z2) b.fR).bind fun k=>some (decide (k>0)) else some false).bind fun l=>if l then some 6 else some d) fun m=>vT a m xR 0 0 c.fN c.fD
theorem pW{Z x y z I J D E F g a G l q r}(h:qT g a G l q=some r){Nx}(hz:PZ [] Nx Z)(K:ZS Z 1 (jT Z) x y g)(ap:ZS Z 1 (jT Z) I J G)(aq:ZC Z z [vs I G.length J])(ar:ZC Z D [vi l.fR.fN,vi l.fR.fD,vi l.fL.fN,vi l.fL.fD])(au:ZS Z 2 (rq xX) E F q):
  RC 163 #[.agg #[vs x g.length y,vi a.fR.fN,vi a.fR.fD,vi a.fL.fN,vi a.fL.fD,.func (.func f) #[] #[vq z,vq D],vs E q.length F]] Nx (vi r) [] []:=by
 unfold qT at h
 refine L8 func163 U U ?_
 let C:Value:=(vs x g.length y);let A:List Value:=[C,vi a.fR.fN,vi a.fR.fD,vi a.fL.fN,vi a.fL.fD,.func (.func f) #[] #[vq z,vq D],vs E q.length F];refine B0q<|Lg 1 (wa (cs:=A)) ?_
 intro t _
 refine Q1n U<|WC.b<|WC.b<|bK h fun al L h=>bK h fun am M h=>Ld<|Le 11 (xz eJ)<|Le 12 (Nt ziN .here)<|Le 13 (w9 underlying171)<|Q2q U<|Ly false 3 15 (B:=al) (hB:=(fun h=>(oJ<|qY L h).symm)) (fun _ R=>?_) ?_
 ·have m:=qZ L R
  obtain⟨aD,S,m⟩:=za m
  replace m:=oJ m
  exact Le 16 (xz eJ)<|Le 17 (Nt ziN .here)<|Nr call196 hz (fun pz=>sO (zps:=197) (zym:=[]) (zpr:=(fun y0=>j4 y0)) S pz K call197<|fun w' hz' y0 ga0 gc0 r DD hr=>c6 hr hz' DD)<|La U<|Lz m U .all
 refine La U<|Ly false 4 20 (B:=am) (hB:=(fun h=>(oJ<|qY M h).symm)) (fun _ T=>?_) ?_
 ·have n:=qZ M T
  obtain⟨aE,V,n⟩:=za n
  replace n:=oJ n
  exact Le 21 (xz QH)<|Le 22 (wn (cs:=[vi a.fR.fN,vi a.fR.fD,vi a.fL.fN,vi a.fL.fD]) ztn<|gK (s:=4) .here U)<|Nr call198 hz (X7 V)<|Q2q U<|Lz n U .all
 refine Q0n<|Lj h (fun W h=>?_)<|fun W h=>?_
 ·exact B1n U<|Ny<|Lk<|oJ h▸Nl results163
 ·refine Nn<|B0q (Lg 3 (xT (cs:=[vi 0]) zCt) fun u _=>Q0n<|WC.b ?_)
  refine bK h fun N X h=>Ld<|Nr call161 hz (tQ X) (Lg 4 (xT (cs:=[vi 0,vi 0]) z1z) fun v _=>Ll (xP zZ .here)<|Q0n ?_)
  refine jK3 h fun O Y h=>Nj (fun i j k=>(O i j k=some r)) (fun i j k=>[(1,vp t),(3,vp u),(4,vp v)]) (fun i j k=>[stb t 231 A,stb u 277 [vi i],stb v 175 [vi j,vi k]]) ?_ ?_
  ·refine B0q<|Le 27 (xz eJ)<|Le 28 (Nt ziN .h2)<|Le 29 (w9 underlying171)<|Q1n U<|WC.block<|Oa (fun o b c d e=>(vT g O o b c d e=some r)) (fun o b c d e=>[(1,vp t),(3,vp u),(4,vp v),(28,C),(29,vi (g.length:Int)),(30,vi b)]) (fun o b c d e=>[stb t 231 A,stb u 277 [vi c],stb v 175 [vi d,vi e]]) (fun o b c d e=>o) ⟨xR,0,0,N.fN,N.fD⟩ h .q (.s3 .h2 .h1 .here) ?_
   rintro(_|an) b c d e h;·cases h
   rw[vT] at h
   refine B1n U<|WC.b<|Lj h (fun aa h=>?_)<|fun aa h=>?_
   ·refine Nn<|WC.b<|WC.block<|WC.b<|cK h fun ab h=>Ld<|L2 (Z:=Z) (Pr:=(jT Z)) zfo K ab ?_
    rintro av aw ad ax ⟨ay,az,rfl,P⟩
    refine Le 33 (xA zoc U<|kN hz.pv ad)<|Q1n U<|WC.b<|WC.b<|bK h fun aF ae h=>D1q U<|H5 U (Ns call199) .nil (cc hz .nil fun w pz ho=>dJ ae pz P) ?_
    rintro aA aB _
    refine Q5n U<|B2n U<|Lj h (fun af h=>?_)<|fun af h=>?_
    ·exact B2n U<|Ny<|Lk<|Lw<|Lk<|Lk<|Lw<|Lk<|oJ h▸Nl results163
    ·refine Nn<|WC.b<|bK h fun aG ag h=>D1q U<|Nr call200 hz (fun pz=>QP ag pz P)<|Q2q U<|La U (Lg 9 (xT (cs:=[vi 0,vi 0]) z1z) fun aC _=>Ll (xP zZ .here)<|Q1n U ?_)
     exact bK h fun H ah h=>Ld<|Le 47 (xK zh (xM .h4))<|Le 48 (xK zh (xM .here))<|Ln 49 (Ns call123) (.cons .h3 .nil) (cc hz (.cons .h3 .nil) fun w pz ho=>kK (zas:=119) (zcl:=[]) (zb8:=(fun y0 y1=>vR y0 y1)) ah pz call119 (fun w' hz' y0 y1  r  hr=>px hr hz' ) ho)<|Ll (xP zZ .h4)<|WL.nil<|Lt<|Lb<|D2q U<|WL.nil<|Nz ⟨an,i64 (b+1),H.2.fE,H.1.fN,H.1.fD⟩ h .q<|.s3 .h4 .h1 .here
   ·exact N1<|Lm<|Lm<|Lv<|Lo ⟨c,d,e⟩ h .q<|.a3
  ·rintro i j k h
   replace h:=(Y i j k).symm.trans h
   refine WC.b<|WC.b<|bK h fun ao Q h=>Ld<|Le 51 (xz sf)<|Le 52 (Nt z6h .h1)<|Q2q U<|Ly true 6 54 (B:=ao) (hB:=(fun h=>(oJ<|qZ Q h).symm)) (fun _ ai=>?_) ?_
   ·have p:=qY Q ai
    obtain⟨aH,aj,p⟩:=za p
    replace p:=oJ p
    exact Le 55 (xK zh (xM .h2))<|Le 56 (xz QH)<|Le 57 (xz cG)<|Le 58 (wn (cs:=[vi a.fR.fN,vi a.fR.fD]) zh<|gK (s:=2) .here U)<|Nr call129 hz (ua aj)<|Q2q U<|Lz p U .all
   refine Q0n<|Lj h (fun ak h=>?_)<|fun ak h=>?_
   ·exact B1n U<|Ny<|Lk<|oJ h▸Nl results163
   ·exact Nn<|B0q<|Le 62 (xz sf)<|Le 63 (Nt z6h .h1)<|Q1n U<|Ny<|oJ h▸Nl results163
def kx(b:List (List z8))(a:yv)(c:List (List z8))(d:yv)(e:List z2):Option (Int×Int×Int×Int):=
 some (a.fR.fN,a.fR.fD,a.fL.fN,a.fL.fD)
theorem pB{Z g i j p q k m n b a o c d r}(h:kx b a o c d=some r){Nx}(hz:PZ [] Nx Z)(u:ZS Z 1 (jT Z) g i b)(v:ZS Z 1 (jT Z) p q o)(x:ZC Z j [vs p o.length q])(y:ZC Z k [vi c.fR.fN,vi c.fR.fD,vi c.fL.fN,vi c.fL.fD])(z:ZS Z 2 (rq xX) m n d):
  Calls Tryz.prog 164 #[.agg #[vs g b.length i,vi a.fR.fN,vi a.fR.fD,vi a.fL.fN,vi a.fL.fD,.func (.func f) #[] #[vq j,vq k],vs m d.length n]] Nx fun e w'=>∃ s:Nat,e = .returned (.func (.func 201) #[] #[vp s])/\True/\Hp [] Nx w' [stb s 231 [vs g b.length i,vi r.1,vi r.2.1,vi r.2.2.1,vi r.2.2.2,.func (.func f) #[] #[vq j,vq k],vs m d.length n]]:=by
 unfold kx at h
 refine L8 func164 U U<|B0q (Lg 1 (wa (cs:=[vs g b.length i,vi a.fR.fN,vi a.fR.fD,vi a.fL.fN,vi a.fL.fD,.func (.func f) #[] #[vq j,vq k],vs m d.length n])) fun t _=>Q1n U<|B0q<|Le 3 (wJ<|L6 (l:=[.tmp 1])<|.cons U .nil)<|Q1n U<|Ny ?_)
 exact oJ h▸Li results164 (.tmp U .nil) fun w hw=>⟨t,xZ,trivial,hw.sub (.cons .here .nil)⟩
def j6(a:z2):Option Int:=
 (qG a).bind fun c=>if !c then some 0 else chk ((a.fD:Int)≠0) (qI (fun(d:Int)=>some d) fun b=>chk ((a.fD:Int)≠0) (if decide ((Int.tmod a.fN a.fD)<0) then b (i64 ((i64 (Int.tdiv a.fN a.fD))-1)) else b (i64 (Int.tdiv a.fN a.fD))))
theorem oh{Z a r}(h:j6 a=some r){Nx}(hz:PZ [] Nx Z):
  RC 83 #[.agg #[vi a.fN,vi a.fD]] Nx (vi r) [] []:=by
 unfold j6 at h
 refine L8 func83 U U<|B0q (Lg 1 (wa (cs:=[vi a.fN,vi a.fD])) fun k _=>Q1n U<|WC.b<|WC.b ?_)
 refine bK h fun l c h=>Ld<|Le 4 (xK zh (xM .here))<|Nr call130 hz (jU c)<|Q1n U<|Lj h (fun d h=>?_)<|fun d h=>?_
 ·exact B1n U<|Ny<|Lk<|oJ h▸Nl results83
 ·refine Nn<|WC.b<|cK h fun e h=>Ld<|Le 7 (xz jC)<|Le 8 (Nt xJ .here)<|Le 9 (xz kw)<|Le 10 (Nt xJ .here)<|Le 11 (e7 e)<|Q1n U<|jK1 h fun j f h=>Na (fun b=>(j b=some r)) (fun b=>[(3,vi b)]) (fun b=>[]) ?_ ?_
  ·refine WC.b<|cK h fun g h=>Ld<|Le 12 (xz jC)<|Le 13 (Nt xJ .here)<|Le 14 (xz kw)<|Le 15 (Nt xJ .here)<|Le 16 (G3 U U g U)<|Q1n U<|Lj h (fun i h=>?_)<|fun i h=>?_
   ·exact D3q U<|WL.nil<|Lo (i64 ((i64<|Int.tdiv a.fN a.fD)-1)) h (.cons U .nil) .nil
   ·exact N2<|Lo (i64<|Int.tdiv a.fN a.fD) h (.cons U .nil) .nil
  ·rintro b h
   replace h:=(f b).symm.trans h
   exact B2n U<|Ny<|oJ h▸Nl results83
def gb(a:z2):Option Int:=
 (qG a).bind fun b=>if !b then some 0 else(j6 (⟨i64 (0-a.fN),a.fD⟩:z2)).bind fun c=>some (i64 (0-c))
theorem XT{Z a r}(h:gb a=some r){Nx}(hz:PZ [] Nx Z):
  RC 202 #[.agg #[vi a.fN,vi a.fD]] Nx (vi r) [] []:=by
 unfold gb at h
 refine L8 func202 U U<|B0q (Lg 1 (wa (cs:=[vi a.fN,vi a.fD])) fun e _=>Q1n U<|WC.b<|WC.b ?_)
 refine bK h fun f b h=>Ld<|Le 3 (xK zh (xM .here))<|Nr call130 hz (jU b)<|Q1n U<|Lj h (fun c h=>?_)<|fun c h=>?_
 ·exact B1n U<|Ny<|Lk<|oJ h▸Nl results202
 ·exact Nn<|WC.b<|bK h fun g d h=>Ld<|Le 6 (xz jC)<|Le 7 (Nt xJ .here)<|Le 8 (Q6 U U)<|Le 9 (xz kw)<|Le 10 (Nt xJ .here)<|Le 11 (we (v:=(.agg #[(vi<|i64 (0-a.fN)),vi a.fD])) (Lq (l:=[.tmp 8,.tmp 10]) (.r2 U U) [0,1]))<|Nr call83 hz (oh d)<|Le 13 (Q6 U U)<|Q1n U<|Ny<|oJ h▸Nl results202
def vk(zT:Type)(b:List z2×Int)(z3o:z2->zT->Option (Bool×zT))(e:zT->Option zT):Nat->Int->zT->Option zT
 | 0,_,_=>none
 | h+1,a,f=>if decide (a<b.1.length) then chk (0<=a/\a<b.1.length) ((j6 (⟨(nth b.1 a).fN,(nth b.1 a).fD⟩:z2)).bind fun i=>(jk i).bind fun j=>(z3o j f).bind fun c=>(if !c.1 then some (true,c.2) else(gb (⟨(nth b.1 a).fN,(nth b.1 a).fD⟩:z2)).bind fun k=>(jk k).bind fun l=>(z3o l c.2).bind fun g=>some (!g.1,g.2)).bind fun d=>if d.1 then some d.2 else vk zT b z3o e h (i64 (a+1)) d.2) else e f
def vm(zT:Type)(z49:List (List z8))(z3o:z2->zT->Option (Bool×zT))(b:zT->Option zT):Nat->Int->zT->Option zT
 | 0,_,_=>none
 | d+1,a,c=>if decide (a<z49.length) then qI (fun(e:zT)=>vm zT z49 z3o b d (i64 (a+1)) e) fun f=>chk (0<=a/\a<z49.length) ((jH (nth z49 a)).bind fun g=>qI (fun h=>f h) fun i=>vk zT g z3o i xR 0 c) else b c
def vo(zT:Type)(z4m:List z2)(z3o:z2->zT->Option (Bool×zT))(d:zT->Option zT):Nat->Int->zT->Option zT
 | 0,_,_=>none
 | g+1,a,e=>if decide (a<z4m.length) then chk (0<=a/\a<z4m.length) ((j6 (⟨(nth z4m a).fN,(nth z4m a).fD⟩:z2)).bind fun h=>(jk h).bind fun i=>(z3o i e).bind fun b=>(if !b.1 then some (true,b.2) else(gb (⟨(nth z4m a).fN,(nth z4m a).fD⟩:z2)).bind fun j=>(jk j).bind fun k=>(z3o k b.2).bind fun f=>some (!f.1,f.2)).bind fun c=>if c.1 then some c.2 else vo zT z4m z3o d g (i64 (a+1)) c.2) else d e
def qq(zT:Type)(z3o:z2->zT->Option (Bool×zT))(zat:zT)(z49:List (List z8))(zk6:yv)(zqc:List (List z8))(zk7:yv)(z4m:List z2):Option zT:=
 (gZ).bind fun b=>(z3o b zat).bind fun a=>if !a.1 then some a.2 else qI (fun(c:zT)=>qI (fun(d:zT)=>some d) fun e=>vo zT z4m z3o e xR 0 c) fun f=>vm zT z49 z3o f xR 0 a.2
theorem rE{Z}(zT:Type)(zbc)(z5w:Type)(z3z)(z9K:z5w->zT->Prop)(zeb zec zgH zgI zz4 zz5 zz6 zz7 zqd zqe z3o zat z49 zk6 zqc zk7 z4m r){Nx}(hz:Pz [z3z zeb zat] Nx Z)(X:ai Tryz.prog Z zbc (α:=z2) (σ:=zT) (G:=z5w) (H:=Unit) (fun h x=>[.agg #[vi x.fN,vi x.fD]]) (fun h x=>[]) z3o z3z z9K)(aI:z9K zeb zat)(aJ:ZS Z 1 (jT Z) zgH zgI z49)(bB:ZS Z 1 (jT Z) zz5 zz6 zqc)(bC:ZC Z zz4 [vs zz5 zqc.length zz6])(bD:ZC Z zz7 [vi zk7.fR.fN,vi zk7.fR.fD,vi zk7.fL.fN,vi zk7.fL.fD])(aK:ZS Z 2 (rq xX) zqd zqe z4m)(aj:ZC Z zec [vs zgH z49.length zgI,vi zk6.fR.fN,vi zk6.fR.fD,vi zk6.fL.fN,vi zk6.fL.fD,.func (.func f) #[] #[vq zz4,vq zz7],vs zqd z4m.length zqe])(h:qq zT z3o zat z49 zk6 zqc zk7 z4m=some r)(eO:Ho Nx [z3z zeb zat]):
  Calls Tryz.prog 201 #[.func (.yield zbc) #[] #[],vq zec] Nx fun e w'=>∃ ak:z5w,e = .returned (.tuple #[])/\(z9K ak r)/\Hp (fps [z3z zeb zat]) Nx w' [z3z ak r]:=by
 unfold qq at h
 refine Ni func201 U eO U<|WC.b<|WC.b<|bK h fun bp aL h=>bK h fun af aM h=>D1q U<|Nr call161 hz (tQ aL) (H8 (x:=bp) (h:=()) (g:=zeb) (s:=zat) (b:=af.1) (s':=af.2) X U (.cons U .nil) ((.cons .here .nil):Sel _ [z3z zeb zat] _) aM aI (fun w hw=>hz.call hw ((.cons .here .nil):Sel _ [z3z zeb zat] _)) fun al am=>Q1n U<|Lj h (fun aN h=>?_)<|fun aN h=>?_)
 ·exact Ny<|Lk<|oJ h▸Li results201 .nil fun w hw=>⟨al,mq,am,hw.sub (.cons .here .nil)⟩
 ·refine Nn ?_
  obtain⟨an,aO,h⟩:=wg h
  let A:Value:=(.func (.yield zbc) #[] #[]);refine H6 (fun u N=>(an u=some r)/\(z9K N u)) (fun u N=>[(0,A),(1,vq zec)]) (fun u N=>[z3z N u]) ?_ ?_
  ·let C:Value:=(vs zgH z49.length zgI);let D:Value:=(vi (z49.length:Int));refine B0q<|Le 15 (xz eJ)<|Le 16 (xA ziN U<|wq hz.pv aj)<|Le 17 (w9 underlying171)<|Q1n U<|WC.block<|H9 (fun O c p v=>(vm zT z49 z3o an O c p=some r)/\(z9K v p)) (fun O c p v=>[(0,A),(1,vq zec),(16,C),(17,D),(18,vi c)]) (fun O c p v=>[z3z v p]) (fun O c p v=>O) ⟨xR,0,af.2,al⟩ ⟨h,am⟩ .q (.cons .here .nil) ?_
   rintro (_|bq) c p v ⟨h,ao⟩;·cases h
   rw[vm] at h
   refine B1n U<|WC.b<|Lj h (fun aP h=>?_)<|fun aP h=>?_
   ·refine Nn<|jK1 h fun br aQ h=>H6 (fun y P=>(br y=some r)/\(z9K P y)) (fun y P=>[(0,A),(1,vq zec),(16,C),(17,D),(18,vi c)]) (fun y P=>[z3z P y]) ?_ ?_
    ·refine WC.block<|WC.b<|cK h fun aR h=>Ld<|L2 (Z:=Z) (Pr:=(jT Z)) zfo aJ aR ?_
     rintro bE bF aS bG ⟨bH,bI,rfl,aT⟩
     refine Le 21 (xA zoc U<|kN hz.pv aS)<|Q1n U<|WC.b<|bK h fun k aU h=>D1q U<|H5 U (Ns call199) .nil (cc hz .nil fun w pz ho=>dJ aU pz aT) ?_
     rintro bs ap _
     refine Q5n U<|B1q U<|Le 28 (w9 underlying229)<|Q1n U<|jK1 h fun aq aV h=>Oj (fun z Q=>(aq z=some r)/\(z9K Q z)) (fun z Q=>[(0,A),(1,vq zec),(16,C),(17,D),(18,vi c)]) (fun z Q=>[z3z Q z]) ?_ ?_
     ·let F:=(k.1.length:Int);let I:Value:=(vs bs k.1.length ap);refine WC.block<|H9 (fun R a d m=>(vk zT k z3o aq R a d=some r)/\(z9K m d)) (fun R a d m=>[(0,A),(1,vq zec),(16,C),(17,D),(18,vi c),(27,I),(28,vi F),(29,vi a)]) (fun R a d m=>[row I 175 2 (k.1.flatMap xX),z3z m d]) (fun R a d m=>R) ⟨xR,0,p,v⟩ ⟨h,ao⟩ .q .a2 ?_
      rintro (_|bt) a d m ⟨h,ar⟩;·cases h
      rw[vk] at h
      refine B1n U<|WC.b<|Lj h (fun aW h=>?_)<|fun aW h=>?_
      ·refine Nn<|WC.b<|WC.block<|WC.b<|cK h fun Y h=>Ld<|N4 (fun w hw=>Hp.vr .here hw (by intro hz';have:=Y;rw[hz'] at this;omega)) ?_
       rintro⟨bu,rfl⟩
       refine Le 31 (w3 z3U Y.1 Y.2 wI)<|Le 32 (wn (cs:=(xX<|nth k.1 a)) zh<|vU .here<|wU (enc:=xX) (l:=k.1) (i:=a) (sz:=2) Y.1 Y.2) (Lg 8 (xT (cs:=[vi 0,vi 0]) z1z) fun aX _=>Ll (xP zZ .here)<|Q0n<|WC.b ?_)
       refine bK h fun bN aY h=>bK h fun bv aZ h=>bK h fun S a0 h=>bK h fun aa au h=>D1q U<|Le 34 (xK zh (xM .here))<|Nr call83 hz (oh aY)<|Nr call191 hz (uX aZ)<|H8 (x:=bv) (h:=()) (g:=m) (s:=d) (b:=S.1) (s':=S.2) X U (.cons U .nil) ((.cons .h2 .nil):Sel _ [z3z m d] _) a0 ar (fun w hw=>hz.call hw ((.cons .h2 .nil):Sel _ [z3z m d] _)) ?_
       intro ab av
       let E:Value:=(vs (some ⟨bu,0,none⟩) k.1.length ap);refine Q2q U<|O0 (fun B=>z9K B aa.2) (fun B=>[(0,A),(1,vq zec),(16,C),(17,D),(18,vi c),(27,E),(28,vi F),(29,vi a),(46,.bool aa.1)]) (fun B=>[z3z B aa.2,stb aX 175 [(vi<|(nth k.1 a).fN),(vi<|(nth k.1 a).fD)],row E 175 2 (k.1.flatMap xX)]) 7 ?_<|fun B aw=>?_
       ·rcases Bool.eq_false_or_eq_true (!S.1) with hb' | hb'
        ·have ax:=hb';clear hb'
         have ag:=qY au ax
         replace ag:=oJ ag
         refine On (i:=39) U ax<|WL.e U U<|WL.e U U<|WL.e U U<|WL.e U U<|WL.e U U<|WL.e U U<|La U ?_
         subst ag
         exact O1 ab av .q<|.a3
        ·have ay:=hb';clear hb'
         have q:=qZ au ay
         obtain⟨bO,a1,q⟩:=za q
         obtain⟨bw,a2,q⟩:=za q
         obtain⟨az,a3,q⟩:=za q
         replace q:=oJ q
         refine On (i:=39) U ay<|La U<|Le 41 (xK zh (xM .h1))<|Nr call202 hz (XT a1)<|Nr call191 hz (uX a2) (H8 (x:=bw) (h:=()) (g:=ab) (s:=S.2) (b:=az.1) (s':=az.2) X U (.cons U .nil) ((.cons .here .nil):Sel _ [z3z ab S.2] _) a3 av (fun w hw=>hz.call hw ((.cons .here .nil):Sel _ [z3z ab S.2] _)) fun a4 a5=>La U<|La U ?_)
         subst q
         exact O1 a4 a5 .q<|.a3
       ·refine Q0n<|Lj h (fun a6 h=>?_)<|fun a6 h=>?_
        ·exact Ny<|Lw<|Lk<|Lk<|Lw<|Lk<|Lw<|Lk<|Lk<|Lw<|Lk<|oJ h▸Li results201 .nil fun w hw=>⟨B,mq,aw,hw.sub (.cons .here .nil)⟩
        ·exact N2<|Lt<|Lb<|D2q U<|WL.nil<|Nz ⟨bt,i64 (a+1),aa.2,B⟩ ⟨h,aw⟩ .q<|.s2 .h2 .here
      ·exact N1<|Lm<|Lm<|Lv<|Lo ⟨d,m⟩ ⟨h,ar⟩ .q<|.cons .h1 .nil
     ·rintro z Q ⟨h,a7⟩
      replace h:=(aV z).symm.trans h
      exact Lt<|Lo ⟨z,Q⟩ ⟨h,a7⟩ .q<|.cons .here .nil
    ·rintro y P ⟨h,a8⟩
     replace h:=(aQ y).symm.trans h
     exact D2q U<|WL.nil<|Nz ⟨bq,i64 (c+1),y,P⟩ ⟨h,a8⟩ .q<|.cons .here .nil
   ·exact N1<|Lm<|Lm<|Lv<|Lo ⟨p,v⟩ ⟨h,ao⟩ .q<|.cons .here .nil
  ·rintro u N ⟨h,a9⟩
   replace h:=(aO u).symm.trans h
   refine B0q<|Le 49 (xz Mn)<|Le 50 (xA zdG U<|wq hz.pv aj)<|Le 51 (w9 underlying229)<|Q1n U<|jK1 h fun aA ba h=>Oj (fun L T=>(aA L=some r)/\(z9K T L)) (fun L T=>[]) (fun L T=>[z3z T L]) ?_ ?_
   ·let J:Value:=(vs zqd z4m.length zqe);let K:Value:=(vi (z4m.length:Int));refine WC.block<|H9 (fun V n j o=>(vo zT z4m z3o aA V n j=some r)/\(z9K o j)) (fun V n j o=>[(0,A),(50,J),(51,K),(52,vi n)]) (fun V n j o=>[z3z o j]) (fun V n j o=>V) ⟨xR,0,u,N⟩ ⟨h,a9⟩ .q (.cons .here .nil) ?_
    rintro (_|bx) n j o ⟨h,aB⟩;·cases h
    rw[vo] at h
    refine B1n U<|WC.b<|Lj h (fun bb h=>?_)<|fun bb h=>?_
    ·refine Nn<|WC.b<|WC.block<|WC.b<|cK h fun bc h=>Ld<|L2 (Z:=Z) (Pr:=(rq xX)) z3U aK bc ?_
     rintro bJ bL bd bM rfl
     refine Le 55 (xK zh (qx hz.pv bd)) (Lg 10 (xT (cs:=[vi 0,vi 0]) z1z) fun be _=>Ll (xP zZ .here)<|Q0n<|WC.b ?_)
     refine bK h fun bP bf h=>bK h fun bz bg h=>bK h fun W bh h=>bK h fun ad aC h=>D1q U<|Le 57 (xK zh (xM .here))<|Nr call83 hz (oh bf)<|Nr call191 hz (uX bg) (H8 (x:=bz) (h:=()) (g:=o) (s:=j) (b:=W.1) (s':=W.2) X U (.cons U .nil) ((.cons .h1 .nil):Sel _ [z3z o j] _) bh aB (fun w hw=>hz.call hw ((.cons .h1 .nil):Sel _ [z3z o j] _)) fun ae aD=>Q2q U<|O0 (fun M=>z9K M ad.2) (fun M=>[(0,A),(50,J),(51,K),(52,vi n),(69,.bool ad.1)]) (fun M=>[z3z M ad.2,stb be 175 [(vi<|(nth z4m n).fN),(vi<|(nth z4m n).fD)]]) 7 ?_<|fun M aE=>?_)
     ·rcases Bool.eq_false_or_eq_true (!W.1) with hb' | hb'
      ·have aF:=hb';clear hb'
       have ah:=qY aC aF
       replace ah:=oJ ah
       refine On (i:=62) U aF<|WL.e U U<|WL.e U U<|WL.e U U<|WL.e U U<|WL.e U U<|WL.e U U<|La U ?_
       subst ah
       exact O1 ae aD .q<|.a2
      ·have aG:=hb';clear hb'
       have t:=qZ aC aG
       obtain⟨bQ,bi,t⟩:=za t
       obtain⟨bA,bj,t⟩:=za t
       obtain⟨aH,bk,t⟩:=za t
       replace t:=oJ t
       refine On (i:=62) U aG<|La U<|Le 64 (xK zh (xM .h1))<|Nr call202 hz (XT bi)<|Nr call191 hz (uX bj) (H8 (x:=bA) (h:=()) (g:=ae) (s:=W.2) (b:=aH.1) (s':=aH.2) X U (.cons U .nil) ((.cons .here .nil):Sel _ [z3z ae W.2] _) bk aD (fun w hw=>hz.call hw ((.cons .here .nil):Sel _ [z3z ae W.2] _)) fun bl bm=>La U<|La U ?_)
       subst t
       exact O1 bl bm .q<|.a2
     ·refine Q0n<|Lj h (fun bn h=>?_)<|fun bn h=>?_
      ·exact Ny<|Lw<|Lk<|Lk<|Lw<|Lk<|oJ h▸Li results201 .nil fun w hw=>⟨M,mq,aE,hw.sub (.cons .here .nil)⟩
      ·exact N2<|Lt<|Lb<|D2q U<|WL.nil<|Nz ⟨bx,i64 (n+1),ad.2,M⟩ ⟨h,aE⟩ .q<|.cons .here .nil
    ·exact N1<|Lm<|Lm<|Lv<|Lo ⟨j,o⟩ ⟨h,aB⟩ .nil<|.cons .here .nil
   ·rintro L T ⟨h,bo⟩
    replace h:=(ba L).symm.trans h
    exact oJ h▸Nh results201 .nil fun w hw=>⟨T,mq,bo,hw.sub (.cons .here .nil)⟩
def j7(d:yt)(a:z8)(e:z2):Option (z2×yt):=
 (qM d (fun y0 y1=>gw y0 y1) a.fR e).bind fun b=>(qM b.2 (fun y0 y1=>vR y0 y1) a.yi b.1).bind fun c=>some (c.1,c.2)
theorem az{Z b d a c r}(h:j7 d a c=some r){Nx}(hz:Pz [stb b 307 [vi d.fE]] Nx Z)(eO:Ho Nx [stb b 307 [vi d.fE]]):
  RF 194 #[vp b,.agg #[vi a.yi.fN,vi a.yi.fD,vi a.fR.fN,vi a.fR.fD],.agg #[vi c.fN,vi c.fD]] Nx (.agg #[vi r.1.fN,vi r.1.fD]) [stb b 307 [vi d.fE]] [stb b 307 [vi r.2.fE]]:=by
 unfold j7 at h
 refine N8 func194 U eO U<|B0q (Lg 4 (wa (cs:=[vi a.yi.fN,vi a.yi.fD,vi a.fR.fN,vi a.fR.fD])) fun e _=>Lg 5 (wa (cs:=[vi c.fN,vi c.fD])) fun j _=>Lg 6 (xT (cs:=[vi 0,vi 0]) z1z) fun k _=>Q0n<|WC.b ?_)
 refine bK h fun l f h=>bK h fun m g h=>Lu (fun i=>[7,8,9].contains i) [re e 225 [(0,vi a.yi.fN),(1,vi a.yi.fD)]]<|Lf 0 U q_m<|Lf 1 U (xz uq)<|L7 2 U (wB.wk (.cons .h2 .nil)<|.stb (.cons U<|.cons U .nil) .nil) (wn (cs:=[vi a.yi.fN,vi a.yi.fD]) zh<|eH .here (.head _)<|(.tail _<|.head _))<|Lf 3 U q_m<|Lf 4 U (xz se)<|Lh 5 U (wn (cs:=[vi a.fR.fN,vi a.fR.fD]) zh<|gK (s:=2) .h2 U)<|Lh 6 U (xK zh (xM .h1)) (WD.call0 (i:=7) U U (.inl ⟨U,(wB.wk (.cons .h3 .nil)<|.stb (.cons U<|.cons U .nil) .nil)⟩) (Ns call210) (.cons .h3 .nil) (cc hz (.cons .h3 .nil) fun w pz ho=>Calls.mono (tR (ze2:=120) (zjO:=[]) (zgr:=(fun y0 y1=>gw y0 y1)) f pz call120 (fun w' hz' y0 y1  r  hr=>ay hr hz' ) ho)<|fun _ _ h'=>⟨h'.1,trivial,h'.2⟩) fun _=>WD.call0 (i:=8) U U (.inl ⟨U,(wB.wk (.cons .h3 .nil)<|.stb (.cons U<|.cons U .nil) .nil)⟩) (Ns call210) (.cons .here .nil) (cc hz (.cons .here .nil) fun w pz ho=>Calls.mono (tR (ze2:=119) (zjO:=[]) (zgr:=(fun y0 y1=>vR y0 y1)) g pz call119 (fun w' hz' y0 y1  r  hr=>px hr hz' ) ho)<|fun _ _ h'=>⟨h'.1,trivial,h'.2⟩) fun _=>Nc (i:=9) U (xP zZ .h1)<|N0<|Lb<|Ny ?_)
 exact oJ h▸Nm results194 (.agg U zh U (xM .here) .nil) (.cons .h1 .nil)
def vF(b:List z2)(zcn:z2->z2->Option Int)(e:Int->Int->Option z2):Nat->Int->Int->Int->Option z2
 | 0,_,_,_=>none
 | g+1,a,c,d=>if decide (a<b.length) then sk (fun(h:Int) (i:Int)=>vF b zcn e g (i64 (a+1)) h i) fun f=>chk (0<=a/\a<b.length) ((zcn (⟨(nth b a).fN,(nth b a).fD⟩:z2) (⟨c,d⟩:z2)).bind fun j=>if decide (j<0) then chk (0<=a/\a<b.length) (f ((nth b a).fN) ((nth b a).fD)) else f c d) else e c d
def jm(a:List z2)(zcn:z2->z2->Option Int):Option z2:=
 if decide ((a.length:Int)<1) then none else chk ((0:Int)<=0/\0<(a.length:Int)) (sk (fun(b:Int) (c:Int)=>some (⟨b,c⟩:z2)) fun d=>vF a zcn d xR 1 ((nth a 0).fN) ((nth a 0).fD))
theorem ov{Z q s}(zkb zqn){b}(zcn){r}(h:jm b zcn=some r){Nx}(hz:PZ [] Nx Z)(t:ZS Z 2 (rq xX) q s b)(v:∀ args w,(callFunc zkb args).run Tryz.prog w = .ok (.enter zkb args) w)(x:∀ w:World,PZ [] w Z->∀(x0:z2) (x1:z2) (r:Int),zcn x0 x1=some r->Calls Tryz.prog zkb (([.agg #[vi x0.fN,vi x0.fD],.agg #[vi x1.fN,vi x1.fD]]:List Value)++zqn).toArray w fun e w'=>e = .returned (vi r)/\Hp [] w w' []):
  RC 195 #[vs q b.length s,.func (.func zkb) #[] (zqn).toArray] Nx (.agg #[vi r.fN,vi r.fD]) [] []:=by
 unfold jm at h
 refine L0 func195 U U<|B0q (Lg 4 (xT (cs:=[vi 0,vi 0]) z1z) fun k _=>Q0n<|WC.b<|B1q U<|Le 8 (w9 underlying229)<|Q1n U<|Lj h (fun y h=>?_)<|fun y h=>?_)
 ·cases h
 ·refine Nn<|WC.b<|cK h fun z h=>D1q U<|L2 (Z:=Z) (Pr:=(rq xX)) z3U t z ?_
  rintro P Q B R rfl
  refine Le 13 (xK zh (qx hz.pv B)) (Lg 5 (xT (cs:=[vi 0,vi 0]) z1z) fun m _=>Ll (xP zZ .here)<|Q0n ?_)
  refine jK2 h fun u D h=>H6 (fun n o=>(u n o=some r)) (fun n o=>[(4,vp k),(5,vp m)]) (fun n o=>[stb k 175 [vi 0,vi 0],stb m 175 [vi n,vi o]]) ?_ ?_
  ·let A:Value:=(.func (.func zkb) #[] (zqn).toArray);let C:Value:=(vs q b.length s);refine B1n U<|WC.block<|H9 (fun p a c d=>(vF b zcn u p a c d=some r)) (fun p a c d=>[(0,C),(1,A),(4,vp k),(5,vp m),(6,vi a)]) (fun p a c d=>[stb k 175 [vi 0,vi 0],stb m 175 [vi c,vi d]]) (fun p a c d=>p) ⟨xR,1,(nth b 0).fN,(nth b 0).fD⟩ h .q (.s2 .h1 .here) ?_
   rintro(_|M) a c d h;·cases h
   rw[vF] at h
   refine WC.b<|B2q U<|Le 16 (w9 underlying229)<|Q1n U<|Lj h (fun E h=>?_)<|fun E h=>?_
   ·refine Nn<|jK2 h fun N F h=>H6 (fun g i=>(N g i=some r)) (fun g i=>[(0,C),(1,A),(4,vp k),(5,vp m),(6,vi a)]) (fun g i=>[stb k 175 [vi 0,vi 0],stb m 175 [vi g,vi i]]) ?_ ?_
    ·refine WC.block<|WC.b<|cK h fun G h=>bK h fun O H h=>Lu nc []<|Lf 0 U q_m<|Lf 1 U q_m<|Lf 2 U q_m<|L5 (j:=3) (Z:=Z) (Pr:=(rq xX)) z3U t G ?_
     rintro S T I V rfl
     refine Lh 4 U (xK zh (qx hz.pv I))<|Lh 5 U (xK zh (xM .h1))<|L4 6 U (qg (l:=[.tmp 24,.tmp 25]) (f:=zkb) (caps:=zqn) v<|.r2 U U) (fun w hw=>x w (hz.now hw) (⟨(nth b a).fN,(nth b a).fD⟩:z2) (⟨c,d⟩:z2) O  H)<|Lf 7 U ra<|N0<|Lb<|Lj h (fun J h=>?_)<|fun J h=>?_
     ·refine cK h fun K h=>D2q U<|L2 (Z:=Z) (Pr:=(rq xX)) z3U t K ?_
      rintro W X L Y rfl
      exact Le 31 (xK zh (qx hz.pv L))<|Ll (xP zZ .h1)<|WL.nil<|Lt<|Lo ⟨(nth b a).fN,(nth b a).fD⟩ h .q<|.s2 .h1 .here
     ·exact N2<|Lt<|Lo ⟨c,d⟩ h .q<|.a2
    ·rintro g i h
     replace h:=(F g i).symm.trans h
     exact D3q U<|WL.nil<|Nz ⟨M,i64 (a+1),g,i⟩ h .q<|.a2
   ·exact N1<|Lm<|Lm<|Lv<|Lo ⟨c,d⟩ h .q<|.a2
  ·rintro n o h
   replace h:=(D n o).symm.trans h
   exact B0q<|Le 32 (xK zh (xM .h1))<|Ll (xP zZ .here)<|Q0n<|Ny<|oJ h▸Nm results195 (.agg U zh U (xM .here) .nil) .nil
def kQ(b:List z8)(e:z2)(f:(List z2)->Int->Option (z2×Int)):Nat->(List z2)->Int->Int->Option (z2×Int)
 | 0,_,_,_=>none
 | h+1,c,a,g=>if decide (a<b.length) then chk (0<=a/\a<b.length) ((j7 (⟨g⟩:yt) (⟨(⟨((nth b a).yi).fN,((nth b a).yi).fD⟩:z2),(⟨((nth b a).fR).fN,((nth b a).fR).fD⟩:z2)⟩:z8) e).bind fun d=>chk (((c++([d.1]:List z2)).length:Int)*16<=140737488355328/\((c++([d.1]:List z2)).length:Int)<=4611686018427387904) (kQ b e f h (c++([d.1]:List z2)) (i64 (a+1)) d.2.fE)) else f c g
def mW(a:List z8)(b:z2):Option (z2×Int):=
 (mH a).bind fun d=>(if !d then some true else(uV b).bind fun e=>some (!e)).bind fun f=>if f then some ((⟨0,0⟩:z2),2) else sk (fun(g:List z2) (c:Int)=>if decide (c≠0) then some ((⟨0,0⟩:z2),c) else(jm g (fun y0 y1=>q8 y0 y1)).bind fun h=>some (h,0)) fun i=>kQ a b i xR ([]:List z2) 0 0
theorem Gm{Z u x k b r}(h:mW k b=some r){Nx}(hz:PZ [] Nx Z)(y:ZS Z 4 (rq qt) u x k):
  RC 162 #[vs u k.length x,.agg #[vi b.fN,vi b.fD]] Nx (.tuple #[.agg #[vi r.1.fN,vi r.1.fD],vi r.2]) [] []:=by
 unfold mW at h
 refine L0 func162 U U<|B0q (Lg 3 (wa (cs:=[vi b.fN,vi b.fD])) fun z _=>Lg 4 (xT (cs:=[vi 0,vi 0]) z1z) fun s _=>Q1n U<|WC.b<|WC.b ?_)
 refine bK h fun aa D h=>bK h fun R A h=>D1q U<|Nr call192 hz (fun pz=>om D pz y)<|Q2q U<|Ly false 3 13 (B:=R) (hB:=(fun h=>(oJ<|qY A h).symm)) (fun _ E=>?_) ?_
 ·have m:=qZ A E
  obtain⟨ab,F,m⟩:=za m
  replace m:=oJ m
  exact Le 14 (xK zh (xM .h1))<|Nr call193 hz (cR F)<|Q2q U<|Lz m U .all
 refine Q0n<|Lj h (fun G h=>?_)<|fun G h=>?_
 ·exact B0q<|Le 18 (we (v:=(.agg #[vi 0,vi 0])) (Lq (l:=[]) .nil []))<|Ll (xP zZ .here)<|Q1n U<|Ny<|Lk<|oJ h▸Nm results162 (.agg U zh U (xM .here)<|.tmp U .nil) .nil
 ·refine Nn<|B0q (Lg 6 (xT (cs:=[vi 0]) zLF) fun n _=>Q0n<|B1n U ?_)
  refine jK2 h fun C H h=>Ow (fun c d o p=>(C c d=some r)) (fun c d o p=>[(4,vp s),(6,vp n),(7,vs o c.length p)]) (fun c d o p=>[row (vs o c.length p) 175 2 (c.flatMap xX),stb s 175 [vi 0,vi 0],stb n 307 [vi d]]) ?_ ?_
  ·refine B1q U<|Le 20 (w9 underlying227)<|Q1n U<|WC.block<|WC.nilRow 175 2<|Oi (fun q a e f g j=>(kQ k b C q a e f=some r)) (fun q a e f g j=>[(3,vp z),(4,vp s),(6,vp n),(7,vs g a.length j),(19,vs u k.length x),(20,vi (k.length:Int)),(21,vi e)]) (fun q a e f g j=>[row (vs g a.length j) 175 2 (a.flatMap xX),stb z 175 [vi b.fN,vi b.fD],stb s 175 [vi 0,vi 0],stb n 307 [vi f]]) (fun q a e f g j=>q) ⟨xR,([]:List z2),0,0,none,0⟩ h .q (.s4 .here .h2 .h1 .here) ?_
   rintro(_|S) a e f g j h;·cases h
   rw[kQ] at h
   refine B1n U<|WC.b<|Lj h (fun I h=>?_)<|fun I h=>?_
   ·refine Nn<|WC.b<|WC.block<|WC.b<|cK h fun J h=>Ld<|L2 (Z:=Z) (Pr:=(rq qt)) zad y J ?_
    rintro T V K W rfl
    refine Le 24 (xK z4d (qx hz.pv K)) (Lg 9 (xT (cs:=[vi 0,vi 0,vi 0,vi 0]) zfp) fun X _=>Ll (xP zdF .here)<|Q0n ?_)
    refine bK h fun t L h=>cK h fun M h=>D1q U<|Le 26 (xK z4d (xM .here))<|Le 27 (xK zh (xM .h2))<|Ln 28 (Ns call194) (.cons .h4 .nil) (cc hz (.cons .h4 .nil) fun w pz ho=>az L pz  ho) (Lg 29 (wj (cs:=([t.1]:List z2).flatMap xX) z3U (Lq (l:=[.tmp 28]) (.cons U .nil) [0])) fun Y _=>WL.fA 30 (kG (enc:=xX) (l1:=a) (l2:=([t.1]:List z2)) z3U .h3 (jB .here) (gF Y8) M) ?_)
    rintro⟨N,O⟩ _
    exact La U<|WL.nil<|Lt<|Lb<|D2q U<|WL.nil<|Nz ⟨S,a++([t.1]:List z2),i64 (e+1),t.2.fE,N,O⟩ h .q<|.s4 .here .h3 .h3 .h1
   ·exact N1<|Lm<|Lm<|Lv<|Lo ⟨a,f,g,j⟩ h .q<|.s3 .here .h1 .h1
  ·rintro c d o p h
   replace h:=(H c d).symm.trans h
   refine WC.b<|B0q<|Le 32 (xz lL)<|Le 33 (Nt z6h .h2)<|Q1n U<|Lj h (fun P h=>?_)<|fun P h=>?_
   ·exact WC.b<|Lu (fun i=>[3].contains i) [re n 307 [(0,vi d)]]<|Lf 0 U (we (v:=(.agg #[vi 0,vi 0])) (Lq (l:=[]) .nil []))<|Lf 1 U (xz lL)<|L7 2 U (wB.wk (.cons .h2 .nil)<|.stb (.cons U .nil) .nil) (xA z6h U<|mC .here<|.head _)<|WD.forced0 (i:=3) U (wB.wk (.cons .h2 .nil)<|.stb (.cons U .nil) .nil) (xP zZ .h1)<|Lf 4 U q_z<|N0<|Lb<|Ny<|Lk<|oJ h▸Nm results162 (.agg U zh U (xM .here)<|.tmp U .nil) .nil
   ·exact Nn<|WC.b<|bK h fun ad Q h=>D1q U<|Ln 39 (Ns call195) .nil (ux hz .nil (.cons .here .nil) fun w pz ho la=>ov (zkb:=129) (zqn:=[]) (zcn:=(fun y0 y1=>q8 y0 y1)) Q pz (ZA.row (la _ (.head _) _) (RR.flat (enc:=xX)) ⟨w,pz.1⟩) call129<|fun w' hz' y0 y1  r  hr=>ua hr hz' )<|Ll (xP zZ .h1)<|Q1n U<|Ny<|oJ h▸Nm results162 (.agg U zh U (xM .here)<|.tmp U .nil) .nil
def jo(b:List (List z8))(e:z2)(f:Int->Int->Int->Option (z2×yt)):Nat->Int->Int->Int->Int->Option (z2×yt)
 | 0,_,_,_,_=>none
 | k+1,a,c,g,h=>if decide (a<b.length) then chk (0<=a/\a<b.length) ((mW (nth b a) e).bind fun i=>qI (fun(l:Int)=>(vw (⟨l⟩:yt) (fun y0 y1=>vR y0 y1) (⟨g,h⟩:z2) i.1).bind fun d=>jo b e f k (i64 (a+1)) d.2.fE d.1.fN d.1.fD) fun j=>if decide (c=0) then j i.2 else j c) else f g h c
def gi(b:yt)(c:List (List z8))(d:z2):Option (z2×yt):=
 (gZ).bind fun a=>Va (fun(e:Int) (f:Int) (g:Int)=>some ((⟨e,f⟩:z2),(⟨g⟩:yt))) fun h=>jo c d h xR 0 b.fE a.fN a.fD
theorem oA{Z a s t o f g r}(h:gi o f g=some r){Nx}(hz:Pz [stb a 277 [vi o.fE]] Nx Z)(B:ZS Z 1 (jT Z) s t f)(eO:Ho Nx [stb a 277 [vi o.fE]]):
  RF 126 #[vp a,vs s f.length t,.agg #[vi g.fN,vi g.fD]] Nx (.agg #[vi r.1.fN,vi r.1.fD]) [stb a 277 [vi o.fE]] [stb a 277 [vi r.2.fE]]:=by
 unfold gi at h
 refine N8 func126 U eO U ?_
 let A:List Value:=[vi g.fN,vi g.fD];refine B0q<|Lg 5 (wa (cs:=A)) ?_
 intro q _
 refine Lg 6 (xT (cs:=[vi 0,vi 0]) z1z) fun i _=>Q0n<|WC.b<|bK h fun x E h=>Ld<|Nr call161 hz (tQ E) (Lg 7 (xT (cs:=[vi 0,vi 0]) z1z) fun j _=>Ll (xP zZ .here)<|Q0n ?_)
 refine jK3 h fun y F h=>Nj (fun k l m=>(y k l m=some r)) (fun k l m=>[(6,vp i),(7,vp j)]) (fun k l m=>[stb i 175 [vi 0,vi 0],stb j 175 [vi k,vi l],stb a 277 [vi m]]) ?_ ?_
 ·let C:Value:=(vs s f.length t);let D:Value:=(vi (f.length:Int));refine B1q U<|Le 14 (w9 underlying171)<|Q1n U<|WC.block<|Oa (fun p b c d e=>(jo f g y p b c d e=some r)) (fun p b c d e=>[(0,vp a),(5,vp q),(6,vp i),(7,vp j),(13,C),(14,D),(15,vi b)]) (fun p b c d e=>[stb a 277 [vi c],stb q 175 A,stb i 175 [vi 0,vi 0],stb j 175 [vi d,vi e]]) (fun p b c d e=>p) ⟨xR,0,o.fE,x.fN,x.fD⟩ h .q (.s4 .h3 .h2 .h1 .here) ?_
  rintro(_|O) b c d e h;·cases h
  rw[jo] at h
  refine B1n U<|WC.b<|Lj h (fun G h=>?_)<|fun G h=>?_
  ·refine Nn<|WC.b<|WC.block<|WC.b<|cK h fun H h=>Ld<|L2 (Z:=Z) (Pr:=(jT Z)) zfo B H ?_
   rintro Q R I S ⟨T,V,rfl,J⟩
   refine Le 18 (xA zoc U<|kN hz.pv I)<|Q1n U<|WC.b<|bK h fun u K h=>D1q U<|Le 21 (xK zh (xM .h1))<|Nr call162 hz (fun pz=>Gm K pz J)<|Q2q U<|La U (Lg 10 (xT (cs:=[vi 0,vi 0]) z1z) fun z _=>Ll (xP zZ .here)<|Q1n U ?_)
   refine jK1 h fun P L h=>Na (fun n=>(P n=some r)) (fun n=>[(0,vp a),(5,vp q),(6,vp i),(7,vp j),(10,vp z),(13,C),(14,D),(15,vi b)]) (fun n=>[stb a 277 [vi n],stb q 175 A,stb i 175 [vi 0,vi 0],stb j 175 [vi d,vi e],stb z 175 [vi u.1.fN,vi u.1.fD]]) ?_ ?_
   ·refine B1q U<|Le 26 xY<|Le 27 (xz sf)<|Le 28 (Nt z6h .h1)<|Q1n U<|Lj h (fun M h=>?_)<|fun M h=>?_
    ·exact D2q U<|Le 32 xY<|Le 33 (xz sf)<|Ll (xP ztm .h1)<|WL.nil<|Lo u.2 h .q<|.s5 .here .h1 .h1 .h1 .here
    ·exact N2<|Lo c h .q<|.s5 .h1 .h1 .h1 .h1 .here
   ·rintro n h
    replace h:=(L n).symm.trans h
    exact bK h fun v N h=>D1q U<|Le 35 (xK zh (xM .h3))<|Le 36 (xK zh (xM .h4))<|Ln 37 (Ns call123) (.cons .here .nil) (cc hz (.cons .here .nil) fun w pz ho=>kK (zas:=119) (zcl:=[]) (zb8:=(fun y0 y1=>vR y0 y1)) N pz call119 (fun w' hz' y0 y1  r  hr=>px hr hz' ) ho)<|Ll (xP zZ .h3)<|WL.nil<|Lt<|Lb<|D2q U<|WL.nil<|Nz ⟨O,i64 (b+1),v.2.fE,v.1.fN,v.1.fD⟩ h .q<|.s4 .h1 .h1 .h1 .here
  ·exact N1<|Lm<|Lm<|Lv<|Lo ⟨d,e,c⟩ h .q<|.s3 .h2 .h2 .here
 ·rintro k l m h
  replace h:=(F k l m).symm.trans h
  exact B0q<|Le 39 (xK zh (xM .h1))<|Ll (xP zZ .here)<|Q0n<|Ny<|oJ h▸Nm results126 (.agg U zh U (xM .here) .nil) (.cons .h2 .nil)
def ub(g:yt)(a:z2)(h:List (List z8))(b:yv):Option (z2×yt):=
 (gi g h a).bind fun c=>(vw c.2 (fun y0 y1=>f0 y0 y1) c.1 b.fR).bind fun d=>(vw d.2 (fun y0 y1=>ju y0 y1) d.1 a).bind fun e=>(vw e.2 (fun y0 y1=>vR y0 y1) e.1 b.fL).bind fun f=>some (f.1,f.2)
theorem aB{Z c f g j k d b e a r}(h:ub d b e a=some r){Nx}(hz:Pz [stb c 277 [vi d.fE]] Nx Z)(m:ZS Z 1 (jT Z) g j e)(n:ZC Z f [vs g e.length j])(l:ZC Z k [vi a.fR.fN,vi a.fR.fD,vi a.fL.fN,vi a.fL.fD])(eO:Ho Nx [stb c 277 [vi d.fE]]):
  RF 122 #[vp c,.agg #[vi b.fN,vi b.fD],vq f,vq k] Nx (.agg #[vi r.1.fN,vi r.1.fD]) [stb c 277 [vi d.fE]] [stb c 277 [vi r.2.fE]]:=by
 unfold ub at h
 refine H3 func122 U eO U<|B0q (Lg 5 (wa (cs:=[vi b.fN,vi b.fD])) fun o _=>Lg 6 (xT (cs:=[vi 0,vi 0]) z1z) fun v _=>Q0n<|WC.b ?_)
 refine bK h fun x p h=>bK h fun y q h=>bK h fun z t h=>bK h fun A u h=>Lu (fun i=>[6,9,11,14,15].contains i) [stb o 175 [vi b.fN,vi b.fD]]<|Lf 0 U q_m<|Lf 1 U q_m<|Lf 2 U q_m<|Lf 3 U q_m<|Lh 4 U (xA ziN U<|kN hz.pv n)<|Lh 5 U (xK zh (xM .h1))<|Lf 7 U (xz cG)<|L7 8 U (wB.of<|.cons .h1 .nil) (wn (cs:=[vi a.fR.fN,vi a.fR.fD]) zh<|dw (off:=0) (s:=2) hz.pv l U)<|L7 10 U (wB.of<|.cons .h1 .nil) (xK zh (xM .here))<|Lf 12 U (xz lK)<|L7 13 U (wB.of<|.cons .h1 .nil) (wn (cs:=[vi a.fL.fN,vi a.fL.fD]) zh<|dw (off:=2) (s:=2) hz.pv l U) (WD.call0 (i:=6) U U (.inl ⟨U,(wB.of<|.cons .h2 .nil)⟩) (Ns call126) (.cons .h2 .nil) (cc hz (.cons .h2 .nil) fun w pz ho=>Calls.mono (oA p pz m ho)<|fun _ _ h'=>⟨h'.1,trivial,h'.2⟩) fun _=>WD.call0 (i:=9) U U (.inl ⟨U,(wB.of<|.cons .h2 .nil)⟩) (Ns call123) (.cons .here .nil) (cc hz (.cons .here .nil) fun w pz ho=>Calls.mono (kK (zas:=125) (zcl:=[]) (zb8:=(fun y0 y1=>f0 y0 y1)) q pz call125 (fun w' hz' y0 y1  r  hr=>Vl hr hz' ) ho)<|fun _ _ h'=>⟨h'.1,trivial,h'.2⟩) fun _=>WD.call0 (i:=11) U U (.inl ⟨U,(wB.of<|.cons .h2 .nil)⟩) (Ns call123) (.cons .here .nil) (cc hz (.cons .here .nil) fun w pz ho=>Calls.mono (kK (zas:=124) (zcl:=[]) (zb8:=(fun y0 y1=>ju y0 y1)) t pz call124 (fun w' hz' y0 y1  r  hr=>iq hr hz' ) ho)<|fun _ _ h'=>⟨h'.1,trivial,h'.2⟩) fun _=>WD.call0 (i:=14) U U (.inl ⟨U,(wB.of<|.cons .h2 .nil)⟩) (Ns call123) (.cons .here .nil) (cc hz (.cons .here .nil) fun w pz ho=>Calls.mono (kK (zas:=119) (zcl:=[]) (zb8:=(fun y0 y1=>vR y0 y1)) u pz call119 (fun w' hz' y0 y1  r  hr=>px hr hz' ) ho)<|fun _ _ h'=>⟨h'.1,trivial,h'.2⟩) fun _=>Nc (i:=15) U (xP zZ .h1)<|N0<|Lb<|Ny ?_)
 exact oJ h▸Nm results122 (.agg U zh U (xM .here) .nil) (.cons .h1 .nil)
end Go.Proofs.YthjnhebofpebpaaGreat
