/- A part of this claim's proof: models of functions, walks, plain laws. No conditions. -/
import Derived.Test.YthjnhebofpebpaaGreatW36c
set_option linter.all false
namespace Go.Proofs.YthjnhebofpebpaaGreat
open Go Go.RowKit Sep Tryz
variable {f:Nat}{g:Int}
set_option maxRecDepth 30000
set_option maxHeartbeats 4000000
def qS(a:yu)(zgK:z2->z2->Option (z2×Int))(c:z2)(d:z2):Option (z2×yu):=
 if decide (a.fE≠0) then some ((⟨0,0⟩:z2),a) else(zgK c d).bind fun b=>some (b.1,(⟨b.2⟩:yu))
theorem tR{Z c}(zeg zk8){d}(zgK){a b r}(h:qS d zgK a b=some r){Ny}(hz:Pz [stb c 307 [vi d.fE]] Ny Z)(g:∀ args w,(callFunc zeg args).run Tryz.prog w = .ok (.enter zeg args) w)(i:∀ w:World,PZ [] w Z->∀(x0:z2) (x1:z2) (r:z2×Int),zgK x0 x1=some r->Calls Tryz.prog zeg (([.agg #[vi x0.fN,vi x0.fD],.agg #[vi x1.fN,vi x1.fD]]:List Value)++zk8).toArray w fun e w'=>e = .returned (.tuple #[.agg #[vi r.1.fN,vi r.1.fD],vi r.2])/\Hp [] w w' [])(iF:Ho Ny [stb c 307 [vi d.fE]]):
  RF 210 #[vp c,.func (.func zeg) #[] (zk8).toArray,.agg #[vi a.fN,vi a.fD],.agg #[vi b.fN,vi b.fD]] Ny (.agg #[vi r.1.fN,vi r.1.fD]) [stb c 307 [vi d.fE]] [stb c 307 [vi r.2.fE]]:=by
 unfold qS at h
 refine H3 func210 U iF U<|B0q (Lh 6 (we (cs:=[vi a.fN,vi a.fD])) fun n _=>Lh 7 (we (cs:=[vi b.fN,vi b.fD])) fun o _=>Lh 8 (xV (cs:=[vi 0,vi 0]) z1F U) fun p _=>Q0n<|WC.b<|B1q U<|Le 12 w5<|Le 13 (xB lP)<|Le 14 (Nu z6q .h3)<|Q1n U<|Lj h (fun j h=>?_)<|fun j h=>?_)
 ·exact B0q<|Le 16 (wl (v:=(.agg #[vi 0,vi 0])) (Lq (l:=[]) .nil []))<|Lk (xR z16 .here)<|Q0n<|Nz<|Ll<|oJ h▸Nn results210 (.agg U zg U (xO .here) .nil) (.cons .h3 .nil)
 ·refine Np<|WC.b<|bK h fun m k h=>D1q U<|Le 19 (xN zg (xO .h2))<|Le 20 (xN zg (xO .h1))<|Lo 21 (qk (l:=[.tmp 19,.tmp 20]) (f:=zeg) (caps:=zk8) g<|.r2 U U) .nil (fun w hw=>i w (hz.now hw) a b m  k)<|Q2q U<|La U (Lh 9 (xV (cs:=[vi 0,vi 0]) z1F U) fun q _=>Lk (xR z16 .here)<|Q1n U<|B2q U<|Le 26 w5<|Le 27 (xB lP)<|Lk (xR ztQ .h4)<|Q0n<|B0q<|Le 28 (xN zg (xO .h1))<|Lk (xR z16 .h2)<|Q0n<|Nz ?_)
  exact oJ h▸Nn results210 (.agg U zg U (xO .here) .nil) (.cons .h1 .nil)
def cg(a:z2)(b:z2):Option (Int×Int):=
 some (i64 (a.fN*b.fD),i64 (a.fD*b.fN))
theorem GD{Z c d a b r}(h:cg a b=some r){Ny}(hz:PZ [] Ny Z)(e:ZC Z c [vi a.fN,vi a.fD])(f:ZC Z d [vi b.fN,vi b.fD]):
  RC 190 #[vq c,vq d] Ny (.tuple #[vi r.1,vi r.2]) [] []:=by
 unfold cg at h
 exact L0 func190 U U<|B2n U<|WC.b<|Lu nc []<|Lf 0 U (xB jI)<|Lg 1 U (xC xL U<|wt hz.pv e)<|Lf 2 U (xB kD)<|Lg 3 U (xC xL U<|wt hz.pv f)<|Lf 4 U sX<|Lf 5 U (xB kD)<|Lg 6 U (xC xL U<|wt hz.pv e)<|Lf 7 U (xB jI)<|Lg 8 U (xC xL U<|wt hz.pv f)<|Lf 9 U sX<|Lf 10 U q_z<|Lf 11 U q_z<|N1<|Lb<|Nz<|oJ h▸Nn results190 (.tmp U<|.tmp U .nil) .nil
def iB(b:z2)(a:z2):Option (z2×Int):=
 (qJ b).bind fun e=>(if !e then some true else(qJ a).bind fun f=>some (!f)).bind fun g=>if g||(decide (a.fN=0)) then some ((⟨0,0⟩:z2),2) else(cg b a).bind fun c=>(uJ c.1 c.2).bind fun d=>some (d.1,d.2)
theorem Fq{Z b a r}(h:iB b a=some r){Ny}(hz:PZ [] Ny Z):
  RC 159 #[.string ⟨#[47]⟩,.agg #[vi b.fN,vi b.fD],.agg #[vi a.fN,vi a.fD]] Ny (.tuple #[.agg #[vi r.1.fN,vi r.1.fD],vi r.2]) [] []:=by
 unfold iB at h
 refine Nl func159 U U<|B0q (Lh 4 (we (cs:=[vi b.fN,vi b.fD])) fun d _=>Lh 5 (we (cs:=[vi a.fN,vi a.fD])) fun e _=>Lh 6 (xV (cs:=[vi 0,vi 0]) z1F U) fun s _=>Q1n U<|WC.b<|WC.b ?_)
 refine bK h fun u i h=>bK h fun f g h=>Ld<|Le 9 (xN zg (xO .h2))<|Ns call130 hz (jX i)<|Q2q U<|Ly false 3 12 (B:=f) (hB:=(fun h=>(oJ<|ju g h).symm)) (fun _ j=>?_) ?_
 ·have c:=jv g j
  obtain⟨y,m,c⟩:=za c
  replace c:=oJ c
  exact Le 13 (xN zg (xO .h1))<|Ns call130 hz (jX m)<|Q2q U<|Lz c U .all
 refine La U<|Ly false 7 17 (B:=f||(decide (a.fN=0))) (hB:=(fun h=>(fc h).symm)) (fun _ n=>?_) ?_
 ·exact La U<|Le 19 (Ys (r:=true) U U)<|La U<|Le 21 (xB jI)<|Le 22 (Nu xL .h1)<|Q3q U<|Lz (ff n) U .all
 refine Q0n<|Lj h (fun o h=>?_)<|fun o h=>?_
 ·exact B0q<|Le 26 (wl (v:=(.agg #[vi 0,vi 0])) (Lq (l:=[]) .nil []))<|Lk (xR z16 .here)<|Q1n U<|Nz<|Ll<|oJ h▸Nn results159 (.agg U zg U (xO .here)<|.tmp U .nil) .nil
 ·refine Np<|B0q<|Lh 27 (kq Value.string<|fun x=>x) ?_
  intro t _
  let A:Value:=(.func (.func 190) #[] #[vp d,vp e]);refine Le 28 (wO<|L5 (l:=[.tmp 4,.tmp 5])<|.r2 U U)<|Lk (gR (k:=⟨#[43]⟩) (v:=(.func (.func 187) #[] #[vp d,vp e])) fJ underlying304 .here)<|Le 29 (wO<|L5 (l:=[.tmp 4,.tmp 5])<|.r2 U U)<|Lk (gR (k:=⟨#[45]⟩) (v:=(.func (.func 188) #[] #[vp d,vp e])) fJ underlying304 .here)<|Le 30 (wO<|L5 (l:=[.tmp 4,.tmp 5])<|.r2 U U)<|Lk (gR (k:=⟨#[42]⟩) (v:=(.func (.func 189) #[] #[vp d,vp e])) fJ underlying304 .here)<|Le 31 (wO<|L5 (l:=[.tmp 4,.tmp 5])<|.r2 U U)<|Lk (gR (k:=⟨#[47]⟩) (v:=A) fJ underlying304 .here)<|Q2n U<|WC.b ?_
  exact bK h fun z p h=>bK h fun C q h=>D2q U<|Le 35 (Yr (k:=⟨#[47]⟩) (dflt:=.nilFunc) (r:=A) fJ underlying304 zxO U U U .here)<|Lo 36 (qk (l:=[]) call190 .nil) .nil (uB hz .nil (.s2 .h3 .h2) fun w pz ho la=>GD p pz ((la _ (.head _) _).stb)<|(la _ (.tail _<|.head _) _).stb)<|Q2q U<|Ns call160 hz (l4 q)<|Q2q U<|Lk (xR z16 .h1)<|Q1n U<|Nz<|oJ h▸Nn results159 (.agg U zg U (xO .here)<|.tmp U .nil) .nil
def gZ(b:z2)(c:z2):Option (z2×Int):=
 (iB b c).bind fun a=>some (a.1,a.2)
theorem VK{Z a b r}(h:gZ a b=some r){Ny}(hz:PZ [] Ny Z):
  RC 125 #[.agg #[vi a.fN,vi a.fD],.agg #[vi b.fN,vi b.fD]] Ny (.tuple #[.agg #[vi r.1.fN,vi r.1.fD],vi r.2]) [] []:=by
 unfold gZ at h
 refine L0 func125 U U<|B0q (Lh 2 (we (cs:=[vi a.fN,vi a.fD])) fun d _=>Lh 3 (we (cs:=[vi b.fN,vi b.fD])) fun e _=>Lh 4 (xV (cs:=[vi 0,vi 0]) z1F U) fun f _=>Q1n U<|WC.b ?_)
 exact bK h fun g c h=>Ld<|Le 6 (xN zg (xO .h2))<|Le 7 (xN zg (xO .h1))<|Ns call159 hz (Fq c)<|Q2q U<|Lk (xR z16 .here)<|Q1n U<|Nz<|oJ h▸Nn results125 (.agg U zg U (xO .here)<|.tmp U .nil) .nil
theorem z16n:∀ w,(isAgg (Tryz.go.t 24)).run Tryz.prog w = .ok true w:=fun _=>by kernel_rfl
theorem z16o:∀ w,(Go.sizeOf (Tryz.go.t 24)).run Tryz.prog w = .ok 2 w:=fun _=>by kernel_rfl
def mn(z7v:List z2)(zvf:Int)(zvg:Int)(zqk:Int)(zn4:z2->z2->Option Int):Option (List z2):=chk ((zvf=0/\zvg=(z7v.length:Int))/\(0<=zqk/\zqk<4611686018427387904/\z7v.length<4611686018427387904)) (chk (ou zn4 (wC zn4 z7v)=true) (some (wC zn4 z7v)))
theorem oK{Z}(zn5 zn6 zvh zH6 z7v zvf zvg zqk zn4 r){Ny}(hz:Pz [row (vs zn5 z7v.length zn6) 175 2 (z7v.flatMap w4)] Ny Z)(a:∀ args w,(callFunc zvh args).run Tryz.prog w = .ok (.enter zvh args) w)(b:∀ w:World,PZ [] w Z->∀(x0:z2) (x1:z2) (r:Int),zn4 x0 x1=some r->Calls Tryz.prog zvh (([.agg #[vi x0.fN,vi x0.fD],.agg #[vi x1.fN,vi x1.fD]]:List Value)++zH6).toArray w fun e w'=>e = .returned (vi r)/\Hp [] w w' [])(h:mn z7v zvf zvg zqk zn4=some r)(iF:Ho Ny [row (vs zn5 z7v.length zn6) 175 2 (z7v.flatMap w4)]):
  Calls Tryz.prog 227 #[vs zn5 z7v.length zn6,vi zvf,vi zvg,vi zqk,.func (.func zvh) #[] (zH6).toArray] Ny fun e w'=>e = .returned (.tuple #[])/\(r.length=z7v.length)/\Hp (fps [row (vs zn5 z7v.length zn6) 175 2 (z7v.flatMap w4)]) Ny w' [row (vs zn5 r.length zn6) 175 2 (r.flatMap w4)]:=by
 obtain⟨h0,h⟩:=xI h
 obtain⟨h1,h⟩:=xI h
 have hr:=(oJ h).symm
 exact im (P:=Tryz.prog) (f:=227) (e:=175) (k:=2) (enc:=w4) Yt (fun β _ enc cf g cb hO wq off cap d0 w0 eg hC R=>Tryz.lJ 2 z16n z16o enc cf g cb hO wq off cap d0 w0 eg hC R) (Tryz.lf (α:=Unit)) hz a b h0 h1 hr iF
def j7(a:List z2)(zql:z2->z2->Option Int):Option (List z2):=
 (fj (u64 (a.length:Int))).bind fun b=>(mn a 0 (a.length:Int) b zql).bind fun c=>some c
theorem od{Z b c}(zqm zz8){a}(zql){r}(h:j7 a zql=some r){Ny}(hz:Pz [row (vs b a.length c) 175 2 (a.flatMap w4)] Ny Z)(j:∀ args w,(callFunc zqm args).run Tryz.prog w = .ok (.enter zqm args) w)(k:∀ w:World,PZ [] w Z->∀(x0:z2) (x1:z2) (r:Int),zql x0 x1=some r->Calls Tryz.prog zqm (([.agg #[vi x0.fN,vi x0.fD],.agg #[vi x1.fN,vi x1.fD]]:List Value)++zz8).toArray w fun e w'=>e = .returned (vi r)/\Hp [] w w' [])(iF:Ho Ny [row (vs b a.length c) 175 2 (a.flatMap w4)]):
  Calls Tryz.prog 214 #[vs b a.length c,.func (.func zqm) #[] (zz8).toArray] Ny fun e w'=>e = .returned (.tuple #[])/\(r.length=a.length)/\Hp (fps [row (vs b a.length c) 175 2 (a.flatMap w4)]) Ny w' [row (vs b r.length c) 175 2 (r.flatMap w4)]:=by
 unfold j7 at h
 refine Nj func214 U iF U<|B1q U<|Le 6 (wc underlying229)<|Q1n U<|bK h fun d l h=>bK h fun f m h=>D3q U<|Le 10 (fF underlying3 underlying147)<|Ns call57 hz (fun pz=>oZ  (zba:=(u64 (a.length:Int))) (r:=d) pz  l)<|La U<|Nc U (Nt call227) (.cons .here .nil) (cc hz (.cons .here .nil) fun w pz ho=>oK (zn5:=b) (zn6:=c) (zvh:=zqm) (zH6:=zz8) (z7v:=a) (zvf:=0) (zvg:=(a.length:Int)) (zqk:=d) (zn4:=zql) (r:=f) pz j k m ho) ?_
 rintro  g
 exact L9 (i:=0) U (u:=(vs b f.length c)) (qD g.symm)<|WL.nil<|oJ h▸Nh results214 .nil fun w hw=>⟨ms,g.trans U,hw.sub (.cons .here .nil)⟩
def vH(e:List z2)(b:Int)(f:(List z2)->Int->Option (List z2)):Nat->(List z2)->Int->Int->Option (List z2)
 | 0,_,_,_=>none
 | h+1,c,d,a=>if decide (a<((e.length-(b:Int).toNat:Nat):Int)) then sm (fun(i:List z2) (j:Int)=>vH e b f h i j (i64 (a+1))) fun g=>chk (0<=a/\a<((e.length-(b:Int).toNat:Nat):Int)) (chk (0<=(i64 (a-1))/\(i64 (a-1))<((e.length-(b:Int).toNat:Nat):Int)) (if decide ((⟨(nth c (b+a)).fN,(nth c (b+a)).fD⟩:z2)≠(⟨(nth c (b+(i64 (a-1)))).fN,(nth c (b+(i64 (a-1)))).fD⟩:z2)) then chk (0<=a/\a<((e.length-(b:Int).toNat:Nat):Int)) (chk (0<=d/\d<c.length) (g (c.set (d:Int).toNat (⟨(nth c (b+a)).fN,(nth c (b+a)).fD⟩:z2)) (i64 (d+1)))) else g c d)) else f c d
def vJ(b:List z2)(e:Option (List z2)):Nat->Int->Option (List z2)
 | 0,_=>none
 | f+1,a=>if decide (a<b.length) then uN (vJ b e f (i64 (a+1))) fun g=>chk (0<=a/\a<b.length) (chk (0<=(i64 (a-1))/\(i64 (a-1))<b.length) (if decide ((⟨(nth b a).fN,(nth b a).fD⟩:z2)=(⟨(nth b (i64 (a-1))).fN,(nth b (i64 (a-1))).fD⟩:z2)) then chk (0<=a/\a<b.length) (sm (fun(d:List z2) (c:Int)=>chk (0<=c/\c<=d.length) (chk (0<=c/\c<=(((d.take (c:Int).toNat++List.replicate (d.length-(c:Int).toNat) ((⟨0,0⟩:z2):z2)).length:Nat):Int)) (some ((d.take (c:Int).toNat++List.replicate (d.length-(c:Int).toNat) ((⟨0,0⟩:z2):z2)).take (c:Int).toNat)))) fun h=>vH b a h xT b a 1) else g)) else e
def jo(a:List z2):Option (List z2):=
 if decide ((a.length:Int)<2) then some a else uN (some a) fun b=>vJ a b xT 1
theorem ox{Z s j g r}(h:jo g=some r){Ny}(hz:Pz [row (vs s g.length j) 175 2 (g.flatMap w4)] Ny Z)(iF:Ho Ny [row (vs s g.length j) 175 2 (g.flatMap w4)]):
  Calls Tryz.prog 215 #[vs s g.length j] Ny fun e w'=>∃ N:Option Addr,∃ O:Nat,e = .returned (vs N r.length O)/\True/\Hp (fps [row (vs s g.length j) 175 2 (g.flatMap w4)]) Ny w' [row (vs N r.length O) 175 2 (r.flatMap w4)]:=by
 unfold jo at h
 refine Bl func215 U iF U<|B1n U<|WC.b<|B1q U<|Le 7 (wc underlying229)<|Q1n U<|Lj h (fun V h=>?_)<|fun V h=>?_
 ·exact B2n U<|Nz<|Ll<|oJ h▸Li results215 (.tmp U .nil) fun w hw=>⟨s,j,w3,trivial,hw.sub (.cons .here .nil)⟩
 ·refine Np ?_
  obtain⟨P,W,h⟩:=qM h
  let C:Value:=(vs s g.length j);let E:List Asrt:=[row C 175 2 (g.flatMap w4)];refine Nf (P=some r) ([(0,C)]) E ?_ ?_
  ·refine B1n U<|WC.block<|Ng (fun G c=>(vJ g P G c=some r)) (fun G c=>[(0,C),(3,vi c)]) (fun G c=>E) (fun G c=>G) ⟨xT,1⟩ h .q (.cons .here .nil) ?_
   rintro(_|al) c h;·cases h
   rw[vJ] at h
   refine WC.b<|B2q U<|Le 12 (wc underlying229)<|Q1n U<|Lj h (fun X h=>?_)<|fun X h=>?_
   ·refine Np<|jK0 h fun am Y h=>Nf (am=some r) ([(0,C),(3,vi c)]) E ?_ ?_
    ·refine WC.block<|WC.b<|cK h fun H h=>cK h fun I h=>Lu nc []<|Lf 0 U q_m<|Lf 1 U q_m<|Nk (fun w hw=>Hp.vf .here hw (by intro hz';have:=H;rw[hz'] at this;omega)) ?_
     rintro⟨o,rfl⟩
     refine Lf 2 U (xZ z41 H.1 H.2 wF)<|Lg 3 U (wo (cs:=(w4<|nth g c)) zg<|vQ .here<|wN (enc:=w4) (l:=g) (i:=c) (sz:=2) H.1 H.2)<|Lf 4 U q_m<|Lf 5 U q_m<|Lf 6 U uH<|Lf 7 U (xZ z41 I.1 I.2 wF)<|Lg 8 U (wo (cs:=(w4<|nth g<|i64 (c-1))) zg<|vQ .here<|wN (enc:=w4) (l:=g) (i:=i64 (c-1)) (sz:=2) I.1 I.2)<|Lf 9 U (lF (enc:=w4) (a:=(⟨(nth g c).fN,(nth g c).fD⟩:z2)) (b:=(⟨(nth g<|i64 (c-1)).fN,(nth g<|i64 (c-1)).fD⟩:z2)) zMa)<|N1<|Lb<|Lj h (fun aa h=>?_)<|fun aa h=>?_
     ·refine WC.b<|cK h fun t h=>D2q U<|Ri U U z41 U U .here t<|Q1n U<|jK2 h fun Q ab h=>H6 (fun m p=>(Q m p=some r)/\(m.length=g.length)) (fun m p=>[(0,vs (some ⟨o,0,none⟩) m.length j),(3,vi p)]) (fun m p=>[row (vs (some ⟨o,0,none⟩) m.length j) 175 2 (m.flatMap w4)]) ?_ ?_
      ·let D:Value:=(vs (some ⟨o,(c:Int).toNat*2,none⟩) (g.length-(c:Int).toNat) (j-(c:Int).toNat));refine B1n U<|WC.block<|Cv (fun x d n f=>(vH g c Q x d n f=some r)/\(d.length=g.length)) (fun x d n f=>[(0,vs (some ⟨o,0,none⟩) d.length j),(3,vi n),(4,D),(5,vi f)]) (fun x d n f=>[row (vs (some ⟨o,0,none⟩) d.length j) 175 2 (d.flatMap w4)]) (fun x d n f=>x) ⟨xT,g,c,1⟩ ⟨h,U⟩ .q (.cons .here .nil) ?_
       rintro (_|an) d n f ⟨h,z⟩;·cases h
       rw[vH] at h
       refine WC.b<|B2q U<|Le 31 (wc underlying229)<|Q1n U<|Lj h (fun ad h=>?_)<|fun ad h=>?_
       ·refine Np<|jK2 h fun ao ae h=>H6 (fun q v=>(ao q v=some r)/\(q.length=g.length)) (fun q v=>[(0,vs (some ⟨o,0,none⟩) q.length j),(3,vi v),(4,D),(5,vi f)]) (fun q v=>[row (vs (some ⟨o,0,none⟩) q.length j) 175 2 (q.flatMap w4)]) ?_ ?_
        ·refine WC.block<|WC.b<|cK h fun J h=>cK h fun K h=>Lu nc []<|Lf 0 U q_m<|Lf 1 U q_m ?_
         have R:(0:Int)<=c+f/\c+f<d.length:=by have h1:=z;have h2:=t;have h3:=J;omega
         refine Lf 2 U (xZ z41 J.1 J.2<|Xk t.1 J.1)<|Lg 3 U (wo (cs:=(w4<|nth d (c+f))) zg<|vQ .here<|wN (enc:=w4) (l:=d) (i:=c+f) (sz:=2) R.1 R.2)<|Lf 4 U q_m<|Lf 5 U q_m<|Lf 6 U uH ?_
         have S:(0:Int)<=c+(i64 (f-1))/\c+(i64 (f-1))<d.length:=by have h1:=z;have h2:=t;have h3:=K;omega
         refine Lf 7 U (xZ z41 K.1 K.2<|Xk t.1 K.1)<|Lg 8 U (wo (cs:=(w4<|nth d (c+(i64 (f-1))))) zg<|vQ .here<|wN (enc:=w4) (l:=d) (i:=c+(i64 (f-1))) (sz:=2) S.1 S.2)<|Lf 9 U (eO (enc:=w4) (a:=(⟨(nth d (c+f)).fN,(nth d (c+f)).fD⟩:z2)) (b:=(⟨(nth d (c+(i64 (f-1)))).fN,(nth d (c+(i64 (f-1)))).fD⟩:z2)) zMa U U)<|N1<|Lb<|Lj h (fun af h=>?_)<|fun af h=>?_
         ·refine WC.b<|cK h fun L h=>cK h fun B h=>D3q U<|La U ?_
          have T:(0:Int)<=c+f/\c+f<d.length:=by have h1:=z;have h2:=t;have h3:=L;omega
          let F:List Value:=[vi ((nth d (c+f)).fN),vi ((nth d (c+f)).fD)];refine Le 49 (xZ z41 L.1 L.2<|Xk t.1 L.1)<|Le 50 (wo (cs:=(w4<|nth d (c+f))) zg<|vQ .here<|wN (enc:=w4) (l:=d) (i:=c+f) (sz:=2) T.1 T.2)<|Le 51 (xZ z41 B.1 B.2 wF)<|Lk (gb (vs:=F) (ds:=(d.set (n:Int).toNat (⟨(nth d (c+f)).fN,(nth d (c+f)).fD⟩:z2)).flatMap w4) z16 sV .here (mu (enc:=w4) (sz:=2) (k:=0) B.1 B.2)<|mt (enc:=w4) (l:=d) (sz:=2) (vs:=F) (y:=(⟨(nth d (c+f)).fN,(nth d (c+f)).fD⟩:z2)) (k:=0) B.1 B.2<|Nat.le_of_ble_eq_true U)<|At .here (u:=(vs (some ⟨o,0,none⟩) ((d.set (n:Int).toNat (⟨(nth d (c+f)).fN,(nth d (c+f)).fD⟩:z2)).length) j)) (qD (List.length_set).symm)<|L9 (i:=0) U (u:=(vs (some ⟨o,0,none⟩) ((d.set (n:Int).toNat (⟨(nth d (c+f)).fN,(nth d (c+f)).fD⟩:z2)).length) j)) (qD (List.length_set).symm)<|Q0n<|D3q U<|WL.nil<|Lt ?_
          exact Lp ⟨d.set (n:Int).toNat (⟨(nth d (c+f)).fN,(nth d (c+f)).fD⟩:z2),i64 (n+1)⟩ ⟨h,(List.length_set).trans z⟩ .q<|.cons .here .nil
         ·exact N3<|Lt<|Lp ⟨d,n⟩ ⟨h,z⟩ .q<|.cons .here .nil
        ·rintro q v ⟨h,ag⟩
         replace h:=(ae q v).symm.trans h
         exact D3q U<|WL.nil<|N0 ⟨an,q,v,i64 (f+1)⟩ ⟨h,ag⟩ .q<|.cons .here .nil
       ·exact N2<|Ln<|Ln<|Lv<|Lp ⟨d,n⟩ ⟨h,z⟩ .q<|.cons .here .nil
      ·rintro m p ⟨h,ap⟩
       replace h:=(ab m p).symm.trans h
       refine WC.b<|cK h fun M h=>D2q U<|P0 U U z41 U U .here M ?_
       intro aq ar ah
       let A:Value:=(vs (some ⟨o,0,none⟩) ((m.take (p:Int).toNat++List.replicate (m.length-(p:Int).toNat) ((⟨0,0⟩:z2):z2)).length) j);refine Lk (aC (enc:=w4) (z0:=((⟨0,0⟩:z2):z2)) (l:=m) z41 z1F U ah M (fun _=>U) U Yt .here)<|At .here (u:=A) (qD (oR M).symm)<|L9 (i:=0) U (u:=A) (qD (oR M).symm)<|Q0n<|WC.b ?_
       refine cK h fun ai h=>D1q U<|La U (Ph (enc:=w4) (ls:=m.take (p:Int).toNat++List.replicate (m.length-(p:Int).toNat) ((⟨0,0⟩:z2):z2)) U U z41 U U .here ai fun aj ak=>Q1n U<|Nz<|Lx<|Ll<|Ll<|Lx<|Ll ?_)
       exact oJ h▸Li results215 (.tmp U .nil) fun w hw=>⟨aj,ak,w3,trivial,hw.sub (.cons .here .nil)⟩
     ·exact N3<|Lt<|Lp () h .q<|.cons .here .nil
    ·rintro  h
     replace h:=Y.symm.trans h
     exact D3q U<|WL.nil<|N0 ⟨al,i64 (c+1)⟩ h .q<|.cons .here .nil
   ·exact N2<|Ln<|Ln<|Lv<|Lp () h (.cons U .nil)<|.cons .here .nil
  ·rintro  h
   replace h:=W.symm.trans h
   exact B2n U<|Nz<|oJ h▸Li results215 (.tmp U .nil) fun w hw=>⟨s,j,w3,trivial,hw.sub (.cons .here .nil)⟩
def qs(a:z8×z8)(b:List z2)(d:Int):Option (Bool×(Nat×List z2×Int)):=
 (qa a.1.yi a.2.yi).bind fun g=>if decide (g<0) then(qS (⟨d⟩:yu) (fun y0 y1=>jB y0 y1) a.2.yi a.1.yi).bind fun e=>(qS e.2 (fun y0 y1=>jB y0 y1) a.1.fR a.2.fR).bind fun f=>(qS f.2 (fun y0 y1=>gZ y0 y1) e.1 f.1).bind fun c=>chk (((b++([c.1]:List z2)).length:Int)*16<=140737488355328/\((b++([c.1]:List z2)).length:Int)<=4611686018427387904) (some (true,(0,b++([c.1]:List z2),c.2.fE))) else some (true,(0,b,d))
def jL(a:List z8):Option (List z2×Int):=
 (mM a).bind fun f=>if !f then some (([]:List z2),2) else(pB a).bind fun b=>sm (fun(c:Int) (g:List z2)=>if decide (c≠0) then some (([]:List z2),c) else(j7 g (fun y0 y1=>qa y0 y1)).bind fun h=>(jo h).bind fun i=>some (i,0)) fun j=>(rB b b).bind fun d=>(um (Nat×List z2×Int) (fun(x:z8×z8) (s:Nat×List z2×Int)=>chk (s.1=0) (qs x s.2.1 s.2.2)) (0,([]:List z2),0) d.1 d.2).bind fun e=>j e.2.2 e.2.1
theorem dW{Z W X S r}(h:jL S=some r){Ny}(hz:PZ [] Ny Z)(aa:ZS Z 4 (rq qw) W X S):
  Calls Tryz.prog 199 #[vs W S.length X] Ny fun e w'=>∃ ab:Option Addr,∃ ad:Nat,e = .returned (.tuple #[vs ab r.1.length ad,vi r.2])/\True/\Hp [] Ny w' [row (vs ab r.1.length ad) 175 2 (r.1.flatMap w4)]:=by
 unfold jL at h
 let O:Value:=(vs W S.length X);refine Of (vs:=[O]) (pre:=[]) (env:=[(0,O)]) func199 U ntmps199 U (Hp.nil Ny _) U ?_
 refine WC.pool<|B2n U<|WC.b<|WC.b<|bK h fun aU ar h=>D1q U<|Lo 10 (Nt call192) .nil (mv hz .nil .here fun w pz ho=>om ar pz<|aa.mono<|zl)<|Q1n U<|Lj h (fun au h=>?_)<|fun au h=>?_
 ·exact B2n U<|Nz<|Ll<|WX.nilRow 175 2<|oJ h▸Pd results199 (.tmp U<|.tmp U .nil) fun w hw=>⟨none,0,qc,trivial,hw.sub (.cons .here .nil)⟩
 ·refine Np<|B0q (Lh 4 (xV (cs:=[vi 0]) zM7 U) fun o _=>Q0n<|B0q (Lh 5 (xV (cs:=[vn]) zCT U) fun n _=>Q0n<|WC.b ?_))
  refine bK h fun aV av h=>D1q U<|H4 U (Nt call212) .nil (mv hz .nil .h2 fun w pz ho=>J8 av pz<|aa.mono<|zl) ?_
  rintro aY aZ _
  refine Q1n U<|jK2 h fun aW aw h=>Rp (fun P t p Q u v=>(aW t p=some r)/\(xF (Z++[]) (Z++Q))) (fun P t p Q u v=>[(4,vp o),(5,vp n)]) (fun P t p Q u v=>[fz Q,stb o 307 [vi t],stb n 229 [vs u p.length v],row (vs u p.length v) 175 2 (p.flatMap w4),kp P]) ?_ ?_
  ·refine WC.b<|WC.freezeS (ls:=aV) .here .h2 hz (RR.flat (enc:=qw)) ?_
   intro k ax ae
   refine bK h fun T ay h=>D2q U<|Rk U U U (Nt call213) .nil (mv hz .nil .here fun w pz ho=>Ql ay pz ae ae) ?_
   rintro c d af ag ah ai ⟨az,aA⟩
   refine Q0n<|WC.block<|WC.pool<|WC.drop (.s6 .here .h3 .h3 .here .here .here)<|WC.nilRow 175 2<|H7 (f:=226) (caps:=[vp c,vp d]) U call226 ?_
   intro a0 a1 q j y V aB aC w hw
   let L:Value:=(vs none (([]:List z2).length) 0);let A:List Asrt:=[fz [],stb n 229 [L],row L 175 2 (([]:List z2).flatMap w4),stb o 307 [vi 0],wq q (y .ready none)];have hw1:=hw.selAll ((.s5 .h3 .h3 .h2 .h2 .here):Sel _ A _)
   let C:List Value:=[vs af T.1.length ag];let E:List Value:=[vs ah T.2.length ai];let H:List Asrt:=[stb c 227 C,stb d 227 E];have pz:=(hz.call2 hw1 ((.cons .here .nil):Sel [qv A,kp j,stb c 227 C,stb d 227 E,fz k] [qv A] [kp j,stb c 227 C,stb d 227 E,fz k]) .h3).lend hw1 ((.cons .here .nil):Sel [qv A,kp j,stb c 227 C,stb d 227 E,fz k] [qv A] [kp j,stb c 227 C,stb d 227 E,fz k]) (B:=H) (fun _ hx'=>((.s2 .h1 .h1):Sel _ H _).mem hx')
   refine bK h fun m aD h=>Calls.mono (We (zmT:=q) (zcw:=(Option Addr×Nat)) (z9A:=(fun(g:Option Addr×Nat) (s:Nat×List z2×Int)=>qv ([fz [],stb n 229 [vs g.1 s.2.1.length g.2],row (vs g.1 s.2.1.length g.2) 175 2 (s.2.1.flatMap w4),stb o 307 [vi s.2.2]]++[wq q (y (rW<|uk [] s.1)<|uk [] s.1)]))) (zgJ:=(fun(g:Option Addr×Nat) (s:Nat×List z2×Int)=>True)) (zmU:=(none,0)) (zGX:=⟨c,0,none⟩) (zmV:=af) (zmW:=ag) (zmX:=⟨d,0,none⟩) (zz1:=ah) (zz2:=ai) (z1j:=(Nat×List z2×Int)) (z7u:=(fun(x:z8×z8) (s:Nat×List z2×Int)=>chk (s.1=0)<|qs x s.2.1 s.2.2)) (zee:=(0,([]:List z2),0)) (z2r:=T.1) (z3m:=T.2) (r:=m) pz ?_ trivial (az.mono<|zl) ((hw1.lent ((.cons .here .nil):Sel [qv A,kp j,stb c 227 C,stb d 227 E,fz k] [qv A] [kp j,stb c 227 C,stb d 227 E,fz k]) (B:=H) (fun _ hx'=>((.s2 .h1 .h1):Sel _ H _).mem hx') (.head _) _).stb) (aA.mono<|zl) ((hw1.lent ((.cons .here .nil):Sel [qv A,kp j,stb c 227 C,stb d 227 E,fz k] [qv A] [kp j,stb c 227 C,stb d 227 E,fz k]) (B:=H) (fun _ hx'=>((.s2 .h1 .h1):Sel _ H _).mem hx') (.tail _<|.head _) _).stb) aD<|hw1.owns ((.cons .here .nil):Sel [qv A,kp j,stb c 227 C,stb d 227 E,fz k] [qv A] [kp j,stb c 227 C,stb d 227 E,fz k])) ?_
   ·refine bQ (LI:=(fun(g:Option Addr×Nat) (s:Nat×List z2×Int)=>[fz [],stb n 229 [vs g.1 s.2.1.length g.2],row (vs g.1 s.2.1.length g.2) 175 2 (s.2.1.flatMap w4),stb o 307 [vi s.2.2]])) (pc:=(fun(s:Nat×List z2×Int)=>uk [] s.1)) V aB aC ?_
    rintro a _ ⟨aj,ak⟩ ⟨aE,z,al⟩ aF aG Fb wb am _ hz
    replace hz:=hz.left
    letI:Rnd:=bP q
    obtain⟨Af,b⟩:=xI am
    replace Af:aE=0:=Af;subst Af;clear am
    replace b:qs a z al=some (aF,aG):=b
    unfold qs at b
    let J:Value:=(vs aj z.length ak);let F:List Asrt:=[fz [],stb n 229 [J],row J 175 2 (z.flatMap w4),stb o 307 [vi al],wq q (y .ready none)];refine WC.restr (env':=[(11,.bool (!aU)),(4,vp o),(5,vp n),(17,.agg #[vi a.1.yi.fN,vi a.1.yi.fD,vi a.1.fR.fN,vi a.1.fR.fD]),(18,.agg #[vi a.2.yi.fN,vi a.2.yi.fD,vi a.2.fR.fN,vi a.2.fR.fD])]) (.qo U)<|Ov (L':=F) U<|B0q<|Lh 7 (xV (cs:=[vi 0,vi 0,vi 0,vi 0]) zfI U) ?_
    intro aH _
    refine Lk (xR zdS .here)<|Q0n<|Ld (Lh 8 (xV (cs:=[vi 0,vi 0,vi 0,vi 0]) zfI U) fun aI _=>Lk (xR zdS .here)<|WL.nil<|Oc V .h6<|WC.block<|WC.b ?_)
    obtain⟨a4,aJ,b⟩:=za b
    let M:List Value:=[vi a.1.yi.fN,vi a.1.yi.fD];let N:List Value:=[vi a.2.yi.fN,vi a.2.yi.fD];refine Ld<|Le 19 (xB uw)<|Le 20 (wo (cs:=M) zg<|gN (s:=2) .h2 U)<|Le 21 (xB uw)<|Le 22 (wo (cs:=N) zg<|gN (s:=2) .h1 U)<|Lo 23 (Nt call129) .nil (mv hz .nil .h3 fun w pz ho=>uf aJ pz )<|Q1n U<|WC.cond U (fun Y=>?_)<|fun Y=>?_
    ·replace b:=ju b Y
     obtain⟨a5,aK,b⟩:=za b
     obtain⟨a6,aL,b⟩:=za b
     obtain⟨R,aM,b⟩:=za b
     obtain⟨aN,b⟩:=xI b
     refine Lu (fun i=>[5,10,11,13,14].contains i) [rb n 229 [(0,J)],rb aH 225 [(2,vi a.1.fR.fN),(3,vi a.1.fR.fD)],rb aI 225 [(2,vi a.2.fR.fN),(3,vi a.2.fR.fD)]]<|L8 0 U (wJ.wk (.s3 .h4 .h2 .h1)<|.stb (.cons U .nil)<|.stb (.cons U<|.cons U .nil)<|.stb (.cons U<|.cons U .nil) .nil) (xC zdT U<|mG .here<|.head _)<|Lf 1 U (xB uw)<|Lg 2 U (wo (cs:=N) zg<|gN (s:=2) .h1 U)<|Lf 3 U (xB uw)<|Lg 4 U (wo (cs:=M) zg<|gN (s:=2) .h2 U)<|Lf 6 U (xB sd)<|L8 7 U (wJ.wk (.s3 .h4 .h2 .h1)<|.stb (.cons U .nil)<|.stb (.cons U<|.cons U .nil)<|.stb (.cons U<|.cons U .nil) .nil) (wo (cs:=[vi a.1.fR.fN,vi a.1.fR.fD]) zg<|eV .h1 (.head _)<|(.tail _<|.head _))<|Lf 8 U (xB sd)<|L8 9 U (wJ.wk (.s3 .h4 .h2 .h1)<|.stb (.cons U .nil)<|.stb (.cons U<|.cons U .nil)<|.stb (.cons U<|.cons U .nil) .nil) (wo (cs:=[vi a.2.fR.fN,vi a.2.fR.fD]) zg<|eV .h2 (.head _)<|(.tail _<|.head _)) (WD.call0 (i:=5) U U (.inl ⟨U,(wJ.wk (.s3 .h5 .h3 .h2)<|.stb (.cons U .nil)<|.stb (.cons U<|.cons U .nil)<|.stb (.cons U<|.cons U .nil) .nil)⟩) (Nt call210) (.cons .h6 .nil) (mv hz (.cons .h6 .nil) .h3 fun w pz ho=>Calls.mono (tR (zeg:=124) (zk8:=[]) (zgK:=(fun y0 y1=>jB y0 y1)) aK pz call124 (fun w' hz' y0 y1  r  hr=>iA hr hz' ) ho)<|fun _ _ h'=>⟨h'.1,trivial,h'.2⟩) fun _=>WD.call0 (i:=10) U U (.inl ⟨U,(wJ.wk (.s3 .h5 .h3 .h2)<|.stb (.cons U .nil)<|.stb (.cons U<|.cons U .nil)<|.stb (.cons U<|.cons U .nil) .nil)⟩) (Nt call210) (.cons .here .nil) (mv hz (.cons .here .nil) .h3 fun w pz ho=>Calls.mono (tR (zeg:=124) (zk8:=[]) (zgK:=(fun y0 y1=>jB y0 y1)) aL pz call124 (fun w' hz' y0 y1  r  hr=>iA hr hz' ) ho)<|fun _ _ h'=>⟨h'.1,trivial,h'.2⟩) fun _=>WD.call0 (i:=11) U U (.inl ⟨U,(wJ.wk (.s3 .h5 .h3 .h2)<|.stb (.cons U .nil)<|.stb (.cons U<|.cons U .nil)<|.stb (.cons U<|.cons U .nil) .nil)⟩) (Nt call210) (.cons .here .nil) (mv hz (.cons .here .nil) .h3 fun w pz ho=>Calls.mono (tR (zeg:=125) (zk8:=[]) (zgK:=(fun y0 y1=>gZ y0 y1)) aM pz call125 (fun w' hz' y0 y1  r  hr=>VK hr hz' ) ho)<|fun _ _ h'=>⟨h'.1,trivial,h'.2⟩) ?_)
     intro _
     refine WD.new (i:=12) U U (wn (cs:=([R.1]:List z2).flatMap w4) z41 (Lq (l:=[.tmp 36]) (.cons U .nil) [0])) (fun h'=>absurd h' (by decide)) fun a2 _=>WD.old (i:=13) U U (fun _=>(wJ.wk (.s3 .h7 .h5 .h4)<|.stb (.cons U .nil)<|.stb (.cons U<|.cons U .nil)<|.stb (.cons U<|.cons U .nil) .nil)) (jN (enc:=w4) (l1:=z) (l2:=([R.1]:List z2)) z41 .h7 (j4 .here) (kZ Yt) aN) ?_
     rintro⟨an,ao⟩ _
     refine Na (i:=14) U (xR zCU .h7)<|N1<|Lt ?_
     obtain⟨rfl,rfl⟩:=cM b
     let K:Value:=(vs an ((z++([R.1]:List z2)).length) ao);exact Oj V .h4<|fun w' oL=>⟨(an,ao),U,trivial,(oL.selAll ((.s5 .h7 .h1 .h1 .h2 .here):Sel _ [fz [],stb n 229 [K],row K 175 2 ((z++([R.1]:List z2)).flatMap w4),stb o 307 [vi R.2.fE],wq q (y .ready none)] _)).sub (.cons .here .nil)⟩
    ·replace b:=jv b Y
     refine N3<|Lt ?_
     obtain⟨rfl,rfl⟩:=cM b
     exact Oj V .here<|fun w' oL=>⟨(aj,ak),U,trivial,(oL.selAll ((.s5 .h3 .h3 .h3 .h3 .here):Sel _ F _)).sub (.cons .here .nil)⟩
   ·rintro _ w' ⟨⟨ap,aq⟩,rfl,_,hp⟩
    have zz:=hw1.call ((.cons .here .nil):Sel [qv A,kp j,stb c 227 C,stb d 227 E,fz k] [qv A] [kp j,stb c 227 C,stb d 227 E,fz k]) hp
    let I:Value:=(vs ap m.2.1.length aq);have AO:Hp _ _ w' [fz [],stb n 229 [I],row I 175 2 (m.2.1.flatMap w4),stb o 307 [vi m.2.2],wq q (y (rW (uk [] m.1)) (uk [] m.1)),kp j,stb c 227 C,stb d 227 E,fz k]:=zz.pickAll .here
    refine⟨_,uk [] m.1,_,U,AO.sub ((.s9 .h4 .here .here .here .here .here .here .here .here):Sel _ [wq q (y (rW (uk [] m.1)) (uk [] m.1)),fz [],stb n 229 [I],row I 175 2 (m.2.1.flatMap w4),stb o 307 [vi m.2.2],kp j,stb c 227 C,stb d 227 E,fz k] _),?_⟩
    clear hp zz AO pz hw hw1
    refine wjN ?_
    letI:Rnd:=tn j
    exact WX.merge .here .h6<|Lt<|Oi (D:=fun(g:Nat×Int×List z2×Zp×Option Addr×Nat)=>g.1) (G:=Nat×Int×List z2×Zp×Option Addr×Nat) ⟨j,m.2.2,m.2.1,k++[],ap,aq⟩ ⟨h,(ax.trans<|zl.trans xF.wA)⟩ .q<|.s5 .here .h2 .here .here .here
  ·rintro P t p Q u v ⟨h,a3⟩
   replace h:=(aw t p).symm.trans h
   letI:Rnd:=tn P
   refine WC.b<|B0q<|Le 39 (xB lP)<|Le 40 (Nu z6q .h1)<|Q1n U<|Lj h (fun aO h=>?_)<|fun aO h=>?_
   ·refine WC.b<|Lu nc []<|Lf 0 U (xB lP)<|Lg 1 U (Nu z6q .h1)<|Lf 2 U q_z<|Lf 3 U q_z<|N1<|Lb<|Nz<|Ll<|WX.nilRow 175 2 ?_
    obtain rfl:=oJ h
    exact Ok .h5 results199 (.tmp U<|.tmp U .nil)<|fun w hw=>⟨none,0,qc,trivial,hw.sub (.cons .h1 .nil)⟩
   ·refine Np<|WC.b<|bK h fun aX aP h=>Ld<|Le 44 (Nu zdT .h2)<|Nc U (Nt call214) (.cons .h3 .nil) (mv hz (.cons .h3 .nil) .here fun w pz ho=>od (zqm:=129) (zz8:=[]) (zql:=(fun y0 y1=>qa y0 y1)) aP pz call129 (fun w' hz' y0 y1  r  hr=>uf hr hz' ) ho) ?_
    rintro  aQ
    refine H5 (cs':=[vs u aX.length v]) .h3 (by rw[aQ])<|Q0n<|WC.b<|bK h fun a7 aR h=>Ld<|Le 46 (Nu zdT .here)<|H4 U (Nt call215) (.cons .h1 .nil) (mv hz (.cons .h1 .nil) .h1 fun w pz ho=>ox aR pz  ho) ?_
    rintro aS aT _
    refine Q2n U<|Nz ?_
    obtain rfl:=oJ h
    exact Ok .h4 results199 (.tmp U<|.tmp U .nil)<|fun w hw=>⟨aS,aT,qc,trivial,hw.sub (.cons .h1 .nil)⟩
def gL(a:z8)(b:z8):Option Int:=
 (qa a.fR b.fR).bind fun c=>some c
theorem Ve{Z a b r}(h:gL a b=some r){Ny}(hz:PZ [] Ny Z):
  RC 217 #[.agg #[vi a.yi.fN,vi a.yi.fD,vi a.fR.fN,vi a.fR.fD],.agg #[vi b.yi.fN,vi b.yi.fD,vi b.fR.fN,vi b.fR.fD]] Ny (vi r) [] []:=by
 unfold gL at h
 refine L0 func217 U U<|B0q (Lh 2 (we (cs:=[vi a.yi.fN,vi a.yi.fD,vi a.fR.fN,vi a.fR.fD])) fun d _=>Lh 3 (we (cs:=[vi b.yi.fN,vi b.yi.fD,vi b.fR.fN,vi b.fR.fD])) fun e _=>Q1n U<|WC.b ?_)
 exact bK h fun f c h=>Ld<|Le 5 (xB sd)<|Le 6 (wo (cs:=[vi a.fR.fN,vi a.fR.fD]) zg<|gN (s:=2) .h1 U)<|Le 7 (xB sd)<|Le 8 (wo (cs:=[vi b.fR.fN,vi b.fR.fD]) zg<|gN (s:=2) .here U)<|Ns call129 hz (uf c)<|Q1n U<|Nz<|oJ h▸Nm results217
def vb(b:List z8)(zcy:z8->z8->Option Int)(g:Int->Int->Int->Int->Option z8):Nat->Int->Int->Int->Int->Int->Option z8
 | 0,_,_,_,_,_=>none
 | i+1,a,c,d,e,f=>if decide (a<b.length) then jp4 (fun(j:Int) (k:Int) (l:Int) (m:Int)=>vb b zcy g i (i64 (a+1)) j k l m) fun h=>chk (0<=a/\a<b.length) ((zcy (⟨(⟨((nth b a).yi).fN,((nth b a).yi).fD⟩:z2),(⟨((nth b a).fR).fN,((nth b a).fR).fD⟩:z2)⟩:z8) (⟨(⟨c,d⟩:z2),(⟨e,f⟩:z2)⟩:z8)).bind fun n=>if decide (n<0) then chk (0<=a/\a<b.length) (h (((nth b a).yi).fN) (((nth b a).yi).fD) (((nth b a).fR).fN) (((nth b a).fR).fD)) else h c d e f) else g c d e f
def qG(a:List z8)(zcy:z8->z8->Option Int):Option z8:=
 if decide ((a.length:Int)<1) then none else chk ((0:Int)<=0/\0<(a.length:Int)) (jp4 (fun(b:Int) (c:Int) (d:Int) (e:Int)=>some (⟨(⟨b,c⟩:z2),(⟨d,e⟩:z2)⟩:z8)) fun f=>vb a zcy f xT 1 (((nth a 0).yi).fN) (((nth a 0).yi).fD) (((nth a 0).fR).fN) (((nth a 0).fR).fD))
theorem pg{Z y z}(zkh zqw){a}(zcy){r}(h:qG a zcy=some r){Ny}(hz:PZ [] Ny Z)(B:ZS Z 4 (rq qw) y z a)(F:∀ args w,(callFunc zkh args).run Tryz.prog w = .ok (.enter zkh args) w)(G:∀ w:World,PZ [] w Z->∀(x0:z8) (x1:z8) (r:Int),zcy x0 x1=some r->Calls Tryz.prog zkh (([.agg #[vi x0.yi.fN,vi x0.yi.fD,vi x0.fR.fN,vi x0.fR.fD],.agg #[vi x1.yi.fN,vi x1.yi.fD,vi x1.fR.fN,vi x1.fR.fD]]:List Value)++zqw).toArray w fun e w'=>e = .returned (vi r)/\Hp [] w w' []):
  RC 216 #[vs y a.length z,.func (.func zkh) #[] (zqw).toArray] Ny (.agg #[vi r.yi.fN,vi r.yi.fD,vi r.fR.fN,vi r.fR.fD]) [] []:=by
 unfold qG at h
 refine L0 func216 U U ?_
 let A:List Value:=[vi 0,vi 0,vi 0,vi 0];refine B0q<|Lh 4 (xV (cs:=A) zfI U) ?_
 intro p _
 refine Q0n<|WC.b<|B1q U<|Le 8 (wc underlying227)<|Q1n U<|Lj h (fun H h=>?_)<|fun H h=>?_
 ·cases h
 ·refine Np<|WC.b<|cK h fun I h=>D1q U<|L2 (Z:=Z) (Pr:=(rq qw)) za8 B I ?_
  rintro X Y J aa rfl
  refine Le 13 (xN z4k (qB hz.pv J)) (Lh 5 (xV (cs:=A) zfI U) fun q _=>Lk (xR zdS .here)<|Q0n ?_)
  refine jK4 h fun E K h=>O9 (fun s t u v=>(E s t u v=some r)) (fun s t u v=>[(4,vp p),(5,vp q)]) (fun s t u v=>[stb p 225 A,stb q 225 [vi s,vi t,vi u,vi v]]) ?_ ?_
  ·let C:Value:=(.func (.func zkh) #[] (zqw).toArray);let D:Value:=(vs y a.length z);refine B1n U<|WC.block<|O0 (fun x b c d g i=>(vb a zcy E x b c d g i=some r)) (fun x b c d g i=>[(0,D),(1,C),(4,vp p),(5,vp q),(6,vi b)]) (fun x b c d g i=>[stb p 225 A,stb q 225 [vi c,vi d,vi g,vi i]]) (fun x b c d g i=>x) ⟨xT,1,((nth a 0).yi).fN,((nth a 0).yi).fD,((nth a 0).fR).fN,((nth a 0).fR).fD⟩ h .q (.s2 .h1 .here) ?_
   rintro(_|T) b c d g i h;·cases h
   rw[vb] at h
   refine WC.b<|B2q U<|Le 16 (wc underlying227)<|Q1n U<|Lj h (fun L h=>?_)<|fun L h=>?_
   ·refine Np<|jK4 h fun V M h=>O9 (fun k m n o=>(V k m n o=some r)) (fun k m n o=>[(0,D),(1,C),(4,vp p),(5,vp q),(6,vi b)]) (fun k m n o=>[stb p 225 A,stb q 225 [vi k,vi m,vi n,vi o]]) ?_ ?_
    ·refine WC.block<|WC.b<|cK h fun N h=>bK h fun W O h=>Lu nc []<|Lf 0 U q_m<|Lf 1 U q_m<|Lf 2 U q_m<|L7 (j:=3) (Z:=Z) (Pr:=(rq qw)) za8 B N ?_
     rintro ab ad P ae rfl
     refine Lg 4 U (xN z4k (qB hz.pv P))<|Lg 5 U (xN z4k (xO .h1))<|L4 6 U (qk (l:=[.tmp 24,.tmp 25]) (f:=zkh) (caps:=zqw) F<|.r2 U U) (fun w hw=>G w (hz.now hw) (⟨(⟨((nth a b).yi).fN,((nth a b).yi).fD⟩:z2),(⟨((nth a b).fR).fN,((nth a b).fR).fD⟩:z2)⟩:z8) (⟨(⟨c,d⟩:z2),(⟨g,i⟩:z2)⟩:z8) W  O)<|Lf 7 U sY<|N1<|Lb<|Lj h (fun Q h=>?_)<|fun Q h=>?_
     ·refine cK h fun R h=>D2q U<|L2 (Z:=Z) (Pr:=(rq qw)) za8 B R ?_
      rintro af ag S ah rfl
      exact Le 31 (xN z4k (qB hz.pv S))<|Lk (xR zdS .h1)<|WL.nil<|Lt<|Lp ⟨((nth a b).yi).fN,((nth a b).yi).fD,((nth a b).fR).fN,((nth a b).fR).fD⟩ h .q<|.s2 .h1 .here
     ·exact N3<|Lt<|Lp ⟨c,d,g,i⟩ h .q<|.a2
    ·rintro k m n o h
     replace h:=(M k m n o).symm.trans h
     exact D3q U<|WL.nil<|N0 ⟨T,i64 (b+1),k,m,n,o⟩ h .q<|.a2
   ·exact N2<|Ln<|Ln<|Lv<|Lp ⟨c,d,g,i⟩ h .q<|.a2
  ·rintro s t u v h
   replace h:=(K s t u v).symm.trans h
   exact B0q<|Le 32 (xN z4k (xO .h1))<|Lk (xR zdS .here)<|Q0n<|Nz<|oJ h▸Nn results216 (.agg U z4k U (xO .here) .nil) .nil
def t8(a:List z8):Option (z2×Int):=
 (mM a).bind fun b=>if !b then some ((⟨0,0⟩:z2),2) else(qG a (fun y0 y1=>gL y0 y1)).bind fun c=>some (c.fR,0)
theorem J9{Z b c a r}(h:t8 a=some r){Ny}(hz:PZ [] Ny Z)(d:ZS Z 4 (rq qw) b c a):
  RC 200 #[vs b a.length c] Ny (.tuple #[.agg #[vi r.1.fN,vi r.1.fD],vi r.2]) [] []:=by
 unfold t8 at h
 refine Nb func200 U U<|B0q (Lh 2 (xV (cs:=[vi 0,vi 0]) z1F U) fun j _=>Q1n U<|WC.b<|WC.b ?_)
 refine bK h fun k f h=>D1q U<|Ns call192 hz (fun pz=>om f pz d)<|Q1n U<|Lj h (fun g h=>?_)<|fun g h=>?_
 ·exact B0q<|Le 7 (wl (v:=(.agg #[vi 0,vi 0])) (Lq (l:=[]) .nil []))<|Lk (xR z16 .here)<|Q1n U<|Nz<|Ll<|oJ h▸Nn results200 (.agg U zg U (xO .here)<|.tmp U .nil) .nil
 ·exact Np<|WC.b<|bK h fun e i h=>D1q U<|Ns call216 hz (fun pz=>pg (zkh:=217) (zqw:=[]) (zcy:=(fun y0 y1=>gL y0 y1)) i pz d call217<|fun w' hz' y0 y1  r  hr=>Ve hr hz')<|Le 10 (Mx (cs':=#[vi e.fR.fN,vi e.fR.fD]) Gy zg U U)<|Lk (xR z16 .here)<|Q1n U<|Nz<|oJ h▸Nn results200 (.agg U zg U (xO .here)<|.tmp U .nil) .nil
def vC(b:yu)(zbj:z2->z2->Option (z2×Int))(c:z2)(d:z2):Option (z2×yu):=
 if decide (b.fE≠0) then(gY).bind fun e=>some (e,b) else(zbj c d).bind fun a=>if decide (a.2≠0) then(gY).bind fun f=>some (f,(⟨a.2⟩:yu)) else some (a.1,(⟨a.2⟩:yu))
theorem kO{Z c}(zan zcz){d}(zbj){a b r}(h:vC d zbj a b=some r){Ny}(hz:Pz [stb c 277 [vi d.fE]] Ny Z)(g:∀ args w,(callFunc zan args).run Tryz.prog w = .ok (.enter zan args) w)(i:∀ w:World,PZ [] w Z->∀(x0:z2) (x1:z2) (r:z2×Int),zbj x0 x1=some r->Calls Tryz.prog zan (([.agg #[vi x0.fN,vi x0.fD],.agg #[vi x1.fN,vi x1.fD]]:List Value)++zcz).toArray w fun e w'=>e = .returned (.tuple #[.agg #[vi r.1.fN,vi r.1.fD],vi r.2])/\Hp [] w w' [])(iF:Ho Ny [stb c 277 [vi d.fE]]):
  RF 123 #[vp c,.func (.func zan) #[] (zcz).toArray,.agg #[vi a.fN,vi a.fD],.agg #[vi b.fN,vi b.fD]] Ny (.agg #[vi r.1.fN,vi r.1.fD]) [stb c 277 [vi d.fE]] [stb c 277 [vi r.2.fE]]:=by
 unfold vC at h
 refine H3 func123 U iF U<|B0q (Lh 6 (we (cs:=[vi a.fN,vi a.fD])) fun q _=>Lh 7 (we (cs:=[vi b.fN,vi b.fD])) fun s _=>Lh 8 (xV (cs:=[vi 0,vi 0]) z1F U) fun t _=>Q0n<|WC.b<|B1q U<|Le 12 w5<|Le 13 (xB se)<|Le 14 (Nu z6q .h3)<|Q1n U<|Lj h (fun j h=>?_)<|fun j h=>?_)
 ·exact WC.b<|bK h fun v k h=>Ld<|Ns call161 hz (tQ k)<|Lk (xR z16 .here)<|Q0n<|Nz<|Ll<|oJ h▸Nn results123 (.agg U zg U (xO .here) .nil) (.cons .h3 .nil)
 ·refine Np<|WC.b<|bK h fun p m h=>D1q U<|Le 19 (xN zg (xO .h2))<|Le 20 (xN zg (xO .h1))<|Lo 21 (qk (l:=[.tmp 19,.tmp 20]) (f:=zan) (caps:=zcz) g<|.r2 U U) .nil (fun w hw=>i w (hz.now hw) a b p  m)<|Q2q U<|La U (Lh 9 (xV (cs:=[vi 0,vi 0]) z1F U) fun u _=>Lk (xR z16 .here)<|Q1n U<|WC.b<|B2q U<|Le 26 w5<|Le 27 (xB se)<|Lk (xR ztQ .h4)<|Q0n<|B2n U<|Lj h (fun n h=>?_)<|fun n h=>?_)
  ·exact WC.b<|bK h fun x o h=>Ld<|Ns call161 hz (tQ o)<|Lk (xR z16 .h2)<|Q0n<|Nz<|Ll<|oJ h▸Nn results123 (.agg U zg U (xO .here) .nil) (.cons .h1 .nil)
  ·exact Np<|B0q<|Le 31 (xN zg (xO .h1))<|Lk (xR z16 .h2)<|Q0n<|Nz<|oJ h▸Nn results123 (.agg U zg U (xO .here) .nil) (.cons .h1 .nil)
def vX(b:List (List z8))(d:Int->Int->Int->Option Int):Nat->Int->Int->Int->Int->Option Int
 | 0,_,_,_,_=>none
 | i+1,a,e,f,g=>if decide (a<b.length) then chk (0<=a/\a<b.length) ((jL (nth b a)).bind fun h=>if decide (h.2≠0) then some h.2 else(t8 (nth b a)).bind fun j=>(vC (⟨e⟩:yu) (fun y0 y1=>vV y0 y1) (⟨f,g⟩:z2) j.1).bind fun c=>vX b d i (i64 (a+1)) c.2.fE c.1.fN c.1.fD) else d e f g
def qW(a:List (List z8))(b:yv)(n:List (List z8))(o:yv)(p:List z2):Option Int:=
 (if decide ((a.length:Int)>32) then some true else(qh a (fun y0=>j5 y0)).bind fun e=>some e).bind fun f=>(if f then some true else(t6 b).bind fun g=>some (!g)).bind fun h=>if h then some 2 else(gY).bind fun c=>Vw (fun(d:Int) (i:Int) (j:Int)=>(if decide (d=0) then(qa (⟨i,j⟩:z2) b.fR).bind fun k=>some (decide (k>0)) else some false).bind fun l=>if l then some 6 else some d) fun m=>vX a m xT 0 0 c.fN c.fD
theorem pV{Z x y z I J D E F g a G l q r}(h:qW g a G l q=some r){Ny}(hz:PZ [] Ny Z)(K:ZS Z 1 (jW Z) x y g)(ap:ZS Z 1 (jW Z) I J G)(aq:ZC Z z [vs I G.length J])(ar:ZC Z D [vi l.fR.fN,vi l.fR.fD,vi l.fL.fN,vi l.fL.fD])(au:ZS Z 2 (rq w4) E F q):
  RC 163 #[.agg #[vs x g.length y,vi a.fR.fN,vi a.fR.fD,vi a.fL.fN,vi a.fL.fD,.func (.func f) #[] #[vq z,vq D],vs E q.length F]] Ny (vi r) [] []:=by
 unfold qW at h
 refine Nb func163 U U ?_
 let C:Value:=(vs x g.length y);let A:List Value:=[C,vi a.fR.fN,vi a.fR.fD,vi a.fL.fN,vi a.fL.fD,.func (.func f) #[] #[vq z,vq D],vs E q.length F];refine B0q<|Lh 1 (we (cs:=A)) ?_
 intro t _
 refine Q1n U<|WC.b<|WC.b<|bK h fun al L h=>bK h fun am M h=>Ld<|Le 11 (xB eX)<|Le 12 (Nu zj6 .here)<|Le 13 (wc underlying171)<|Q2q U<|Ly false 3 15 (B:=al) (hB:=(fun h=>(oJ<|ju L h).symm)) (fun _ R=>?_) ?_
 ·have m:=jv L R
  obtain⟨aD,S,m⟩:=za m
  replace m:=oJ m
  exact Le 16 (xB eX)<|Le 17 (Nu zj6 .here)<|Ns call196 hz (fun pz=>sN (zq0:=197) (zyR:=[]) (zpZ:=(fun y0=>j5 y0)) S pz K call197<|fun w' hz' y0 ga0 gc0 r DI hr=>cd hr hz' DI)<|La U<|Lz m U .all
 refine La U<|Ly false 4 20 (B:=am) (hB:=(fun h=>(oJ<|ju M h).symm)) (fun _ T=>?_) ?_
 ·have n:=jv M T
  obtain⟨aE,V,n⟩:=za n
  replace n:=oJ n
  exact Le 21 (xB J0)<|Le 22 (wo (cs:=[vi a.fR.fN,vi a.fR.fD,vi a.fL.fN,vi a.fL.fD]) ztR<|gN (s:=4) .here U)<|Ns call198 hz (Xu V)<|Q2q U<|Lz n U .all
 refine Q0n<|Lj h (fun W h=>?_)<|fun W h=>?_
 ·exact B1n U<|Nz<|Ll<|oJ h▸Nm results163
 ·refine Np<|B0q (Lh 3 (xV (cs:=[vi 0]) zCS U) fun u _=>Q0n<|WC.b ?_)
  refine bK h fun N X h=>Ld<|Ns call161 hz (tQ X) (Lh 4 (xV (cs:=[vi 0,vi 0]) z1F U) fun v _=>Lk (xR z16 .here)<|Q0n ?_)
  refine jK3 h fun O Y h=>Ni (fun i j k=>(O i j k=some r)) (fun i j k=>[(1,vp t),(3,vp u),(4,vp v)]) (fun i j k=>[stb t 231 A,stb u 277 [vi i],stb v 175 [vi j,vi k]]) ?_ ?_
  ·refine B0q<|Le 27 (xB eX)<|Le 28 (Nu zj6 .h2)<|Le 29 (wc underlying171)<|Q1n U<|WC.block<|Oe (fun o b c d e=>(vX g O o b c d e=some r)) (fun o b c d e=>[(1,vp t),(3,vp u),(4,vp v),(28,C),(29,vi (g.length:Int)),(30,vi b)]) (fun o b c d e=>[stb t 231 A,stb u 277 [vi c],stb v 175 [vi d,vi e]]) (fun o b c d e=>o) ⟨xT,0,0,N.fN,N.fD⟩ h .q (.s3 .h2 .h1 .here) ?_
   rintro(_|an) b c d e h;·cases h
   rw[vX] at h
   refine B1n U<|WC.b<|Lj h (fun aa h=>?_)<|fun aa h=>?_
   ·refine Np<|WC.b<|WC.block<|WC.b<|cK h fun ab h=>Ld<|L2 (Z:=Z) (Pr:=(jW Z)) zfH K ab ?_
    rintro av aw ad ax ⟨ay,az,rfl,P⟩
    refine Le 33 (xC zoL U<|kz hz.pv ad)<|Q1n U<|WC.b<|WC.b<|bK h fun aF ae h=>D1q U<|H4 U (Nt call199) .nil (cc hz .nil fun w pz ho=>dW ae pz P) ?_
    rintro aA aB _
    refine Q5n U<|B2n U<|Lj h (fun af h=>?_)<|fun af h=>?_
    ·exact B2n U<|Nz<|Ll<|Lx<|Ll<|Ll<|Lx<|Ll<|oJ h▸Nm results163
    ·refine Np<|WC.b<|bK h fun aG ag h=>D1q U<|Ns call200 hz (fun pz=>J9 ag pz P)<|Q2q U<|La U (Lh 9 (xV (cs:=[vi 0,vi 0]) z1F U) fun aC _=>Lk (xR z16 .here)<|Q1n U ?_)
     exact bK h fun H ah h=>Ld<|Le 47 (xN zg (xO .h4))<|Le 48 (xN zg (xO .here))<|Lo 49 (Nt call123) (.cons .h3 .nil) (cc hz (.cons .h3 .nil) fun w pz ho=>kO (zan:=119) (zcz:=[]) (zbj:=(fun y0 y1=>vV y0 y1)) ah pz call119 (fun w' hz' y0 y1  r  hr=>py hr hz' ) ho)<|Lk (xR z16 .h4)<|WL.nil<|Lt<|Lb<|D2q U<|WL.nil<|N0 ⟨an,i64 (b+1),H.2.fE,H.1.fN,H.1.fD⟩ h .q<|.s3 .h4 .h1 .here
   ·exact N2<|Ln<|Ln<|Lv<|Lp ⟨c,d,e⟩ h .q<|.a3
  ·rintro i j k h
   replace h:=(Y i j k).symm.trans h
   refine WC.b<|WC.b<|bK h fun ao Q h=>Ld<|Le 51 (xB se)<|Le 52 (Nu z6q .h1)<|Q2q U<|Ly true 6 54 (B:=ao) (hB:=(fun h=>(oJ<|jv Q h).symm)) (fun _ ai=>?_) ?_
   ·have p:=ju Q ai
    obtain⟨aH,aj,p⟩:=za p
    replace p:=oJ p
    exact Le 55 (xN zg (xO .h2))<|Le 56 (xB J0)<|Le 57 (xB cQ)<|Le 58 (wo (cs:=[vi a.fR.fN,vi a.fR.fD]) zg<|gN (s:=2) .here U)<|Ns call129 hz (uf aj)<|Q2q U<|Lz p U .all
   refine Q0n<|Lj h (fun ak h=>?_)<|fun ak h=>?_
   ·exact B1n U<|Nz<|Ll<|oJ h▸Nm results163
   ·exact Np<|B0q<|Le 62 (xB se)<|Le 63 (Nu z6q .h1)<|Q1n U<|Nz<|oJ h▸Nm results163
def kE(b:List (List z8))(a:yv)(c:List (List z8))(d:yv)(e:List z2):Option (Int×Int×Int×Int):=
 some (a.fR.fN,a.fR.fD,a.fL.fN,a.fL.fD)
theorem pC{Z g i j p q k m n b a o c d r}(h:kE b a o c d=some r){Ny}(hz:PZ [] Ny Z)(u:ZS Z 1 (jW Z) g i b)(v:ZS Z 1 (jW Z) p q o)(x:ZC Z j [vs p o.length q])(y:ZC Z k [vi c.fR.fN,vi c.fR.fD,vi c.fL.fN,vi c.fL.fD])(z:ZS Z 2 (rq w4) m n d):
  Calls Tryz.prog 164 #[.agg #[vs g b.length i,vi a.fR.fN,vi a.fR.fD,vi a.fL.fN,vi a.fL.fD,.func (.func f) #[] #[vq j,vq k],vs m d.length n]] Ny fun e w'=>∃ s:Nat,e = .returned (.func (.func 201) #[] #[vp s])/\True/\Hp [] Ny w' [stb s 231 [vs g b.length i,vi r.1,vi r.2.1,vi r.2.2.1,vi r.2.2.2,.func (.func f) #[] #[vq j,vq k],vs m d.length n]]:=by
 unfold kE at h
 refine Nb func164 U U<|B0q (Lh 1 (we (cs:=[vs g b.length i,vi a.fR.fN,vi a.fR.fD,vi a.fL.fN,vi a.fL.fD,.func (.func f) #[] #[vq j,vq k],vs m d.length n])) fun t _=>Q1n U<|B0q<|Le 3 (wO<|L5 (l:=[.tmp 1])<|.cons U .nil)<|Q1n U<|Nz ?_)
 exact oJ h▸Li results164 (.tmp U .nil) fun w hw=>⟨t,w3,trivial,hw.sub (.cons .here .nil)⟩
def j8(a:z2):Option Int:=
 (qJ a).bind fun c=>if !c then some 0 else chk ((a.fD:Int)≠0) (qt (fun(d:Int)=>some d) fun b=>chk ((a.fD:Int)≠0) (if decide ((Int.tmod a.fN a.fD)<0) then b (i64 ((i64 (Int.tdiv a.fN a.fD))-1)) else b (i64 (Int.tdiv a.fN a.fD))))
theorem og{Z a r}(h:j8 a=some r){Ny}(hz:PZ [] Ny Z):
  RC 83 #[.agg #[vi a.fN,vi a.fD]] Ny (vi r) [] []:=by
 unfold j8 at h
 refine Nb func83 U U<|B0q (Lh 1 (we (cs:=[vi a.fN,vi a.fD])) fun k _=>Q1n U<|WC.b<|WC.b ?_)
 refine bK h fun l c h=>Ld<|Le 4 (xN zg (xO .here))<|Ns call130 hz (jX c)<|Q1n U<|Lj h (fun d h=>?_)<|fun d h=>?_
 ·exact B1n U<|Nz<|Ll<|oJ h▸Nm results83
 ·refine Np<|WC.b<|cK h fun e h=>Ld<|Le 7 (xB jI)<|Le 8 (Nu xL .here)<|Le 9 (xB kD)<|Le 10 (Nu xL .here)<|Le 11 (eH e)<|Q1n U<|jK1 h fun j f h=>L6 (fun b=>(j b=some r)) (fun b=>[(3,vi b)]) (fun b=>[]) ?_ ?_
  ·refine WC.b<|cK h fun g h=>Ld<|Le 12 (xB jI)<|Le 13 (Nu xL .here)<|Le 14 (xB kD)<|Le 15 (Nu xL .here)<|Le 16 (XV g)<|Q1n U<|Lj h (fun i h=>?_)<|fun i h=>?_
   ·exact D3q U<|WL.nil<|Lp (i64 ((i64<|Int.tdiv a.fN a.fD)-1)) h (.cons U .nil) .nil
   ·exact N3<|Lp (i64<|Int.tdiv a.fN a.fD) h (.cons U .nil) .nil
  ·rintro b h
   replace h:=(f b).symm.trans h
   exact B2n U<|Nz<|oJ h▸Nm results83
def ge(a:z2):Option Int:=
 (qJ a).bind fun b=>if !b then some 0 else(j8 (⟨i64 (0-a.fN),a.fD⟩:z2)).bind fun c=>some (i64 (0-c))
theorem Wf{Z a r}(h:ge a=some r){Ny}(hz:PZ [] Ny Z):
  RC 202 #[.agg #[vi a.fN,vi a.fD]] Ny (vi r) [] []:=by
 unfold ge at h
 refine Nb func202 U U<|B0q (Lh 1 (we (cs:=[vi a.fN,vi a.fD])) fun e _=>Q1n U<|WC.b<|WC.b ?_)
 refine bK h fun f b h=>Ld<|Le 3 (xN zg (xO .here))<|Ns call130 hz (jX b)<|Q1n U<|Lj h (fun c h=>?_)<|fun c h=>?_
 ·exact B1n U<|Nz<|Ll<|oJ h▸Nm results202
 ·exact Np<|WC.b<|bK h fun g d h=>Ld<|Le 6 (xB jI)<|Le 7 (Nu xL .here)<|Le 8 (Qp U U)<|Le 9 (xB kD)<|Le 10 (Nu xL .here)<|Le 11 (wl (v:=(.agg #[(vi<|i64 (0-a.fN)),vi a.fD])) (Lq (l:=[.tmp 8,.tmp 10]) (.r2 U U) [0,1]))<|Ns call83 hz (og d)<|Le 13 (Qp U U)<|Q1n U<|Nz<|oJ h▸Nm results202
def vx(zZ:Type)(b:List z2×Int)(z3t:z2->zZ->Option (Bool×zZ))(e:zZ->Option zZ):Nat->Int->zZ->Option zZ
 | 0,_,_=>none
 | h+1,a,f=>if decide (a<b.1.length) then chk (0<=a/\a<b.1.length) ((j8 (⟨(nth b.1 a).fN,(nth b.1 a).fD⟩:z2)).bind fun i=>(jm i).bind fun j=>(z3t j f).bind fun c=>(if !c.1 then some (true,c.2) else(ge (⟨(nth b.1 a).fN,(nth b.1 a).fD⟩:z2)).bind fun k=>(jm k).bind fun l=>(z3t l c.2).bind fun g=>some (!g.1,g.2)).bind fun d=>if d.1 then some d.2 else vx zZ b z3t e h (i64 (a+1)) d.2) else e f
def vy(zZ:Type)(z4g:List (List z8))(z3t:z2->zZ->Option (Bool×zZ))(b:zZ->Option zZ):Nat->Int->zZ->Option zZ
 | 0,_,_=>none
 | d+1,a,c=>if decide (a<z4g.length) then qt (fun(e:zZ)=>vy zZ z4g z3t b d (i64 (a+1)) e) fun f=>chk (0<=a/\a<z4g.length) ((jL (nth z4g a)).bind fun g=>qt (fun h=>f h) fun i=>vx zZ g z3t i xT 0 c) else b c
def vz(zZ:Type)(z4t:List z2)(z3t:z2->zZ->Option (Bool×zZ))(d:zZ->Option zZ):Nat->Int->zZ->Option zZ
 | 0,_,_=>none
 | g+1,a,e=>if decide (a<z4t.length) then chk (0<=a/\a<z4t.length) ((j8 (⟨(nth z4t a).fN,(nth z4t a).fD⟩:z2)).bind fun h=>(jm h).bind fun i=>(z3t i e).bind fun b=>(if !b.1 then some (true,b.2) else(ge (⟨(nth z4t a).fN,(nth z4t a).fD⟩:z2)).bind fun j=>(jm j).bind fun k=>(z3t k b.2).bind fun f=>some (!f.1,f.2)).bind fun c=>if c.1 then some c.2 else vz zZ z4t z3t d g (i64 (a+1)) c.2) else d e
def qu(zZ:Type)(z3t:z2->zZ->Option (Bool×zZ))(zao:zZ)(z4g:List (List z8))(zkq:yv)(zqK:List (List z8))(zkr:yv)(z4t:List z2):Option zZ:=
 (gY).bind fun b=>(z3t b zao).bind fun a=>if !a.1 then some a.2 else qt (fun(c:zZ)=>qt (fun(d:zZ)=>some d) fun e=>vz zZ z4t z3t e xT 0 c) fun f=>vy zZ z4g z3t f xT 0 a.2
theorem rC{Z}(zZ:Type)(zbn)(z5F:Type)(z3E)(z9D:z5F->zZ->Prop)(zep zeq zh0 zh1 zzz zzA zzB zzC zqL zqM z3t zao z4g zkq zqK zkr z4t r){Ny}(hz:Pz [z3E zep zao] Ny Z)(X:aD Tryz.prog Z zbn (α:=z2) (σ:=zZ) (G:=z5F) (H:=Unit) (fun h x=>[.agg #[vi x.fN,vi x.fD]]) (fun h x=>[]) z3t z3E z9D)(aI:z9D zep zao)(aJ:ZS Z 1 (jW Z) zh0 zh1 z4g)(bB:ZS Z 1 (jW Z) zzA zzB zqK)(bC:ZC Z zzz [vs zzA zqK.length zzB])(bD:ZC Z zzC [vi zkr.fR.fN,vi zkr.fR.fD,vi zkr.fL.fN,vi zkr.fL.fD])(aK:ZS Z 2 (rq w4) zqL zqM z4t)(ai:ZC Z zeq [vs zh0 z4g.length zh1,vi zkq.fR.fN,vi zkq.fR.fD,vi zkq.fL.fN,vi zkq.fL.fD,.func (.func f) #[] #[vq zzz,vq zzC],vs zqL z4t.length zqM])(h:qu zZ z3t zao z4g zkq zqK zkr z4t=some r)(iF:Ho Ny [z3E zep zao]):
  Calls Tryz.prog 201 #[.func (.yield zbn) #[] #[],vq zeq] Ny fun e w'=>∃ aj:z5F,e = .returned (.tuple #[])/\(z9D aj r)/\Hp (fps [z3E zep zao]) Ny w' [z3E aj r]:=by
 unfold qu at h
 refine Nj func201 U iF U<|WC.b<|WC.b<|bK h fun bp aL h=>bK h fun af aM h=>D1q U<|Ns call161 hz (tQ aL) (H8 (x:=bp) (h:=()) (g:=zep) (s:=zao) (b:=af.1) (s':=af.2) X U (.cons U .nil) ((.cons .here .nil):Sel _ [z3E zep zao] _) aM aI (fun w hw=>hz.call hw ((.cons .here .nil):Sel _ [z3E zep zao] _)) fun ak al=>Q1n U<|Lj h (fun aN h=>?_)<|fun aN h=>?_)
 ·exact Nz<|Ll<|oJ h▸Li results201 .nil fun w hw=>⟨ak,ms,al,hw.sub (.cons .here .nil)⟩
 ·refine Np ?_
  obtain⟨am,aO,h⟩:=wg h
  let A:Value:=(.func (.yield zbn) #[] #[]);refine H6 (fun u N=>(am u=some r)/\(z9D N u)) (fun u N=>[(0,A),(1,vq zeq)]) (fun u N=>[z3E N u]) ?_ ?_
  ·let C:Value:=(vs zh0 z4g.length zh1);let D:Value:=(vi (z4g.length:Int));refine B0q<|Le 15 (xB eX)<|Le 16 (xC zj6 U<|wt hz.pv ai)<|Le 17 (wc underlying171)<|Q1n U<|WC.block<|Cv (fun O c p v=>(vy zZ z4g z3t am O c p=some r)/\(z9D v p)) (fun O c p v=>[(0,A),(1,vq zeq),(16,C),(17,D),(18,vi c)]) (fun O c p v=>[z3E v p]) (fun O c p v=>O) ⟨xT,0,af.2,ak⟩ ⟨h,al⟩ .q (.cons .here .nil) ?_
   rintro (_|bq) c p v ⟨h,an⟩;·cases h
   rw[vy] at h
   refine B1n U<|WC.b<|Lj h (fun aP h=>?_)<|fun aP h=>?_
   ·refine Np<|jK1 h fun br aQ h=>H6 (fun y P=>(br y=some r)/\(z9D P y)) (fun y P=>[(0,A),(1,vq zeq),(16,C),(17,D),(18,vi c)]) (fun y P=>[z3E P y]) ?_ ?_
    ·refine WC.block<|WC.b<|cK h fun aR h=>Ld<|L2 (Z:=Z) (Pr:=(jW Z)) zfH aJ aR ?_
     rintro bE bF aS bG ⟨bH,bI,rfl,aT⟩
     refine Le 21 (xC zoL U<|kz hz.pv aS)<|Q1n U<|WC.b<|bK h fun k aU h=>D1q U<|H4 U (Nt call199) .nil (cc hz .nil fun w pz ho=>dW aU pz aT) ?_
     rintro bs ao _
     refine Q5n U<|B1q U<|Le 28 (wc underlying229)<|Q1n U<|jK1 h fun ap aV h=>Oy (fun z Q=>(ap z=some r)/\(z9D Q z)) (fun z Q=>[(0,A),(1,vq zeq),(16,C),(17,D),(18,vi c)]) (fun z Q=>[z3E Q z]) ?_ ?_
     ·let F:=(k.1.length:Int);let I:Value:=(vs bs k.1.length ao);refine WC.block<|Cv (fun R a d m=>(vx zZ k z3t ap R a d=some r)/\(z9D m d)) (fun R a d m=>[(0,A),(1,vq zeq),(16,C),(17,D),(18,vi c),(27,I),(28,vi F),(29,vi a)]) (fun R a d m=>[row I 175 2 (k.1.flatMap w4),z3E m d]) (fun R a d m=>R) ⟨xT,0,p,v⟩ ⟨h,an⟩ .q .a2 ?_
      rintro (_|bt) a d m ⟨h,aq⟩;·cases h
      rw[vx] at h
      refine B1n U<|WC.b<|Lj h (fun aW h=>?_)<|fun aW h=>?_
      ·refine Np<|WC.b<|WC.block<|WC.b<|cK h fun Y h=>Ld<|N5 (fun w hw=>Hp.vf .here hw (by intro hz';have:=Y;rw[hz'] at this;omega)) ?_
       rintro⟨bu,rfl⟩
       refine Le 31 (xZ z41 Y.1 Y.2 wF)<|Le 32 (wo (cs:=(w4<|nth k.1 a)) zg<|vQ .here<|wN (enc:=w4) (l:=k.1) (i:=a) (sz:=2) Y.1 Y.2) (Lh 8 (xV (cs:=[vi 0,vi 0]) z1F U) fun aX _=>Lk (xR z16 .here)<|Q0n<|WC.b ?_)
       refine bK h fun bN aY h=>bK h fun bv aZ h=>bK h fun S a0 h=>bK h fun aa ar h=>D1q U<|Le 34 (xN zg (xO .here))<|Ns call83 hz (og aY)<|Ns call191 hz (t7 aZ)<|H8 (x:=bv) (h:=()) (g:=m) (s:=d) (b:=S.1) (s':=S.2) X U (.cons U .nil) ((.cons .h2 .nil):Sel _ [z3E m d] _) a0 aq (fun w hw=>hz.call hw ((.cons .h2 .nil):Sel _ [z3E m d] _)) ?_
       intro ab au
       let E:Value:=(vs (some ⟨bu,0,none⟩) k.1.length ao);refine Q2q U<|O3 (fun B=>z9D B aa.2) (fun B=>[(0,A),(1,vq zeq),(16,C),(17,D),(18,vi c),(27,E),(28,vi F),(29,vi a),(46,.bool aa.1)]) (fun B=>[z3E B aa.2,stb aX 175 [(vi<|(nth k.1 a).fN),(vi<|(nth k.1 a).fD)],row E 175 2 (k.1.flatMap w4)]) 7 ?_<|fun B av=>?_
       ·rcases Bool.eq_false_or_eq_true (!S.1) with hb' | hb'
        ·have aw:=hb';clear hb'
         have ag:=ju ar aw
         replace ag:=oJ ag
         refine Ot (i:=39) U aw<|WL.e U U<|WL.e U U<|WL.e U U<|WL.e U U<|WL.e U U<|WL.e U U<|La U ?_
         subst ag
         exact O4 ab au .q<|.a3
        ·have ax:=hb';clear hb'
         have q:=jv ar ax
         obtain⟨bO,a1,q⟩:=za q
         obtain⟨bw,a2,q⟩:=za q
         obtain⟨ay,a3,q⟩:=za q
         replace q:=oJ q
         refine Ot (i:=39) U ax<|La U<|Le 41 (xN zg (xO .h1))<|Ns call202 hz (Wf a1)<|Ns call191 hz (t7 a2) (H8 (x:=bw) (h:=()) (g:=ab) (s:=S.2) (b:=ay.1) (s':=ay.2) X U (.cons U .nil) ((.cons .here .nil):Sel _ [z3E ab S.2] _) a3 au (fun w hw=>hz.call hw ((.cons .here .nil):Sel _ [z3E ab S.2] _)) fun a4 a5=>La U<|La U ?_)
         subst q
         exact O4 a4 a5 .q<|.a3
       ·refine Q0n<|Lj h (fun a6 h=>?_)<|fun a6 h=>?_
        ·exact Nz<|Lx<|Ll<|Ll<|Lx<|Ll<|Lx<|Ll<|Ll<|Lx<|Ll<|oJ h▸Li results201 .nil fun w hw=>⟨B,ms,av,hw.sub (.cons .here .nil)⟩
        ·exact N3<|Lt<|Lb<|D2q U<|WL.nil<|N0 ⟨bt,i64 (a+1),aa.2,B⟩ ⟨h,av⟩ .q<|.s2 .h2 .here
      ·exact N2<|Ln<|Ln<|Lv<|Lp ⟨d,m⟩ ⟨h,aq⟩ .q<|.cons .h1 .nil
     ·rintro z Q ⟨h,a7⟩
      replace h:=(aV z).symm.trans h
      exact Lt<|Lp ⟨z,Q⟩ ⟨h,a7⟩ .q<|.cons .here .nil
    ·rintro y P ⟨h,a8⟩
     replace h:=(aQ y).symm.trans h
     exact D2q U<|WL.nil<|N0 ⟨bq,i64 (c+1),y,P⟩ ⟨h,a8⟩ .q<|.cons .here .nil
   ·exact N2<|Ln<|Ln<|Lv<|Lp ⟨p,v⟩ ⟨h,an⟩ .q<|.cons .here .nil
  ·rintro u N ⟨h,a9⟩
   replace h:=(aO u).symm.trans h
   refine B0q<|Le 49 (xB MD)<|Le 50 (xC zdT U<|wt hz.pv ai)<|Le 51 (wc underlying229)<|Q1n U<|jK1 h fun az ba h=>Oy (fun L T=>(az L=some r)/\(z9D T L)) (fun L T=>[]) (fun L T=>[z3E T L]) ?_ ?_
   ·let J:Value:=(vs zqL z4t.length zqM);let K:Value:=(vi (z4t.length:Int));refine WC.block<|Cv (fun V n j o=>(vz zZ z4t z3t az V n j=some r)/\(z9D o j)) (fun V n j o=>[(0,A),(50,J),(51,K),(52,vi n)]) (fun V n j o=>[z3E o j]) (fun V n j o=>V) ⟨xT,0,u,N⟩ ⟨h,a9⟩ .q (.cons .here .nil) ?_
    rintro (_|bx) n j o ⟨h,aA⟩;·cases h
    rw[vz] at h
    refine B1n U<|WC.b<|Lj h (fun bb h=>?_)<|fun bb h=>?_
    ·refine Np<|WC.b<|WC.block<|WC.b<|cK h fun bc h=>Ld<|L2 (Z:=Z) (Pr:=(rq w4)) z41 aK bc ?_
     rintro bJ bL bd bM rfl
     refine Le 55 (xN zg (qB hz.pv bd)) (Lh 10 (xV (cs:=[vi 0,vi 0]) z1F U) fun be _=>Lk (xR z16 .here)<|Q0n<|WC.b ?_)
     refine bK h fun bP bf h=>bK h fun bz bg h=>bK h fun W bh h=>bK h fun ad aB h=>D1q U<|Le 57 (xN zg (xO .here))<|Ns call83 hz (og bf)<|Ns call191 hz (t7 bg) (H8 (x:=bz) (h:=()) (g:=o) (s:=j) (b:=W.1) (s':=W.2) X U (.cons U .nil) ((.cons .h1 .nil):Sel _ [z3E o j] _) bh aA (fun w hw=>hz.call hw ((.cons .h1 .nil):Sel _ [z3E o j] _)) fun ae aC=>Q2q U<|O3 (fun M=>z9D M ad.2) (fun M=>[(0,A),(50,J),(51,K),(52,vi n),(69,.bool ad.1)]) (fun M=>[z3E M ad.2,stb be 175 [(vi<|(nth z4t n).fN),(vi<|(nth z4t n).fD)]]) 7 ?_<|fun M aE=>?_)
     ·rcases Bool.eq_false_or_eq_true (!W.1) with hb' | hb'
      ·have aF:=hb';clear hb'
       have ah:=ju aB aF
       replace ah:=oJ ah
       refine Ot (i:=62) U aF<|WL.e U U<|WL.e U U<|WL.e U U<|WL.e U U<|WL.e U U<|WL.e U U<|La U ?_
       subst ah
       exact O4 ae aC .q<|.a2
      ·have aG:=hb';clear hb'
       have t:=jv aB aG
       obtain⟨bQ,bi,t⟩:=za t
       obtain⟨bA,bj,t⟩:=za t
       obtain⟨aH,bk,t⟩:=za t
       replace t:=oJ t
       refine Ot (i:=62) U aG<|La U<|Le 64 (xN zg (xO .h1))<|Ns call202 hz (Wf bi)<|Ns call191 hz (t7 bj) (H8 (x:=bA) (h:=()) (g:=ae) (s:=W.2) (b:=aH.1) (s':=aH.2) X U (.cons U .nil) ((.cons .here .nil):Sel _ [z3E ae W.2] _) bk aC (fun w hw=>hz.call hw ((.cons .here .nil):Sel _ [z3E ae W.2] _)) fun bl bm=>La U<|La U ?_)
       subst t
       exact O4 bl bm .q<|.a2
     ·refine Q0n<|Lj h (fun bn h=>?_)<|fun bn h=>?_
      ·exact Nz<|Lx<|Ll<|Ll<|Lx<|Ll<|oJ h▸Li results201 .nil fun w hw=>⟨M,ms,aE,hw.sub (.cons .here .nil)⟩
      ·exact N3<|Lt<|Lb<|D2q U<|WL.nil<|N0 ⟨bx,i64 (n+1),ad.2,M⟩ ⟨h,aE⟩ .q<|.cons .here .nil
    ·exact N2<|Ln<|Ln<|Lv<|Lp ⟨j,o⟩ ⟨h,aA⟩ .nil<|.cons .here .nil
   ·rintro L T ⟨h,bo⟩
    replace h:=(ba L).symm.trans h
    exact oJ h▸Nh results201 .nil fun w hw=>⟨T,ms,bo,hw.sub (.cons .here .nil)⟩
def j9(d:yu)(a:z8)(e:z2):Option (z2×yu):=
 (qS d (fun y0 y1=>gz y0 y1) a.fR e).bind fun b=>(qS b.2 (fun y0 y1=>vV y0 y1) a.yi b.1).bind fun c=>some (c.1,c.2)
theorem aN{Z b d a c r}(h:j9 d a c=some r){Ny}(hz:Pz [stb b 307 [vi d.fE]] Ny Z)(iF:Ho Ny [stb b 307 [vi d.fE]]):
  RF 194 #[vp b,.agg #[vi a.yi.fN,vi a.yi.fD,vi a.fR.fN,vi a.fR.fD],.agg #[vi c.fN,vi c.fD]] Ny (.agg #[vi r.1.fN,vi r.1.fD]) [stb b 307 [vi d.fE]] [stb b 307 [vi r.2.fE]]:=by
 unfold j9 at h
 refine N8 func194 U iF U<|B0q (Lh 4 (we (cs:=[vi a.yi.fN,vi a.yi.fD,vi a.fR.fN,vi a.fR.fD])) fun e _=>Lh 5 (we (cs:=[vi c.fN,vi c.fD])) fun j _=>Lh 6 (xV (cs:=[vi 0,vi 0]) z1F U) fun k _=>Q0n<|WC.b ?_)
 refine bK h fun l f h=>bK h fun m g h=>Lu (fun i=>[7,8,9].contains i) [rb e 225 [(0,vi a.yi.fN),(1,vi a.yi.fD)]]<|Lf 0 U q_m<|Lf 1 U (xB uw)<|L8 2 U (wJ.wk (.cons .h2 .nil)<|.stb (.cons U<|.cons U .nil) .nil) (wo (cs:=[vi a.yi.fN,vi a.yi.fD]) zg<|eV .here (.head _)<|(.tail _<|.head _))<|Lf 3 U q_m<|Lf 4 U (xB sd)<|Lg 5 U (wo (cs:=[vi a.fR.fN,vi a.fR.fD]) zg<|gN (s:=2) .h2 U)<|Lg 6 U (xN zg (xO .h1)) (WD.call0 (i:=7) U U (.inl ⟨U,(wJ.wk (.cons .h3 .nil)<|.stb (.cons U<|.cons U .nil) .nil)⟩) (Nt call210) (.cons .h3 .nil) (cc hz (.cons .h3 .nil) fun w pz ho=>Calls.mono (tR (zeg:=120) (zk8:=[]) (zgK:=(fun y0 y1=>gz y0 y1)) f pz call120 (fun w' hz' y0 y1  r  hr=>aM hr hz' ) ho)<|fun _ _ h'=>⟨h'.1,trivial,h'.2⟩) fun _=>WD.call0 (i:=8) U U (.inl ⟨U,(wJ.wk (.cons .h3 .nil)<|.stb (.cons U<|.cons U .nil) .nil)⟩) (Nt call210) (.cons .here .nil) (cc hz (.cons .here .nil) fun w pz ho=>Calls.mono (tR (zeg:=119) (zk8:=[]) (zgK:=(fun y0 y1=>vV y0 y1)) g pz call119 (fun w' hz' y0 y1  r  hr=>py hr hz' ) ho)<|fun _ _ h'=>⟨h'.1,trivial,h'.2⟩) fun _=>Na (i:=9) U (xR z16 .h1)<|N1<|Lb<|Nz ?_)
 exact oJ h▸Nn results194 (.agg U zg U (xO .here) .nil) (.cons .h1 .nil)
def vK(b:List z2)(zcB:z2->z2->Option Int)(e:Int->Int->Option z2):Nat->Int->Int->Int->Option z2
 | 0,_,_,_=>none
 | g+1,a,c,d=>if decide (a<b.length) then sm (fun(h:Int) (i:Int)=>vK b zcB e g (i64 (a+1)) h i) fun f=>chk (0<=a/\a<b.length) ((zcB (⟨(nth b a).fN,(nth b a).fD⟩:z2) (⟨c,d⟩:z2)).bind fun j=>if decide (j<0) then chk (0<=a/\a<b.length) (f ((nth b a).fN) ((nth b a).fD)) else f c d) else e c d
def jp(a:List z2)(zcB:z2->z2->Option Int):Option z2:=
 if decide ((a.length:Int)<1) then none else chk ((0:Int)<=0/\0<(a.length:Int)) (sm (fun(b:Int) (c:Int)=>some (⟨b,c⟩:z2)) fun d=>vK a zcB d xT 1 ((nth a 0).fN) ((nth a 0).fD))
theorem oy{Z q s}(zkv zqV){b}(zcB){r}(h:jp b zcB=some r){Ny}(hz:PZ [] Ny Z)(t:ZS Z 2 (rq w4) q s b)(v:∀ args w,(callFunc zkv args).run Tryz.prog w = .ok (.enter zkv args) w)(x:∀ w:World,PZ [] w Z->∀(x0:z2) (x1:z2) (r:Int),zcB x0 x1=some r->Calls Tryz.prog zkv (([.agg #[vi x0.fN,vi x0.fD],.agg #[vi x1.fN,vi x1.fD]]:List Value)++zqV).toArray w fun e w'=>e = .returned (vi r)/\Hp [] w w' []):
  RC 195 #[vs q b.length s,.func (.func zkv) #[] (zqV).toArray] Ny (.agg #[vi r.fN,vi r.fD]) [] []:=by
 unfold jp at h
 refine L0 func195 U U<|B0q (Lh 4 (xV (cs:=[vi 0,vi 0]) z1F U) fun k _=>Q0n<|WC.b<|B1q U<|Le 8 (wc underlying229)<|Q1n U<|Lj h (fun y h=>?_)<|fun y h=>?_)
 ·cases h
 ·refine Np<|WC.b<|cK h fun z h=>D1q U<|L2 (Z:=Z) (Pr:=(rq w4)) z41 t z ?_
  rintro P Q B R rfl
  refine Le 13 (xN zg (qB hz.pv B)) (Lh 5 (xV (cs:=[vi 0,vi 0]) z1F U) fun m _=>Lk (xR z16 .here)<|Q0n ?_)
  refine jK2 h fun u D h=>H6 (fun n o=>(u n o=some r)) (fun n o=>[(4,vp k),(5,vp m)]) (fun n o=>[stb k 175 [vi 0,vi 0],stb m 175 [vi n,vi o]]) ?_ ?_
  ·let A:Value:=(.func (.func zkv) #[] (zqV).toArray);let C:Value:=(vs q b.length s);refine B1n U<|WC.block<|Cv (fun p a c d=>(vK b zcB u p a c d=some r)) (fun p a c d=>[(0,C),(1,A),(4,vp k),(5,vp m),(6,vi a)]) (fun p a c d=>[stb k 175 [vi 0,vi 0],stb m 175 [vi c,vi d]]) (fun p a c d=>p) ⟨xT,1,(nth b 0).fN,(nth b 0).fD⟩ h .q (.s2 .h1 .here) ?_
   rintro(_|M) a c d h;·cases h
   rw[vK] at h
   refine WC.b<|B2q U<|Le 16 (wc underlying229)<|Q1n U<|Lj h (fun E h=>?_)<|fun E h=>?_
   ·refine Np<|jK2 h fun N F h=>H6 (fun g i=>(N g i=some r)) (fun g i=>[(0,C),(1,A),(4,vp k),(5,vp m),(6,vi a)]) (fun g i=>[stb k 175 [vi 0,vi 0],stb m 175 [vi g,vi i]]) ?_ ?_
    ·refine WC.block<|WC.b<|cK h fun G h=>bK h fun O H h=>Lu nc []<|Lf 0 U q_m<|Lf 1 U q_m<|Lf 2 U q_m<|L7 (j:=3) (Z:=Z) (Pr:=(rq w4)) z41 t G ?_
     rintro S T I V rfl
     refine Lg 4 U (xN zg (qB hz.pv I))<|Lg 5 U (xN zg (xO .h1))<|L4 6 U (qk (l:=[.tmp 24,.tmp 25]) (f:=zkv) (caps:=zqV) v<|.r2 U U) (fun w hw=>x w (hz.now hw) (⟨(nth b a).fN,(nth b a).fD⟩:z2) (⟨c,d⟩:z2) O  H)<|Lf 7 U sY<|N1<|Lb<|Lj h (fun J h=>?_)<|fun J h=>?_
     ·refine cK h fun K h=>D2q U<|L2 (Z:=Z) (Pr:=(rq w4)) z41 t K ?_
      rintro W X L Y rfl
      exact Le 31 (xN zg (qB hz.pv L))<|Lk (xR z16 .h1)<|WL.nil<|Lt<|Lp ⟨(nth b a).fN,(nth b a).fD⟩ h .q<|.s2 .h1 .here
     ·exact N3<|Lt<|Lp ⟨c,d⟩ h .q<|.a2
    ·rintro g i h
     replace h:=(F g i).symm.trans h
     exact D3q U<|WL.nil<|N0 ⟨M,i64 (a+1),g,i⟩ h .q<|.a2
   ·exact N2<|Ln<|Ln<|Lv<|Lp ⟨c,d⟩ h .q<|.a2
  ·rintro n o h
   replace h:=(D n o).symm.trans h
   exact B0q<|Le 32 (xN zg (xO .h1))<|Lk (xR z16 .here)<|Q0n<|Nz<|oJ h▸Nn results195 (.agg U zg U (xO .here) .nil) .nil
def kW(b:List z8)(e:z2)(f:(List z2)->Int->Option (z2×Int)):Nat->(List z2)->Int->Int->Option (z2×Int)
 | 0,_,_,_=>none
 | h+1,c,a,g=>if decide (a<b.length) then chk (0<=a/\a<b.length) ((j9 (⟨g⟩:yu) (⟨(⟨((nth b a).yi).fN,((nth b a).yi).fD⟩:z2),(⟨((nth b a).fR).fN,((nth b a).fR).fD⟩:z2)⟩:z8) e).bind fun d=>chk (((c++([d.1]:List z2)).length:Int)*16<=140737488355328/\((c++([d.1]:List z2)).length:Int)<=4611686018427387904) (kW b e f h (c++([d.1]:List z2)) (i64 (a+1)) d.2.fE)) else f c g
def uc(a:List z8)(b:z2):Option (z2×Int):=
 (mM a).bind fun d=>(if !d then some true else(uZ b).bind fun e=>some (!e)).bind fun f=>if f then some ((⟨0,0⟩:z2),2) else sm (fun(g:List z2) (c:Int)=>if decide (c≠0) then some ((⟨0,0⟩:z2),c) else(jp g (fun y0 y1=>qa y0 y1)).bind fun h=>some (h,0)) fun i=>kW a b i xT ([]:List z2) 0 0
theorem GE{Z u x k b r}(h:uc k b=some r){Ny}(hz:PZ [] Ny Z)(y:ZS Z 4 (rq qw) u x k):
  RC 162 #[vs u k.length x,.agg #[vi b.fN,vi b.fD]] Ny (.tuple #[.agg #[vi r.1.fN,vi r.1.fD],vi r.2]) [] []:=by
 unfold uc at h
 refine L0 func162 U U<|B0q (Lh 3 (we (cs:=[vi b.fN,vi b.fD])) fun z _=>Lh 4 (xV (cs:=[vi 0,vi 0]) z1F U) fun s _=>Q1n U<|WC.b<|WC.b ?_)
 refine bK h fun aa D h=>bK h fun R A h=>D1q U<|Ns call192 hz (fun pz=>om D pz y)<|Q2q U<|Ly false 3 13 (B:=R) (hB:=(fun h=>(oJ<|ju A h).symm)) (fun _ E=>?_) ?_
 ·have m:=jv A E
  obtain⟨ab,F,m⟩:=za m
  replace m:=oJ m
  exact Le 14 (xN zg (xO .h1))<|Ns call193 hz (hI F)<|Q2q U<|Lz m U .all
 refine Q0n<|Lj h (fun G h=>?_)<|fun G h=>?_
 ·exact B0q<|Le 18 (wl (v:=(.agg #[vi 0,vi 0])) (Lq (l:=[]) .nil []))<|Lk (xR z16 .here)<|Q1n U<|Nz<|Ll<|oJ h▸Nn results162 (.agg U zg U (xO .here)<|.tmp U .nil) .nil
 ·refine Np<|B0q (Lh 6 (xV (cs:=[vi 0]) zM7 U) fun n _=>Q0n<|B1n U ?_)
  refine jK2 h fun C H h=>O9 (fun c d o p=>(C c d=some r)) (fun c d o p=>[(4,vp s),(6,vp n),(7,vs o c.length p)]) (fun c d o p=>[row (vs o c.length p) 175 2 (c.flatMap w4),stb s 175 [vi 0,vi 0],stb n 307 [vi d]]) ?_ ?_
  ·refine B1q U<|Le 20 (wc underlying227)<|Q1n U<|WC.block<|WC.nilRow 175 2<|O0 (fun q a e f g j=>(kW k b C q a e f=some r)) (fun q a e f g j=>[(3,vp z),(4,vp s),(6,vp n),(7,vs g a.length j),(19,vs u k.length x),(20,vi (k.length:Int)),(21,vi e)]) (fun q a e f g j=>[row (vs g a.length j) 175 2 (a.flatMap w4),stb z 175 [vi b.fN,vi b.fD],stb s 175 [vi 0,vi 0],stb n 307 [vi f]]) (fun q a e f g j=>q) ⟨xT,([]:List z2),0,0,none,0⟩ h .q (.s4 .here .h2 .h1 .here) ?_
   rintro(_|S) a e f g j h;·cases h
   rw[kW] at h
   refine B1n U<|WC.b<|Lj h (fun I h=>?_)<|fun I h=>?_
   ·refine Np<|WC.b<|WC.block<|WC.b<|cK h fun J h=>Ld<|L2 (Z:=Z) (Pr:=(rq qw)) za8 y J ?_
    rintro T V K W rfl
    refine Le 24 (xN z4k (qB hz.pv K)) (Lh 9 (xV (cs:=[vi 0,vi 0,vi 0,vi 0]) zfI U) fun X _=>Lk (xR zdS .here)<|Q0n ?_)
    refine bK h fun t L h=>cK h fun M h=>D1q U<|Le 26 (xN z4k (xO .here))<|Le 27 (xN zg (xO .h2))<|Lo 28 (Nt call194) (.cons .h4 .nil) (cc hz (.cons .h4 .nil) fun w pz ho=>aN L pz  ho) (Lh 29 (wn (cs:=([t.1]:List z2).flatMap w4) z41 (Lq (l:=[.tmp 28]) (.cons U .nil) [0])) fun Y _=>WL.fA 30 (jN (enc:=w4) (l1:=a) (l2:=([t.1]:List z2)) z41 .h3 (j4 .here) (kZ Yt) M) ?_)
    rintro⟨N,O⟩ _
    exact La U<|WL.nil<|Lt<|Lb<|D2q U<|WL.nil<|N0 ⟨S,a++([t.1]:List z2),i64 (e+1),t.2.fE,N,O⟩ h .q<|.s4 .here .h3 .h3 .h1
   ·exact N2<|Ln<|Ln<|Lv<|Lp ⟨a,f,g,j⟩ h .q<|.s3 .here .h1 .h1
  ·rintro c d o p h
   replace h:=(H c d).symm.trans h
   refine WC.b<|B0q<|Le 32 (xB lP)<|Le 33 (Nu z6q .h2)<|Q1n U<|Lj h (fun P h=>?_)<|fun P h=>?_
   ·exact WC.b<|Lu (fun i=>[3].contains i) [rb n 307 [(0,vi d)]]<|Lf 0 U (wl (v:=(.agg #[vi 0,vi 0])) (Lq (l:=[]) .nil []))<|Lf 1 U (xB lP)<|L8 2 U (wJ.wk (.cons .h2 .nil)<|.stb (.cons U .nil) .nil) (xC z6q U<|mG .here<|.head _)<|WD.forced0 (i:=3) U (wJ.wk (.cons .h2 .nil)<|.stb (.cons U .nil) .nil) (xR z16 .h1)<|Lf 4 U q_z<|N1<|Lb<|Nz<|Ll<|oJ h▸Nn results162 (.agg U zg U (xO .here)<|.tmp U .nil) .nil
   ·exact Np<|WC.b<|bK h fun ad Q h=>D1q U<|Lo 39 (Nt call195) .nil (uB hz .nil (.cons .here .nil) fun w pz ho la=>oy (zkv:=129) (zqV:=[]) (zcB:=(fun y0 y1=>qa y0 y1)) Q pz (ZA.row (la _ (.head _) _) (RR.flat (enc:=w4)) ⟨w,pz.1⟩) call129<|fun w' hz' y0 y1  r  hr=>uf hr hz' )<|Lk (xR z16 .h1)<|Q1n U<|Nz<|oJ h▸Nn results162 (.agg U zg U (xO .here)<|.tmp U .nil) .nil
def jq(b:List (List z8))(e:z2)(f:Int->Int->Int->Option (z2×yu)):Nat->Int->Int->Int->Int->Option (z2×yu)
 | 0,_,_,_,_=>none
 | k+1,a,c,g,h=>if decide (a<b.length) then chk (0<=a/\a<b.length) ((uc (nth b a) e).bind fun i=>qt (fun(l:Int)=>(vC (⟨l⟩:yu) (fun y0 y1=>vV y0 y1) (⟨g,h⟩:z2) i.1).bind fun d=>jq b e f k (i64 (a+1)) d.2.fE d.1.fN d.1.fD) fun j=>if decide (c=0) then j i.2 else j c) else f g h c
def gj(b:yu)(c:List (List z8))(d:z2):Option (z2×yu):=
 (gY).bind fun a=>Vw (fun(e:Int) (f:Int) (g:Int)=>some ((⟨e,f⟩:z2),(⟨g⟩:yu))) fun h=>jq c d h xT 0 b.fE a.fN a.fD
theorem oF{Z a s t o f g r}(h:gj o f g=some r){Ny}(hz:Pz [stb a 277 [vi o.fE]] Ny Z)(B:ZS Z 1 (jW Z) s t f)(iF:Ho Ny [stb a 277 [vi o.fE]]):
  RF 126 #[vp a,vs s f.length t,.agg #[vi g.fN,vi g.fD]] Ny (.agg #[vi r.1.fN,vi r.1.fD]) [stb a 277 [vi o.fE]] [stb a 277 [vi r.2.fE]]:=by
 unfold gj at h
 refine N8 func126 U iF U ?_
 let A:List Value:=[vi g.fN,vi g.fD];refine B0q<|Lh 5 (we (cs:=A)) ?_
 intro q _
 refine Lh 6 (xV (cs:=[vi 0,vi 0]) z1F U) fun i _=>Q0n<|WC.b<|bK h fun x E h=>Ld<|Ns call161 hz (tQ E) (Lh 7 (xV (cs:=[vi 0,vi 0]) z1F U) fun j _=>Lk (xR z16 .here)<|Q0n ?_)
 refine jK3 h fun y F h=>Ni (fun k l m=>(y k l m=some r)) (fun k l m=>[(6,vp i),(7,vp j)]) (fun k l m=>[stb i 175 [vi 0,vi 0],stb j 175 [vi k,vi l],stb a 277 [vi m]]) ?_ ?_
 ·let C:Value:=(vs s f.length t);let D:Value:=(vi (f.length:Int));refine B1q U<|Le 14 (wc underlying171)<|Q1n U<|WC.block<|Oe (fun p b c d e=>(jq f g y p b c d e=some r)) (fun p b c d e=>[(0,vp a),(5,vp q),(6,vp i),(7,vp j),(13,C),(14,D),(15,vi b)]) (fun p b c d e=>[stb a 277 [vi c],stb q 175 A,stb i 175 [vi 0,vi 0],stb j 175 [vi d,vi e]]) (fun p b c d e=>p) ⟨xT,0,o.fE,x.fN,x.fD⟩ h .q (.s4 .h3 .h2 .h1 .here) ?_
  rintro(_|O) b c d e h;·cases h
  rw[jq] at h
  refine B1n U<|WC.b<|Lj h (fun G h=>?_)<|fun G h=>?_
  ·refine Np<|WC.b<|WC.block<|WC.b<|cK h fun H h=>Ld<|L2 (Z:=Z) (Pr:=(jW Z)) zfH B H ?_
   rintro Q R I S ⟨T,V,rfl,J⟩
   refine Le 18 (xC zoL U<|kz hz.pv I)<|Q1n U<|WC.b<|bK h fun u K h=>D1q U<|Le 21 (xN zg (xO .h1))<|Ns call162 hz (fun pz=>GE K pz J)<|Q2q U<|La U (Lh 10 (xV (cs:=[vi 0,vi 0]) z1F U) fun z _=>Lk (xR z16 .here)<|Q1n U ?_)
   refine jK1 h fun P L h=>L6 (fun n=>(P n=some r)) (fun n=>[(0,vp a),(5,vp q),(6,vp i),(7,vp j),(10,vp z),(13,C),(14,D),(15,vi b)]) (fun n=>[stb a 277 [vi n],stb q 175 A,stb i 175 [vi 0,vi 0],stb j 175 [vi d,vi e],stb z 175 [vi u.1.fN,vi u.1.fD]]) ?_ ?_
   ·refine B1q U<|Le 26 w5<|Le 27 (xB se)<|Le 28 (Nu z6q .h1)<|Q1n U<|Lj h (fun M h=>?_)<|fun M h=>?_
    ·exact D2q U<|Le 32 w5<|Le 33 (xB se)<|Lk (xR ztQ .h1)<|WL.nil<|Lp u.2 h .q<|.s5 .here .h1 .h1 .h1 .here
    ·exact N3<|Lp c h .q<|.s5 .h1 .h1 .h1 .h1 .here
   ·rintro n h
    replace h:=(L n).symm.trans h
    exact bK h fun v N h=>D1q U<|Le 35 (xN zg (xO .h3))<|Le 36 (xN zg (xO .h4))<|Lo 37 (Nt call123) (.cons .here .nil) (cc hz (.cons .here .nil) fun w pz ho=>kO (zan:=119) (zcz:=[]) (zbj:=(fun y0 y1=>vV y0 y1)) N pz call119 (fun w' hz' y0 y1  r  hr=>py hr hz' ) ho)<|Lk (xR z16 .h3)<|WL.nil<|Lt<|Lb<|D2q U<|WL.nil<|N0 ⟨O,i64 (b+1),v.2.fE,v.1.fN,v.1.fD⟩ h .q<|.s4 .h1 .h1 .h1 .here
  ·exact N2<|Ln<|Ln<|Lv<|Lp ⟨d,e,c⟩ h .q<|.s3 .h2 .h2 .here
 ·rintro k l m h
  replace h:=(F k l m).symm.trans h
  exact B0q<|Le 39 (xN zg (xO .h1))<|Lk (xR z16 .here)<|Q0n<|Nz<|oJ h▸Nn results126 (.agg U zg U (xO .here) .nil) (.cons .h2 .nil)
def ug(g:yu)(a:z2)(h:List (List z8))(b:yv):Option (z2×yu):=
 (gj g h a).bind fun c=>(vC c.2 (fun y0 y1=>gZ y0 y1) c.1 b.fR).bind fun d=>(vC d.2 (fun y0 y1=>jB y0 y1) d.1 a).bind fun e=>(vC e.2 (fun y0 y1=>vV y0 y1) e.1 b.fL).bind fun f=>some (f.1,f.2)
theorem aP{Z c f g j k d b e a r}(h:ug d b e a=some r){Ny}(hz:Pz [stb c 277 [vi d.fE]] Ny Z)(m:ZS Z 1 (jW Z) g j e)(n:ZC Z f [vs g e.length j])(l:ZC Z k [vi a.fR.fN,vi a.fR.fD,vi a.fL.fN,vi a.fL.fD])(iF:Ho Ny [stb c 277 [vi d.fE]]):
  RF 122 #[vp c,.agg #[vi b.fN,vi b.fD],vq f,vq k] Ny (.agg #[vi r.1.fN,vi r.1.fD]) [stb c 277 [vi d.fE]] [stb c 277 [vi r.2.fE]]:=by
 unfold ug at h
 refine H3 func122 U iF U<|B0q (Lh 5 (we (cs:=[vi b.fN,vi b.fD])) fun o _=>Lh 6 (xV (cs:=[vi 0,vi 0]) z1F U) fun v _=>Q0n<|WC.b ?_)
 refine bK h fun x p h=>bK h fun y q h=>bK h fun z t h=>bK h fun A u h=>Lu (fun i=>[6,9,11,14,15].contains i) [stb o 175 [vi b.fN,vi b.fD]]<|Lf 0 U q_m<|Lf 1 U q_m<|Lf 2 U q_m<|Lf 3 U q_m<|Lg 4 U (xC zj6 U<|kz hz.pv n)<|Lg 5 U (xN zg (xO .h1))<|Lf 7 U (xB cQ)<|L8 8 U (wJ.of<|.cons .h1 .nil) (wo (cs:=[vi a.fR.fN,vi a.fR.fD]) zg<|dH (off:=0) (s:=2) hz.pv l U)<|L8 10 U (wJ.of<|.cons .h1 .nil) (xN zg (xO .here))<|Lf 12 U (xB lO)<|L8 13 U (wJ.of<|.cons .h1 .nil) (wo (cs:=[vi a.fL.fN,vi a.fL.fD]) zg<|dH (off:=2) (s:=2) hz.pv l U) (WD.call0 (i:=6) U U (.inl ⟨U,(wJ.of<|.cons .h2 .nil)⟩) (Nt call126) (.cons .h2 .nil) (cc hz (.cons .h2 .nil) fun w pz ho=>Calls.mono (oF p pz m ho)<|fun _ _ h'=>⟨h'.1,trivial,h'.2⟩) fun _=>WD.call0 (i:=9) U U (.inl ⟨U,(wJ.of<|.cons .h2 .nil)⟩) (Nt call123) (.cons .here .nil) (cc hz (.cons .here .nil) fun w pz ho=>Calls.mono (kO (zan:=125) (zcz:=[]) (zbj:=(fun y0 y1=>gZ y0 y1)) q pz call125 (fun w' hz' y0 y1  r  hr=>VK hr hz' ) ho)<|fun _ _ h'=>⟨h'.1,trivial,h'.2⟩) fun _=>WD.call0 (i:=11) U U (.inl ⟨U,(wJ.of<|.cons .h2 .nil)⟩) (Nt call123) (.cons .here .nil) (cc hz (.cons .here .nil) fun w pz ho=>Calls.mono (kO (zan:=124) (zcz:=[]) (zbj:=(fun y0 y1=>jB y0 y1)) t pz call124 (fun w' hz' y0 y1  r  hr=>iA hr hz' ) ho)<|fun _ _ h'=>⟨h'.1,trivial,h'.2⟩) fun _=>WD.call0 (i:=14) U U (.inl ⟨U,(wJ.of<|.cons .h2 .nil)⟩) (Nt call123) (.cons .here .nil) (cc hz (.cons .here .nil) fun w pz ho=>Calls.mono (kO (zan:=119) (zcz:=[]) (zbj:=(fun y0 y1=>vV y0 y1)) u pz call119 (fun w' hz' y0 y1  r  hr=>py hr hz' ) ho)<|fun _ _ h'=>⟨h'.1,trivial,h'.2⟩) fun _=>Na (i:=15) U (xR z16 .h1)<|N1<|Lb<|Nz ?_)
 exact oJ h▸Nn results122 (.agg U zg U (xO .here) .nil) (.cons .h1 .nil)
end Go.Proofs.YthjnhebofpebpaaGreat
