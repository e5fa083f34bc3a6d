/- A part of this claim's proof: models of functions, walks, plain laws. No conditions. -/
import Derived.Test.YtaefhckdgfpeaaaGreatWopc
set_option linter.all false
namespace Go.Proofs.YtaefhckdgfpeaaaGreat
open Go Go.RowKit Sep Tryz
variable {f:Nat}{g:Int}
set_option maxRecDepth 30000
set_option maxHeartbeats 4000000
def X3(b:z1)(a:z1):Option z1:=
 (qP b).bind fun d=>(if !d then some true else(qP a).bind fun e=>some (!e)).bind fun g=>if g||(decide (a.fN=0)) then none else(aV b a).bind fun c=>(rb c.1 c.2).bind fun f=>some f
theorem GK(Z b a r)(h:X3 b a=some r){Ek}(hz:PZ [] Ek Z):
  RC 213 #[.string ⟨#[47]⟩,.agg #[vi b.fN,vi b.fD],.agg #[vi a.fN,vi a.fD]] Ek (.tuple #[.agg #[vi r.fN,vi r.fD],vi 0]) [] []:=by
 unfold X3 at h
 refine Ng func213 U U<|Lb<|Le (Lh 4 (wu (cs:=[vi b.fN,vi b.fD])) fun d _=>Lh 5 (wu (cs:=[vi a.fN,vi a.fD])) fun e _=>Lh 6 (wn (cs:=[vi 0,vi 0]) z20) fun s _=>Q1n U<|Lb<|Lb ?_)
 refine bK h fun t i h=>bK h fun g f h=>Le<|Lf 9 (we zm (wh .h2))<|Eg call188 hz (je _ _ _ i)<|Q2q U<|Lx false 3 12 (B:=g) (fun h=>(oJ<|qf f h).symm) (fun _ j=>?_) ?_
 ·have c:=qg f j
  obtain⟨u,m,c⟩:=z2 c
  replace c:=oJ c
  exact Lf 13 (we zm (wh .h1))<|Eg call188 hz (je _ _ _ m)<|Q2q U<|Ly c U .all
 refine La U<|Lx false 7 17 (B:=g||(decide (a.fN=0))) (fun h=>(jB h).symm) (fun _ n=>?_) ?_
 ·exact La U<|Lf 19 (Xo (r:=true) (by decide) U U)<|La U<|Lf 21 (w7 jv)<|Lf 22 (Ei wm .h1)<|Q3q U<|Ly (jC n) U .all
 refine Q0n<|Lj h (fun o h=>?_)<|fun o h=>?_
 ·cases h
 ·refine Ec<|B0q<|Lh 27 (jK Value.string<|fun x=>x) ?_
  intro y _
  let A:Value:=(.func (.func 240) #[] #[vp d,vp e]);refine Lf 28 (wO<|L6 (l:=[.tmp 4,.tmp 5])<|.r2 U U)<|Ll (gi (k:=⟨#[43]⟩) (v:=(.func (.func 237) #[] #[vp d,vp e])) gf underlying393 .here)<|Lf 29 (wO<|L6 (l:=[.tmp 4,.tmp 5])<|.r2 U U)<|Ll (gi (k:=⟨#[45]⟩) (v:=(.func (.func 238) #[] #[vp d,vp e])) gf underlying393 .here)<|Lf 30 (wO<|L6 (l:=[.tmp 4,.tmp 5])<|.r2 U U)<|Ll (gi (k:=⟨#[42]⟩) (v:=(.func (.func 239) #[] #[vp d,vp e])) gf underlying393 .here)<|Lf 31 (wO<|L6 (l:=[.tmp 4,.tmp 5])<|.r2 U U)<|Ll (gi (k:=⟨#[47]⟩) (v:=A) gf underlying393 .here)<|Q2n U<|Lb ?_
  exact bK h fun C p h=>bK h fun z q h=>D2q U<|Lf 35 (Xn (k:=⟨#[47]⟩) (dflt:=.nilFunc) (r:=A) gf underlying393 zHK U U U .here (by rfl))<|Lm 36 (wV (l:=[]) call240 .nil) .nil (kb hz .nil (.s2 .h3 .h2) fun w pz ho la=>KT _ _ _ _ _ _ p pz ((la _ (.head _) _).stb)<|(la _ (.tail _<|.head _) _).stb)<|Q2q U<|Eg call214 hz (im _ _ _ _ q)<|Q2q U<|Ll (wl z1t .h1)<|Q1n U<|El<|oJ h▸Eb results213 (.agg U zm U (wh .here)<|.tmp U .nil) .nil
def eK(b:z1)(c:z1):Option z1:=
 (X3 b c).bind fun a=>some a
theorem Qi(Z a b r)(h:eK a b=some r){Ek}(hz:PZ [] Ek Z):
  RC 183 #[.agg #[vi a.fN,vi a.fD],.agg #[vi b.fN,vi b.fD]] Ek (.tuple #[.agg #[vi r.fN,vi r.fD],vi 0]) [] []:=by
 unfold eK at h
 refine Lz func183 U U<|Lb<|Le (Lh 2 (wu (cs:=[vi a.fN,vi a.fD])) fun d _=>Lh 3 (wu (cs:=[vi b.fN,vi b.fD])) fun e _=>Lh 4 (wn (cs:=[vi 0,vi 0]) z20) fun f _=>Q1n U<|Lb ?_)
 exact bK h fun g c h=>Le<|Lf 6 (we zm (wh .h2))<|Lf 7 (we zm (wh .h1))<|Eg call213 hz (GK _ _ _ _ c)<|Q2q U<|Ll (wl z1t .here)<|Q1n U<|El<|oJ h▸Eb results183 (.agg U zm U (wh .here)<|.tmp U .nil) .nil
def lb(a:yk)(c:z1)(d:z1):Option (z1×yk):=
 if decide (a.fE≠0) then some ((⟨0,0⟩:z1),a) else(eK c d).bind fun b=>some (b,(⟨0⟩:yk))
theorem Wm(Z a d b c r)(h:lb d b c=some r){Ek}(hz:Pz [stb a 396 [vi d.fE]] Ek Z)(iA:Ho Ek [stb a 396 [vi d.fE]]):
  RF 261 #[vp a,.func (.func 183) #[] #[],.agg #[vi b.fN,vi b.fD],.agg #[vi c.fN,vi c.fD]] Ek (.agg #[vi r.1.fN,vi r.1.fD]) [stb a 396 [vi d.fE]] [stb a 396 [vi r.2.fE]]:=by
 unfold lb at h
 refine Et func261 U iA U<|Lb<|Le (Lh 6 (wu (cs:=[vi b.fN,vi b.fD])) fun g _=>Lh 7 (wu (cs:=[vi c.fN,vi c.fD])) fun i _=>Lh 8 (wn (cs:=[vi 0,vi 0]) z20) fun j _=>Q0n<|Lb<|B1q U<|Lf 12 wz<|Lf 13 (w7 tO)<|Lf 14 (Ei z8n .h3)<|Q1n U<|Lj h (fun e h=>?_)<|fun e h=>?_)
 ·exact B0q<|Lf 16 (wN (v:=(.agg #[vi 0,vi 0])) (Lt (l:=[]) .nil []) (fun _=>by kernel_rfl))<|Ll (wl z1t .here)<|Q0n<|El<|L4<|oJ h▸Eb results261 (.agg U zm U (wh .here) .nil) (.cons .h3 .nil)
 ·refine Ec<|Lb<|bK h fun k f h=>D1q U<|Lf 19 (we zm (wh .h2))<|Lf 20 (we zm (wh .h1))<|Lm 21 (wV (l:=[.tmp 19,.tmp 20]) call183<|.r2 U U) .nil (cc hz .nil fun w pz ho=>Qi _ _ _ _ f pz )<|Q2q U<|La U (Lh 9 (wn (cs:=[vi 0,vi 0]) z20) fun m _=>Ll (wl z1t .here)<|Q1n U<|B2q U<|Lf 26 wz<|Lf 27 (w7 tO)<|Ll (wl zfn .h4)<|Q0n<|B0q<|Lf 28 (we zm (wh .h1))<|Ll (wl z1t .h2)<|Q0n<|El ?_)
  exact oJ h▸Eb results261 (.agg U zm U (wh .here) .nil) (.cons .h1 .nil)
theorem z1n9:∀ w,(isAgg (Tryz.kR.t 24)).run Tryz.prog w = .ok true w:=fun _=>by kernel_rfl
theorem z1na:∀ w,(Go.sizeOf (Tryz.kR.t 24)).run Tryz.prog w = .ok 2 w:=fun _=>by kernel_rfl
def uR(zaf:List z1)(zDT:Int)(zDU:Int)(zx7:Int)(zsT:z1->z1->Option Int):Option (List z1):=chk ((zDT=0/\zDU=(zaf.length:Int))/\(0<=zx7/\zx7<4611686018427387904/\zaf.length<4611686018427387904)) (chk (de zsT (jh zsT zaf)=true) (some (jh zsT zaf)))
theorem lM(Z zsU zsV zDV zRC zaf zDT zDU zx7 zsT r){Ek}(hz:Pz [row (vs zsU zaf.length zsV) 276 2 (zaf.flatMap wI)] Ek Z)(a:∀ args w,(callFunc zDV args).run Tryz.prog w = .ok (.enter zDV args) w)(b:∀ w:World,PZ [] w Z->∀(x0:z1) (x1:z1) (r:Int),zsT x0 x1=some r->Calls Tryz.prog zDV (([.agg #[vi x0.fN,vi x0.fD],.agg #[vi x1.fN,vi x1.fD]]:List Value)++zRC).toArray w fun e w'=>e = .returned (vi r)/\Hp [] w w' [])(h:uR zaf zDT zDU zx7 zsT=some r)(iA:Ho Ek [row (vs zsU zaf.length zsV) 276 2 (zaf.flatMap wI)]):
  Calls Tryz.prog 277 #[vs zsU zaf.length zsV,vi zDT,vi zDU,vi zx7,.func (.func zDV) #[] (zRC).toArray] Ek fun e w'=>e = .returned (.tuple #[])/\(r.length=zaf.length)/\Hp (fps [row (vs zsU zaf.length zsV) 276 2 (zaf.flatMap wI)]) Ek w' [row (vs zsU r.length zsV) 276 2 (r.flatMap wI)]:=by
 obtain⟨h0,h⟩:=wa h
 obtain⟨h1,h⟩:=wa h
 have hr:=(oJ h).symm
 exact cZ (P:=Tryz.prog) (f:=277) (e:=276) (k:=2) (enc:=wI) (fun _=>U) (by decide) VH (fun β _ enc cf g cb hO wA off cap d0 w0 eg hC R=>Tryz.cm 2 z1n9 z1na enc cf g cb hO wA off cap d0 w0 eg hC R) (Tryz.iM (α:=Unit)) hz a b h0 h1 hr iA
def gA(a:List z1)(zx8:z1->z1->Option Int):Option (List z1):=
 (o0 (u64 (a.length:Int))).bind fun b=>(uR a 0 (a.length:Int) b zx8).bind fun c=>some c
theorem oP(Z b c zx9 zJe a zx8 r)(h:gA a zx8=some r){Ek}(hz:Pz [row (vs b a.length c) 276 2 (a.flatMap wI)] Ek Z)(j:∀ args w,(callFunc zx9 args).run Tryz.prog w = .ok (.enter zx9 args) w)(k:∀ w:World,PZ [] w Z->∀(x0:z1) (x1:z1) (r:Int),zx8 x0 x1=some r->Calls Tryz.prog zx9 (([.agg #[vi x0.fN,vi x0.fD],.agg #[vi x1.fN,vi x1.fD]]:List Value)++zJe).toArray w fun e w'=>e = .returned (vi r)/\Hp [] w w' [])(iA:Ho Ek [row (vs b a.length c) 276 2 (a.flatMap wI)]):
  Calls Tryz.prog 265 #[vs b a.length c,.func (.func zx9) #[] (zJe).toArray] Ek fun e w'=>e = .returned (.tuple #[])/\(r.length=a.length)/\Hp (fps [row (vs b a.length c) 276 2 (a.flatMap wI)]) Ek w' [row (vs b r.length c) 276 2 (r.flatMap wI)]:=by
 unfold gA at h
 refine Nk func265 U iA U<|B1q U<|Lf 6 (wB underlying340)<|Q1n U<|bK h fun f l h=>bK h fun g m h=>D3q U<|Lf 10 (vo underlying3 underlying226)<|Eg call93 hz (fun pz=>ik (Z:=_)  (zew:=(u64 (a.length:Int))) (r:=f) pz  l)<|La U<|Nu (dd:=13) U (Eh call277) (.cons .here .nil) (cc hz (.cons .here .nil) fun w pz ho=>lM (Z:=_) (zsU:=b) (zsV:=c) (zDV:=zx9) (zRC:=zJe) (zaf:=a) (zDT:=0) (zDU:=(a.length:Int)) (zx7:=f) (zsT:=zx8) (r:=g) pz j k m ho) ?_
 rintro  d
 exact Ew (i:=0) U (u:=(vs b g.length c)) (rJ d.symm)<|WL.nil<|oJ h▸Nj results265 .nil fun w hw=>⟨ui,d.trans U,hw.sub (.cons .here .nil)⟩
def gP(a:List z1):Option Unit:=
 if decide ((a.length:Int)<2) then some () else none
theorem ld(Z b c a r)(h:gP a=some r){Ek}(hz:PZ [] Ek Z)(e:ZS Z 2 (rq wI) b c a):
  RC 266 #[vs b a.length c] Ek (vs b a.length c) [] []:=by
 unfold gP at h
 refine L3 func266 U U<|B1n U<|Lb<|B1q U<|Lf 7 (wB underlying340)<|Q1n U<|Lj h (fun d h=>?_)<|fun d h=>?_
 ·refine B2n U<|El<|L4 ?_
  skip
  exact Lk results266 (.tmp U .nil)<|fun w hw=>⟨wx,hw.sub .nil⟩
 ·cases h
def sc(a:zb×zb)(b:List z1)(d:Int):Option (Bool×(Nat×List z1×Int)):=
 (kU a.1.yg a.2.yg).bind fun g=>if decide (g<0) then(pa (⟨d⟩:yk) a.2.yg a.1.yg).bind fun e=>(pa e.2 a.1.fR a.2.fR).bind fun f=>(lb f.2 e.1 f.1).bind fun c=>chk (((b++([c.1]:List z1)).length:Int)*16<=140737488355328/\((b++([c.1]:List z1)).length:Int)<=4611686018427387904) (some (true,(0,b++([c.1]:List z1),c.2.fE))) else some (true,(0,b,d))
def ss(a:List zb):Option (List z1):=
 (t6 a).bind fun f=>if !f then none else(dD a).bind fun b=>rl (fun(g:Int) (h:List z1)=>if decide (g≠0) then none else(gA h (fun y0 y1=>kU y0 y1)).bind fun c=>(gP c).bind fun j=>some c) fun i=>(bq b b).bind fun d=>(ip (Nat×List z1×Int) (fun(x:zb×zb) (s:Nat×List z1×Int)=>chk (s.1=0) (sc x s.2.1 s.2.2)) (0,([]:List z1),0) d.1 d.2).bind fun e=>i e.2.2 e.2.1
theorem cB(Z W X S r)(h:ss S=some r){Ek}(hz:PZ [] Ek Z)(aa:ZS Z 4 (rq qo) W X S):
  Calls Tryz.prog 249 #[vs W S.length X] Ek fun e w'=>∃ ab:Option Addr,∃ ad:Nat,e = .returned (.tuple #[vs ab r.length ad,vi 0])/\True/\Hp [] Ek w' [row (vs ab r.length ad) 276 2 (r.flatMap wI)]:=by
 unfold ss at h
 let O:Value:=(vs W S.length X);refine E7 (vs:=[O]) (pre:=[]) (env:=[(0,O)]) func249 U ntmps249 (Hp.nil Ek _) U ?_
 refine WC.pool<|B2n U<|Lb<|Lb<|bK h fun aT ar h=>D1q U<|Lm 10 (Eh call242) .nil (qB hz .nil .here fun w pz ho=>oZ _ _ _ _ _ ar pz<|aa.mono<|zl)<|Q1n U<|Lj h (fun au h=>?_)<|fun au h=>?_
 ·cases h
 ·refine Ec<|Lb<|Le (Lh 4 (wn (cs:=[vi 0]) zZ7) fun o _=>Q0n<|Lb<|Le (Lh 5 (wn (cs:=[vn]) zNQ) fun n _=>Q0n<|Lb ?_))
  refine bK h fun aU av h=>D1q U<|L7 (dd:=13) U (Eh call263) .nil (qB hz .nil .h2 fun w pz ho=>Jz _ _ _ _ _ av pz<|aa.mono<|zl) ?_
  rintro aX aY _
  refine Q1n U<|jK2 h fun aV aw h=>Ob (fun P v p Q t u=>(aV v p=some r)/\(wg (Z++[]) (Z++Q))) (fun P v p Q t u=>[(4,vp o),(5,vp n)]) (fun P v p Q t u=>[fz Q,stb o 396 [vi v],stb n 340 [vs t p.length u],row (vs t p.length u) 276 2 (p.flatMap wI),wW P]) ?_ ?_
  ·refine Lb<|WC.freezeS (ls:=aU) .here .h2 hz (RR.flat (enc:=qo) (fun _=>U) _) ?_
   intro k ax ae
   refine bK h fun T ay h=>D2q U<|C8 (dd:=16) U U U (Eh call264) .nil (qB hz .nil .here fun w pz ho=>QG _ _ _ _ _ _ _ _ ay pz ae ae) ?_
   rintro c d ag ah ai aj ⟨az,aA⟩
   refine Q0n<|WC.block<|WC.pool<|WC.drop (.s6 .here .h3 .h3 .here .here .here)<|WC.nilRow 276 2<|Ez (f:=276) (caps:=[vp c,vp d]) U call276 ?_
   intro aZ a0 q j y V aB aC w hw
   let L:Value:=(vs none (([]:List z1).length) 0);let A:List Asrt:=[fz [],stb n 340 [L],row L 276 2 (([]:List z1).flatMap wI),stb o 396 [vi 0],wA q (y .ready none)];have hw1:=hw.selAll ((.s5 .h3 .h3 .h2 .h2 .here):Sel _ A _)
   let C:List Value:=[vs ag T.1.length ah];let E:List Value:=[vs ai T.2.length aj];let H:List Asrt:=[stb c 338 C,stb d 338 E];have pz:=(hz.call2 hw1 ((.cons .here .nil):Sel [wM A,wW j,stb c 338 C,stb d 338 E,fz k] [wM A] [wW j,stb c 338 C,stb d 338 E,fz k]) .h3).lend hw1 ((.cons .here .nil):Sel [wM A,wW j,stb c 338 C,stb d 338 E,fz k] [wM A] [wW j,stb c 338 C,stb d 338 E,fz k]) (B:=H) (fun _ nY=>((.s2 .h1 .h1):Sel _ H _).mem nY)
   refine bK h fun m aD h=>Calls.mono (V6 (Z:=_) (zsE:=q) (zfN:=(Option Addr×Nat)) (zcS:=(fun(g:Option Addr×Nat) (s:Nat×List z1×Int)=>wM ([fz [],stb n 340 [vs g.1 s.2.1.length g.2],row (vs g.1 s.2.1.length g.2) 276 2 (s.2.1.flatMap wI),stb o 396 [vi s.2.2]]++[wA q (y (ka<|vY [] s.1)<|vY [] s.1)]))) (zkW:=(fun(g:Option Addr×Nat) (s:Nat×List z1×Int)=>True)) (zsF:=(none,0)) (zRx:=⟨c,0,none⟩) (zsG:=ag) (zsH:=ah) (zsI:=⟨d,0,none⟩) (zJ8:=ai) (zJ9:=aj) (z29:=(Nat×List z1×Int)) (zae:=(fun(x:zb×zb) (s:Nat×List z1×Int)=>chk (s.1=0)<|sc x s.2.1 s.2.2)) (zhh:=(0,([]:List z1),0)) (z3E:=T.1) (z4A:=T.2) (r:=m) pz ?_ trivial (az.mono<|zl) ((hw1.lent ((.cons .here .nil):Sel [wM A,wW j,stb c 338 C,stb d 338 E,fz k] [wM A] [wW j,stb c 338 C,stb d 338 E,fz k]) (B:=H) (fun _ nY=>((.s2 .h1 .h1):Sel _ H _).mem nY) (.head _) _).stb) (aA.mono<|zl) ((hw1.lent ((.cons .here .nil):Sel [wM A,wW j,stb c 338 C,stb d 338 E,fz k] [wM A] [wW j,stb c 338 C,stb d 338 E,fz k]) (B:=H) (fun _ nY=>((.s2 .h1 .h1):Sel _ H _).mem nY) (.tail _<|.head _) _).stb) aD<|hw1.owns ((.cons .here .nil):Sel [wM A,wW j,stb c 338 C,stb d 338 E,fz k] [wM A] [wW j,stb c 338 C,stb d 338 E,fz k])) ?_
   ·refine lD (LI:=(fun(g:Option Addr×Nat) (s:Nat×List z1×Int)=>[fz [],stb n 340 [vs g.1 s.2.1.length g.2],row (vs g.1 s.2.1.length g.2) 276 2 (s.2.1.flatMap wI),stb o 396 [vi s.2.2]])) (pc:=(fun(s:Nat×List z1×Int)=>vY [] s.1)) V aB aC (fun _ _=>U) (by decide) ?_
    rintro a _ ⟨ak,al⟩ ⟨aE,z,am⟩ aG aH Fb wb af _ hz
    replace hz:=hz.left
    letI:Rnd:=rX q
    obtain⟨vj,b⟩:=wa af
    replace vj:aE=0:=vj;subst vj;clear af
    replace b:sc a z am=some (aG,aH):=b
    unfold sc at b
    let J:Value:=(vs ak z.length al);let F:List Asrt:=[fz [],stb n 340 [J],row J 276 2 (z.flatMap wI),stb o 396 [vi am],wA q (y .ready none)];refine WC.restr (env':=[(11,.bool (!aT)),(4,vp o),(5,vp n),(17,.agg #[vi a.1.yg.fN,vi a.1.yg.fD,vi a.1.fR.fN,vi a.1.fR.fD]),(18,.agg #[vi a.2.yg.fN,vi a.2.yg.fD,vi a.2.fR.fN,vi a.2.fR.fD])]) (.qo U)<|N4 (L':=F) U<|B0q<|Lh 7 (wn (cs:=[vi 0,vi 0,vi 0,vi 0]) zk0) ?_
    intro aI _
    refine Ll (wl zk1 .here)<|Q0n<|Le (Lh 8 (wn (cs:=[vi 0,vi 0,vi 0,vi 0]) zk0) fun aJ _=>Ll (wl zk1 .here)<|WL.nil<|N0 V .h6<|WC.block<|Lb ?_)
    obtain⟨a1,aK,b⟩:=z2 b
    let M:List Value:=[vi a.1.yg.fN,vi a.1.yg.fD];let N:List Value:=[vi a.2.yg.fN,vi a.2.yg.fD];refine Le<|Lf 19 (w7 mT)<|Lf 20 (wX (cs:=M) zm<|qW (s:=2) .h2 U)<|Lf 21 (w7 mT)<|Lf 22 (wX (cs:=N) zm<|qW (s:=2) .h1 U)<|Lm 23 (Eh call187) .nil (qB hz .nil .h3 fun w pz ho=>ms _ _ _ _ aK pz )<|Q1n U<|Er (fun Y=>?_)<|fun Y=>?_
    ·replace b:=qf b Y
     obtain⟨a5,aL,b⟩:=z2 b
     obtain⟨a6,aM,b⟩:=z2 b
     obtain⟨R,aN,b⟩:=z2 b
     obtain⟨aO,b⟩:=wa b
     refine Lv (fun i=>[5,10,11,13,14].contains i) [pp n 340 [(0,J)],pp aI 336 [(2,vi a.1.fR.fN),(3,vi a.1.fR.fD)],pp aJ 336 [(2,vi a.2.fR.fN),(3,vi a.2.fR.fD)]]<|Na 0 U (wS.wk (.s3 .h4 .h2 .h1)<|.stb (.cons U .nil)<|.stb (.cons U<|.cons U .nil)<|.stb (.cons U<|.cons U .nil) .nil) (w8 zfo U<|mF .here<|.head _)<|Lg 1 U (w7 mT)<|Li 2 U (wX (cs:=N) zm<|qW (s:=2) .h1 U)<|Lg 3 U (w7 mT)<|Li 4 U (wX (cs:=M) zm<|qW (s:=2) .h2 U)<|Lg 6 U (w7 tN)<|Na 7 U (wS.wk (.s3 .h4 .h2 .h1)<|.stb (.cons U .nil)<|.stb (.cons U<|.cons U .nil)<|.stb (.cons U<|.cons U .nil) .nil) (wX (cs:=[vi a.1.fR.fN,vi a.1.fR.fD]) zm<|aF .h1 (.head _)<|(.tail _<|.head _))<|Lg 8 U (w7 tN)<|Na 9 U (wS.wk (.s3 .h4 .h2 .h1)<|.stb (.cons U .nil)<|.stb (.cons U<|.cons U .nil)<|.stb (.cons U<|.cons U .nil) .nil) (wX (cs:=[vi a.2.fR.fN,vi a.2.fR.fD]) zm<|aF .h2 (.head _)<|(.tail _<|.head _)) (WD.call0 (i:=5) (dd:=30) U (by kernel_rfl) U (.inl ⟨U,(wS.wk (.s3 .h5 .h3 .h2)<|.stb (.cons U .nil)<|.stb (.cons U<|.cons U .nil)<|.stb (.cons U<|.cons U .nil) .nil)⟩) (Eh call261) (.cons .h6 .nil) (qB hz (.cons .h6 .nil) .h3 fun w pz ho=>Calls.mono (eJ _ _ _ _ _ _ aL pz  ho)<|fun _ _ h'=>⟨h'.1,trivial,h'.2⟩) fun _=>WD.call0 (i:=10) (dd:=35) U (by kernel_rfl) U (.inl ⟨U,(wS.wk (.s3 .h5 .h3 .h2)<|.stb (.cons U .nil)<|.stb (.cons U<|.cons U .nil)<|.stb (.cons U<|.cons U .nil) .nil)⟩) (Eh call261) (.cons .here .nil) (qB hz (.cons .here .nil) .h3 fun w pz ho=>Calls.mono (eJ _ _ _ _ _ _ aM pz  ho)<|fun _ _ h'=>⟨h'.1,trivial,h'.2⟩) fun _=>WD.call0 (i:=11) (dd:=36) U (by kernel_rfl) U (.inl ⟨U,(wS.wk (.s3 .h5 .h3 .h2)<|.stb (.cons U .nil)<|.stb (.cons U<|.cons U .nil)<|.stb (.cons U<|.cons U .nil) .nil)⟩) (Eh call261) (.cons .here .nil) (qB hz (.cons .here .nil) .h3 fun w pz ho=>Calls.mono (Wm _ _ _ _ _ _ aN pz  ho)<|fun _ _ h'=>⟨h'.1,trivial,h'.2⟩) fun _=>WD.new (i:=12) (dd:=37) U (by kernel_rfl) U (wD (cs:=([R.1]:List z1).flatMap wI) za4 (Lt (l:=[.tmp 36]) (.cons U .nil) [0]) (fun _=>by kernel_rfl) (by unfold maxLen;omega)) (fun h'=>absurd h' (by decide)) ?_)
     intro a2 _
     refine WD.old (i:=13) (dd:=38) U (by kernel_rfl) U (fun _=>(wS.wk (.s3 .h7 .h5 .h4)<|.stb (.cons U .nil)<|.stb (.cons U<|.cons U .nil)<|.stb (.cons U<|.cons U .nil) .nil)) (vb (enc:=wI) (l1:=z) (l2:=([R.1]:List z1)) za4 .h7 (fun _=>U) (wY .here) (vm VH _) aO) ?_
     rintro⟨an,ao⟩ _
     refine Nb (i:=14) U (by kernel_rfl) (by kernel_rfl) (wl zNR .h7)<|Eo (by kernel_rfl)<|Lq ?_
     obtain⟨rfl,rfl⟩:=tj b
     let K:Value:=(vs an ((z++([R.1]:List z1)).length) ao);exact Nt V .h4<|fun w' pQ=>⟨(an,ao),U,trivial,(pQ.selAll ((.s5 .h7 .h1 .h1 .h2 .here):Sel _ [fz [],stb n 340 [K],row K 276 2 ((z++([R.1]:List z1)).flatMap wI),stb o 396 [vi R.2.fE],wA q (y .ready none)] _)).sub (.cons .here .nil)⟩
    ·replace b:=qg b Y
     refine Ep<|Lq ?_
     obtain⟨rfl,rfl⟩:=tj b
     exact Nt V .here<|fun w' pQ=>⟨(ak,al),U,trivial,(pQ.selAll ((.s5 .h3 .h3 .h3 .h3 .here):Sel _ F _)).sub (.cons .here .nil)⟩
   ·rintro _ w' ⟨⟨ap,aq⟩,rfl,_,hp⟩
    have uY:=hw1.call ((.cons .here .nil):Sel [wM A,wW j,stb c 338 C,stb d 338 E,fz k] [wM A] [wW j,stb c 338 C,stb d 338 E,fz k]) hp
    let I:Value:=(vs ap m.2.1.length aq);have wQ:Hp _ _ w' [fz [],stb n 340 [I],row I 276 2 (m.2.1.flatMap wI),stb o 396 [vi m.2.2],wA q (y (ka (vY [] m.1)) (vY [] m.1)),wW j,stb c 338 C,stb d 338 E,fz k]:=uY.pickAll .here
    refine⟨_,vY [] m.1,_,U,wQ.sub ((.s9 .h4 .here .here .here .here .here .here .here .here):Sel _ [wA q (y (ka (vY [] m.1)) (vY [] m.1)),fz [],stb n 340 [I],row I 276 2 (m.2.1.flatMap wI),stb o 396 [vi m.2.2],wW j,stb c 338 C,stb d 338 E,fz k] _),?_⟩
    clear hp uY wQ pz hw hw1
    refine wjN ?_
    letI:Rnd:=fO j
    exact WX.merge .here .h6<|Lq<|Nz (D:=fun(g:Nat×Int×List z1×Zp×Option Addr×Nat)=>g.1) (G:=Nat×Int×List z1×Zp×Option Addr×Nat) ⟨j,m.2.2,m.2.1,k++[],ap,aq⟩ ⟨h,(ax.trans<|zl.trans (wg.wG _ _ _))⟩ .q<|.s5 .here .h2 .here .here .here
  ·rintro P v p Q t u ⟨h,a3⟩
   replace h:=(aw v p).symm.trans h
   letI:Rnd:=fO P
   refine Lb<|B0q<|Lf 39 (w7 tO)<|Lf 40 (Ei z8n .h1)<|Q1n U<|Lj h (fun aP h=>?_)<|fun aP h=>?_
   ·cases h
   ·refine Ec<|Lb<|bK h fun aW aQ h=>Le<|Lf 44 (Ei zfo .h2)<|Nu (dd:=45) U (Eh call265) (.cons .h3 .nil) (qB hz (.cons .h3 .nil) .here fun w pz ho=>oP _ _ _ (zx9:=187) (zJe:=[]) _ (zx8:=(fun y0 y1=>kU y0 y1)) _ aQ pz call187 (fun w' nd y0 y1  r  hr=>ms _ _ _ _ hr nd ) ho) ?_
    rintro  aR
    refine Nr (cs':=[vs t aW.length u]) .h3 (by rw[aR])<|Q0n<|Lb<|bK h fun a4 aS h=>Le<|Lf 46 (Ei zfo .here)<|Lm 47 (Eh call266) .nil (uT hz .nil .h2 (.cons .h1 .nil) fun w pz ho la=>ld _ _ _ _ _ aS pz<|ZA.row (la _ (.head _) _) (RR.flat (enc:=wI) (fun _=>U) _) ⟨w,pz.1⟩)<|Q2n U<|El ?_
    obtain rfl:=oJ h
    exact Hd .h4 results249 (.tmp U<|.tmp U .nil)<|fun w hw=>⟨t,u,qq,trivial,hw.sub (.cons .h2 .nil)⟩
def od(b:zb)(c:zb):Option Int:=
 (kU b.fR c.fR).bind fun a=>some a
theorem VT(Z a b r)(h:od a b=some r){Ek}(hz:PZ [] Ek Z):
  RC 268 #[.agg #[vi a.yg.fN,vi a.yg.fD,vi a.fR.fN,vi a.fR.fD],.agg #[vi b.yg.fN,vi b.yg.fD,vi b.fR.fN,vi b.fR.fD]] Ek (vi r) [] []:=by
 unfold od at h
 refine Lz func268 U U<|Lb<|Le (Lh 2 (wu (cs:=[vi a.yg.fN,vi a.yg.fD,vi a.fR.fN,vi a.fR.fD])) fun d _=>Lh 3 (wu (cs:=[vi b.yg.fN,vi b.yg.fD,vi b.fR.fN,vi b.fR.fD])) fun e _=>Q1n U<|Lb ?_)
 exact bK h fun f c h=>Le<|Lf 5 (w7 tN)<|Lf 6 (wX (cs:=[vi a.fR.fN,vi a.fR.fD]) zm<|qW (s:=2) .h1 U)<|Lf 7 (w7 tN)<|Lf 8 (wX (cs:=[vi b.fR.fN,vi b.fR.fD]) zm<|qW (s:=2) .here U)<|Eg call187 hz (ms _ _ _ _ c)<|Q1n U<|El<|oJ h▸Ea results268
def q7(a:List zb)(zfP:zb->zb->Option Int)(c:Option zb):Nat->Int->Option zb
 | 0,_=>none
 | d+1,b=>if decide (b<a.length) then chk (0<=b/\b<a.length) ((zfP (⟨(⟨((nth a b).yg).fN,((nth a b).yg).fD⟩:z1),(⟨((nth a b).fR).fN,((nth a b).fR).fD⟩:z1)⟩:zb) (⟨(⟨((nth a 0).yg).fN,((nth a 0).yg).fD⟩:z1),(⟨((nth a 0).fR).fN,((nth a 0).fR).fD⟩:z1)⟩:zb)).bind fun e=>if decide (e<0) then none else q7 a zfP c d (i64 (b+1))) else c
def kI(a:List zb)(zfP:zb->zb->Option Int):Option zb:=
 if decide ((a.length:Int)<1) then none else chk ((0:Int)<=0/\0<(a.length:Int)) (uo (some (⟨(⟨((nth a 0).yg).fN,((nth a 0).yg).fD⟩:z1),(⟨((nth a 0).fR).fN,((nth a 0).fR).fD⟩:z1)⟩:zb)) fun b=>q7 a zfP b wr 1)
theorem pl(Z i k zsY zE0 a zfP r)(h:kI a zfP=some r){Ek}(hz:PZ [] Ek Z)(m:ZS Z 4 (rq qo) i k a)(o:∀ args w,(callFunc zsY args).run Tryz.prog w = .ok (.enter zsY args) w)(p:∀ w:World,PZ [] w Z->∀(x0:zb) (x1:zb) (r:Int),zfP x0 x1=some r->Calls Tryz.prog zsY (([.agg #[vi x0.yg.fN,vi x0.yg.fD,vi x0.fR.fN,vi x0.fR.fD],.agg #[vi x1.yg.fN,vi x1.yg.fD,vi x1.fR.fN,vi x1.fR.fD]]:List Value)++zE0).toArray w fun e w'=>e = .returned (vi r)/\Hp [] w w' []):
  RC 267 #[vs i a.length k,.func (.func zsY) #[] (zE0).toArray] Ek (.agg #[vi r.yg.fN,vi r.yg.fD,vi r.fR.fN,vi r.fR.fD]) [] []:=by
 unfold kI at h
 refine Lz func267 U U ?_
 let C:List Value:=[vi 0,vi 0,vi 0,vi 0];refine B0q<|Lh 4 (wn (cs:=C) zk0) ?_
 intro d _
 refine Q0n<|Lb<|B1q U<|Lf 8 (wB underlying338)<|Q1n U<|Lj h (fun q h=>?_)<|fun q h=>?_
 ·cases h
 ·refine Ec<|Lb<|cK h fun s h=>D1q U<|L0 (dd:=12) (Z:=Z) (Pr:=(rq qo)) zeq m s ?_
  rintro F G t H rfl
  refine Lf 13 (we z6d (vy hz.pv t)) (Lh 5 (wn (cs:=C) zk0) fun g _=>Ll (wl zk1 .here)<|Q0n ?_)
  obtain⟨n,u,h⟩:=vX h
  let A:List Value:=[vi (((nth a 0).yg).fN),vi (((nth a 0).yg).fD),vi (((nth a 0).fR).fN),vi (((nth a 0).fR).fD)];refine Nh (n=some r) ([(4,vp d),(5,vp g)]) ([stb d 336 C,stb g 336 A]) ?_ ?_
  ·refine B1n U<|WC.block<|Ni (fun c b=>(q7 a zfP n c b=some r)) (fun c b=>[(0,vs i a.length k),(1,.func (.func zsY) #[] (zE0).toArray),(4,vp d),(5,vp g),(6,vi b)]) (fun c b=>[stb d 336 C,stb g 336 A]) (fun c b=>c) ⟨wr,1⟩ h .q (.s2 .h1 .here) ?_
   rintro(_|D) b h;·cases h
   rw[q7] at h
   refine Lb<|B2q U<|Lf 16 (wB underlying338)<|Q1n U<|Lj h (fun v h=>?_)<|fun v h=>?_
   ·refine Ec<|Lb<|WC.block<|Lb<|cK h fun x h=>bK h fun E y h=>Lv nc []<|Lg 0 U q_m<|Lg 1 U q_m<|Lg 2 U q_m<|L8 (j:=3) (dd:=23) (by kernel_rfl) z2W z2X (Z:=Z) (Pr:=(rq qo)) zeq m x ?_
    rintro I J z K rfl
    refine Li 4 U (we z6d (vy hz.pv z))<|Li 5 U (we z6d (wh .h1))<|L5 6 U (wV (l:=[.tmp 24,.tmp 25]) (f:=zsY) (caps:=zE0) o<|.r2 U U) (fun w hw=>p w (hz.now hw) (⟨(⟨((nth a b).yg).fN,((nth a b).yg).fD⟩:z1),(⟨((nth a b).fR).fN,((nth a b).fR).fD⟩:z1)⟩:zb) (⟨(⟨((nth a 0).yg).fN,((nth a 0).yg).fD⟩:z1),(⟨((nth a 0).fR).fN,((nth a 0).fR).fD⟩:z1)⟩:zb) E  y)<|Lg 7 U oW<|Eo (by kernel_rfl)<|Ld<|Lj h (fun B h=>?_)<|fun B h=>?_
    ·cases h
    ·exact Ep<|Lq<|Ld<|D3q U<|WL.nil<|Em ⟨D,i64 (b+1)⟩ h (Nat.lt_succ_self _) .q<|.a2
   ·exact En<|Ln<|Ln<|Lu<|Lp () h .q<|.a2
  ·rintro  h
   replace h:=u.symm.trans h
   exact B0q<|Lf 32 (we z6d (wh .h1))<|Ll (wl zk1 .here)<|Q0n<|El<|oJ h▸Eb results267 (.agg U z6d U (wh .here) .nil) .nil
def dE(a:List zb):Option z1:=
 (t6 a).bind fun b=>if !b then none else(kI a (fun y0 y1=>od y0 y1)).bind fun c=>some c.fR
theorem JA(Z b c a r)(h:dE a=some r){Ek}(hz:PZ [] Ek Z)(d:ZS Z 4 (rq qo) b c a):
  RC 250 #[vs b a.length c] Ek (.tuple #[.agg #[vi r.fN,vi r.fD],vi 0]) [] []:=by
 unfold dE at h
 refine L3 func250 U U<|Lb<|Le (Lh 2 (wn (cs:=[vi 0,vi 0]) z20) fun j _=>Q1n U<|Lb<|Lb ?_)
 refine bK h fun k f h=>D1q U<|Eg call242 hz (fun pz=>oZ _ _ _ _ _ f pz d)<|Q1n U<|Lj h (fun g h=>?_)<|fun g h=>?_
 ·cases h
 ·exact Ec<|Lb<|bK h fun e i h=>D1q U<|Eg call267 hz (fun pz=>pl _ _ _ (zsY:=268) (zE0:=[]) _ (zfP:=(fun y0 y1=>od y0 y1)) _ i pz d call268<|fun w' nd y0 y1  r  hr=>VT _ _ _ _ hr nd)<|Lf 10 (Fs (cs':=#[vi e.fR.fN,vi e.fR.fD]) KP zm U U)<|Ll (wl z1t .here)<|Q1n U<|El<|oJ h▸Eb results250 (.agg U zm U (wh .here)<|.tmp U .nil) .nil
def mw(a:yk)(d:z1)(e:z1):Option (z1×yk):=
 if decide (a.fE≠0) then(kE).bind fun b=>some (b,a) else(hK d e).bind fun c=>some (c,(⟨0⟩:yk))
theorem pF(Z a d b c r)(h:mw d b c=some r){Ek}(hz:Pz [stb a 371 [vi d.fE]] Ek Z)(iA:Ho Ek [stb a 371 [vi d.fE]]):
  RF 181 #[vp a,.func (.func 177) #[] #[],.agg #[vi b.fN,vi b.fD],.agg #[vi c.fN,vi c.fD]] Ek (.agg #[vi r.1.fN,vi r.1.fD]) [stb a 371 [vi d.fE]] [stb a 371 [vi r.2.fE]]:=by
 unfold mw at h
 refine Et func181 U iA U<|Lb<|Le (Lh 6 (wu (cs:=[vi b.fN,vi b.fD])) fun i _=>Lh 7 (wu (cs:=[vi c.fN,vi c.fD])) fun j _=>Lh 8 (wn (cs:=[vi 0,vi 0]) z20) fun k _=>Q0n<|Lb<|B1q U<|Lf 12 wz<|Lf 13 (w7 mU)<|Lf 14 (Ei z8n .h3)<|Q1n U<|Lj h (fun e h=>?_)<|fun e h=>?_)
 ·exact Lb<|bK h fun m f h=>Le<|Eg call215 hz (fh _ _ f)<|Ll (wl z1t .here)<|Q0n<|El<|L4<|oJ h▸Eb results181 (.agg U zm U (wh .here) .nil) (.cons .h3 .nil)
 ·refine Ec<|Lb<|bK h fun n g h=>D1q U<|Lf 19 (we zm (wh .h2))<|Lf 20 (we zm (wh .h1))<|Lm 21 (wV (l:=[.tmp 19,.tmp 20]) call177<|.r2 U U) .nil (cc hz .nil fun w pz ho=>X1 _ _ _ _ g pz )<|Q2q U<|La U (Lh 9 (wn (cs:=[vi 0,vi 0]) z20) fun o _=>Ll (wl z1t .here)<|Q1n U<|Lb<|B2q U<|Lf 26 wz<|Lf 27 (w7 mU)<|Ll (wl zfn .h4)<|Q0n<|B1q U<|Lf 29 kj<|Q0n<|Er (fun h'=>(by cases h'))<|fun h'=>?_)
  clear h'
  exact Ec<|B0q<|Lf 31 (we zm (wh .h1))<|Ll (wl z1t .h2)<|Q0n<|El<|oJ h▸Eb results181 (.agg U zm U (wh .here) .nil) (.cons .h1 .nil)
def kg(b:List (List zb))(d:Int->Int->Int->Option Int):Nat->Int->Int->Int->Int->Option Int
 | 0,_,_,_,_=>none
 | i+1,a,e,f,g=>if decide (a<b.length) then chk (0<=a/\a<b.length) ((ss (nth b a)).bind fun j=>(dE (nth b a)).bind fun h=>(mw (⟨e⟩:yk) (⟨f,g⟩:z1) h).bind fun c=>kg b d i (i64 (a+1)) c.2.fE c.1.fN c.1.fD) else d e f g
def m4(a:List (List zb))(b:yy)(n:List (List zb))(o:yy)(p:List z1):Option Int:=
 (if decide ((a.length:Int)>32) then some true else(jH a (fun y0=>f5 y0)).bind fun m=>some false).bind fun g=>(if g then some true else(l9 b).bind fun e=>some (!e)).bind fun h=>if h then none else(kE).bind fun c=>Q5 (fun(d:Int) (i:Int) (j:Int)=>(if decide (d=0) then(kU (⟨i,j⟩:z1) b.fR).bind fun f=>some (decide (f>0)) else some false).bind fun k=>if k then none else some d) fun l=>kg a l wr 0 0 c.fN c.fD
theorem oA(Z x y z I J D E F g a G l q r)(h:m4 g a G l q=some r){Ek}(hz:PZ [] Ek Z)(K:ZS Z 1 (qZ Z) x y g)(ao:ZS Z 1 (qZ Z) I J G)(ap:ZC Z z [vs I G.length J])(aq:ZC Z D [vi l.fR.fN,vi l.fR.fD,vi l.fL.fN,vi l.fL.fD])(ar:ZS Z 2 (rq wI) E F q):
  RC 217 #[.agg #[vs x g.length y,vi a.fR.fN,vi a.fR.fD,vi a.fL.fN,vi a.fL.fD,.func (.func f) #[] #[vq z,vq D],vs E q.length F]] Ek (vi r) [] []:=by
 unfold m4 at h
 refine L3 func217 U U ?_
 let C:Value:=(vs x g.length y);let A:List Value:=[C,vi a.fR.fN,vi a.fR.fD,vi a.fL.fN,vi a.fL.fD,.func (.func f) #[] #[vq z,vq D],vs E q.length F];refine B0q<|Lh 1 (wu (cs:=A)) ?_
 intro t _
 refine Q1n U<|Lb<|Lb<|bK h fun ak L h=>bK h fun al M h=>Le<|Lf 11 (w7 dm)<|Lf 12 (Ei zk2 .here)<|Lf 13 (wB underlying272)<|Q2q U<|Lx false 3 15 (B:=ak) (fun h=>(oJ<|qf L h).symm) (fun _ R=>?_) ?_
 ·have m:=qg L R
  obtain⟨au,S,m⟩:=z2 m
  replace m:=oJ m
  exact Lf 16 (w7 dm)<|Lf 17 (Ei zk2 .here)<|Eg call246 hz (fun pz=>sP _ _ _ (zwP:=247) (zIX:=[]) _ (zwO:=(fun y0=>f5 y0)) _ S pz K call247<|fun w' nd y0 ga0 gc0 r By hr=>bL _ _ _ _ _ hr nd By)<|La U<|Ly m U .all
 refine La U<|Lx false 4 20 (B:=al) (fun h=>(oJ<|qf M h).symm) (fun _ T=>?_) ?_
 ·have n:=qg M T
  obtain⟨av,V,n⟩:=z2 n
  replace n:=oJ n
  exact Lf 21 (w7 Jm)<|Lf 22 (wX (cs:=[vi a.fR.fN,vi a.fR.fD,vi a.fL.fN,vi a.fL.fD]) zCu<|qW (s:=4) .here U)<|Eg call248 hz (Wl _ _ _ V)<|Q2q U<|Ly n U .all
 refine Q0n<|Lj h (fun W h=>?_)<|fun W h=>?_
 ·cases h
 ·refine Ec<|Lb<|Le (Lh 3 (wn (cs:=[vi 0]) zNP) fun u _=>Q0n<|Lb ?_)
  refine bK h fun P X h=>Le<|Eg call215 hz (fh _ _ X) (Lh 4 (wn (cs:=[vi 0,vi 0]) z20) fun v _=>Ll (wl z1t .here)<|Q0n ?_)
  refine jK3 h fun Q Y h=>Nf (fun i j k=>(Q i j k=some r)) (fun i j k=>[(1,vp t),(3,vp u),(4,vp v)]) (fun i j k=>[stb t 342 A,stb u 371 [vi i],stb v 276 [vi j,vi k]]) ?_ ?_
  ·refine B0q<|Lf 27 (w7 dm)<|Lf 28 (Ei zk2 .h2)<|Lf 29 (wB underlying272)<|Q1n U<|WC.block<|E6 (fun o b c d e=>(kg g Q o b c d e=some r)) (fun o b c d e=>[(1,vp t),(3,vp u),(4,vp v),(28,C),(29,vi (g.length:Int)),(30,vi b)]) (fun o b c d e=>[stb t 342 A,stb u 371 [vi c],stb v 276 [vi d,vi e]]) (fun o b c d e=>o) ⟨wr,0,0,P.fN,P.fD⟩ h .q (.s3 .h2 .h1 .here) ?_
   rintro(_|am) b c d e h;·cases h
   rw[kg] at h
   refine B1n U<|Lb<|Lj h (fun aa h=>?_)<|fun aa h=>?_
   ·refine Ec<|Lb<|WC.block<|Lb<|cK h fun ab h=>Le<|L0 (dd:=32) (Z:=Z) (Pr:=(qZ Z)) zgX K ab ?_
    rintro aw ax ad ay ⟨az,aA,rfl,N⟩
    refine Lf 33 (w8 zrJ U<|vx hz.pv ad)<|Q1n U<|Lb<|Lb<|bK h fun aB ae h=>D1q U<|L7 (dd:=36) U (Eh call249) .nil (cc hz .nil fun w pz ho=>cB _ _ _ _ _ ae pz N) ?_
    rintro aC aD _
    refine Q5n U<|B1q U<|Lf 40 kj<|Q0n<|Er (fun h'=>(by cases h'))<|fun h'=>?_
    clear h'
    refine Ec<|Lb<|bK h fun aE af h=>D1q U<|Eg call250 hz (fun pz=>JA _ _ _ _ _ af pz N)<|Q2q U<|La U (Lh 9 (wn (cs:=[vi 0,vi 0]) z20) fun aF _=>Ll (wl z1t .here)<|Q1n U ?_)
    exact bK h fun H ag h=>Le<|Lf 47 (we zm (wh .h4))<|Lf 48 (we zm (wh .here))<|Lm 49 (Eh call181) (.cons .h3 .nil) (cc hz (.cons .h3 .nil) fun w pz ho=>pF _ _ _ _ _ _ ag pz  ho)<|Ll (wl z1t .h4)<|WL.nil<|Lq<|Ld<|D2q U<|WL.nil<|Em ⟨am,i64 (b+1),H.2.fE,H.1.fN,H.1.fD⟩ h (Nat.lt_succ_self _) .q<|.s3 .h4 .h1 .here
   ·exact En<|Ln<|Ln<|Lu<|Lp ⟨c,d,e⟩ h .q<|.a3
  ·rintro i j k h
   replace h:=(Y i j k).symm.trans h
   refine Lb<|Lb<|bK h fun an O h=>Le<|Lf 51 (w7 mU)<|Lf 52 (Ei z8n .h1)<|Q2q U<|Lx true 6 54 (B:=an) (fun h=>(oJ<|qg O h).symm) (fun _ ah=>?_) ?_
   ·have p:=qf O ah
    obtain⟨aG,ai,p⟩:=z2 p
    replace p:=oJ p
    exact Lf 55 (we zm (wh .h2))<|Lf 56 (w7 Jm)<|Lf 57 (w7 aK)<|Lf 58 (wX (cs:=[vi a.fR.fN,vi a.fR.fD]) zm<|qW (s:=2) .here U)<|Eg call187 hz (ms _ _ _ _ ai)<|Q2q U<|Ly p U .all
   refine Q0n<|Lj h (fun aj h=>?_)<|fun aj h=>?_
   ·cases h
   ·exact Ec<|B0q<|Lf 62 (w7 mU)<|Lf 63 (Ei z8n .h1)<|Q1n U<|El<|oJ h▸Ea results217
def fi(b:List (List zb))(a:yy)(c:List (List zb))(d:yy)(e:List z1):Option (Int×Int×Int×Int):=
 some (a.fR.fN,a.fR.fD,a.fL.fN,a.fL.fD)
theorem pG(Z g i j p q k m n b a o c d r)(h:fi b a o c d=some r){Ek}(hz:PZ [] Ek Z)(u:ZS Z 1 (qZ Z) g i b)(v:ZS Z 1 (qZ Z) p q o)(x:ZC Z j [vs p o.length q])(y:ZC Z k [vi c.fR.fN,vi c.fR.fD,vi c.fL.fN,vi c.fL.fD])(z:ZS Z 2 (rq wI) m n d):
  Calls Tryz.prog 218 #[.agg #[vs g b.length i,vi a.fR.fN,vi a.fR.fD,vi a.fL.fN,vi a.fL.fD,.func (.func f) #[] #[vq j,vq k],vs m d.length n]] Ek fun e w'=>∃ s:Nat,e = .returned (.func (.func 251) #[] #[vp s])/\True/\Hp [] Ek w' [stb s 342 [vs g b.length i,vi r.1,vi r.2.1,vi r.2.2.1,vi r.2.2.2,.func (.func f) #[] #[vq j,vq k],vs m d.length n]]:=by
 unfold fi at h
 refine L3 func218 U U<|Lb<|Le (Lh 1 (wu (cs:=[vs g b.length i,vi a.fR.fN,vi a.fR.fD,vi a.fL.fN,vi a.fL.fD,.func (.func f) #[] #[vq j,vq k],vs m d.length n])) fun t _=>Q1n U<|B0q<|Lf 3 (wO<|L6 (l:=[.tmp 1])<|.cons U .nil)<|Q1n U<|El ?_)
 exact oJ h▸Lk results218 (.tmp U .nil) fun w hw=>⟨t,wx,trivial,hw.sub (.cons .here .nil)⟩
def uu(a:z1):Option Int:=
 (qP a).bind fun b=>if !b then none else chk ((a.fD:Int)≠0) (chk ((a.fD:Int)≠0) (if decide ((Int.tmod a.fN a.fD)<0) then none else some (i64 (Int.tdiv a.fN a.fD))))
theorem rF(Z a r)(h:uu a=some r){Ek}(hz:PZ [] Ek Z):
  RC 136 #[.agg #[vi a.fN,vi a.fD]] Ek (vi r) [] []:=by
 unfold uu at h
 refine L3 func136 U U<|Lb<|Le (Lh 1 (wu (cs:=[vi a.fN,vi a.fD])) fun g _=>Q1n U<|Lb<|Lb ?_)
 refine bK h fun i b h=>Le<|Lf 4 (we zm (wh .here))<|Eg call188 hz (je _ _ _ b)<|Q1n U<|Lj h (fun c h=>?_)<|fun c h=>?_
 ·cases h
 ·refine Ec<|Lb<|cK h fun d h=>Le<|Lf 7 (w7 jv)<|Lf 8 (Ei wm .here)<|Lf 9 (w7 ju)<|Lf 10 (Ei wm .here)<|Lf 11 (cM d)<|Q1n U<|Lb<|Lb<|cK h fun e h=>Le<|Lf 12 (w7 jv)<|Lf 13 (Ei wm .here)<|Lf 14 (w7 ju)<|Lf 15 (Ei wm .here)<|Lf 16 (et e)<|Q1n U<|Lj h (fun f h=>?_)<|fun f h=>?_
  ·cases h
  ·exact Ec<|B2n U<|El<|oJ h▸Ea results136
def iq(a:z1):Option Int:=
 (qP a).bind fun b=>if !b then none else(uu (⟨i64 (0-a.fN),a.fD⟩:z1)).bind fun c=>some (i64 (0-c))
theorem aW(Z a r)(h:iq a=some r){Ek}(hz:PZ [] Ek Z):
  RC 252 #[.agg #[vi a.fN,vi a.fD]] Ek (vi r) [] []:=by
 unfold iq at h
 refine L3 func252 U U<|Lb<|Le (Lh 1 (wu (cs:=[vi a.fN,vi a.fD])) fun e _=>Q1n U<|Lb<|Lb ?_)
 refine bK h fun f b h=>Le<|Lf 3 (we zm (wh .here))<|Eg call188 hz (je _ _ _ b)<|Q1n U<|Lj h (fun c h=>?_)<|fun c h=>?_
 ·cases h
 ·exact Ec<|Lb<|bK h fun g d h=>Le<|Lf 6 (w7 jv)<|Lf 7 (Ei wm .here)<|Lf 8 (Kz U U)<|Lf 9 (w7 ju)<|Lf 10 (Ei wm .here)<|Lf 11 (wN (v:=(.agg #[(vi<|i64 (0-a.fN)),vi a.fD])) (Lt (l:=[.tmp 8,.tmp 10]) (.r2 U U) [0,1]) (fun _=>by kernel_rfl))<|Eg call136 hz (rF _ _ _ d)<|Lf 13 (Kz U U)<|Q1n U<|El<|oJ h▸Ea results252
def ji(z1C:Type)(b:List z1)(z8y:z1->z1C->Option (Bool×z1C))(d:z1C->Option z1C):Nat->Int->z1C->Option z1C
 | 0,_,_=>none
 | j+1,a,e=>if decide (a<b.length) then chk (0<=a/\a<b.length) ((uu (⟨(nth b a).fN,(nth b a).fD⟩:z1)).bind fun h=>(jZ h).bind fun k=>(z8y k e).bind fun c=>(if !c.1 then some (true,c.2) else(iq (⟨(nth b a).fN,(nth b a).fD⟩:z1)).bind fun i=>(jZ i).bind fun l=>(z8y l c.2).bind fun f=>some (!f.1,f.2)).bind fun g=>if g.1 then none else ji z1C b z8y d j (i64 (a+1)) g.2) else d e
def jj(z1C:Type)(z65:List (List zb))(z8y:z1->z1C->Option (Bool×z1C))(b:z1C->Option z1C):Nat->Int->z1C->Option z1C
 | 0,_,_=>none
 | d+1,a,c=>if decide (a<z65.length) then vC (fun(e:z1C)=>jj z1C z65 z8y b d (i64 (a+1)) e) fun f=>chk (0<=a/\a<z65.length) ((ss (nth z65 a)).bind fun g=>vC (fun h=>f h) fun i=>ji z1C g z8y i wr 0 c) else b c
def kM(z1C:Type)(zdL:List z1)(a:Option z1C):Nat->Option z1C
 | 0=>none
 | b+1=>if decide (0<(zdL.length:Int)) then none else a
def mW(z1C:Type)(z8y:z1->z1C->Option (Bool×z1C))(zeG:z1C)(z65:List (List zb))(zt4:yy)(zEa:List (List zb))(zt5:yy)(zdL:List z1):Option z1C:=
 (kE).bind fun b=>(z8y b zeG).bind fun a=>if !a.1 then none else vC (fun(c:z1C)=>uo (some c) fun d=>kM z1C zdL d wr) fun e=>jj z1C z65 z8y e wr 0 a.2
theorem bu(Z)(z1C:Type)(zho)(zcV:Type)(z7n)(zhp:zcV->z1C->Prop)(zl2 zl3 zpf zpg zS0 zS1 zS2 zS3 zJy zJz z8y zeG z65 zt4 zEa zt5 zdL r){Ek}(hz:Pz [z7n zl2 zeG] Ek Z)(O:cU Tryz.prog Z zho (α:=z1) (σ:=z1C) (G:=zcV) (H:=Unit) (fun h x=>[.agg #[vi x.fN,vi x.fD]]) (fun h x=>[]) z8y z7n zhp)(ah:zhp zl2 zeG)(ai:ZS Z 1 (qZ Z) zpf zpg z65)(aY:ZS Z 1 (qZ Z) zS1 zS2 zEa)(aZ:ZC Z zS0 [vs zS1 zEa.length zS2])(a0:ZC Z zS3 [vi zt5.fR.fN,vi zt5.fR.fD,vi zt5.fL.fN,vi zt5.fL.fD])(a1:ZS Z 2 (rq wI) zJy zJz zdL)(R:ZC Z zl3 [vs zpf z65.length zpg,vi zt4.fR.fN,vi zt4.fR.fD,vi zt4.fL.fN,vi zt4.fL.fD,.func (.func 180) #[] #[vq zS0,vq zS3],vs zJy zdL.length zJz])(h:mW z1C z8y zeG z65 zt4 zEa zt5 zdL=some r)(iA:Ho Ek [z7n zl2 zeG]):
  Calls Tryz.prog 251 #[.func (.yield zho) #[] #[],vq zl3] Ek fun e w'=>∃ S:zcV,e = .returned (.tuple #[])/\(zhp S r)/\Hp (fps [z7n zl2 zeG]) Ek w' [z7n S r]:=by
 unfold mW at h
 refine Nk func251 U iA U<|Lb<|Lb<|bK h fun aR aj h=>bK h fun P ak h=>D1q U<|Eg call215 hz (fh _ _ aj) (E1 (dd:=13) (x:=aR) (h:=()) (g:=zl2) (s:=zeG) (b:=P.1) (s':=P.2) O U (.cons U .nil) ((.cons .here .nil):Sel _ [z7n zl2 zeG] _) ak ah (fun w hw=>hz.call hw ((.cons .here .nil):Sel _ [z7n zl2 zeG] _)) fun al am=>Q1n U<|Lj h (fun an h=>?_)<|fun an h=>?_)
 ·cases h
 ·refine Ec ?_
  obtain⟨ab,ao,h⟩:=wE h
  let A:Value:=(.func (.yield zho) #[] #[]);refine Nv (fun k o=>(ab k=some r)/\(zhp o k)) (fun k o=>[(0,A),(1,vq zl3)]) (fun k o=>[z7n o k]) ?_ ?_
  ·let C:Value:=(vs zpf z65.length zpg);let D:Value:=(vi (z65.length:Int));refine B0q<|Lf 15 (w7 dm)<|Lf 16 (w8 zk2 U<|wP hz.pv R)<|Lf 17 (wB underlying272)<|Q1n U<|WC.block<|E9 (fun u c m p=>(jj z1C z65 z8y ab u c m=some r)/\(zhp p m)) (fun u c m p=>[(0,A),(1,vq zl3),(16,C),(17,D),(18,vi c)]) (fun u c m p=>[z7n p m]) (fun u c m p=>u) ⟨wr,0,P.2,al⟩ ⟨h,am⟩ .q (.cons .here .nil) ?_
   rintro (_|aS) c m p ⟨h,T⟩;·cases h
   rw[jj] at h
   refine B1n U<|Lb<|Lj h (fun ap h=>?_)<|fun ap h=>?_
   ·refine Ec<|jK1 h fun aT aq h=>Nv (fun q v=>(aT q=some r)/\(zhp v q)) (fun q v=>[(0,A),(1,vq zl3),(16,C),(17,D),(18,vi c)]) (fun q v=>[z7n v q]) ?_ ?_
    ·refine WC.block<|Lb<|cK h fun ar h=>Le<|L0 (dd:=20) (Z:=Z) (Pr:=(qZ Z)) zgX ai ar ?_
     rintro a2 a3 au a4 ⟨a5,a6,rfl,av⟩
     refine Lf 21 (w8 zrJ U<|vx hz.pv au)<|Q1n U<|Lb<|bK h fun f aw h=>D1q U<|L7 (dd:=24) U (Eh call249) .nil (cc hz .nil fun w pz ho=>cB _ _ _ _ _ aw pz av) ?_
     rintro ax ad _
     refine Q5n U<|B1q U<|Lf 28 (wB underlying340)<|Q1n U<|jK1 h fun ae ay h=>N3 (fun t y=>(ae t=some r)/\(zhp y t)) (fun t y=>[(0,A),(1,vq zl3),(16,C),(17,D),(18,vi c)]) (fun t y=>[z7n y t]) ?_ ?_
     ·let F:Value:=(vs ax f.length ad);let I:Value:=(vi (f.length:Int));refine WC.block<|E9 (fun z a d j=>(ji z1C f z8y ae z a d=some r)/\(zhp j d)) (fun z a d j=>[(0,A),(1,vq zl3),(16,C),(17,D),(18,vi c),(27,F),(28,I),(29,vi a)]) (fun z a d j=>[row F 276 2 (f.flatMap wI),z7n j d]) (fun z a d j=>z) ⟨wr,0,m,p⟩ ⟨h,T⟩ .q .a2 ?_
      rintro (_|aU) a d j ⟨h,V⟩;·cases h
      rw[ji] at h
      refine B1n U<|Lb<|Lj h (fun az h=>?_)<|fun az h=>?_
      ·refine Ec<|Lb<|WC.block<|Lb<|cK h fun K h=>Le<|Es (fun w hw=>Hp.vr .here hw (by intro nd;have:=K;rw[nd] at this;omega)) ?_
       rintro⟨aA,rfl⟩
       refine Lf 31 (wL za4 K.1 K.2 vB)<|Lf 32 (wX (cs:=(wI<|nth f a)) zm<|gV .here<|qm (enc:=wI) (l:=f) (i:=a) (sz:=2) (fun _=>U) K.1 K.2) (Lh 8 (wn (cs:=[vi 0,vi 0]) z20) fun aB _=>Ll (wl z1t .here)<|Q0n<|Lb ?_)
       refine bK h fun a7 aC h=>bK h fun aV aD h=>bK h fun B aE h=>bK h fun M W h=>D1q U<|Lf 34 (we zm (wh .here))<|Eg call136 hz (rF _ _ _ aC)<|Eg call241 hz (gO _ _ _ aD)<|E1 (dd:=37) (x:=aV) (h:=()) (g:=j) (s:=d) (b:=B.1) (s':=B.2) O U (.cons U .nil) ((.cons .h2 .nil):Sel _ [z7n j d] _) aE V (fun w hw=>hz.call hw ((.cons .h2 .nil):Sel _ [z7n j d] _)) ?_
       intro N X
       let E:Value:=(vs (some ⟨aA,0,none⟩) f.length ad);refine Q2q U<|Da (fun J=>zhp J M.2) (fun J=>[(0,A),(1,vq zl3),(16,C),(17,D),(18,vi c),(27,E),(28,I),(29,vi a),(46,.bool M.1)]) (fun J=>[z7n J M.2,stb aB 276 [(vi<|(nth f a).fN),(vi<|(nth f a).fD)],row E 276 2 (f.flatMap wI)]) 7 ?_<|fun J aF=>?_
       ·rcases Bool.eq_false_or_eq_true (!B.1) with hb' | hb'
        ·have Y:=hb';clear hb'
         have Q:=qf W Y
         replace Q:=oJ Q
         refine N6 (i:=39) U Y<|E5 U U<|E5 U U<|E5 U U<|E5 U U<|E5 U U<|E5 U U<|La U ?_
         subst Q
         exact Hf N X .q<|.a3
        ·have aa:=hb';clear hb'
         have n:=qg W aa
         obtain⟨a8,aG,n⟩:=z2 n
         obtain⟨aX,aH,n⟩:=z2 n
         obtain⟨af,aI,n⟩:=z2 n
         replace n:=oJ n
         refine N6 (i:=39) U aa<|La U<|Lf 41 (we zm (wh .h1))<|Eg call252 hz (aW _ _ _ aG)<|Eg call241 hz (gO _ _ _ aH) (E1 (dd:=44) (x:=aX) (h:=()) (g:=N) (s:=B.2) (b:=af.1) (s':=af.2) O U (.cons U .nil) ((.cons .here .nil):Sel _ [z7n N B.2] _) aI X (fun w hw=>hz.call hw ((.cons .here .nil):Sel _ [z7n N B.2] _)) fun aJ aK=>La U<|La U ?_)
         subst n
         exact Hf aJ aK .q<|.a3
       ·refine Q0n<|Lj h (fun aL h=>?_)<|fun aL h=>?_
        ·cases h
        ·exact Ep<|Lq<|Ld<|D2q U<|WL.nil<|Em ⟨aU,i64 (a+1),M.2,J⟩ ⟨h,aF⟩ (Nat.lt_succ_self _) .q<|.s2 .h2 .here
      ·exact En<|Ln<|Ln<|Lu<|Lp ⟨d,j⟩ ⟨h,V⟩ .q<|.cons .h1 .nil
     ·rintro t y ⟨h,aM⟩
      replace h:=(ay t).symm.trans h
      exact Lq<|Lp ⟨t,y⟩ ⟨h,aM⟩ .q<|.cons .here .nil
    ·rintro q v ⟨h,aN⟩
     replace h:=(aq q).symm.trans h
     exact D2q U<|WL.nil<|Em ⟨aS,i64 (c+1),q,v⟩ ⟨h,aN⟩ (Nat.lt_succ_self _) .q<|.cons .here .nil
   ·exact En<|Ln<|Ln<|Lu<|Lp ⟨m,p⟩ ⟨h,T⟩ .q<|.cons .here .nil
  ·rintro k o ⟨h,aO⟩
   replace h:=(ao k).symm.trans h
   refine B0q<|Lf 49 (w7 Jn)<|Lf 50 (w8 zfo U<|wP hz.pv R)<|Lf 51 (wB underlying340)<|Q1n U<|jK0 h fun ag aP h=>H3 (ag=some r) ([]) ([z7n o k]) ?_ ?_
   ·refine WC.block<|N2 (fun L=>(kM z1C zdL ag L=some r)) (fun L=>[(0,A),(50,vs zJy zdL.length zJz),(51,vi (zdL.length:Int)),(52,vi 0)]) (fun L=>[z7n o k]) (fun L=>L) wr h .q (.cons .here .nil) ?_
    rintro(_|a9) h;·cases h
    rw[kM] at h
    refine B1n U<|Lb<|Lj h (fun aQ h=>?_)<|fun aQ h=>?_
    ·cases h
    ·exact En<|Ln<|Ln<|Lu<|Lp () h .nil<|.cons .here .nil
   ·rintro  h
    replace h:=aP.symm.trans h
    exact oJ h▸Nj results251 .nil fun w hw=>⟨o,ui,aO,hw.sub (.cons .here .nil)⟩
def lf(a:yk)(c:z1)(d:z1):Option (z1×yk):=
 if decide (a.fE≠0) then some ((⟨0,0⟩:z1),a) else(eH c d).bind fun b=>some (b,(⟨0⟩:yk))
theorem Wn(Z a d b c r)(h:lf d b c=some r){Ek}(hz:Pz [stb a 396 [vi d.fE]] Ek Z)(iA:Ho Ek [stb a 396 [vi d.fE]]):
  RF 261 #[vp a,.func (.func 178) #[] #[],.agg #[vi b.fN,vi b.fD],.agg #[vi c.fN,vi c.fD]] Ek (.agg #[vi r.1.fN,vi r.1.fD]) [stb a 396 [vi d.fE]] [stb a 396 [vi r.2.fE]]:=by
 unfold lf at h
 refine Et func261 U iA U<|Lb<|Le (Lh 6 (wu (cs:=[vi b.fN,vi b.fD])) fun g _=>Lh 7 (wu (cs:=[vi c.fN,vi c.fD])) fun i _=>Lh 8 (wn (cs:=[vi 0,vi 0]) z20) fun j _=>Q0n<|Lb<|B1q U<|Lf 12 wz<|Lf 13 (w7 tO)<|Lf 14 (Ei z8n .h3)<|Q1n U<|Lj h (fun e h=>?_)<|fun e h=>?_)
 ·exact B0q<|Lf 16 (wN (v:=(.agg #[vi 0,vi 0])) (Lt (l:=[]) .nil []) (fun _=>by kernel_rfl))<|Ll (wl z1t .here)<|Q0n<|El<|L4<|oJ h▸Eb results261 (.agg U zm U (wh .here) .nil) (.cons .h3 .nil)
 ·refine Ec<|Lb<|bK h fun k f h=>D1q U<|Lf 19 (we zm (wh .h2))<|Lf 20 (we zm (wh .h1))<|Lm 21 (wV (l:=[.tmp 19,.tmp 20]) call178<|.r2 U U) .nil (cc hz .nil fun w pz ho=>Qg _ _ _ _ f pz )<|Q2q U<|La U (Lh 9 (wn (cs:=[vi 0,vi 0]) z20) fun m _=>Ll (wl z1t .here)<|Q1n U<|B2q U<|Lf 26 wz<|Lf 27 (w7 tO)<|Ll (wl zfn .h4)<|Q0n<|B0q<|Lf 28 (we zm (wh .h1))<|Ll (wl z1t .h2)<|Q0n<|El ?_)
  exact oJ h▸Eb results261 (.agg U zm U (wh .here) .nil) (.cons .h1 .nil)
def lh(a:yk)(c:z1)(d:z1):Option (z1×yk):=
 if decide (a.fE≠0) then some ((⟨0,0⟩:z1),a) else(hK c d).bind fun b=>some (b,(⟨0⟩:yk))
theorem Wo(Z a d b c r)(h:lh d b c=some r){Ek}(hz:Pz [stb a 396 [vi d.fE]] Ek Z)(iA:Ho Ek [stb a 396 [vi d.fE]]):
  RF 261 #[vp a,.func (.func 177) #[] #[],.agg #[vi b.fN,vi b.fD],.agg #[vi c.fN,vi c.fD]] Ek (.agg #[vi r.1.fN,vi r.1.fD]) [stb a 396 [vi d.fE]] [stb a 396 [vi r.2.fE]]:=by
 unfold lh at h
 refine Et func261 U iA U<|Lb<|Le (Lh 6 (wu (cs:=[vi b.fN,vi b.fD])) fun g _=>Lh 7 (wu (cs:=[vi c.fN,vi c.fD])) fun i _=>Lh 8 (wn (cs:=[vi 0,vi 0]) z20) fun j _=>Q0n<|Lb<|B1q U<|Lf 12 wz<|Lf 13 (w7 tO)<|Lf 14 (Ei z8n .h3)<|Q1n U<|Lj h (fun e h=>?_)<|fun e h=>?_)
 ·exact B0q<|Lf 16 (wN (v:=(.agg #[vi 0,vi 0])) (Lt (l:=[]) .nil []) (fun _=>by kernel_rfl))<|Ll (wl z1t .here)<|Q0n<|El<|L4<|oJ h▸Eb results261 (.agg U zm U (wh .here) .nil) (.cons .h3 .nil)
 ·refine Ec<|Lb<|bK h fun k f h=>D1q U<|Lf 19 (we zm (wh .h2))<|Lf 20 (we zm (wh .h1))<|Lm 21 (wV (l:=[.tmp 19,.tmp 20]) call177<|.r2 U U) .nil (cc hz .nil fun w pz ho=>X1 _ _ _ _ f pz )<|Q2q U<|La U (Lh 9 (wn (cs:=[vi 0,vi 0]) z20) fun m _=>Ll (wl z1t .here)<|Q1n U<|B2q U<|Lf 26 wz<|Lf 27 (w7 tO)<|Ll (wl zfn .h4)<|Q0n<|B0q<|Lf 28 (we zm (wh .h1))<|Ll (wl z1t .h2)<|Q0n<|El ?_)
  exact oJ h▸Eb results261 (.agg U zm U (wh .here) .nil) (.cons .h1 .nil)
def pH(d:yk)(a:zb)(e:z1):Option (z1×yk):=
 (lf d a.fR e).bind fun b=>(lh b.2 a.yg b.1).bind fun c=>some (c.1,c.2)
theorem X4(Z b d a c r)(h:pH d a c=some r){Ek}(hz:Pz [stb b 396 [vi d.fE]] Ek Z)(iA:Ho Ek [stb b 396 [vi d.fE]]):
  RF 244 #[vp b,.agg #[vi a.yg.fN,vi a.yg.fD,vi a.fR.fN,vi a.fR.fD],.agg #[vi c.fN,vi c.fD]] Ek (.agg #[vi r.1.fN,vi r.1.fD]) [stb b 396 [vi d.fE]] [stb b 396 [vi r.2.fE]]:=by
 unfold pH at h
 refine Ey func244 U iA U<|Lb<|Le (Lh 4 (wu (cs:=[vi a.yg.fN,vi a.yg.fD,vi a.fR.fN,vi a.fR.fD])) fun e _=>Lh 5 (wu (cs:=[vi c.fN,vi c.fD])) fun j _=>Lh 6 (wn (cs:=[vi 0,vi 0]) z20) fun k _=>Q0n<|Lb ?_)
 refine bK h fun l f h=>bK h fun m g h=>Lv (fun i=>[7,8,9].contains i) [pp e 336 [(0,vi a.yg.fN),(1,vi a.yg.fD)]]<|Lg 0 U q_m<|Lg 1 U (w7 mT)<|Na 2 U (wS.wk (.cons .h2 .nil)<|.stb (.cons U<|.cons U .nil) .nil) (wX (cs:=[vi a.yg.fN,vi a.yg.fD]) zm<|aF .here (.head _)<|(.tail _<|.head _))<|Lg 3 U q_m<|Lg 4 U (w7 tN)<|Li 5 U (wX (cs:=[vi a.fR.fN,vi a.fR.fD]) zm<|qW (s:=2) .h2 U)<|Li 6 U (we zm (wh .h1)) (WD.call0 (i:=7) (dd:=14) U (by kernel_rfl) U (.inl ⟨U,(wS.wk (.cons .h3 .nil)<|.stb (.cons U<|.cons U .nil) .nil)⟩) (Eh call261) (.cons .h3 .nil) (cc hz (.cons .h3 .nil) fun w pz ho=>Calls.mono (Wn _ _ _ _ _ _ f pz  ho)<|fun _ _ h'=>⟨h'.1,trivial,h'.2⟩) fun _=>WD.call0 (i:=8) (dd:=15) U (by kernel_rfl) U (.inl ⟨U,(wS.wk (.cons .h3 .nil)<|.stb (.cons U<|.cons U .nil) .nil)⟩) (Eh call261) (.cons .here .nil) (cc hz (.cons .here .nil) fun w pz ho=>Calls.mono (Wo _ _ _ _ _ _ g pz  ho)<|fun _ _ h'=>⟨h'.1,trivial,h'.2⟩) fun _=>Nb (i:=9) U (by kernel_rfl) (by kernel_rfl) (wl z1t .h1)<|Eo (by kernel_rfl)<|Ld<|El ?_)
 exact oJ h▸Eb results244 (.agg U zm U (wh .here) .nil) (.cons .h1 .nil)
def qE(b:List z1)(zfS:z1->z1->Option Int)(e:Int->Int->Option z1):Nat->Int->Int->Int->Option z1
 | 0,_,_,_=>none
 | g+1,a,c,d=>if decide (a<b.length) then rl (fun(h:Int) (i:Int)=>qE b zfS e g (i64 (a+1)) h i) fun f=>chk (0<=a/\a<b.length) ((zfS (⟨(nth b a).fN,(nth b a).fD⟩:z1) (⟨c,d⟩:z1)).bind fun j=>if decide (j<0) then chk (0<=a/\a<b.length) (f ((nth b a).fN) ((nth b a).fD)) else f c d) else e c d
def gQ(a:List z1)(zfS:z1->z1->Option Int):Option z1:=
 if decide ((a.length:Int)<1) then none else chk ((0:Int)<=0/\0<(a.length:Int)) (rl (fun(b:Int) (c:Int)=>some (⟨b,c⟩:z1)) fun d=>qE a zfS d wr 1 ((nth a 0).fN) ((nth a 0).fD))
theorem li(Z q s zpn zxy b zfS r)(h:gQ b zfS=some r){Ek}(hz:PZ [] Ek Z)(t:ZS Z 2 (rq wI) q s b)(v:∀ args w,(callFunc zpn args).run Tryz.prog w = .ok (.enter zpn args) w)(x:∀ w:World,PZ [] w Z->∀(x0:z1) (x1:z1) (r:Int),zfS x0 x1=some r->Calls Tryz.prog zpn (([.agg #[vi x0.fN,vi x0.fD],.agg #[vi x1.fN,vi x1.fD]]:List Value)++zxy).toArray w fun e w'=>e = .returned (vi r)/\Hp [] w w' []):
  RC 245 #[vs q b.length s,.func (.func zpn) #[] (zxy).toArray] Ek (.agg #[vi r.fN,vi r.fD]) [] []:=by
 unfold gQ at h
 refine Lz func245 U U<|Lb<|Le (Lh 4 (wn (cs:=[vi 0,vi 0]) z20) fun k _=>Q0n<|Lb<|B1q U<|Lf 8 (wB underlying340)<|Q1n U<|Lj h (fun y h=>?_)<|fun y h=>?_)
 ·cases h
 ·refine Ec<|Lb<|cK h fun z h=>D1q U<|L0 (dd:=12) (Z:=Z) (Pr:=(rq wI)) za4 t z ?_
  rintro P Q B R rfl
  refine Lf 13 (we zm (vy hz.pv B)) (Lh 5 (wn (cs:=[vi 0,vi 0]) z20) fun m _=>Ll (wl z1t .here)<|Q0n ?_)
  refine jK2 h fun u D h=>Nv (fun n o=>(u n o=some r)) (fun n o=>[(4,vp k),(5,vp m)]) (fun n o=>[stb k 276 [vi 0,vi 0],stb m 276 [vi n,vi o]]) ?_ ?_
  ·let A:Value:=(.func (.func zpn) #[] (zxy).toArray);let C:Value:=(vs q b.length s);refine B1n U<|WC.block<|E9 (fun p a c d=>(qE b zfS u p a c d=some r)) (fun p a c d=>[(0,C),(1,A),(4,vp k),(5,vp m),(6,vi a)]) (fun p a c d=>[stb k 276 [vi 0,vi 0],stb m 276 [vi c,vi d]]) (fun p a c d=>p) ⟨wr,1,(nth b 0).fN,(nth b 0).fD⟩ h .q (.s2 .h1 .here) ?_
   rintro(_|M) a c d h;·cases h
   rw[qE] at h
   refine Lb<|B2q U<|Lf 16 (wB underlying340)<|Q1n U<|Lj h (fun E h=>?_)<|fun E h=>?_
   ·refine Ec<|jK2 h fun N F h=>Nv (fun g i=>(N g i=some r)) (fun g i=>[(0,C),(1,A),(4,vp k),(5,vp m),(6,vi a)]) (fun g i=>[stb k 276 [vi 0,vi 0],stb m 276 [vi g,vi i]]) ?_ ?_
    ·refine WC.block<|Lb<|cK h fun G h=>bK h fun O H h=>Lv nc []<|Lg 0 U q_m<|Lg 1 U q_m<|Lg 2 U q_m<|L8 (j:=3) (dd:=23) (by kernel_rfl) z2W z2X (Z:=Z) (Pr:=(rq wI)) za4 t G ?_
     rintro S T I V rfl
     refine Li 4 U (we zm (vy hz.pv I))<|Li 5 U (we zm (wh .h1))<|L5 6 U (wV (l:=[.tmp 24,.tmp 25]) (f:=zpn) (caps:=zxy) v<|.r2 U U) (fun w hw=>x w (hz.now hw) (⟨(nth b a).fN,(nth b a).fD⟩:z1) (⟨c,d⟩:z1) O  H)<|Lg 7 U oW<|Eo (by kernel_rfl)<|Ld<|Lj h (fun J h=>?_)<|fun J h=>?_
     ·refine cK h fun K h=>D2q U<|L0 (dd:=30) (Z:=Z) (Pr:=(rq wI)) za4 t K ?_
      rintro W X L Y rfl
      exact Lf 31 (we zm (vy hz.pv L))<|Ll (wl z1t .h1)<|WL.nil<|Lq<|Lp ⟨(nth b a).fN,(nth b a).fD⟩ h .q<|.s2 .h1 .here
     ·exact Ep<|Lq<|Lp ⟨c,d⟩ h .q<|.a2
    ·rintro g i h
     replace h:=(F g i).symm.trans h
     exact D3q U<|WL.nil<|Em ⟨M,i64 (a+1),g,i⟩ h (Nat.lt_succ_self _) .q<|.a2
   ·exact En<|Ln<|Ln<|Lu<|Lp ⟨c,d⟩ h .q<|.a2
  ·rintro n o h
   replace h:=(D n o).symm.trans h
   exact B0q<|Lf 32 (we zm (wh .h1))<|Ll (wl z1t .here)<|Q0n<|El<|oJ h▸Eb results245 (.agg U zm U (wh .here) .nil) .nil
def rt(b:List zb)(e:z1)(f:(List z1)->Int->Option z1):Nat->(List z1)->Int->Int->Option z1
 | 0,_,_,_=>none
 | h+1,c,a,g=>if decide (a<b.length) then chk (0<=a/\a<b.length) ((pH (⟨g⟩:yk) (⟨(⟨((nth b a).yg).fN,((nth b a).yg).fD⟩:z1),(⟨((nth b a).fR).fN,((nth b a).fR).fD⟩:z1)⟩:zb) e).bind fun d=>chk (((c++([d.1]:List z1)).length:Int)*16<=140737488355328/\((c++([d.1]:List z1)).length:Int)<=4611686018427387904) (rt b e f h (c++([d.1]:List z1)) (i64 (a+1)) d.2.fE)) else f c g
def aX(a:List zb)(b:z1):Option z1:=
 (t6 a).bind fun c=>(if !c then some true else(pE b).bind fun d=>some (!d)).bind fun f=>if f then none else rl (fun(g:List z1) (h:Int)=>if decide (h≠0) then none else(gQ g (fun y0 y1=>kU y0 y1)).bind fun e=>some e) fun i=>rt a b i wr ([]:List z1) 0 0
theorem KU(Z t u i b r)(h:aX i b=some r){Ek}(hz:PZ [] Ek Z)(v:ZS Z 4 (rq qo) t u i):
  RC 216 #[vs t i.length u,.agg #[vi b.fN,vi b.fD]] Ek (.tuple #[.agg #[vi r.fN,vi r.fD],vi 0]) [] []:=by
 unfold aX at h
 refine Lz func216 U U<|Lb<|Le (Lh 3 (wu (cs:=[vi b.fN,vi b.fD])) fun x _=>Lh 4 (wn (cs:=[vi 0,vi 0]) z20) fun p _=>Q1n U<|Lb<|Lb ?_)
 refine bK h fun R A h=>bK h fun P y h=>D1q U<|Eg call242 hz (fun pz=>oZ _ _ _ _ _ A pz v)<|Q2q U<|Lx false 3 13 (B:=P) (fun h=>(oJ<|qf y h).symm) (fun _ C=>?_) ?_
 ·have k:=qg y C
  obtain⟨S,D,k⟩:=z2 k
  replace k:=oJ k
  exact Lf 14 (we zm (wh .h1))<|Eg call243 hz (dC _ _ _ D)<|Q2q U<|Ly k U .all
 refine Q0n<|Lj h (fun E h=>?_)<|fun E h=>?_
 ·cases h
 ·refine Ec<|Lb<|Le (Lh 6 (wn (cs:=[vi 0]) zZ7) fun q _=>Q0n<|B1n U ?_)
  refine jK2 h fun z F h=>Dn (fun c j m n=>(z c j=some r)) (fun c j m n=>[(4,vp p),(6,vp q),(7,vs m c.length n)]) (fun c j m n=>[row (vs m c.length n) 276 2 (c.flatMap wI),stb p 276 [vi 0,vi 0],stb q 396 [vi j]]) ?_ ?_
  ·refine B1q U<|Lf 20 (wB underlying338)<|Q1n U<|WC.block<|WC.nilRow 276 2<|Hj (fun o a d e f g=>(rt i b z o a d e=some r)) (fun o a d e f g=>[(3,vp x),(4,vp p),(6,vp q),(7,vs f a.length g),(19,vs t i.length u),(20,vi (i.length:Int)),(21,vi d)]) (fun o a d e f g=>[row (vs f a.length g) 276 2 (a.flatMap wI),stb x 276 [vi b.fN,vi b.fD],stb p 276 [vi 0,vi 0],stb q 396 [vi e]]) (fun o a d e f g=>o) ⟨wr,([]:List z1),0,0,none,0⟩ h .q (.s4 .here .h2 .h1 .here) ?_
   rintro(_|Q) a d e f g h;·cases h
   rw[rt] at h
   refine B1n U<|Lb<|Lj h (fun G h=>?_)<|fun G h=>?_
   ·refine Ec<|Lb<|WC.block<|Lb<|cK h fun H h=>Le<|L0 (dd:=23) (Z:=Z) (Pr:=(rq qo)) zeq v H ?_
    rintro T V I W rfl
    refine Lf 24 (we z6d (vy hz.pv I)) (Lh 9 (wn (cs:=[vi 0,vi 0,vi 0,vi 0]) zk0) fun X _=>Ll (wl zk1 .here)<|Q0n ?_)
    refine bK h fun s J h=>cK h fun K h=>D1q U<|Lf 26 (we z6d (wh .here))<|Lf 27 (we zm (wh .h2))<|Lm 28 (Eh call244) (.cons .h4 .nil) (cc hz (.cons .h4 .nil) fun w pz ho=>X4 _ _ _ _ _ _ J pz  ho) (Lh 29 (wD (cs:=([s.1]:List z1).flatMap wI) za4 (Lt (l:=[.tmp 28]) (.cons U .nil) [0]) (fun _=>by kernel_rfl) (by unfold maxLen;omega)) fun Y _=>WL.fA 30 (vb (enc:=wI) (l1:=a) (l2:=([s.1]:List z1)) za4 .h3 (fun _=>U) (wY .here) (vm VH _) K) ?_)
    rintro⟨L,M⟩ _
    exact La U<|WL.nil<|Lq<|Ld<|D2q U<|WL.nil<|Em ⟨Q,a++([s.1]:List z1),i64 (d+1),s.2.fE,L,M⟩ h (Nat.lt_succ_self _) .q<|.s4 .here .h3 .h3 .h1
   ·exact En<|Ln<|Ln<|Lu<|Lp ⟨a,e,f,g⟩ h .q<|.s3 .here .h1 .h1
  ·rintro c j m n h
   replace h:=(F c j).symm.trans h
   refine Lb<|B0q<|Lf 32 (w7 tO)<|Lf 33 (Ei z8n .h2)<|Q1n U<|Lj h (fun N h=>?_)<|fun N h=>?_
   ·cases h
   ·exact Ec<|Lb<|bK h fun aa O h=>D1q U<|Lm 39 (Eh call245) .nil (kb hz .nil (.cons .here .nil) fun w pz ho la=>li _ _ _ (zpn:=187) (zxy:=[]) _ (zfS:=(fun y0 y1=>kU y0 y1)) _ O pz (ZA.row (la _ (.head _) _) (RR.flat (enc:=wI) (fun _=>U) _) ⟨w,pz.1⟩) call187<|fun w' nd y0 y1  r  hr=>ms _ _ _ _ hr nd )<|Ll (wl z1t .h1)<|Q1n U<|El<|oJ h▸Eb results216 (.agg U zm U (wh .here)<|.tmp U .nil) .nil
def kV(b:List (List zb))(d:z1)(e:Int->Int->Int->Option (z1×yk)):Nat->Int->Int->Int->Int->Option (z1×yk)
 | 0,_,_,_,_=>none
 | j+1,a,f,g,h=>if decide (a<b.length) then chk (0<=a/\a<b.length) ((aX (nth b a) d).bind fun i=>if decide (f=0) then(mw (⟨0⟩:yk) (⟨g,h⟩:z1) i).bind fun c=>kV b d e j (i64 (a+1)) c.2.fE c.1.fN c.1.fD else none) else e g h f
def mJ(b:yk)(c:List (List zb))(d:z1):Option (z1×yk):=
 (kE).bind fun a=>Q5 (fun(e:Int) (f:Int) (g:Int)=>some ((⟨e,f⟩:z1),(⟨g⟩:yk))) fun h=>kV c d h wr 0 b.fE a.fN a.fD
theorem lI(Z a p q l g b r)(h:mJ l g b=some r){Ek}(hz:Pz [stb a 371 [vi l.fE]] Ek Z)(x:ZS Z 1 (qZ Z) p q g)(iA:Ho Ek [stb a 371 [vi l.fE]]):
  RF 184 #[vp a,vs p g.length q,.agg #[vi b.fN,vi b.fD]] Ek (.agg #[vi r.1.fN,vi r.1.fD]) [stb a 371 [vi l.fE]] [stb a 371 [vi r.2.fE]]:=by
 unfold mJ at h
 refine Ey func184 U iA U<|Lb<|Le (Lh 5 (wu (cs:=[vi b.fN,vi b.fD])) fun t _=>Lh 6 (wn (cs:=[vi 0,vi 0]) z20) fun n _=>Q0n<|Lb ?_)
 refine bK h fun u y h=>Le<|Eg call215 hz (fh _ _ y) (Lh 7 (wn (cs:=[vi 0,vi 0]) z20) fun o _=>Ll (wl z1t .here)<|Q0n ?_)
 refine jK3 h fun v z h=>Nf (fun i j k=>(v i j k=some r)) (fun i j k=>[(6,vp n),(7,vp o)]) (fun i j k=>[stb n 276 [vi 0,vi 0],stb o 276 [vi i,vi j],stb a 371 [vi k]]) ?_ ?_
 ·refine B1q U<|Lf 14 (wB underlying272)<|Q1n U<|WC.block<|E6 (fun m c d e f=>(kV g b v m c d e f=some r)) (fun m c d e f=>[(0,vp a),(5,vp t),(6,vp n),(7,vp o),(13,vs p g.length q),(14,vi (g.length:Int)),(15,vi c)]) (fun m c d e f=>[stb a 371 [vi d],stb t 276 [vi b.fN,vi b.fD],stb n 276 [vi 0,vi 0],stb o 276 [vi e,vi f]]) (fun m c d e f=>m) ⟨wr,0,l.fE,u.fN,u.fD⟩ h .q (.s4 .h3 .h2 .h1 .here) ?_
  rintro(_|H) c d e f h;·cases h
  rw[kV] at h
  refine B1n U<|Lb<|Lj h (fun A h=>?_)<|fun A h=>?_
  ·refine Ec<|Lb<|WC.block<|Lb<|cK h fun B h=>Le<|L0 (dd:=17) (Z:=Z) (Pr:=(qZ Z)) zgX x B ?_
   rintro I J C K ⟨L,M,rfl,D⟩
   refine Lf 18 (w8 zrJ U<|vx hz.pv C)<|Q1n U<|Lb<|bK h fun N E h=>D1q U<|Lf 21 (we zm (wh .h1))<|Eg call216 hz (fun pz=>KU _ _ _ _ _ _ E pz D)<|Q2q U<|La U (Lh 10 (wn (cs:=[vi 0,vi 0]) z20) fun O _=>Ll (wl z1t .here)<|Q1n U<|Lb<|B1q U<|Lf 26 wz<|Lf 27 (w7 mU)<|Lf 28 (Ei z8n .h1)<|Q1n U<|Lj h (fun F h=>?_)<|fun F h=>?_)
   ·exact D2q U<|Lf 32 wz<|Lf 33 (w7 mU)<|Ll (wl zfn .h1)<|Q0n<|bK h fun s G h=>D1q U<|Lf 35 (we zm (wh .h4))<|Lf 36 (we zm (wh .h1))<|Lm 37 (Eh call181) (.cons .here .nil) (cc hz (.cons .here .nil) fun w pz ho=>pF _ _ _ _ _ _ G pz  ho)<|Ll (wl z1t .h4)<|WL.nil<|Lq<|Ld<|D2q U<|WL.nil<|Em ⟨H,i64 (c+1),s.2.fE,s.1.fN,s.1.fD⟩ h (Nat.lt_succ_self _) .q<|.s4 .h1 .h2 .h2 .here
   ·cases h
  ·exact En<|Ln<|Ln<|Lu<|Lp ⟨e,f,d⟩ h .q<|.s3 .h2 .h2 .here
 ·rintro i j k h
  replace h:=(z i j k).symm.trans h
  exact B0q<|Lf 39 (we zm (wh .h1))<|Ll (wl z1t .here)<|Q0n<|El<|oJ h▸Eb results184 (.agg U zm U (wh .here) .nil) (.cons .h2 .nil)
def rQ(a:yk)(d:z1)(e:z1):Option (z1×yk):=
 if decide (a.fE≠0) then(kE).bind fun b=>some (b,a) else(eK d e).bind fun c=>some (c,(⟨0⟩:yk))
theorem Yz(Z a d b c r)(h:rQ d b c=some r){Ek}(hz:Pz [stb a 371 [vi d.fE]] Ek Z)(iA:Ho Ek [stb a 371 [vi d.fE]]):
  RF 181 #[vp a,.func (.func 183) #[] #[],.agg #[vi b.fN,vi b.fD],.agg #[vi c.fN,vi c.fD]] Ek (.agg #[vi r.1.fN,vi r.1.fD]) [stb a 371 [vi d.fE]] [stb a 371 [vi r.2.fE]]:=by
 unfold rQ at h
 refine Et func181 U iA U<|Lb<|Le (Lh 6 (wu (cs:=[vi b.fN,vi b.fD])) fun i _=>Lh 7 (wu (cs:=[vi c.fN,vi c.fD])) fun j _=>Lh 8 (wn (cs:=[vi 0,vi 0]) z20) fun k _=>Q0n<|Lb<|B1q U<|Lf 12 wz<|Lf 13 (w7 mU)<|Lf 14 (Ei z8n .h3)<|Q1n U<|Lj h (fun e h=>?_)<|fun e h=>?_)
 ·exact Lb<|bK h fun m f h=>Le<|Eg call215 hz (fh _ _ f)<|Ll (wl z1t .here)<|Q0n<|El<|L4<|oJ h▸Eb results181 (.agg U zm U (wh .here) .nil) (.cons .h3 .nil)
 ·refine Ec<|Lb<|bK h fun n g h=>D1q U<|Lf 19 (we zm (wh .h2))<|Lf 20 (we zm (wh .h1))<|Lm 21 (wV (l:=[.tmp 19,.tmp 20]) call183<|.r2 U U) .nil (cc hz .nil fun w pz ho=>Qi _ _ _ _ g pz )<|Q2q U<|La U (Lh 9 (wn (cs:=[vi 0,vi 0]) z20) fun o _=>Ll (wl z1t .here)<|Q1n U<|Lb<|B2q U<|Lf 26 wz<|Lf 27 (w7 mU)<|Ll (wl zfn .h4)<|Q0n<|B1q U<|Lf 29 kj<|Q0n<|Er (fun h'=>(by cases h'))<|fun h'=>?_)
  clear h'
  exact Ec<|B0q<|Lf 31 (we zm (wh .h1))<|Ll (wl z1t .h2)<|Q0n<|El<|oJ h▸Eb results181 (.agg U zm U (wh .here) .nil) (.cons .h1 .nil)
def rR(a:yk)(d:z1)(e:z1):Option (z1×yk):=
 if decide (a.fE≠0) then(kE).bind fun b=>some (b,a) else(eI d e).bind fun c=>some (c,(⟨0⟩:yk))
theorem YA(Z a d b c r)(h:rR d b c=some r){Ek}(hz:Pz [stb a 371 [vi d.fE]] Ek Z)(iA:Ho Ek [stb a 371 [vi d.fE]]):
  RF 181 #[vp a,.func (.func 182) #[] #[],.agg #[vi b.fN,vi b.fD],.agg #[vi c.fN,vi c.fD]] Ek (.agg #[vi r.1.fN,vi r.1.fD]) [stb a 371 [vi d.fE]] [stb a 371 [vi r.2.fE]]:=by
 unfold rR at h
 refine Et func181 U iA U<|Lb<|Le (Lh 6 (wu (cs:=[vi b.fN,vi b.fD])) fun i _=>Lh 7 (wu (cs:=[vi c.fN,vi c.fD])) fun j _=>Lh 8 (wn (cs:=[vi 0,vi 0]) z20) fun k _=>Q0n<|Lb<|B1q U<|Lf 12 wz<|Lf 13 (w7 mU)<|Lf 14 (Ei z8n .h3)<|Q1n U<|Lj h (fun e h=>?_)<|fun e h=>?_)
 ·exact Lb<|bK h fun m f h=>Le<|Eg call215 hz (fh _ _ f)<|Ll (wl z1t .here)<|Q0n<|El<|L4<|oJ h▸Eb results181 (.agg U zm U (wh .here) .nil) (.cons .h3 .nil)
 ·refine Ec<|Lb<|bK h fun n g h=>D1q U<|Lf 19 (we zm (wh .h2))<|Lf 20 (we zm (wh .h1))<|Lm 21 (wV (l:=[.tmp 19,.tmp 20]) call182<|.r2 U U) .nil (cc hz .nil fun w pz ho=>Qh _ _ _ _ g pz )<|Q2q U<|La U (Lh 9 (wn (cs:=[vi 0,vi 0]) z20) fun o _=>Ll (wl z1t .here)<|Q1n U<|Lb<|B2q U<|Lf 26 wz<|Lf 27 (w7 mU)<|Ll (wl zfn .h4)<|Q0n<|B1q U<|Lf 29 kj<|Q0n<|Er (fun h'=>(by cases h'))<|fun h'=>?_)
  clear h'
  exact Ec<|B0q<|Lf 31 (we zm (wh .h1))<|Ll (wl z1t .h2)<|Q0n<|El<|oJ h▸Eb results181 (.agg U zm U (wh .here) .nil) (.cons .h1 .nil)
def pI(g:yk)(a:z1)(h:List (List zb))(b:yy):Option (z1×yk):=
 (mJ g h a).bind fun c=>(rQ c.2 c.1 b.fR).bind fun d=>(rR d.2 d.1 a).bind fun e=>(mw e.2 e.1 b.fL).bind fun f=>some (f.1,f.2)
theorem X6(Z c f g j k d b e a r)(h:pI d b e a=some r){Ek}(hz:Pz [stb c 371 [vi d.fE]] Ek Z)(m:ZS Z 1 (qZ Z) g j e)(n:ZC Z f [vs g e.length j])(l:ZC Z k [vi a.fR.fN,vi a.fR.fD,vi a.fL.fN,vi a.fL.fD])(iA:Ho Ek [stb c 371 [vi d.fE]]):
  RF 180 #[vp c,.agg #[vi b.fN,vi b.fD],vq f,vq k] Ek (.agg #[vi r.1.fN,vi r.1.fD]) [stb c 371 [vi d.fE]] [stb c 371 [vi r.2.fE]]:=by
 unfold pI at h
 refine Et func180 U iA U<|Lb<|Le (Lh 5 (wu (cs:=[vi b.fN,vi b.fD])) fun o _=>Lh 6 (wn (cs:=[vi 0,vi 0]) z20) fun v _=>Q0n<|Lb ?_)
 refine bK h fun x p h=>bK h fun y q h=>bK h fun z t h=>bK h fun A u h=>Lv (fun i=>[6,9,11,14,15].contains i) [stb o 276 [vi b.fN,vi b.fD]]<|Lg 0 U q_m<|Lg 1 U q_m<|Lg 2 U q_m<|Lg 3 U q_m<|Li 4 U (w8 zk2 U<|vx hz.pv n)<|Li 5 U (we zm (wh .h1))<|Lg 7 U (w7 aK)<|Na 8 U (wS.of<|.cons .h1 .nil) (wX (cs:=[vi a.fR.fN,vi a.fR.fD]) zm<|Vy (off:=0) (s:=2) hz.pv l U)<|Na 10 U (wS.of<|.cons .h1 .nil) (we zm (wh .here))<|Lg 12 U (w7 dp)<|Na 13 U (wS.of<|.cons .h1 .nil) (wX (cs:=[vi a.fL.fN,vi a.fL.fD]) zm<|Vy (off:=2) (s:=2) hz.pv l U) (WD.call0 (i:=6) (dd:=13) U (by kernel_rfl) U (.inl ⟨U,(wS.of<|.cons .h2 .nil)⟩) (Eh call184) (.cons .h2 .nil) (cc hz (.cons .h2 .nil) fun w pz ho=>Calls.mono (lI _ _ _ _ _ _ _ _ p pz m ho)<|fun _ _ h'=>⟨h'.1,trivial,h'.2⟩) fun _=>WD.call0 (i:=9) (dd:=16) U (by kernel_rfl) U (.inl ⟨U,(wS.of<|.cons .h2 .nil)⟩) (Eh call181) (.cons .here .nil) (cc hz (.cons .here .nil) fun w pz ho=>Calls.mono (Yz _ _ _ _ _ _ q pz  ho)<|fun _ _ h'=>⟨h'.1,trivial,h'.2⟩) fun _=>WD.call0 (i:=11) (dd:=18) U (by kernel_rfl) U (.inl ⟨U,(wS.of<|.cons .h2 .nil)⟩) (Eh call181) (.cons .here .nil) (cc hz (.cons .here .nil) fun w pz ho=>Calls.mono (YA _ _ _ _ _ _ t pz  ho)<|fun _ _ h'=>⟨h'.1,trivial,h'.2⟩) fun _=>WD.call0 (i:=14) (dd:=21) U (by kernel_rfl) U (.inl ⟨U,(wS.of<|.cons .h2 .nil)⟩) (Eh call181) (.cons .here .nil) (cc hz (.cons .here .nil) fun w pz ho=>Calls.mono (pF _ _ _ _ _ _ u pz  ho)<|fun _ _ h'=>⟨h'.1,trivial,h'.2⟩) fun _=>Nb (i:=15) U (by kernel_rfl) (by kernel_rfl) (wl z1t .h1)<|Eo (by kernel_rfl)<|Ld<|El ?_)
 exact oJ h▸Eb results180 (.agg U zm U (wh .here) .nil) (.cons .h1 .nil)
end Go.Proofs.YtaefhckdgfpeaaaGreat
