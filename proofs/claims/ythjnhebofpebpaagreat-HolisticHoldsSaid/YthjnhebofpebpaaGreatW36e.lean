/- A part of this claim's proof: models of functions, walks, plain laws. No conditions. -/
import Derived.Test.YthjnhebofpebpaaGreatW36d
set_option linter.all false
namespace Go.Proofs.YthjnhebofpebpaaGreat
open Go Go.RowKit Sep Tryz
set_option maxRecDepth 30000
set_option maxHeartbeats 4000000
def kF(c:List (List z8))(d:yv)(e:z2)(a:List z2)(f:Int):Option (Bool×(Nat×List z2×Int)):=
 (ug (⟨f⟩:yu) e c d).bind fun b=>(if decide ((a.length:Int)=0) then some true else chk ((0:Int)<=0/\0<(a.length:Int)) ((qa b.1 (⟨(nth a 0).fN,(nth a 0).fD⟩:z2)).bind fun g=>some (decide (g>0)))).bind fun h=>if h then some (true,(0,([b.1]:List z2),b.2.fE)) else some (true,(0,a,b.2.fE))
def fY(d:List (List z8))(j:yv)(a:List (List z8))(b:yv)(e:List z2):Option (z2×Int):=
 (qW d j a b e).bind fun g=>if decide (g≠0) then some ((⟨0,0⟩:z2),g) else sm (fun(h:Int) (f:List z2)=>if decide (h≠0) then some ((⟨0,0⟩:z2),h) else chk ((0:Int)<=0/\0<(f.length:Int)) (some ((⟨(nth f 0).fN,(nth f 0).fD⟩:z2),0))) fun k=>(kE d j a b e).bind fun c=>(qu (Nat×List z2×Int) (fun(x:z2) (s:Nat×List z2×Int)=>chk (s.1=0) (kF a b x s.2.1 s.2.2)) (0,([]:List z2),0) d (⟨(⟨c.1,c.2.1⟩:z2),(⟨c.2.2.1,c.2.2.2⟩:z2)⟩:yv) a b e).bind fun i=>k i.2.2 i.2.1
theorem dX{Z ae af ag ao ap ah ai aj V j T t W r}(h:fY V j T t W=some r){Ny}(hz:PZ [] Ny Z)(aq:ZS Z 1 (jW Z) ae af V)(ak:ZS Z 1 (jW Z) ao ap T)(al:ZC Z ag [vs ao T.length ap])(am:ZC Z ah [vi t.fR.fN,vi t.fR.fD,vi t.fL.fN,vi t.fL.fD])(ar:ZS Z 2 (rq w4) ai aj W):
  RC 127 #[.agg #[vs ae V.length af,vi j.fR.fN,vi j.fR.fD,vi j.fL.fN,vi j.fL.fD,.func (.func 122) #[] #[vq ag,vq ah],vs ai W.length aj]] Ny (.tuple #[.agg #[vi r.1.fN,vi r.1.fD],vi r.2]) [] []:=by
 unfold fY at h
 let F:Value:=(.func (.func 122) #[] #[vq ag,vq ah]);let M:Value:=(vs ae V.length af);let N:Value:=(vs ai W.length aj);let H:Value:=(.agg #[M,vi j.fR.fN,vi j.fR.fD,vi j.fL.fN,vi j.fL.fD,F,N]);refine Of (vs:=[H]) (pre:=[]) (env:=[(0,H)]) func127 U ntmps127 U (Hp.nil Ny _) U ?_
 let E:List Value:=[M,vi j.fR.fN,vi j.fR.fD,vi j.fL.fN,vi j.fL.fD,F,N];refine B0q<|Lh 1 (we (cs:=E)) ?_
 intro m _
 refine Lh 2 (xV (cs:=[vi 0,vi 0]) z1F U) fun n _=>Q1n U<|WC.b<|WC.b<|bK h fun aY aI h=>Ld<|Le 9 (xN zoK (xO .h1))<|Ns call163 hz (fun pz=>pV aI pz aq ak al am ar)<|Q1n U<|B2n U<|Lj h (fun aJ h=>?_)<|fun aJ h=>?_
 ·exact B0q<|Le 13 (wl (v:=(.agg #[vi 0,vi 0])) (Lq (l:=[]) .nil []))<|La U<|Lk (xR z16 .here)<|Q1n U<|Nz<|Ll<|oJ h▸Pd results127 (.agg U zg U (xO .here)<|.tmp U .nil) fun w hw=>⟨qc,hw.sub .nil⟩
 ·refine Np<|B0q (Lh 5 (xV (cs:=[vi 0]) zCS U) fun c _=>Q0n<|B0q (Lh 6 (xV (cs:=[vn]) zCT U) fun k _=>Q0n ?_))
  refine jK2 h fun aZ aK h=>P5 (fun X y o Y aa=>(aZ y o=some r)) (fun X y o Y aa=>[(2,vp n),(5,vp c),(6,vp k)]) (fun X y o Y aa=>[stb n 175 [vi 0,vi 0],stb c 277 [vi y],stb k 229 [vs Y o.length aa],row (vs Y o.length aa) 175 2 (o.flatMap w4),kp X]) ?_ ?_
  ·refine WC.b<|bK h fun u aL h=>Ld<|Le 15 (xN zoK (xO .h3))<|Pg U U U (Nt call164) .nil (cc hz .nil fun w pz ho=>pC aL pz aq ak al am ar) ?_
   rintro a _
   refine Q0n<|WC.block<|WC.drop (.s5 .h1 .h1 .h1 .h1 .here)<|WC.nilRow 175 2<|H7 (f:=201) (caps:=[vp a]) U call201 ?_
   intro a1 a2 p b z an aM aN w hw
   let P:Value:=(vs none (([]:List z2).length) 0);let A:List Asrt:=[stb k 229 [P],row P 175 2 (([]:List z2).flatMap w4),stb c 277 [vi 0],stb n 175 [vi 0,vi 0],stb m 231 E,wq p (z .ready none)];have hw1:=hw.selAll ((.s6 .h3 .h2 .h2 .h2 .h2 .here):Sel _ A _)
   let C:List Value:=[M,vi u.1,vi u.2.1,vi u.2.2.1,vi u.2.2.2,F,N];have pz:=(hz.call hw1 ((.cons .here .nil):Sel [qv A,kp b,stb a 231 C] [qv A] [kp b,stb a 231 C])).lend hw1 ((.cons .here .nil):Sel [qv A,kp b,stb a 231 C] [qv A] [kp b,stb a 231 C]) (B:=[stb a 231 C]) (fun _ hx'=>((.cons .h1 .nil):Sel _ [stb a 231 C] _).mem hx')
   refine bK h fun d aO h=>Calls.mono (rC (zbn:=p) (z5F:=(Option Addr×Nat)) (z3E:=(fun(g:Option Addr×Nat) (s:Nat×List z2×Int)=>qv ([stb k 229 [vs g.1 s.2.1.length g.2],row (vs g.1 s.2.1.length g.2) 175 2 (s.2.1.flatMap w4),stb c 277 [vi s.2.2],stb n 175 [vi 0,vi 0],stb m 231 E]++[wq p (z (rW<|uk [] s.1)<|uk [] s.1)]))) (z9D:=(fun(g:Option Addr×Nat) (s:Nat×List z2×Int)=>True)) (zep:=(none,0)) (zeq:=⟨a,0,none⟩) (zh0:=ae) (zh1:=af) (zzz:=ag) (zzA:=ao) (zzB:=ap) (zzC:=ah) (zqL:=ai) (zqM:=aj) (zZ:=(Nat×List z2×Int)) (z3t:=(fun(x:z2) (s:Nat×List z2×Int)=>chk (s.1=0)<|kF T t x s.2.1 s.2.2)) (zao:=(0,([]:List z2),0)) (z4g:=V) (zkq:=(⟨(⟨u.1,u.2.1⟩:z2),(⟨u.2.2.1,u.2.2.2⟩:z2)⟩:yv)) (zqK:=T) (zkr:=t) (z4t:=W) (r:=d) pz ?_ trivial ((aq.mono<|zl).weak (fun _ _ h=>gq zl h)) ((ak.mono<|zl).weak (fun _ _ h=>gq zl h)) (al.mono<|zl) (am.mono<|zl) (ar.mono<|zl) ((hw1.lent ((.cons .here .nil):Sel [qv A,kp b,stb a 231 C] [qv A] [kp b,stb a 231 C]) (B:=[stb a 231 C]) (fun _ hx'=>((.cons .h1 .nil):Sel _ [stb a 231 C] _).mem hx') (.head _) _).stb) aO<|hw1.owns ((.cons .here .nil):Sel [qv A,kp b,stb a 231 C] [qv A] [kp b,stb a 231 C])) ?_
   ·refine bQ (LI:=(fun(g:Option Addr×Nat) (s:Nat×List z2×Int)=>[stb k 229 [vs g.1 s.2.1.length g.2],row (vs g.1 s.2.1.length g.2) 175 2 (s.2.1.flatMap w4),stb c 277 [vi s.2.2],stb n 175 [vi 0,vi 0],stb m 231 E])) (pc:=(fun(s:Nat×List z2×Int)=>uk [] s.1)) an aM aN ?_
    rintro au _ ⟨az,aA⟩ ⟨aQ,q,aB⟩ aR aS Fb wb aC _ hz
    replace hz:=hz.left
    letI:Rnd:=bP p
    obtain⟨Af,e⟩:=xI aC
    replace Af:aQ=0:=Af;subst Af;clear aC
    replace e:kF T t au q aB=some (aR,aS):=e
    unfold kF at e
    let I:Value:=(vs az q.length aA);let K:Value:=(.agg #[vi au.fN,vi au.fD]);let Q:Value:=(.bool (decide (aY≠0)));refine WC.restr (env':=[(1,vp m),(12,Q),(5,vp c),(6,vp k),(17,K)]) (.qo U)<|Ov (L':=[stb k 229 [I],row I 175 2 (q.flatMap w4),stb c 277 [vi aB],stb n 175 [vi 0,vi 0],stb m 231 E,wq p (z .ready none)]) U<|Ld<|Lh 7 (xV (cs:=[vi 0,vi 0]) z1F U) ?_
    intro aT _
    refine Lk (xR z16 .here)<|WL.nil<|Oc an .h6<|WC.block<|WC.b ?_
    obtain⟨R,aU,e⟩:=za e
    refine Ld<|Le 18 (xB eW)<|Le 19 (Nu zMc .h6)<|Le 20 (xN zg (xO .h1))<|Lo 21 (qk (l:=[.tmp 5,.tmp 20]) call122<|.r2 U U) (.cons .h4 .nil) (cc hz (.cons .h4 .nil) fun w pz ho=>aP aU pz ak al am ho) (Lh 8 (xV (cs:=[vi 0,vi 0]) z1F U) fun aV _=>Lk (xR z16 .here)<|Q0n<|WC.b ?_)
    obtain⟨a0,aD,e⟩:=za e
    let O:Value:=(.bool (decide ((q.length:Int)=0)));refine Lu nc []<|Lg 0 U (Nu zdT .h4)<|Lf 1 U (wc underlying229)<|Lf 2 U (eI U U)<|Lf 3 U q_m<|Nd (fuel':=0) [(1,vp m),(12,Q),(5,vp c),(6,vp k),(17,K),(7,vp aT),(18,(.pointer<|some ⟨m,5,none⟩)),(19,F),(20,K),(21,.agg #[vi R.1.fN,vi R.1.fD]),(8,vp aV),(22,I),(23,vi (q.length:Int)),(24,O),(25,O),(32,.bool a0)] (vE 11 (dn 11)) ?_<|fun aE=>?_
    rotate_left
    ·rcases Bool.eq_false_or_eq_true (decide ((q.length:Int)=0)) with hb' | hb'
     ·have av:=hb';clear hb'
      have aw:=ju aD av
      replace aw:=oJ aw
      refine L3 (i:=25) U av<|Lm 4 U<|Lm 5 U<|Lm 6 U<|Lm 7 U<|Lm 8 U<|Lm 9 U<|Lf 10 U qO<|Lw .a8 ?_ aE
      exact .t 14<|.r2 (zx<|Eq.symm av)<|zx aw
     ·have ax:=hb';clear hb'
      have S:=jv aD ax
      obtain⟨ab,S⟩:=xI S
      obtain⟨a5,aW,S⟩:=za S
      replace S:=oJ S
      refine L3 (i:=25) U ax<|Lg 4 U (xN zg (xO .here))<|Lg 5 U (Nu zdT .h4)<|Nk (fun w hw=>Hp.vf .h5 hw (by intro hz';have:=ab;rw[hz'] at this;omega)) ?_
      rintro⟨a3,rfl⟩
      refine Lf 6 U (xZ z41 ab.1 ab.2 wF)<|Lg 7 U (wo (cs:=(w4<|nth q 0)) zg<|vQ .h5<|wN (enc:=w4) (l:=q) (i:=0) (sz:=2) ab.1 ab.2)<|L4 8 U (Nt call129) (cc hz .nil fun w pz ho=>uf aW pz )<|Lf 9 U rV<|Lf 10 U qP<|Lw .a8 ?_ aE
      exact .t 14<|.r2 (zx<|Eq.symm ax)<|zx S
    refine N1<|Lb<|WC.cond U (fun ay=>?_)<|fun ay=>?_
    ·replace e:=ju e ay
     refine Ld<|Le 33 (xN zg (xO .here)) (Lh 34 (wn (cs:=([R.1]:List z2).flatMap w4) z41 (Lq (l:=[.tmp 33]) (.cons U .nil) [0])) fun aF _=>Lk (xR zCU .h5)<|WL.nil<|Lt ?_)
     obtain⟨rfl,rfl⟩:=cM e
     let L:Value:=(vs (some ⟨aF,0,none⟩) (([R.1]:List z2).length) 1);exact Oj an .h4<|fun w' oL=>⟨(some ⟨aF,0,none⟩,1),U,trivial,(oL.selAll ((.s6 .h1 .h1 .h2 .h4 .h4 .here):Sel _ [stb k 229 [L],row L 175 2 (([R.1]:List z2).flatMap w4),stb c 277 [vi R.2.fE],stb n 175 [vi 0,vi 0],stb m 231 E,wq p (z .ready none)] _)).sub (.cons .here .nil)⟩
    ·replace e:=jv e ay
     refine N3<|Lt ?_
     obtain⟨rfl,rfl⟩:=cM e
     exact Oj an .h2<|fun w' oL=>⟨(az,aA),U,trivial,(oL.selAll ((.s6 .h4 .h4 .h2 .h3 .h3 .here):Sel _ [stb k 229 [I],row I 175 2 (q.flatMap w4),stb c 277 [vi R.2.fE],stb n 175 [vi 0,vi 0],stb m 231 E,wq p (z .ready none)] _)).sub (.cons .here .nil)⟩
   ·rintro _ w' ⟨⟨aG,aH⟩,rfl,_,hp⟩
    have zz:=hw1.call ((.cons .here .nil):Sel [qv A,kp b,stb a 231 C] [qv A] [kp b,stb a 231 C]) hp
    let J:Value:=(vs aG d.2.1.length aH);have AO:Hp _ _ w' [stb k 229 [J],row J 175 2 (d.2.1.flatMap w4),stb c 277 [vi d.2.2],stb n 175 [vi 0,vi 0],stb m 231 E,wq p (z (rW (uk [] d.1)) (uk [] d.1)),kp b,stb a 231 C]:=zz.pickAll .here
    refine⟨_,uk [] d.1,_,U,AO.sub ((.s8 .h5 .here .here .here .here .here .here .here):Sel _ [wq p (z (rW (uk [] d.1)) (uk [] d.1)),stb k 229 [J],row J 175 2 (d.2.1.flatMap w4),stb c 277 [vi d.2.2],stb n 175 [vi 0,vi 0],stb m 231 E,kp b,stb a 231 C] _),?_⟩
    clear hp zz AO pz hw hw1
    refine wjN ?_
    letI:Rnd:=tn b
    exact Lt<|Oi (D:=fun(g:Nat×Int×List z2×Option Addr×Nat)=>g.1) (G:=Nat×Int×List z2×Option Addr×Nat) ⟨b,d.2.2,d.2.1,aG,aH⟩ h .q<|.s5 .h3 .h2 .here .here .h1
  ·rintro X y o Y aa h
   replace h:=(aK y o).symm.trans h
   letI:Rnd:=tn X
   refine WC.b<|B0q<|Le 35 (xB se)<|Le 36 (Nu z6q .h1)<|Q1n U<|Lj h (fun aX h=>?_)<|fun aX h=>?_
   ·refine WC.b<|Lu (fun i=>[3].contains i) [rb c 277 [(0,vi y)]]<|Lf 0 U (wl (v:=(.agg #[vi 0,vi 0])) (Lq (l:=[]) .nil []))<|Lf 1 U (xB se)<|L8 2 U (wJ.wk (.cons .h1 .nil)<|.stb (.cons U .nil) .nil) (xC z6q U<|mG .here<|.head _)<|WD.forced0 (i:=3) U (wJ.wk (.cons .h1 .nil)<|.stb (.cons U .nil) .nil) (xR z16 .here)<|Lf 4 U q_z<|N1<|Lb<|Nz<|Ll ?_
    obtain rfl:=oJ h
    exact Ok .h4 results127 (.agg U zg U (xO .h1)<|.tmp U .nil)<|fun w hw=>⟨qc,hw.sub .nil⟩
   ·refine Np<|WC.b<|cK h fun ad h=>Ld<|Le 41 (Nu zdT .h2)<|N5 (fun w hw=>Hp.vf .h3 hw (by intro hz';have:=ad;rw[hz'] at this;omega)) ?_
    rintro⟨a4,rfl⟩
    refine Le 42 (xZ z41 ad.1 ad.2 wF)<|Le 43 (wo (cs:=(w4<|nth o 0)) zg<|vQ .h3<|wN (enc:=w4) (l:=o) (i:=0) (sz:=2) ad.1 ad.2)<|Lk (xR z16 .here)<|Q1n U<|Nz ?_
    obtain rfl:=oJ h
    exact Ok .h4 results127 (.agg U zg U (xO .h1)<|.tmp U .nil)<|fun w hw=>⟨qc,hw.sub .nil⟩
def ta(a:List (List z8))(b:yv):Option (z2×Int):=
 (fY a b a b []).bind fun c=>some (c.1,c.2)
theorem Xv{Z c d b a r}(h:ta b a=some r){Ny}(hz:PZ [] Ny Z)(e:ZS Z 1 (jW Z) c d b):
  RC 81 #[vs c b.length d,.agg #[vi a.fR.fN,vi a.fR.fD,vi a.fL.fN,vi a.fL.fD]] Ny (.tuple #[.agg #[vi r.1.fN,vi r.1.fD],vi r.2]) [] []:=by
 unfold ta at h
 refine L0 func81 U U ?_
 let A:Value:=(vs c b.length d);refine B0q<|Lh 2 (we (cs:=[A])) ?_
 intro f _
 refine Lh 3 (we (cs:=[vi a.fR.fN,vi a.fR.fD,vi a.fL.fN,vi a.fL.fD])) fun g _=>Lh 4 (xV (cs:=[vi 0,vi 0]) z1F U) fun j _=>Q1n U<|B0q<|Le 7 (Nu zj6 .h2)<|Le 8 (xN ztR (xO .h1))<|Le 9 (wl (v:=(.agg #[A,vi a.fR.fN,vi a.fR.fD,vi a.fL.fN,vi a.fL.fD,.nilFunc,vn])) (Lq (l:=[.tmp 7,.tmp 8]) (.r2 U U) [0,1])) (Lh 6 (xV (cs:=[vn,vi 0,vi 0,vi 0,vi 0,.nilFunc,vn]) zM4 U) fun k _=>Lk (xR zM5 .here)<|Q0n<|B0q<|Le 10 (wO<|L5 (l:=[.tmp 2,.tmp 3])<|.r2 U U)<|Le 11 (xB eW)<|Lk (jl (ds:=[A,vi a.fR.fN,vi a.fR.fD,vi a.fL.fN,vi a.fL.fD,.func (.func 122) #[] #[vp f,vp g],vn]) zM6 .here)<|Q0n<|WC.b ?_)
 exact bK h fun m i h=>Ld<|Le 12 (xN zoK (xO .here))<|Lo 13 (Nt call127) .nil (uB hz .nil (.s2 .h3 .h2) fun w pz ho la=>dX i pz ((e.mono<|zl).weak (fun _ _ h=>gq zl h)) ((e.mono<|zl).weak (fun _ _ h=>gq zl h)) ((la _ (.head _) _).stb) ((la _ (.tail _<|.head _) _).stb)<|ZS.nil _ _ _)<|Q2q U<|Lk (xR z16 .h1)<|Q1n U<|Nz<|oJ h▸Nn results81 (.agg U zg U (xO .here)<|.tmp U .nil) .nil
def mA(g:yu)(b:z2)(h:List (List z8))(c:yv):Option (z2×yu):=
 (gj g h b).bind fun a=>(qa b c.fL).bind fun i=>if decide (i<=0) then some (a.1,a.2) else(vC a.2 (fun y0 y1=>jB y0 y1) b c.fL).bind fun d=>(vC d.2 (fun y0 y1=>gz y0 y1) c.fR d.1).bind fun e=>(vC e.2 (fun y0 y1=>jB y0 y1) a.1 e.1).bind fun f=>some (f.1,f.2)
theorem n7{Z b g j k l d c e a r}(h:mA d c e a=some r){Ny}(hz:Pz [stb b 277 [vi d.fE]] Ny Z)(n:ZS Z 1 (jW Z) j k e)(o:ZC Z g [vs j e.length k])(f:ZC Z l [vi a.fR.fN,vi a.fR.fD,vi a.fL.fN,vi a.fL.fD])(iF:Ho Ny [stb b 277 [vi d.fE]]):
  RF 128 #[vp b,.agg #[vi c.fN,vi c.fD],vq g,vq l] Ny (.agg #[vi r.1.fN,vi r.1.fD]) [stb b 277 [vi d.fE]] [stb b 277 [vi r.2.fE]]:=by
 unfold mA at h
 refine H3 func128 U iF U<|B0q (Lh 5 (we (cs:=[vi c.fN,vi c.fD])) fun z _=>Lh 6 (xV (cs:=[vi 0,vi 0]) z1F U) fun B _=>Q0n<|WC.b ?_)
 refine bK h fun m p h=>D1q U<|Le 9 (xC zj6 U<|kz hz.pv o)<|Le 10 (xN zg (xO .h1))<|Lo 11 (Nt call126) (.cons .h2 .nil) (cc hz (.cons .h2 .nil) fun w pz ho=>oF p pz n ho) (Lh 7 (xV (cs:=[vi 0,vi 0]) z1F U) fun q _=>Lk (xR z16 .here)<|Q0n<|WC.b<|WC.b ?_)
 obtain⟨C,t,h⟩:=za h
 let A:List Value:=[vi a.fL.fN,vi a.fL.fD];refine Ld<|Le 12 (xN zg (xO .h3))<|Le 13 (xB lO)<|Le 14 (wo (cs:=A) zg<|dH (off:=2) (s:=2) hz.pv f U)<|Ns call129 hz (uf t)<|Q1n U<|Lj h (fun u h=>?_)<|fun u h=>?_
 ·exact B0q<|Le 17 (xN zg (xO .here))<|Lk (xR z16 .h2)<|Q0n<|Nz<|Ll<|oJ h▸Nn results128 (.agg U zg U (xO .here) .nil) (.cons .h2 .nil)
 ·refine Np<|WC.b<|bK h fun D v h=>bK h fun E x h=>bK h fun F y h=>Lu (fun i=>[9,10,11,12].contains i) [stb q 175 [vi m.1.fN,vi m.1.fD]]<|Lf 0 U q_m<|L8 1 U (wJ.of<|.cons .here .nil) (xN zg (xO .here))<|Lf 2 U q_m<|Lf 3 U (xB cQ)<|L8 4 U (wJ.of<|.cons .here .nil) (wo (cs:=[vi a.fR.fN,vi a.fR.fD]) zg<|dH (off:=0) (s:=2) hz.pv f U)<|Lf 5 U q_m<|Lg 6 U (xN zg (xO .h3))<|Lf 7 U (xB lO)<|Lg 8 U (wo (cs:=A) zg<|dH (off:=2) (s:=2) hz.pv f U) (WD.call0 (i:=9) U U (.inl ⟨U,(wJ.of<|.cons .h1 .nil)⟩) (Nt call123) (.cons .h1 .nil) (cc hz (.cons .h1 .nil) fun w pz ho=>Calls.mono (kO (zan:=124) (zcz:=[]) (zbj:=(fun y0 y1=>jB y0 y1)) v pz call124 (fun w' hz' y0 y1  r  hr=>iA hr hz' ) ho)<|fun _ _ h'=>⟨h'.1,trivial,h'.2⟩) fun _=>WD.call0 (i:=10) U U (.inl ⟨U,(wJ.of<|.cons .h1 .nil)⟩) (Nt call123) (.cons .here .nil) (cc hz (.cons .here .nil) fun w pz ho=>Calls.mono (kO (zan:=120) (zcz:=[]) (zbj:=(fun y0 y1=>gz y0 y1)) x pz call120 (fun w' hz' y0 y1  r  hr=>aM hr hz' ) ho)<|fun _ _ h'=>⟨h'.1,trivial,h'.2⟩) fun _=>WD.call0 (i:=11) U U (.inl ⟨U,(wJ.of<|.cons .h1 .nil)⟩) (Nt call123) (.cons .here .nil) (cc hz (.cons .here .nil) fun w pz ho=>Calls.mono (kO (zan:=124) (zcz:=[]) (zbj:=(fun y0 y1=>jB y0 y1)) y pz call124 (fun w' hz' y0 y1  r  hr=>iA hr hz' ) ho)<|fun _ _ h'=>⟨h'.1,trivial,h'.2⟩) fun _=>Na (i:=12) U (xR z16 .h2)<|N1<|Lb<|Nz ?_)
  exact oJ h▸Nn results128 (.agg U zg U (xO .here) .nil) (.cons .h1 .nil)
def km(c:List (List z8))(d:yv)(e:z2)(a:List z2)(f:Int):Option (Bool×(Nat×List z2×Int)):=
 (mA (⟨f⟩:yu) e c d).bind fun b=>(if decide ((a.length:Int)=0) then some true else chk ((0:Int)<=0/\0<(a.length:Int)) ((qa b.1 (⟨(nth a 0).fN,(nth a 0).fD⟩:z2)).bind fun g=>some (decide (g>0)))).bind fun h=>if h then some (true,(0,([b.1]:List z2),b.2.fE)) else some (true,(0,a,b.2.fE))
def fg(d:List (List z8))(j:yv)(a:List (List z8))(b:yv)(e:List z2):Option (z2×Int):=
 (qW d j a b e).bind fun g=>if decide (g≠0) then some ((⟨0,0⟩:z2),g) else sm (fun(h:Int) (f:List z2)=>if decide (h≠0) then some ((⟨0,0⟩:z2),h) else chk ((0:Int)<=0/\0<(f.length:Int)) (some ((⟨(nth f 0).fN,(nth f 0).fD⟩:z2),0))) fun k=>(kE d j a b e).bind fun c=>(qu (Nat×List z2×Int) (fun(x:z2) (s:Nat×List z2×Int)=>chk (s.1=0) (km a b x s.2.1 s.2.2)) (0,([]:List z2),0) d (⟨(⟨c.1,c.2.1⟩:z2),(⟨c.2.2.1,c.2.2.2⟩:z2)⟩:yv) a b e).bind fun i=>k i.2.2 i.2.1
theorem dp{Z ae af ag ao ap ah ai aj V j T t W r}(h:fg V j T t W=some r){Ny}(hz:PZ [] Ny Z)(aq:ZS Z 1 (jW Z) ae af V)(ak:ZS Z 1 (jW Z) ao ap T)(al:ZC Z ag [vs ao T.length ap])(am:ZC Z ah [vi t.fR.fN,vi t.fR.fD,vi t.fL.fN,vi t.fL.fD])(ar:ZS Z 2 (rq w4) ai aj W):
  RC 127 #[.agg #[vs ae V.length af,vi j.fR.fN,vi j.fR.fD,vi j.fL.fN,vi j.fL.fD,.func (.func 128) #[] #[vq ag,vq ah],vs ai W.length aj]] Ny (.tuple #[.agg #[vi r.1.fN,vi r.1.fD],vi r.2]) [] []:=by
 unfold fg at h
 let F:Value:=(.func (.func 128) #[] #[vq ag,vq ah]);let M:Value:=(vs ae V.length af);let N:Value:=(vs ai W.length aj);let H:Value:=(.agg #[M,vi j.fR.fN,vi j.fR.fD,vi j.fL.fN,vi j.fL.fD,F,N]);refine Of (vs:=[H]) (pre:=[]) (env:=[(0,H)]) func127 U ntmps127 U (Hp.nil Ny _) U ?_
 let E:List Value:=[M,vi j.fR.fN,vi j.fR.fD,vi j.fL.fN,vi j.fL.fD,F,N];refine B0q<|Lh 1 (we (cs:=E)) ?_
 intro m _
 refine Lh 2 (xV (cs:=[vi 0,vi 0]) z1F U) fun n _=>Q1n U<|WC.b<|WC.b<|bK h fun aX aI h=>Ld<|Le 9 (xN zoK (xO .h1))<|Ns call163 hz (fun pz=>pV aI pz aq ak al am ar)<|Q1n U<|B2n U<|Lj h (fun aJ h=>?_)<|fun aJ h=>?_
 ·exact B0q<|Le 13 (wl (v:=(.agg #[vi 0,vi 0])) (Lq (l:=[]) .nil []))<|La U<|Lk (xR z16 .here)<|Q1n U<|Nz<|Ll<|oJ h▸Pd results127 (.agg U zg U (xO .here)<|.tmp U .nil) fun w hw=>⟨qc,hw.sub .nil⟩
 ·refine Np<|B0q (Lh 5 (xV (cs:=[vi 0]) zCS U) fun c _=>Q0n<|B0q (Lh 6 (xV (cs:=[vn]) zCT U) fun k _=>Q0n ?_))
  refine jK2 h fun aY aK h=>P5 (fun X y o Y aa=>(aY y o=some r)) (fun X y o Y aa=>[(2,vp n),(5,vp c),(6,vp k)]) (fun X y o Y aa=>[stb n 175 [vi 0,vi 0],stb c 277 [vi y],stb k 229 [vs Y o.length aa],row (vs Y o.length aa) 175 2 (o.flatMap w4),kp X]) ?_ ?_
  ·refine WC.b<|bK h fun u aL h=>Ld<|Le 15 (xN zoK (xO .h3))<|Pg U U U (Nt call164) .nil (cc hz .nil fun w pz ho=>pC aL pz aq ak al am ar) ?_
   rintro a _
   refine Q0n<|WC.block<|WC.drop (.s5 .h1 .h1 .h1 .h1 .here)<|WC.nilRow 175 2<|H7 (f:=201) (caps:=[vp a]) U call201 ?_
   intro a0 a1 p b z an aM aN w hw
   let P:Value:=(vs none (([]:List z2).length) 0);let A:List Asrt:=[stb k 229 [P],row P 175 2 (([]:List z2).flatMap w4),stb c 277 [vi 0],stb n 175 [vi 0,vi 0],stb m 231 E,wq p (z .ready none)];have hw1:=hw.selAll ((.s6 .h3 .h2 .h2 .h2 .h2 .here):Sel _ A _)
   let C:List Value:=[M,vi u.1,vi u.2.1,vi u.2.2.1,vi u.2.2.2,F,N];have pz:=(hz.call hw1 ((.cons .here .nil):Sel [qv A,kp b,stb a 231 C] [qv A] [kp b,stb a 231 C])).lend hw1 ((.cons .here .nil):Sel [qv A,kp b,stb a 231 C] [qv A] [kp b,stb a 231 C]) (B:=[stb a 231 C]) (fun _ hx'=>((.cons .h1 .nil):Sel _ [stb a 231 C] _).mem hx')
   refine bK h fun d aO h=>Calls.mono (rC (zbn:=p) (z5F:=(Option Addr×Nat)) (z3E:=(fun(g:Option Addr×Nat) (s:Nat×List z2×Int)=>qv ([stb k 229 [vs g.1 s.2.1.length g.2],row (vs g.1 s.2.1.length g.2) 175 2 (s.2.1.flatMap w4),stb c 277 [vi s.2.2],stb n 175 [vi 0,vi 0],stb m 231 E]++[wq p (z (rW<|uk [] s.1)<|uk [] s.1)]))) (z9D:=(fun(g:Option Addr×Nat) (s:Nat×List z2×Int)=>True)) (zep:=(none,0)) (zeq:=⟨a,0,none⟩) (zh0:=ae) (zh1:=af) (zzz:=ag) (zzA:=ao) (zzB:=ap) (zzC:=ah) (zqL:=ai) (zqM:=aj) (zZ:=(Nat×List z2×Int)) (z3t:=(fun(x:z2) (s:Nat×List z2×Int)=>chk (s.1=0)<|km T t x s.2.1 s.2.2)) (zao:=(0,([]:List z2),0)) (z4g:=V) (zkq:=(⟨(⟨u.1,u.2.1⟩:z2),(⟨u.2.2.1,u.2.2.2⟩:z2)⟩:yv)) (zqK:=T) (zkr:=t) (z4t:=W) (r:=d) pz ?_ trivial ((aq.mono<|zl).weak (fun _ _ h=>gq zl h)) ((ak.mono<|zl).weak (fun _ _ h=>gq zl h)) (al.mono<|zl) (am.mono<|zl) (ar.mono<|zl) ((hw1.lent ((.cons .here .nil):Sel [qv A,kp b,stb a 231 C] [qv A] [kp b,stb a 231 C]) (B:=[stb a 231 C]) (fun _ hx'=>((.cons .h1 .nil):Sel _ [stb a 231 C] _).mem hx') (.head _) _).stb) aO<|hw1.owns ((.cons .here .nil):Sel [qv A,kp b,stb a 231 C] [qv A] [kp b,stb a 231 C])) ?_
   ·refine bQ (LI:=(fun(g:Option Addr×Nat) (s:Nat×List z2×Int)=>[stb k 229 [vs g.1 s.2.1.length g.2],row (vs g.1 s.2.1.length g.2) 175 2 (s.2.1.flatMap w4),stb c 277 [vi s.2.2],stb n 175 [vi 0,vi 0],stb m 231 E])) (pc:=(fun(s:Nat×List z2×Int)=>uk [] s.1)) an aM aN ?_
    rintro au _ ⟨az,aA⟩ ⟨aP,q,aB⟩ aQ aR Fb wb aC _ hz
    replace hz:=hz.left
    letI:Rnd:=bP p
    obtain⟨Af,e⟩:=xI aC
    replace Af:aP=0:=Af;subst Af;clear aC
    replace e:km T t au q aB=some (aQ,aR):=e
    unfold km at e
    let I:Value:=(vs az q.length aA);let K:Value:=(.agg #[vi au.fN,vi au.fD]);let Q:Value:=(.bool (decide (aX≠0)));refine WC.restr (env':=[(1,vp m),(12,Q),(5,vp c),(6,vp k),(17,K)]) (.qo U)<|Ov (L':=[stb k 229 [I],row I 175 2 (q.flatMap w4),stb c 277 [vi aB],stb n 175 [vi 0,vi 0],stb m 231 E,wq p (z .ready none)]) U<|Ld<|Lh 7 (xV (cs:=[vi 0,vi 0]) z1F U) ?_
    intro aS _
    refine Lk (xR z16 .here)<|WL.nil<|Oc an .h6<|WC.block<|WC.b ?_
    obtain⟨R,aT,e⟩:=za e
    refine Ld<|Le 18 (xB eW)<|Le 19 (Nu zMc .h6)<|Le 20 (xN zg (xO .h1))<|Lo 21 (qk (l:=[.tmp 5,.tmp 20]) call128<|.r2 U U) (.cons .h4 .nil) (cc hz (.cons .h4 .nil) fun w pz ho=>n7 aT pz ak al am ho) (Lh 8 (xV (cs:=[vi 0,vi 0]) z1F U) fun aU _=>Lk (xR z16 .here)<|Q0n<|WC.b ?_)
    obtain⟨aZ,aD,e⟩:=za e
    let O:Value:=(.bool (decide ((q.length:Int)=0)));refine Lu nc []<|Lg 0 U (Nu zdT .h4)<|Lf 1 U (wc underlying229)<|Lf 2 U (eI U U)<|Lf 3 U q_m<|Nd (fuel':=0) [(1,vp m),(12,Q),(5,vp c),(6,vp k),(17,K),(7,vp aS),(18,(.pointer<|some ⟨m,5,none⟩)),(19,F),(20,K),(21,.agg #[vi R.1.fN,vi R.1.fD]),(8,vp aU),(22,I),(23,vi (q.length:Int)),(24,O),(25,O),(32,.bool aZ)] (vE 11 (dn 11)) ?_<|fun aE=>?_
    rotate_left
    ·rcases Bool.eq_false_or_eq_true (decide ((q.length:Int)=0)) with hb' | hb'
     ·have av:=hb';clear hb'
      have aw:=ju aD av
      replace aw:=oJ aw
      refine L3 (i:=25) U av<|Lm 4 U<|Lm 5 U<|Lm 6 U<|Lm 7 U<|Lm 8 U<|Lm 9 U<|Lf 10 U qO<|Lw .a8 ?_ aE
      exact .t 14<|.r2 (zx<|Eq.symm av)<|zx aw
     ·have ax:=hb';clear hb'
      have S:=jv aD ax
      obtain⟨ab,S⟩:=xI S
      obtain⟨a4,aV,S⟩:=za S
      replace S:=oJ S
      refine L3 (i:=25) U ax<|Lg 4 U (xN zg (xO .here))<|Lg 5 U (Nu zdT .h4)<|Nk (fun w hw=>Hp.vf .h5 hw (by intro hz';have:=ab;rw[hz'] at this;omega)) ?_
      rintro⟨a2,rfl⟩
      refine Lf 6 U (xZ z41 ab.1 ab.2 wF)<|Lg 7 U (wo (cs:=(w4<|nth q 0)) zg<|vQ .h5<|wN (enc:=w4) (l:=q) (i:=0) (sz:=2) ab.1 ab.2)<|L4 8 U (Nt call129) (cc hz .nil fun w pz ho=>uf aV pz )<|Lf 9 U rV<|Lf 10 U qP<|Lw .a8 ?_ aE
      exact .t 14<|.r2 (zx<|Eq.symm ax)<|zx S
    refine N1<|Lb<|WC.cond U (fun ay=>?_)<|fun ay=>?_
    ·replace e:=ju e ay
     refine Ld<|Le 33 (xN zg (xO .here)) (Lh 34 (wn (cs:=([R.1]:List z2).flatMap w4) z41 (Lq (l:=[.tmp 33]) (.cons U .nil) [0])) fun aF _=>Lk (xR zCU .h5)<|WL.nil<|Lt ?_)
     obtain⟨rfl,rfl⟩:=cM e
     let L:Value:=(vs (some ⟨aF,0,none⟩) (([R.1]:List z2).length) 1);exact Oj an .h4<|fun w' oL=>⟨(some ⟨aF,0,none⟩,1),U,trivial,(oL.selAll ((.s6 .h1 .h1 .h2 .h4 .h4 .here):Sel _ [stb k 229 [L],row L 175 2 (([R.1]:List z2).flatMap w4),stb c 277 [vi R.2.fE],stb n 175 [vi 0,vi 0],stb m 231 E,wq p (z .ready none)] _)).sub (.cons .here .nil)⟩
    ·replace e:=jv e ay
     refine N3<|Lt ?_
     obtain⟨rfl,rfl⟩:=cM e
     exact Oj an .h2<|fun w' oL=>⟨(az,aA),U,trivial,(oL.selAll ((.s6 .h4 .h4 .h2 .h3 .h3 .here):Sel _ [stb k 229 [I],row I 175 2 (q.flatMap w4),stb c 277 [vi R.2.fE],stb n 175 [vi 0,vi 0],stb m 231 E,wq p (z .ready none)] _)).sub (.cons .here .nil)⟩
   ·rintro _ w' ⟨⟨aG,aH⟩,rfl,_,hp⟩
    have zz:=hw1.call ((.cons .here .nil):Sel [qv A,kp b,stb a 231 C] [qv A] [kp b,stb a 231 C]) hp
    let J:Value:=(vs aG d.2.1.length aH);have AO:Hp _ _ w' [stb k 229 [J],row J 175 2 (d.2.1.flatMap w4),stb c 277 [vi d.2.2],stb n 175 [vi 0,vi 0],stb m 231 E,wq p (z (rW (uk [] d.1)) (uk [] d.1)),kp b,stb a 231 C]:=zz.pickAll .here
    refine⟨_,uk [] d.1,_,U,AO.sub ((.s8 .h5 .here .here .here .here .here .here .here):Sel _ [wq p (z (rW (uk [] d.1)) (uk [] d.1)),stb k 229 [J],row J 175 2 (d.2.1.flatMap w4),stb c 277 [vi d.2.2],stb n 175 [vi 0,vi 0],stb m 231 E,kp b,stb a 231 C] _),?_⟩
    clear hp zz AO pz hw hw1
    refine wjN ?_
    letI:Rnd:=tn b
    exact Lt<|Oi (D:=fun(g:Nat×Int×List z2×Option Addr×Nat)=>g.1) (G:=Nat×Int×List z2×Option Addr×Nat) ⟨b,d.2.2,d.2.1,aG,aH⟩ h .q<|.s5 .h3 .h2 .here .here .h1
  ·rintro X y o Y aa h
   replace h:=(aK y o).symm.trans h
   letI:Rnd:=tn X
   refine WC.b<|B0q<|Le 35 (xB se)<|Le 36 (Nu z6q .h1)<|Q1n U<|Lj h (fun aW h=>?_)<|fun aW h=>?_
   ·refine WC.b<|Lu (fun i=>[3].contains i) [rb c 277 [(0,vi y)]]<|Lf 0 U (wl (v:=(.agg #[vi 0,vi 0])) (Lq (l:=[]) .nil []))<|Lf 1 U (xB se)<|L8 2 U (wJ.wk (.cons .h1 .nil)<|.stb (.cons U .nil) .nil) (xC z6q U<|mG .here<|.head _)<|WD.forced0 (i:=3) U (wJ.wk (.cons .h1 .nil)<|.stb (.cons U .nil) .nil) (xR z16 .here)<|Lf 4 U q_z<|N1<|Lb<|Nz<|Ll ?_
    obtain rfl:=oJ h
    exact Ok .h4 results127 (.agg U zg U (xO .h1)<|.tmp U .nil)<|fun w hw=>⟨qc,hw.sub .nil⟩
   ·refine Np<|WC.b<|cK h fun ad h=>Ld<|Le 41 (Nu zdT .h2)<|N5 (fun w hw=>Hp.vf .h3 hw (by intro hz';have:=ad;rw[hz'] at this;omega)) ?_
    rintro⟨a3,rfl⟩
    refine Le 42 (xZ z41 ad.1 ad.2 wF)<|Le 43 (wo (cs:=(w4<|nth o 0)) zg<|vQ .h3<|wN (enc:=w4) (l:=o) (i:=0) (sz:=2) ad.1 ad.2)<|Lk (xR z16 .here)<|Q1n U<|Nz ?_
    obtain rfl:=oJ h
    exact Ok .h4 results127 (.agg U zg U (xO .h1)<|.tmp U .nil)<|fun w hw=>⟨qc,hw.sub .nil⟩
def uh(b:List (List z8))(a:yv):Option (z2×Int):=
 (fg b a b a ([a.fL]:List z2)).bind fun c=>some (c.1,c.2)
theorem aQ{Z c d b a r}(h:uh b a=some r){Ny}(hz:PZ [] Ny Z)(e:ZS Z 1 (jW Z) c d b):
  RC 82 #[vs c b.length d,.agg #[vi a.fR.fN,vi a.fR.fD,vi a.fL.fN,vi a.fL.fD]] Ny (.tuple #[.agg #[vi r.1.fN,vi r.1.fD],vi r.2]) [] []:=by
 unfold uh at h
 refine L0 func82 U U ?_
 let C:Value:=(vs c b.length d);refine B0q<|Lh 2 (we (cs:=[C])) ?_
 intro f _
 refine Lh 3 (we (cs:=[vi a.fR.fN,vi a.fR.fD,vi a.fL.fN,vi a.fL.fD])) fun g _=>Lh 4 (xV (cs:=[vi 0,vi 0]) z1F U) fun k _=>Q1n U<|B0q<|Le 7 (Nu zj6 .h2)<|Le 8 (xN ztR (xO .h1))<|Le 9 (xB lO)<|Le 10 (wo (cs:=[vi a.fL.fN,vi a.fL.fD]) zg<|gN (s:=2) .h1 U)<|Lh 11 (wn (cs:=([a.fL]:List z2).flatMap w4) z41 (Lq (l:=[.tmp 10]) (.cons U .nil) [0])) ?_
 intro j _
 let A:Value:=(vs (some ⟨j,0,none⟩) (([a.fL]:List z2).length) 1);refine Le 12 (wl (v:=(.agg #[C,vi a.fR.fN,vi a.fR.fD,vi a.fL.fN,vi a.fL.fD,.nilFunc,A])) (Lq (l:=[.tmp 7,.tmp 8,.tmp 11]) (.r3 U U U) [0,1,3]))<|Lh 6 (xV (cs:=[vn,vi 0,vi 0,vi 0,vi 0,.nilFunc,vn]) zM4 U) ?_
 intro m _
 exact Lk (xR zM5 .here)<|Q0n<|B0q<|Le 13 (wO<|L5 (l:=[.tmp 2,.tmp 3])<|.r2 U U)<|Le 14 (xB eW)<|Lk (jl (ds:=[C,vi a.fR.fN,vi a.fR.fD,vi a.fL.fN,vi a.fL.fD,.func (.func 128) #[] #[vp f,vp g],A]) zM6 .here)<|Q0n<|WC.b<|bK h fun n i h=>Ld<|Le 15 (xN zoK (xO .here))<|Lo 16 (Nt call127) .nil (uB hz .nil (.s3 .h4 .h3 .h1) fun w pz ho la=>dp i pz ((e.mono<|zl).weak (fun _ _ h=>gq zl h)) ((e.mono<|zl).weak (fun _ _ h=>gq zl h)) ((la _ (.head _) _).stb) ((la _ (.tail _<|.head _) _).stb)<|ZA.row (la _ (.tail _<|.tail _<|.head _) _) (RR.flat (enc:=w4)) ⟨w,pz.1⟩)<|Q2q U<|Lk (xR z16 .h2)<|Q1n U<|Nz<|oJ h▸Nn results82 (.agg U zg U (xO .here)<|.tmp U .nil) .nil
def qK(b:z2×Int)(c:z2×Int)(e:Int->Option (ys×Int×(List (ym×z2))×(List (z6×Int)))):Nat->Int->Int->Option (ys×Int×(List (ym×z2))×(List (z6×Int)))
 | 0,_,_=>none
 | h+1,a,d=>if decide (a<(([b.2,c.2]:List Int).length:Int)) then qt (fun(i:Int)=>qK b c e h (i64 (a+1)) i) fun f=>chk (0<=a/\a<(([b.2,c.2]:List Int).length:Int)) (qt (fun(j:Int)=>if decide (d=0) then f j else f d) fun g=>if decide ((nth ([b.2,c.2]:List Int) a)=6) then g 352 else g (nth ([b.2,c.2]:List Int) a)) else e d
def uE(b:zy)(k:List (List zd))(l:List (ym×z2))(d:List (z6×Int))(m:Int)(a:z6):Option (ys×Int×(List (ym×z2))×(List (z6×Int))):=
 (mR b k l d m a).bind fun c=>sm (fun(e:List (List z8)) (n:Int)=>chk (0<=a.fQ/\a.fQ<b.fK.length) ((jK n).bind fun f=>(ta e (⟨(⟨1,(nth b.fK a.fQ).yp⟩:z2),f⟩:yv)).bind fun g=>(uh e (⟨(⟨1,(nth b.fK a.fQ).yp⟩:z2),f⟩:yv)).bind fun h=>qt (fun(o:Int)=>(j8 g.1).bind fun i=>(j8 h.1).bind fun p=>some (({a with yl:=(xK (w7 d a i) a 0),fT:=i64 (p+c.2.1)}:ys),o,c.2.2.2,w7 d a i)) fun q=>qK g h q xT 0 c.2.2.1)) fun j=>if decide ((i64 (a.ya-(b.fM.length:Int)))>=0) then chk (0<=(i64 (a.ya-(b.fM.length:Int)))/\(i64 (a.ya-(b.fM.length:Int)))<b.fS.length) (j c.1 ((nth b.fS (i64 (a.ya-(b.fM.length:Int)))).yl)) else j c.1 0
theorem YL{Z d S T V W X Y aa ab ad ae af ag ah ai aj al am an b c a B au o av f r}(h:uE a B au o av f=some r){Ny}(hz:Pz [stb d 119 [vs S a.fM.length T,vs V a.ye.length W,vs X a.fS.length Y,vs aa a.fK.length ab,vs ad a.yb.length ae,vs af a.fH.length ag,vs ah a.fU.length ai,vs aj a.yf.length al,vs am B.length an,.map (some b),.map (some c),vi av],xP b (ga jQ) (ga w4) au,xP c (ga wd) vI o] Ny Z)(aH:ZS Z 4 (kB Z) S T a.fM)(aI:ZS Z 4 (g8 Z) V W a.ye)(ax:ZS Z 4 (rq kr) X Y a.fS)(ay:ZS Z 4 (rq gH) aa ab a.fK)(aJ:ZS Z 7 (g7 Z) ad ae a.yb)(aK:ZS Z 5 (rq gf) af ag a.fH)(aL:ZS Z 3 (g9 Z) ah ai a.fU)(aM:ZS Z 4 (rq gg) aj al a.yf)(aN:ZS Z 1 (fm Z) am an B)(iF:Ho Ny [stb d 119 [vs S a.fM.length T,vs V a.ye.length W,vs X a.fS.length Y,vs aa a.fK.length ab,vs ad a.yb.length ae,vs af a.fH.length ag,vs ah a.fU.length ai,vs aj a.yf.length al,vs am B.length an,.map (some b),.map (some c),vi av],xP b (ga jQ) (ga w4) au,xP c (ga wd) vI o]):
  RF 43 #[vp d,.agg #[vi f.ya,vi f.fQ]] Ny (.agg #[vi r.1.ya,vi r.1.fQ,vi r.1.yl,vi r.1.fT]) [stb d 119 [vs S a.fM.length T,vs V a.ye.length W,vs X a.fS.length Y,vs aa a.fK.length ab,vs ad a.yb.length ae,vs af a.fH.length ag,vs ah a.fU.length ai,vs aj a.yf.length al,vs am B.length an,.map (some b),.map (some c),vi av],xP b (ga jQ) (ga w4) au,xP c (ga wd) vI o] [stb d 119 [vs S a.fM.length T,vs V a.ye.length W,vs X a.fS.length Y,vs aa a.fK.length ab,vs ad a.yb.length ae,vs af a.fH.length ag,vs ah a.fU.length ai,vs aj a.yf.length al,vs am B.length an,.map (some b),.map (some c),vi r.2.1],xP b (ga jQ) (ga w4) r.2.2.1,xP c (ga wd) vI r.2.2.2]:=by
 unfold uE at h
 refine Nj func43 U iF U ?_
 let M:List Value:=[vi f.ya,vi f.fQ];refine WC.pool<|B0q<|Lh 3 (we (cs:=M)) ?_
 intro p _
 let C:List Value:=[vi 0,vi 0,vi 0,vi 0];refine Lh 4 (xV (cs:=C) zlY U) ?_
 intro q _
 refine Q0n<|WC.b<|bK h fun e aO h=>D1q U<|Le 18 (xN z71 (xO .h1))<|Ol U (Nt call79) (.s3 .h3 .h3 .h3) (mv hz (.s3 .h3 .h3 .h3) .h2 fun w pz ho=>ak aO pz ((aH.mono<|zl).weak (fun _ _ h=>vc zl h)) ((aI.mono<|zl).weak (fun _ _ h=>vA zl h)) (ax.mono<|zl) (ay.mono<|zl) ((aJ.mono<|zl).weak (fun _ _ h=>ve zl h)) (aK.mono<|zl) ((aL.mono<|zl).weak (fun _ _ h=>vB zl h)) (aM.mono<|zl) ((aN.mono<|zl).weak (fun _ _ h=>qe zl h)) ho) ?_
 rintro t az aA aB aC
 refine WL.merge .here .h6<|Q5n U<|B1n U ?_
 obtain⟨a7,aP,h⟩:=jV h
 let D:Value:=(vs S a.fM.length T);let E:Value:=(vs V a.ye.length W);let F:Value:=(vs X a.fS.length Y);let G:Value:=(vs aa a.fK.length ab);let H:Value:=(vs ad a.yb.length ae);let I:Value:=(vs af a.fH.length ag);let J:Value:=(vs ah a.fU.length ai);let K:Value:=(vs aj a.yf.length al);let L:Value:=(vs am B.length an);refine Ni (fun u ao aq=>(a7 u ao=some r)/\(RR 1 (jW (Z++([]++t))) aq u)) (fun u ao aq=>[(0,vp d),(3,vp p),(4,vp q),(5,vs az u.length aA),(6,vi e.2.1),(7,vi ao)]) (fun u ao aq=>[fz ([]++t),row (vs az u.length aA) 227 1 aq,stb d 119 [D,E,F,G,H,I,J,K,L,(.map<|some b),(.map<|some c),vi e.2.2.1],stb p 121 M,stb q 37 C,xP b (ga jQ) (ga w4) e.2.2.2,xP c (ga wd) vI o]) ?_ ?_
 ·refine WC.b<|Lu nc []<|Lf 0 U (xB lM)<|Lg 1 U (Nu xL .h6)<|Lf 2 U q_m<|Lf 3 U w5<|Lf 4 U (xB sa)<|Lf 5 U (xB uR)<|Lg 6 U (Nu za6 .h2)<|Lf 7 U (wc underlying22)<|Lf 8 U uH<|Lf 9 U q_z<|N1<|Lb<|B2n U<|Lj h (fun aR h=>?_)<|fun aR h=>?_
  ·refine cK h fun aS h=>D1q U<|Le 34 w5<|Le 35 (xB sa)<|Le 36 (xB uS)<|Le 37 (Nu zb4 .h2)<|La U<|L2 (Z:=(Z++([]++t))) (Pr:=(rq kr)) zc5 (ax.mono<|zl.trans (zl.trans xF.wA)) aS ?_
   rintro bd be aT bf rfl
   exact Le 40 (xB dL)<|Le 41 (xC xL U<|wt (hz.pv2 .here) aT)<|La U<|WL.nil<|Lp ⟨e.1,(nth a.fS<|i64 (f.ya-(a.fM.length:Int))).yl,aB⟩ ⟨h,(aC.weak<|fun _ _ h=>gq xF.wA h)⟩ .q<|.s7 .here .here .here .h3 .h2 .here .here
  ·exact N3<|Lp ⟨e.1,0,aB⟩ ⟨h,(aC.weak<|fun _ _ h=>gq xF.wA h)⟩ .q<|.s7 .here .here .here .h3 .h2 .here .here
 ·rintro u ao aq ⟨h,aD⟩
  replace h:=(aP u ao).symm.trans h
  refine WC.b<|cK h fun aU h=>bK h fun aE aV h=>Lu (fun i=>[15].contains i) []<|Lf 0 U q_m<|Lf 1 U w5<|Lf 2 U (xB sa)<|Lf 3 U (xB rI)<|Lg 4 U (Nu zdP .h2)<|Lf 5 U (xB cP)<|Lg 6 U (Nu xL .h3)<|L7 (j:=7) (Z:=(Z++([]++t))) (Pr:=(rq gH)) zj3 (ay.mono<|zl.trans (zl.trans xF.wA)) aU ?_
  rintro bg bh aW bi rfl
  let Q:Value:=(vi ((nth a.fK f.fQ).yp));refine Lf 8 U (xB oD)<|Lg 9 U (xC xL U<|wt (hz.pv2 .here) aW)<|Lf 10 U (wl (v:=(.agg #[vi 1,Q])) (Lq (l:=[.const (vi 1),.tmp 51]) (.r2 U U) [0,1]))<|Lf 11 U q_m<|L4 12 U (Nt call80) (mv hz .nil .here fun w pz ho=>uy aV pz )<|Lf 13 U (wl (v:=(.agg #[vi 1,Q,vi aE.fN,vi aE.fD])) (Lq (l:=[.tmp 52,.tmp 54]) (.r2 U U) [0,1]))<|WD.new (i:=14) U U (xV (cs:=C) zXk U) (fun h'=>absurd h' (by decide)) ?_
  intro bj _
  refine Na (i:=15) U (xR zXl .here)<|N1<|Lb<|WC.b<|bK h fun g aX h=>D1q U<|Le 58 (xN ztR (xO .here))<|Lo 59 (Nt call81) .nil (cN hz .nil .h1 (.cons .h2 .nil) fun w pz ho la=>Xv aX pz<|ZA.row (la _ (.head _) _) (aD.weak<|fun _ _ h=>gq zl h) ⟨w,pz.1⟩)<|Q2q U<|La U (Lh 10 (xV (cs:=[vi 0,vi 0]) z1F U) fun x _=>Lk (xR z16 .here)<|Q1n U<|WC.b ?_)
  refine bK h fun m aY h=>D1q U<|Le 64 (xN ztR (xO .h1))<|Lo 65 (Nt call82) .nil (cN hz .nil .h2 (.cons .h3 .nil) fun w pz ho la=>aQ aY pz<|ZA.row (la _ (.head _) _) (aD.weak<|fun _ _ h=>gq zl h) ⟨w,pz.1⟩)<|Q2q U<|La U (Lh 12 (xV (cs:=[vi 0,vi 0]) z1F U) fun y _=>Lk (xR z16 .here)<|Q1n U ?_)
  obtain⟨aF,aZ,h⟩:=wg h
  let O:List Value:=[vi g.1.fN,vi g.1.fD];let P:List Value:=[vi m.1.fN,vi m.1.fD];refine L6 (fun ap=>(aF ap=some r)) (fun ap=>[(0,vp d),(3,vp p),(4,vp q),(6,vi e.2.1),(10,vp x),(12,vp y)]) (fun ap=>[fz ([]++t),stb d 119 [D,E,F,G,H,I,J,K,L,(.map<|some b),(.map<|some c),vi ap],stb p 121 M,stb q 37 C,stb x 175 O,stb y 175 P,xP b (ga jQ) (ga w4) e.2.2.2,xP c (ga wd) vI o]) ?_ ?_
  ·refine B2q U<|Lh 70 (wn (cs:=([g.2,m.2]:List Int).flatMap e41) zMd (Lq (l:=[.tmp 68,.tmp 69]) (.r2 U U) [0,1])) ?_
   intro a8 _
   let A:Value:=(vs (some ⟨a8,0,none⟩) (([g.2,m.2]:List Int).length) 2);let N:Value:=(vi (([g.2,m.2]:List Int).length:Int));refine Le 71 (wc underlying181)<|Q1n U<|WC.block<|H0 (fun ar n s=>(qK g m aF ar n s=some r)) (fun ar n s=>[(0,vp d),(3,vp p),(4,vp q),(6,vi e.2.1),(10,vp x),(12,vp y),(70,A),(71,N),(72,vi n)]) (fun ar n s=>[fz ([]++t),row A 41 1 (([g.2,m.2]:List Int).flatMap e41),stb d 119 [D,E,F,G,H,I,J,K,L,(.map<|some b),(.map<|some c),vi s],stb p 121 M,stb q 37 C,stb x 175 O,stb y 175 P,xP b (ga jQ) (ga w4) e.2.2.2,xP c (ga wd) vI o]) (fun ar n s=>ar) ⟨xT,0,e.2.2.1⟩ h .q (.s9 .h4 .here .h4 .h4 .h4 .h1 .here .h2 .h2) ?_
   rintro(_|a9) n s h;·cases h
   rw[qK] at h
   refine B1n U<|WC.b<|Lj h (fun a0 h=>?_)<|fun a0 h=>?_
   ·refine Np<|jK1 h fun ba a1 h=>L6 (fun R=>(ba R=some r)) (fun R=>[(0,vp d),(3,vp p),(4,vp q),(6,vi e.2.1),(10,vp x),(12,vp y),(70,A),(71,N),(72,vi n)]) (fun R=>[fz ([]++t),row A 41 1 (([g.2,m.2]:List Int).flatMap e41),stb d 119 [D,E,F,G,H,I,J,K,L,(.map<|some b),(.map<|some c),vi R],stb p 121 M,stb q 37 C,stb x 175 O,stb y 175 P,xP b (ga jQ) (ga w4) e.2.2.2,xP c (ga wd) vI o]) ?_ ?_
    ·refine WC.block<|WC.b<|cK h fun aw h=>Ld<|Le 74 (xZ zMd aw.1 aw.2 wF)<|Le 75 (xC z6q U<|sj .h1<|(wN (enc:=e41) (l:=([g.2,m.2]:List Int)) (i:=n) (sz:=1) aw.1 aw.2) 0 _ U)<|Q1n U<|jK1 h fun bb a2 h=>L6 (fun z=>(bb z=some r)) (fun z=>[(0,vp d),(3,vp p),(4,vp q),(6,vi e.2.1),(10,vp x),(12,vp y),(15,vi z),(70,A),(71,N),(72,vi n)]) (fun z=>[fz ([]++t),row A 41 1 (([g.2,m.2]:List Int).flatMap e41),stb d 119 [D,E,F,G,H,I,J,K,L,(.map<|some b),(.map<|some c),vi s],stb p 121 M,stb q 37 C,stb x 175 O,stb y 175 P,xP b (ga jQ) (ga w4) e.2.2.2,xP c (ga wd) vI o]) ?_ ?_
     ·refine B2n U<|Lj h (fun a3 h=>?_)<|fun a3 h=>?_
      ·exact D1q U<|WL.nil<|Lp 352 h .q<|.a9
      ·exact N3<|Lp (nth ([g.2,m.2]:List Int) n) h .q<|.a9
     ·rintro z h
      replace h:=(a2 z).symm.trans h
      refine B1q U<|Le 79 w5<|Le 80 (xB lN)<|Le 81 (Nu z6q .h2)<|Q1n U<|Lj h (fun a4 h=>?_)<|fun a4 h=>?_
      ·exact D2q U<|Le 85 w5<|Le 86 (xB lN)<|Lk (jl (ds:=[D,E,F,G,H,I,J,K,L,(.map<|some b),(.map<|some c),vi z]) ztQ .h2)<|WL.nil<|Lt<|Lp z h .q<|.s9 .h1 .h1 .here .here .here .here .here .here .here
      ·exact N3<|Lt<|Lp s h .q<|.a9
    ·rintro R h
     replace h:=(a1 R).symm.trans h
     exact D2q U<|WL.nil<|N0 ⟨a9,i64 (n+1),R⟩ h .q<|.a9
   ·exact N2<|Ln<|Ln<|Lv<|Lp s h .q<|.s8 .here .h1 .h1 .h1 .h1 .h1 .h1 .h1
  ·rintro ap h
   replace h:=(aZ ap).symm.trans h
   exact WC.b<|bK h fun aG a5 h=>Lu (fun i=>[7].contains i) []<|Lf 0 U q_m<|Lf 1 U w5<|Lf 2 U (xB Xo)<|Lg 3 U (Nu ztP .h1)<|Lg 4 U (xN z71 (xO .h2))<|Lg 5 U (xN zg (xO .h4))<|L4 6 U (Nt call83) (mv hz .nil .here fun w pz ho=>og a5 pz )<|Na (i:=7) U (kJ (k:=f) (v:=aG) zj5 underlying117 .h7)<|N1<|Lb<|WC.b<|bK h fun bc a6 h=>Lu (fun i=>[15].contains i) []<|Lf 0 U (xB lM)<|Lg 1 U (Nu xL .h3)<|Lf 2 U (xB cP)<|Lg 3 U (Nu xL .h3)<|Lf 4 U q_m<|Lf 5 U w5<|Lf 6 U (xB Xo)<|Lg 7 U (Nu ztP .h2)<|Lg 8 U (xN z71 (xO .h3))<|Lg 9 U (jk (k:=f) (dflt:=(0:Int)) zj5 underlying117 jc .here)<|Lg 10 U (xN zg (xO .h6))<|L4 11 U (Nt call83) (mv hz .nil .h1 fun w pz ho=>og a6 pz )<|Lf 12 U q_m<|Lf 13 U uG<|Lf 14 U (wl (v:=(.agg #[vi f.ya,vi f.fQ,(vi<|xK (w7 o f aG) f 0),(vi<|i64 (bc+e.2.1))])) (Lq (l:=[.tmp 96,.tmp 98,.tmp 104,.tmp 108]) (.r4 U U U U) [0,1,2,3]))<|Na (i:=15) U (xR zj7 .h4)<|N1<|Lb<|Nz<|oJ h▸Nn results43 (.agg U zdU U (xO .here) .nil) (.s3 .h3 .h6 .h1)
def qY(a:ys)(b:ys):Option Int:=
 (vW (⟨a.ya,a.fQ⟩:z6) (⟨b.ya,b.fQ⟩:z6)).bind fun c=>some c
theorem YM{Z a b r}(h:qY a b=some r){Ny}(hz:PZ [] Ny Z):
  RC 44 #[.agg #[vi a.ya,vi a.fQ,vi a.yl,vi a.fT],.agg #[vi b.ya,vi b.fQ,vi b.yl,vi b.fT]] Ny (vi r) [] []:=by
 unfold qY at h
 refine L0 func44 U U<|B0q (Lh 2 (we (cs:=[vi a.ya,vi a.fQ,vi a.yl,vi a.fT])) fun d _=>Lh 3 (we (cs:=[vi b.ya,vi b.fQ,vi b.yl,vi b.fT])) fun e _=>Q1n U<|WC.b ?_)
 exact bK h fun f c h=>Ld<|Le 5 (xB rK)<|Le 6 (Nu xL .h1)<|Le 7 (xB lQ)<|Le 8 (Nu xL .h1)<|Le 9 (wl (v:=(.agg #[vi a.ya,vi a.fQ])) (Lq (l:=[.tmp 6,.tmp 8]) (.r2 U U) [0,1]))<|Le 10 (xB rK)<|Le 11 (Nu xL .here)<|Le 12 (xB lQ)<|Le 13 (Nu xL .here)<|Le 14 (wl (v:=(.agg #[vi b.ya,vi b.fQ])) (Lq (l:=[.tmp 11,.tmp 13]) (.r2 U U) [0,1]))<|Ns call45 hz (oY c)<|Q1n U<|Nz<|oJ h▸Nm results44
theorem z1aD:∀ w,(isAgg (Tryz.gO.t 24)).run Tryz.prog w = .ok true w:=fun _=>by kernel_rfl
theorem z1aE:∀ w,(Go.sizeOf (Tryz.gO.t 24)).run Tryz.prog w = .ok 4 w:=fun _=>by kernel_rfl
def jH(z7B:List ys)(zw3:Int)(zw4:Int)(zrc:Int)(znp:ys->ys->Option Int):Option (List ys):=chk ((zw3=0/\zw4=(z7B.length:Int))/\(0<=zrc/\zrc<4611686018427387904/\z7B.length<4611686018427387904)) (chk (ou znp (wC znp z7B)=true) (some (wC znp z7B)))
theorem ph{Z}(znq znr zw5 zIj z7B zw3 zw4 zrc znp r){Ny}(hz:Pz [row (vs znq z7B.length znr) 37 4 (z7B.flatMap jU)] Ny Z)(a:∀ args w,(callFunc zw5 args).run Tryz.prog w = .ok (.enter zw5 args) w)(b:∀ w:World,PZ [] w Z->∀(x0:ys) (x1:ys) (r:Int),znp x0 x1=some r->Calls Tryz.prog zw5 (([.agg #[vi x0.ya,vi x0.fQ,vi x0.yl,vi x0.fT],.agg #[vi x1.ya,vi x1.fQ,vi x1.yl,vi x1.fT]]:List Value)++zIj).toArray w fun e w'=>e = .returned (vi r)/\Hp [] w w' [])(h:jH z7B zw3 zw4 zrc znp=some r)(iF:Ho Ny [row (vs znq z7B.length znr) 37 4 (z7B.flatMap jU)]):
  Calls Tryz.prog 56 #[vs znq z7B.length znr,vi zw3,vi zw4,vi zrc,.func (.func zw5) #[] (zIj).toArray] Ny fun e w'=>e = .returned (.tuple #[])/\(r.length=z7B.length)/\Hp (fps [row (vs znq z7B.length znr) 37 4 (z7B.flatMap jU)]) Ny w' [row (vs znq r.length znr) 37 4 (r.flatMap jU)]:=by
 obtain⟨h0,h⟩:=xI h
 obtain⟨h1,h⟩:=xI h
 have hr:=(oJ h).symm
 exact im (P:=Tryz.prog) (f:=56) (e:=37) (k:=4) (enc:=jU) W6 (fun β _ enc cf g cb hO wq off cap d0 w0 eg hC R=>Tryz.io 4 z1aD z1aE enc cf g cb hO wq off cap d0 w0 eg hC R) (Tryz.lL (α:=Unit)) hz a b h0 h1 hr iF
def ww(a:List ys)(zns:ys->ys->Option Int):Option (List ys):=
 (fj (u64 (a.length:Int))).bind fun b=>(jH a 0 (a.length:Int) b zns).bind fun c=>some c
theorem f0{Z b c}(znt zw6){a}(zns){r}(h:ww a zns=some r){Ny}(hz:Pz [row (vs b a.length c) 37 4 (a.flatMap jU)] Ny Z)(j:∀ args w,(callFunc znt args).run Tryz.prog w = .ok (.enter znt args) w)(k:∀ w:World,PZ [] w Z->∀(x0:ys) (x1:ys) (r:Int),zns x0 x1=some r->Calls Tryz.prog znt (([.agg #[vi x0.ya,vi x0.fQ,vi x0.yl,vi x0.fT],.agg #[vi x1.ya,vi x1.fQ,vi x1.yl,vi x1.fT]]:List Value)++zw6).toArray w fun e w'=>e = .returned (vi r)/\Hp [] w w' [])(iF:Ho Ny [row (vs b a.length c) 37 4 (a.flatMap jU)]):
  Calls Tryz.prog 26 #[vs b a.length c,.func (.func znt) #[] (zw6).toArray] Ny fun e w'=>e = .returned (.tuple #[])/\(r.length=a.length)/\Hp (fps [row (vs b a.length c) 37 4 (a.flatMap jU)]) Ny w' [row (vs b r.length c) 37 4 (r.flatMap jU)]:=by
 unfold ww at h
 refine Nj func26 U iF U<|B1q U<|Le 6 (wc underlying33)<|Q1n U<|bK h fun d l h=>bK h fun f m h=>D3q U<|Le 10 (fF underlying3 underlying147)<|Ns call57 hz (fun pz=>oZ  (zba:=(u64 (a.length:Int))) (r:=d) pz  l)<|La U<|Nc U (Nt call56) (.cons .here .nil) (cc hz (.cons .here .nil) fun w pz ho=>ph (znq:=b) (znr:=c) (zw5:=znt) (zIj:=zw6) (z7B:=a) (zw3:=0) (zw4:=(a.length:Int)) (zrc:=d) (znp:=zns) (r:=f) pz j k m ho) ?_
 rintro  g
 exact L9 (i:=0) U (u:=(vs b f.length c)) (qD g.symm)<|WL.nil<|oJ h▸Nh results26 .nil fun w hw=>⟨ms,g.trans U,hw.sub (.cons .here .nil)⟩
def f5(a:List zd)(c:Option Bool):Nat->Int->Option Bool
 | 0,_=>none
 | e+1,b=>if decide (b<a.length) then chk (0<=b/\b<a.length) (chk ((0:Int)<=0/\(0:Int)<=b/\b<=a.length) ((uY (a.take (b:Int).toNat) ((nth a b).ya)).bind fun d=>chk ((!d.2)=true->((0:Int)<=0/\0<(a.length:Int))) (if (!d.2)&&(decide (((nth a b).ya)≠((nth a 0).ya))) then some false else f5 a c e (i64 (b+1))))) else c
def pD(a:List zd):Option Bool:=
 uN (some true) fun b=>f5 a b xT 0
theorem Ja{Z f g b r}(h:pD b=some r){Ny}(hz:PZ [] Ny Z)(k:ZS Z 3 (rq mQ) f g b):
  RC 59 #[vs f b.length g] Ny (.bool r) [] []:=by
 unfold pD at h
 refine Nb func59 U U<|B1n U<|jK0 h fun m p h=>Nf (m=some r) ([]) ([]) ?_ ?_
 ·let A:Value:=(vs f b.length g);let D:Value:=(vi (b.length:Int));refine B1q U<|Le 8 (wc underlying58)<|Q1n U<|WC.block<|Ng (fun d a=>(f5 b m d a=some r)) (fun d a=>[(0,A),(7,A),(8,D),(9,vi a)]) (fun d a=>[]) (fun d a=>d) ⟨xT,0⟩ h .q .nil ?_
  rintro(_|J) a h;·cases h
  rw[f5] at h
  refine B1n U<|WC.b<|Lj h (fun q h=>?_)<|fun q h=>?_
  ·refine Np<|WC.b<|WC.block<|WC.b<|cK h fun s h=>D1q U<|L2 (Z:=Z) (Pr:=(rq mQ)) z7O k s ?_
   rintro t K u L rfl
   refine Le 13 (xN z5e (qB hz.pv u)) (Lh 4 (xV (cs:=[vi 0,vi 0,vi 0]) zdR U) fun n _=>La U<|Lk (xR zc6 .here)<|Q0n<|WC.b ?_)
   refine cK h fun v h=>bK h fun c x h=>Lu (fun i=>[10].contains i) []<|Lf 0 U q_m<|Lf 1 U q_m<|Pu (j:=2) (by kernel_rfl) U z2y z2z U U (Z:=Z) (Pr:=(rq mQ)) z7O U k (fun _=>ixn) (fun _=>ixo U) U U v (List.drop_zero).symm ?_
   rintro y z B
   refine Lf 3 U (xB kC)<|Lg 4 U (Nu xL .here)<|L4 5 U (Nt call77) (cc hz .nil fun w pz ho=>cW x pz B)<|Lf 6 U q_m<|Lf 7 U mK<|Lf 8 U mK (WD.new (i:=9) U U (xV (cs:=[vi 0,vi 0,vi 0]) zdR U) (fun h'=>absurd h' (by decide)) fun E _=>WD.forced0 (i:=10) U (wJ.of .nil) (xR zc6 .here)<|Lf 11 U q_z<|N1<|Lb<|WC.b ?_)
   obtain⟨F,h⟩:=xI h
   let C:Value:=(.agg #[vi c.1.ya,vi c.1.fX,vi c.1.fQ]);refine Lu nc []<|Lf 0 U q_m<|Lf 1 U (Yo U)<|Lf 2 U q_m<|Nd (fuel':=0) [(0,A),(7,A),(8,D),(9,vi a),(10,(.bool<|decide (a<b.length))),(11,vi a),(12,vq t),(13,.agg #[(vi<|(nth b a).ya),(vi<|(nth b a).fX),(vi<|(nth b a).fQ)]),(4,vp n),(3,vi a),(15,A),(16,vi a),(17,vs y ((b.take (a:Int).toNat).length) z),(18,vp n),(19,(vi<|(nth b a).ya)),(20,.tuple #[C,.bool c.2]),(14,.tuple #[C,.bool c.2]),(21,C),(22,.bool c.2),(5,vp E),(6,.bool c.2),(23,.bool c.2),(24,.bool (!c.2)),(25,.bool (!c.2)),(33,(.bool<|(!c.2)&&(decide (((nth b a).ya)≠((nth b 0).ya)))))] (vE 11 (dn 11)) ?_<|fun o=>?_
   rotate_left
   ·rcases Bool.eq_false_or_eq_true (!c.2) with hb' | hb'
    ·have e:=hb';clear hb'
     have G:=F e
     refine L3 (i:=25) U e<|Lf 3 U (xB kC)<|Lg 4 U (Nu xL .h1)<|Lf 5 U q_m<|L7 (j:=6) (Z:=Z) (Pr:=(rq mQ)) z7O k G ?_
     rintro M N H O rfl
     refine Lf 7 U (xB kC)<|Lg 8 U (xC xL U<|wt hz.pv H)<|Lf 9 U (Qo U U)<|Lf 10 U qO<|Lw .a2 ?_ o
     exact .t 23<|.r2 (zx<|Eq.symm e)<|zx<|kR e
    ·have l:=hb';clear hb'
     refine L3 (i:=25) U l<|Lm 3 U<|Lm 4 U<|Lm 5 U<|Lm 6 U<|Lm 7 U<|Lm 8 U<|Lm 9 U<|Lf 10 U qP<|Lw .a2 ?_ o
     exact .t 23<|.r2 (zx<|Eq.symm l)<|zx<|kQ l
   refine N1<|Lb<|Lj h (fun I h=>?_)<|fun I h=>?_
   ·exact B1n U<|Nz<|Lx<|Ll<|Ll<|Lx<|Ll<|oJ h▸Nm results59
   ·exact N3<|Lt<|Lb<|D2q U<|WL.nil<|N0 ⟨J,i64 (a+1)⟩ h .q .nil
  ·exact N2<|Ln<|Ln<|Lv<|Lp () h .nil .nil
 ·rintro  h
  replace h:=p.symm.trans h
  exact B1n U<|Nz<|oJ h▸Nm results59
def fZ(a:List zd):Option Bool:=
 (pD a).bind fun b=>some (!b)
theorem Vf{Z b c a r}(h:fZ a=some r){Ny}(hz:PZ [] Ny Z)(d:ZS Z 3 (rq mQ) b c a):
  RC 58 #[vs b a.length c] Ny (.bool r) [] []:=by
 unfold fZ at h
 exact Nb func58 U U<|B1n U<|WC.b<|bK h fun f e h=>D1q U<|Ns call59 hz (fun pz=>Ja e pz d)<|Q2n U<|Nz<|oJ h▸Nm results58
def kG(a:zw)(b:zw):Option Int:=
 some (i64 (a.ya-b.ya))
theorem Vg{Z a b r}(h:kG a b=some r){Ny}(hz:PZ [] Ny Z):
  RC 62 #[.agg #[vi a.yt,vi a.ya,vi a.yl],.agg #[vi b.yt,vi b.ya,vi b.yl]] Ny (vi r) [] []:=by
 unfold kG at h
 refine L0 func62 U U<|B0q (Lh 2 (we (cs:=[vi a.yt,vi a.ya,vi a.yl])) fun c _=>Lh 3 (we (cs:=[vi b.yt,vi b.ya,vi b.yl])) fun d _=>Q1n U<|B0q<|Le 5 (xB V4)<|Le 6 (Nu xL .h1)<|Le 7 (xB V4)<|Le 8 (Nu xL .here)<|Q2n U<|Nz ?_)
 exact oJ h▸Nm results62
theorem z1b2:∀ w,(isAgg (Tryz.gm.t 24)).run Tryz.prog w = .ok true w:=fun _=>by kernel_rfl
theorem z1b3:∀ w,(Go.sizeOf (Tryz.gm.t 24)).run Tryz.prog w = .ok 3 w:=fun _=>by kernel_rfl
def mo(z7C:List zw)(zw8:Int)(zw9:Int)(zre:Int)(znw:zw->zw->Option Int):Option (List zw):=chk ((zw8=0/\zw9=(z7C.length:Int))/\(0<=zre/\zre<4611686018427387904/\z7C.length<4611686018427387904)) (chk (ou znw (wC znw z7C)=true) (some (wC znw z7C)))
theorem oM{Z}(znx zny zwa zIn z7C zw8 zw9 zre znw r){Ny}(hz:Pz [row (vs znx z7C.length zny) 53 3 (z7C.flatMap fI)] Ny Z)(a:∀ args w,(callFunc zwa args).run Tryz.prog w = .ok (.enter zwa args) w)(b:∀ w:World,PZ [] w Z->∀(x0:zw) (x1:zw) (r:Int),znw x0 x1=some r->Calls Tryz.prog zwa (([.agg #[vi x0.yt,vi x0.ya,vi x0.yl],.agg #[vi x1.yt,vi x1.ya,vi x1.yl]]:List Value)++zIn).toArray w fun e w'=>e = .returned (vi r)/\Hp [] w w' [])(h:mo z7C zw8 zw9 zre znw=some r)(iF:Ho Ny [row (vs znx z7C.length zny) 53 3 (z7C.flatMap fI)]):
  Calls Tryz.prog 110 #[vs znx z7C.length zny,vi zw8,vi zw9,vi zre,.func (.func zwa) #[] (zIn).toArray] Ny fun e w'=>e = .returned (.tuple #[])/\(r.length=z7C.length)/\Hp (fps [row (vs znx z7C.length zny) 53 3 (z7C.flatMap fI)]) Ny w' [row (vs znx r.length zny) 53 3 (r.flatMap fI)]:=by
 obtain⟨h0,h⟩:=xI h
 obtain⟨h1,h⟩:=xI h
 have hr:=(oJ h).symm
 exact im (P:=Tryz.prog) (f:=110) (e:=53) (k:=3) (enc:=fI) QX (fun β _ enc cf g cb hO wq off cap d0 w0 eg hC R=>Tryz.lH 3 z1b2 z1b3 enc cf g cb hO wq off cap d0 w0 eg hC R) (Tryz.lb (α:=Unit)) hz a b h0 h1 hr iF
end Go.Proofs.YthjnhebofpebpaaGreat
