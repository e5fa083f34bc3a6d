/- A part of this claim's proof: models of functions, walks, plain laws. No conditions. -/
import Derived.Test.YthjnhebofpebpaaGreatW36d
set_option linter.all false
namespace Go.Proofs.YthjnhebofpebpaaGreat
open Go Go.RowKit Sep Tryz
set_option maxRecDepth 30000
set_option maxHeartbeats 4000000
def ky(c:List (List z8))(d:yv)(e:z2)(a:List z2)(f:Int):Option (Bool×(Nat×List z2×Int)):=
 (ub (⟨f⟩:yt) e c d).bind fun b=>(if decide ((a.length:Int)=0) then some true else chk ((0:Int)<=0/\0<(a.length:Int)) ((q8 b.1 (⟨(nth a 0).fN,(nth a 0).fD⟩:z2)).bind fun g=>some (decide (g>0)))).bind fun h=>if h then some (true,(0,([b.1]:List z2),b.2.fE)) else some (true,(0,a,b.2.fE))
def fW(d:List (List z8))(j:yv)(a:List (List z8))(b:yv)(e:List z2):Option (z2×Int):=
 (qT d j a b e).bind fun g=>if decide (g≠0) then some ((⟨0,0⟩:z2),g) else sk (fun(h:Int) (f:List z2)=>if decide (h≠0) then some ((⟨0,0⟩:z2),h) else chk ((0:Int)<=0/\0<(f.length:Int)) (some ((⟨(nth f 0).fN,(nth f 0).fD⟩:z2),0))) fun k=>(kx d j a b e).bind fun c=>(qq (Nat×List z2×Int) (fun(x:z2) (s:Nat×List z2×Int)=>chk (s.1=0) (ky a b x s.2.1 s.2.2)) (0,([]:List z2),0) d (⟨(⟨c.1,c.2.1⟩:z2),(⟨c.2.2.1,c.2.2.2⟩:z2)⟩:yv) a b e).bind fun i=>k i.2.2 i.2.1
theorem dK{Z ae af ag ao ap ah ai aj V j T t W r}(h:fW V j T t W=some r){Nx}(hz:PZ [] Nx Z)(aq:ZS Z 1 (jT Z) ae af V)(ak:ZS Z 1 (jT Z) ao ap T)(al:ZC Z ag [vs ao T.length ap])(am:ZC Z ah [vi t.fR.fN,vi t.fR.fD,vi t.fL.fN,vi t.fL.fD])(ar:ZS Z 2 (rq xX) ai aj W):
  RC 127 #[.agg #[vs ae V.length af,vi j.fR.fN,vi j.fR.fD,vi j.fL.fN,vi j.fL.fD,.func (.func 122) #[] #[vq ag,vq ah],vs ai W.length aj]] Nx (.tuple #[.agg #[vi r.1.fN,vi r.1.fD],vi r.2]) [] []:=by
 unfold fW at h
 let F:Value:=(.func (.func 122) #[] #[vq ag,vq ah]);let M:Value:=(vs ae V.length af);let N:Value:=(vs ai W.length aj);let H:Value:=(.agg #[M,vi j.fR.fN,vi j.fR.fD,vi j.fL.fN,vi j.fL.fD,F,N]);refine Ob (vs:=[H]) (pre:=[]) (env:=[(0,H)]) func127 U ntmps127 U (Hp.nil Nx _) U ?_
 let E:List Value:=[M,vi j.fR.fN,vi j.fR.fD,vi j.fL.fN,vi j.fL.fD,F,N];refine B0q<|Lg 1 (wa (cs:=E)) ?_
 intro m _
 refine Lg 2 (xT (cs:=[vi 0,vi 0]) z1z) fun n _=>Q1n U<|WC.b<|WC.b<|bK h fun aY aJ h=>Ld<|Le 9 (xK zob (xM .h1))<|Nr call163 hz (fun pz=>pW aJ pz aq ak al am ar)<|Q1n U<|B2n U<|Lj h (fun aK h=>?_)<|fun aK h=>?_
 ·exact B0q<|Le 13 (we (v:=(.agg #[vi 0,vi 0])) (Lq (l:=[]) .nil []))<|La U<|Ll (xP zZ .here)<|Q1n U<|Ny<|Lk<|oJ h▸O7 results127 (.agg U zh U (xM .here)<|.tmp U .nil) fun w hw=>⟨q9,hw.sub .nil⟩
 ·refine Nn<|B0q (Lg 5 (xT (cs:=[vi 0]) zCt) fun c _=>Q0n<|B0q (Lg 6 (xT (cs:=[vn]) zCu) fun k _=>Q0n ?_))
  refine jK2 h fun aZ aL h=>Pv (fun X y o Y aa=>(aZ y o=some r)) (fun X y o Y aa=>[(2,vp n),(5,vp c),(6,vp k)]) (fun X y o Y aa=>[stb n 175 [vi 0,vi 0],stb c 277 [vi y],stb k 229 [vs Y o.length aa],row (vs Y o.length aa) 175 2 (o.flatMap xX),kj X]) ?_ ?_
  ·refine WC.b<|bK h fun u aM h=>Ld<|Le 15 (xK zob (xM .h3))<|Pb U U U (Ns call164) .nil (cc hz .nil fun w pz ho=>pB aM pz aq ak al am ar) ?_
   rintro a _
   refine Q0n<|WC.block<|WC.drop (.s5 .h1 .h1 .h1 .h1 .here)<|WC.nilRow 175 2<|H7 (f:=201) (caps:=[vp a]) U call201 ?_
   intro a1 a2 p b z an aN aO w hw
   let P:Value:=(vs none (([]:List z2).length) 0);let A:List Asrt:=[stb k 229 [P],row P 175 2 (([]:List z2).flatMap xX),stb c 277 [vi 0],stb n 175 [vi 0,vi 0],stb m 231 E,wm p (z .ready none)];have hw1:=hw.selAll ((.s6 .h3 .h2 .h2 .h2 .h2 .here):Sel _ A _)
   let C:List Value:=[M,vi u.1,vi u.2.1,vi u.2.2.1,vi u.2.2.2,F,N];have pz:=(hz.call hw1 ((.cons .here .nil):Sel [qs A,kj b,stb a 231 C] [qs A] [kj b,stb a 231 C])).lend hw1 ((.cons .here .nil):Sel [qs A,kj b,stb a 231 C] [qs A] [kj b,stb a 231 C]) (B:=[stb a 231 C]) (fun _ hx'=>((.cons .h1 .nil):Sel _ [stb a 231 C] _).mem hx')
   refine bK h fun d aP h=>Calls.mono (rE (zbc:=p) (z5w:=(Option Addr×Nat)) (z3z:=(fun(g:Option Addr×Nat) (s:Nat×List z2×Int)=>qs ([stb k 229 [vs g.1 s.2.1.length g.2],row (vs g.1 s.2.1.length g.2) 175 2 (s.2.1.flatMap xX),stb c 277 [vi s.2.2],stb n 175 [vi 0,vi 0],stb m 231 E]++[wm p (z (rX<|uf [] s.1)<|uf [] s.1)]))) (z9K:=(fun(g:Option Addr×Nat) (s:Nat×List z2×Int)=>True)) (zeb:=(none,0)) (zec:=⟨a,0,none⟩) (zgH:=ae) (zgI:=af) (zz4:=ag) (zz5:=ao) (zz6:=ap) (zz7:=ah) (zqd:=ai) (zqe:=aj) (zT:=(Nat×List z2×Int)) (z3o:=(fun(x:z2) (s:Nat×List z2×Int)=>chk (s.1=0)<|ky T t x s.2.1 s.2.2)) (zat:=(0,([]:List z2),0)) (z49:=V) (zk6:=(⟨(⟨u.1,u.2.1⟩:z2),(⟨u.2.2.1,u.2.2.2⟩:z2)⟩:yv)) (zqc:=T) (zk7:=t) (z4m:=W) (r:=d) pz ?_ trivial ((aq.mono<|zl).weak (fun _ _ h=>gp zl h)) ((ak.mono<|zl).weak (fun _ _ h=>gp zl h)) (al.mono<|zl) (am.mono<|zl) (ar.mono<|zl) ((hw1.lent ((.cons .here .nil):Sel [qs A,kj b,stb a 231 C] [qs A] [kj b,stb a 231 C]) (B:=[stb a 231 C]) (fun _ hx'=>((.cons .h1 .nil):Sel _ [stb a 231 C] _).mem hx') (.head _) _).stb) aP<|hw1.owns ((.cons .here .nil):Sel [qs A,kj b,stb a 231 C] [qs A] [kj b,stb a 231 C])) ?_
   ·refine bH (LI:=(fun(g:Option Addr×Nat) (s:Nat×List z2×Int)=>[stb k 229 [vs g.1 s.2.1.length g.2],row (vs g.1 s.2.1.length g.2) 175 2 (s.2.1.flatMap xX),stb c 277 [vi s.2.2],stb n 175 [vi 0,vi 0],stb m 231 E])) (pc:=(fun(s:Nat×List z2×Int)=>uf [] s.1)) an aN aO ?_
    rintro au _ ⟨az,aA⟩ ⟨aQ,q,aC⟩ aR aS Fb wb aD _ hz
    replace hz:=hz.left
    letI:Rnd:=bG p
    obtain⟨Af,e⟩:=xG aD
    replace Af:aQ=0:=Af;subst Af;clear aD
    replace e:ky T t au q aC=some (aR,aS):=e
    unfold ky at e
    let I:Value:=(vs az q.length aA);let K:Value:=(.agg #[vi au.fN,vi au.fD]);let Q:Value:=(.bool (decide (aY≠0)));refine WC.restr (env':=[(1,vp m),(12,Q),(5,vp c),(6,vp k),(17,K)]) (.qo U)<|Oq (L':=[stb k 229 [I],row I 175 2 (q.flatMap xX),stb c 277 [vi aC],stb n 175 [vi 0,vi 0],stb m 231 E,wm p (z .ready none)]) U<|Ld<|Lg 7 (xT (cs:=[vi 0,vi 0]) z1z) ?_
    intro aT _
    refine Ll (xP zZ .here)<|WL.nil<|Bl an .h6<|WC.block<|WC.b ?_
    obtain⟨R,aU,e⟩:=za e
    refine Ld<|Le 18 (xz eI)<|Le 19 (Nt zLK .h6)<|Le 20 (xK zh (xM .h1))<|Ln 21 (qg (l:=[.tmp 5,.tmp 20]) call122<|.r2 U U) (.cons .h4 .nil) (cc hz (.cons .h4 .nil) fun w pz ho=>aB aU pz ak al am ho) (Lg 8 (xT (cs:=[vi 0,vi 0]) z1z) fun aV _=>Ll (xP zZ .here)<|Q0n<|WC.b ?_)
    obtain⟨a0,aE,e⟩:=za e
    let O:Value:=(.bool (decide ((q.length:Int)=0)));refine Lu nc []<|Lh 0 U (Nt zdG .h4)<|Lf 1 U (w9 underlying229)<|Lf 2 U (e8 U U)<|Lf 3 U q_m<|Nf (fuel':=0) [(1,vp m),(12,Q),(5,vp c),(6,vp k),(17,K),(7,vp aT),(18,(.pointer<|some ⟨m,5,none⟩)),(19,F),(20,K),(21,.agg #[vi R.1.fN,vi R.1.fD]),(8,vp aV),(22,I),(23,vi (q.length:Int)),(24,O),(25,O),(32,.bool a0)] (vA 11 (dn 11)) ?_<|fun aF=>?_
    rotate_left
    ·rcases Bool.eq_false_or_eq_true (decide ((q.length:Int)=0)) with hb' | hb'
     ·have av:=hb';clear hb'
      have aw:=qY aE av
      replace aw:=oJ aw
      refine L3 (i:=25) U av<|Lp 4 U<|Lp 5 U<|Lp 6 U<|Lp 7 U<|Lp 8 U<|Lp 9 U<|Lf 10 U qW<|Lx .a8 ?_ aF
      exact .t 14<|.r2 (zA<|Eq.symm av)<|zA aw
     ·have ax:=hb';clear hb'
      have S:=qZ aE ax
      obtain⟨ab,S⟩:=xG S
      obtain⟨a5,aW,S⟩:=za S
      replace S:=oJ S
      refine L3 (i:=25) U ax<|Lh 4 U (xK zh (xM .here))<|Lh 5 U (Nt zdG .h4)<|N5 (fun w hw=>Hp.vr .h5 hw (by intro hz';have:=ab;rw[hz'] at this;omega)) ?_
      rintro⟨a3,rfl⟩
      refine Lf 6 U (w3 z3U ab.1 ab.2 wI)<|Lh 7 U (wn (cs:=(xX<|nth q 0)) zh<|vU .h5<|wU (enc:=xX) (l:=q) (i:=0) (sz:=2) ab.1 ab.2)<|L4 8 U (Ns call129) (cc hz .nil fun w pz ho=>ua aW pz )<|Lf 9 U pJ<|Lf 10 U qX<|Lx .a8 ?_ aF
      exact .t 14<|.r2 (zA<|Eq.symm ax)<|zA S
    refine N0<|Lb<|WC.cond U (fun ay=>?_)<|fun ay=>?_
    ·replace e:=qY e ay
     refine Ld<|Le 33 (xK zh (xM .here)) (Lg 34 (wj (cs:=([R.1]:List z2).flatMap xX) z3U (Lq (l:=[.tmp 33]) (.cons U .nil) [0])) fun aG _=>Ll (xP zCv .h5)<|WL.nil<|Lt ?_)
     obtain⟨rfl,rfl⟩:=cD e
     let L:Value:=(vs (some ⟨aG,0,none⟩) (([R.1]:List z2).length) 1);exact Of an .h4<|fun w' oN=>⟨(some ⟨aG,0,none⟩,1),U,trivial,(oN.selAll ((.s6 .h1 .h1 .h2 .h4 .h4 .here):Sel _ [stb k 229 [L],row L 175 2 (([R.1]:List z2).flatMap xX),stb c 277 [vi R.2.fE],stb n 175 [vi 0,vi 0],stb m 231 E,wm p (z .ready none)] _)).sub (.cons .here .nil)⟩
    ·replace e:=qZ e ay
     refine N2<|Lt ?_
     obtain⟨rfl,rfl⟩:=cD e
     exact Of an .h2<|fun w' oN=>⟨(az,aA),U,trivial,(oN.selAll ((.s6 .h4 .h4 .h2 .h3 .h3 .here):Sel _ [stb k 229 [I],row I 175 2 (q.flatMap xX),stb c 277 [vi R.2.fE],stb n 175 [vi 0,vi 0],stb m 231 E,wm p (z .ready none)] _)).sub (.cons .here .nil)⟩
   ·rintro _ w' ⟨⟨aH,aI⟩,rfl,_,hp⟩
    have zw:=hw1.call ((.cons .here .nil):Sel [qs A,kj b,stb a 231 C] [qs A] [kj b,stb a 231 C]) hp
    let J:Value:=(vs aH d.2.1.length aI);have AO:Hp _ _ w' [stb k 229 [J],row J 175 2 (d.2.1.flatMap xX),stb c 277 [vi d.2.2],stb n 175 [vi 0,vi 0],stb m 231 E,wm p (z (rX (uf [] d.1)) (uf [] d.1)),kj b,stb a 231 C]:=zw.pickAll .here
    refine⟨_,uf [] d.1,_,U,AO.sub ((.s8 .h5 .here .here .here .here .here .here .here):Sel _ [wm p (z (rX (uf [] d.1)) (uf [] d.1)),stb k 229 [J],row J 175 2 (d.2.1.flatMap xX),stb c 277 [vi d.2.2],stb n 175 [vi 0,vi 0],stb m 231 E,kj b,stb a 231 C] _),?_⟩
    clear hp zw AO pz hw hw1
    refine wjN ?_
    letI:Rnd:=ti b
    exact Lt<|Oe (D:=fun(g:Nat×Int×List z2×Option Addr×Nat)=>g.1) (G:=Nat×Int×List z2×Option Addr×Nat) ⟨b,d.2.2,d.2.1,aH,aI⟩ h .q<|.s5 .h3 .h2 .here .here .h1
  ·rintro X y o Y aa h
   replace h:=(aL y o).symm.trans h
   letI:Rnd:=ti X
   refine WC.b<|B0q<|Le 35 (xz sf)<|Le 36 (Nt z6h .h1)<|Q1n U<|Lj h (fun aX h=>?_)<|fun aX h=>?_
   ·refine WC.b<|Lu (fun i=>[3].contains i) [re c 277 [(0,vi y)]]<|Lf 0 U (we (v:=(.agg #[vi 0,vi 0])) (Lq (l:=[]) .nil []))<|Lf 1 U (xz sf)<|L7 2 U (wB.wk (.cons .h1 .nil)<|.stb (.cons U .nil) .nil) (xA z6h U<|mC .here<|.head _)<|WD.forced0 (i:=3) U (wB.wk (.cons .h1 .nil)<|.stb (.cons U .nil) .nil) (xP zZ .here)<|Lf 4 U q_z<|N0<|Lb<|Ny<|Lk ?_
    obtain rfl:=oJ h
    exact Og .h4 results127 (.agg U zh U (xM .h1)<|.tmp U .nil)<|fun w hw=>⟨q9,hw.sub .nil⟩
   ·refine Nn<|WC.b<|cK h fun ad h=>Ld<|Le 41 (Nt zdG .h2)<|N4 (fun w hw=>Hp.vr .h3 hw (by intro hz';have:=ad;rw[hz'] at this;omega)) ?_
    rintro⟨a4,rfl⟩
    refine Le 42 (w3 z3U ad.1 ad.2 wI)<|Le 43 (wn (cs:=(xX<|nth o 0)) zh<|vU .h3<|wU (enc:=xX) (l:=o) (i:=0) (sz:=2) ad.1 ad.2)<|Ll (xP zZ .here)<|Q1n U<|Ny ?_
    obtain rfl:=oJ h
    exact Og .h4 results127 (.agg U zh U (xM .h1)<|.tmp U .nil)<|fun w hw=>⟨q9,hw.sub .nil⟩
def uZ(a:List (List z8))(b:yv):Option (z2×Int):=
 (fW a b a b []).bind fun c=>some (c.1,c.2)
theorem X8{Z c d b a r}(h:uZ b a=some r){Nx}(hz:PZ [] Nx Z)(e:ZS Z 1 (jT Z) c d b):
  RC 81 #[vs c b.length d,.agg #[vi a.fR.fN,vi a.fR.fD,vi a.fL.fN,vi a.fL.fD]] Nx (.tuple #[.agg #[vi r.1.fN,vi r.1.fD],vi r.2]) [] []:=by
 unfold uZ at h
 refine L0 func81 U U ?_
 let A:Value:=(vs c b.length d);refine B0q<|Lg 2 (wa (cs:=[A])) ?_
 intro f _
 refine Lg 3 (wa (cs:=[vi a.fR.fN,vi a.fR.fD,vi a.fL.fN,vi a.fL.fD])) fun g _=>Lg 4 (xT (cs:=[vi 0,vi 0]) z1z) fun j _=>Q1n U<|B0q<|Le 7 (Nt ziN .h2)<|Le 8 (xK ztn (xM .h1))<|Le 9 (we (v:=(.agg #[A,vi a.fR.fN,vi a.fR.fD,vi a.fL.fN,vi a.fL.fD,.nilFunc,vn])) (Lq (l:=[.tmp 7,.tmp 8]) (.r2 U U) [0,1])) (Lg 6 (xT (cs:=[vn,vi 0,vi 0,vi 0,vi 0,.nilFunc,vn]) zLC) fun k _=>Ll (xP zLD .here)<|Q0n<|B0q<|Le 10 (wJ<|L6 (l:=[.tmp 2,.tmp 3])<|.r2 U U)<|Le 11 (xz eI)<|Ll (jh (ds:=[A,vi a.fR.fN,vi a.fR.fD,vi a.fL.fN,vi a.fL.fD,.func (.func 122) #[] #[vp f,vp g],vn]) zLE .here)<|Q0n<|WC.b ?_)
 exact bK h fun m i h=>Ld<|Le 12 (xK zob (xM .here))<|Ln 13 (Ns call127) .nil (ux hz .nil (.s2 .h3 .h2) fun w pz ho la=>dK i pz ((e.mono<|zl).weak (fun _ _ h=>gp zl h)) ((e.mono<|zl).weak (fun _ _ h=>gp zl h)) ((la _ (.head _) _).stb) ((la _ (.tail _<|.head _) _).stb)<|ZS.nil _ _ _)<|Q2q U<|Ll (xP zZ .h1)<|Q1n U<|Ny<|oJ h▸Nm results81 (.agg U zh U (xM .here)<|.tmp U .nil) .nil
def mw(g:yt)(b:z2)(h:List (List z8))(c:yv):Option (z2×yt):=
 (gi g h b).bind fun a=>(q8 b c.fL).bind fun i=>if decide (i<=0) then some (a.1,a.2) else(vw a.2 (fun y0 y1=>ju y0 y1) b c.fL).bind fun d=>(vw d.2 (fun y0 y1=>gw y0 y1) c.fR d.1).bind fun e=>(vw e.2 (fun y0 y1=>ju y0 y1) a.1 e.1).bind fun f=>some (f.1,f.2)
theorem eP{Z b g j k l d c e a r}(h:mw d c e a=some r){Nx}(hz:Pz [stb b 277 [vi d.fE]] Nx Z)(n:ZS Z 1 (jT Z) j k e)(o:ZC Z g [vs j e.length k])(f:ZC Z l [vi a.fR.fN,vi a.fR.fD,vi a.fL.fN,vi a.fL.fD])(eO:Ho Nx [stb b 277 [vi d.fE]]):
  RF 128 #[vp b,.agg #[vi c.fN,vi c.fD],vq g,vq l] Nx (.agg #[vi r.1.fN,vi r.1.fD]) [stb b 277 [vi d.fE]] [stb b 277 [vi r.2.fE]]:=by
 unfold mw at h
 refine H3 func128 U eO U<|B0q (Lg 5 (wa (cs:=[vi c.fN,vi c.fD])) fun z _=>Lg 6 (xT (cs:=[vi 0,vi 0]) z1z) fun B _=>Q0n<|WC.b ?_)
 refine bK h fun m p h=>D1q U<|Le 9 (xA ziN U<|kN hz.pv o)<|Le 10 (xK zh (xM .h1))<|Ln 11 (Ns call126) (.cons .h2 .nil) (cc hz (.cons .h2 .nil) fun w pz ho=>oA p pz n ho) (Lg 7 (xT (cs:=[vi 0,vi 0]) z1z) fun q _=>Ll (xP zZ .here)<|Q0n<|WC.b<|WC.b ?_)
 obtain⟨C,t,h⟩:=za h
 let A:List Value:=[vi a.fL.fN,vi a.fL.fD];refine Ld<|Le 12 (xK zh (xM .h3))<|Le 13 (xz lK)<|Le 14 (wn (cs:=A) zh<|dw (off:=2) (s:=2) hz.pv f U)<|Nr call129 hz (ua t)<|Q1n U<|Lj h (fun u h=>?_)<|fun u h=>?_
 ·exact B0q<|Le 17 (xK zh (xM .here))<|Ll (xP zZ .h2)<|Q0n<|Ny<|Lk<|oJ h▸Nm results128 (.agg U zh U (xM .here) .nil) (.cons .h2 .nil)
 ·refine Nn<|WC.b<|bK h fun D v h=>bK h fun E x h=>bK h fun F y h=>Lu (fun i=>[9,10,11,12].contains i) [stb q 175 [vi m.1.fN,vi m.1.fD]]<|Lf 0 U q_m<|L7 1 U (wB.of<|.cons .here .nil) (xK zh (xM .here))<|Lf 2 U q_m<|Lf 3 U (xz cG)<|L7 4 U (wB.of<|.cons .here .nil) (wn (cs:=[vi a.fR.fN,vi a.fR.fD]) zh<|dw (off:=0) (s:=2) hz.pv f U)<|Lf 5 U q_m<|Lh 6 U (xK zh (xM .h3))<|Lf 7 U (xz lK)<|Lh 8 U (wn (cs:=A) zh<|dw (off:=2) (s:=2) hz.pv f U) (WD.call0 (i:=9) U U (.inl ⟨U,(wB.of<|.cons .h1 .nil)⟩) (Ns call123) (.cons .h1 .nil) (cc hz (.cons .h1 .nil) fun w pz ho=>Calls.mono (kK (zas:=124) (zcl:=[]) (zb8:=(fun y0 y1=>ju y0 y1)) v pz call124 (fun w' hz' y0 y1  r  hr=>iq hr hz' ) ho)<|fun _ _ h'=>⟨h'.1,trivial,h'.2⟩) fun _=>WD.call0 (i:=10) U U (.inl ⟨U,(wB.of<|.cons .h1 .nil)⟩) (Ns call123) (.cons .here .nil) (cc hz (.cons .here .nil) fun w pz ho=>Calls.mono (kK (zas:=120) (zcl:=[]) (zb8:=(fun y0 y1=>gw y0 y1)) x pz call120 (fun w' hz' y0 y1  r  hr=>ay hr hz' ) ho)<|fun _ _ h'=>⟨h'.1,trivial,h'.2⟩) fun _=>WD.call0 (i:=11) U U (.inl ⟨U,(wB.of<|.cons .h1 .nil)⟩) (Ns call123) (.cons .here .nil) (cc hz (.cons .here .nil) fun w pz ho=>Calls.mono (kK (zas:=124) (zcl:=[]) (zb8:=(fun y0 y1=>ju y0 y1)) y pz call124 (fun w' hz' y0 y1  r  hr=>iq hr hz' ) ho)<|fun _ _ h'=>⟨h'.1,trivial,h'.2⟩) fun _=>Nc (i:=12) U (xP zZ .h2)<|N0<|Lb<|Ny ?_)
  exact oJ h▸Nm results128 (.agg U zh U (xM .here) .nil) (.cons .h1 .nil)
def kg(c:List (List z8))(d:yv)(e:z2)(a:List z2)(f:Int):Option (Bool×(Nat×List z2×Int)):=
 (mw (⟨f⟩:yt) e c d).bind fun b=>(if decide ((a.length:Int)=0) then some true else chk ((0:Int)<=0/\0<(a.length:Int)) ((q8 b.1 (⟨(nth a 0).fN,(nth a 0).fD⟩:z2)).bind fun g=>some (decide (g>0)))).bind fun h=>if h then some (true,(0,([b.1]:List z2),b.2.fE)) else some (true,(0,a,b.2.fE))
def fh(d:List (List z8))(j:yv)(a:List (List z8))(b:yv)(e:List z2):Option (z2×Int):=
 (qT d j a b e).bind fun g=>if decide (g≠0) then some ((⟨0,0⟩:z2),g) else sk (fun(h:Int) (f:List z2)=>if decide (h≠0) then some ((⟨0,0⟩:z2),h) else chk ((0:Int)<=0/\0<(f.length:Int)) (some ((⟨(nth f 0).fN,(nth f 0).fD⟩:z2),0))) fun k=>(kx d j a b e).bind fun c=>(qq (Nat×List z2×Int) (fun(x:z2) (s:Nat×List z2×Int)=>chk (s.1=0) (kg a b x s.2.1 s.2.2)) (0,([]:List z2),0) d (⟨(⟨c.1,c.2.1⟩:z2),(⟨c.2.2.1,c.2.2.2⟩:z2)⟩:yv) a b e).bind fun i=>k i.2.2 i.2.1
theorem d9{Z ae af ag ao ap ah ai aj V j T t W r}(h:fh V j T t W=some r){Nx}(hz:PZ [] Nx Z)(aq:ZS Z 1 (jT Z) ae af V)(ak:ZS Z 1 (jT Z) ao ap T)(al:ZC Z ag [vs ao T.length ap])(am:ZC Z ah [vi t.fR.fN,vi t.fR.fD,vi t.fL.fN,vi t.fL.fD])(ar:ZS Z 2 (rq xX) ai aj W):
  RC 127 #[.agg #[vs ae V.length af,vi j.fR.fN,vi j.fR.fD,vi j.fL.fN,vi j.fL.fD,.func (.func 128) #[] #[vq ag,vq ah],vs ai W.length aj]] Nx (.tuple #[.agg #[vi r.1.fN,vi r.1.fD],vi r.2]) [] []:=by
 unfold fh at h
 let F:Value:=(.func (.func 128) #[] #[vq ag,vq ah]);let M:Value:=(vs ae V.length af);let N:Value:=(vs ai W.length aj);let H:Value:=(.agg #[M,vi j.fR.fN,vi j.fR.fD,vi j.fL.fN,vi j.fL.fD,F,N]);refine Ob (vs:=[H]) (pre:=[]) (env:=[(0,H)]) func127 U ntmps127 U (Hp.nil Nx _) U ?_
 let E:List Value:=[M,vi j.fR.fN,vi j.fR.fD,vi j.fL.fN,vi j.fL.fD,F,N];refine B0q<|Lg 1 (wa (cs:=E)) ?_
 intro m _
 refine Lg 2 (xT (cs:=[vi 0,vi 0]) z1z) fun n _=>Q1n U<|WC.b<|WC.b<|bK h fun aX aI h=>Ld<|Le 9 (xK zob (xM .h1))<|Nr call163 hz (fun pz=>pW aI pz aq ak al am ar)<|Q1n U<|B2n U<|Lj h (fun aJ h=>?_)<|fun aJ h=>?_
 ·exact B0q<|Le 13 (we (v:=(.agg #[vi 0,vi 0])) (Lq (l:=[]) .nil []))<|La U<|Ll (xP zZ .here)<|Q1n U<|Ny<|Lk<|oJ h▸O7 results127 (.agg U zh U (xM .here)<|.tmp U .nil) fun w hw=>⟨q9,hw.sub .nil⟩
 ·refine Nn<|B0q (Lg 5 (xT (cs:=[vi 0]) zCt) fun c _=>Q0n<|B0q (Lg 6 (xT (cs:=[vn]) zCu) fun k _=>Q0n ?_))
  refine jK2 h fun aY aK h=>Pv (fun X y o Y aa=>(aY y o=some r)) (fun X y o Y aa=>[(2,vp n),(5,vp c),(6,vp k)]) (fun X y o Y aa=>[stb n 175 [vi 0,vi 0],stb c 277 [vi y],stb k 229 [vs Y o.length aa],row (vs Y o.length aa) 175 2 (o.flatMap xX),kj X]) ?_ ?_
  ·refine WC.b<|bK h fun u aL h=>Ld<|Le 15 (xK zob (xM .h3))<|Pb U U U (Ns call164) .nil (cc hz .nil fun w pz ho=>pB aL pz aq ak al am ar) ?_
   rintro a _
   refine Q0n<|WC.block<|WC.drop (.s5 .h1 .h1 .h1 .h1 .here)<|WC.nilRow 175 2<|H7 (f:=201) (caps:=[vp a]) U call201 ?_
   intro a0 a1 p b z an aM aN w hw
   let P:Value:=(vs none (([]:List z2).length) 0);let A:List Asrt:=[stb k 229 [P],row P 175 2 (([]:List z2).flatMap xX),stb c 277 [vi 0],stb n 175 [vi 0,vi 0],stb m 231 E,wm p (z .ready none)];have hw1:=hw.selAll ((.s6 .h3 .h2 .h2 .h2 .h2 .here):Sel _ A _)
   let C:List Value:=[M,vi u.1,vi u.2.1,vi u.2.2.1,vi u.2.2.2,F,N];have pz:=(hz.call hw1 ((.cons .here .nil):Sel [qs A,kj b,stb a 231 C] [qs A] [kj b,stb a 231 C])).lend hw1 ((.cons .here .nil):Sel [qs A,kj b,stb a 231 C] [qs A] [kj b,stb a 231 C]) (B:=[stb a 231 C]) (fun _ hx'=>((.cons .h1 .nil):Sel _ [stb a 231 C] _).mem hx')
   refine bK h fun d aO h=>Calls.mono (rE (zbc:=p) (z5w:=(Option Addr×Nat)) (z3z:=(fun(g:Option Addr×Nat) (s:Nat×List z2×Int)=>qs ([stb k 229 [vs g.1 s.2.1.length g.2],row (vs g.1 s.2.1.length g.2) 175 2 (s.2.1.flatMap xX),stb c 277 [vi s.2.2],stb n 175 [vi 0,vi 0],stb m 231 E]++[wm p (z (rX<|uf [] s.1)<|uf [] s.1)]))) (z9K:=(fun(g:Option Addr×Nat) (s:Nat×List z2×Int)=>True)) (zeb:=(none,0)) (zec:=⟨a,0,none⟩) (zgH:=ae) (zgI:=af) (zz4:=ag) (zz5:=ao) (zz6:=ap) (zz7:=ah) (zqd:=ai) (zqe:=aj) (zT:=(Nat×List z2×Int)) (z3o:=(fun(x:z2) (s:Nat×List z2×Int)=>chk (s.1=0)<|kg T t x s.2.1 s.2.2)) (zat:=(0,([]:List z2),0)) (z49:=V) (zk6:=(⟨(⟨u.1,u.2.1⟩:z2),(⟨u.2.2.1,u.2.2.2⟩:z2)⟩:yv)) (zqc:=T) (zk7:=t) (z4m:=W) (r:=d) pz ?_ trivial ((aq.mono<|zl).weak (fun _ _ h=>gp zl h)) ((ak.mono<|zl).weak (fun _ _ h=>gp zl h)) (al.mono<|zl) (am.mono<|zl) (ar.mono<|zl) ((hw1.lent ((.cons .here .nil):Sel [qs A,kj b,stb a 231 C] [qs A] [kj b,stb a 231 C]) (B:=[stb a 231 C]) (fun _ hx'=>((.cons .h1 .nil):Sel _ [stb a 231 C] _).mem hx') (.head _) _).stb) aO<|hw1.owns ((.cons .here .nil):Sel [qs A,kj b,stb a 231 C] [qs A] [kj b,stb a 231 C])) ?_
   ·refine bH (LI:=(fun(g:Option Addr×Nat) (s:Nat×List z2×Int)=>[stb k 229 [vs g.1 s.2.1.length g.2],row (vs g.1 s.2.1.length g.2) 175 2 (s.2.1.flatMap xX),stb c 277 [vi s.2.2],stb n 175 [vi 0,vi 0],stb m 231 E])) (pc:=(fun(s:Nat×List z2×Int)=>uf [] s.1)) an aM aN ?_
    rintro au _ ⟨az,aA⟩ ⟨aP,q,aB⟩ aQ aR Fb wb aC _ hz
    replace hz:=hz.left
    letI:Rnd:=bG p
    obtain⟨Af,e⟩:=xG aC
    replace Af:aP=0:=Af;subst Af;clear aC
    replace e:kg T t au q aB=some (aQ,aR):=e
    unfold kg at e
    let I:Value:=(vs az q.length aA);let K:Value:=(.agg #[vi au.fN,vi au.fD]);let Q:Value:=(.bool (decide (aX≠0)));refine WC.restr (env':=[(1,vp m),(12,Q),(5,vp c),(6,vp k),(17,K)]) (.qo U)<|Oq (L':=[stb k 229 [I],row I 175 2 (q.flatMap xX),stb c 277 [vi aB],stb n 175 [vi 0,vi 0],stb m 231 E,wm p (z .ready none)]) U<|Ld<|Lg 7 (xT (cs:=[vi 0,vi 0]) z1z) ?_
    intro aS _
    refine Ll (xP zZ .here)<|WL.nil<|Bl an .h6<|WC.block<|WC.b ?_
    obtain⟨R,aT,e⟩:=za e
    refine Ld<|Le 18 (xz eI)<|Le 19 (Nt zLK .h6)<|Le 20 (xK zh (xM .h1))<|Ln 21 (qg (l:=[.tmp 5,.tmp 20]) call128<|.r2 U U) (.cons .h4 .nil) (cc hz (.cons .h4 .nil) fun w pz ho=>eP aT pz ak al am ho) (Lg 8 (xT (cs:=[vi 0,vi 0]) z1z) fun aU _=>Ll (xP zZ .here)<|Q0n<|WC.b ?_)
    obtain⟨aZ,aD,e⟩:=za e
    let O:Value:=(.bool (decide ((q.length:Int)=0)));refine Lu nc []<|Lh 0 U (Nt zdG .h4)<|Lf 1 U (w9 underlying229)<|Lf 2 U (e8 U U)<|Lf 3 U q_m<|Nf (fuel':=0) [(1,vp m),(12,Q),(5,vp c),(6,vp k),(17,K),(7,vp aS),(18,(.pointer<|some ⟨m,5,none⟩)),(19,F),(20,K),(21,.agg #[vi R.1.fN,vi R.1.fD]),(8,vp aU),(22,I),(23,vi (q.length:Int)),(24,O),(25,O),(32,.bool aZ)] (vA 11 (dn 11)) ?_<|fun aE=>?_
    rotate_left
    ·rcases Bool.eq_false_or_eq_true (decide ((q.length:Int)=0)) with hb' | hb'
     ·have av:=hb';clear hb'
      have aw:=qY aD av
      replace aw:=oJ aw
      refine L3 (i:=25) U av<|Lp 4 U<|Lp 5 U<|Lp 6 U<|Lp 7 U<|Lp 8 U<|Lp 9 U<|Lf 10 U qW<|Lx .a8 ?_ aE
      exact .t 14<|.r2 (zA<|Eq.symm av)<|zA aw
     ·have ax:=hb';clear hb'
      have S:=qZ aD ax
      obtain⟨ab,S⟩:=xG S
      obtain⟨a4,aV,S⟩:=za S
      replace S:=oJ S
      refine L3 (i:=25) U ax<|Lh 4 U (xK zh (xM .here))<|Lh 5 U (Nt zdG .h4)<|N5 (fun w hw=>Hp.vr .h5 hw (by intro hz';have:=ab;rw[hz'] at this;omega)) ?_
      rintro⟨a2,rfl⟩
      refine Lf 6 U (w3 z3U ab.1 ab.2 wI)<|Lh 7 U (wn (cs:=(xX<|nth q 0)) zh<|vU .h5<|wU (enc:=xX) (l:=q) (i:=0) (sz:=2) ab.1 ab.2)<|L4 8 U (Ns call129) (cc hz .nil fun w pz ho=>ua aV pz )<|Lf 9 U pJ<|Lf 10 U qX<|Lx .a8 ?_ aE
      exact .t 14<|.r2 (zA<|Eq.symm ax)<|zA S
    refine N0<|Lb<|WC.cond U (fun ay=>?_)<|fun ay=>?_
    ·replace e:=qY e ay
     refine Ld<|Le 33 (xK zh (xM .here)) (Lg 34 (wj (cs:=([R.1]:List z2).flatMap xX) z3U (Lq (l:=[.tmp 33]) (.cons U .nil) [0])) fun aF _=>Ll (xP zCv .h5)<|WL.nil<|Lt ?_)
     obtain⟨rfl,rfl⟩:=cD e
     let L:Value:=(vs (some ⟨aF,0,none⟩) (([R.1]:List z2).length) 1);exact Of an .h4<|fun w' oN=>⟨(some ⟨aF,0,none⟩,1),U,trivial,(oN.selAll ((.s6 .h1 .h1 .h2 .h4 .h4 .here):Sel _ [stb k 229 [L],row L 175 2 (([R.1]:List z2).flatMap xX),stb c 277 [vi R.2.fE],stb n 175 [vi 0,vi 0],stb m 231 E,wm p (z .ready none)] _)).sub (.cons .here .nil)⟩
    ·replace e:=qZ e ay
     refine N2<|Lt ?_
     obtain⟨rfl,rfl⟩:=cD e
     exact Of an .h2<|fun w' oN=>⟨(az,aA),U,trivial,(oN.selAll ((.s6 .h4 .h4 .h2 .h3 .h3 .here):Sel _ [stb k 229 [I],row I 175 2 (q.flatMap xX),stb c 277 [vi R.2.fE],stb n 175 [vi 0,vi 0],stb m 231 E,wm p (z .ready none)] _)).sub (.cons .here .nil)⟩
   ·rintro _ w' ⟨⟨aG,aH⟩,rfl,_,hp⟩
    have zw:=hw1.call ((.cons .here .nil):Sel [qs A,kj b,stb a 231 C] [qs A] [kj b,stb a 231 C]) hp
    let J:Value:=(vs aG d.2.1.length aH);have AO:Hp _ _ w' [stb k 229 [J],row J 175 2 (d.2.1.flatMap xX),stb c 277 [vi d.2.2],stb n 175 [vi 0,vi 0],stb m 231 E,wm p (z (rX (uf [] d.1)) (uf [] d.1)),kj b,stb a 231 C]:=zw.pickAll .here
    refine⟨_,uf [] d.1,_,U,AO.sub ((.s8 .h5 .here .here .here .here .here .here .here):Sel _ [wm p (z (rX (uf [] d.1)) (uf [] d.1)),stb k 229 [J],row J 175 2 (d.2.1.flatMap xX),stb c 277 [vi d.2.2],stb n 175 [vi 0,vi 0],stb m 231 E,kj b,stb a 231 C] _),?_⟩
    clear hp zw AO pz hw hw1
    refine wjN ?_
    letI:Rnd:=ti b
    exact Lt<|Oe (D:=fun(g:Nat×Int×List z2×Option Addr×Nat)=>g.1) (G:=Nat×Int×List z2×Option Addr×Nat) ⟨b,d.2.2,d.2.1,aG,aH⟩ h .q<|.s5 .h3 .h2 .here .here .h1
  ·rintro X y o Y aa h
   replace h:=(aK y o).symm.trans h
   letI:Rnd:=ti X
   refine WC.b<|B0q<|Le 35 (xz sf)<|Le 36 (Nt z6h .h1)<|Q1n U<|Lj h (fun aW h=>?_)<|fun aW h=>?_
   ·refine WC.b<|Lu (fun i=>[3].contains i) [re c 277 [(0,vi y)]]<|Lf 0 U (we (v:=(.agg #[vi 0,vi 0])) (Lq (l:=[]) .nil []))<|Lf 1 U (xz sf)<|L7 2 U (wB.wk (.cons .h1 .nil)<|.stb (.cons U .nil) .nil) (xA z6h U<|mC .here<|.head _)<|WD.forced0 (i:=3) U (wB.wk (.cons .h1 .nil)<|.stb (.cons U .nil) .nil) (xP zZ .here)<|Lf 4 U q_z<|N0<|Lb<|Ny<|Lk ?_
    obtain rfl:=oJ h
    exact Og .h4 results127 (.agg U zh U (xM .h1)<|.tmp U .nil)<|fun w hw=>⟨q9,hw.sub .nil⟩
   ·refine Nn<|WC.b<|cK h fun ad h=>Ld<|Le 41 (Nt zdG .h2)<|N4 (fun w hw=>Hp.vr .h3 hw (by intro hz';have:=ad;rw[hz'] at this;omega)) ?_
    rintro⟨a3,rfl⟩
    refine Le 42 (w3 z3U ad.1 ad.2 wI)<|Le 43 (wn (cs:=(xX<|nth o 0)) zh<|vU .h3<|wU (enc:=xX) (l:=o) (i:=0) (sz:=2) ad.1 ad.2)<|Ll (xP zZ .here)<|Q1n U<|Ny ?_
    obtain rfl:=oJ h
    exact Og .h4 results127 (.agg U zh U (xM .h1)<|.tmp U .nil)<|fun w hw=>⟨q9,hw.sub .nil⟩
def uc(b:List (List z8))(a:yv):Option (z2×Int):=
 (fh b a b a ([a.fL]:List z2)).bind fun c=>some (c.1,c.2)
theorem aC{Z c d b a r}(h:uc b a=some r){Nx}(hz:PZ [] Nx Z)(e:ZS Z 1 (jT Z) c d b):
  RC 82 #[vs c b.length d,.agg #[vi a.fR.fN,vi a.fR.fD,vi a.fL.fN,vi a.fL.fD]] Nx (.tuple #[.agg #[vi r.1.fN,vi r.1.fD],vi r.2]) [] []:=by
 unfold uc at h
 refine L0 func82 U U ?_
 let C:Value:=(vs c b.length d);refine B0q<|Lg 2 (wa (cs:=[C])) ?_
 intro f _
 refine Lg 3 (wa (cs:=[vi a.fR.fN,vi a.fR.fD,vi a.fL.fN,vi a.fL.fD])) fun g _=>Lg 4 (xT (cs:=[vi 0,vi 0]) z1z) fun k _=>Q1n U<|B0q<|Le 7 (Nt ziN .h2)<|Le 8 (xK ztn (xM .h1))<|Le 9 (xz lK)<|Le 10 (wn (cs:=[vi a.fL.fN,vi a.fL.fD]) zh<|gK (s:=2) .h1 U)<|Lg 11 (wj (cs:=([a.fL]:List z2).flatMap xX) z3U (Lq (l:=[.tmp 10]) (.cons U .nil) [0])) ?_
 intro j _
 let A:Value:=(vs (some ⟨j,0,none⟩) (([a.fL]:List z2).length) 1);refine Le 12 (we (v:=(.agg #[C,vi a.fR.fN,vi a.fR.fD,vi a.fL.fN,vi a.fL.fD,.nilFunc,A])) (Lq (l:=[.tmp 7,.tmp 8,.tmp 11]) (.r3 U U U) [0,1,3]))<|Lg 6 (xT (cs:=[vn,vi 0,vi 0,vi 0,vi 0,.nilFunc,vn]) zLC) ?_
 intro m _
 exact Ll (xP zLD .here)<|Q0n<|B0q<|Le 13 (wJ<|L6 (l:=[.tmp 2,.tmp 3])<|.r2 U U)<|Le 14 (xz eI)<|Ll (jh (ds:=[C,vi a.fR.fN,vi a.fR.fD,vi a.fL.fN,vi a.fL.fD,.func (.func 128) #[] #[vp f,vp g],A]) zLE .here)<|Q0n<|WC.b<|bK h fun n i h=>Ld<|Le 15 (xK zob (xM .here))<|Ln 16 (Ns call127) .nil (ux hz .nil (.s3 .h4 .h3 .h1) fun w pz ho la=>d9 i pz ((e.mono<|zl).weak (fun _ _ h=>gp zl h)) ((e.mono<|zl).weak (fun _ _ h=>gp zl h)) ((la _ (.head _) _).stb) ((la _ (.tail _<|.head _) _).stb)<|ZA.row (la _ (.tail _<|.tail _<|.head _) _) (RR.flat (enc:=xX)) ⟨w,pz.1⟩)<|Q2q U<|Ll (xP zZ .h2)<|Q1n U<|Ny<|oJ h▸Nm results82 (.agg U zh U (xM .here)<|.tmp U .nil) .nil
def qH(b:z2×Int)(c:z2×Int)(e:Int->Option (ys×Int×(List (ym×z2))×(List (z6×Int)))):Nat->Int->Int->Option (ys×Int×(List (ym×z2))×(List (z6×Int)))
 | 0,_,_=>none
 | h+1,a,d=>if decide (a<(([b.2,c.2]:List Int).length:Int)) then qI (fun(i:Int)=>qH b c e h (i64 (a+1)) i) fun f=>chk (0<=a/\a<(([b.2,c.2]:List Int).length:Int)) (qI (fun(j:Int)=>if decide (d=0) then f j else f d) fun g=>if decide ((nth ([b.2,c.2]:List Int) a)=6) then g 352 else g (nth ([b.2,c.2]:List Int) a)) else e d
def uA(b:zu)(k:List (List zd))(l:List (ym×z2))(d:List (z6×Int))(m:Int)(a:z6):Option (ys×Int×(List (ym×z2))×(List (z6×Int))):=
 (mO b k l d m a).bind fun c=>sk (fun(e:List (List z8)) (n:Int)=>chk (0<=a.fQ/\a.fQ<b.fK.length) ((jG n).bind fun f=>(uZ e (⟨(⟨1,(nth b.fK a.fQ).yp⟩:z2),f⟩:yv)).bind fun g=>(uc e (⟨(⟨1,(nth b.fK a.fQ).yp⟩:z2),f⟩:yv)).bind fun h=>qI (fun(o:Int)=>(j6 g.1).bind fun i=>(j6 h.1).bind fun p=>some (({a with yl:=(xI (w6 d a i) a 0),fT:=i64 (p+c.2.1)}:ys),o,c.2.2.2,w6 d a i)) fun q=>qH g h q xR 0 c.2.2.1)) fun j=>if decide ((i64 (a.ya-(b.fM.length:Int)))>=0) then chk (0<=(i64 (a.ya-(b.fM.length:Int)))/\(i64 (a.ya-(b.fM.length:Int)))<b.fS.length) (j c.1 ((nth b.fS (i64 (a.ya-(b.fM.length:Int)))).yl)) else j c.1 0
theorem Yq{Z d S T V W X Y aa ab ad ae af ag ah ai aj ak al am b c a B ar o au f r}(h:uA a B ar o au f=some r){Nx}(hz:Pz [stb d 119 [vs S a.fM.length T,vs V a.yd.length W,vs X a.fS.length Y,vs aa a.fK.length ab,vs ad a.yc.length ae,vs af a.fH.length ag,vs ah a.fU.length ai,vs aj a.ye.length ak,vs al B.length am,.map (some b),.map (some c),vi au],xN b (ga jM) (ga xX) ar,xN c (ga w8) vI o] Nx Z)(aH:ZS Z 4 (kr Z) S T a.fM)(aI:ZS Z 4 (g5 Z) V W a.yd)(aw:ZS Z 4 (rq ki) X Y a.fS)(ax:ZS Z 4 (rq gg) aa ab a.fK)(aJ:ZS Z 7 (g8 Z) ad ae a.yc)(aK:ZS Z 5 (rq gc) af ag a.fH)(aL:ZS Z 3 (g6 Z) ah ai a.fU)(aM:ZS Z 4 (rq ge) aj ak a.ye)(aN:ZS Z 1 (g9 Z) al am B)(eO:Ho Nx [stb d 119 [vs S a.fM.length T,vs V a.yd.length W,vs X a.fS.length Y,vs aa a.fK.length ab,vs ad a.yc.length ae,vs af a.fH.length ag,vs ah a.fU.length ai,vs aj a.ye.length ak,vs al B.length am,.map (some b),.map (some c),vi au],xN b (ga jM) (ga xX) ar,xN c (ga w8) vI o]):
  RF 43 #[vp d,.agg #[vi f.ya,vi f.fQ]] Nx (.agg #[vi r.1.ya,vi r.1.fQ,vi r.1.yl,vi r.1.fT]) [stb d 119 [vs S a.fM.length T,vs V a.yd.length W,vs X a.fS.length Y,vs aa a.fK.length ab,vs ad a.yc.length ae,vs af a.fH.length ag,vs ah a.fU.length ai,vs aj a.ye.length ak,vs al B.length am,.map (some b),.map (some c),vi au],xN b (ga jM) (ga xX) ar,xN c (ga w8) vI o] [stb d 119 [vs S a.fM.length T,vs V a.yd.length W,vs X a.fS.length Y,vs aa a.fK.length ab,vs ad a.yc.length ae,vs af a.fH.length ag,vs ah a.fU.length ai,vs aj a.ye.length ak,vs al B.length am,.map (some b),.map (some c),vi r.2.1],xN b (ga jM) (ga xX) r.2.2.1,xN c (ga w8) vI r.2.2.2]:=by
 unfold uA at h
 refine Ni func43 U eO U ?_
 let M:List Value:=[vi f.ya,vi f.fQ];refine WC.pool<|B0q<|Lg 3 (wa (cs:=M)) ?_
 intro p _
 let C:List Value:=[vi 0,vi 0,vi 0,vi 0];refine Lg 4 (xT (cs:=C) zoa) ?_
 intro q _
 refine Q0n<|WC.b<|bK h fun e aO h=>D1q U<|Le 18 (xK z6Q (xM .h1))<|Ou U (Ns call79) (.s3 .h3 .h3 .h3) (ms hz (.s3 .h3 .h3 .h3) .h2 fun w pz ho=>nU aO pz ((aH.mono<|zl).weak (fun _ _ h=>wV zl h)) ((aI.mono<|zl).weak (fun _ _ h=>vt zl h)) (aw.mono<|zl) (ax.mono<|zl) ((aJ.mono<|zl).weak (fun _ _ h=>wX zl h)) (aK.mono<|zl) ((aL.mono<|zl).weak (fun _ _ h=>vu zl h)) (aM.mono<|zl) ((aN.mono<|zl).weak (fun _ _ h=>qa zl h)) ho) ?_
 rintro t ay az aA aB
 refine WL.merge .here .h6<|Q5n U<|B1n U ?_
 obtain⟨a6,aP,h⟩:=jR h
 let D:Value:=(vs S a.fM.length T);let E:Value:=(vs V a.yd.length W);let F:Value:=(vs X a.fS.length Y);let G:Value:=(vs aa a.fK.length ab);let H:Value:=(vs ad a.yc.length ae);let I:Value:=(vs af a.fH.length ag);let J:Value:=(vs ah a.fU.length ai);let K:Value:=(vs aj a.ye.length ak);let L:Value:=(vs al B.length am);refine Nj (fun u an ap=>(a6 u an=some r)/\(RR 1 (jT (Z++([]++t))) ap u)) (fun u an ap=>[(0,vp d),(3,vp p),(4,vp q),(5,vs ay u.length az),(6,vi e.2.1),(7,vi an)]) (fun u an ap=>[fz ([]++t),row (vs ay u.length az) 227 1 ap,stb d 119 [D,E,F,G,H,I,J,K,L,(.map<|some b),(.map<|some c),vi e.2.2.1],stb p 121 M,stb q 37 C,xN b (ga jM) (ga xX) e.2.2.2,xN c (ga w8) vI o]) ?_ ?_
 ·refine WC.b<|Lu nc []<|Lf 0 U (xz lI)<|Lh 1 U (Nt xJ .h6)<|Lf 2 U q_m<|Lf 3 U xY<|Lf 4 U (xz sd)<|Lf 5 U (xz tw)<|Lh 6 U (Nt zaS .h2)<|Lf 7 U (w9 underlying22)<|Lf 8 U td<|Lf 9 U q_z<|N0<|Lb<|B2n U<|Lj h (fun aQ h=>?_)<|fun aQ h=>?_
  ·refine cK h fun aR h=>D1q U<|Le 34 xY<|Le 35 (xz sd)<|Le 36 (xz uN)<|Le 37 (Nt zaT .h2)<|La U<|L2 (Z:=(Z++([]++t))) (Pr:=(rq ki)) zbR (aw.mono<|zl.trans (zl.trans xE.wv)) aR ?_
   rintro bc bd aS be rfl
   exact Le 40 (xz dz)<|Le 41 (xA xJ U<|wq (hz.pv2 .here) aS)<|La U<|WL.nil<|Lo ⟨e.1,(nth a.fS<|i64 (f.ya-(a.fM.length:Int))).yl,aA⟩ ⟨h,(aB.weak<|fun _ _ h=>gp xE.wv h)⟩ .q<|.s7 .here .here .here .h3 .h2 .here .here
  ·exact N2<|Lo ⟨e.1,0,aA⟩ ⟨h,(aB.weak<|fun _ _ h=>gp xE.wv h)⟩ .q<|.s7 .here .here .here .h3 .h2 .here .here
 ·rintro u an ap ⟨h,aD⟩
  replace h:=(aP u an).symm.trans h
  refine WC.b<|cK h fun aT h=>bK h fun aE aU h=>Lu (fun i=>[15].contains i) []<|Lf 0 U q_m<|Lf 1 U xY<|Lf 2 U (xz sd)<|Lf 3 U (xz tx)<|Lh 4 U (Nt zaU .h2)<|Lf 5 U (xz cF)<|Lh 6 U (Nt xJ .h3)<|L5 (j:=7) (Z:=(Z++([]++t))) (Pr:=(rq gg)) zdD (ax.mono<|zl.trans (zl.trans xE.wv)) aT ?_
  rintro bf bg aV bh rfl
  let Q:Value:=(vi ((nth a.fK f.fQ).yp));refine Lf 8 U (xz rK)<|Lh 9 U (xA xJ U<|wq (hz.pv2 .here) aV)<|Lf 10 U (we (v:=(.agg #[vi 1,Q])) (Lq (l:=[.const (vi 1),.tmp 51]) (.r2 U U) [0,1]))<|Lf 11 U q_m<|L4 12 U (Ns call80) (ms hz .nil .here fun w pz ho=>uu aU pz )<|Lf 13 U (we (v:=(.agg #[vi 1,Q,vi aE.fN,vi aE.fD])) (Lq (l:=[.tmp 52,.tmp 54]) (.r2 U U) [0,1]))<|WD.new (i:=14) U U (xT (cs:=C) zWM) (fun h'=>absurd h' (by decide)) ?_
  intro bi _
  refine Nc (i:=15) U (xP zWN .here)<|N0<|Lb<|WC.b<|bK h fun g aW h=>D1q U<|Le 58 (xK ztn (xM .here))<|Ln 59 (Ns call81) .nil (cE hz .nil .h1 (.cons .h2 .nil) fun w pz ho la=>X8 aW pz<|ZA.row (la _ (.head _) _) (aD.weak<|fun _ _ h=>gp zl h) ⟨w,pz.1⟩)<|Q2q U<|La U (Lg 10 (xT (cs:=[vi 0,vi 0]) z1z) fun x _=>Ll (xP zZ .here)<|Q1n U<|WC.b ?_)
  refine bK h fun m aX h=>D1q U<|Le 64 (xK ztn (xM .h1))<|Ln 65 (Ns call82) .nil (cE hz .nil .h2 (.cons .h3 .nil) fun w pz ho la=>aC aX pz<|ZA.row (la _ (.head _) _) (aD.weak<|fun _ _ h=>gp zl h) ⟨w,pz.1⟩)<|Q2q U<|La U (Lg 12 (xT (cs:=[vi 0,vi 0]) z1z) fun y _=>Ll (xP zZ .here)<|Q1n U ?_)
  obtain⟨aF,aY,h⟩:=wg h
  let O:List Value:=[vi g.1.fN,vi g.1.fD];let P:List Value:=[vi m.1.fN,vi m.1.fD];refine Na (fun ao=>(aF ao=some r)) (fun ao=>[(0,vp d),(3,vp p),(4,vp q),(6,vi e.2.1),(10,vp x),(12,vp y)]) (fun ao=>[fz ([]++t),stb d 119 [D,E,F,G,H,I,J,K,L,(.map<|some b),(.map<|some c),vi ao],stb p 121 M,stb q 37 C,stb x 175 O,stb y 175 P,xN b (ga jM) (ga xX) e.2.2.2,xN c (ga w8) vI o]) ?_ ?_
  ·refine B2q U<|Lg 70 (wj (cs:=([g.2,m.2]:List Int).flatMap e41) zLL (Lq (l:=[.tmp 68,.tmp 69]) (.r2 U U) [0,1])) ?_
   intro a7 _
   let A:Value:=(vs (some ⟨a7,0,none⟩) (([g.2,m.2]:List Int).length) 2);let N:Value:=(vi (([g.2,m.2]:List Int).length:Int));refine Le 71 (w9 underlying181)<|Q1n U<|WC.block<|H4 (fun aq n s=>(qH g m aF aq n s=some r)) (fun aq n s=>[(0,vp d),(3,vp p),(4,vp q),(6,vi e.2.1),(10,vp x),(12,vp y),(70,A),(71,N),(72,vi n)]) (fun aq n s=>[fz ([]++t),row A 41 1 (([g.2,m.2]:List Int).flatMap e41),stb d 119 [D,E,F,G,H,I,J,K,L,(.map<|some b),(.map<|some c),vi s],stb p 121 M,stb q 37 C,stb x 175 O,stb y 175 P,xN b (ga jM) (ga xX) e.2.2.2,xN c (ga w8) vI o]) (fun aq n s=>aq) ⟨xR,0,e.2.2.1⟩ h .q (.s9 .h4 .here .h4 .h4 .h4 .h1 .here .h2 .h2) ?_
   rintro(_|a8) n s h;·cases h
   rw[qH] at h
   refine B1n U<|WC.b<|Lj h (fun aZ h=>?_)<|fun aZ h=>?_
   ·refine Nn<|jK1 h fun a9 a0 h=>Na (fun R=>(a9 R=some r)) (fun R=>[(0,vp d),(3,vp p),(4,vp q),(6,vi e.2.1),(10,vp x),(12,vp y),(70,A),(71,N),(72,vi n)]) (fun R=>[fz ([]++t),row A 41 1 (([g.2,m.2]:List Int).flatMap e41),stb d 119 [D,E,F,G,H,I,J,K,L,(.map<|some b),(.map<|some c),vi R],stb p 121 M,stb q 37 C,stb x 175 O,stb y 175 P,xN b (ga jM) (ga xX) e.2.2.2,xN c (ga w8) vI o]) ?_ ?_
    ·refine WC.block<|WC.b<|cK h fun av h=>Ld<|Le 74 (w3 zLL av.1 av.2 wI)<|Le 75 (xA z6h U<|o9 .h1<|(wU (enc:=e41) (l:=([g.2,m.2]:List Int)) (i:=n) (sz:=1) av.1 av.2) 0 _ U)<|Q1n U<|jK1 h fun ba a1 h=>Na (fun z=>(ba z=some r)) (fun z=>[(0,vp d),(3,vp p),(4,vp q),(6,vi e.2.1),(10,vp x),(12,vp y),(15,vi z),(70,A),(71,N),(72,vi n)]) (fun z=>[fz ([]++t),row A 41 1 (([g.2,m.2]:List Int).flatMap e41),stb d 119 [D,E,F,G,H,I,J,K,L,(.map<|some b),(.map<|some c),vi s],stb p 121 M,stb q 37 C,stb x 175 O,stb y 175 P,xN b (ga jM) (ga xX) e.2.2.2,xN c (ga w8) vI o]) ?_ ?_
     ·refine B2n U<|Lj h (fun a2 h=>?_)<|fun a2 h=>?_
      ·exact D1q U<|WL.nil<|Lo 352 h .q<|.a9
      ·exact N2<|Lo (nth ([g.2,m.2]:List Int) n) h .q<|.a9
     ·rintro z h
      replace h:=(a1 z).symm.trans h
      refine B1q U<|Le 79 xY<|Le 80 (xz lJ)<|Le 81 (Nt z6h .h2)<|Q1n U<|Lj h (fun a3 h=>?_)<|fun a3 h=>?_
      ·exact D2q U<|Le 85 xY<|Le 86 (xz lJ)<|Ll (jh (ds:=[D,E,F,G,H,I,J,K,L,(.map<|some b),(.map<|some c),vi z]) ztm .h2)<|WL.nil<|Lt<|Lo z h .q<|.s9 .h1 .h1 .here .here .here .here .here .here .here
      ·exact N2<|Lt<|Lo s h .q<|.a9
    ·rintro R h
     replace h:=(a0 R).symm.trans h
     exact D2q U<|WL.nil<|Nz ⟨a8,i64 (n+1),R⟩ h .q<|.a9
   ·exact N1<|Lm<|Lm<|Lv<|Lo s h .q<|.s8 .here .h1 .h1 .h1 .h1 .h1 .h1 .h1
  ·rintro ao h
   replace h:=(aY ao).symm.trans h
   exact WC.b<|bK h fun aG a4 h=>Lu (fun i=>[7].contains i) []<|Lf 0 U q_m<|Lf 1 U xY<|Lf 2 U (xz YZ)<|Lh 3 U (Nt ztl .h1)<|Lh 4 U (xK z6Q (xM .h2))<|Lh 5 U (xK zh (xM .h4))<|L4 6 U (Ns call83) (ms hz .nil .here fun w pz ho=>oh a4 pz )<|Nc (i:=7) U (kV (k:=f) (v:=aG) ziM underlying117 .h7)<|N0<|Lb<|WC.b<|bK h fun bb a5 h=>Lu (fun i=>[15].contains i) []<|Lf 0 U (xz lI)<|Lh 1 U (Nt xJ .h3)<|Lf 2 U (xz cF)<|Lh 3 U (Nt xJ .h3)<|Lf 4 U q_m<|Lf 5 U xY<|Lf 6 U (xz YZ)<|Lh 7 U (Nt ztl .h2)<|Lh 8 U (xK z6Q (xM .h3))<|Lh 9 U (jg (k:=f) (dflt:=(0:Int)) ziM underlying117 jF .here)<|Lh 10 U (xK zh (xM .h6))<|L4 11 U (Ns call83) (ms hz .nil .h1 fun w pz ho=>oh a5 pz )<|Lf 12 U q_m<|Lf 13 U uC<|Lf 14 U (we (v:=(.agg #[vi f.ya,vi f.fQ,(vi<|xI (w6 o f aG) f 0),(vi<|i64 (bb+e.2.1))])) (Lq (l:=[.tmp 96,.tmp 98,.tmp 104,.tmp 108]) (.r4 U U U U) [0,1,2,3]))<|Nc (i:=15) U (xP zlC .h4)<|N0<|Lb<|Ny<|oJ h▸Nm results43 (.agg U zfq U (xM .here) .nil) (.s3 .h3 .h6 .h1)
def qV(a:ys)(b:ys):Option Int:=
 (vS (⟨a.ya,a.fQ⟩:z6) (⟨b.ya,b.fQ⟩:z6)).bind fun c=>some c
theorem Yr{Z a b r}(h:qV a b=some r){Nx}(hz:PZ [] Nx Z):
  RC 44 #[.agg #[vi a.ya,vi a.fQ,vi a.yl,vi a.fT],.agg #[vi b.ya,vi b.fQ,vi b.yl,vi b.fT]] Nx (vi r) [] []:=by
 unfold qV at h
 refine L0 func44 U U<|B0q (Lg 2 (wa (cs:=[vi a.ya,vi a.fQ,vi a.yl,vi a.fT])) fun d _=>Lg 3 (wa (cs:=[vi b.ya,vi b.fQ,vi b.yl,vi b.fT])) fun e _=>Q1n U<|WC.b ?_)
 exact bK h fun f c h=>Ld<|Le 5 (xz pN)<|Le 6 (Nt xJ .h1)<|Le 7 (xz lM)<|Le 8 (Nt xJ .h1)<|Le 9 (we (v:=(.agg #[vi a.ya,vi a.fQ])) (Lq (l:=[.tmp 6,.tmp 8]) (.r2 U U) [0,1]))<|Le 10 (xz pN)<|Le 11 (Nt xJ .here)<|Le 12 (xz lM)<|Le 13 (Nt xJ .here)<|Le 14 (we (v:=(.agg #[vi b.ya,vi b.fQ])) (Lq (l:=[.tmp 11,.tmp 13]) (.r2 U U) [0,1]))<|Nr call45 hz (oY c)<|Q1n U<|Ny<|oJ h▸Nl results44
theorem z1a5:∀ w,(isAgg (Tryz.gL.t 24)).run Tryz.prog w = .ok true w:=fun _=>by kernel_rfl
theorem z1a6:∀ w,(Go.sizeOf (Tryz.gL.t 24)).run Tryz.prog w = .ok 4 w:=fun _=>by kernel_rfl
def jA(z7r:List ys)(zvz:Int)(zvA:Int)(zqE:Int)(zn4:ys->ys->Option Int):Option (List ys):=chk ((zvz=0/\zvA=(z7r.length:Int))/\(0<=zqE/\zqE<4611686018427387904/\z7r.length<4611686018427387904)) (chk (oq zn4 (wx zn4 z7r)=true) (some (wx zn4 z7r)))
theorem pj{Z}(zn5 zn6 zvB zHU z7r zvz zvA zqE zn4 r){Nx}(hz:Pz [row (vs zn5 z7r.length zn6) 37 4 (z7r.flatMap km)] Nx Z)(a:∀ args w,(callFunc zvB args).run Tryz.prog w = .ok (.enter zvB args) w)(b:∀ w:World,PZ [] w Z->∀(x0:ys) (x1:ys) (r:Int),zn4 x0 x1=some r->Calls Tryz.prog zvB (([.agg #[vi x0.ya,vi x0.fQ,vi x0.yl,vi x0.fT],.agg #[vi x1.ya,vi x1.fQ,vi x1.yl,vi x1.fT]]:List Value)++zHU).toArray w fun e w'=>e = .returned (vi r)/\Hp [] w w' [])(h:jA z7r zvz zvA zqE zn4=some r)(eO:Ho Nx [row (vs zn5 z7r.length zn6) 37 4 (z7r.flatMap km)]):
  Calls Tryz.prog 56 #[vs zn5 z7r.length zn6,vi zvz,vi zvA,vi zqE,.func (.func zvB) #[] (zHU).toArray] Nx fun e w'=>e = .returned (.tuple #[])/\(r.length=z7r.length)/\Hp (fps [row (vs zn5 z7r.length zn6) 37 4 (z7r.flatMap km)]) Nx w' [row (vs zn5 r.length zn6) 37 4 (r.flatMap km)]:=by
 obtain⟨h0,h⟩:=xG h
 obtain⟨h1,h⟩:=xG h
 have hr:=(oJ h).symm
 exact ig (P:=Tryz.prog) (f:=56) (e:=37) (k:=4) (enc:=km) XK (fun β _ enc cf g cb hO wm off cap d0 w0 eg hC R=>Tryz.ii 4 z1a5 z1a6 enc cf g cb hO wm off cap d0 w0 eg hC R) (Tryz.lH (α:=Unit)) hz a b h0 h1 hr eO
def wt(a:List ys)(zn7:ys->ys->Option Int):Option (List ys):=
 (fj (u64 (a.length:Int))).bind fun b=>(jA a 0 (a.length:Int) b zn7).bind fun c=>some c
theorem f5{Z b c}(zn8 zvC){a}(zn7){r}(h:wt a zn7=some r){Nx}(hz:Pz [row (vs b a.length c) 37 4 (a.flatMap km)] Nx Z)(j:∀ args w,(callFunc zn8 args).run Tryz.prog w = .ok (.enter zn8 args) w)(k:∀ w:World,PZ [] w Z->∀(x0:ys) (x1:ys) (r:Int),zn7 x0 x1=some r->Calls Tryz.prog zn8 (([.agg #[vi x0.ya,vi x0.fQ,vi x0.yl,vi x0.fT],.agg #[vi x1.ya,vi x1.fQ,vi x1.yl,vi x1.fT]]:List Value)++zvC).toArray w fun e w'=>e = .returned (vi r)/\Hp [] w w' [])(eO:Ho Nx [row (vs b a.length c) 37 4 (a.flatMap km)]):
  Calls Tryz.prog 26 #[vs b a.length c,.func (.func zn8) #[] (zvC).toArray] Nx fun e w'=>e = .returned (.tuple #[])/\(r.length=a.length)/\Hp (fps [row (vs b a.length c) 37 4 (a.flatMap km)]) Nx w' [row (vs b r.length c) 37 4 (r.flatMap km)]:=by
 unfold wt at h
 refine Ni func26 U eO U<|B1q U<|Le 6 (w9 underlying33)<|Q1n U<|bK h fun d l h=>bK h fun f m h=>D3q U<|Le 10 (mL underlying3 underlying147)<|Nr call57 hz (fun pz=>oZ  (zaZ:=(u64 (a.length:Int))) (r:=d) pz  l)<|La U<|Nb U (Ns call56) (.cons .here .nil) (cc hz (.cons .here .nil) fun w pz ho=>pj (zn5:=b) (zn6:=c) (zvB:=zn8) (zHU:=zvC) (z7r:=a) (zvz:=0) (zvA:=(a.length:Int)) (zqE:=d) (zn4:=zn7) (r:=f) pz j k m ho) ?_
 rintro  g
 exact L9 (i:=0) U (u:=(vs b f.length c)) (qB g.symm)<|WL.nil<|oJ h▸Nh results26 .nil fun w hw=>⟨mq,g.trans U,hw.sub (.cons .here .nil)⟩
def f6(a:List zd)(c:Option Bool):Nat->Int->Option Bool
 | 0,_=>none
 | e+1,b=>if decide (b<a.length) then chk (0<=b/\b<a.length) (chk ((0:Int)<=0/\(0:Int)<=b/\b<=a.length) ((uU (a.take (b:Int).toNat) ((nth a b).ya)).bind fun d=>chk ((!d.2)=true->((0:Int)<=0/\0<(a.length:Int))) (if (!d.2)&&(decide (((nth a b).ya)≠((nth a 0).ya))) then some false else f6 a c e (i64 (b+1))))) else c
def pC(a:List zd):Option Bool:=
 mZ (some true) fun b=>f6 a b xR 0
theorem QQ{Z f g b r}(h:pC b=some r){Nx}(hz:PZ [] Nx Z)(k:ZS Z 3 (rq mN) f g b):
  RC 59 #[vs f b.length g] Nx (.bool r) [] []:=by
 unfold pC at h
 refine L8 func59 U U<|B1n U<|jK0 h fun m p h=>Nd (m=some r) ([]) ([]) ?_ ?_
 ·let A:Value:=(vs f b.length g);let D:Value:=(vi (b.length:Int));refine B1q U<|Le 8 (w9 underlying58)<|Q1n U<|WC.block<|Ng (fun d a=>(f6 b m d a=some r)) (fun d a=>[(0,A),(7,A),(8,D),(9,vi a)]) (fun d a=>[]) (fun d a=>d) ⟨xR,0⟩ h .q .nil ?_
  rintro(_|J) a h;·cases h
  rw[f6] at h
  refine B1n U<|WC.b<|Lj h (fun q h=>?_)<|fun q h=>?_
  ·refine Nn<|WC.b<|WC.block<|WC.b<|cK h fun s h=>D1q U<|L2 (Z:=Z) (Pr:=(rq mN)) z7F k s ?_
   rintro t K u L rfl
   refine Le 13 (xK z54 (qx hz.pv u)) (Lg 4 (xT (cs:=[vi 0,vi 0,vi 0]) zdE) fun n _=>La U<|Ll (xP zbS .here)<|Q0n<|WC.b ?_)
   refine cK h fun v h=>bK h fun c x h=>Lu (fun i=>[10].contains i) []<|Lf 0 U q_m<|Lf 1 U q_m<|Pi (j:=2) (by kernel_rfl) U z2m z2n U U (Z:=Z) (Pr:=(rq mN)) z7F U k (fun _=>ixn) (fun _=>ixo U) U U v (List.drop_zero).symm ?_
   rintro y z B
   refine Lf 3 U (xz ku)<|Lh 4 U (Nt xJ .here)<|L4 5 U (Ns call77) (cc hz .nil fun w pz ho=>cN x pz B)<|Lf 6 U q_m<|Lf 7 U fF<|Lf 8 U fF (WD.new (i:=9) U U (xT (cs:=[vi 0,vi 0,vi 0]) zdE) (fun h'=>absurd h' (by decide)) fun E _=>WD.forced0 (i:=10) U (wB.of .nil) (xP zbS .here)<|Lf 11 U q_z<|N0<|Lb<|WC.b ?_)
   obtain⟨F,h⟩:=xG h
   let C:Value:=(.agg #[vi c.1.ya,vi c.1.fX,vi c.1.fQ]);refine Lu nc []<|Lf 0 U q_m<|Lf 1 U (Xz U)<|Lf 2 U q_m<|Nf (fuel':=0) [(0,A),(7,A),(8,D),(9,vi a),(10,(.bool<|decide (a<b.length))),(11,vi a),(12,vq t),(13,.agg #[(vi<|(nth b a).ya),(vi<|(nth b a).fX),(vi<|(nth b a).fQ)]),(4,vp n),(3,vi a),(15,A),(16,vi a),(17,vs y ((b.take (a:Int).toNat).length) z),(18,vp n),(19,(vi<|(nth b a).ya)),(20,.tuple #[C,.bool c.2]),(14,.tuple #[C,.bool c.2]),(21,C),(22,.bool c.2),(5,vp E),(6,.bool c.2),(23,.bool c.2),(24,.bool (!c.2)),(25,.bool (!c.2)),(33,(.bool<|(!c.2)&&(decide (((nth b a).ya)≠((nth b 0).ya)))))] (vA 11 (dn 11)) ?_<|fun o=>?_
   rotate_left
   ·rcases Bool.eq_false_or_eq_true (!c.2) with hb' | hb'
    ·have e:=hb';clear hb'
     have G:=F e
     refine L3 (i:=25) U e<|Lf 3 U (xz ku)<|Lh 4 U (Nt xJ .h1)<|Lf 5 U q_m<|L5 (j:=6) (Z:=Z) (Pr:=(rq mN)) z7F k G ?_
     rintro M N H O rfl
     refine Lf 7 U (xz ku)<|Lh 8 U (xA xJ U<|wq hz.pv H)<|Lf 9 U (Xy U U)<|Lf 10 U qW<|Lx .a2 ?_ o
     exact .t 23<|.r2 (zA<|Eq.symm e)<|zA<|kS e
    ·have l:=hb';clear hb'
     refine L3 (i:=25) U l<|Lp 3 U<|Lp 4 U<|Lp 5 U<|Lp 6 U<|Lp 7 U<|Lp 8 U<|Lp 9 U<|Lf 10 U qX<|Lx .a2 ?_ o
     exact .t 23<|.r2 (zA<|Eq.symm l)<|zA<|kR l
   refine N0<|Lb<|Lj h (fun I h=>?_)<|fun I h=>?_
   ·exact B1n U<|Ny<|Lw<|Lk<|Lk<|Lw<|Lk<|oJ h▸Nl results59
   ·exact N2<|Lt<|Lb<|D2q U<|WL.nil<|Nz ⟨J,i64 (a+1)⟩ h .q .nil
  ·exact N1<|Lm<|Lm<|Lv<|Lo () h .nil .nil
 ·rintro  h
  replace h:=p.symm.trans h
  exact B1n U<|Ny<|oJ h▸Nl results59
def fY(a:List zd):Option Bool:=
 (pC a).bind fun b=>some (!b)
theorem WP{Z b c a r}(h:fY a=some r){Nx}(hz:PZ [] Nx Z)(d:ZS Z 3 (rq mN) b c a):
  RC 58 #[vs b a.length c] Nx (.bool r) [] []:=by
 unfold fY at h
 exact L8 func58 U U<|B1n U<|WC.b<|bK h fun f e h=>D1q U<|Nr call59 hz (fun pz=>QQ e pz d)<|Q2n U<|Ny<|oJ h▸Nl results58
def jI(a:zt)(b:zt):Option Int:=
 some (i64 (a.ya-b.ya))
theorem WQ{Z a b r}(h:jI a b=some r){Nx}(hz:PZ [] Nx Z):
  RC 62 #[.agg #[vi a.yx,vi a.ya,vi a.yl],.agg #[vi b.yx,vi b.ya,vi b.yl]] Nx (vi r) [] []:=by
 unfold jI at h
 refine L0 func62 U U<|B0q (Lg 2 (wa (cs:=[vi a.yx,vi a.ya,vi a.yl])) fun c _=>Lg 3 (wa (cs:=[vi b.yx,vi b.ya,vi b.yl])) fun d _=>Q1n U<|B0q<|Le 5 (xz WB)<|Le 6 (Nt xJ .h1)<|Le 7 (xz WB)<|Le 8 (Nt xJ .here)<|Q2n U<|Ny ?_)
 exact oJ h▸Nl results62
theorem z1au:∀ w,(isAgg (Tryz.gl.t 24)).run Tryz.prog w = .ok true w:=fun _=>by kernel_rfl
theorem z1av:∀ w,(Go.sizeOf (Tryz.gl.t 24)).run Tryz.prog w = .ok 3 w:=fun _=>by kernel_rfl
def mm(z7s:List zt)(zvE:Int)(zvF:Int)(zqG:Int)(znb:zt->zt->Option Int):Option (List zt):=chk ((zvE=0/\zvF=(z7s.length:Int))/\(0<=zqG/\zqG<4611686018427387904/\z7s.length<4611686018427387904)) (chk (oq znb (wx znb z7s)=true) (some (wx znb z7s)))
theorem oI{Z}(znc znd zvG zHY z7s zvE zvF zqG znb r){Nx}(hz:Pz [row (vs znc z7s.length znd) 53 3 (z7s.flatMap fg)] Nx Z)(a:∀ args w,(callFunc zvG args).run Tryz.prog w = .ok (.enter zvG args) w)(b:∀ w:World,PZ [] w Z->∀(x0:zt) (x1:zt) (r:Int),znb x0 x1=some r->Calls Tryz.prog zvG (([.agg #[vi x0.yx,vi x0.ya,vi x0.yl],.agg #[vi x1.yx,vi x1.ya,vi x1.yl]]:List Value)++zHY).toArray w fun e w'=>e = .returned (vi r)/\Hp [] w w' [])(h:mm z7s zvE zvF zqG znb=some r)(eO:Ho Nx [row (vs znc z7s.length znd) 53 3 (z7s.flatMap fg)]):
  Calls Tryz.prog 110 #[vs znc z7s.length znd,vi zvE,vi zvF,vi zqG,.func (.func zvG) #[] (zHY).toArray] Nx fun e w'=>e = .returned (.tuple #[])/\(r.length=z7s.length)/\Hp (fps [row (vs znc z7s.length znd) 53 3 (z7s.flatMap fg)]) Nx w' [row (vs znc r.length znd) 53 3 (r.flatMap fg)]:=by
 obtain⟨h0,h⟩:=xG h
 obtain⟨h1,h⟩:=xG h
 have hr:=(oJ h).symm
 exact ig (P:=Tryz.prog) (f:=110) (e:=53) (k:=3) (enc:=fg) QF (fun β _ enc cf g cb hO wm off cap d0 w0 eg hC R=>Tryz.lD 3 z1au z1av enc cf g cb hO wm off cap d0 w0 eg hC R) (Tryz.lb (α:=Unit)) hz a b h0 h1 hr eO
end Go.Proofs.YthjnhebofpebpaaGreat
