/- A part of this claim's proof: models of functions, walks, plain laws. No conditions. -/
import Derived.Test.YtaefhckdgfpeaaaGreatWopd
set_option linter.all false
namespace Go.Proofs.YtaefhckdgfpeaaaGreat
open Go Go.RowKit Sep Tryz
variable {f:Int}
set_option maxRecDepth 30000
set_option maxHeartbeats 4000000
def fj(d:List (List zb))(e:yy)(f:z1)(a:List z1)(g:Int):Option (Bool×(Nat×List z1×Int)):=
 (pI (⟨g⟩:yk) f d e).bind fun b=>(if decide ((a.length:Int)=0) then some true else chk ((0:Int)<=0/\0<(a.length:Int)) ((kU b.1 (⟨(nth a 0).fN,(nth a 0).fD⟩:z1)).bind fun c=>some (decide (c>0)))).bind fun h=>if h then some (true,(0,([b.1]:List z1),b.2.fE)) else some (true,(0,a,b.2.fE))
def su(d:List (List zb))(g:yy)(a:List (List zb))(b:yy)(e:List z1):Option z1:=
 (m4 d g a b e).bind fun i=>if decide (i≠0) then none else rl (fun(j:Int) (f:List z1)=>if decide (j≠0) then none else chk ((0:Int)<=0/\0<(f.length:Int)) (some (⟨(nth f 0).fN,(nth f 0).fD⟩:z1))) fun k=>(fi d g a b e).bind fun c=>(mW (Nat×List z1×Int) (fun(x:z1) (s:Nat×List z1×Int)=>chk (s.1=0) (fj a b x s.2.1 s.2.2)) (0,([]:List z1),0) d (⟨(⟨c.1,c.2.1⟩:z1),(⟨c.2.2.1,c.2.2.2⟩:z1)⟩:yy) a b e).bind fun h=>k h.2.2 h.2.1
theorem nG(Z ad ae af an ao ag ah ai T c R t V r)(h:su T c R t V=some r){Ek}(hz:PZ [] Ek Z)(ap:ZS Z 1 (qZ Z) ad ae T)(aj:ZS Z 1 (qZ Z) an ao R)(ak:ZC Z af [vs an R.length ao])(al:ZC Z ag [vi t.fR.fN,vi t.fR.fD,vi t.fL.fN,vi t.fL.fD])(aq:ZS Z 2 (rq wI) ah ai V):
  RC 185 #[.agg #[vs ad T.length ae,vi c.fR.fN,vi c.fR.fD,vi c.fL.fN,vi c.fL.fD,.func (.func 180) #[] #[vq af,vq ag],vs ah V.length ai]] Ek (.tuple #[.agg #[vi r.fN,vi r.fD],vi 0]) [] []:=by
 unfold su at h
 let F:Value:=(.func (.func 180) #[] #[vq af,vq ag]);let M:Value:=(vs ad T.length ae);let N:Value:=(vs ah V.length ai);let H:Value:=(.agg #[M,vi c.fR.fN,vi c.fR.fD,vi c.fL.fN,vi c.fL.fD,F,N]);refine E7 (vs:=[H]) (pre:=[]) (env:=[(0,H)]) func185 U ntmps185 (Hp.nil Ek _) U ?_
 let E:List Value:=[M,vi c.fR.fN,vi c.fR.fD,vi c.fL.fN,vi c.fL.fD,F,N];refine B0q<|Lh 1 (wu (cs:=E)) ?_
 intro m _
 refine Lh 2 (wn (cs:=[vi 0,vi 0]) z20) fun n _=>Q1n U<|Lb<|Lb<|bK h fun aX aH h=>Le<|Lf 9 (we zvw (wh .h1))<|Eg call217 hz (fun pz=>oA _ _ _ _ _ _ _ _ _ _ _ _ _ _ _ aH pz ap aj ak al aq)<|Q1n U<|B2n U<|Lj h (fun aI h=>?_)<|fun aI h=>?_
 ·cases h
 ·refine Ec<|Lb<|Le (Lh 5 (wn (cs:=[vi 0]) zNP) fun j _=>Q0n<|Lb<|Le (Lh 6 (wn (cs:=[vn]) zNQ) fun k _=>Q0n ?_))
  refine jK2 h fun aY aK h=>D2 (fun W S o X Y=>(aY S o=some r)) (fun W S o X Y=>[(2,vp n),(5,vp j),(6,vp k)]) (fun W S o X Y=>[stb n 276 [vi 0,vi 0],stb j 371 [vi S],stb k 340 [vs X o.length Y],row (vs X o.length Y) 276 2 (o.flatMap wI),wW W]) ?_ ?_
  ·refine Lb<|bK h fun u aL h=>Le<|Lf 15 (we zvw (wh .h3))<|H9 (dd:=16) U U U (Eh call218) .nil (cc hz .nil fun w pz ho=>pG _ _ _ _ _ _ _ _ _ _ _ _ _ _ _ aL pz ap aj ak al aq) ?_
   rintro a _
   refine Q0n<|WC.block<|WC.drop (.s5 .h1 .h1 .h1 .h1 .here)<|WC.nilRow 276 2<|Ez (f:=251) (caps:=[vp a]) U call251 ?_
   intro a0 a1 p b v am aM aN w hw
   let P:Value:=(vs none (([]:List z1).length) 0);let A:List Asrt:=[stb k 340 [P],row P 276 2 (([]:List z1).flatMap wI),stb j 371 [vi 0],stb n 276 [vi 0,vi 0],stb m 342 E,wA p (v .ready none)];have hw1:=hw.selAll ((.s6 .h3 .h2 .h2 .h2 .h2 .here):Sel _ A _)
   let C:List Value:=[M,vi u.1,vi u.2.1,vi u.2.2.1,vi u.2.2.2,F,N];have pz:=(hz.call hw1 ((.cons .here .nil):Sel [wM A,wW b,stb a 342 C] [wM A] [wW b,stb a 342 C])).lend hw1 ((.cons .here .nil):Sel [wM A,wW b,stb a 342 C] [wM A] [wW b,stb a 342 C]) (B:=[stb a 342 C]) (fun _ nY=>((.cons .h1 .nil):Sel _ [stb a 342 C] _).mem nY)
   refine bK h fun d aO h=>Calls.mono (bu (Z:=_) (zho:=p) (zcV:=(Option Addr×Nat)) (z7n:=(fun(g:Option Addr×Nat) (s:Nat×List z1×Int)=>wM ([stb k 340 [vs g.1 s.2.1.length g.2],row (vs g.1 s.2.1.length g.2) 276 2 (s.2.1.flatMap wI),stb j 371 [vi s.2.2],stb n 276 [vi 0,vi 0],stb m 342 E]++[wA p (v (ka<|vY [] s.1)<|vY [] s.1)]))) (zhp:=(fun(g:Option Addr×Nat) (s:Nat×List z1×Int)=>True)) (zl2:=(none,0)) (zl3:=⟨a,0,none⟩) (zpf:=ad) (zpg:=ae) (zS0:=af) (zS1:=an) (zS2:=ao) (zS3:=ag) (zJy:=ah) (zJz:=ai) (z1C:=(Nat×List z1×Int)) (z8y:=(fun(x:z1) (s:Nat×List z1×Int)=>chk (s.1=0)<|fj R t x s.2.1 s.2.2)) (zeG:=(0,([]:List z1),0)) (z65:=T) (zt4:=(⟨(⟨u.1,u.2.1⟩:z1),(⟨u.2.2.1,u.2.2.2⟩:z1)⟩:yy)) (zEa:=R) (zt5:=t) (zdL:=V) (r:=d) pz ?_ trivial ((ap.mono<|zl).weak (fun _ _ h=>kT zl h)) ((aj.mono<|zl).weak (fun _ _ h=>kT zl h)) (ak.mono<|zl) (al.mono<|zl) (aq.mono<|zl) ((hw1.lent ((.cons .here .nil):Sel [wM A,wW b,stb a 342 C] [wM A] [wW b,stb a 342 C]) (B:=[stb a 342 C]) (fun _ nY=>((.cons .h1 .nil):Sel _ [stb a 342 C] _).mem nY) (.head _) _).stb) aO<|hw1.owns ((.cons .here .nil):Sel [wM A,wW b,stb a 342 C] [wM A] [wW b,stb a 342 C])) ?_
   ·refine lD (LI:=(fun(g:Option Addr×Nat) (s:Nat×List z1×Int)=>[stb k 340 [vs g.1 s.2.1.length g.2],row (vs g.1 s.2.1.length g.2) 276 2 (s.2.1.flatMap wI),stb j 371 [vi s.2.2],stb n 276 [vi 0,vi 0],stb m 342 E])) (pc:=(fun(s:Nat×List z1×Int)=>vY [] s.1)) am aM aN (fun _ _=>U) (by decide) ?_
    rintro ar _ ⟨aB,aC⟩ ⟨aP,q,aD⟩ aQ aR Fb wb ay _ hz
    replace hz:=hz.left
    letI:Rnd:=rX p
    obtain⟨vj,e⟩:=wa ay
    replace vj:aP=0:=vj;subst vj;clear ay
    replace e:fj R t ar q aD=some (aQ,aR):=e
    unfold fj at e
    let I:Value:=(vs aB q.length aC);let K:Value:=(.agg #[vi ar.fN,vi ar.fD]);let Q:Value:=(.bool (decide (aX≠0)));refine WC.restr (env':=[(1,vp m),(12,Q),(5,vp j),(6,vp k),(17,K)]) (.qo U)<|N4 (L':=[stb k 340 [I],row I 276 2 (q.flatMap wI),stb j 371 [vi aD],stb n 276 [vi 0,vi 0],stb m 342 E,wA p (v .ready none)]) U<|Le<|Lh 7 (wn (cs:=[vi 0,vi 0]) z20) ?_
    intro aS _
    refine Ll (wl z1t .here)<|WL.nil<|N0 am .h6<|WC.block<|Lb ?_
    obtain⟨y,aT,e⟩:=z2 e
    refine Le<|Lf 18 (w7 aJ)<|Lf 19 (Ei zZa .h6)<|Lf 20 (we zm (wh .h1))<|Lm 21 (wV (l:=[.tmp 5,.tmp 20]) call180<|.r2 U U) (.cons .h4 .nil) (cc hz (.cons .h4 .nil) fun w pz ho=>X6 _ _ _ _ _ _ _ _ _ _ _ aT pz aj ak al ho) (Lh 8 (wn (cs:=[vi 0,vi 0]) z20) fun aU _=>Ll (wl z1t .here)<|Q0n<|Lb ?_)
    obtain⟨aZ,az,e⟩:=z2 e
    let O:Value:=(.bool (decide ((q.length:Int)=0)));refine Lv nc []<|Li 0 U (Ei zfo .h4)<|Lg 1 U (wB underlying340)<|Lg 2 U uh<|Lg 3 U q_m<|L9 (fuel':=0) [(1,vp m),(12,Q),(5,vp j),(6,vp k),(17,K),(7,vp aS),(18,(.pointer<|some ⟨m,5,none⟩)),(19,F),(20,K),(21,.agg #[vi y.1.fN,vi y.1.fD]),(8,vp aU),(22,I),(23,vi (q.length:Int)),(24,O),(25,O),(32,.bool aZ)] (wR 11 (dn 11)) ?_<|fun aA=>?_
    rotate_left
    ·rcases Bool.eq_false_or_eq_true (decide ((q.length:Int)=0)) with hb' | hb'
     ·have au:=hb';clear hb'
      have av:=qf az au
      replace av:=oJ av
      refine L2 (i:=25) U au<|Lo 4 U<|Lo 5 U<|Lo 6 U<|Lo 7 U<|Lo 8 U<|Lo 9 U<|Lg 10 U vH<|Lw .a8 ?_ aA
      exact .t 14<|.r2 (zq<|Eq.symm au)<|zq av
     ·have aw:=hb';clear hb'
      have z:=qg az aw
      obtain⟨aa,z⟩:=wa z
      obtain⟨a2,aV,z⟩:=z2 z
      replace z:=oJ z
      refine L2 (i:=25) U aw<|Li 4 U (we zm (wh .here))<|Li 5 U (Ei zfo .h4)<|Eu (fun w hw=>Hp.vr .h5 hw (by intro nd;have:=aa;rw[nd] at this;omega)) ?_
      rintro⟨a3,rfl⟩
      refine Lg 6 U (wL za4 aa.1 aa.2 vB)<|Li 7 U (wX (cs:=(wI<|nth q 0)) zm<|gV .h5<|qm (enc:=wI) (l:=q) (i:=0) (sz:=2) (fun _=>U) aa.1 aa.2)<|L5 8 U (Eh call187) (cc hz .nil fun w pz ho=>ms _ _ _ _ aV pz )<|Lg 9 U oX<|Lg 10 U vA<|Lw .a8 ?_ aA
      exact .t 14<|.r2 (zq<|Eq.symm aw)<|zq z
    refine Eo (by kernel_rfl)<|Ld<|Er (fun ax=>?_)<|fun ax=>?_
    ·replace e:=qf e ax
     refine Le<|Lf 33 (we zm (wh .here)) (Lh 34 (wD (cs:=([y.1]:List z1).flatMap wI) za4 (Lt (l:=[.tmp 33]) (.cons U .nil) [0]) (fun _=>by kernel_rfl) (by unfold maxLen;omega)) fun aE _=>Ll (wl zNR .h5)<|WL.nil<|Lq ?_)
     obtain⟨rfl,rfl⟩:=tj e
     let L:Value:=(vs (some ⟨aE,0,none⟩) (([y.1]:List z1).length) 1);exact Nt am .h4<|fun w' pQ=>⟨(some ⟨aE,0,none⟩,1),U,trivial,(pQ.selAll ((.s6 .h1 .h1 .h2 .h4 .h4 .here):Sel _ [stb k 340 [L],row L 276 2 (([y.1]:List z1).flatMap wI),stb j 371 [vi y.2.fE],stb n 276 [vi 0,vi 0],stb m 342 E,wA p (v .ready none)] _)).sub (.cons .here .nil)⟩
    ·replace e:=qg e ax
     refine Ep<|Lq ?_
     obtain⟨rfl,rfl⟩:=tj e
     exact Nt am .h2<|fun w' pQ=>⟨(aB,aC),U,trivial,(pQ.selAll ((.s6 .h4 .h4 .h2 .h3 .h3 .here):Sel _ [stb k 340 [I],row I 276 2 (q.flatMap wI),stb j 371 [vi y.2.fE],stb n 276 [vi 0,vi 0],stb m 342 E,wA p (v .ready none)] _)).sub (.cons .here .nil)⟩
   ·rintro _ w' ⟨⟨aF,aG⟩,rfl,_,hp⟩
    have uY:=hw1.call ((.cons .here .nil):Sel [wM A,wW b,stb a 342 C] [wM A] [wW b,stb a 342 C]) hp
    let J:Value:=(vs aF d.2.1.length aG);have wQ:Hp _ _ w' [stb k 340 [J],row J 276 2 (d.2.1.flatMap wI),stb j 371 [vi d.2.2],stb n 276 [vi 0,vi 0],stb m 342 E,wA p (v (ka (vY [] d.1)) (vY [] d.1)),wW b,stb a 342 C]:=uY.pickAll .here
    refine⟨_,vY [] d.1,_,U,wQ.sub ((.s8 .h5 .here .here .here .here .here .here .here):Sel _ [wA p (v (ka (vY [] d.1)) (vY [] d.1)),stb k 340 [J],row J 276 2 (d.2.1.flatMap wI),stb j 371 [vi d.2.2],stb n 276 [vi 0,vi 0],stb m 342 E,wW b,stb a 342 C] _),?_⟩
    clear hp uY wQ pz hw hw1
    refine wjN ?_
    letI:Rnd:=fO b
    exact Lq<|Nz (D:=fun(g:Nat×Int×List z1×Option Addr×Nat)=>g.1) (G:=Nat×Int×List z1×Option Addr×Nat) ⟨b,d.2.2,d.2.1,aF,aG⟩ h .q<|.s5 .h3 .h2 .here .here .h1
  ·rintro W S o X Y h
   replace h:=(aK S o).symm.trans h
   letI:Rnd:=fO W
   refine Lb<|B0q<|Lf 35 (w7 mU)<|Lf 36 (Ei z8n .h1)<|Q1n U<|Lj h (fun aW h=>?_)<|fun aW h=>?_
   ·cases h
   ·refine Ec<|Lb<|cK h fun ab h=>Le<|Lf 41 (Ei zfo .h2)<|Es (fun w hw=>Hp.vr .h3 hw (by intro nd;have:=ab;rw[nd] at this;omega)) ?_
    rintro⟨a4,rfl⟩
    refine Lf 42 (wL za4 ab.1 ab.2 vB)<|Lf 43 (wX (cs:=(wI<|nth o 0)) zm<|gV .h3<|qm (enc:=wI) (l:=o) (i:=0) (sz:=2) (fun _=>U) ab.1 ab.2)<|Ll (wl z1t .here)<|Q1n U<|El ?_
    obtain rfl:=oJ h
    exact Hd .h4 results185 (.agg U zm U (wh .h1)<|.tmp U .nil)<|fun w hw=>⟨qq,hw.sub .nil⟩
def ll(a:List (List zb))(b:yy):Option z1:=
 (su a b a b []).bind fun c=>some c
theorem Wp(Z c d b a r)(h:ll b a=some r){Ek}(hz:PZ [] Ek Z)(e:ZS Z 1 (qZ Z) c d b):
  RC 134 #[vs c b.length d,.agg #[vi a.fR.fN,vi a.fR.fD,vi a.fL.fN,vi a.fL.fD]] Ek (.tuple #[.agg #[vi r.fN,vi r.fD],vi 0]) [] []:=by
 unfold ll at h
 refine Lz func134 U U ?_
 let A:Value:=(vs c b.length d);refine B0q<|Lh 2 (wu (cs:=[A])) ?_
 intro f _
 refine Lh 3 (wu (cs:=[vi a.fR.fN,vi a.fR.fD,vi a.fL.fN,vi a.fL.fD])) fun g _=>Lh 4 (wn (cs:=[vi 0,vi 0]) z20) fun j _=>Q1n U<|B0q<|Lf 7 (Ei zk2 .h2)<|Lf 8 (we zCu (wh .h1))<|Lf 9 (wN (v:=(.agg #[A,vi a.fR.fN,vi a.fR.fD,vi a.fL.fN,vi a.fL.fD,.nilFunc,vn])) (Lt (l:=[.tmp 7,.tmp 8]) (.r2 U U) [0,1]) (fun _=>by kernel_rfl)) (Lh 6 (wn (cs:=[vn,vi 0,vi 0,vi 0,vi 0,.nilFunc,vn]) zZ4) fun k _=>Ll (wl zZ5 .here)<|Q0n<|B0q<|Lf 10 (wO<|L6 (l:=[.tmp 2,.tmp 3])<|.r2 U U)<|Lf 11 (w7 aJ)<|Ll (vg (ds:=[A,vi a.fR.fN,vi a.fR.fD,vi a.fL.fN,vi a.fL.fD,.func (.func 180) #[] #[vp f,vp g],vn]) zZ6 .here)<|Q0n<|Lb ?_)
 exact bK h fun m i h=>Le<|Lf 12 (we zvw (wh .here))<|Lm 13 (Eh call185) .nil (kb hz .nil (.s2 .h3 .h2) fun w pz ho la=>nG _ _ _ _ _ _ _ _ _ _ _ _ _ _ _ i pz ((e.mono<|zl).weak (fun _ _ h=>kT zl h)) ((e.mono<|zl).weak (fun _ _ h=>kT zl h)) ((la _ (.head _) _).stb) ((la _ (.tail _<|.head _) _).stb)<|ZS.nil _ _ _)<|Q2q U<|Ll (wl z1t .h1)<|Q1n U<|El<|oJ h▸Eb results134 (.agg U zm U (wh .here)<|.tmp U .nil) .nil
def j7(z1m:Type)(b:List z1)(z58:z1->z1m->Option (Bool×z1m))(d:z1m->Option z1m):Nat->Int->z1m->Option z1m
 | 0,_,_=>none
 | j+1,a,e=>if decide (a<b.length) then chk (0<=a/\a<b.length) ((uu (⟨(nth b a).fN,(nth b a).fD⟩:z1)).bind fun h=>(jZ h).bind fun k=>(z58 k e).bind fun c=>(if !c.1 then some (true,c.2) else(iq (⟨(nth b a).fN,(nth b a).fD⟩:z1)).bind fun i=>(jZ i).bind fun l=>(z58 l c.2).bind fun f=>some (!f.1,f.2)).bind fun g=>if g.1 then none else j7 z1m b z58 d j (i64 (a+1)) g.2) else d e
def j8(z1m:Type)(z67:List (List zb))(z58:z1->z1m->Option (Bool×z1m))(b:z1m->Option z1m):Nat->Int->z1m->Option z1m
 | 0,_,_=>none
 | d+1,a,c=>if decide (a<z67.length) then vC (fun(e:z1m)=>j8 z1m z67 z58 b d (i64 (a+1)) e) fun f=>chk (0<=a/\a<z67.length) ((ss (nth z67 a)).bind fun g=>vC (fun h=>f h) fun i=>j7 z1m g z58 i wr 0 c) else b c
def j9(z1m:Type)(z6i:List z1)(z58:z1->z1m->Option (Bool×z1m))(c:z1m->Option z1m):Nat->Int->z1m->Option z1m
 | 0,_,_=>none
 | i+1,a,d=>if decide (a<z6i.length) then chk (0<=a/\a<z6i.length) ((uu (⟨(nth z6i a).fN,(nth z6i a).fD⟩:z1)).bind fun g=>(jZ g).bind fun j=>(z58 j d).bind fun b=>(if !b.1 then some (true,b.2) else(iq (⟨(nth z6i a).fN,(nth z6i a).fD⟩:z1)).bind fun h=>(jZ h).bind fun k=>(z58 k b.2).bind fun e=>some (!e.1,e.2)).bind fun f=>if f.1 then none else j9 z1m z6i z58 c i (i64 (a+1)) f.2) else c d
def my(z1m:Type)(z58:z1->z1m->Option (Bool×z1m))(zeM:z1m)(z67:List (List zb))(ztn:yy)(zEs:List (List zb))(zto:yy)(z6i:List z1):Option z1m:=
 (kE).bind fun b=>(z58 b zeM).bind fun a=>if !a.1 then none else vC (fun(c:z1m)=>vC (fun(d:z1m)=>some d) fun e=>j9 z1m z6i z58 e wr 0 c) fun f=>j8 z1m z67 z58 f wr 0 a.2
theorem b8(Z)(z1m:Type)(zfT)(z8E:Type)(z5B)(zdP:z8E->z1m->Prop)(zli zlj zpw zpx zSI zSJ zSK zSL zEt zEu z58 zeM z67 ztn zEs zto z6i r){Ek}(hz:Pz [z5B zli zeM] Ek Z)(W:cU Tryz.prog Z zfT (α:=z1) (σ:=z1m) (G:=z8E) (H:=Unit) (fun h x=>[.agg #[vi x.fN,vi x.fD]]) (fun h x=>[]) z58 z5B zdP)(aC:zdP zli zeM)(aD:ZS Z 1 (qZ Z) zpw zpx z67)(bA:ZS Z 1 (qZ Z) zSJ zSK zEs)(bB:ZC Z zSI [vs zSJ zEs.length zSK])(bC:ZC Z zSL [vi zto.fR.fN,vi zto.fR.fD,vi zto.fL.fN,vi zto.fL.fD])(aE:ZS Z 2 (rq wI) zEt zEu z6i)(ah:ZC Z zlj [vs zpw z67.length zpx,vi ztn.fR.fN,vi ztn.fR.fD,vi ztn.fL.fN,vi ztn.fL.fD,.func (.func 186) #[] #[vq zSI,vq zSL],vs zEt z6i.length zEu])(h:my z1m z58 zeM z67 ztn zEs zto z6i=some r)(iA:Ho Ek [z5B zli zeM]):
  Calls Tryz.prog 251 #[.func (.yield zfT) #[] #[],vq zlj] Ek fun e w'=>∃ ai:z8E,e = .returned (.tuple #[])/\(zdP ai r)/\Hp (fps [z5B zli zeM]) Ek w' [z5B ai r]:=by
 unfold my at h
 refine Nk func251 U iA U<|Lb<|Lb<|bK h fun bq aF h=>bK h fun ae aG h=>D1q U<|Eg call215 hz (fh _ _ aF) (E1 (dd:=13) (x:=bq) (h:=()) (g:=zli) (s:=zeM) (b:=ae.1) (s':=ae.2) W U (.cons U .nil) ((.cons .here .nil):Sel _ [z5B zli zeM] _) aG aC (fun w hw=>hz.call hw ((.cons .here .nil):Sel _ [z5B zli zeM] _)) fun aH aI=>Q1n U<|Lj h (fun aJ h=>?_)<|fun aJ h=>?_)
 ·cases h
 ·refine Ec ?_
  obtain⟨aw,aK,h⟩:=wE h
  let A:Value:=(.func (.yield zfT) #[] #[]);refine Nv (fun t B=>(aw t=some r)/\(zdP B t)) (fun t B=>[(0,A),(1,vq zlj)]) (fun t B=>[z5B B t]) ?_ ?_
  ·let C:Value:=(vs zpw z67.length zpx);let D:Value:=(vi (z67.length:Int));refine B0q<|Lf 15 (w7 dm)<|Lf 16 (w8 zk2 U<|wP hz.pv ah)<|Lf 17 (wB underlying272)<|Q1n U<|WC.block<|E9 (fun L c o u=>(j8 z1m z67 z58 aw L c o=some r)/\(zdP u o)) (fun L c o u=>[(0,A),(1,vq zlj),(16,C),(17,D),(18,vi c)]) (fun L c o u=>[z5B u o]) (fun L c o u=>L) ⟨wr,0,ae.2,aH⟩ ⟨h,aI⟩ .q (.cons .here .nil) ?_
   rintro (_|br) c o u ⟨h,aj⟩;·cases h
   rw[j8] at h
   refine B1n U<|Lb<|Lj h (fun aL h=>?_)<|fun aL h=>?_
   ·refine Ec<|jK1 h fun bs aM h=>Nv (fun v M=>(bs v=some r)/\(zdP M v)) (fun v M=>[(0,A),(1,vq zlj),(16,C),(17,D),(18,vi c)]) (fun v M=>[z5B M v]) ?_ ?_
    ·refine WC.block<|Lb<|cK h fun aN h=>Le<|L0 (dd:=20) (Z:=Z) (Pr:=(qZ Z)) zgX aD aN ?_
     rintro bD bE aO bF ⟨bG,bH,rfl,aP⟩
     refine Lf 21 (w8 zrJ U<|vx hz.pv aO)<|Q1n U<|Lb<|bK h fun j aQ h=>D1q U<|L7 (dd:=24) U (Eh call249) .nil (cc hz .nil fun w pz ho=>cB _ _ _ _ _ aQ pz aP) ?_
     rintro aR ax _
     refine Q5n U<|B1q U<|Lf 28 (wB underlying340)<|Q1n U<|jK1 h fun ay aS h=>N3 (fun y N=>(ay y=some r)/\(zdP N y)) (fun y N=>[(0,A),(1,vq zlj),(16,C),(17,D),(18,vi c)]) (fun y N=>[z5B N y]) ?_ ?_
     ·let F:Value:=(vs aR j.length ax);let I:Value:=(vi (j.length:Int));refine WC.block<|E9 (fun O a d k=>(j7 z1m j z58 ay O a d=some r)/\(zdP k d)) (fun O a d k=>[(0,A),(1,vq zlj),(16,C),(17,D),(18,vi c),(27,F),(28,I),(29,vi a)]) (fun O a d k=>[row F 276 2 (j.flatMap wI),z5B k d]) (fun O a d k=>O) ⟨wr,0,o,u⟩ ⟨h,aj⟩ .q .a2 ?_
      rintro (_|bt) a d k ⟨h,ak⟩;·cases h
      rw[j7] at h
      refine B1n U<|Lb<|Lj h (fun aT h=>?_)<|fun aT h=>?_
      ·refine Ec<|Lb<|WC.block<|Lb<|cK h fun X h=>Le<|Es (fun w hw=>Hp.vr .here hw (by intro nd;have:=X;rw[nd] at this;omega)) ?_
       rintro⟨aU,rfl⟩
       refine Lf 31 (wL za4 X.1 X.2 vB)<|Lf 32 (wX (cs:=(wI<|nth j a)) zm<|gV .here<|qm (enc:=wI) (l:=j) (i:=a) (sz:=2) (fun _=>U) X.1 X.2) (Lh 8 (wn (cs:=[vi 0,vi 0]) z20) fun aV _=>Ll (wl z1t .here)<|Q0n<|Lb ?_)
       refine bK h fun bI aX h=>bK h fun bu aY h=>bK h fun P aZ h=>bK h fun Y al h=>D1q U<|Lf 34 (we zm (wh .here))<|Eg call136 hz (rF _ _ _ aX)<|Eg call241 hz (gO _ _ _ aY)<|E1 (dd:=37) (x:=bu) (h:=()) (g:=k) (s:=d) (b:=P.1) (s':=P.2) W U (.cons U .nil) ((.cons .h2 .nil):Sel _ [z5B k d] _) aZ ak (fun w hw=>hz.call hw ((.cons .h2 .nil):Sel _ [z5B k d] _)) ?_
       intro aa am
       let E:Value:=(vs (some ⟨aU,0,none⟩) j.length ax);refine Q2q U<|Da (fun Q=>zdP Q Y.2) (fun Q=>[(0,A),(1,vq zlj),(16,C),(17,D),(18,vi c),(27,E),(28,I),(29,vi a),(46,.bool Y.1)]) (fun Q=>[z5B Q Y.2,stb aV 276 [(vi<|(nth j a).fN),(vi<|(nth j a).fD)],row E 276 2 (j.flatMap wI)]) 7 ?_<|fun Q a0=>?_
       ·rcases Bool.eq_false_or_eq_true (!P.1) with hb' | hb'
        ·have an:=hb';clear hb'
         have af:=qf al an
         replace af:=oJ af
         refine N6 (i:=39) U an<|E5 U U<|E5 U U<|E5 U U<|E5 U U<|E5 U U<|E5 U U<|La U ?_
         subst af
         exact Hf aa am .q<|.a3
        ·have ao:=hb';clear hb'
         have p:=qg al ao
         obtain⟨bJ,a1,p⟩:=z2 p
         obtain⟨bv,a2,p⟩:=z2 p
         obtain⟨az,a3,p⟩:=z2 p
         replace p:=oJ p
         refine N6 (i:=39) U ao<|La U<|Lf 41 (we zm (wh .h1))<|Eg call252 hz (aW _ _ _ a1)<|Eg call241 hz (gO _ _ _ a2) (E1 (dd:=44) (x:=bv) (h:=()) (g:=aa) (s:=P.2) (b:=az.1) (s':=az.2) W U (.cons U .nil) ((.cons .here .nil):Sel _ [z5B aa P.2] _) a3 am (fun w hw=>hz.call hw ((.cons .here .nil):Sel _ [z5B aa P.2] _)) fun a4 a5=>La U<|La U ?_)
         subst p
         exact Hf a4 a5 .q<|.a3
       ·refine Q0n<|Lj h (fun a6 h=>?_)<|fun a6 h=>?_
        ·cases h
        ·exact Ep<|Lq<|Ld<|D2q U<|WL.nil<|Em ⟨bt,i64 (a+1),Y.2,Q⟩ ⟨h,a0⟩ (Nat.lt_succ_self _) .q<|.s2 .h2 .here
      ·exact En<|Ln<|Ln<|Lu<|Lp ⟨d,k⟩ ⟨h,ak⟩ .q<|.cons .h1 .nil
     ·rintro y N ⟨h,a7⟩
      replace h:=(aS y).symm.trans h
      exact Lq<|Lp ⟨y,N⟩ ⟨h,a7⟩ .q<|.cons .here .nil
    ·rintro v M ⟨h,a8⟩
     replace h:=(aM v).symm.trans h
     exact D2q U<|WL.nil<|Em ⟨br,i64 (c+1),v,M⟩ ⟨h,a8⟩ (Nat.lt_succ_self _) .q<|.cons .here .nil
   ·exact En<|Ln<|Ln<|Lu<|Lp ⟨o,u⟩ ⟨h,aj⟩ .q<|.cons .here .nil
  ·rintro t B ⟨h,a9⟩
   replace h:=(aK t).symm.trans h
   refine B0q<|Lf 49 (w7 Jn)<|Lf 50 (w8 zfo U<|wP hz.pv ah)<|Lf 51 (wB underlying340)<|Q1n U<|jK1 h fun aA ba h=>N3 (fun z R=>(aA z=some r)/\(zdP R z)) (fun z R=>[]) (fun z R=>[z5B R z]) ?_ ?_
   ·let J:Value:=(vs zEt z6i.length zEu);let K:Value:=(vi (z6i.length:Int));refine WC.block<|E9 (fun S m f n=>(j9 z1m z6i z58 aA S m f=some r)/\(zdP n f)) (fun S m f n=>[(0,A),(50,J),(51,K),(52,vi m)]) (fun S m f n=>[z5B n f]) (fun S m f n=>S) ⟨wr,0,t,B⟩ ⟨h,a9⟩ .q (.cons .here .nil) ?_
    rintro (_|bw) m f n ⟨h,ap⟩;·cases h
    rw[j9] at h
    refine B1n U<|Lb<|Lj h (fun bb h=>?_)<|fun bb h=>?_
    ·refine Ec<|Lb<|WC.block<|Lb<|cK h fun bc h=>Le<|L0 (dd:=54) (Z:=Z) (Pr:=(rq wI)) za4 aE bc ?_
     rintro bL bM bd bN rfl
     refine Lf 55 (we zm (vy hz.pv bd)) (Lh 10 (wn (cs:=[vi 0,vi 0]) z20) fun be _=>Ll (wl z1t .here)<|Q0n<|Lb ?_)
     refine bK h fun bO bf h=>bK h fun bx bg h=>bK h fun T bh h=>bK h fun ab aq h=>D1q U<|Lf 57 (we zm (wh .here))<|Eg call136 hz (rF _ _ _ bf)<|Eg call241 hz (gO _ _ _ bg) (E1 (dd:=60) (x:=bx) (h:=()) (g:=n) (s:=f) (b:=T.1) (s':=T.2) W U (.cons U .nil) ((.cons .h1 .nil):Sel _ [z5B n f] _) bh ap (fun w hw=>hz.call hw ((.cons .h1 .nil):Sel _ [z5B n f] _)) fun ad ar=>Q2q U<|Da (fun V=>zdP V ab.2) (fun V=>[(0,A),(50,J),(51,K),(52,vi m),(69,.bool ab.1)]) (fun V=>[z5B V ab.2,stb be 276 [(vi<|(nth z6i m).fN),(vi<|(nth z6i m).fD)]]) 7 ?_<|fun V bi=>?_)
     ·rcases Bool.eq_false_or_eq_true (!T.1) with hb' | hb'
      ·have au:=hb';clear hb'
       have ag:=qf aq au
       replace ag:=oJ ag
       refine N6 (i:=62) U au<|E5 U U<|E5 U U<|E5 U U<|E5 U U<|E5 U U<|E5 U U<|La U ?_
       subst ag
       exact Hf ad ar .q<|.a2
      ·have av:=hb';clear hb'
       have q:=qg aq av
       obtain⟨bP,bj,q⟩:=z2 q
       obtain⟨bz,bk,q⟩:=z2 q
       obtain⟨aB,bl,q⟩:=z2 q
       replace q:=oJ q
       refine N6 (i:=62) U av<|La U<|Lf 64 (we zm (wh .h1))<|Eg call252 hz (aW _ _ _ bj)<|Eg call241 hz (gO _ _ _ bk) (E1 (dd:=67) (x:=bz) (h:=()) (g:=ad) (s:=T.2) (b:=aB.1) (s':=aB.2) W U (.cons U .nil) ((.cons .here .nil):Sel _ [z5B ad T.2] _) bl ar (fun w hw=>hz.call hw ((.cons .here .nil):Sel _ [z5B ad T.2] _)) fun bm bn=>La U<|La U ?_)
       subst q
       exact Hf bm bn .q<|.a2
     ·refine Q0n<|Lj h (fun bo h=>?_)<|fun bo h=>?_
      ·cases h
      ·exact Ep<|Lq<|Ld<|D2q U<|WL.nil<|Em ⟨bw,i64 (m+1),ab.2,V⟩ ⟨h,bi⟩ (Nat.lt_succ_self _) .q<|.cons .here .nil
    ·exact En<|Ln<|Ln<|Lu<|Lp ⟨f,n⟩ ⟨h,ap⟩ .nil<|.cons .here .nil
   ·rintro z R ⟨h,bp⟩
    replace h:=(ba z).symm.trans h
    exact oJ h▸Nj results251 .nil fun w hw=>⟨R,ui,bp,hw.sub (.cons .here .nil)⟩
def rf(d:yk)(a:z1)(e:List (List zb))(f:yy):Option (z1×yk):=
 (mJ d e a).bind fun b=>(kU a f.fL).bind fun c=>if decide (c<=0) then some (b.1,b.2) else none
theorem aY(Z b f g i j d c e a r)(h:rf d c e a=some r){Ek}(hz:Pz [stb b 371 [vi d.fE]] Ek Z)(k:ZS Z 1 (qZ Z) g i e)(l:ZC Z f [vs g e.length i])(m:ZC Z j [vi a.fR.fN,vi a.fR.fD,vi a.fL.fN,vi a.fL.fD])(iA:Ho Ek [stb b 371 [vi d.fE]]):
  RF 186 #[vp b,.agg #[vi c.fN,vi c.fD],vq f,vq j] Ek (.agg #[vi r.1.fN,vi r.1.fD]) [stb b 371 [vi d.fE]] [stb b 371 [vi r.2.fE]]:=by
 unfold rf at h
 refine Et func186 U iA U<|Lb<|Le (Lh 5 (wu (cs:=[vi c.fN,vi c.fD])) fun q _=>Lh 6 (wn (cs:=[vi 0,vi 0]) z20) fun t _=>Q0n<|Lb ?_)
 refine bK h fun x n h=>D1q U<|Lf 9 (w8 zk2 U<|vx hz.pv l)<|Lf 10 (we zm (wh .h1))<|Lm 11 (Eh call184) (.cons .h2 .nil) (cc hz (.cons .h2 .nil) fun w pz ho=>lI _ _ _ _ _ _ _ _ n pz k ho) (Lh 7 (wn (cs:=[vi 0,vi 0]) z20) fun u _=>Ll (wl z1t .here)<|Q0n<|Lb<|Lb ?_)
 refine bK h fun v o h=>Le<|Lf 12 (we zm (wh .h3))<|Lf 13 (w7 dp)<|Lf 14 (wX (cs:=[vi a.fL.fN,vi a.fL.fD]) zm<|Vy (off:=2) (s:=2) hz.pv m U)<|Eg call187 hz (ms _ _ _ _ o)<|Q1n U<|Lj h (fun p h=>?_)<|fun p h=>?_
 ·exact B0q<|Lf 17 (we zm (wh .here))<|Ll (wl z1t .h2)<|Q0n<|El<|L4<|oJ h▸Eb results186 (.agg U zm U (wh .here) .nil) (.cons .h2 .nil)
 ·cases h
def f6(d:List (List zb))(e:yy)(f:z1)(a:List z1)(g:Int):Option (Bool×(Nat×List z1×Int)):=
 (rf (⟨g⟩:yk) f d e).bind fun b=>(if decide ((a.length:Int)=0) then some true else chk ((0:Int)<=0/\0<(a.length:Int)) ((kU b.1 (⟨(nth a 0).fN,(nth a 0).fD⟩:z1)).bind fun c=>some (decide (c>0)))).bind fun h=>if h then some (true,(0,([b.1]:List z1),b.2.fE)) else some (true,(0,a,b.2.fE))
def tQ(d:List (List zb))(g:yy)(a:List (List zb))(b:yy)(e:List z1):Option z1:=
 (m4 d g a b e).bind fun i=>if decide (i≠0) then none else rl (fun(j:Int) (f:List z1)=>if decide (j≠0) then none else chk ((0:Int)<=0/\0<(f.length:Int)) (some (⟨(nth f 0).fN,(nth f 0).fD⟩:z1))) fun k=>(fi d g a b e).bind fun c=>(my (Nat×List z1×Int) (fun(x:z1) (s:Nat×List z1×Int)=>chk (s.1=0) (f6 a b x s.2.1 s.2.2)) (0,([]:List z1),0) d (⟨(⟨c.1,c.2.1⟩:z1),(⟨c.2.2.1,c.2.2.2⟩:z1)⟩:yy) a b e).bind fun h=>k h.2.2 h.2.1
theorem n4(Z ad ae af an ao ag ah ai T c R t V r)(h:tQ T c R t V=some r){Ek}(hz:PZ [] Ek Z)(ap:ZS Z 1 (qZ Z) ad ae T)(aj:ZS Z 1 (qZ Z) an ao R)(ak:ZC Z af [vs an R.length ao])(al:ZC Z ag [vi t.fR.fN,vi t.fR.fD,vi t.fL.fN,vi t.fL.fD])(aq:ZS Z 2 (rq wI) ah ai V):
  RC 185 #[.agg #[vs ad T.length ae,vi c.fR.fN,vi c.fR.fD,vi c.fL.fN,vi c.fL.fD,.func (.func 186) #[] #[vq af,vq ag],vs ah V.length ai]] Ek (.tuple #[.agg #[vi r.fN,vi r.fD],vi 0]) [] []:=by
 unfold tQ at h
 let F:Value:=(.func (.func 186) #[] #[vq af,vq ag]);let M:Value:=(vs ad T.length ae);let N:Value:=(vs ah V.length ai);let H:Value:=(.agg #[M,vi c.fR.fN,vi c.fR.fD,vi c.fL.fN,vi c.fL.fD,F,N]);refine E7 (vs:=[H]) (pre:=[]) (env:=[(0,H)]) func185 U ntmps185 (Hp.nil Ek _) U ?_
 let E:List Value:=[M,vi c.fR.fN,vi c.fR.fD,vi c.fL.fN,vi c.fL.fD,F,N];refine B0q<|Lh 1 (wu (cs:=E)) ?_
 intro m _
 refine Lh 2 (wn (cs:=[vi 0,vi 0]) z20) fun n _=>Q1n U<|Lb<|Lb<|bK h fun aX aH h=>Le<|Lf 9 (we zvw (wh .h1))<|Eg call217 hz (fun pz=>oA _ _ _ _ _ _ _ _ _ _ _ _ _ _ _ aH pz ap aj ak al aq)<|Q1n U<|B2n U<|Lj h (fun aI h=>?_)<|fun aI h=>?_
 ·cases h
 ·refine Ec<|Lb<|Le (Lh 5 (wn (cs:=[vi 0]) zNP) fun j _=>Q0n<|Lb<|Le (Lh 6 (wn (cs:=[vn]) zNQ) fun k _=>Q0n ?_))
  refine jK2 h fun aZ aK h=>D2 (fun W S o X Y=>(aZ S o=some r)) (fun W S o X Y=>[(2,vp n),(5,vp j),(6,vp k)]) (fun W S o X Y=>[stb n 276 [vi 0,vi 0],stb j 371 [vi S],stb k 340 [vs X o.length Y],row (vs X o.length Y) 276 2 (o.flatMap wI),wW W]) ?_ ?_
  ·refine Lb<|bK h fun u aL h=>Le<|Lf 15 (we zvw (wh .h3))<|H9 (dd:=16) U U U (Eh call218) .nil (cc hz .nil fun w pz ho=>pG _ _ _ _ _ _ _ _ _ _ _ _ _ _ _ aL pz ap aj ak al aq) ?_
   rintro a _
   refine Q0n<|WC.block<|WC.drop (.s5 .h1 .h1 .h1 .h1 .here)<|WC.nilRow 276 2<|Ez (f:=251) (caps:=[vp a]) U call251 ?_
   intro a1 a2 p b v am aM aN w hw
   let P:Value:=(vs none (([]:List z1).length) 0);let A:List Asrt:=[stb k 340 [P],row P 276 2 (([]:List z1).flatMap wI),stb j 371 [vi 0],stb n 276 [vi 0,vi 0],stb m 342 E,wA p (v .ready none)];have hw1:=hw.selAll ((.s6 .h3 .h2 .h2 .h2 .h2 .here):Sel _ A _)
   let C:List Value:=[M,vi u.1,vi u.2.1,vi u.2.2.1,vi u.2.2.2,F,N];have pz:=(hz.call hw1 ((.cons .here .nil):Sel [wM A,wW b,stb a 342 C] [wM A] [wW b,stb a 342 C])).lend hw1 ((.cons .here .nil):Sel [wM A,wW b,stb a 342 C] [wM A] [wW b,stb a 342 C]) (B:=[stb a 342 C]) (fun _ nY=>((.cons .h1 .nil):Sel _ [stb a 342 C] _).mem nY)
   refine bK h fun d aO h=>Calls.mono (b8 (Z:=_) (zfT:=p) (z8E:=(Option Addr×Nat)) (z5B:=(fun(g:Option Addr×Nat) (s:Nat×List z1×Int)=>wM ([stb k 340 [vs g.1 s.2.1.length g.2],row (vs g.1 s.2.1.length g.2) 276 2 (s.2.1.flatMap wI),stb j 371 [vi s.2.2],stb n 276 [vi 0,vi 0],stb m 342 E]++[wA p (v (ka<|vY [] s.1)<|vY [] s.1)]))) (zdP:=(fun(g:Option Addr×Nat) (s:Nat×List z1×Int)=>True)) (zli:=(none,0)) (zlj:=⟨a,0,none⟩) (zpw:=ad) (zpx:=ae) (zSI:=af) (zSJ:=an) (zSK:=ao) (zSL:=ag) (zEt:=ah) (zEu:=ai) (z1m:=(Nat×List z1×Int)) (z58:=(fun(x:z1) (s:Nat×List z1×Int)=>chk (s.1=0)<|f6 R t x s.2.1 s.2.2)) (zeM:=(0,([]:List z1),0)) (z67:=T) (ztn:=(⟨(⟨u.1,u.2.1⟩:z1),(⟨u.2.2.1,u.2.2.2⟩:z1)⟩:yy)) (zEs:=R) (zto:=t) (z6i:=V) (r:=d) pz ?_ trivial ((ap.mono<|zl).weak (fun _ _ h=>kT zl h)) ((aj.mono<|zl).weak (fun _ _ h=>kT zl h)) (ak.mono<|zl) (al.mono<|zl) (aq.mono<|zl) ((hw1.lent ((.cons .here .nil):Sel [wM A,wW b,stb a 342 C] [wM A] [wW b,stb a 342 C]) (B:=[stb a 342 C]) (fun _ nY=>((.cons .h1 .nil):Sel _ [stb a 342 C] _).mem nY) (.head _) _).stb) aO<|hw1.owns ((.cons .here .nil):Sel [wM A,wW b,stb a 342 C] [wM A] [wW b,stb a 342 C])) ?_
   ·refine lD (LI:=(fun(g:Option Addr×Nat) (s:Nat×List z1×Int)=>[stb k 340 [vs g.1 s.2.1.length g.2],row (vs g.1 s.2.1.length g.2) 276 2 (s.2.1.flatMap wI),stb j 371 [vi s.2.2],stb n 276 [vi 0,vi 0],stb m 342 E])) (pc:=(fun(s:Nat×List z1×Int)=>vY [] s.1)) am aM aN (fun _ _=>U) (by decide) ?_
    rintro ar _ ⟨aB,aC⟩ ⟨aP,q,aD⟩ aQ aR Fb wb ay _ hz
    replace hz:=hz.left
    letI:Rnd:=rX p
    obtain⟨vj,e⟩:=wa ay
    replace vj:aP=0:=vj;subst vj;clear ay
    replace e:f6 R t ar q aD=some (aQ,aR):=e
    unfold f6 at e
    let I:Value:=(vs aB q.length aC);let K:Value:=(.agg #[vi ar.fN,vi ar.fD]);let Q:Value:=(.bool (decide (aX≠0)));refine WC.restr (env':=[(1,vp m),(12,Q),(5,vp j),(6,vp k),(17,K)]) (.qo U)<|N4 (L':=[stb k 340 [I],row I 276 2 (q.flatMap wI),stb j 371 [vi aD],stb n 276 [vi 0,vi 0],stb m 342 E,wA p (v .ready none)]) U<|Le<|Lh 7 (wn (cs:=[vi 0,vi 0]) z20) ?_
    intro aS _
    refine Ll (wl z1t .here)<|WL.nil<|N0 am .h6<|WC.block<|Lb ?_
    obtain⟨y,aT,e⟩:=z2 e
    refine Le<|Lf 18 (w7 aJ)<|Lf 19 (Ei zZa .h6)<|Lf 20 (we zm (wh .h1))<|Lm 21 (wV (l:=[.tmp 5,.tmp 20]) call186<|.r2 U U) (.cons .h4 .nil) (cc hz (.cons .h4 .nil) fun w pz ho=>aY _ _ _ _ _ _ _ _ _ _ _ aT pz aj ak al ho) (Lh 8 (wn (cs:=[vi 0,vi 0]) z20) fun aU _=>Ll (wl z1t .here)<|Q0n<|Lb ?_)
    obtain⟨a0,az,e⟩:=z2 e
    let O:Value:=(.bool (decide ((q.length:Int)=0)));refine Lv nc []<|Li 0 U (Ei zfo .h4)<|Lg 1 U (wB underlying340)<|Lg 2 U uh<|Lg 3 U q_m<|L9 (fuel':=0) [(1,vp m),(12,Q),(5,vp j),(6,vp k),(17,K),(7,vp aS),(18,(.pointer<|some ⟨m,5,none⟩)),(19,F),(20,K),(21,.agg #[vi y.1.fN,vi y.1.fD]),(8,vp aU),(22,I),(23,vi (q.length:Int)),(24,O),(25,O),(32,.bool a0)] (wR 11 (dn 11)) ?_<|fun aA=>?_
    rotate_left
    ·rcases Bool.eq_false_or_eq_true (decide ((q.length:Int)=0)) with hb' | hb'
     ·have au:=hb';clear hb'
      have av:=qf az au
      replace av:=oJ av
      refine L2 (i:=25) U au<|Lo 4 U<|Lo 5 U<|Lo 6 U<|Lo 7 U<|Lo 8 U<|Lo 9 U<|Lg 10 U vH<|Lw .a8 ?_ aA
      exact .t 14<|.r2 (zq<|Eq.symm au)<|zq av
     ·have aw:=hb';clear hb'
      have z:=qg az aw
      obtain⟨aa,z⟩:=wa z
      obtain⟨a3,aV,z⟩:=z2 z
      replace z:=oJ z
      refine L2 (i:=25) U aw<|Li 4 U (we zm (wh .here))<|Li 5 U (Ei zfo .h4)<|Eu (fun w hw=>Hp.vr .h5 hw (by intro nd;have:=aa;rw[nd] at this;omega)) ?_
      rintro⟨a4,rfl⟩
      refine Lg 6 U (wL za4 aa.1 aa.2 vB)<|Li 7 U (wX (cs:=(wI<|nth q 0)) zm<|gV .h5<|qm (enc:=wI) (l:=q) (i:=0) (sz:=2) (fun _=>U) aa.1 aa.2)<|L5 8 U (Eh call187) (cc hz .nil fun w pz ho=>ms _ _ _ _ aV pz )<|Lg 9 U oX<|Lg 10 U vA<|Lw .a8 ?_ aA
      exact .t 14<|.r2 (zq<|Eq.symm aw)<|zq z
    refine Eo (by kernel_rfl)<|Ld<|Er (fun ax=>?_)<|fun ax=>?_
    ·replace e:=qf e ax
     refine Le<|Lf 33 (we zm (wh .here)) (Lh 34 (wD (cs:=([y.1]:List z1).flatMap wI) za4 (Lt (l:=[.tmp 33]) (.cons U .nil) [0]) (fun _=>by kernel_rfl) (by unfold maxLen;omega)) fun aE _=>Ll (wl zNR .h5)<|WL.nil<|Lq ?_)
     obtain⟨rfl,rfl⟩:=tj e
     let L:Value:=(vs (some ⟨aE,0,none⟩) (([y.1]:List z1).length) 1);exact Nt am .h4<|fun w' pQ=>⟨(some ⟨aE,0,none⟩,1),U,trivial,(pQ.selAll ((.s6 .h1 .h1 .h2 .h4 .h4 .here):Sel _ [stb k 340 [L],row L 276 2 (([y.1]:List z1).flatMap wI),stb j 371 [vi y.2.fE],stb n 276 [vi 0,vi 0],stb m 342 E,wA p (v .ready none)] _)).sub (.cons .here .nil)⟩
    ·replace e:=qg e ax
     refine Ep<|Lq ?_
     obtain⟨rfl,rfl⟩:=tj e
     exact Nt am .h2<|fun w' pQ=>⟨(aB,aC),U,trivial,(pQ.selAll ((.s6 .h4 .h4 .h2 .h3 .h3 .here):Sel _ [stb k 340 [I],row I 276 2 (q.flatMap wI),stb j 371 [vi y.2.fE],stb n 276 [vi 0,vi 0],stb m 342 E,wA p (v .ready none)] _)).sub (.cons .here .nil)⟩
   ·rintro _ w' ⟨⟨aF,aG⟩,rfl,_,hp⟩
    have uY:=hw1.call ((.cons .here .nil):Sel [wM A,wW b,stb a 342 C] [wM A] [wW b,stb a 342 C]) hp
    let J:Value:=(vs aF d.2.1.length aG);have wQ:Hp _ _ w' [stb k 340 [J],row J 276 2 (d.2.1.flatMap wI),stb j 371 [vi d.2.2],stb n 276 [vi 0,vi 0],stb m 342 E,wA p (v (ka (vY [] d.1)) (vY [] d.1)),wW b,stb a 342 C]:=uY.pickAll .here
    refine⟨_,vY [] d.1,_,U,wQ.sub ((.s8 .h5 .here .here .here .here .here .here .here):Sel _ [wA p (v (ka (vY [] d.1)) (vY [] d.1)),stb k 340 [J],row J 276 2 (d.2.1.flatMap wI),stb j 371 [vi d.2.2],stb n 276 [vi 0,vi 0],stb m 342 E,wW b,stb a 342 C] _),?_⟩
    clear hp uY wQ pz hw hw1
    refine wjN ?_
    letI:Rnd:=fO b
    exact Lq<|Nz (D:=fun(g:Nat×Int×List z1×Option Addr×Nat)=>g.1) (G:=Nat×Int×List z1×Option Addr×Nat) ⟨b,d.2.2,d.2.1,aF,aG⟩ h .q<|.s5 .h3 .h2 .here .here .h1
  ·rintro W S o X Y h
   replace h:=(aK S o).symm.trans h
   letI:Rnd:=fO W
   refine Lb<|B0q<|Lf 35 (w7 mU)<|Lf 36 (Ei z8n .h1)<|Q1n U<|Lj h (fun aW h=>?_)<|fun aW h=>?_
   ·cases h
   ·refine Ec<|Lb<|cK h fun ab h=>Le<|Lf 41 (Ei zfo .h2)<|Es (fun w hw=>Hp.vr .h3 hw (by intro nd;have:=ab;rw[nd] at this;omega)) ?_
    rintro⟨a5,rfl⟩
    refine Lf 42 (wL za4 ab.1 ab.2 vB)<|Lf 43 (wX (cs:=(wI<|nth o 0)) zm<|gV .h3<|qm (enc:=wI) (l:=o) (i:=0) (sz:=2) (fun _=>U) ab.1 ab.2)<|Ll (wl z1t .here)<|Q1n U<|El ?_
    obtain rfl:=oJ h
    exact Hd .h4 results185 (.agg U zm U (wh .h1)<|.tmp U .nil)<|fun w hw=>⟨qq,hw.sub .nil⟩
def pJ(b:List (List zb))(a:yy):Option z1:=
 (tQ b a b a ([a.fL]:List z1)).bind fun c=>some c
theorem X7(Z c d b a r)(h:pJ b a=some r){Ek}(hz:PZ [] Ek Z)(e:ZS Z 1 (qZ Z) c d b):
  RC 135 #[vs c b.length d,.agg #[vi a.fR.fN,vi a.fR.fD,vi a.fL.fN,vi a.fL.fD]] Ek (.tuple #[.agg #[vi r.fN,vi r.fD],vi 0]) [] []:=by
 unfold pJ at h
 refine Lz func135 U U ?_
 let C:Value:=(vs c b.length d);refine B0q<|Lh 2 (wu (cs:=[C])) ?_
 intro f _
 refine Lh 3 (wu (cs:=[vi a.fR.fN,vi a.fR.fD,vi a.fL.fN,vi a.fL.fD])) fun g _=>Lh 4 (wn (cs:=[vi 0,vi 0]) z20) fun k _=>Q1n U<|B0q<|Lf 7 (Ei zk2 .h2)<|Lf 8 (we zCu (wh .h1))<|Lf 9 (w7 dp)<|Lf 10 (wX (cs:=[vi a.fL.fN,vi a.fL.fD]) zm<|qW (s:=2) .h1 U)<|Lh 11 (wD (cs:=([a.fL]:List z1).flatMap wI) za4 (Lt (l:=[.tmp 10]) (.cons U .nil) [0]) (fun _=>by kernel_rfl) (by unfold maxLen;omega)) ?_
 intro i _
 let A:Value:=(vs (some ⟨i,0,none⟩) (([a.fL]:List z1).length) 1);refine Lf 12 (wN (v:=(.agg #[C,vi a.fR.fN,vi a.fR.fD,vi a.fL.fN,vi a.fL.fD,.nilFunc,A])) (Lt (l:=[.tmp 7,.tmp 8,.tmp 11]) (.r3 U U U) [0,1,3]) (fun _=>by kernel_rfl))<|Lh 6 (wn (cs:=[vn,vi 0,vi 0,vi 0,vi 0,.nilFunc,vn]) zZ4) ?_
 intro m _
 exact Ll (wl zZ5 .here)<|Q0n<|B0q<|Lf 13 (wO<|L6 (l:=[.tmp 2,.tmp 3])<|.r2 U U)<|Lf 14 (w7 aJ)<|Ll (vg (ds:=[C,vi a.fR.fN,vi a.fR.fD,vi a.fL.fN,vi a.fL.fD,.func (.func 186) #[] #[vp f,vp g],A]) zZ6 .here)<|Q0n<|Lb<|bK h fun n j h=>Le<|Lf 15 (we zvw (wh .here))<|Lm 16 (Eh call185) .nil (kb hz .nil (.s3 .h4 .h3 .h1) fun w pz ho la=>n4 _ _ _ _ _ _ _ _ _ _ _ _ _ _ _ j pz ((e.mono<|zl).weak (fun _ _ h=>kT zl h)) ((e.mono<|zl).weak (fun _ _ h=>kT zl h)) ((la _ (.head _) _).stb) ((la _ (.tail _<|.head _) _).stb)<|ZA.row (la _ (.tail _<|.tail _<|.head _) _) (RR.flat (enc:=wI) (fun _=>U) _) ⟨w,pz.1⟩)<|Q2q U<|Ll (wl z1t .h2)<|Q1n U<|El<|oJ h▸Eb results135 (.agg U zm U (wh .here)<|.tmp U .nil) .nil
def fk(b:Int->Option (zt×Int×(List (yn×z1))×(List (ze×Int)))):Nat->Int->Int->Option (zt×Int×(List (yn×z1))×(List (ze×Int)))
 | 0,_,_=>none
 | d+1,a,c=>if decide (a<(([0,0]:List Int).length:Int)) then chk (0<=a/\a<(([0,0]:List Int).length:Int)) (if decide ((nth ([0,0]:List Int) a)=6) then none else if decide (c=0) then fk b d (i64 (a+1)) (nth ([0,0]:List Int) a) else none) else b c
def oM(b:ye)(i:List (List zg))(j:List (yn×z1))(d:List (ze×Int))(k:Int)(a:ze):Option (zt×Int×(List (yn×z1))×(List (ze×Int))):=
 (rM b i j d k a).bind fun c=>rl (fun(e:List (List zb)) (l:Int)=>chk (0<=a.fQ/\a.fQ<b.fK.length) ((fV l).bind fun f=>(ll e (⟨(⟨1,(nth b.fK a.fQ).yD⟩:z1),f⟩:yy)).bind fun m=>(pJ e (⟨(⟨1,(nth b.fK a.fQ).yD⟩:z1),f⟩:yy)).bind fun n=>vC (fun(o:Int)=>(uu m).bind fun g=>(uu n).bind fun p=>some (({a with yv:=(ww (wU d a g) a 0),fT:=i64 (p+c.2.1)}:zt),o,c.2.2.2,wU d a g)) fun q=>fk q wr 0 c.2.2.1)) fun h=>if decide ((i64 (a.y6-(b.fM.length:Int)))>=0) then chk (0<=(i64 (a.y6-(b.fM.length:Int)))/\(i64 (a.y6-(b.fM.length:Int)))<b.fS.length) (h c.1 ((nth b.fS (i64 (a.y6-(b.fM.length:Int)))).yv)) else h c.1 0
theorem XD(Z e q s t u x y z B O P Q R S T V W X Y b c a o ai m aj d r)(h:oM a o ai m aj d=some r){Ek}(hz:Pz [stb e 216 [vs q a.fM.length s,vs t a.y9.length u,vs x a.fS.length y,vs z a.fK.length B,vs O a.ya.length P,vs Q a.yc.length R,vs S a.fU.length T,vs V a.y8.length W,vs X o.length Y,.map (some b),.map (some c),vi aj],wp b (ga qS) (ga wI) ai,wp c (ga wJ) vI m] Ek Z)(aB:ZS Z 4 (u5 Z) q s a.fM)(aC:ZS Z 4 (fc Z) t u a.y9)(ap:ZS Z 4 (rq ml) x y a.fS)(aq:ZS Z 4 (rq m7) z B a.fK)(aD:ZS Z 7 (fa Z) O P a.ya)(aE:ZS Z 5 (rq mg) Q R a.yc)(aF:ZS Z 3 (fe Z) S T a.fU)(aG:ZS Z 4 (rq j5) V W a.y8)(aH:ZS Z 1 (m8 Z) X Y o)(iA:Ho Ek [stb e 216 [vs q a.fM.length s,vs t a.y9.length u,vs x a.fS.length y,vs z a.fK.length B,vs O a.ya.length P,vs Q a.yc.length R,vs S a.fU.length T,vs V a.y8.length W,vs X o.length Y,.map (some b),.map (some c),vi aj],wp b (ga qS) (ga wI) ai,wp c (ga wJ) vI m]):
  RF 86 #[vp e,.agg #[vi d.y6,vi d.fQ]] Ek (.agg #[vi r.1.y6,vi r.1.fQ,vi r.1.yv,vi r.1.fT]) [stb e 216 [vs q a.fM.length s,vs t a.y9.length u,vs x a.fS.length y,vs z a.fK.length B,vs O a.ya.length P,vs Q a.yc.length R,vs S a.fU.length T,vs V a.y8.length W,vs X o.length Y,.map (some b),.map (some c),vi aj],wp b (ga qS) (ga wI) ai,wp c (ga wJ) vI m] [stb e 216 [vs q a.fM.length s,vs t a.y9.length u,vs x a.fS.length y,vs z a.fK.length B,vs O a.ya.length P,vs Q a.yc.length R,vs S a.fU.length T,vs V a.y8.length W,vs X o.length Y,.map (some b),.map (some c),vi r.2.1],wp b (ga qS) (ga wI) r.2.2.1,wp c (ga wJ) vI r.2.2.2]:=by
 unfold oM at h
 refine Nk func86 U iA U ?_
 let L:List Value:=[vi d.y6,vi d.fQ];refine WC.pool<|B0q<|Lh 3 (wu (cs:=L)) ?_
 intro aa _
 let A:List Value:=[vi 0,vi 0,vi 0,vi 0];refine Lh 4 (wn (cs:=A) zCt) ?_
 intro ab _
 refine Q0n<|Lb<|bK h fun f aI h=>D1q U<|Lf 18 (we za3 (wh .h1))<|Np (dd:=19) U (Eh call132) (.s3 .h3 .h3 .h3) (qB hz (.s3 .h3 .h3 .h3) .h2 fun w pz ho=>Yy _ _ _ _ _ _ _ _ _ _ _ _ _ _ _ _ _ _ _ _ _ _ _ _ _ _ _ _ _ aI pz ((aB.mono<|zl).weak (fun _ _ h=>qn zl h)) ((aC.mono<|zl).weak (fun _ _ h=>qr zl h)) (ap.mono<|zl) (aq.mono<|zl) ((aD.mono<|zl).weak (fun _ _ h=>vL zl h)) (aE.mono<|zl) ((aF.mono<|zl).weak (fun _ _ h=>qs zl h)) (aG.mono<|zl) ((aH.mono<|zl).weak (fun _ _ h=>qY zl h)) ho) ?_
 rintro ad ar au av aw
 refine WL.merge .here .h6<|Q5n U<|B1n U ?_
 obtain⟨aZ,aJ,h⟩:=jc h
 let C:Value:=(vs q a.fM.length s);let D:Value:=(vs t a.y9.length u);let E:Value:=(vs x a.fS.length y);let F:Value:=(vs z a.fK.length B);let G:Value:=(vs O a.ya.length P);let H:Value:=(vs Q a.yc.length R);let I:Value:=(vs S a.fU.length T);let J:Value:=(vs V a.y8.length W);let K:Value:=(vs X o.length Y);refine Nf (fun n ae ag=>(aZ n ae=some r)/\(RR 1 (qZ (Z++([]++ad))) ag n)) (fun n ae ag=>[(0,vp e),(3,vp aa),(4,vp ab),(5,vs ar n.length au),(6,vi f.2.1),(7,vi ae)]) (fun n ae ag=>[fz ([]++ad),row (vs ar n.length au) 338 1 ag,stb e 216 [C,D,E,F,G,H,I,J,K,(.map<|some b),(.map<|some c),vi f.2.2.1],stb aa 208 L,stb ab 152 A,wp b (ga qS) (ga wI) f.2.2.2,wp c (ga wJ) vI m]) ?_ ?_
 ·refine Lb<|Lv nc []<|Lg 0 U (w7 ct)<|Li 1 U (Ei wm .h6)<|Lg 2 U q_m<|Lg 3 U wz<|Lg 4 U (w7 tM)<|Lg 5 U (w7 sp)<|Li 6 U (Ei zfl .h2)<|Lg 7 U (wB underlying63)<|Lg 8 U oU<|Lg 9 U q_z<|Eo (by kernel_rfl)<|Ld<|B2n U<|Lj h (fun aK h=>?_)<|fun aK h=>?_
  ·refine cK h fun aL h=>D1q U<|Lf 34 wz<|Lf 35 (w7 tM)<|Lf 36 (w7 cq)<|Lf 37 (Ei zrH .h2)<|La U<|L0 (dd:=39) (Z:=(Z++([]++ad))) (Pr:=(rq ml)) zrG (ap.mono<|zl.trans (zl.trans (wg.wG _ _ _))) aL ?_
   rintro a2 a3 aM a4 rfl
   exact Lf 40 (w7 nw)<|Lf 41 (w8 wm U<|wP (hz.pv2 .here) aM)<|La U<|WL.nil<|Lp ⟨f.1,(nth a.fS<|i64 (d.y6-(a.fM.length:Int))).yv,av⟩ ⟨h,(aw.weak<|fun _ _ h=>kT (wg.wG _ _ _) h)⟩ .q<|.s7 .here .here .here .h3 .h2 .here .here
  ·exact Ep<|Lp ⟨f.1,0,av⟩ ⟨h,(aw.weak<|fun _ _ h=>kT (wg.wG _ _ _) h)⟩ .q<|.s7 .here .here .here .h3 .h2 .here .here
 ·rintro n ae ag ⟨h,ax⟩
  replace h:=(aJ n ae).symm.trans h
  refine Lb<|cK h fun aN h=>bK h fun ay aO h=>Lv (fun i=>[15].contains i) []<|Lg 0 U q_m<|Lg 1 U wz<|Lg 2 U (w7 tM)<|Lg 3 U (w7 pV)<|Li 4 U (Ei zjY .h2)<|Lg 5 U (w7 dj)<|Li 6 U (Ei wm .h3)<|L8 (j:=7) (dd:=49) (by kernel_rfl) z2W z2X (Z:=(Z++([]++ad))) (Pr:=(rq m7)) znN (aq.mono<|zl.trans (zl.trans (wg.wG _ _ _))) aN ?_
  rintro a5 a6 aP a7 rfl
  let N:Value:=(vi ((nth a.fK d.fQ).yD));refine Lg 8 U (w7 lF)<|Li 9 U (w8 wm U<|wP (hz.pv2 .here) aP)<|Lg 10 U (wN (v:=(.agg #[vi 1,N])) (Lt (l:=[.const (vi 1),.tmp 51]) (.r2 U U) [0,1]) (fun _=>by kernel_rfl))<|Lg 11 U q_m<|L5 12 U (Eh call133) (qB hz .nil .here fun w pz ho=>uZ _ _ _ aO pz )<|Lg 13 U (wN (v:=(.agg #[vi 1,N,vi ay.fN,vi ay.fD])) (Lt (l:=[.tmp 52,.tmp 54]) (.r2 U U) [0,1]) (fun _=>by kernel_rfl))<|WD.new (i:=14) (dd:=9) U (by kernel_rfl) U (wn (cs:=A) z1e4) (fun h'=>absurd h' (by decide)) ?_
  intro a8 _
  refine Nb (i:=15) U (by kernel_rfl) (by kernel_rfl) (wl z1e5 .here)<|Eo (by kernel_rfl)<|Ld<|Lb<|bK h fun ak aQ h=>D1q U<|Lf 58 (we zCu (wh .here))<|Lm 59 (Eh call134) .nil (uT hz .nil .h1 (.cons .h2 .nil) fun w pz ho la=>Wp _ _ _ _ _ _ aQ pz<|ZA.row (la _ (.head _) _) (ax.weak<|fun _ _ h=>kT zl h) ⟨w,pz.1⟩)<|Q2q U<|La U (Lh 10 (wn (cs:=[vi 0,vi 0]) z20) fun al _=>Ll (wl z1t .here)<|Q1n U<|Lb ?_)
  refine bK h fun am aR h=>D1q U<|Lf 64 (we zCu (wh .h1))<|Lm 65 (Eh call135) .nil (uT hz .nil .h2 (.cons .h3 .nil) fun w pz ho la=>X7 _ _ _ _ _ _ aR pz<|ZA.row (la _ (.head _) _) (ax.weak<|fun _ _ h=>kT zl h) ⟨w,pz.1⟩)<|Q2q U<|La U (Lh 12 (wn (cs:=[vi 0,vi 0]) z20) fun an _=>Ll (wl z1t .here)<|Q1n U ?_)
  refine jK1 h fun az aS h=>Nd (fun af=>(az af=some r)) (fun af=>[(0,vp e),(3,vp aa),(4,vp ab),(6,vi f.2.1),(10,vp al),(12,vp an)]) (fun af=>[fz ([]++ad),stb e 216 [C,D,E,F,G,H,I,J,K,(.map<|some b),(.map<|some c),vi af],stb aa 208 L,stb ab 152 A,stb al 276 [vi ak.fN,vi ak.fD],stb an 276 [vi am.fN,vi am.fD],wp b (ga qS) (ga wI) f.2.2.2,wp c (ga wJ) vI m]) ?_ ?_
  ·refine B2q U<|Lh 70 (wD (cs:=([0,0]:List Int).flatMap e31) zZb (Lt (l:=[.tmp 68,.tmp 69]) (.r2 U U) [0,1]) (fun _=>by kernel_rfl) (by unfold maxLen;omega)) ?_
   intro aT _
   let M:Value:=(vs (some ⟨aT,0,none⟩) (([0,0]:List Int).length) 2);refine Lf 71 (wB underlying282)<|Q1n U<|WC.block<|E4 (fun ah g p=>(fk az ah g p=some r)) (fun ah g p=>[(0,vp e),(3,vp aa),(4,vp ab),(6,vi f.2.1),(10,vp al),(12,vp an),(70,M),(71,vi (([0,0]:List Int).length:Int)),(72,vi g)]) (fun ah g p=>[fz ([]++ad),row M 31 1 (([0,0]:List Int).flatMap e31),stb e 216 [C,D,E,F,G,H,I,J,K,(.map<|some b),(.map<|some c),vi p],stb aa 208 L,stb ab 152 A,stb al 276 [vi ak.fN,vi ak.fD],stb an 276 [vi am.fN,vi am.fD],wp b (ga qS) (ga wI) f.2.2.2,wp c (ga wJ) vI m]) (fun ah g p=>ah) ⟨wr,0,f.2.2.1⟩ h .q (.s9 .h4 .here .h4 .h4 .h4 .h1 .here .h2 .h2) ?_
   rintro(_|a0) g p h;·cases h
   rw[fk] at h
   refine B1n U<|Lb<|Lj h (fun aU h=>?_)<|fun aU h=>?_
   ·refine Ec<|Lb<|WC.block<|Lb<|cK h fun ao h=>Le<|Lf 74 (wL zZb ao.1 ao.2 vB)<|Lf 75 (w8 z8n U<|gt .h1<|(qm (enc:=e31) (l:=([0,0]:List Int)) (i:=g) (sz:=1) (fun _=>U) ao.1 ao.2) 0 _ U)<|Q1n U<|Lb<|B2n U<|Lj h (fun aV h=>?_)<|fun aV h=>?_
    ·cases h
    ·refine Ec<|B1q U<|Lf 79 wz<|Lf 80 (w7 l6)<|Lf 81 (Ei z8n .h2)<|Q1n U<|Lj h (fun aW h=>?_)<|fun aW h=>?_
     ·exact D2q U<|Lf 85 wz<|Lf 86 (w7 l6)<|Ll (vg (ds:=[C,D,E,F,G,H,I,J,K,(.map<|some b),(.map<|some c),(vi<|nth ([0,0]:List Int) g)]) zfn .h2)<|WL.nil<|Lq<|Ld<|D2q U<|WL.nil<|Em ⟨a0,i64 (g+1),nth ([0,0]:List Int) g⟩ h (Nat.lt_succ_self _) .q<|.s9 .h1 .h1 .here .here .here .here .here .here .here
     ·cases h
   ·exact En<|Ln<|Ln<|Lu<|Lp p h .q<|.s8 .here .h1 .h1 .h1 .h1 .h1 .h1 .h1
  ·rintro af h
   replace h:=(aS af).symm.trans h
   exact Lb<|bK h fun aA aX h=>Lv (fun i=>[7].contains i) []<|Lg 0 U q_m<|Lg 1 U wz<|Lg 2 U (w7 W6)<|Li 3 U (Ei zCs .h1)<|Li 4 U (we za3 (wh .h2))<|Li 5 U (we zm (wh .h4))<|L5 6 U (Eh call136) (qB hz .nil .here fun w pz ho=>rF _ _ _ aX pz )<|Nb (i:=7) U (by kernel_rfl) (by kernel_rfl) (kn (k:=d) (v:=aA) znP underlying214 .h7)<|Eo (by kernel_rfl)<|Ld<|Lb<|bK h fun a1 aY h=>Lv (fun i=>[15].contains i) []<|Lg 0 U (w7 ct)<|Li 1 U (Ei wm .h3)<|Lg 2 U (w7 dj)<|Li 3 U (Ei wm .h3)<|Lg 4 U q_m<|Lg 5 U wz<|Lg 6 U (w7 W6)<|Li 7 U (Ei zCs .h2)<|Li 8 U (we za3 (wh .h3))<|Li 9 U (qL (k:=d) (dflt:=(0:Int)) znP underlying214 qp .here)<|Li 10 U (we zm (wh .h6))<|L5 11 U (Eh call136) (qB hz .nil .h1 fun w pz ho=>rF _ _ _ aY pz )<|Lg 12 U q_m<|Lg 13 U fb<|Lg 14 U (wN (v:=(.agg #[vi d.y6,vi d.fQ,(vi<|ww (wU m d aA) d 0),(vi<|i64 (a1+f.2.1))])) (Lt (l:=[.tmp 96,.tmp 98,.tmp 104,.tmp 108]) (.r4 U U U U) [0,1,2,3]) (fun _=>by kernel_rfl))<|Nb (i:=15) U (by kernel_rfl) (by kernel_rfl) (wl zCv .h4)<|Eo (by kernel_rfl)<|Ld<|El<|oJ h▸Eb results86 (.agg U zCw U (wh .here) .nil) (.s3 .h3 .h6 .h1)
def sd(a:zt)(b:zt):Option Int:=
 (fg (⟨a.y6,a.fQ⟩:ze) (⟨b.y6,b.fQ⟩:ze)).bind fun c=>some c
theorem XE(Z a b r)(h:sd a b=some r){Ek}(hz:PZ [] Ek Z):
  RC 87 #[.agg #[vi a.y6,vi a.fQ,vi a.yv,vi a.fT],.agg #[vi b.y6,vi b.fQ,vi b.yv,vi b.fT]] Ek (vi r) [] []:=by
 unfold sd at h
 refine Lz func87 U U<|Lb<|Le (Lh 2 (wu (cs:=[vi a.y6,vi a.fQ,vi a.yv,vi a.fT])) fun d _=>Lh 3 (wu (cs:=[vi b.y6,vi b.fQ,vi b.yv,vi b.fT])) fun e _=>Q1n U<|Lb ?_)
 exact bK h fun f c h=>Le<|Lf 5 (w7 py)<|Lf 6 (Ei wm .h1)<|Lf 7 (w7 cu)<|Lf 8 (Ei wm .h1)<|Lf 9 (wN (v:=(.agg #[vi a.y6,vi a.fQ])) (Lt (l:=[.tmp 6,.tmp 8]) (.r2 U U) [0,1]) (fun _=>by kernel_rfl))<|Lf 10 (w7 py)<|Lf 11 (Ei wm .here)<|Lf 12 (w7 cu)<|Lf 13 (Ei wm .here)<|Lf 14 (wN (v:=(.agg #[vi b.y6,vi b.fQ])) (Lt (l:=[.tmp 11,.tmp 13]) (.r2 U U) [0,1]) (fun _=>by kernel_rfl))<|Eg call88 hz (ij _ _ _ _ c)<|Q1n U<|El<|oJ h▸Ea results87
theorem z1rJ:∀ w,(isAgg (Tryz.gb.t 24)).run Tryz.prog w = .ok true w:=fun _=>by kernel_rfl
theorem z1rK:∀ w,(Go.sizeOf (Tryz.gb.t 24)).run Tryz.prog w = .ok 4 w:=fun _=>by kernel_rfl
def mm(zam:List zt)(zEK:Int)(zEL:Int)(zy2:Int)(ztt:zt->zt->Option Int):Option (List zt):=chk ((zEK=0/\zEL=(zam.length:Int))/\(0<=zy2/\zy2<4611686018427387904/\zam.length<4611686018427387904)) (chk (de ztt (jh ztt zam)=true) (some (jh ztt zam)))
theorem pm(Z ztu ztv zEM zT2 zam zEK zEL zy2 ztt r){Ek}(hz:Pz [row (vs ztu zam.length ztv) 152 4 (zam.flatMap kG)] Ek Z)(a:∀ args w,(callFunc zEM args).run Tryz.prog w = .ok (.enter zEM args) w)(b:∀ w:World,PZ [] w Z->∀(x0:zt) (x1:zt) (r:Int),ztt x0 x1=some r->Calls Tryz.prog zEM (([.agg #[vi x0.y6,vi x0.fQ,vi x0.yv,vi x0.fT],.agg #[vi x1.y6,vi x1.fQ,vi x1.yv,vi x1.fT]]:List Value)++zT2).toArray w fun e w'=>e = .returned (vi r)/\Hp [] w w' [])(h:mm zam zEK zEL zy2 ztt=some r)(iA:Ho Ek [row (vs ztu zam.length ztv) 152 4 (zam.flatMap kG)]):
  Calls Tryz.prog 92 #[vs ztu zam.length ztv,vi zEK,vi zEL,vi zy2,.func (.func zEM) #[] (zT2).toArray] Ek fun e w'=>e = .returned (.tuple #[])/\(r.length=zam.length)/\Hp (fps [row (vs ztu zam.length ztv) 152 4 (zam.flatMap kG)]) Ek w' [row (vs ztu r.length ztv) 152 4 (r.flatMap kG)]:=by
 obtain⟨h0,h⟩:=wa h
 obtain⟨h1,h⟩:=wa h
 have hr:=(oJ h).symm
 exact cZ (P:=Tryz.prog) (f:=92) (e:=152) (k:=4) (enc:=kG) (fun _=>U) (by decide) Xq (fun β _ enc cf g cb hO wA off cap d0 w0 eg hC R=>Tryz.hJ 4 z1rJ z1rK enc cf g cb hO wA off cap d0 w0 eg hC R) (Tryz.co (α:=Unit)) hz a b h0 h1 hr iA
def ql(a:List zt)(ztw:zt->zt->Option Int):Option (List zt):=
 (o0 (u64 (a.length:Int))).bind fun b=>(mm a 0 (a.length:Int) b ztw).bind fun c=>some c
theorem gn(Z b c ztx zEN a ztw r)(h:ql a ztw=some r){Ek}(hz:Pz [row (vs b a.length c) 152 4 (a.flatMap kG)] Ek Z)(j:∀ args w,(callFunc ztx args).run Tryz.prog w = .ok (.enter ztx args) w)(k:∀ w:World,PZ [] w Z->∀(x0:zt) (x1:zt) (r:Int),ztw x0 x1=some r->Calls Tryz.prog ztx (([.agg #[vi x0.y6,vi x0.fQ,vi x0.yv,vi x0.fT],.agg #[vi x1.y6,vi x1.fQ,vi x1.yv,vi x1.fT]]:List Value)++zEN).toArray w fun e w'=>e = .returned (vi r)/\Hp [] w w' [])(iA:Ho Ek [row (vs b a.length c) 152 4 (a.flatMap kG)]):
  Calls Tryz.prog 43 #[vs b a.length c,.func (.func ztx) #[] (zEN).toArray] Ek fun e w'=>e = .returned (.tuple #[])/\(r.length=a.length)/\Hp (fps [row (vs b a.length c) 152 4 (a.flatMap kG)]) Ek w' [row (vs b r.length c) 152 4 (r.flatMap kG)]:=by
 unfold ql at h
 refine Nk func43 U iA U<|B1q U<|Lf 6 (wB underlying86)<|Q1n U<|bK h fun f l h=>bK h fun g m h=>D3q U<|Lf 10 (vo underlying3 underlying226)<|Eg call93 hz (fun pz=>ik (Z:=_)  (zew:=(u64 (a.length:Int))) (r:=f) pz  l)<|La U<|Nu (dd:=13) U (Eh call92) (.cons .here .nil) (cc hz (.cons .here .nil) fun w pz ho=>pm (Z:=_) (ztu:=b) (ztv:=c) (zEM:=ztx) (zT2:=zEN) (zam:=a) (zEK:=0) (zEL:=(a.length:Int)) (zy2:=f) (ztt:=ztw) (r:=g) pz j k m ho) ?_
 rintro  d
 exact Ew (i:=0) U (u:=(vs b g.length c)) (rJ d.symm)<|WL.nil<|oJ h▸Nj results43 .nil fun w hw=>⟨ui,d.trans U,hw.sub (.cons .here .nil)⟩
def tw(a:List zg)(c:Option Unit):Nat->Int->Option Unit
 | 0,_=>none
 | e+1,b=>if decide (b<a.length) then chk (0<=b/\b<a.length) (chk ((0:Int)<=0/\(0:Int)<=b/\b<=a.length) ((pD (a.take (b:Int).toNat) ((nth a b).y6)).bind fun d=>chk ((!d.2)=true->((0:Int)<=0/\0<(a.length:Int))) (if (!d.2)&&(decide (((nth a b).y6)≠((nth a 0).y6))) then none else tw a c e (i64 (b+1))))) else c
def dF(a:List zg):Option Unit:=
 uo (some ()) fun b=>tw a b wr 0
theorem JB(Z f g b r)(h:dF b=some r){Ek}(hz:PZ [] Ek Z)(k:ZS Z 3 (rq mG) f g b):
  RC 96 #[vs f b.length g] Ek (.bool true) [] []:=by
 unfold dF at h
 refine L3 func96 U U<|B1n U<|jK0 h fun o p h=>Nh (o=some r) ([]) ([]) ?_ ?_
 ·let A:Value:=(vs f b.length g);let D:Value:=(vi (b.length:Int));refine B1q U<|Lf 8 (wB underlying84)<|Q1n U<|WC.block<|Ni (fun d a=>(tw b o d a=some r)) (fun d a=>[(0,A),(7,A),(8,D),(9,vi a)]) (fun d a=>[]) (fun d a=>d) ⟨wr,0⟩ h .q .nil ?_
  rintro(_|J) a h;·cases h
  rw[tw] at h
  refine B1n U<|Lb<|Lj h (fun q h=>?_)<|fun q h=>?_
  ·refine Ec<|Lb<|WC.block<|Lb<|cK h fun s h=>D1q U<|L0 (dd:=12) (Z:=Z) (Pr:=(rq mG)) zaL k s ?_
   rintro t K u L rfl
   refine Lf 13 (we z7e (vy hz.pv u)) (Lh 4 (wn (cs:=[vi 0,vi 0,vi 0]) zgV) fun m _=>La U<|Ll (wl zfk .here)<|Q0n<|Lb ?_)
   refine cK h fun v h=>bK h fun c x h=>Lv (fun i=>[10].contains i) []<|Lg 0 U q_m<|Lg 1 U q_m<|Hl (j:=2) (dd:=17) (by kernel_rfl) U z2W z2X U U (Z:=Z) (Pr:=(rq mG)) zaL U k (fun _=>WE) (fun _=>np) U U v (List.drop_zero).symm ?_
   rintro y z B
   refine Lg 3 U (w7 jV)<|Li 4 U (Ei wm .here)<|L5 5 U (Eh call129) (cc hz .nil fun w pz ho=>dz _ _ _ _ _ _ x pz B)<|Lg 6 U q_m<|Lg 7 U vF<|Lg 8 U vF (WD.new (i:=9) (dd:=5) U (by kernel_rfl) U (wn (cs:=[vi 0,vi 0,vi 0]) zgV) (fun h'=>absurd h' (by decide)) fun E _=>WD.forced0 (i:=10) U (by kernel_rfl) (wS.of .nil) (wl zfk .here)<|Lg 11 U q_z<|Eo (by kernel_rfl)<|Ld<|Lb ?_)
   obtain⟨F,h⟩:=wa h
   let C:Value:=(.agg #[vi c.1.y6,vi c.1.fX,vi c.1.fQ]);refine Lv nc []<|Lg 0 U q_m<|Lg 1 U th<|Lg 2 U q_m<|L9 (fuel':=0) [(0,A),(7,A),(8,D),(9,vi a),(10,(.bool<|decide (a<b.length))),(11,vi a),(12,vq t),(13,.agg #[(vi<|(nth b a).y6),(vi<|(nth b a).fX),(vi<|(nth b a).fQ)]),(4,vp m),(3,vi a),(15,A),(16,vi a),(17,vs y ((b.take (a:Int).toNat).length) z),(18,vp m),(19,(vi<|(nth b a).y6)),(20,.tuple #[C,.bool c.2]),(14,.tuple #[C,.bool c.2]),(21,C),(22,.bool c.2),(5,vp E),(6,.bool c.2),(23,.bool c.2),(24,.bool (!c.2)),(25,.bool (!c.2)),(33,(.bool<|(!c.2)&&(decide (((nth b a).y6)≠((nth b 0).y6)))))] (wR 11 (dn 11)) ?_<|fun n=>?_
   rotate_left
   ·rcases Bool.eq_false_or_eq_true (!c.2) with hb' | hb'
    ·have e:=hb';clear hb'
     have G:=F e
     refine L2 (i:=25) U e<|Lg 3 U (w7 jV)<|Li 4 U (Ei wm .h1)<|Lg 5 U q_m<|L8 (j:=6) (dd:=29) (by kernel_rfl) z2W z2X (Z:=Z) (Pr:=(rq mG)) zaL k G ?_
     rintro M N H O rfl
     refine Lg 7 U (w7 jV)<|Li 8 U (w8 wm U<|wP hz.pv H)<|Lg 9 U kj<|Lg 10 U vH<|Lw .a2 ?_ n
     exact .t 23<|.r2 (zq<|Eq.symm e)<|zq<|qe e
    ·have l:=hb';clear hb'
     refine L2 (i:=25) U l<|Lo 3 U<|Lo 4 U<|Lo 5 U<|Lo 6 U<|Lo 7 U<|Lo 8 U<|Lo 9 U<|Lg 10 U vA<|Lw .a2 ?_ n
     exact .t 23<|.r2 (zq<|Eq.symm l)<|zq<|qd l
   refine Eo (by kernel_rfl)<|Ld<|Lj h (fun I h=>?_)<|fun I h=>?_
   ·cases h
   ·exact Ep<|Lq<|Ld<|D2q U<|WL.nil<|Em ⟨J,i64 (a+1)⟩ h (Nat.lt_succ_self _) .q .nil
  ·exact En<|Ln<|Ln<|Lu<|Lp () h .nil .nil
 ·rintro  h
  replace h:=p.symm.trans h
  refine B1n U<|El ?_
  skip
  exact Lk results96 (.tmp U .nil)<|fun w hw=>⟨wx,hw.sub .nil⟩
def cC(a:List zg):Option Unit:=
 (dF a).bind fun b=>some ()
theorem VU(Z b c a r)(h:cC a=some r){Ek}(hz:PZ [] Ek Z)(d:ZS Z 3 (rq mG) b c a):
  RC 95 #[vs b a.length c] Ek (.bool false) [] []:=by
 unfold cC at h
 refine L3 func95 U U<|B1n U<|Lb<|bK h fun f e h=>D1q U<|Eg call96 hz (fun pz=>JB _ _ _ _ _ e pz d)<|Lf 5 th<|Q1n U<|El ?_
 skip
 exact Lk results95 (.tmp U .nil)<|fun w hw=>⟨wx,hw.sub .nil⟩
def vR(b:List (List zg))(c:Option Unit):Nat->Int->Option Unit
 | 0,_=>none
 | d+1,a=>if decide (a<b.length) then chk (0<=a/\a<b.length) ((cC (nth b a)).bind fun e=>vR b c d (i64 (a+1))) else c
def kh(a:List (List zg)):Option Unit:=
 uo (some ()) fun b=>vR a b wr 0
theorem ru(Z d e b r)(h:kh b=some r){Ek}(hz:PZ [] Ek Z)(g:ZS Z 1 (m8 Z) d e b):
  RC 154 #[vs d b.length e,.func (.func 95) #[] #[]] Ek (vi (-1)) [] []:=by
 unfold kh at h
 refine Lz func154 U U<|B1n U<|jK0 h fun f i h=>Nh (f=some r) ([]) ([]) ?_ ?_
 ·refine B1q U<|Lf 7 (wB underlying85)<|Q1n U<|WC.block<|Ni (fun c a=>(vR b f c a=some r)) (fun c a=>[(0,vs d b.length e),(1,.func (.func 95) #[] #[]),(7,vi (b.length:Int)),(8,vi a)]) (fun c a=>[]) (fun c a=>c) ⟨wr,0⟩ h .q .nil ?_
  rintro(_|p) a h;·cases h
  rw[vR] at h
  refine B1n U<|Lb<|Lj h (fun j h=>?_)<|fun j h=>?_
  ·refine Ec<|Lb<|WC.block<|B2n U<|Lb<|cK h fun k h=>bK h fun q m h=>D3q U<|L0 (dd:=14) (Z:=Z) (Pr:=(m8 Z)) zgU g k ?_
   rintro s t n u ⟨v,x,rfl,o⟩
   refine Lf 15 (w8 zfm U<|vx hz.pv n)<|Lm 16 (wV (l:=[.tmp 15]) call95<|.cons U .nil) .nil (cc hz .nil fun w pz ho=>VU _ _ _ _ _ m pz o)<|Q0n<|Er (fun h'=>(by cases h'))<|fun h'=>?_
   clear h'
   exact Ep<|Lq<|Ld<|D2q U<|WL.nil<|Em ⟨p,i64 (a+1)⟩ h (Nat.lt_succ_self _) .q .nil
  ·exact En<|Ln<|Ln<|Lu<|Lp () h .nil .nil
 ·rintro  h
  replace h:=i.symm.trans h
  refine B1n U<|El ?_
  skip
  exact Lk results154 (.tmp U .nil)<|fun w hw=>⟨wx,hw.sub .nil⟩
def jx(a:List (List zg)):Option Unit:=
 (kh a).bind fun b=>some ()
theorem sv(Z b c a r)(h:jx a=some r){Ek}(hz:PZ [] Ek Z)(d:ZS Z 1 (m8 Z) b c a):
  RC 94 #[vs b a.length c,.func (.func 95) #[] #[]] Ek (.bool false) [] []:=by
 unfold jx at h
 refine Lz func94 U U<|B1n U<|Lb<|bK h fun f e h=>D2q U<|Eg call154 hz (fun pz=>ru _ _ _ _ _ e pz d)<|Lf 8 tZ<|Q1n U<|El ?_
 skip
 exact Lk results94 (.tmp U .nil)<|fun w hw=>⟨wx,hw.sub .nil⟩
def om(a:yq)(b:yq):Option Int:=
 some (i64 (a.y6-b.y6))
theorem VV(Z a b r)(h:om a b=some r){Ek}(hz:PZ [] Ek Z):
  RC 99 #[.agg #[vi a.yP,vi a.y6,vi a.yv],.agg #[vi b.yP,vi b.y6,vi b.yv]] Ek (vi r) [] []:=by
 unfold om at h
 refine Lz func99 U U<|Lb<|Le (Lh 2 (wu (cs:=[vi a.yP,vi a.y6,vi a.yv])) fun c _=>Lh 3 (wu (cs:=[vi b.yP,vi b.y6,vi b.yv])) fun d _=>Q1n U<|B0q<|Lf 5 (w7 Jo)<|Lf 6 (Ei wm .h1)<|Lf 7 (w7 Jo)<|Lf 8 (Ei wm .here)<|Q2n U<|El ?_)
 exact oJ h▸Ea results99
theorem z1sk:∀ w,(isAgg (Tryz.kP.t 24)).run Tryz.prog w = .ok true w:=fun _=>by kernel_rfl
theorem z1sl:∀ w,(Go.sizeOf (Tryz.kP.t 24)).run Tryz.prog w = .ok 3 w:=fun _=>by kernel_rfl
def uS(zan:List yq)(zEQ:Int)(zER:Int)(zy5:Int)(ztA:yq->yq->Option Int):Option (List yq):=chk ((zEQ=0/\zER=(zan.length:Int))/\(0<=zy5/\zy5<4611686018427387904/\zan.length<4611686018427387904)) (chk (de ztA (jh ztA zan)=true) (some (jh ztA zan)))
theorem lO(Z ztB ztC zES zT9 zan zEQ zER zy5 ztA r){Ek}(hz:Pz [row (vs ztB zan.length ztC) 101 3 (zan.flatMap fZ)] Ek Z)(a:∀ args w,(callFunc zES args).run Tryz.prog w = .ok (.enter zES args) w)(b:∀ w:World,PZ [] w Z->∀(x0:yq) (x1:yq) (r:Int),ztA x0 x1=some r->Calls Tryz.prog zES (([.agg #[vi x0.yP,vi x0.y6,vi x0.yv],.agg #[vi x1.yP,vi x1.y6,vi x1.yv]]:List Value)++zT9).toArray w fun e w'=>e = .returned (vi r)/\Hp [] w w' [])(h:uS zan zEQ zER zy5 ztA=some r)(iA:Ho Ek [row (vs ztB zan.length ztC) 101 3 (zan.flatMap fZ)]):
  Calls Tryz.prog 155 #[vs ztB zan.length ztC,vi zEQ,vi zER,vi zy5,.func (.func zES) #[] (zT9).toArray] Ek fun e w'=>e = .returned (.tuple #[])/\(r.length=zan.length)/\Hp (fps [row (vs ztB zan.length ztC) 101 3 (zan.flatMap fZ)]) Ek w' [row (vs ztB r.length ztC) 101 3 (r.flatMap fZ)]:=by
 obtain⟨h0,h⟩:=wa h
 obtain⟨h1,h⟩:=wa h
 have hr:=(oJ h).symm
 exact cZ (P:=Tryz.prog) (f:=155) (e:=101) (k:=3) (enc:=fZ) (fun _=>U) (by decide) VI (fun β _ enc cf g cb hO wA off cap d0 w0 eg hC R=>Tryz.cg 3 z1sk z1sl enc cf g cb hO wA off cap d0 w0 eg hC R) (Tryz.iK (α:=Unit)) hz a b h0 h1 hr iA
def gB(a:List yq)(zy6:yq->yq->Option Int):Option (List yq):=
 (o0 (u64 (a.length:Int))).bind fun b=>(uS a 0 (a.length:Int) b zy6).bind fun c=>some c
theorem oQ(Z b c zy7 zK7 a zy6 r)(h:gB a zy6=some r){Ek}(hz:Pz [row (vs b a.length c) 101 3 (a.flatMap fZ)] Ek Z)(j:∀ args w,(callFunc zy7 args).run Tryz.prog w = .ok (.enter zy7 args) w)(k:∀ w:World,PZ [] w Z->∀(x0:yq) (x1:yq) (r:Int),zy6 x0 x1=some r->Calls Tryz.prog zy7 (([.agg #[vi x0.yP,vi x0.y6,vi x0.yv],.agg #[vi x1.yP,vi x1.y6,vi x1.yv]]:List Value)++zK7).toArray w fun e w'=>e = .returned (vi r)/\Hp [] w w' [])(iA:Ho Ek [row (vs b a.length c) 101 3 (a.flatMap fZ)]):
  Calls Tryz.prog 98 #[vs b a.length c,.func (.func zy7) #[] (zK7).toArray] Ek fun e w'=>e = .returned (.tuple #[])/\(r.length=a.length)/\Hp (fps [row (vs b a.length c) 101 3 (a.flatMap fZ)]) Ek w' [row (vs b r.length c) 101 3 (r.flatMap fZ)]:=by
 unfold gB at h
 refine Nk func98 U iA U<|B1q U<|Lf 6 (wB underlying87)<|Q1n U<|bK h fun f l h=>bK h fun g m h=>D3q U<|Lf 10 (vo underlying3 underlying226)<|Eg call93 hz (fun pz=>ik (Z:=_)  (zew:=(u64 (a.length:Int))) (r:=f) pz  l)<|La U<|Nu (dd:=13) U (Eh call155) (.cons .here .nil) (cc hz (.cons .here .nil) fun w pz ho=>lO (Z:=_) (ztB:=b) (ztC:=c) (zES:=zy7) (zT9:=zK7) (zan:=a) (zEQ:=0) (zER:=(a.length:Int)) (zy5:=f) (ztA:=zy6) (r:=g) pz j k m ho) ?_
 rintro  d
 exact Ew (i:=0) U (u:=(vs b g.length c)) (rJ d.symm)<|WL.nil<|oJ h▸Nj results98 .nil fun w hw=>⟨ui,d.trans U,hw.sub (.cons .here .nil)⟩
end Go.Proofs.YtaefhckdgfpeaaaGreat
