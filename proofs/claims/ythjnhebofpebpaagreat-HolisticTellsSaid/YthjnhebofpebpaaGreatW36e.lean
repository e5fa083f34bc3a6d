/- A part of this claim's proof: models of functions, walks, plain laws. No conditions. -/
import Derived.Test.YthjnhebofpebpaaGreatW36d
set_option linter.all false
namespace Go.Proofs.YthjnhebofpebpaaGreat
open Go Go.RowKit Sep Tryz
set_option maxRecDepth 30000
set_option maxHeartbeats 4000000
def jt(c:List (List z6))(d:yl)(e:z1)(a:List z1)(f:Int):Option (Bool×(Nat×List z1×Int)):=
 (fG (⟨f⟩:yk) e c d).bind fun b=>(if decide ((a.length:Int)=0) then some true else chk ((0:Int)<=0/\0<(a.length:Int)) ((vh b.1 (⟨(nth a 0).fN,(nth a 0).fD⟩:z1)).bind fun g=>some (decide (g>0)))).bind fun h=>if h then some (true,(0,([b.1]:List z1),b.2.fE)) else some (true,(0,a,b.2.fE))
def gz(d:List (List z6))(j:yl)(a:List (List z6))(b:yl)(e:List z1):Option (z1×Int):=
 (vZ d j a b e).bind fun g=>if decide (g≠0) then some ((⟨0,0⟩:z1),g) else tZ (fun(h:Int) (f:List z1)=>if decide (h≠0) then some ((⟨0,0⟩:z1),h) else chk ((0:Int)<=0/\0<(f.length:Int)) (some ((⟨(nth f 0).fN,(nth f 0).fD⟩:z1),0))) fun k=>(jr d j a b e).bind fun c=>(vD (Nat×List z1×Int) (fun(x:z1) (s:Nat×List z1×Int)=>chk (s.1=0) (jt a b x s.2.1 s.2.2)) (0,([]:List z1),0) d (⟨(⟨c.1,c.2.1⟩:z1),(⟨c.2.2.1,c.2.2.2⟩:z1)⟩:yl) a b e).bind fun i=>k i.2.2 i.2.1
theorem iX(Z:Zp)(ae:Option Addr)(af:Nat)(ag:Addr)(ao:Option Addr)(ap:Nat)(ah:Addr)(ai:Option Addr)(aj:Nat)(V:List (List z6))(j:yl)(T:List (List z6))(t:yl)(W:List z1)(r:z1×Int)(h:gz V j T t W=some r)(w₀:World)(hz:PZ [] w₀ Z)(aq:ZS Z 1 (j9 Z) ae af V)(ak:ZS Z 1 (j9 Z) ao ap T)(al:ZC Z ag [vs ao T.length ap])(am:ZC Z ah [vi t.fR.fN,vi t.fR.fD,vi t.fL.fN,vi t.fL.fD])(ar:ZS Z 2 (rq xL) ai aj W):
  RC 127 #[.agg #[vs ae V.length af,vi j.fR.fN,vi j.fR.fD,vi j.fL.fN,vi j.fL.fD,.func (.func 122) #[] #[vq ag,vq ah],vs ai W.length aj]] w₀ (.tuple #[.agg #[vi r.1.fN,vi r.1.fD],vi r.2]) [] []:=by
 unfold gz at h
 let F:Value:=(.func (.func 122) #[] #[vq ag,vq ah]);let M:Value:=(vs ae V.length af);let N:Value:=(vs ai W.length aj);let H:Value:=(.agg #[M,vi j.fR.fN,vi j.fR.fD,vi j.fL.fN,vi j.fL.fD,F,N]);refine Calls.pP (vs:=[H]) (pre:=[]) (env:=[(0,H)]) func127 U ntmps127 U (Hp.nil w₀ _) U ?_
 let E:List Value:=[M,vi j.fR.fN,vi j.fR.fD,vi j.fL.fN,vi j.fL.fD,F,N];refine B0q<|Lg 1 (xO (cs:=E) U U) ?_
 intro m _
 refine Lg 2 (xG (cs:=[vi 0,vi 0]) z1y U) fun n _=>Q1n U<|WC.b<|WC.b<|bK h fun aX aI h=>Ld<|Le 9 (xw zoc U (xy .h1) U)<|Lp 10 (zb call163<|.cons U .nil) .nil (cc hz .nil fun w pz ho=>sS _ _ _ _ _ _ _ _ _ _ _ _ _ _ _ aI w pz aq ak al am ar)<|Q1n U<|B2n U<|Lk U h (fun aJ h=>?_)<|fun aJ h=>?_
 ·refine B0q<|Le 13 (w3 (v:=(.agg #[vi 0,vi 0])) (Lq (l:=[]) .nil []) (fun _=>by kernel_rfl))<|La U<|Lo U U (xz zX U U U .here U U U)<|Q1n U<|WC.ret<|Ll ?_
  obtain rfl:=oJ h
  exact WX.dg results127 (.agg U zh U (xy .here)<|.tmp U .nil)<|fun w hw=>⟨wV U U,hw.sub .nil⟩
 ·refine WC.skip<|Lb<|WC.b<|Ld (Lg 5 (xG (cs:=[vi 0]) zC3 U) fun c _=>Q0n<|WC.b<|Ld (Lg 6 (xG (cs:=[vn]) zC4 U) fun k _=>Q0n ?_))
  refine jK2 h fun aY aK h=>WC.eW (fun(X:Nat) (y:Int) (o:List z1) (Y:Option Addr) (aa:Nat)=>(aY y o=some r)) (fun(X:Nat) (y:Int) (o:List z1) (Y:Option Addr) (aa:Nat)=>[(2,vp n),(5,vp c),(6,vp k)]) (fun(X:Nat) (y:Int) (o:List z1) (Y:Option Addr) (aa:Nat)=>[stb n 175 [vi 0,vi 0],stb c 277 [vi y],stb k 229 [vs Y o.length aa],row (vs Y o.length aa) 175 2 (o.flatMap xL),jl X]) ?_ ?_
  ·refine WC.b<|bK h fun u aL h=>Ld<|Le 15 (xw zoc U (xy .h3) U)<|WL.d7 (dd:=16) U U U (zb call164<|.cons U .nil) .nil (cc hz .nil fun w pz ho=>sy _ _ _ _ _ _ _ _ _ _ _ _ _ _ _ aL w pz aq ak al am ar) ?_
   rintro a _
   refine Q0n<|WC.block<|WC.drop (.s5 .h1 .h1 .h1 .h1 .here)<|WC.nilRow 175 2<|WC.rangeFunc (f:=201) (caps:=[vp a]) U call201 ?_
   intro a0 a1 p b z an aM aN w hw
   let P:Value:=(vs none (([]:List z1).length) 0);let A:List Asrt:=[stb k 229 [P],row P 175 2 (([]:List z1).flatMap xL),stb c 277 [vi 0],stb n 175 [vi 0,vi 0],stb m 231 E,w5 p (z .ready none)];have hw1:=hw.selAll ((.s6 .h3 .h2 .h2 .h2 .h2 .here):Sel _ A _)
   let C:List Value:=[M,vi u.1,vi u.2.1,vi u.2.2.1,vi u.2.2.2,F,N];have pz:=(hz.call hw1 ((.cons .here .nil):Sel [vE A,jl b,stb a 231 C] [vE A] [jl b,stb a 231 C])).lend hw1 ((.cons .here .nil):Sel [vE A,jl b,stb a 231 C] [vE A] [jl b,stb a 231 C]) (B:=[stb a 231 C]) (fun _ hx'=>((.cons .h1 .nil):Sel _ [stb a 231 C] _).mem hx')
   refine bK h fun d aO h=>Calls.mono (tJ (Z:=_) (zbb:=p) (z5K:=(Option Addr×Nat)) (z3u:=(fun(g:Option Addr×Nat) (s:Nat×List z1×Int)=>vE ([stb k 229 [vs g.1 s.2.1.length g.2],row (vs g.1 s.2.1.length g.2) 175 2 (s.2.1.flatMap xL),stb c 277 [vi s.2.2],stb n 175 [vi 0,vi 0],stb m 231 E]++[w5 p (z (sa<|fY [] s.1)<|fY [] s.1)]))) (z9q:=(fun(g:Option Addr×Nat) (s:Nat×List z1×Int)=>True)) (zdC:=(none,0)) (zdD:=⟨a,0,none⟩) (zgo:=ae) (zgp:=af) (zyK:=ag) (zyL:=ao) (zyM:=ap) (zyN:=ah) (zqa:=ai) (zqb:=aj) (zM:=(Nat×List z1×Int)) (z3k:=(fun(x:z1) (s:Nat×List z1×Int)=>chk (s.1=0)<|jt T t x s.2.1 s.2.2)) (zal:=(0,([]:List z1),0)) (z42:=V) (zkt:=(⟨(⟨u.1,u.2.1⟩:z1),(⟨u.2.2.1,u.2.2.2⟩:z1)⟩:yl)) (zq9:=T) (zku:=t) (z4l:=W) (r:=d) w pz ?_ trivial ((aq.mono<|zl).weak (fun _ _ h=>ka zl h)) ((ak.mono<|zl).weak (fun _ _ h=>ka zl h)) (al.mono<|zl) (am.mono<|zl) (ar.mono<|zl) ((hw1.lent ((.cons .here .nil):Sel [vE A,jl b,stb a 231 C] [vE A] [jl b,stb a 231 C]) (B:=[stb a 231 C]) (fun _ hx'=>((.cons .h1 .nil):Sel _ [stb a 231 C] _).mem hx') (.head _) _).stb) aO<|hw1.owns ((.cons .here .nil):Sel [vE A,jl b,stb a 231 C] [vE A] [jl b,stb a 231 C])) ?_
   ·refine lW (LI:=(fun(g:Option Addr×Nat) (s:Nat×List z1×Int)=>[stb k 229 [vs g.1 s.2.1.length g.2],row (vs g.1 s.2.1.length g.2) 175 2 (s.2.1.flatMap xL),stb c 277 [vi s.2.2],stb n 175 [vi 0,vi 0],stb m 231 E])) (pc:=(fun(s:Nat×List z1×Int)=>fY [] s.1)) an aM aN (fun _ _=>U) (by decide) ?_
    rintro au _ ⟨az,aA⟩ ⟨aP,q,aB⟩ aQ aR Fb wb aC _ hz
    replace hz:=hz.left
    letI:Rnd:=lV p
    obtain⟨zT,e⟩:=xq aC
    replace zT:aP=0:=zT;subst zT;clear aC
    replace e:jt T t au q aB=some (aQ,aR):=e
    unfold jt at e
    let I:Value:=(vs az q.length aA);let K:Value:=(.agg #[vi au.fN,vi au.fD]);let Q:Value:=(.bool (decide (aX≠0)));refine WC.restr (env':=[(1,vp m),(12,Q),(5,vp c),(6,vp k),(17,K)]) (.q U)<|WC.eqL (L':=[stb k 229 [I],row I 175 2 (q.flatMap xL),stb c 277 [vi aB],stb n 175 [vi 0,vi 0],stb m 231 E,w5 p (z .ready none)]) U<|Ld<|Lg 7 (xG (cs:=[vi 0,vi 0]) z1y U) ?_
    intro aS _
    refine Lo U U (xz zX U U U .here U U U)<|WL.nil<|WX.cG an .h6<|WC.block<|WC.b ?_
    obtain⟨R,aT,e⟩:=z8 e
    refine Ld<|Le 18 (xk cM U U)<|Le 19 (xl zMy U<|xt .h6 U)<|Le 20 (xw zh U (xy .h1) U)<|Lp 21 (qW (l:=[.tmp 5,.tmp 20]) call122 U<|.r2 U U) (.cons .h4 .nil) (cc hz (.cons .h4 .nil) fun w pz ho=>dz _ _ _ _ _ _ _ _ _ _ _ aT w pz ak al am ho) (Lg 8 (xG (cs:=[vi 0,vi 0]) z1y U) fun aU _=>Lo U U (xz zX U U U .here U U U)<|Q0n<|WC.b ?_)
    obtain⟨aZ,aD,e⟩:=z8 e
    let O:Value:=(.bool (decide ((q.length:Int)=0)));refine Lz nc [] U<|Lh 0 22 U (xl zd7 U<|xt .h4 U)<|Lf 1 23 U (xK underlying229 U)<|Lf 2 24 U (sG U U)<|Lf 3 25 U (q_m U)<|Mc (fuel':=0) [(1,vp m),(12,Q),(5,vp c),(6,vp k),(17,K),(7,vp aS),(18,(.pointer<|some ⟨m,5,none⟩)),(19,F),(20,K),(21,.agg #[vi R.1.fN,vi R.1.fD]),(8,vp aU),(22,I),(23,vi (q.length:Int)),(24,O),(25,O),(32,.bool aZ)] (wl 11 (dn 11)) ?_<|fun aE=>?_
    rotate_left
    ·rcases Bool.eq_false_or_eq_true (decide ((q.length:Int)=0)) with hb' | hb'
     ·have av:=hb';clear hb'
      have aw:=q7 aD av
      replace aw:=oJ aw
      refine L4 (i:=25) U av<|Lj 4 26 U<|Lj 5 27 U<|Lj 6 28 U<|Lj 7 29 U<|Lj 8 30 U<|Lj 9 31 U<|Lf 10 32 U (qe U U)<|Lw (.a8) ?_ aE
      exact .r16 U U U U U U U U U U U U U U (zt<|Eq.symm av)<|zt aw
     ·have ax:=hb';clear hb'
      have S:=q8 aD ax
      obtain⟨ab,S⟩:=xq S
      obtain⟨a4,aV,S⟩:=z8 S
      replace S:=oJ S
      refine L4 (i:=25) U ax<|Lh 4 26 U (xw zh U (xy .here) U)<|Lh 5 27 U (xl zd7 U<|xt .h4 U)<|Mg (fun w hw=>Hp.vB .h5 hw (by intro iT;have:=ab;rw[iT] at this;omega)) ?_
      rintro⟨a2,rfl⟩
      refine Lf 6 28 U (w7 z3L U U ab.1 ab.2 vN)<|Lh 7 29 U (wu (cs:=(xL<|nth q 0)) zh U U<|g5 .h5<|vt (enc:=xL) (l:=q) (i:=0) (sz:=2) (fun _=>U) ab.1 ab.2)<|L5 8 30 U (zb call129<|.r2 U U) (cc hz .nil fun w pz ho=>fF _ _ _ _ aV w pz )<|Lf 9 31 U (lS U U)<|Lf 10 32 U (qf U U)<|Lw (.a8) ?_ aE
      exact .r16 U U U U U U U U U U U U U U (zt<|Eq.symm ax)<|zt S
    refine WD.done (by kernel_rfl)<|Lb<|WC.cond U (fun ay=>?_)<|fun ay=>?_
    ·replace e:=q7 e ay
     refine Ld<|Le 33 (xw zh U (xy .here) U) (Lg 34 (xU (cs:=([R.1]:List z1).flatMap xL) z3L (Lq (l:=[.tmp 33]) (.cons U .nil) [0]) (fun _=>by kernel_rfl) U (by unfold maxLen;omega)) fun aF _=>Lo U U (xz zC5 U U U .h5 U U U)<|WL.nil<|Lt ?_)
     obtain⟨rfl,rfl⟩:=l9 e
     let L:Value:=(vs (some ⟨aF,0,none⟩) (([R.1]:List z1).length) 1);exact WX.tn an .h4<|fun w' mT=>⟨(some ⟨aF,0,none⟩,1),U,trivial,(mT.selAll ((.s6 .h1 .h1 .h2 .h4 .h4 .here):Sel _ [stb k 229 [L],row L 175 2 (([R.1]:List z1).flatMap xL),stb c 277 [vi R.2.fE],stb n 175 [vi 0,vi 0],stb m 231 E,w5 p (z .ready none)] _)).sub (.cons .here .nil)⟩
    ·replace e:=q8 e ay
     refine WC.skip<|Lt ?_
     obtain⟨rfl,rfl⟩:=l9 e
     exact WX.tn an .h2<|fun w' mT=>⟨(az,aA),U,trivial,(mT.selAll ((.s6 .h4 .h4 .h2 .h3 .h3 .here):Sel _ [stb k 229 [I],row I 175 2 (q.flatMap xL),stb c 277 [vi R.2.fE],stb n 175 [vi 0,vi 0],stb m 231 E,w5 p (z .ready none)] _)).sub (.cons .here .nil)⟩
   ·rintro _ w' ⟨⟨aG,aH⟩,rfl,_,hp⟩
    have xv:=hw1.call ((.cons .here .nil):Sel [vE A,jl b,stb a 231 C] [vE A] [jl b,stb a 231 C]) hp
    let J:Value:=(vs aG d.2.1.length aH);have zn:Hp _ _ w' [stb k 229 [J],row J 175 2 (d.2.1.flatMap xL),stb c 277 [vi d.2.2],stb n 175 [vi 0,vi 0],stb m 231 E,w5 p (z (sa (fY [] d.1)) (fY [] d.1)),jl b,stb a 231 C]:=xv.pickAll .here
    refine⟨_,fY [] d.1,_,U,zn.sub ((.s8 .h5 .here .here .here .here .here .here .here):Sel _ [w5 p (z (sa (fY [] d.1)) (fY [] d.1)),stb k 229 [J],row J 175 2 (d.2.1.flatMap xL),stb c 277 [vi d.2.2],stb n 175 [vi 0,vi 0],stb m 231 E,jl b,stb a 231 C] _),?_⟩
    clear hp xv zn pz hw hw1
    refine wjN ?_
    letI:Rnd:=mR b
    exact Lt<|WX.midR (D:=fun(g:Nat×Int×List z1×Option Addr×Nat)=>g.1) (G:=Nat×Int×List z1×Option Addr×Nat) ⟨b,d.2.2,d.2.1,aG,aH⟩ h (.q U)<|.s5 .h3 .h2 .here .here .h1
  ·rintro X y o Y aa h
   replace h:=(aK y o).symm.trans h
   letI:Rnd:=mR X
   refine WC.b<|B0q<|Le 35 (xk uB U U)<|Le 36 (xl z6z U<|xt .h1 U)<|Q1n U<|Lk U h (fun aW h=>?_)<|fun aW h=>?_
   ·refine WC.b<|Lz (fun i=>[3].contains i) [sq c 277 [(0,vi y)]] U<|Lf 0 38 U (w3 (v:=(.agg #[vi 0,vi 0])) (Lq (l:=[]) .nil []) (fun _=>by kernel_rfl))<|Lf 1 39 U (xk uB U U)<|Mb 2 40 U (wB.wk (.cons .h1 .nil)<|.stb (.cons U .nil) .nil) (xl z6z U<|fZ .here<|.head _)<|WD.forced0 (i:=3) U (by kernel_rfl) U U U (wB.wk (.cons .h1 .nil)<|.stb (.cons U .nil) .nil) (xz zX U U U .here U U U)<|Lf 4 3 U (q_z U)<|WD.done (by kernel_rfl)<|Lb<|WC.ret<|Ll ?_
    obtain rfl:=oJ h
    exact WX.sp .h4 results127 (.agg U zh U (xy .h1)<|.tmp U .nil)<|fun w hw=>⟨wV U U,hw.sub .nil⟩
   ·refine WC.skip<|Lb<|WC.b<|cK h fun ad h=>Ld<|Le 41 (xl zd7 U<|xt .h2 U)<|WL.know (fun w hw=>Hp.vB .h3 hw (by intro iT;have:=ad;rw[iT] at this;omega)) ?_
    rintro⟨a3,rfl⟩
    refine Le 42 (w7 z3L U U ad.1 ad.2 vN)<|Le 43 (wu (cs:=(xL<|nth o 0)) zh U U<|g5 .h3<|vt (enc:=xL) (l:=o) (i:=0) (sz:=2) (fun _=>U) ad.1 ad.2)<|Lo U U (xz zX U U U .here U U U)<|Q1n U<|WC.ret ?_
    obtain rfl:=oJ h
    exact WX.sp .h4 results127 (.agg U zh U (xy .h1)<|.tmp U .nil)<|fun w hw=>⟨wV U U,hw.sub .nil⟩
def mJ(a:List (List z6))(b:yl):Option (z1×Int):=
 (gz a b a b []).bind fun c=>some (c.1,c.2)
theorem nB(Z:Zp)(c:Option Addr)(d:Nat)(b:List (List z6))(a:yl)(r:z1×Int)(h:mJ b a=some r)(w₀:World)(hz:PZ [] w₀ Z)(e:ZS Z 1 (j9 Z) c d b):
  RC 81 #[vs c b.length d,.agg #[vi a.fR.fN,vi a.fR.fD,vi a.fL.fN,vi a.fL.fD]] w₀ (.tuple #[.agg #[vi r.1.fN,vi r.1.fD],vi r.2]) [] []:=by
 unfold mJ at h
 refine L3 func81 ntmps81 ?_
 let A:Value:=(vs c b.length d);refine B0q<|Lg 2 (xO (cs:=[A]) U U) ?_
 intro f _
 refine Lg 3 (xO (cs:=[vi a.fR.fN,vi a.fR.fD,vi a.fL.fN,vi a.fL.fD]) U U) fun g _=>Lg 4 (xG (cs:=[vi 0,vi 0]) z1y U) fun j _=>Q1n U<|B0q<|Le 7 (xl zj9 U<|xt .h2 U)<|Le 8 (xw ztl U (xy .h1) U)<|Le 9 (w3 (v:=(.agg #[A,vi a.fR.fN,vi a.fR.fD,vi a.fL.fN,vi a.fL.fD,.nilFunc,vn])) (Lq (l:=[.tmp 7,.tmp 8]) (.r2 U U) [0,1]) (fun _=>by kernel_rfl)) (Lg 6 (xG (cs:=[vn,vi 0,vi 0,vi 0,vi 0,.nilFunc,vn]) zMq U) fun k _=>Lo U U (xz zMr U U U .here U U U)<|Q0n<|B0q<|Le 10 (wC<|L8 (l:=[.tmp 2,.tmp 3])<|.r2 U U)<|Le 11 (xk cM U U)<|Lo U U (jF (ds:=[A,vi a.fR.fN,vi a.fR.fD,vi a.fL.fN,vi a.fL.fD,.func (.func 122) #[] #[vp f,vp g],vn]) zMs U U U U U .here U U)<|Q0n<|WC.b ?_)
 refine bK h fun m i h=>Ld<|Le 12 (xw zoc U (xy .here) U)<|Lp 13 (zb call127<|.cons U .nil) .nil (sc hz .nil (.s2 .h3 .h2) fun w pz ho la=>iX _ _ _ _ _ _ _ _ _ _ _ _ _ _ _ i w pz ((e.mono<|zl).weak (fun _ _ h=>ka zl h)) ((e.mono<|zl).weak (fun _ _ h=>ka zl h)) ((la _ (.head _) _).stb) ((la _ (.tail _<|.head _) _).stb)<|ZS.nil _ _ _)<|Q2q U<|Lo U U (xz zX U U U .h1 U U U)<|Q1n U<|WC.ret ?_
 obtain rfl:=oJ h
 exact Li results81 (.agg U zh U (xy .here)<|.tmp U .nil)<|fun w hw=>⟨wV U U,hw.sub .nil⟩
def gP(g:yk)(b:z1)(h:List (List z6))(c:yl):Option (z1×yk):=
 (jS g h b).bind fun a=>(vh b c.fL).bind fun i=>if decide (i<=0) then some (a.1,a.2) else(wQ a.2 (fun(y0:z1) (y1:z1)=>qG y0 y1) b c.fL).bind fun d=>(wQ d.2 (fun(y0:z1) (y1:z1)=>kd y0 y1) c.fR d.1).bind fun e=>(wQ e.2 (fun(y0:z1) (y1:z1)=>qG y0 y1) a.1 e.1).bind fun f=>some (f.1,f.2)
theorem cQ(Z:Zp)(b:Nat)(g:Addr)(j:Option Addr)(k:Nat)(l:Addr)(d:yk)(c:z1)(e:List (List z6))(a:yl)(r:z1×yk)(h:gP d c e a=some r)(w₀:World)(hz:Pz [stb b 277 [vi d.fE]] w₀ Z)(n:ZS Z 1 (j9 Z) j k e)(o:ZC Z g [vs j e.length k])(f:ZC Z l [vi a.fR.fN,vi a.fR.fD,vi a.fL.fN,vi a.fL.fD])(iq:Ho w₀ [stb b 277 [vi d.fE]]):
  RF 128 #[vp b,.agg #[vi c.fN,vi c.fD],vq g,vq l] w₀ (.agg #[vi r.1.fN,vi r.1.fD]) [stb b 277 [vi d.fE]] [stb b 277 [vi r.2.fE]]:=by
 unfold gP at h
 refine Calls.tg func128 ntmps128 iq ?_
 refine WC.b<|Ld (Lg 5 (xO (cs:=[vi c.fN,vi c.fD]) U U) fun z _=>Lg 6 (xG (cs:=[vi 0,vi 0]) z1y U) fun B _=>Q0n<|WC.b ?_)
 refine bK h fun m p h=>D1q U<|Le 9 (xl zj9 U<|q9 hz.pv o U)<|Le 10 (xw zh U (xy .h1) U)<|Lp 11 (zb call126<|.r3 U U U) (.cons .h2 .nil) (cc hz (.cons .h2 .nil) fun w pz ho=>rF _ _ _ _ _ _ _ _ p w pz n ho) (Lg 7 (xG (cs:=[vi 0,vi 0]) z1y U) fun q _=>Lo U U (xz zX U U U .here U U U)<|Q0n<|WC.b<|WC.b ?_)
 obtain⟨C,t,h⟩:=z8 h
 let A:List Value:=[vi a.fL.fN,vi a.fL.fD];refine Ld<|Le 12 (xw zh U (xy .h3) U)<|Le 13 (xk pJ U U)<|Le 14 (wu (cs:=A) zh U U<|iN (off:=2) (s:=2) hz.pv f U)<|Lp 15 (zb call129<|.r2 U U) .nil (cc hz .nil fun w pz ho=>fF _ _ _ _ t w pz )<|Q1n U<|Lk U h (fun u h=>?_)<|fun u h=>?_
 ·refine B0q<|Le 17 (xw zh U (xy .here) U)<|Lo U U (xz zX U U U .h2 U U U)<|Q0n<|WC.ret<|Ll ?_
  obtain rfl:=oJ h
  exact Li results128 (.agg U zh U (xy .here) .nil)<|fun w hw=>⟨xJ U,hw.sub (.cons .h2 .nil)⟩
 ·refine WC.skip<|Lb<|WC.b<|bK h fun D v h=>bK h fun E x h=>bK h fun F y h=>Lz (fun i=>[9,10,11,12].contains i) [stb q 175 [vi m.1.fN,vi m.1.fD]] U<|Lf 0 18 U (q_m U)<|Mb 1 19 U (wB.of<|.cons .here .nil) (xw zh U (xy .here) U)<|Lf 2 20 U (q_m U)<|Lf 3 21 U (xk lf U U)<|Mb 4 22 U (wB.of<|.cons .here .nil) (wu (cs:=[vi a.fR.fN,vi a.fR.fD]) zh U U<|iN (off:=0) (s:=2) hz.pv f U)<|Lf 5 23 U (q_m U)<|Lh 6 24 U (xw zh U (xy .h3) U)<|Lf 7 25 U (xk pJ U U)<|Lh 8 26 U (wu (cs:=A) zh U U<|iN (off:=2) (s:=2) hz.pv f U) (WD.call0 (i:=9) (dd:=27) U (by kernel_rfl) U U U (.inl ⟨U,(wB.of<|.cons .h1 .nil)⟩) (zb call123<|.r4 U U U U) (.cons .h1 .nil) (cc hz (.cons .h1 .nil) fun w pz ho=>Calls.mono (jy _ _ (zak:=124) (zco:=[]) _ (zb7:=(fun(y0:z1) (y1:z1)=>qG y0 y1)) _ _ _ v w pz call124 (fun w' iT y0 y1  r  hr=>o8 _ _ _ _ hr w' iT ) ho)<|fun _ _ h'=>⟨h'.1,trivial,h'.2⟩) fun _=>WD.call0 (i:=10) (dd:=28) U (by kernel_rfl) U U U (.inl ⟨U,(wB.of<|.cons .h1 .nil)⟩) (zb call123<|.r4 U U U U) (.cons .here .nil) (cc hz (.cons .here .nil) fun w pz ho=>Calls.mono (jy _ _ (zak:=120) (zco:=[]) _ (zb7:=(fun(y0:z1) (y1:z1)=>kd y0 y1)) _ _ _ x w pz call120 (fun w' iT y0 y1  r  hr=>dw _ _ _ _ hr w' iT ) ho)<|fun _ _ h'=>⟨h'.1,trivial,h'.2⟩) fun _=>WD.call0 (i:=11) (dd:=29) U (by kernel_rfl) U U U (.inl ⟨U,(wB.of<|.cons .h1 .nil)⟩) (zb call123<|.r4 U U U U) (.cons .here .nil) (cc hz (.cons .here .nil) fun w pz ho=>Calls.mono (jy _ _ (zak:=124) (zco:=[]) _ (zb7:=(fun(y0:z1) (y1:z1)=>qG y0 y1)) _ _ _ y w pz call124 (fun w' iT y0 y1  r  hr=>o8 _ _ _ _ hr w' iT ) ho)<|fun _ _ h'=>⟨h'.1,trivial,h'.2⟩) fun _=>WD.jD (i:=12) U (by kernel_rfl) U U U (by kernel_rfl) (xz zX U U U .h2 U U U)<|WD.done (by kernel_rfl)<|Lb<|WC.ret ?_)
  obtain rfl:=oJ h
  exact Li results128 (.agg U zh U (xy .here) .nil)<|fun w hw=>⟨xJ U,hw.sub (.cons .h1 .nil)⟩
def jh(c:List (List z6))(d:yl)(e:z1)(a:List z1)(f:Int):Option (Bool×(Nat×List z1×Int)):=
 (gP (⟨f⟩:yk) e c d).bind fun b=>(if decide ((a.length:Int)=0) then some true else chk ((0:Int)<=0/\0<(a.length:Int)) ((vh b.1 (⟨(nth a 0).fN,(nth a 0).fD⟩:z1)).bind fun g=>some (decide (g>0)))).bind fun h=>if h then some (true,(0,([b.1]:List z1),b.2.fE)) else some (true,(0,a,b.2.fE))
def g9(d:List (List z6))(j:yl)(a:List (List z6))(b:yl)(e:List z1):Option (z1×Int):=
 (vZ d j a b e).bind fun g=>if decide (g≠0) then some ((⟨0,0⟩:z1),g) else tZ (fun(h:Int) (f:List z1)=>if decide (h≠0) then some ((⟨0,0⟩:z1),h) else chk ((0:Int)<=0/\0<(f.length:Int)) (some ((⟨(nth f 0).fN,(nth f 0).fD⟩:z1),0))) fun k=>(jr d j a b e).bind fun c=>(vD (Nat×List z1×Int) (fun(x:z1) (s:Nat×List z1×Int)=>chk (s.1=0) (jh a b x s.2.1 s.2.2)) (0,([]:List z1),0) d (⟨(⟨c.1,c.2.1⟩:z1),(⟨c.2.2.1,c.2.2.2⟩:z1)⟩:yl) a b e).bind fun i=>k i.2.2 i.2.1
theorem iv(Z:Zp)(ae:Option Addr)(af:Nat)(ag:Addr)(ao:Option Addr)(ap:Nat)(ah:Addr)(ai:Option Addr)(aj:Nat)(V:List (List z6))(j:yl)(T:List (List z6))(t:yl)(W:List z1)(r:z1×Int)(h:g9 V j T t W=some r)(w₀:World)(hz:PZ [] w₀ Z)(aq:ZS Z 1 (j9 Z) ae af V)(ak:ZS Z 1 (j9 Z) ao ap T)(al:ZC Z ag [vs ao T.length ap])(am:ZC Z ah [vi t.fR.fN,vi t.fR.fD,vi t.fL.fN,vi t.fL.fD])(ar:ZS Z 2 (rq xL) ai aj W):
  RC 127 #[.agg #[vs ae V.length af,vi j.fR.fN,vi j.fR.fD,vi j.fL.fN,vi j.fL.fD,.func (.func 128) #[] #[vq ag,vq ah],vs ai W.length aj]] w₀ (.tuple #[.agg #[vi r.1.fN,vi r.1.fD],vi r.2]) [] []:=by
 unfold g9 at h
 let F:Value:=(.func (.func 128) #[] #[vq ag,vq ah]);let M:Value:=(vs ae V.length af);let N:Value:=(vs ai W.length aj);let H:Value:=(.agg #[M,vi j.fR.fN,vi j.fR.fD,vi j.fL.fN,vi j.fL.fD,F,N]);refine Calls.pP (vs:=[H]) (pre:=[]) (env:=[(0,H)]) func127 U ntmps127 U (Hp.nil w₀ _) U ?_
 let E:List Value:=[M,vi j.fR.fN,vi j.fR.fD,vi j.fL.fN,vi j.fL.fD,F,N];refine B0q<|Lg 1 (xO (cs:=E) U U) ?_
 intro m _
 refine Lg 2 (xG (cs:=[vi 0,vi 0]) z1y U) fun n _=>Q1n U<|WC.b<|WC.b<|bK h fun aX aI h=>Ld<|Le 9 (xw zoc U (xy .h1) U)<|Lp 10 (zb call163<|.cons U .nil) .nil (cc hz .nil fun w pz ho=>sS _ _ _ _ _ _ _ _ _ _ _ _ _ _ _ aI w pz aq ak al am ar)<|Q1n U<|B2n U<|Lk U h (fun aJ h=>?_)<|fun aJ h=>?_
 ·refine B0q<|Le 13 (w3 (v:=(.agg #[vi 0,vi 0])) (Lq (l:=[]) .nil []) (fun _=>by kernel_rfl))<|La U<|Lo U U (xz zX U U U .here U U U)<|Q1n U<|WC.ret<|Ll ?_
  obtain rfl:=oJ h
  exact WX.dg results127 (.agg U zh U (xy .here)<|.tmp U .nil)<|fun w hw=>⟨wV U U,hw.sub .nil⟩
 ·refine WC.skip<|Lb<|WC.b<|Ld (Lg 5 (xG (cs:=[vi 0]) zC3 U) fun c _=>Q0n<|WC.b<|Ld (Lg 6 (xG (cs:=[vn]) zC4 U) fun k _=>Q0n ?_))
  refine jK2 h fun aY aK h=>WC.eW (fun(X:Nat) (y:Int) (o:List z1) (Y:Option Addr) (aa:Nat)=>(aY y o=some r)) (fun(X:Nat) (y:Int) (o:List z1) (Y:Option Addr) (aa:Nat)=>[(2,vp n),(5,vp c),(6,vp k)]) (fun(X:Nat) (y:Int) (o:List z1) (Y:Option Addr) (aa:Nat)=>[stb n 175 [vi 0,vi 0],stb c 277 [vi y],stb k 229 [vs Y o.length aa],row (vs Y o.length aa) 175 2 (o.flatMap xL),jl X]) ?_ ?_
  ·refine WC.b<|bK h fun u aL h=>Ld<|Le 15 (xw zoc U (xy .h3) U)<|WL.d7 (dd:=16) U U U (zb call164<|.cons U .nil) .nil (cc hz .nil fun w pz ho=>sy _ _ _ _ _ _ _ _ _ _ _ _ _ _ _ aL w pz aq ak al am ar) ?_
   rintro a _
   refine Q0n<|WC.block<|WC.drop (.s5 .h1 .h1 .h1 .h1 .here)<|WC.nilRow 175 2<|WC.rangeFunc (f:=201) (caps:=[vp a]) U call201 ?_
   intro a0 a1 p b z an aM aN w hw
   let P:Value:=(vs none (([]:List z1).length) 0);let A:List Asrt:=[stb k 229 [P],row P 175 2 (([]:List z1).flatMap xL),stb c 277 [vi 0],stb n 175 [vi 0,vi 0],stb m 231 E,w5 p (z .ready none)];have hw1:=hw.selAll ((.s6 .h3 .h2 .h2 .h2 .h2 .here):Sel _ A _)
   let C:List Value:=[M,vi u.1,vi u.2.1,vi u.2.2.1,vi u.2.2.2,F,N];have pz:=(hz.call hw1 ((.cons .here .nil):Sel [vE A,jl b,stb a 231 C] [vE A] [jl b,stb a 231 C])).lend hw1 ((.cons .here .nil):Sel [vE A,jl b,stb a 231 C] [vE A] [jl b,stb a 231 C]) (B:=[stb a 231 C]) (fun _ hx'=>((.cons .h1 .nil):Sel _ [stb a 231 C] _).mem hx')
   refine bK h fun d aO h=>Calls.mono (tJ (Z:=_) (zbb:=p) (z5K:=(Option Addr×Nat)) (z3u:=(fun(g:Option Addr×Nat) (s:Nat×List z1×Int)=>vE ([stb k 229 [vs g.1 s.2.1.length g.2],row (vs g.1 s.2.1.length g.2) 175 2 (s.2.1.flatMap xL),stb c 277 [vi s.2.2],stb n 175 [vi 0,vi 0],stb m 231 E]++[w5 p (z (sa<|fY [] s.1)<|fY [] s.1)]))) (z9q:=(fun(g:Option Addr×Nat) (s:Nat×List z1×Int)=>True)) (zdC:=(none,0)) (zdD:=⟨a,0,none⟩) (zgo:=ae) (zgp:=af) (zyK:=ag) (zyL:=ao) (zyM:=ap) (zyN:=ah) (zqa:=ai) (zqb:=aj) (zM:=(Nat×List z1×Int)) (z3k:=(fun(x:z1) (s:Nat×List z1×Int)=>chk (s.1=0)<|jh T t x s.2.1 s.2.2)) (zal:=(0,([]:List z1),0)) (z42:=V) (zkt:=(⟨(⟨u.1,u.2.1⟩:z1),(⟨u.2.2.1,u.2.2.2⟩:z1)⟩:yl)) (zq9:=T) (zku:=t) (z4l:=W) (r:=d) w pz ?_ trivial ((aq.mono<|zl).weak (fun _ _ h=>ka zl h)) ((ak.mono<|zl).weak (fun _ _ h=>ka zl h)) (al.mono<|zl) (am.mono<|zl) (ar.mono<|zl) ((hw1.lent ((.cons .here .nil):Sel [vE A,jl b,stb a 231 C] [vE A] [jl b,stb a 231 C]) (B:=[stb a 231 C]) (fun _ hx'=>((.cons .h1 .nil):Sel _ [stb a 231 C] _).mem hx') (.head _) _).stb) aO<|hw1.owns ((.cons .here .nil):Sel [vE A,jl b,stb a 231 C] [vE A] [jl b,stb a 231 C])) ?_
   ·refine lW (LI:=(fun(g:Option Addr×Nat) (s:Nat×List z1×Int)=>[stb k 229 [vs g.1 s.2.1.length g.2],row (vs g.1 s.2.1.length g.2) 175 2 (s.2.1.flatMap xL),stb c 277 [vi s.2.2],stb n 175 [vi 0,vi 0],stb m 231 E])) (pc:=(fun(s:Nat×List z1×Int)=>fY [] s.1)) an aM aN (fun _ _=>U) (by decide) ?_
    rintro au _ ⟨az,aA⟩ ⟨aP,q,aB⟩ aQ aR Fb wb aC _ hz
    replace hz:=hz.left
    letI:Rnd:=lV p
    obtain⟨zT,e⟩:=xq aC
    replace zT:aP=0:=zT;subst zT;clear aC
    replace e:jh T t au q aB=some (aQ,aR):=e
    unfold jh at e
    let I:Value:=(vs az q.length aA);let K:Value:=(.agg #[vi au.fN,vi au.fD]);let Q:Value:=(.bool (decide (aX≠0)));refine WC.restr (env':=[(1,vp m),(12,Q),(5,vp c),(6,vp k),(17,K)]) (.q U)<|WC.eqL (L':=[stb k 229 [I],row I 175 2 (q.flatMap xL),stb c 277 [vi aB],stb n 175 [vi 0,vi 0],stb m 231 E,w5 p (z .ready none)]) U<|Ld<|Lg 7 (xG (cs:=[vi 0,vi 0]) z1y U) ?_
    intro aS _
    refine Lo U U (xz zX U U U .here U U U)<|WL.nil<|WX.cG an .h6<|WC.block<|WC.b ?_
    obtain⟨R,aT,e⟩:=z8 e
    refine Ld<|Le 18 (xk cM U U)<|Le 19 (xl zMy U<|xt .h6 U)<|Le 20 (xw zh U (xy .h1) U)<|Lp 21 (qW (l:=[.tmp 5,.tmp 20]) call128 U<|.r2 U U) (.cons .h4 .nil) (cc hz (.cons .h4 .nil) fun w pz ho=>cQ _ _ _ _ _ _ _ _ _ _ _ aT w pz ak al am ho) (Lg 8 (xG (cs:=[vi 0,vi 0]) z1y U) fun aU _=>Lo U U (xz zX U U U .here U U U)<|Q0n<|WC.b ?_)
    obtain⟨aZ,aD,e⟩:=z8 e
    let O:Value:=(.bool (decide ((q.length:Int)=0)));refine Lz nc [] U<|Lh 0 22 U (xl zd7 U<|xt .h4 U)<|Lf 1 23 U (xK underlying229 U)<|Lf 2 24 U (sG U U)<|Lf 3 25 U (q_m U)<|Mc (fuel':=0) [(1,vp m),(12,Q),(5,vp c),(6,vp k),(17,K),(7,vp aS),(18,(.pointer<|some ⟨m,5,none⟩)),(19,F),(20,K),(21,.agg #[vi R.1.fN,vi R.1.fD]),(8,vp aU),(22,I),(23,vi (q.length:Int)),(24,O),(25,O),(32,.bool aZ)] (wl 11 (dn 11)) ?_<|fun aE=>?_
    rotate_left
    ·rcases Bool.eq_false_or_eq_true (decide ((q.length:Int)=0)) with hb' | hb'
     ·have av:=hb';clear hb'
      have aw:=q7 aD av
      replace aw:=oJ aw
      refine L4 (i:=25) U av<|Lj 4 26 U<|Lj 5 27 U<|Lj 6 28 U<|Lj 7 29 U<|Lj 8 30 U<|Lj 9 31 U<|Lf 10 32 U (qe U U)<|Lw (.a8) ?_ aE
      exact .r16 U U U U U U U U U U U U U U (zt<|Eq.symm av)<|zt aw
     ·have ax:=hb';clear hb'
      have S:=q8 aD ax
      obtain⟨ab,S⟩:=xq S
      obtain⟨a4,aV,S⟩:=z8 S
      replace S:=oJ S
      refine L4 (i:=25) U ax<|Lh 4 26 U (xw zh U (xy .here) U)<|Lh 5 27 U (xl zd7 U<|xt .h4 U)<|Mg (fun w hw=>Hp.vB .h5 hw (by intro iT;have:=ab;rw[iT] at this;omega)) ?_
      rintro⟨a2,rfl⟩
      refine Lf 6 28 U (w7 z3L U U ab.1 ab.2 vN)<|Lh 7 29 U (wu (cs:=(xL<|nth q 0)) zh U U<|g5 .h5<|vt (enc:=xL) (l:=q) (i:=0) (sz:=2) (fun _=>U) ab.1 ab.2)<|L5 8 30 U (zb call129<|.r2 U U) (cc hz .nil fun w pz ho=>fF _ _ _ _ aV w pz )<|Lf 9 31 U (lS U U)<|Lf 10 32 U (qf U U)<|Lw (.a8) ?_ aE
      exact .r16 U U U U U U U U U U U U U U (zt<|Eq.symm ax)<|zt S
    refine WD.done (by kernel_rfl)<|Lb<|WC.cond U (fun ay=>?_)<|fun ay=>?_
    ·replace e:=q7 e ay
     refine Ld<|Le 33 (xw zh U (xy .here) U) (Lg 34 (xU (cs:=([R.1]:List z1).flatMap xL) z3L (Lq (l:=[.tmp 33]) (.cons U .nil) [0]) (fun _=>by kernel_rfl) U (by unfold maxLen;omega)) fun aF _=>Lo U U (xz zC5 U U U .h5 U U U)<|WL.nil<|Lt ?_)
     obtain⟨rfl,rfl⟩:=l9 e
     let L:Value:=(vs (some ⟨aF,0,none⟩) (([R.1]:List z1).length) 1);exact WX.tn an .h4<|fun w' mT=>⟨(some ⟨aF,0,none⟩,1),U,trivial,(mT.selAll ((.s6 .h1 .h1 .h2 .h4 .h4 .here):Sel _ [stb k 229 [L],row L 175 2 (([R.1]:List z1).flatMap xL),stb c 277 [vi R.2.fE],stb n 175 [vi 0,vi 0],stb m 231 E,w5 p (z .ready none)] _)).sub (.cons .here .nil)⟩
    ·replace e:=q8 e ay
     refine WC.skip<|Lt ?_
     obtain⟨rfl,rfl⟩:=l9 e
     exact WX.tn an .h2<|fun w' mT=>⟨(az,aA),U,trivial,(mT.selAll ((.s6 .h4 .h4 .h2 .h3 .h3 .here):Sel _ [stb k 229 [I],row I 175 2 (q.flatMap xL),stb c 277 [vi R.2.fE],stb n 175 [vi 0,vi 0],stb m 231 E,w5 p (z .ready none)] _)).sub (.cons .here .nil)⟩
   ·rintro _ w' ⟨⟨aG,aH⟩,rfl,_,hp⟩
    have xv:=hw1.call ((.cons .here .nil):Sel [vE A,jl b,stb a 231 C] [vE A] [jl b,stb a 231 C]) hp
    let J:Value:=(vs aG d.2.1.length aH);have zn:Hp _ _ w' [stb k 229 [J],row J 175 2 (d.2.1.flatMap xL),stb c 277 [vi d.2.2],stb n 175 [vi 0,vi 0],stb m 231 E,w5 p (z (sa (fY [] d.1)) (fY [] d.1)),jl b,stb a 231 C]:=xv.pickAll .here
    refine⟨_,fY [] d.1,_,U,zn.sub ((.s8 .h5 .here .here .here .here .here .here .here):Sel _ [w5 p (z (sa (fY [] d.1)) (fY [] d.1)),stb k 229 [J],row J 175 2 (d.2.1.flatMap xL),stb c 277 [vi d.2.2],stb n 175 [vi 0,vi 0],stb m 231 E,jl b,stb a 231 C] _),?_⟩
    clear hp xv zn pz hw hw1
    refine wjN ?_
    letI:Rnd:=mR b
    exact Lt<|WX.midR (D:=fun(g:Nat×Int×List z1×Option Addr×Nat)=>g.1) (G:=Nat×Int×List z1×Option Addr×Nat) ⟨b,d.2.2,d.2.1,aG,aH⟩ h (.q U)<|.s5 .h3 .h2 .here .here .h1
  ·rintro X y o Y aa h
   replace h:=(aK y o).symm.trans h
   letI:Rnd:=mR X
   refine WC.b<|B0q<|Le 35 (xk uB U U)<|Le 36 (xl z6z U<|xt .h1 U)<|Q1n U<|Lk U h (fun aW h=>?_)<|fun aW h=>?_
   ·refine WC.b<|Lz (fun i=>[3].contains i) [sq c 277 [(0,vi y)]] U<|Lf 0 38 U (w3 (v:=(.agg #[vi 0,vi 0])) (Lq (l:=[]) .nil []) (fun _=>by kernel_rfl))<|Lf 1 39 U (xk uB U U)<|Mb 2 40 U (wB.wk (.cons .h1 .nil)<|.stb (.cons U .nil) .nil) (xl z6z U<|fZ .here<|.head _)<|WD.forced0 (i:=3) U (by kernel_rfl) U U U (wB.wk (.cons .h1 .nil)<|.stb (.cons U .nil) .nil) (xz zX U U U .here U U U)<|Lf 4 3 U (q_z U)<|WD.done (by kernel_rfl)<|Lb<|WC.ret<|Ll ?_
    obtain rfl:=oJ h
    exact WX.sp .h4 results127 (.agg U zh U (xy .h1)<|.tmp U .nil)<|fun w hw=>⟨wV U U,hw.sub .nil⟩
   ·refine WC.skip<|Lb<|WC.b<|cK h fun ad h=>Ld<|Le 41 (xl zd7 U<|xt .h2 U)<|WL.know (fun w hw=>Hp.vB .h3 hw (by intro iT;have:=ad;rw[iT] at this;omega)) ?_
    rintro⟨a3,rfl⟩
    refine Le 42 (w7 z3L U U ad.1 ad.2 vN)<|Le 43 (wu (cs:=(xL<|nth o 0)) zh U U<|g5 .h3<|vt (enc:=xL) (l:=o) (i:=0) (sz:=2) (fun _=>U) ad.1 ad.2)<|Lo U U (xz zX U U U .here U U U)<|Q1n U<|WC.ret ?_
    obtain rfl:=oJ h
    exact WX.sp .h4 results127 (.agg U zh U (xy .h1)<|.tmp U .nil)<|fun w hw=>⟨wV U U,hw.sub .nil⟩
def fI(b:List (List z6))(a:yl):Option (z1×Int):=
 (g9 b a b a ([a.fL]:List z1)).bind fun c=>some (c.1,c.2)
theorem dA(Z:Zp)(c:Option Addr)(d:Nat)(b:List (List z6))(a:yl)(r:z1×Int)(h:fI b a=some r)(w₀:World)(hz:PZ [] w₀ Z)(e:ZS Z 1 (j9 Z) c d b):
  RC 82 #[vs c b.length d,.agg #[vi a.fR.fN,vi a.fR.fD,vi a.fL.fN,vi a.fL.fD]] w₀ (.tuple #[.agg #[vi r.1.fN,vi r.1.fD],vi r.2]) [] []:=by
 unfold fI at h
 refine L3 func82 ntmps82 ?_
 let C:Value:=(vs c b.length d);refine B0q<|Lg 2 (xO (cs:=[C]) U U) ?_
 intro f _
 refine Lg 3 (xO (cs:=[vi a.fR.fN,vi a.fR.fD,vi a.fL.fN,vi a.fL.fD]) U U) fun g _=>Lg 4 (xG (cs:=[vi 0,vi 0]) z1y U) fun k _=>Q1n U<|B0q<|Le 7 (xl zj9 U<|xt .h2 U)<|Le 8 (xw ztl U (xy .h1) U)<|Le 9 (xk pJ U U)<|Le 10 (wu (cs:=[vi a.fL.fN,vi a.fL.fD]) zh U U<|g7 (s:=2) .h1 U)<|Lg 11 (xU (cs:=([a.fL]:List z1).flatMap xL) z3L (Lq (l:=[.tmp 10]) (.cons U .nil) [0]) (fun _=>by kernel_rfl) U (by unfold maxLen;omega)) ?_
 intro j _
 let A:Value:=(vs (some ⟨j,0,none⟩) (([a.fL]:List z1).length) 1);refine Le 12 (w3 (v:=(.agg #[C,vi a.fR.fN,vi a.fR.fD,vi a.fL.fN,vi a.fL.fD,.nilFunc,A])) (Lq (l:=[.tmp 7,.tmp 8,.tmp 11]) (.r3 U U U) [0,1,3]) (fun _=>by kernel_rfl))<|Lg 6 (xG (cs:=[vn,vi 0,vi 0,vi 0,vi 0,.nilFunc,vn]) zMq U) ?_
 intro m _
 refine Lo U U (xz zMr U U U .here U U U)<|Q0n<|B0q<|Le 13 (wC<|L8 (l:=[.tmp 2,.tmp 3])<|.r2 U U)<|Le 14 (xk cM U U)<|Lo U U (jF (ds:=[C,vi a.fR.fN,vi a.fR.fD,vi a.fL.fN,vi a.fL.fD,.func (.func 128) #[] #[vp f,vp g],A]) zMs U U U U U .here U U)<|Q0n<|WC.b<|bK h fun n i h=>Ld<|Le 15 (xw zoc U (xy .here) U)<|Lp 16 (zb call127<|.cons U .nil) .nil (sc hz .nil (.s3 .h4 .h3 .h1) fun w pz ho la=>iv _ _ _ _ _ _ _ _ _ _ _ _ _ _ _ i w pz ((e.mono<|zl).weak (fun _ _ h=>ka zl h)) ((e.mono<|zl).weak (fun _ _ h=>ka zl h)) ((la _ (.head _) _).stb) ((la _ (.tail _<|.head _) _).stb)<|ZA.row (la _ (.tail _<|.tail _<|.head _) _) (RR.flat (enc:=xL) (fun _=>U) _) ⟨w,pz.1⟩)<|Q2q U<|Lo U U (xz zX U U U .h2 U U U)<|Q1n U<|WC.ret ?_
 obtain rfl:=oJ h
 exact Li results82 (.agg U zh U (xy .here)<|.tmp U .nil)<|fun w hw=>⟨wV U U,hw.sub .nil⟩
def vS(b:z1×Int)(c:z1×Int)(e:Int->Option (ye×Int×(List (yh×z1))×(List (z7×Int)))):Nat->Int->Int->Option (ye×Int×(List (yh×z1))×(List (z7×Int)))
 | 0,_,_=>none
 | h+1,a,d=>if decide (a<(([b.2,c.2]:List Int).length:Int)) then vk (fun(i:Int)=>vS b c e h (i64 (a+1)) i) fun f=>chk (0<=a/\a<(([b.2,c.2]:List Int).length:Int)) (vk (fun(j:Int)=>if decide (d=0) then f j else f d) fun g=>if decide ((nth ([b.2,c.2]:List Int) a)=6) then g 352 else g (nth ([b.2,c.2]:List Int) a)) else e d
def mu(b:zi)(k:List (List za))(l:List (yh×z1))(d:List (z7×Int))(m:Int)(a:z7):Option (ye×Int×(List (yh×z1))×(List (z7×Int))):=
 (ff b k l d m a).bind fun c=>tZ (fun(e:List (List z6)) (n:Int)=>chk (0<=a.fQ/\a.fQ<b.fK.length) ((qU n).bind fun f=>(mJ e (⟨(⟨1,(nth b.fK a.fQ).yj⟩:z1),f⟩:yl)).bind fun g=>(fI e (⟨(⟨1,(nth b.fK a.fQ).yj⟩:z1),f⟩:yl)).bind fun h=>vk (fun(o:Int)=>(qj g.1).bind fun i=>(qj h.1).bind fun p=>some (({a with yf:=(xx (xT d a i) a 0),fT:=i64 (p+c.2.1)}:ye),o,c.2.2.2,xT d a i)) fun q=>vS g h q xC 0 c.2.2.1)) fun j=>if decide ((i64 (a.ya-(b.fM.length:Int)))>=0) then chk (0<=(i64 (a.ya-(b.fM.length:Int)))/\(i64 (a.ya-(b.fM.length:Int)))<b.fS.length) (j c.1 ((nth b.fS (i64 (a.ya-(b.fM.length:Int)))).yf)) else j c.1 0
theorem eR(Z:Zp)(d:Nat)(S:Option Addr)(T:Nat)(V:Option Addr)(W:Nat)(X:Option Addr)(Y:Nat)(aa:Option Addr)(ab:Nat)(ad:Option Addr)(ae:Nat)(af:Option Addr)(ag:Nat)(ah:Option Addr)(ai:Nat)(aj:Option Addr)(ak:Nat)(al:Option Addr)(am:Nat)(b:Nat)(c:Nat)(a:zi)(B:List (List za))(ar:List (yh×z1))(o:List (z7×Int))(au:Int)(f:z7)(r:ye×Int×(List (yh×z1))×(List (z7×Int)))(h:mu a B ar o au f=some r)(w₀:World)(hz:Pz [stb d 119 [vs S a.fM.length T,vs V a.yc.length W,vs X a.fS.length Y,vs aa a.fK.length ab,vs ad a.yd.length ae,vs af a.fH.length ag,vs ah a.fU.length ai,vs aj a.yb.length ak,vs al B.length am,.map (some b),.map (some c),vi au],xB b (ga qY) (ga xL) ar,xB c (ga xP) vI o] w₀ Z)(aG:ZS Z 4 (vU Z) S T a.fM)(aH:ZS Z 4 (qr Z) V W a.yc)(aw:ZS Z 4 (rq jm) X Y a.fS)(ax:ZS Z 4 (rq qm) aa ab a.fK)(aI:ZS Z 7 (qK Z) ad ae a.yd)(aJ:ZS Z 5 (rq qI) af ag a.fH)(aK:ZS Z 3 (qs Z) ah ai a.fU)(aL:ZS Z 4 (rq qJ) aj ak a.yb)(aM:ZS Z 1 (qt Z) al am B)(iq:Ho w₀ [stb d 119 [vs S a.fM.length T,vs V a.yc.length W,vs X a.fS.length Y,vs aa a.fK.length ab,vs ad a.yd.length ae,vs af a.fH.length ag,vs ah a.fU.length ai,vs aj a.yb.length ak,vs al B.length am,.map (some b),.map (some c),vi au],xB b (ga qY) (ga xL) ar,xB c (ga xP) vI o]):
  RF 43 #[vp d,.agg #[vi f.ya,vi f.fQ]] w₀ (.agg #[vi r.1.ya,vi r.1.fQ,vi r.1.yf,vi r.1.fT]) [stb d 119 [vs S a.fM.length T,vs V a.yc.length W,vs X a.fS.length Y,vs aa a.fK.length ab,vs ad a.yd.length ae,vs af a.fH.length ag,vs ah a.fU.length ai,vs aj a.yb.length ak,vs al B.length am,.map (some b),.map (some c),vi au],xB b (ga qY) (ga xL) ar,xB c (ga xP) vI o] [stb d 119 [vs S a.fM.length T,vs V a.yc.length W,vs X a.fS.length Y,vs aa a.fK.length ab,vs ad a.yd.length ae,vs af a.fH.length ag,vs ah a.fU.length ai,vs aj a.yb.length ak,vs al B.length am,.map (some b),.map (some c),vi r.2.1],xB b (ga qY) (ga xL) r.2.2.1,xB c (ga xP) vI r.2.2.2]:=by
 unfold mu at h
 refine Mf func43 ntmps43 iq ?_
 let M:List Value:=[vi f.ya,vi f.fQ];refine WC.pool<|B0q<|Lg 3 (xO (cs:=M) U U) ?_
 intro p _
 let C:List Value:=[vi 0,vi 0,vi 0,vi 0];refine Lg 4 (xG (cs:=C) zf7 U) ?_
 intro q _
 refine Q0n<|WC.b<|bK h fun e aN h=>D1q U<|Le 18 (xw z7b U (xy .h1) U)<|WL.rC (dd:=19) U U U (zb call79<|.r2 U U) (.s3 .h3 .h3 .h3) (jH hz (.s3 .h3 .h3 .h3) .h2 fun w pz ho=>bX _ _ _ _ _ _ _ _ _ _ _ _ _ _ _ _ _ _ _ _ _ _ _ _ _ _ _ _ _ aN w pz ((aG.mono<|zl).weak (fun _ _ h=>wg zl h)) ((aH.mono<|zl).weak (fun _ _ h=>wp zl h)) (aw.mono<|zl) (ax.mono<|zl) ((aI.mono<|zl).weak (fun _ _ h=>wi zl h)) (aJ.mono<|zl) ((aK.mono<|zl).weak (fun _ _ h=>wq zl h)) (aL.mono<|zl) ((aM.mono<|zl).weak (fun _ _ h=>wv zl h)) ho) ?_
 rintro t ay az aA aB
 refine WL.merge .here .h6<|Q5n U<|B1n U ?_
 obtain⟨a5,aO,h⟩:=jE h
 let D:Value:=(vs S a.fM.length T);let E:Value:=(vs V a.yc.length W);let F:Value:=(vs X a.fS.length Y);let G:Value:=(vs aa a.fK.length ab);let H:Value:=(vs ad a.yd.length ae);let I:Value:=(vs af a.fH.length ag);let J:Value:=(vs ah a.fU.length ai);let K:Value:=(vs aj a.yb.length ak);let L:Value:=(vs al B.length am);refine Md (fun(u:List (List z6)) (an:Int) (ap:List Value)=>(a5 u an=some r)/\(RR 1 (j9 (Z++([]++t))) ap u)) (fun u an ap=>[(0,vp d),(3,vp p),(4,vp q),(5,vs ay u.length az),(6,vi e.2.1),(7,vi an)]) (fun u an ap=>[fz ([]++t),row (vs ay u.length az) 227 1 ap,stb d 119 [D,E,F,G,H,I,J,K,L,(.map<|some b),(.map<|some c),vi e.2.2.1],stb p 121 M,stb q 37 C,xB b (ga qY) (ga xL) e.2.2.2,xB c (ga xP) vI o]) ?_ ?_
 ·refine WC.b<|Lz nc [] U<|Lf 0 22 U (xk pH U U)<|Lh 1 23 U (xl xu U<|xt .h6 U)<|Lf 2 24 U (q_m U)<|Lf 3 25 U (wG U)<|Lf 4 26 U (xk uz U U)<|Lf 5 27 U (xk jB U U)<|Lh 6 28 U (xl z4F U<|xt .h2 U)<|Lf 7 29 U (xK underlying22 U)<|Lf 8 30 U (tj U U U)<|Lf 9 8 U (q_z U)<|WD.done (by kernel_rfl)<|Lb<|B2n U<|Lk U h (fun aP h=>?_)<|fun aP h=>?_
  ·refine cK h fun aQ h=>D1q U<|Le 34 (wG U)<|Le 35 (xk uz U U)<|Le 36 (xk uL U U)<|Le 37 (xl zbS U<|xt .h2 U)<|La U<|L0 (dd:=39) U U (Z:=(Z++([]++t))) (Pr:=(rq jm)) zj7 U U (aw.mono<|zl.trans (zl.trans (xm.xX _ _ _))) aQ ?_
   rintro bb bc aR bd rfl
   exact Le 40 (xk pG U U)<|Le 41 (xl xu U<|xM (hz.pv2 .here) aR U)<|La U<|WL.nil<|Ln ⟨e.1,(nth a.fS<|i64 (f.ya-(a.fM.length:Int))).yf,aA⟩ ⟨h,(aB.weak<|fun _ _ h=>ka (xm.xX _ _ _) h)⟩ (.q U)<|.s7 .here .here .here .h3 .h2 .here .here
  ·exact WC.skip<|Ln ⟨e.1,0,aA⟩ ⟨h,(aB.weak<|fun _ _ h=>ka (xm.xX _ _ _) h)⟩ (.q U)<|.s7 .here .here .here .h3 .h2 .here .here
 ·rintro u an ap ⟨h,aC⟩
  replace h:=(aO u an).symm.trans h
  refine WC.b<|cK h fun aS h=>bK h fun aD aT h=>Lz (fun i=>[15].contains i) [] U<|Lf 0 42 U (q_m U)<|Lf 1 43 U (wG U)<|Lf 2 44 U (xk uz U U)<|Lf 3 45 U (xk jQ U U)<|Lh 4 46 U (xl z5E U<|xt .h2 U)<|Lf 5 47 U (xk ld U U)<|Lh 6 48 U (xl xu U<|xt .h3 U)<|L2 (j:=7) (dd:=49) (by kernel_rfl) U zO zP U U (Z:=(Z++([]++t))) (Pr:=(rq qm)) z7V U U (ax.mono<|zl.trans (zl.trans (xm.xX _ _ _))) aS ?_
  rintro be bf aU bg rfl
  let Q:Value:=(vi ((nth a.fK f.fQ).yj));refine Lf 8 50 U (xk mz U U)<|Lh 9 51 U (xl xu U<|xM (hz.pv2 .here) aU U)<|Lf 10 52 U (w3 (v:=(.agg #[vi 1,Q])) (Lq (l:=[.const (vi 1),.tmp 51]) (.r2 U U) [0,1]) (fun _=>by kernel_rfl))<|Lf 11 53 U (q_m U)<|L5 12 54 U (zb call80<|.cons U .nil) (jH hz .nil .here fun w pz ho=>mn _ _ _ aT w pz )<|Lf 13 55 U (w3 (v:=(.agg #[vi 1,Q,vi aD.fN,vi aD.fD])) (Lq (l:=[.tmp 52,.tmp 54]) (.r2 U U) [0,1]) (fun _=>by kernel_rfl))<|WD.new (i:=14) (dd:=9) U (by kernel_rfl) U U U (xG (cs:=C) zWs U) (fun h'=>absurd h' (by decide)) ?_
  intro bh _
  refine WD.jD (i:=15) U (by kernel_rfl) U U U (by kernel_rfl) (xz zWt U U U .here U U U)<|WD.done (by kernel_rfl)<|Lb<|WC.b<|bK h fun g aV h=>D1q U<|Le 58 (xw ztl U (xy .here) U)<|Lp 59 (zb call81<|.r2 U U) .nil (py hz .nil .h1 (.cons .h2 .nil) fun w pz ho la=>nB _ _ _ _ _ _ aV w pz<|ZA.row (la _ (.head _) _) (aC.weak<|fun _ _ h=>ka zl h) ⟨w,pz.1⟩)<|Q2q U<|La U (Lg 10 (xG (cs:=[vi 0,vi 0]) z1y U) fun x _=>Lo U U (xz zX U U U .here U U U)<|Q1n U<|WC.b ?_)
  refine bK h fun m aW h=>D1q U<|Le 64 (xw ztl U (xy .h1) U)<|Lp 65 (zb call82<|.r2 U U) .nil (py hz .nil .h2 (.cons .h3 .nil) fun w pz ho la=>dA _ _ _ _ _ _ aW w pz<|ZA.row (la _ (.head _) _) (aC.weak<|fun _ _ h=>ka zl h) ⟨w,pz.1⟩)<|Q2q U<|La U (Lg 12 (xG (cs:=[vi 0,vi 0]) z1y U) fun y _=>Lo U U (xz zX U U U .here U U U)<|Q1n U ?_)
  obtain⟨aE,aX,h⟩:=xS h
  let O:List Value:=[vi g.1.fN,vi g.1.fD];let P:List Value:=[vi m.1.fN,vi m.1.fD];refine Ma (fun(ao:Int)=>(aE ao=some r)) (fun ao=>[(0,vp d),(3,vp p),(4,vp q),(6,vi e.2.1),(10,vp x),(12,vp y)]) (fun ao=>[fz ([]++t),stb d 119 [D,E,F,G,H,I,J,K,L,(.map<|some b),(.map<|some c),vi ao],stb p 121 M,stb q 37 C,stb x 175 O,stb y 175 P,xB b (ga qY) (ga xL) e.2.2.2,xB c (ga xP) vI o]) ?_ ?_
  ·refine B2q U<|Lg 70 (xU (cs:=([g.2,m.2]:List Int).flatMap e41) zMz (Lq (l:=[.tmp 68,.tmp 69]) (.r2 U U) [0,1]) (fun _=>by kernel_rfl) U (by unfold maxLen;omega)) ?_
   intro a6 _
   let A:Value:=(vs (some ⟨a6,0,none⟩) (([g.2,m.2]:List Int).length) 2);let N:Value:=(vi (([g.2,m.2]:List Int).length:Int));refine Le 71 (xK underlying181 U)<|Q1n U<|WC.block<|WC.sk (fun(aq:Nat) (n:Int) (s:Int)=>(vS g m aE aq n s=some r)) (fun aq n s=>[(0,vp d),(3,vp p),(4,vp q),(6,vi e.2.1),(10,vp x),(12,vp y),(70,A),(71,N),(72,vi n)]) (fun aq n s=>[fz ([]++t),row A 41 1 (([g.2,m.2]:List Int).flatMap e41),stb d 119 [D,E,F,G,H,I,J,K,L,(.map<|some b),(.map<|some c),vi s],stb p 121 M,stb q 37 C,stb x 175 O,stb y 175 P,xB b (ga qY) (ga xL) e.2.2.2,xB c (ga xP) vI o]) (fun aq n s=>aq) ⟨xC,0,e.2.2.1⟩ h (.q U) (.s9 .h4 .here .h4 .h4 .h4 .h1 .here .h2 .h2) ?_
   rintro(_|a7) n s h;·cases h
   rw[vS] at h
   refine B1n U<|WC.b<|Lk U h (fun aY h=>?_)<|fun aY h=>?_
   ·refine WC.skip<|Lb<|jK1 h fun a8 aZ h=>Ma (fun(R:Int)=>(a8 R=some r)) (fun R=>[(0,vp d),(3,vp p),(4,vp q),(6,vi e.2.1),(10,vp x),(12,vp y),(70,A),(71,N),(72,vi n)]) (fun R=>[fz ([]++t),row A 41 1 (([g.2,m.2]:List Int).flatMap e41),stb d 119 [D,E,F,G,H,I,J,K,L,(.map<|some b),(.map<|some c),vi R],stb p 121 M,stb q 37 C,stb x 175 O,stb y 175 P,xB b (ga qY) (ga xL) e.2.2.2,xB c (ga xP) vI o]) ?_ ?_
    ·refine WC.block<|WC.b<|cK h fun av h=>Ld<|Le 74 (w7 zMz U U av.1 av.2 vN)<|Le 75 (xl z6z U<|gq .h1<|(vt (enc:=e41) (l:=([g.2,m.2]:List Int)) (i:=n) (sz:=1) (fun _=>U) av.1 av.2) 0 _ U)<|Q1n U<|jK1 h fun a9 a0 h=>Ma (fun(z:Int)=>(a9 z=some r)) (fun z=>[(0,vp d),(3,vp p),(4,vp q),(6,vi e.2.1),(10,vp x),(12,vp y),(15,vi z),(70,A),(71,N),(72,vi n)]) (fun z=>[fz ([]++t),row A 41 1 (([g.2,m.2]:List Int).flatMap e41),stb d 119 [D,E,F,G,H,I,J,K,L,(.map<|some b),(.map<|some c),vi s],stb p 121 M,stb q 37 C,stb x 175 O,stb y 175 P,xB b (ga qY) (ga xL) e.2.2.2,xB c (ga xP) vI o]) ?_ ?_
     ·refine B2n U<|Lk U h (fun a1 h=>?_)<|fun a1 h=>?_
      ·exact D1q U<|WL.nil<|Ln 352 h (.q U)<|.a9
      ·exact WC.skip<|Ln (nth ([g.2,m.2]:List Int) n) h (.q U)<|.a9
     ·rintro z h
      replace h:=(a0 z).symm.trans h
      refine B1q U<|Le 79 (wG U)<|Le 80 (xk pI U U)<|Le 81 (xl z6z U<|xt .h2 U)<|Q1n U<|Lk U h (fun a2 h=>?_)<|fun a2 h=>?_
      ·exact D2q U<|Le 85 (wG U)<|Le 86 (xk pI U U)<|Lo U U (jF (ds:=[D,E,F,G,H,I,J,K,L,(.map<|some b),(.map<|some c),vi z]) ztk U U U U U .h2 U U)<|WL.nil<|Lt<|Ln z h (.q U)<|.s9 .h1 .h1 .here .here .here .here .here .here .here
      ·exact WC.skip<|Lt<|Ln s h (.q U)<|.a9
    ·rintro R h
     replace h:=(aZ R).symm.trans h
     exact D2q U<|WL.nil<|WX.round ⟨a7,i64 (n+1),R⟩ h (Nat.lt_succ_self _) (.q U)<|.a9
   ·exact WC.exit<|Lm<|Lm<|Lv<|Ln s h (.q U)<|.s8 .here .h1 .h1 .h1 .h1 .h1 .h1 .h1
  ·rintro ao h
   replace h:=(aX ao).symm.trans h
   refine WC.b<|bK h fun aF a3 h=>Lz (fun i=>[7].contains i) [] U<|Lf 0 88 U (q_m U)<|Lf 1 89 U (wG U)<|Lf 2 90 U (xk ny U U)<|Lh 3 91 U (xl zti U<|xt .h1 U)<|Lh 4 92 U (xw z7b U (xy .h2) U)<|Lh 5 93 U (xw zh U (xy .h4) U)<|L5 6 94 U (zb call83<|.cons U .nil) (jH hz .nil .here fun w pz ho=>rj _ _ _ a3 w pz )<|WD.jD (i:=7) U (by kernel_rfl) U U U (by kernel_rfl) (kw (k:=f) (v:=aF) zj8 underlying117 U U U U .h7)<|WD.done (by kernel_rfl)<|Lb<|WC.b<|bK h fun ba a4 h=>Lz (fun i=>[15].contains i) [] U<|Lf 0 95 U (xk pH U U)<|Lh 1 96 U (xl xu U<|xt .h3 U)<|Lf 2 97 U (xk ld U U)<|Lh 3 98 U (xl xu U<|xt .h3 U)<|Lf 4 99 U (q_m U)<|Lf 5 100 U (wG U)<|Lf 6 101 U (xk ny U U)<|Lh 7 102 U (xl zti U<|xt .h2 U)<|Lh 8 103 U (xw z7b U (xy .h3) U)<|Lh 9 104 U (j8 (k:=f) (dflt:=(0:Int)) zj8 underlying117 qS U U U .here)<|Lh 10 105 U (xw zh U (xy .h6) U)<|L5 11 106 U (zb call83<|.cons U .nil) (jH hz .nil .h1 fun w pz ho=>rj _ _ _ a4 w pz )<|Lf 12 107 U (q_m U)<|Lf 13 108 U (tY U U U)<|Lf 14 109 U (w3 (v:=(.agg #[vi f.ya,vi f.fQ,(vi<|xx (xT o f aF) f 0),(vi<|i64 (ba+e.2.1))])) (Lq (l:=[.tmp 96,.tmp 98,.tmp 104,.tmp 108]) (.r4 U U U U) [0,1,2,3]) (fun _=>by kernel_rfl))<|WD.jD (i:=15) U (by kernel_rfl) U U U (by kernel_rfl) (xz zaT U U U .h4 U U U)<|WD.done (by kernel_rfl)<|Lb<|WC.ret ?_
   obtain rfl:=oJ h
   exact Li results43 (.agg U z5F U (xy .here) .nil)<|fun w hw=>⟨xJ U,hw.sub (.s3 .h3 .h6 .h1)⟩
def qc(a:ye)(b:ye):Option Int:=
 (vc (⟨a.ya,a.fQ⟩:z7) (⟨b.ya,b.fQ⟩:z7)).bind fun c=>some c
theorem eS(Z:Zp)(a:ye)(b:ye)(r:Int)(h:qc a b=some r)(w₀:World)(hz:PZ [] w₀ Z):
  RC 44 #[.agg #[vi a.ya,vi a.fQ,vi a.yf,vi a.fT],.agg #[vi b.ya,vi b.fQ,vi b.yf,vi b.fT]] w₀ (vi r) [] []:=by
 unfold qc at h
 refine L3 func44 ntmps44 ?_
 refine WC.b<|Ld (Lg 2 (xO (cs:=[vi a.ya,vi a.fQ,vi a.yf,vi a.fT]) U U) fun d _=>Lg 3 (xO (cs:=[vi b.ya,vi b.fQ,vi b.yf,vi b.fT]) U U) fun e _=>Q1n U<|WC.b ?_)
 refine bK h fun f c h=>Ld<|Le 5 (xk gt U U)<|Le 6 (xl xu U<|xt .h1 U)<|Le 7 (xk mb U U)<|Le 8 (xl xu U<|xt .h1 U)<|Le 9 (w3 (v:=(.agg #[vi a.ya,vi a.fQ])) (Lq (l:=[.tmp 6,.tmp 8]) (.r2 U U) [0,1]) (fun _=>by kernel_rfl))<|Le 10 (xk gt U U)<|Le 11 (xl xu U<|xt .here U)<|Le 12 (xk mb U U)<|Le 13 (xl xu U<|xt .here U)<|Le 14 (w3 (v:=(.agg #[vi b.ya,vi b.fQ])) (Lq (l:=[.tmp 11,.tmp 13]) (.r2 U U) [0,1]) (fun _=>by kernel_rfl))<|Lp 15 (zb call45<|.r2 U U) .nil (cc hz .nil fun w pz ho=>rU _ _ _ _ c w pz )<|Q1n U<|WC.ret ?_
 obtain rfl:=oJ h
 exact Li results44 (.tmp U .nil)<|fun w hw=>⟨xJ U,hw.sub .nil⟩
theorem z19E:∀ w,(isAgg (Tryz.kF.t 24)).run Tryz.prog w = .ok true w:=fun _=>by kernel_rfl
theorem z19F:∀ w,(Go.sizeOf (Tryz.kF.t 24)).run Tryz.prog w = .ok 4 w:=fun _=>by kernel_rfl
def qN(z7I:List ye)(zvy:Int)(zvz:Int)(zqB:Int)(znl:ye->ye->Option Int):Option (List ye):=chk ((zvy=0/\zvz=(z7I.length:Int))/\(0<=zqB/\zqB<4611686018427387904/\z7I.length<4611686018427387904)) (chk (ry znl (w6 znl z7I)=true) (some (w6 znl z7I)))
theorem sh(Z:Zp)(znm:Option Addr)(znn:Nat)(zvA:FuncId)(zHo:List Value)(z7I:List ye)(zvy:Int)(zvz:Int)(zqB:Int)(znl:ye->ye->Option Int)(r:List ye)(w₀:World)(hz:Pz [row (vs znm z7I.length znn) 37 4 (z7I.flatMap xY)] w₀ Z)(a:∀ args w,(callFunc zvA args).run Tryz.prog w = .ok (.enter zvA args) w)(b:∀ w:World,PZ [] w Z->∀(x0:ye) (x1:ye) (r:Int),znl x0 x1=some r->Calls Tryz.prog zvA (([.agg #[vi x0.ya,vi x0.fQ,vi x0.yf,vi x0.fT],.agg #[vi x1.ya,vi x1.fQ,vi x1.yf,vi x1.fT]]:List Value)++zHo).toArray w fun e w'=>e = .returned (vi r)/\Hp [] w w' [])(h:qN z7I zvy zvz zqB znl=some r)(iq:Ho w₀ [row (vs znm z7I.length znn) 37 4 (z7I.flatMap xY)]):
  Calls Tryz.prog 56 #[vs znm z7I.length znn,vi zvy,vi zvz,vi zqB,.func (.func zvA) #[] (zHo).toArray] w₀ fun e w'=>e = .returned (.tuple #[])/\(r.length=z7I.length)/\Hp (fps [row (vs znm z7I.length znn) 37 4 (z7I.flatMap xY)]) w₀ w' [row (vs znm r.length znn) 37 4 (r.flatMap xY)]:=by
 obtain⟨h0,h⟩:=xq h
 obtain⟨h1,h⟩:=xq h
 have hr:=(oJ h).symm
 exact pW (P:=Tryz.prog) (f:=56) (e:=37) (k:=4) (enc:=xY) (fun _=>U) (by decide) tE (fun β _ enc cf g cb hO w5 off cap d0 w0 eg hC R=>Tryz.pX 4 z19E z19F enc cf g cb hO w5 off cap d0 w0 eg hC R) (Tryz.pF (α:=Unit)) hz a b h0 h1 hr iq
def wc(a:List ye)(zno:ye->ye->Option Int):Option (List ye):=
 (gb (u64 (a.length:Int))).bind fun b=>(qN a 0 (a.length:Int) b zno).bind fun c=>some c
theorem kX(Z:Zp)(b:Option Addr)(c:Nat)(znp:FuncId)(zvB:List Value)(a:List ye)(zno:ye->ye->Option Int)(r:List ye)(h:wc a zno=some r)(w₀:World)(hz:Pz [row (vs b a.length c) 37 4 (a.flatMap xY)] w₀ Z)(j:∀ args w,(callFunc znp args).run Tryz.prog w = .ok (.enter znp args) w)(k:∀ w:World,PZ [] w Z->∀(x0:ye) (x1:ye) (r:Int),zno x0 x1=some r->Calls Tryz.prog znp (([.agg #[vi x0.ya,vi x0.fQ,vi x0.yf,vi x0.fT],.agg #[vi x1.ya,vi x1.fQ,vi x1.yf,vi x1.fT]]:List Value)++zvB).toArray w fun e w'=>e = .returned (vi r)/\Hp [] w w' [])(iq:Ho w₀ [row (vs b a.length c) 37 4 (a.flatMap xY)]):
  Calls Tryz.prog 26 #[vs b a.length c,.func (.func znp) #[] (zvB).toArray] w₀ fun e w'=>e = .returned (.tuple #[])/\(r.length=a.length)/\Hp (fps [row (vs b a.length c) 37 4 (a.flatMap xY)]) w₀ w' [row (vs b r.length c) 37 4 (r.flatMap xY)]:=by
 unfold wc at h
 refine Mf func26 ntmps26 iq ?_
 refine B1q U<|Le 6 (xK underlying33 U)<|Q1n U<|bK h fun d l h=>bK h fun f m h=>D3q U<|Le 10 (rN underlying3 underlying147 U U)<|Lp 11 (zb call57<|.cons U .nil) .nil (cc hz .nil fun w pz ho=>rV (Z:=_)  (zaY:=(u64 (a.length:Int))) (r:=d) w pz  l)<|La U<|WL.fy (dd:=13) U U U (zb call56<|.r5 U U U U U) (.cons .here .nil) (cc hz (.cons .here .nil) fun w pz ho=>sh (Z:=_) (znm:=b) (znn:=c) (zvA:=znp) (zHo:=zvB) (z7I:=a) (zvy:=0) (zvz:=(a.length:Int)) (zqB:=d) (znl:=zno) (r:=f) w pz j k m ho) ?_
 rintro  g
 refine Mh (i:=0) U (u:=(vs b f.length c)) (px g.symm)<|WL.nil ?_
 obtain rfl:=oJ h
 exact WX.my results26 .nil<|fun w hw=>⟨pp,g.trans U,hw.sub (.cons .here .nil)⟩
def kY(a:List za)(c:Option Bool):Nat->Int->Option Bool
 | 0,_=>none
 | e+1,b=>if decide (b<a.length) then chk (0<=b/\b<a.length) (chk ((0:Int)<=0/\(0:Int)<=b/\b<=a.length) ((mE (a.take (b:Int).toNat) ((nth a b).ya)).bind fun d=>chk ((!d.2)=true->((0:Int)<=0/\0<(a.length:Int))) (if (!d.2)&&(decide (((nth a b).ya)≠((nth a 0).ya))) then some false else kY a c e (i64 (b+1))))) else c
def sB(a:List za):Option Bool:=
 g8 (some true) fun b=>kY a b xC 0
theorem XR(Z:Zp)(f:Option Addr)(g:Nat)(b:List za)(r:Bool)(h:sB b=some r)(w₀:World)(hz:PZ [] w₀ Z)(k:ZS Z 3 (rq vw) f g b):
  RC 59 #[vs f b.length g] w₀ (.bool r) [] []:=by
 unfold sB at h
 refine L9 func59 ntmps59 ?_
 refine B1n U<|jK0 h fun m p h=>L7 (m=some r) ([]) ([]) ?_ ?_
 ·let A:Value:=(vs f b.length g);let D:Value:=(vi (b.length:Int));refine B1q U<|Le 8 (xK underlying58 U)<|Q1n U<|WC.block<|L6 (fun(d:Nat) (a:Int)=>(kY b m d a=some r)) (fun d a=>[(0,A),(7,A),(8,D),(9,vi a)]) (fun d a=>[]) (fun d a=>d) ⟨xC,0⟩ h (.q U) .nil ?_
  rintro(_|J) a h;·cases h
  rw[kY] at h
  refine B1n U<|WC.b<|Lk U h (fun q h=>?_)<|fun q h=>?_
  ·refine WC.skip<|Lb<|WC.b<|WC.block<|WC.b<|cK h fun s h=>D1q U<|L0 (dd:=12) U U (Z:=Z) (Pr:=(rq vw)) z1v U U k s ?_
   rintro t K u L rfl
   refine Le 13 (xw z5b U (vQ hz.pv u) U) (Lg 4 (xG (cs:=[vi 0,vi 0,vi 0]) zaS U) fun n _=>La U<|Lo U U (xz za4 U U U .here U U U)<|Q0n<|WC.b ?_)
   refine cK h fun v h=>bK h fun c x h=>Lz (fun i=>[10].contains i) [] U<|Lf 0 15 U (q_m U)<|Lf 1 16 U (q_m U)<|WD.zsub (j:=2) (dd:=17) (by kernel_rfl) U zO zP U U (Z:=Z) (Pr:=(rq vw)) z1v U k (fun _=>ixn) (fun _=>ixo U) U U v (List.drop_zero).symm ?_
   rintro y z B
   refine Lf 3 18 U (xk ww U U)<|Lh 4 19 U (xl xu U<|xt .here U)<|L5 5 20 U (zb call77<|.r2 U U) (cc hz .nil fun w pz ho=>li _ _ _ _ _ _ x w pz B)<|Lf 6 14 U (q_m U)<|Lf 7 21 U (te U U)<|Lf 8 22 U (te U U) (WD.new (i:=9) (dd:=5) U (by kernel_rfl) U U U (xG (cs:=[vi 0,vi 0,vi 0]) zaS U) (fun h'=>absurd h' (by decide)) fun E _=>WD.forced0 (i:=10) U (by kernel_rfl) U U U (wB.of .nil) (xz za4 U U U .here U U U)<|Lf 11 6 U (q_z U)<|WD.done (by kernel_rfl)<|Lb<|WC.b ?_)
   obtain⟨F,h⟩:=xq h
   let C:Value:=(.agg #[vi c.1.ya,vi c.1.fX,vi c.1.fQ]);refine Lz nc [] U<|Lf 0 23 U (q_m U)<|Lf 1 24 U (cz U)<|Lf 2 25 U (q_m U)<|Mc (fuel':=0) [(0,A),(7,A),(8,D),(9,vi a),(10,(.bool<|decide (a<b.length))),(11,vi a),(12,vq t),(13,.agg #[(vi<|(nth b a).ya),(vi<|(nth b a).fX),(vi<|(nth b a).fQ)]),(4,vp n),(3,vi a),(15,A),(16,vi a),(17,vs y ((b.take (a:Int).toNat).length) z),(18,vp n),(19,(vi<|(nth b a).ya)),(20,.tuple #[C,.bool c.2]),(14,.tuple #[C,.bool c.2]),(21,C),(22,.bool c.2),(5,vp E),(6,.bool c.2),(23,.bool c.2),(24,.bool (!c.2)),(25,.bool (!c.2)),(33,(.bool<|(!c.2)&&(decide (((nth b a).ya)≠((nth b 0).ya)))))] (wl 11 (dn 11)) ?_<|fun o=>?_
   rotate_left
   ·rcases Bool.eq_false_or_eq_true (!c.2) with hb' | hb'
    ·have e:=hb';clear hb'
     have G:=F e
     refine L4 (i:=25) U e<|Lf 3 26 U (xk ww U U)<|Lh 4 27 U (xl xu U<|xt .h1 U)<|Lf 5 28 U (q_m U)<|L2 (j:=6) (dd:=29) (by kernel_rfl) U zO zP U U (Z:=Z) (Pr:=(rq vw)) z1v U U k G ?_
     rintro M N H O rfl
     refine Lf 7 30 U (xk ww U U)<|Lh 8 31 U (xl xu U<|xM hz.pv H U)<|Lf 9 32 U (eh U U)<|Lf 10 33 U (qe U U)<|Lw (.a2) ?_ o
     exact .r25 U U U U U U U U U U U U U U U U U U U U U U U (zt<|Eq.symm e)<|zt<|vz e
    ·have l:=hb';clear hb'
     refine L4 (i:=25) U l<|Lj 3 26 U<|Lj 4 27 U<|Lj 5 28 U<|Lj 6 29 U<|Lj 7 30 U<|Lj 8 31 U<|Lj 9 32 U<|Lf 10 33 U (qf U U)<|Lw (.a2) ?_ o
     exact .r25 U U U U U U U U U U U U U U U U U U U U U U U (zt<|Eq.symm l)<|zt<|vy l
   refine WD.done (by kernel_rfl)<|Lb<|Lk U h (fun I h=>?_)<|fun I h=>?_
   ·refine B1n U<|WC.ret<|Lu<|Ll<|Ll<|Lu<|Ll ?_
    obtain rfl:=oJ h
    exact Li results59 (.tmp U .nil)<|fun w hw=>⟨xJ U,hw.sub .nil⟩
   ·exact WC.skip<|Lt<|Lb<|D2q U<|WL.nil<|WX.round ⟨J,i64 (a+1)⟩ h (Nat.lt_succ_self _) (.q U) .nil
  ·exact WC.exit<|Lm<|Lm<|Lv<|Ln () h .nil .nil
 ·rintro  h
  replace h:=p.symm.trans h
  refine B1n U<|WC.ret ?_
  obtain rfl:=oJ h
  exact Li results59 (.tmp U .nil)<|fun w hw=>⟨xJ U,hw.sub .nil⟩
def gA(a:List za):Option Bool:=
 (sB a).bind fun b=>some (!b)
theorem Ye(Z:Zp)(b:Option Addr)(c:Nat)(a:List za)(r:Bool)(h:gA a=some r)(w₀:World)(hz:PZ [] w₀ Z)(d:ZS Z 3 (rq vw) b c a):
  RC 58 #[vs b a.length c] w₀ (.bool r) [] []:=by
 unfold gA at h
 refine L9 func58 ntmps58 ?_
 refine B1n U<|WC.b<|bK h fun f e h=>D1q U<|Lp 4 (zb call59<|.cons U .nil) .nil (cc hz .nil fun w pz ho=>XR _ _ _ _ _ e w pz d)<|Q2n U<|WC.ret ?_
 obtain rfl:=oJ h
 exact Li results58 (.tmp U .nil)<|fun w hw=>⟨xJ U,hw.sub .nil⟩
def vj(a:zf)(b:zf):Option Int:=
 some (i64 (a.ya-b.ya))
theorem Yf(Z:Zp)(a:zf)(b:zf)(r:Int)(h:vj a b=some r)(w₀:World)(hz:PZ [] w₀ Z):
  RC 62 #[.agg #[vi a.yL,vi a.ya,vi a.yf],.agg #[vi b.yL,vi b.ya,vi b.yf]] w₀ (vi r) [] []:=by
 unfold vj at h
 refine L3 func62 ntmps62 ?_
 refine WC.b<|Ld (Lg 2 (xO (cs:=[vi a.yL,vi a.ya,vi a.yf]) U U) fun c _=>Lg 3 (xO (cs:=[vi b.yL,vi b.ya,vi b.yf]) U U) fun d _=>Q1n U<|B0q<|Le 5 (xk Vw U U)<|Le 6 (xl xu U<|xt .h1 U)<|Le 7 (xk Vw U U)<|Le 8 (xl xu U<|xt .here U)<|Q2n U<|WC.ret ?_)
 obtain rfl:=oJ h
 exact Li results62 (.tmp U .nil)<|fun w hw=>⟨xJ U,hw.sub .nil⟩
theorem z1a3:∀ w,(isAgg (Tryz.jW.t 24)).run Tryz.prog w = .ok true w:=fun _=>by kernel_rfl
theorem z1a4:∀ w,(Go.sizeOf (Tryz.jW.t 24)).run Tryz.prog w = .ok 3 w:=fun _=>by kernel_rfl
def gJ(z7J:List zf)(zvD:Int)(zvE:Int)(zqD:Int)(zns:zf->zf->Option Int):Option (List zf):=chk ((zvD=0/\zvE=(z7J.length:Int))/\(0<=zqD/\zqD<4611686018427387904/\z7J.length<4611686018427387904)) (chk (ry zns (w6 zns z7J)=true) (some (w6 zns z7J)))
theorem rK(Z:Zp)(znt:Option Addr)(znu:Nat)(zvF:FuncId)(zHs:List Value)(z7J:List zf)(zvD:Int)(zvE:Int)(zqD:Int)(zns:zf->zf->Option Int)(r:List zf)(w₀:World)(hz:Pz [row (vs znt z7J.length znu) 53 3 (z7J.flatMap jI)] w₀ Z)(a:∀ args w,(callFunc zvF args).run Tryz.prog w = .ok (.enter zvF args) w)(b:∀ w:World,PZ [] w Z->∀(x0:zf) (x1:zf) (r:Int),zns x0 x1=some r->Calls Tryz.prog zvF (([.agg #[vi x0.yL,vi x0.ya,vi x0.yf],.agg #[vi x1.yL,vi x1.ya,vi x1.yf]]:List Value)++zHs).toArray w fun e w'=>e = .returned (vi r)/\Hp [] w w' [])(h:gJ z7J zvD zvE zqD zns=some r)(iq:Ho w₀ [row (vs znt z7J.length znu) 53 3 (z7J.flatMap jI)]):
  Calls Tryz.prog 110 #[vs znt z7J.length znu,vi zvD,vi zvE,vi zqD,.func (.func zvF) #[] (zHs).toArray] w₀ fun e w'=>e = .returned (.tuple #[])/\(r.length=z7J.length)/\Hp (fps [row (vs znt z7J.length znu) 53 3 (z7J.flatMap jI)]) w₀ w' [row (vs znt r.length znu) 53 3 (r.flatMap jI)]:=by
 obtain⟨h0,h⟩:=xq h
 obtain⟨h1,h⟩:=xq h
 have hr:=(oJ h).symm
 exact pW (P:=Tryz.prog) (f:=110) (e:=53) (k:=3) (enc:=jI) (fun _=>U) (by decide) af (fun β _ enc cf g cb hO w5 off cap d0 w0 eg hC R=>Tryz.pB 3 z1a3 z1a4 enc cf g cb hO w5 off cap d0 w0 eg hC R) (Tryz.p7 (α:=Unit)) hz a b h0 h1 hr iq
end Go.Proofs.YthjnhebofpebpaaGreat
