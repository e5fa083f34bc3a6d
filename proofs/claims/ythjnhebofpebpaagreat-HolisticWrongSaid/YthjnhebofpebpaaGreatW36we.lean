/- A part of this claim's proof: models of functions, walks, plain laws. No conditions. -/
import Derived.Test.YthjnhebofpebpaaGreatW36wd
set_option linter.all false
namespace Go.Proofs.YthjnhebofpebpaaGreat
open Go Go.RowKit Sep Tryz
set_option maxRecDepth 30000
set_option maxHeartbeats 4000000
def qT(c:List (List z8))(d:yn)(e:z1)(a:List z1)(f:Int):Option (Bool×(Nat×List z1×Int)):=
 (gm (⟨f⟩:ym) e c d).bind fun b=>(if decide ((a.length:Int)=0) then some true else chk ((0:Int)<=0/\0<(a.length:Int)) ((wS b.1 (⟨(nth a 0).fN,(nth a 0).fD⟩:z1)).bind fun g=>some (decide (g>0)))).bind fun h=>if h then some (true,(0,([b.1]:List z1),b.2.fE)) else some (true,(0,a,b.2.fE))
def kD(d:List (List z8))(j:yn)(a:List (List z8))(b:yn)(e:List z1):Option (z1×Int):=
 (vD d j a b e).bind fun g=>if decide (g≠0) then some ((⟨0,0⟩:z1),g) else si (fun(h:Int) (f:List z1)=>if decide (h≠0) then some ((⟨0,0⟩:z1),h) else chk ((0:Int)<=0/\0<(f.length:Int)) (some ((⟨(nth f 0).fN,(nth f 0).fD⟩:z1),0))) fun k=>(qS d j a b e).bind fun c=>(vb (Nat×List z1×Int) (fun(x:z1) (s:Nat×List z1×Int)=>chk (s.1=0) (qT a b x s.2.1 s.2.2)) (0,([]:List z1),0) d (⟨(⟨c.1,c.2.1⟩:z1),(⟨c.2.2.1,c.2.2.2⟩:z1)⟩:yn) a b e).bind fun i=>k i.2.2 i.2.1
theorem oN(Z:Zp)(ae:Option Addr)(af:Nat)(ag:Addr)(ao:Option Addr)(ap:Nat)(ah:Addr)(ai:Option Addr)(aj:Nat)(V:List (List z8))(j:yn)(T:List (List z8))(t:yn)(W:List z1)(r:z1×Int)(h:kD V j T t W=some r)(w₀:World)(hz:PZ [] w₀ Z)(aq:ZS Z 1 (qB Z) ae af V)(ak:ZS Z 1 (qB Z) ao ap T)(al:ZC Z ag [vs ao T.length ap])(am:ZC Z ah [vi t.ye.fN,vi t.ye.fD,vi t.fL.fN,vi t.fL.fD])(ar:ZS Z 2 (rq xG) ai aj W):
  RC 127 #[.agg #[vs ae V.length af,vi j.ye.fN,vi j.ye.fD,vi j.fL.fN,vi j.fL.fD,.func (.func 122) #[] #[vq ag,vq ah],vs ai W.length aj]] w₀ (.tuple #[.agg #[vi r.1.fN,vi r.1.fD],vi r.2]) [] []:=by
 unfold kD at h
 let F:Value:=(.func (.func 122) #[] #[vq ag,vq ah]);let M:Value:=(vs ae V.length af);let N:Value:=(vs ai W.length aj);let H:Value:=(.agg #[M,vi j.ye.fN,vi j.ye.fD,vi j.fL.fN,vi j.fL.fD,F,N]);refine Calls.sN (vs:=[H]) (pre:=[]) (env:=[(0,H)]) func127 U ntmps127 U (Hp.nil w₀ _) U ?_
 let E:List Value:=[M,vi j.ye.fN,vi j.ye.fD,vi j.fL.fN,vi j.fL.fD,F,N];refine B0q<|Lg 1 (xP (cs:=E) U U) ?_
 intro m _
 refine Lg 2 (xC (cs:=[vi 0,vi 0]) z1d U) fun n _=>Q1n U<|WC.b<|WC.b<|bK h fun aI aJ h=>Ld<|Le 9 (xq zij U (xt .h1) U)<|Lm 10 (zf call163<|.cons U .nil) .nil (cc hz .nil fun w pz ho=>t7 _ _ _ _ _ _ _ _ _ _ _ _ _ _ _ aJ w pz aq ak al am ar)<|Q1n U<|B2n U<|Lj U h (fun aK h=>?_)<|fun aK h=>?_
 ·refine B0q<|Le 13 (xU (v:=(.agg #[vi 0,vi 0])) (Lq (l:=[]) .nil []) (fun _=>by kernel_rfl))<|La U<|Lk U U (xx zI U U U .here U U U)<|Q1n U<|WC.ret<|Ll ?_
  obtain rfl:=oJ h
  exact WX.iD results127 (.agg U zi U (xt .here)<|.tmp U .nil)<|fun w hw=>⟨vg U U,hw.sub .nil⟩
 ·refine WC.skip<|Lb<|WC.b<|Ld (Lg 5 (xC (cs:=[vi 0]) zsV U) fun c _=>Q0n<|WC.b<|Ld (Lg 6 (xC (cs:=[vn]) zsW U) fun k _=>Q0n ?_))
  refine jK2 h fun aL aM h=>WC.b7 (fun(X:Nat) (y:Int) (o:List z1) (Y:Option Addr) (aa:Nat)=>(aL y o=some r)) (fun(X:Nat) (y:Int) (o:List z1) (Y:Option Addr) (aa:Nat)=>[(2,vp n),(5,vp c),(6,vp k)]) (fun(X:Nat) (y:Int) (o:List z1) (Y:Option Addr) (aa:Nat)=>[stb n 175 [vi 0,vi 0],stb c 277 [vi y],stb k 229 [vs Y o.length aa],row (vs Y o.length aa) 175 2 (o.flatMap xG),qL X]) ?_ ?_
  ·refine WC.b<|bK h fun u aN h=>Ld<|Le 15 (xq zij U (xt .h3) U)<|WL.iv (dd:=16) U U U (zf call164<|.cons U .nil) .nil (cc hz .nil fun w pz ho=>uL _ _ _ _ _ _ _ _ _ _ _ _ _ _ _ aN w pz aq ak al am ar) ?_
   rintro a _
   refine Q0n<|WC.block<|WC.drop (.s5 .h1 .h1 .h1 .h1 .here)<|WC.nilRow 175 2<|WC.rangeFunc (f:=201) (caps:=[vp a]) U call201 ?_
   intro a0 a1 p b z an aO aP w hw
   let P:Value:=(vs none (([]:List z1).length) 0);let A:List Asrt:=[stb k 229 [P],row P 175 2 (([]:List z1).flatMap xG),stb c 277 [vi 0],stb n 175 [vi 0,vi 0],stb m 231 E,xR p (z .ready none)];have hw1:=hw.selAll ((.s6 .h3 .h2 .h2 .h2 .h2 .here):Sel _ A _)
   let C:List Value:=[M,vi u.1,vi u.2.1,vi u.2.2.1,vi u.2.2.2,F,N];have pz:=(hz.call hw1 ((.cons .here .nil):Sel [ve A,qL b,stb a 231 C] [ve A] [qL b,stb a 231 C])).lend hw1 ((.cons .here .nil):Sel [ve A,qL b,stb a 231 C] [ve A] [qL b,stb a 231 C]) (B:=[stb a 231 C]) (fun _ hx'=>((.cons .h1 .nil):Sel _ [stb a 231 C] _).mem hx')
   refine bK h fun d aQ h=>Calls.mono (mY (Z:=_) (z9z:=p) (z5i:=(Option Addr×Nat)) (z3h:=(fun(g:Option Addr×Nat) (s:Nat×List z1×Int)=>ve ([stb k 229 [vs g.1 s.2.1.length g.2],row (vs g.1 s.2.1.length g.2) 175 2 (s.2.1.flatMap xG),stb c 277 [vi s.2.2],stb n 175 [vi 0,vi 0],stb m 231 E]++[xR p (z (ul<|gt [] s.1)<|gt [] s.1)]))) (z8s:=(fun(g:Option Addr×Nat) (s:Nat×List z1×Int)=>True)) (zbc:=(none,0)) (zbd:=⟨a,0,none⟩) (zdi:=ae) (zdj:=af) (zqJ:=ag) (zqK:=ao) (zqL:=ap) (zqM:=ah) (zkj:=ai) (zkk:=aj) (zA:=(Nat×List z1×Int)) (z38:=(fun(x:z1) (s:Nat×List z1×Int)=>chk (s.1=0)<|qT T t x s.2.1 s.2.2)) (z8Z:=(0,([]:List z1),0)) (z3W:=V) (zfn:=(⟨(⟨u.1,u.2.1⟩:z1),(⟨u.2.2.1,u.2.2.2⟩:z1)⟩:yn)) (zki:=T) (zfo:=t) (z4b:=W) (r:=d) w pz ?_ trivial ((aq.mono<|zl).weak (fun _ _ h=>jv zl h)) ((ak.mono<|zl).weak (fun _ _ h=>jv zl h)) (al.mono<|zl) (am.mono<|zl) (ar.mono<|zl) ((hw1.lent ((.cons .here .nil):Sel [ve A,qL b,stb a 231 C] [ve A] [qL b,stb a 231 C]) (B:=[stb a 231 C]) (fun _ hx'=>((.cons .h1 .nil):Sel _ [stb a 231 C] _).mem hx') (.head _) _).stb) aQ<|hw1.owns ((.cons .here .nil):Sel [ve A,qL b,stb a 231 C] [ve A] [qL b,stb a 231 C])) ?_
   ·refine pT (LI:=(fun(g:Option Addr×Nat) (s:Nat×List z1×Int)=>[stb k 229 [vs g.1 s.2.1.length g.2],row (vs g.1 s.2.1.length g.2) 175 2 (s.2.1.flatMap xG),stb c 277 [vi s.2.2],stb n 175 [vi 0,vi 0],stb m 231 E])) (pc:=(fun(s:Nat×List z1×Int)=>gt [] s.1)) an aO aP (fun _ _=>U) (by decide) ?_
    rintro au _ ⟨az,aA⟩ ⟨aR,q,aB⟩ aS aT Fb wb aC _ hz
    replace hz:=hz.left
    letI:Rnd:=pS p
    obtain⟨z2,e⟩:=xv aC
    replace z2:aR=0:=z2;subst z2;clear aC
    replace e:qT T t au q aB=some (aS,aT):=e
    unfold qT at e
    let I:Value:=(vs az q.length aA);let K:Value:=(.agg #[vi au.fN,vi au.fD]);let Q:Value:=(.bool (decide (aI≠0)));refine WC.restr (env':=[(1,vp m),(12,Q),(5,vp c),(6,vp k),(17,K)]) (.q U)<|WC.eqL (L':=[stb k 229 [I],row I 175 2 (q.flatMap xG),stb c 277 [vi aB],stb n 175 [vi 0,vi 0],stb m 231 E,xR p (z .ready none)]) U<|Ld<|Lg 7 (xC (cs:=[vi 0,vi 0]) z1d U) ?_
    intro aU _
    refine Lk U U (xx zI U U U .here U U U)<|WL.nil<|WX.lb an .h6<|WC.block<|WC.b ?_
    obtain⟨R,aV,e⟩:=ze e
    refine Ld<|Le 18 (xk ll U U)<|Le 19 (xl zAI U<|xu .h6 U)<|Le 20 (xq zi U (xt .h1) U)<|Lm 21 (qp (l:=[.tmp 5,.tmp 20]) call122 U<|.r2 U U) (.cons .h4 .nil) (cc hz (.cons .h4 .nil) fun w pz ho=>iS _ _ _ _ _ _ _ _ _ _ _ aV w pz ak al am ho) (Lg 8 (xC (cs:=[vi 0,vi 0]) z1d U) fun aW _=>Lk U U (xx zI U U U .here U U U)<|Q0n<|WC.b ?_)
    obtain⟨aX,aD,e⟩:=ze e
    let O:Value:=(.bool (decide ((q.length:Int)=0)));refine Lw nc [] U<|Li 0 22 U (xl zaI U<|xu .h4 U)<|Lf 1 23 U (xQ underlying229 U)<|Lf 2 24 U (l4 U U)<|Lf 3 25 U (q_m U)<|Kb (fuel':=0) [(1,vp m),(12,Q),(5,vp c),(6,vp k),(17,K),(7,vp aU),(18,(.pointer<|some ⟨m,5,none⟩)),(19,F),(20,K),(21,.agg #[vi R.1.fN,vi R.1.fD]),(8,vp aW),(22,I),(23,vi (q.length:Int)),(24,O),(25,O),(32,.bool aX)] (wm 11 (dn 11)) ?_<|fun aE=>?_
    rotate_left
    ·rcases Bool.eq_false_or_eq_true (decide ((q.length:Int)=0)) with hb' | hb'
     ·have av:=hb';clear hb'
      have aw:=qq aD av
      replace aw:=oJ aw
      refine L3 (i:=25) U av<|Lo 4 26 U<|Lo 5 27 U<|Lo 6 28 U<|Lo 7 29 U<|Lo 8 30 U<|Lo 9 31 U<|Lf 10 32 U (jI U U)<|Lt (.a8) ?_ aE
      exact .r16 U U U U U U U U U U U U U U (zL<|Eq.symm av)<|zL aw
     ·have ax:=hb';clear hb'
      have S:=qr aD ax
      obtain⟨ab,S⟩:=xv S
      obtain⟨a4,aY,S⟩:=ze S
      replace S:=oJ S
      refine L3 (i:=25) U ax<|Li 4 26 U (xq zi U (xt .here) U)<|Li 5 27 U (xl zaI U<|xu .h4 U)<|WD.know (fun w hw=>Hp.vJ .h5 hw (by intro il;have:=ab;rw[il] at this;omega)) ?_
      rintro⟨a2,rfl⟩
      refine Lf 6 28 U (w7 z3K U U ab.1 ab.2 qQ)<|Li 7 29 U (wp (cs:=(xG<|nth q 0)) zi U U<|gq .h5<|jb (enc:=xG) (l:=q) (i:=0) (sz:=2) (fun _=>U) ab.1 ab.2)<|L5 8 30 U (zf call129<|.r2 U U) (cc hz .nil fun w pz ho=>gl _ _ _ _ aY w pz )<|Lf 9 31 U (cx U U)<|Lf 10 32 U (jJ U U)<|Lt (.a8) ?_ aE
      exact .r16 U U U U U U U U U U U U U U (zL<|Eq.symm ax)<|zL S
    refine WD.done (by kernel_rfl)<|Lb<|WC.cond U (fun ay=>?_)<|fun ay=>?_
    ·replace e:=qq e ay
     refine Ld<|Le 33 (xq zi U (xt .here) U) (Lg 34 (xV (cs:=([R.1]:List z1).flatMap xG) z3K (Lq (l:=[.tmp 33]) (.cons U .nil) [0]) (fun _=>by kernel_rfl) U (by unfold maxLen;omega)) fun aF _=>Lk U U (xx zsX U U U .h5 U U U)<|WL.nil<|Lu ?_)
     obtain⟨rfl,rfl⟩:=pg e
     let L:Value:=(vs (some ⟨aF,0,none⟩) (([R.1]:List z1).length) 1);exact WX.mH an .h4<|fun w' oa=>⟨(some ⟨aF,0,none⟩,1),U,trivial,(oa.selAll ((.s6 .h1 .h1 .h2 .h4 .h4 .here):Sel _ [stb k 229 [L],row L 175 2 (([R.1]:List z1).flatMap xG),stb c 277 [vi R.2.fE],stb n 175 [vi 0,vi 0],stb m 231 E,xR p (z .ready none)] _)).sub (.cons .here .nil)⟩
    ·replace e:=qr e ay
     refine WC.skip<|Lu ?_
     obtain⟨rfl,rfl⟩:=pg e
     exact WX.mH an .h2<|fun w' oa=>⟨(az,aA),U,trivial,(oa.selAll ((.s6 .h4 .h4 .h2 .h3 .h3 .here):Sel _ [stb k 229 [I],row I 175 2 (q.flatMap xG),stb c 277 [vi R.2.fE],stb n 175 [vi 0,vi 0],stb m 231 E,xR p (z .ready none)] _)).sub (.cons .here .nil)⟩
   ·rintro _ w' ⟨⟨aG,aH⟩,rfl,_,hp⟩
    have zB:=hw1.call ((.cons .here .nil):Sel [ve A,qL b,stb a 231 C] [ve A] [qL b,stb a 231 C]) hp
    let J:Value:=(vs aG d.2.1.length aH);have AO:Hp _ _ w' [stb k 229 [J],row J 175 2 (d.2.1.flatMap xG),stb c 277 [vi d.2.2],stb n 175 [vi 0,vi 0],stb m 231 E,xR p (z (ul (gt [] d.1)) (gt [] d.1)),qL b,stb a 231 C]:=zB.pickAll .here
    refine⟨_,gt [] d.1,_,U,AO.sub ((.s8 .h5 .here .here .here .here .here .here .here):Sel _ [xR p (z (ul (gt [] d.1)) (gt [] d.1)),stb k 229 [J],row J 175 2 (d.2.1.flatMap xG),stb c 277 [vi d.2.2],stb n 175 [vi 0,vi 0],stb m 231 E,qL b,stb a 231 C] _),?_⟩
    clear hp zB AO pz hw hw1
    refine wjN ?_
    letI:Rnd:=f9 b
    exact Lu<|WX.midR (D:=fun(g:Nat×Int×List z1×Option Addr×Nat)=>g.1) (G:=Nat×Int×List z1×Option Addr×Nat) ⟨b,d.2.2,d.2.1,aG,aH⟩ h (.q U)<|.s5 .h3 .h2 .here .here .h1
  ·rintro X y o Y aa h
   replace h:=(aM y o).symm.trans h
   letI:Rnd:=f9 X
   refine WC.b<|B0q<|Le 35 (xk mf U U)<|Le 36 (xl z5S U<|xu .h1 U)<|Q1n U<|Lj U h (fun aZ h=>?_)<|fun aZ h=>?_
   ·refine WC.b<|Lw (fun i=>[3].contains i) [uE c 277 [(0,vi y)]] U<|Lf 0 38 U (xU (v:=(.agg #[vi 0,vi 0])) (Lq (l:=[]) .nil []) (fun _=>by kernel_rfl))<|Lf 1 39 U (xk mf U U)<|L6 2 40 U (ws.wk (.cons .h1 .nil)<|.stb (.cons U .nil) .nil) (xl z5S U<|gQ .here<|.head _)<|WD.forced0 (i:=3) U (by kernel_rfl) U U U (ws.wk (.cons .h1 .nil)<|.stb (.cons U .nil) .nil) (xx zI U U U .here U U U)<|Lf 4 3 U (q_z U)<|WD.done (by kernel_rfl)<|Lb<|WC.ret<|Ll ?_
    obtain rfl:=oJ h
    exact WX.uD .h4 results127 (.agg U zi U (xt .h1)<|.tmp U .nil)<|fun w hw=>⟨vg U U,hw.sub .nil⟩
   ·refine WC.skip<|Lb<|WC.b<|cK h fun ad h=>Ld<|Le 41 (xl zaI U<|xu .h2 U)<|Kf (fun w hw=>Hp.vJ .h3 hw (by intro il;have:=ad;rw[il] at this;omega)) ?_
    rintro⟨a3,rfl⟩
    refine Le 42 (w7 z3K U U ad.1 ad.2 qQ)<|Le 43 (wp (cs:=(xG<|nth o 0)) zi U U<|gq .h3<|jb (enc:=xG) (l:=o) (i:=0) (sz:=2) (fun _=>U) ad.1 ad.2)<|Lk U U (xx zI U U U .here U U U)<|Q1n U<|WC.ret ?_
    obtain rfl:=oJ h
    exact WX.uD .h4 results127 (.agg U zi U (xt .h1)<|.tmp U .nil)<|fun w hw=>⟨vg U U,hw.sub .nil⟩
def f0(a:List (List z8))(b:yn):Option (z1×Int):=
 (kD a b a b []).bind fun c=>some (c.1,c.2)
theorem bM(Z:Zp)(c:Option Addr)(d:Nat)(b:List (List z8))(a:yn)(r:z1×Int)(h:f0 b a=some r)(w₀:World)(hz:PZ [] w₀ Z)(e:ZS Z 1 (qB Z) c d b):
  RC 81 #[vs c b.length d,.agg #[vi a.ye.fN,vi a.ye.fD,vi a.fL.fN,vi a.fL.fD]] w₀ (.tuple #[.agg #[vi r.1.fN,vi r.1.fD],vi r.2]) [] []:=by
 unfold f0 at h
 refine L0 func81 ntmps81 ?_
 let A:Value:=(vs c b.length d);refine B0q<|Lg 2 (xP (cs:=[A]) U U) ?_
 intro f _
 refine Lg 3 (xP (cs:=[vi a.ye.fN,vi a.ye.fD,vi a.fL.fN,vi a.fL.fD]) U U) fun g _=>Lg 4 (xC (cs:=[vi 0,vi 0]) z1d U) fun j _=>Q1n U<|B0q<|Le 7 (xl ze4 U<|xu .h2 U)<|Le 8 (xq zlR U (xt .h1) U)<|Le 9 (xU (v:=(.agg #[A,vi a.ye.fN,vi a.ye.fD,vi a.fL.fN,vi a.fL.fD,.nilFunc,vn])) (Lq (l:=[.tmp 7,.tmp 8]) (.r2 U U) [0,1]) (fun _=>by kernel_rfl)) (Lg 6 (xC (cs:=[vn,vi 0,vi 0,vi 0,vi 0,.nilFunc,vn]) zAA U) fun k _=>Lk U U (xx zAB U U U .here U U U)<|Q0n<|B0q<|Le 10 (wq<|L4 (l:=[.tmp 2,.tmp 3])<|.r2 U U)<|Le 11 (xk ll U U)<|Lk U U (jU (ds:=[A,vi a.ye.fN,vi a.ye.fD,vi a.fL.fN,vi a.fL.fD,.func (.func 122) #[] #[vp f,vp g],vn]) zAC U U U U U .here U U)<|Q0n<|WC.b ?_)
 refine bK h fun m i h=>Ld<|Le 12 (xq zij U (xt .here) U)<|Lm 13 (zf call127<|.cons U .nil) .nil (sX hz .nil (.s2 .h3 .h2) fun w pz ho la=>oN _ _ _ _ _ _ _ _ _ _ _ _ _ _ _ i w pz ((e.mono<|zl).weak (fun _ _ h=>jv zl h)) ((e.mono<|zl).weak (fun _ _ h=>jv zl h)) ((la _ (.head _) _).stb) ((la _ (.tail _<|.head _) _).stb)<|ZS.nil _ _ _)<|Q2q U<|Lk U U (xx zI U U U .h1 U U U)<|Q1n U<|WC.ret ?_
 obtain rfl:=oJ h
 exact Lh results81 (.agg U zi U (xt .here)<|.tmp U .nil)<|fun w hw=>⟨vg U U,hw.sub .nil⟩
def kT(g:ym)(b:z1)(h:List (List z8))(c:yn):Option (z1×ym):=
 (jk g h b).bind fun a=>(wS b c.fL).bind fun i=>if decide (i<=0) then some (a.1,a.2) else(wE a.2 (fun(y0:z1) (y1:z1)=>qa y0 y1) b c.fL).bind fun d=>(wE d.2 (fun(y0:z1) (y1:z1)=>jy y0 y1) c.ye d.1).bind fun e=>(wE e.2 (fun(y0:z1) (y1:z1)=>qa y0 y1) a.1 e.1).bind fun f=>some (f.1,f.2)
theorem lq(Z:Zp)(b:Nat)(g:Addr)(j:Option Addr)(k:Nat)(l:Addr)(d:ym)(c:z1)(e:List (List z8))(a:yn)(r:z1×ym)(h:kT d c e a=some r)(w₀:World)(hz:Pz [stb b 277 [vi d.fE]] w₀ Z)(n:ZS Z 1 (qB Z) j k e)(o:ZC Z g [vs j e.length k])(f:ZC Z l [vi a.ye.fN,vi a.ye.fD,vi a.fL.fN,vi a.fL.fD])(fh:Ho w₀ [stb b 277 [vi d.fE]]):
  RF 128 #[vp b,.agg #[vi c.fN,vi c.fD],vq g,vq l] w₀ (.agg #[vi r.1.fN,vi r.1.fD]) [stb b 277 [vi d.fE]] [stb b 277 [vi r.2.fE]]:=by
 unfold kT at h
 refine Calls.mE func128 ntmps128 fh ?_
 refine WC.b<|Ld (Lg 5 (xP (cs:=[vi c.fN,vi c.fD]) U U) fun z _=>Lg 6 (xC (cs:=[vi 0,vi 0]) z1d U) fun B _=>Q0n<|WC.b ?_)
 refine bK h fun m p h=>D1q U<|Le 9 (xl ze4 U<|jS hz.pv o U)<|Le 10 (xq zi U (xt .h1) U)<|Lm 11 (zf call126<|.r3 U U U) (.cons .h2 .nil) (cc hz (.cons .h2 .nil) fun w pz ho=>tL _ _ _ _ _ _ _ _ p w pz n ho) (Lg 7 (xC (cs:=[vi 0,vi 0]) z1d U) fun q _=>Lk U U (xx zI U U U .here U U U)<|Q0n<|WC.b<|WC.b ?_)
 obtain⟨C,t,h⟩:=ze h
 let A:List Value:=[vi a.fL.fN,vi a.fL.fD];refine Ld<|Le 12 (xq zi U (xt .h3) U)<|Le 13 (xk sG U U)<|Le 14 (wp (cs:=A) zi U U<|oy (off:=2) (s:=2) hz.pv f U)<|Lm 15 (zf call129<|.r2 U U) .nil (cc hz .nil fun w pz ho=>gl _ _ _ _ t w pz )<|Q1n U<|Lj U h (fun u h=>?_)<|fun u h=>?_
 ·refine B0q<|Le 17 (xq zi U (xt .here) U)<|Lk U U (xx zI U U U .h2 U U U)<|Q0n<|WC.ret<|Ll ?_
  obtain rfl:=oJ h
  exact Lh results128 (.agg U zi U (xt .here) .nil)<|fun w hw=>⟨xK U,hw.sub (.cons .h2 .nil)⟩
 ·refine WC.skip<|Lb<|WC.b<|bK h fun D v h=>bK h fun E x h=>bK h fun F y h=>Lw (fun i=>[9,10,11,12].contains i) [stb q 175 [vi m.1.fN,vi m.1.fD]] U<|Lf 0 18 U (q_m U)<|L6 1 19 U (ws.of<|.cons .here .nil) (xq zi U (xt .here) U)<|Lf 2 20 U (q_m U)<|Lf 3 21 U (xk pj U U)<|L6 4 22 U (ws.of<|.cons .here .nil) (wp (cs:=[vi a.ye.fN,vi a.ye.fD]) zi U U<|oy (off:=0) (s:=2) hz.pv f U)<|Lf 5 23 U (q_m U)<|Li 6 24 U (xq zi U (xt .h3) U)<|Lf 7 25 U (xk sG U U)<|Li 8 26 U (wp (cs:=A) zi U U<|oy (off:=2) (s:=2) hz.pv f U) (WD.call0 (i:=9) (dd:=27) U (by kernel_rfl) U U U (.inl ⟨U,(ws.of<|.cons .h1 .nil)⟩) (zf call123<|.r4 U U U U) (.cons .h1 .nil) (cc hz (.cons .h1 .nil) fun w pz ho=>Calls.mono (qY _ _ (z8Y:=124) (zaq:=[]) _ (z9v:=(fun(y0:z1) (y1:z1)=>qa y0 y1)) _ _ _ v w pz call124 (fun w' il y0 y1  r  hr=>rf _ _ _ _ hr w' il ) ho)<|fun _ _ h'=>⟨h'.1,trivial,h'.2⟩) fun _=>WD.call0 (i:=10) (dd:=28) U (by kernel_rfl) U U U (.inl ⟨U,(ws.of<|.cons .h1 .nil)⟩) (zf call123<|.r4 U U U U) (.cons .here .nil) (cc hz (.cons .here .nil) fun w pz ho=>Calls.mono (qY _ _ (z8Y:=120) (zaq:=[]) _ (z9v:=(fun(y0:z1) (y1:z1)=>jy y0 y1)) _ _ _ x w pz call120 (fun w' il y0 y1  r  hr=>iP _ _ _ _ hr w' il ) ho)<|fun _ _ h'=>⟨h'.1,trivial,h'.2⟩) fun _=>WD.call0 (i:=11) (dd:=29) U (by kernel_rfl) U U U (.inl ⟨U,(ws.of<|.cons .h1 .nil)⟩) (zf call123<|.r4 U U U U) (.cons .here .nil) (cc hz (.cons .here .nil) fun w pz ho=>Calls.mono (qY _ _ (z8Y:=124) (zaq:=[]) _ (z9v:=(fun(y0:z1) (y1:z1)=>qa y0 y1)) _ _ _ y w pz call124 (fun w' il y0 y1  r  hr=>rf _ _ _ _ hr w' il ) ho)<|fun _ _ h'=>⟨h'.1,trivial,h'.2⟩) fun _=>WD.jf (i:=12) U (by kernel_rfl) U U U (by kernel_rfl) (xx zI U U U .h2 U U U)<|WD.done (by kernel_rfl)<|Lb<|WC.ret ?_)
  obtain rfl:=oJ h
  exact Lh results128 (.agg U zi U (xt .here) .nil)<|fun w hw=>⟨xK U,hw.sub (.cons .h1 .nil)⟩
def qI(c:List (List z8))(d:yn)(e:z1)(a:List z1)(f:Int):Option (Bool×(Nat×List z1×Int)):=
 (kT (⟨f⟩:ym) e c d).bind fun b=>(if decide ((a.length:Int)=0) then some true else chk ((0:Int)<=0/\0<(a.length:Int)) ((wS b.1 (⟨(nth a 0).fN,(nth a 0).fD⟩:z1)).bind fun g=>some (decide (g>0)))).bind fun h=>if h then some (true,(0,([b.1]:List z1),b.2.fE)) else some (true,(0,a,b.2.fE))
def kp(d:List (List z8))(j:yn)(a:List (List z8))(b:yn)(e:List z1):Option (z1×Int):=
 (vD d j a b e).bind fun g=>if decide (g≠0) then some ((⟨0,0⟩:z1),g) else si (fun(h:Int) (f:List z1)=>if decide (h≠0) then some ((⟨0,0⟩:z1),h) else chk ((0:Int)<=0/\0<(f.length:Int)) (some ((⟨(nth f 0).fN,(nth f 0).fD⟩:z1),0))) fun k=>(qS d j a b e).bind fun c=>(vb (Nat×List z1×Int) (fun(x:z1) (s:Nat×List z1×Int)=>chk (s.1=0) (qI a b x s.2.1 s.2.2)) (0,([]:List z1),0) d (⟨(⟨c.1,c.2.1⟩:z1),(⟨c.2.2.1,c.2.2.2⟩:z1)⟩:yn) a b e).bind fun i=>k i.2.2 i.2.1
theorem ob(Z:Zp)(ae:Option Addr)(af:Nat)(ag:Addr)(ao:Option Addr)(ap:Nat)(ah:Addr)(ai:Option Addr)(aj:Nat)(V:List (List z8))(j:yn)(T:List (List z8))(t:yn)(W:List z1)(r:z1×Int)(h:kp V j T t W=some r)(w₀:World)(hz:PZ [] w₀ Z)(aq:ZS Z 1 (qB Z) ae af V)(ak:ZS Z 1 (qB Z) ao ap T)(al:ZC Z ag [vs ao T.length ap])(am:ZC Z ah [vi t.ye.fN,vi t.ye.fD,vi t.fL.fN,vi t.fL.fD])(ar:ZS Z 2 (rq xG) ai aj W):
  RC 127 #[.agg #[vs ae V.length af,vi j.ye.fN,vi j.ye.fD,vi j.fL.fN,vi j.fL.fD,.func (.func 128) #[] #[vq ag,vq ah],vs ai W.length aj]] w₀ (.tuple #[.agg #[vi r.1.fN,vi r.1.fD],vi r.2]) [] []:=by
 unfold kp at h
 let F:Value:=(.func (.func 128) #[] #[vq ag,vq ah]);let M:Value:=(vs ae V.length af);let N:Value:=(vs ai W.length aj);let H:Value:=(.agg #[M,vi j.ye.fN,vi j.ye.fD,vi j.fL.fN,vi j.fL.fD,F,N]);refine Calls.sN (vs:=[H]) (pre:=[]) (env:=[(0,H)]) func127 U ntmps127 U (Hp.nil w₀ _) U ?_
 let E:List Value:=[M,vi j.ye.fN,vi j.ye.fD,vi j.fL.fN,vi j.fL.fD,F,N];refine B0q<|Lg 1 (xP (cs:=E) U U) ?_
 intro m _
 refine Lg 2 (xC (cs:=[vi 0,vi 0]) z1d U) fun n _=>Q1n U<|WC.b<|WC.b<|bK h fun aI aJ h=>Ld<|Le 9 (xq zij U (xt .h1) U)<|Lm 10 (zf call163<|.cons U .nil) .nil (cc hz .nil fun w pz ho=>t7 _ _ _ _ _ _ _ _ _ _ _ _ _ _ _ aJ w pz aq ak al am ar)<|Q1n U<|B2n U<|Lj U h (fun aK h=>?_)<|fun aK h=>?_
 ·refine B0q<|Le 13 (xU (v:=(.agg #[vi 0,vi 0])) (Lq (l:=[]) .nil []) (fun _=>by kernel_rfl))<|La U<|Lk U U (xx zI U U U .here U U U)<|Q1n U<|WC.ret<|Ll ?_
  obtain rfl:=oJ h
  exact WX.iD results127 (.agg U zi U (xt .here)<|.tmp U .nil)<|fun w hw=>⟨vg U U,hw.sub .nil⟩
 ·refine WC.skip<|Lb<|WC.b<|Ld (Lg 5 (xC (cs:=[vi 0]) zsV U) fun c _=>Q0n<|WC.b<|Ld (Lg 6 (xC (cs:=[vn]) zsW U) fun k _=>Q0n ?_))
  refine jK2 h fun aL aM h=>WC.b7 (fun(X:Nat) (y:Int) (o:List z1) (Y:Option Addr) (aa:Nat)=>(aL y o=some r)) (fun(X:Nat) (y:Int) (o:List z1) (Y:Option Addr) (aa:Nat)=>[(2,vp n),(5,vp c),(6,vp k)]) (fun(X:Nat) (y:Int) (o:List z1) (Y:Option Addr) (aa:Nat)=>[stb n 175 [vi 0,vi 0],stb c 277 [vi y],stb k 229 [vs Y o.length aa],row (vs Y o.length aa) 175 2 (o.flatMap xG),qL X]) ?_ ?_
  ·refine WC.b<|bK h fun u aN h=>Ld<|Le 15 (xq zij U (xt .h3) U)<|WL.iv (dd:=16) U U U (zf call164<|.cons U .nil) .nil (cc hz .nil fun w pz ho=>uL _ _ _ _ _ _ _ _ _ _ _ _ _ _ _ aN w pz aq ak al am ar) ?_
   rintro a _
   refine Q0n<|WC.block<|WC.drop (.s5 .h1 .h1 .h1 .h1 .here)<|WC.nilRow 175 2<|WC.rangeFunc (f:=201) (caps:=[vp a]) U call201 ?_
   intro a0 a1 p b z an aO aP w hw
   let P:Value:=(vs none (([]:List z1).length) 0);let A:List Asrt:=[stb k 229 [P],row P 175 2 (([]:List z1).flatMap xG),stb c 277 [vi 0],stb n 175 [vi 0,vi 0],stb m 231 E,xR p (z .ready none)];have hw1:=hw.selAll ((.s6 .h3 .h2 .h2 .h2 .h2 .here):Sel _ A _)
   let C:List Value:=[M,vi u.1,vi u.2.1,vi u.2.2.1,vi u.2.2.2,F,N];have pz:=(hz.call hw1 ((.cons .here .nil):Sel [ve A,qL b,stb a 231 C] [ve A] [qL b,stb a 231 C])).lend hw1 ((.cons .here .nil):Sel [ve A,qL b,stb a 231 C] [ve A] [qL b,stb a 231 C]) (B:=[stb a 231 C]) (fun _ hx'=>((.cons .h1 .nil):Sel _ [stb a 231 C] _).mem hx')
   refine bK h fun d aQ h=>Calls.mono (mY (Z:=_) (z9z:=p) (z5i:=(Option Addr×Nat)) (z3h:=(fun(g:Option Addr×Nat) (s:Nat×List z1×Int)=>ve ([stb k 229 [vs g.1 s.2.1.length g.2],row (vs g.1 s.2.1.length g.2) 175 2 (s.2.1.flatMap xG),stb c 277 [vi s.2.2],stb n 175 [vi 0,vi 0],stb m 231 E]++[xR p (z (ul<|gt [] s.1)<|gt [] s.1)]))) (z8s:=(fun(g:Option Addr×Nat) (s:Nat×List z1×Int)=>True)) (zbc:=(none,0)) (zbd:=⟨a,0,none⟩) (zdi:=ae) (zdj:=af) (zqJ:=ag) (zqK:=ao) (zqL:=ap) (zqM:=ah) (zkj:=ai) (zkk:=aj) (zA:=(Nat×List z1×Int)) (z38:=(fun(x:z1) (s:Nat×List z1×Int)=>chk (s.1=0)<|qI T t x s.2.1 s.2.2)) (z8Z:=(0,([]:List z1),0)) (z3W:=V) (zfn:=(⟨(⟨u.1,u.2.1⟩:z1),(⟨u.2.2.1,u.2.2.2⟩:z1)⟩:yn)) (zki:=T) (zfo:=t) (z4b:=W) (r:=d) w pz ?_ trivial ((aq.mono<|zl).weak (fun _ _ h=>jv zl h)) ((ak.mono<|zl).weak (fun _ _ h=>jv zl h)) (al.mono<|zl) (am.mono<|zl) (ar.mono<|zl) ((hw1.lent ((.cons .here .nil):Sel [ve A,qL b,stb a 231 C] [ve A] [qL b,stb a 231 C]) (B:=[stb a 231 C]) (fun _ hx'=>((.cons .h1 .nil):Sel _ [stb a 231 C] _).mem hx') (.head _) _).stb) aQ<|hw1.owns ((.cons .here .nil):Sel [ve A,qL b,stb a 231 C] [ve A] [qL b,stb a 231 C])) ?_
   ·refine pT (LI:=(fun(g:Option Addr×Nat) (s:Nat×List z1×Int)=>[stb k 229 [vs g.1 s.2.1.length g.2],row (vs g.1 s.2.1.length g.2) 175 2 (s.2.1.flatMap xG),stb c 277 [vi s.2.2],stb n 175 [vi 0,vi 0],stb m 231 E])) (pc:=(fun(s:Nat×List z1×Int)=>gt [] s.1)) an aO aP (fun _ _=>U) (by decide) ?_
    rintro au _ ⟨az,aA⟩ ⟨aR,q,aB⟩ aS aT Fb wb aC _ hz
    replace hz:=hz.left
    letI:Rnd:=pS p
    obtain⟨z2,e⟩:=xv aC
    replace z2:aR=0:=z2;subst z2;clear aC
    replace e:qI T t au q aB=some (aS,aT):=e
    unfold qI at e
    let I:Value:=(vs az q.length aA);let K:Value:=(.agg #[vi au.fN,vi au.fD]);let Q:Value:=(.bool (decide (aI≠0)));refine WC.restr (env':=[(1,vp m),(12,Q),(5,vp c),(6,vp k),(17,K)]) (.q U)<|WC.eqL (L':=[stb k 229 [I],row I 175 2 (q.flatMap xG),stb c 277 [vi aB],stb n 175 [vi 0,vi 0],stb m 231 E,xR p (z .ready none)]) U<|Ld<|Lg 7 (xC (cs:=[vi 0,vi 0]) z1d U) ?_
    intro aU _
    refine Lk U U (xx zI U U U .here U U U)<|WL.nil<|WX.lb an .h6<|WC.block<|WC.b ?_
    obtain⟨R,aV,e⟩:=ze e
    refine Ld<|Le 18 (xk ll U U)<|Le 19 (xl zAI U<|xu .h6 U)<|Le 20 (xq zi U (xt .h1) U)<|Lm 21 (qp (l:=[.tmp 5,.tmp 20]) call128 U<|.r2 U U) (.cons .h4 .nil) (cc hz (.cons .h4 .nil) fun w pz ho=>lq _ _ _ _ _ _ _ _ _ _ _ aV w pz ak al am ho) (Lg 8 (xC (cs:=[vi 0,vi 0]) z1d U) fun aW _=>Lk U U (xx zI U U U .here U U U)<|Q0n<|WC.b ?_)
    obtain⟨aX,aD,e⟩:=ze e
    let O:Value:=(.bool (decide ((q.length:Int)=0)));refine Lw nc [] U<|Li 0 22 U (xl zaI U<|xu .h4 U)<|Lf 1 23 U (xQ underlying229 U)<|Lf 2 24 U (l4 U U)<|Lf 3 25 U (q_m U)<|Kb (fuel':=0) [(1,vp m),(12,Q),(5,vp c),(6,vp k),(17,K),(7,vp aU),(18,(.pointer<|some ⟨m,5,none⟩)),(19,F),(20,K),(21,.agg #[vi R.1.fN,vi R.1.fD]),(8,vp aW),(22,I),(23,vi (q.length:Int)),(24,O),(25,O),(32,.bool aX)] (wm 11 (dn 11)) ?_<|fun aE=>?_
    rotate_left
    ·rcases Bool.eq_false_or_eq_true (decide ((q.length:Int)=0)) with hb' | hb'
     ·have av:=hb';clear hb'
      have aw:=qq aD av
      replace aw:=oJ aw
      refine L3 (i:=25) U av<|Lo 4 26 U<|Lo 5 27 U<|Lo 6 28 U<|Lo 7 29 U<|Lo 8 30 U<|Lo 9 31 U<|Lf 10 32 U (jI U U)<|Lt (.a8) ?_ aE
      exact .r16 U U U U U U U U U U U U U U (zL<|Eq.symm av)<|zL aw
     ·have ax:=hb';clear hb'
      have S:=qr aD ax
      obtain⟨ab,S⟩:=xv S
      obtain⟨a4,aY,S⟩:=ze S
      replace S:=oJ S
      refine L3 (i:=25) U ax<|Li 4 26 U (xq zi U (xt .here) U)<|Li 5 27 U (xl zaI U<|xu .h4 U)<|WD.know (fun w hw=>Hp.vJ .h5 hw (by intro il;have:=ab;rw[il] at this;omega)) ?_
      rintro⟨a2,rfl⟩
      refine Lf 6 28 U (w7 z3K U U ab.1 ab.2 qQ)<|Li 7 29 U (wp (cs:=(xG<|nth q 0)) zi U U<|gq .h5<|jb (enc:=xG) (l:=q) (i:=0) (sz:=2) (fun _=>U) ab.1 ab.2)<|L5 8 30 U (zf call129<|.r2 U U) (cc hz .nil fun w pz ho=>gl _ _ _ _ aY w pz )<|Lf 9 31 U (cx U U)<|Lf 10 32 U (jJ U U)<|Lt (.a8) ?_ aE
      exact .r16 U U U U U U U U U U U U U U (zL<|Eq.symm ax)<|zL S
    refine WD.done (by kernel_rfl)<|Lb<|WC.cond U (fun ay=>?_)<|fun ay=>?_
    ·replace e:=qq e ay
     refine Ld<|Le 33 (xq zi U (xt .here) U) (Lg 34 (xV (cs:=([R.1]:List z1).flatMap xG) z3K (Lq (l:=[.tmp 33]) (.cons U .nil) [0]) (fun _=>by kernel_rfl) U (by unfold maxLen;omega)) fun aF _=>Lk U U (xx zsX U U U .h5 U U U)<|WL.nil<|Lu ?_)
     obtain⟨rfl,rfl⟩:=pg e
     let L:Value:=(vs (some ⟨aF,0,none⟩) (([R.1]:List z1).length) 1);exact WX.mH an .h4<|fun w' oa=>⟨(some ⟨aF,0,none⟩,1),U,trivial,(oa.selAll ((.s6 .h1 .h1 .h2 .h4 .h4 .here):Sel _ [stb k 229 [L],row L 175 2 (([R.1]:List z1).flatMap xG),stb c 277 [vi R.2.fE],stb n 175 [vi 0,vi 0],stb m 231 E,xR p (z .ready none)] _)).sub (.cons .here .nil)⟩
    ·replace e:=qr e ay
     refine WC.skip<|Lu ?_
     obtain⟨rfl,rfl⟩:=pg e
     exact WX.mH an .h2<|fun w' oa=>⟨(az,aA),U,trivial,(oa.selAll ((.s6 .h4 .h4 .h2 .h3 .h3 .here):Sel _ [stb k 229 [I],row I 175 2 (q.flatMap xG),stb c 277 [vi R.2.fE],stb n 175 [vi 0,vi 0],stb m 231 E,xR p (z .ready none)] _)).sub (.cons .here .nil)⟩
   ·rintro _ w' ⟨⟨aG,aH⟩,rfl,_,hp⟩
    have zB:=hw1.call ((.cons .here .nil):Sel [ve A,qL b,stb a 231 C] [ve A] [qL b,stb a 231 C]) hp
    let J:Value:=(vs aG d.2.1.length aH);have AO:Hp _ _ w' [stb k 229 [J],row J 175 2 (d.2.1.flatMap xG),stb c 277 [vi d.2.2],stb n 175 [vi 0,vi 0],stb m 231 E,xR p (z (ul (gt [] d.1)) (gt [] d.1)),qL b,stb a 231 C]:=zB.pickAll .here
    refine⟨_,gt [] d.1,_,U,AO.sub ((.s8 .h5 .here .here .here .here .here .here .here):Sel _ [xR p (z (ul (gt [] d.1)) (gt [] d.1)),stb k 229 [J],row J 175 2 (d.2.1.flatMap xG),stb c 277 [vi d.2.2],stb n 175 [vi 0,vi 0],stb m 231 E,qL b,stb a 231 C] _),?_⟩
    clear hp zB AO pz hw hw1
    refine wjN ?_
    letI:Rnd:=f9 b
    exact Lu<|WX.midR (D:=fun(g:Nat×Int×List z1×Option Addr×Nat)=>g.1) (G:=Nat×Int×List z1×Option Addr×Nat) ⟨b,d.2.2,d.2.1,aG,aH⟩ h (.q U)<|.s5 .h3 .h2 .here .here .h1
  ·rintro X y o Y aa h
   replace h:=(aM y o).symm.trans h
   letI:Rnd:=f9 X
   refine WC.b<|B0q<|Le 35 (xk mf U U)<|Le 36 (xl z5S U<|xu .h1 U)<|Q1n U<|Lj U h (fun aZ h=>?_)<|fun aZ h=>?_
   ·refine WC.b<|Lw (fun i=>[3].contains i) [uE c 277 [(0,vi y)]] U<|Lf 0 38 U (xU (v:=(.agg #[vi 0,vi 0])) (Lq (l:=[]) .nil []) (fun _=>by kernel_rfl))<|Lf 1 39 U (xk mf U U)<|L6 2 40 U (ws.wk (.cons .h1 .nil)<|.stb (.cons U .nil) .nil) (xl z5S U<|gQ .here<|.head _)<|WD.forced0 (i:=3) U (by kernel_rfl) U U U (ws.wk (.cons .h1 .nil)<|.stb (.cons U .nil) .nil) (xx zI U U U .here U U U)<|Lf 4 3 U (q_z U)<|WD.done (by kernel_rfl)<|Lb<|WC.ret<|Ll ?_
    obtain rfl:=oJ h
    exact WX.uD .h4 results127 (.agg U zi U (xt .h1)<|.tmp U .nil)<|fun w hw=>⟨vg U U,hw.sub .nil⟩
   ·refine WC.skip<|Lb<|WC.b<|cK h fun ad h=>Ld<|Le 41 (xl zaI U<|xu .h2 U)<|Kf (fun w hw=>Hp.vJ .h3 hw (by intro il;have:=ad;rw[il] at this;omega)) ?_
    rintro⟨a3,rfl⟩
    refine Le 42 (w7 z3K U U ad.1 ad.2 qQ)<|Le 43 (wp (cs:=(xG<|nth o 0)) zi U U<|gq .h3<|jb (enc:=xG) (l:=o) (i:=0) (sz:=2) (fun _=>U) ad.1 ad.2)<|Lk U U (xx zI U U U .here U U U)<|Q1n U<|WC.ret ?_
    obtain rfl:=oJ h
    exact WX.uD .h4 results127 (.agg U zi U (xt .h1)<|.tmp U .nil)<|fun w hw=>⟨vg U U,hw.sub .nil⟩
def gn(b:List (List z8))(a:yn):Option (z1×Int):=
 (kp b a b a ([a.fL]:List z1)).bind fun c=>some (c.1,c.2)
theorem iT(Z:Zp)(c:Option Addr)(d:Nat)(b:List (List z8))(a:yn)(r:z1×Int)(h:gn b a=some r)(w₀:World)(hz:PZ [] w₀ Z)(e:ZS Z 1 (qB Z) c d b):
  RC 82 #[vs c b.length d,.agg #[vi a.ye.fN,vi a.ye.fD,vi a.fL.fN,vi a.fL.fD]] w₀ (.tuple #[.agg #[vi r.1.fN,vi r.1.fD],vi r.2]) [] []:=by
 unfold gn at h
 refine L0 func82 ntmps82 ?_
 let C:Value:=(vs c b.length d);refine B0q<|Lg 2 (xP (cs:=[C]) U U) ?_
 intro f _
 refine Lg 3 (xP (cs:=[vi a.ye.fN,vi a.ye.fD,vi a.fL.fN,vi a.fL.fD]) U U) fun g _=>Lg 4 (xC (cs:=[vi 0,vi 0]) z1d U) fun k _=>Q1n U<|B0q<|Le 7 (xl ze4 U<|xu .h2 U)<|Le 8 (xq zlR U (xt .h1) U)<|Le 9 (xk sG U U)<|Le 10 (wp (cs:=[vi a.fL.fN,vi a.fL.fD]) zi U U<|ko (s:=2) .h1 U)<|Lg 11 (xV (cs:=([a.fL]:List z1).flatMap xG) z3K (Lq (l:=[.tmp 10]) (.cons U .nil) [0]) (fun _=>by kernel_rfl) U (by unfold maxLen;omega)) ?_
 intro i _
 let A:Value:=(vs (some ⟨i,0,none⟩) (([a.fL]:List z1).length) 1);refine Le 12 (xU (v:=(.agg #[C,vi a.ye.fN,vi a.ye.fD,vi a.fL.fN,vi a.fL.fD,.nilFunc,A])) (Lq (l:=[.tmp 7,.tmp 8,.tmp 11]) (.r3 U U U) [0,1,3]) (fun _=>by kernel_rfl))<|Lg 6 (xC (cs:=[vn,vi 0,vi 0,vi 0,vi 0,.nilFunc,vn]) zAA U) ?_
 intro m _
 refine Lk U U (xx zAB U U U .here U U U)<|Q0n<|B0q<|Le 13 (wq<|L4 (l:=[.tmp 2,.tmp 3])<|.r2 U U)<|Le 14 (xk ll U U)<|Lk U U (jU (ds:=[C,vi a.ye.fN,vi a.ye.fD,vi a.fL.fN,vi a.fL.fD,.func (.func 128) #[] #[vp f,vp g],A]) zAC U U U U U .here U U)<|Q0n<|WC.b<|bK h fun n j h=>Ld<|Le 15 (xq zij U (xt .here) U)<|Lm 16 (zf call127<|.cons U .nil) .nil (sX hz .nil (.s3 .h4 .h3 .h1) fun w pz ho la=>ob _ _ _ _ _ _ _ _ _ _ _ _ _ _ _ j w pz ((e.mono<|zl).weak (fun _ _ h=>jv zl h)) ((e.mono<|zl).weak (fun _ _ h=>jv zl h)) ((la _ (.head _) _).stb) ((la _ (.tail _<|.head _) _).stb)<|ZA.row (la _ (.tail _<|.tail _<|.head _) _) (RR.flat (enc:=xG) (fun _=>U) _) ⟨w,pz.1⟩)<|Q2q U<|Lk U U (xx zI U U U .h2 U U U)<|Q1n U<|WC.ret ?_
 obtain rfl:=oJ h
 exact Lh results82 (.agg U zi U (xt .here)<|.tmp U .nil)<|fun w hw=>⟨vg U U,hw.sub .nil⟩
def vy(b:z1×Int)(c:z1×Int)(e:Int->Option (yl×Int×(List (zT×z1))×(List (za×Int)))):Nat->Int->Int->Option (yl×Int×(List (zT×z1))×(List (za×Int)))
 | 0,_,_=>none
 | h+1,a,d=>if decide (a<(([b.2,c.2]:List Int).length:Int)) then jG (fun(i:Int)=>vy b c e h (i64 (a+1)) i) fun f=>chk (0<=a/\a<(([b.2,c.2]:List Int).length:Int)) (jG (fun(j:Int)=>if decide (d=0) then f j else f d) fun g=>if decide ((nth ([b.2,c.2]:List Int) a)=6) then g 352 else g (nth ([b.2,c.2]:List Int) a)) else e d
def gJ(b:zt)(k:List (List zd))(l:List (zT×z1))(d:List (za×Int))(m:Int)(a:za):Option (yl×Int×(List (zT×z1))×(List (za×Int))):=
 (g5 b k l d m a).bind fun c=>si (fun(e:List (List z8)) (n:Int)=>chk (0<=a.fQ/\a.fQ<b.fK.length) ((ql n).bind fun f=>(f0 e (⟨(⟨1,(nth b.fK a.fQ).yp⟩:z1),f⟩:yn)).bind fun g=>(gn e (⟨(⟨1,(nth b.fK a.fQ).yp⟩:z1),f⟩:yn)).bind fun h=>jG (fun(o:Int)=>(vM g.1).bind fun i=>(vM h.1).bind fun p=>some (({a with yj:=(xp (xM d a i) a 0),fT:=i64 (p+c.2.1)}:yl),o,c.2.2.2,xM d a i)) fun q=>vy g h q xI 0 c.2.2.1)) fun j=>if decide ((i64 (a.ya-(b.fM.length:Int)))>=0) then chk (0<=(i64 (a.ya-(b.fM.length:Int)))/\(i64 (a.ya-(b.fM.length:Int)))<b.fS.length) (j c.1 ((nth b.fS (i64 (a.ya-(b.fM.length:Int)))).yj)) else j c.1 0
theorem cY(Z:Zp)(d:Nat)(S:Option Addr)(T:Nat)(V:Option Addr)(W:Nat)(X:Option Addr)(Y:Nat)(aa:Option Addr)(ab:Nat)(ad:Option Addr)(ae:Nat)(af:Option Addr)(ag:Nat)(ah:Option Addr)(ai:Nat)(aj:Option Addr)(ak:Nat)(al:Option Addr)(am:Nat)(b:Nat)(c:Nat)(a:zt)(B:List (List zd))(ar:List (zT×z1))(o:List (za×Int))(au:Int)(f:za)(r:yl×Int×(List (zT×z1))×(List (za×Int)))(h:gJ a B ar o au f=some r)(w₀:World)(hz:Pz [stb d 119 [vs S a.fM.length T,vs V a.yd.length W,vs X a.fS.length Y,vs aa a.fK.length ab,vs ad a.yb.length ae,vs af a.fH.length ag,vs ah a.fU.length ai,vs aj a.yc.length ak,vs al B.length am,.map (some b),.map (some c),vi au],xy b (ga qu) (ga xG) ar,xy c (ga xL) vI o] w₀ Z)(aG:ZS Z 4 (ju Z) S T a.fM)(aH:ZS Z 4 (kv Z) V W a.yd)(aw:ZS Z 4 (rq qJ) X Y a.fS)(ax:ZS Z 4 (rq qt) aa ab a.fK)(aI:ZS Z 7 (vK Z) ad ae a.yb)(aJ:ZS Z 5 (rq kK) af ag a.fH)(aK:ZS Z 3 (kw Z) ah ai a.fU)(aL:ZS Z 4 (rq kL) aj ak a.yc)(aM:ZS Z 1 (wT Z) al am B)(fh:Ho w₀ [stb d 119 [vs S a.fM.length T,vs V a.yd.length W,vs X a.fS.length Y,vs aa a.fK.length ab,vs ad a.yb.length ae,vs af a.fH.length ag,vs ah a.fU.length ai,vs aj a.yc.length ak,vs al B.length am,.map (some b),.map (some c),vi au],xy b (ga qu) (ga xG) ar,xy c (ga xL) vI o]):
  RF 43 #[vp d,.agg #[vi f.ya,vi f.fQ]] w₀ (.agg #[vi r.1.ya,vi r.1.fQ,vi r.1.yj,vi r.1.fT]) [stb d 119 [vs S a.fM.length T,vs V a.yd.length W,vs X a.fS.length Y,vs aa a.fK.length ab,vs ad a.yb.length ae,vs af a.fH.length ag,vs ah a.fU.length ai,vs aj a.yc.length ak,vs al B.length am,.map (some b),.map (some c),vi au],xy b (ga qu) (ga xG) ar,xy c (ga xL) vI o] [stb d 119 [vs S a.fM.length T,vs V a.yd.length W,vs X a.fS.length Y,vs aa a.fK.length ab,vs ad a.yb.length ae,vs af a.fH.length ag,vs ah a.fU.length ai,vs aj a.yc.length ak,vs al B.length am,.map (some b),.map (some c),vi r.2.1],xy b (ga qu) (ga xG) r.2.2.1,xy c (ga xL) vI r.2.2.2]:=by
 unfold gJ at h
 refine Kd func43 ntmps43 fh ?_
 let M:List Value:=[vi f.ya,vi f.fQ];refine WC.pool<|B0q<|Lg 3 (xP (cs:=M) U U) ?_
 intro p _
 let C:List Value:=[vi 0,vi 0,vi 0,vi 0];refine Lg 4 (xC (cs:=C) zii U) ?_
 intro q _
 refine Q0n<|WC.b<|bK h fun e aN h=>D1q U<|Le 18 (xq z6p U (xt .h1) U)<|WL.tI (dd:=19) U U U (zf call79<|.r2 U U) (.s3 .h3 .h3 .h3) (jH hz (.s3 .h3 .h3 .h3) .h2 fun w pz ho=>im _ _ _ _ _ _ _ _ _ _ _ _ _ _ _ _ _ _ _ _ _ _ _ _ _ _ _ _ _ aN w pz ((aG.mono<|zl).weak (fun _ _ h=>w3 zl h)) ((aH.mono<|zl).weak (fun _ _ h=>w9 zl h)) (aw.mono<|zl) (ax.mono<|zl) ((aI.mono<|zl).weak (fun _ _ h=>wh zl h)) (aJ.mono<|zl) ((aK.mono<|zl).weak (fun _ _ h=>wa zl h)) (aL.mono<|zl) ((aM.mono<|zl).weak (fun _ _ h=>wd zl h)) ho) ?_
 rintro t ay az aA aB
 refine WL.merge .here .h6<|Q5n U<|B1n U ?_
 obtain⟨aO,aP,h⟩:=g8 h
 let D:Value:=(vs S a.fM.length T);let E:Value:=(vs V a.yd.length W);let F:Value:=(vs X a.fS.length Y);let G:Value:=(vs aa a.fK.length ab);let H:Value:=(vs ad a.yb.length ae);let I:Value:=(vs af a.fH.length ag);let J:Value:=(vs ah a.fU.length ai);let K:Value:=(vs aj a.yc.length ak);let L:Value:=(vs al B.length am);refine WC.qN (fun(u:List (List z8)) (an:Int) (ap:List Value)=>(aO u an=some r)/\(RR 1 (qB (Z++([]++t))) ap u)) (fun u an ap=>[(0,vp d),(3,vp p),(4,vp q),(5,vs ay u.length az),(6,vi e.2.1),(7,vi an)]) (fun u an ap=>[fz ([]++t),row (vs ay u.length az) 227 1 ap,stb d 119 [D,E,F,G,H,I,J,K,L,(.map<|some b),(.map<|some c),vi e.2.2.1],stb p 121 M,stb q 37 C,xy b (ga qu) (ga xG) e.2.2.2,xy c (ga xL) vI o]) ?_ ?_
 ·refine WC.b<|Lw nc [] U<|Lf 0 22 U (xk sE U U)<|Li 1 23 U (xl xB U<|xu .h6 U)<|Lf 2 24 U (q_m U)<|Lf 3 25 U (wx U)<|Lf 4 26 U (xk md U U)<|Lf 5 27 U (xk uc U U)<|Li 6 28 U (xl zaF U<|xu .h2 U)<|Lf 7 29 U (xQ underlying22 U)<|Lf 8 30 U (sM U U U)<|Lf 9 8 U (q_z U)<|WD.done (by kernel_rfl)<|Lb<|B2n U<|Lj U h (fun aQ h=>?_)<|fun aQ h=>?_
  ·refine cK h fun aR h=>D1q U<|Le 34 (wx U)<|Le 35 (xk md U U)<|Le 36 (xk rZ U U)<|Le 37 (xl zih U<|xu .h2 U)<|La U<|L2 (dd:=39) U U (Z:=(Z++([]++t))) (Pr:=(rq qJ)) zlL U U (aw.mono<|zl.trans (zl.trans (xm.xH _ _ _))) aR ?_
   rintro bb bc aS bd rfl
   exact Le 40 (xk cG U U)<|Le 41 (xl xB U<|wy (hz.pv2 .here) aS U)<|La U<|WL.nil<|Lp ⟨e.1,(nth a.fS<|i64 (f.ya-(a.fM.length:Int))).yj,aA⟩ ⟨h,(aB.weak<|fun _ _ h=>jv (xm.xH _ _ _) h)⟩ (.q U)<|.s7 .here .here .here .h3 .h2 .here .here
  ·exact WC.skip<|Lp ⟨e.1,0,aA⟩ ⟨h,(aB.weak<|fun _ _ h=>jv (xm.xH _ _ _) h)⟩ (.q U)<|.s7 .here .here .here .h3 .h2 .here .here
 ·rintro u an ap ⟨h,aC⟩
  replace h:=(aP u an).symm.trans h
  refine WC.b<|cK h fun aT h=>bK h fun aD aU h=>Lw (fun i=>[15].contains i) [] U<|Lf 0 42 U (q_m U)<|Lf 1 43 U (wx U)<|Lf 2 44 U (xk md U U)<|Lf 3 45 U (xk uT U U)<|Li 4 46 U (xl zbZ U<|xu .h2 U)<|Lf 5 47 U (xk ph U U)<|Li 6 48 U (xl xB U<|xu .h3 U)<|L8 (j:=7) (dd:=49) (by kernel_rfl) U z2J z2K U U (Z:=(Z++([]++t))) (Pr:=(rq qt)) zga U U (ax.mono<|zl.trans (zl.trans (xm.xH _ _ _))) aT ?_
  rintro be bf aV bg rfl
  let Q:Value:=(vi ((nth a.fK f.fQ).yp));refine Lf 8 50 U (xk sD U U)<|Li 9 51 U (xl xB U<|wy (hz.pv2 .here) aV U)<|Lf 10 52 U (xU (v:=(.agg #[vi 1,Q])) (Lq (l:=[.const (vi 1),.tmp 51]) (.r2 U U) [0,1]) (fun _=>by kernel_rfl))<|Lf 11 53 U (q_m U)<|L5 12 54 U (zf call80<|.cons U .nil) (jH hz .nil .here fun w pz ho=>gF _ _ _ aU w pz )<|Lf 13 55 U (xU (v:=(.agg #[vi 1,Q,vi aD.fN,vi aD.fD])) (Lq (l:=[.tmp 52,.tmp 54]) (.r2 U U) [0,1]) (fun _=>by kernel_rfl))<|WD.new (i:=14) (dd:=9) U (by kernel_rfl) U U U (xC (cs:=C) zJf U) (fun h'=>absurd h' (by decide)) ?_
  intro bh _
  refine WD.jf (i:=15) U (by kernel_rfl) U U U (by kernel_rfl) (xx zJg U U U .here U U U)<|WD.done (by kernel_rfl)<|Lb<|WC.b<|bK h fun g aW h=>D1q U<|Le 58 (xq zlR U (xt .here) U)<|Lm 59 (zf call81<|.r2 U U) .nil (ta hz .nil .h1 (.cons .h2 .nil) fun w pz ho la=>bM _ _ _ _ _ _ aW w pz<|ZA.row (la _ (.head _) _) (aC.weak<|fun _ _ h=>jv zl h) ⟨w,pz.1⟩)<|Q2q U<|La U (Lg 10 (xC (cs:=[vi 0,vi 0]) z1d U) fun x _=>Lk U U (xx zI U U U .here U U U)<|Q1n U<|WC.b ?_)
  refine bK h fun m aX h=>D1q U<|Le 64 (xq zlR U (xt .h1) U)<|Lm 65 (zf call82<|.r2 U U) .nil (ta hz .nil .h2 (.cons .h3 .nil) fun w pz ho la=>iT _ _ _ _ _ _ aX w pz<|ZA.row (la _ (.head _) _) (aC.weak<|fun _ _ h=>jv zl h) ⟨w,pz.1⟩)<|Q2q U<|La U (Lg 12 (xC (cs:=[vi 0,vi 0]) z1d U) fun y _=>Lk U U (xx zI U U U .here U U U)<|Q1n U ?_)
  obtain⟨aE,aY,h⟩:=wv h
  let O:List Value:=[vi g.1.fN,vi g.1.fD];let P:List Value:=[vi m.1.fN,vi m.1.fD];refine WC.jh (fun(ao:Int)=>(aE ao=some r)) (fun ao=>[(0,vp d),(3,vp p),(4,vp q),(6,vi e.2.1),(10,vp x),(12,vp y)]) (fun ao=>[fz ([]++t),stb d 119 [D,E,F,G,H,I,J,K,L,(.map<|some b),(.map<|some c),vi ao],stb p 121 M,stb q 37 C,stb x 175 O,stb y 175 P,xy b (ga qu) (ga xG) e.2.2.2,xy c (ga xL) vI o]) ?_ ?_
  ·refine WC.b<|Ld<|La U<|La U<|Lg 70 (xV (cs:=([g.2,m.2]:List Int).flatMap e41) zAJ (Lq (l:=[.tmp 68,.tmp 69]) (.r2 U U) [0,1]) (fun _=>by kernel_rfl) U (by unfold maxLen;omega)) ?_
   intro aZ _
   let A:Value:=(vs (some ⟨aZ,0,none⟩) (([g.2,m.2]:List Int).length) 2);let N:Value:=(vi (([g.2,m.2]:List Int).length:Int));refine Le 71 (xQ underlying181 U)<|Q1n U<|WC.block<|WC.p9 (fun(aq:Nat) (n:Int) (s:Int)=>(vy g m aE aq n s=some r)) (fun aq n s=>[(0,vp d),(3,vp p),(4,vp q),(6,vi e.2.1),(10,vp x),(12,vp y),(70,A),(71,N),(72,vi n)]) (fun aq n s=>[fz ([]++t),row A 41 1 (([g.2,m.2]:List Int).flatMap e41),stb d 119 [D,E,F,G,H,I,J,K,L,(.map<|some b),(.map<|some c),vi s],stb p 121 M,stb q 37 C,stb x 175 O,stb y 175 P,xy b (ga qu) (ga xG) e.2.2.2,xy c (ga xL) vI o]) (fun aq n s=>aq) ⟨xI,0,e.2.2.1⟩ h (.q U) (.s9 .h4 .here .h4 .h4 .h4 .h1 .here .h2 .h2) ?_
   rintro(_|a0) n s h;·cases h
   rw[vy] at h
   refine B1n U<|WC.b<|Lj U h (fun a1 h=>?_)<|fun a1 h=>?_
   ·refine WC.skip<|Lb<|jK1 h fun a2 a3 h=>WC.jh (fun(R:Int)=>(a2 R=some r)) (fun R=>[(0,vp d),(3,vp p),(4,vp q),(6,vi e.2.1),(10,vp x),(12,vp y),(70,A),(71,N),(72,vi n)]) (fun R=>[fz ([]++t),row A 41 1 (([g.2,m.2]:List Int).flatMap e41),stb d 119 [D,E,F,G,H,I,J,K,L,(.map<|some b),(.map<|some c),vi R],stb p 121 M,stb q 37 C,stb x 175 O,stb y 175 P,xy b (ga qu) (ga xG) e.2.2.2,xy c (ga xL) vI o]) ?_ ?_
    ·refine WC.block<|WC.b<|cK h fun av h=>Ld<|Le 74 (w7 zAJ U U av.1 av.2 qQ)<|Le 75 (xl z5S U<|uy .h1<|(jb (enc:=e41) (l:=([g.2,m.2]:List Int)) (i:=n) (sz:=1) (fun _=>U) av.1 av.2) 0 _ U)<|Q1n U<|jK1 h fun a4 a5 h=>WC.jh (fun(z:Int)=>(a4 z=some r)) (fun z=>[(0,vp d),(3,vp p),(4,vp q),(6,vi e.2.1),(10,vp x),(12,vp y),(15,vi z),(70,A),(71,N),(72,vi n)]) (fun z=>[fz ([]++t),row A 41 1 (([g.2,m.2]:List Int).flatMap e41),stb d 119 [D,E,F,G,H,I,J,K,L,(.map<|some b),(.map<|some c),vi s],stb p 121 M,stb q 37 C,stb x 175 O,stb y 175 P,xy b (ga qu) (ga xG) e.2.2.2,xy c (ga xL) vI o]) ?_ ?_
     ·refine B2n U<|Lj U h (fun a6 h=>?_)<|fun a6 h=>?_
      ·exact D1q U<|WL.nil<|Lp 352 h (.q U)<|.a9
      ·exact WC.skip<|Lp (nth ([g.2,m.2]:List Int) n) h (.q U)<|.a9
     ·rintro z h
      replace h:=(a5 z).symm.trans h
      refine B1q U<|Le 79 (wx U)<|Le 80 (xk sF U U)<|Le 81 (xl z5S U<|xu .h2 U)<|Q1n U<|Lj U h (fun a7 h=>?_)<|fun a7 h=>?_
      ·exact D2q U<|Le 85 (wx U)<|Le 86 (xk sF U U)<|Lk U U (jU (ds:=[D,E,F,G,H,I,J,K,L,(.map<|some b),(.map<|some c),vi z]) zlQ U U U U U .h2 U U)<|WL.nil<|Lu<|Lp z h (.q U)<|.s9 .h1 .h1 .here .here .here .here .here .here .here
      ·exact WC.skip<|Lu<|Lp s h (.q U)<|.a9
    ·rintro R h
     replace h:=(a3 R).symm.trans h
     exact D2q U<|WL.nil<|WX.round ⟨a0,i64 (n+1),R⟩ h (Nat.lt_succ_self _) (.q U)<|.a9
   ·exact WC.exit<|Ln<|Ln<|Lx<|Lp s h (.q U)<|.s8 .here .h1 .h1 .h1 .h1 .h1 .h1 .h1
  ·rintro ao h
   replace h:=(aY ao).symm.trans h
   refine WC.b<|bK h fun aF a8 h=>Lw (fun i=>[7].contains i) [] U<|Lf 0 88 U (q_m U)<|Lf 1 89 U (wx U)<|Lf 2 90 U (xk bJ U U)<|Li 3 91 U (xl zlO U<|xu .h1 U)<|Li 4 92 U (xq z6p U (xt .h2) U)<|Li 5 93 U (xq zi U (xt .h4) U)<|L5 6 94 U (zf call83<|.cons U .nil) (jH hz .nil .here fun w pz ho=>tt _ _ _ a8 w pz )<|WD.jf (i:=7) U (by kernel_rfl) U U U (by kernel_rfl) (jE (k:=f) (v:=aF) ze3 underlying117 U U U U .h7)<|WD.done (by kernel_rfl)<|Lb<|WC.b<|bK h fun a9 ba h=>Lw (fun i=>[15].contains i) [] U<|Lf 0 95 U (xk sE U U)<|Li 1 96 U (xl xB U<|xu .h3 U)<|Lf 2 97 U (xk ph U U)<|Li 3 98 U (xl xB U<|xu .h3 U)<|Lf 4 99 U (q_m U)<|Lf 5 100 U (wx U)<|Lf 6 101 U (xk bJ U U)<|Li 7 102 U (xl zlO U<|xu .h2 U)<|Li 8 103 U (xq z6p U (xt .h3) U)<|Li 9 104 U (qz (k:=f) (dflt:=(0:Int)) ze3 underlying117 qk U U U .here)<|Li 10 105 U (xq zi U (xt .h6) U)<|L5 11 106 U (zf call83<|.cons U .nil) (jH hz .nil .h1 fun w pz ho=>tt _ _ _ ba w pz )<|Lf 12 107 U (q_m U)<|Lf 13 108 U (tR U U U)<|Lf 14 109 U (xU (v:=(.agg #[vi f.ya,vi f.fQ,(vi<|xp (xM o f aF) f 0),(vi<|i64 (a9+e.2.1))])) (Lq (l:=[.tmp 96,.tmp 98,.tmp 104,.tmp 108]) (.r4 U U U U) [0,1,2,3]) (fun _=>by kernel_rfl))<|WD.jf (i:=15) U (by kernel_rfl) U U U (by kernel_rfl) (xx zgb U U U .h4 U U U)<|WD.done (by kernel_rfl)<|Lb<|WC.ret ?_
   obtain rfl:=oJ h
   exact Lh results43 (.agg U zc3 U (xt .here) .nil)<|fun w hw=>⟨xK U,hw.sub (.s3 .h3 .h6 .h1)⟩
def vG(a:yl)(b:yl):Option Int:=
 (wM (⟨a.ya,a.fQ⟩:za) (⟨b.ya,b.fQ⟩:za)).bind fun c=>some c
theorem cZ(Z:Zp)(a:yl)(b:yl)(r:Int)(h:vG a b=some r)(w₀:World)(hz:PZ [] w₀ Z):
  RC 44 #[.agg #[vi a.ya,vi a.fQ,vi a.yj,vi a.fT],.agg #[vi b.ya,vi b.fQ,vi b.yj,vi b.fT]] w₀ (vi r) [] []:=by
 unfold vG at h
 refine L0 func44 ntmps44 ?_
 refine WC.b<|Ld (Lg 2 (xP (cs:=[vi a.ya,vi a.fQ,vi a.yj,vi a.fT]) U U) fun d _=>Lg 3 (xP (cs:=[vi b.ya,vi b.fQ,vi b.yj,vi b.fT]) U U) fun e _=>Q1n U<|WC.b ?_)
 refine bK h fun f c h=>Ld<|Le 5 (xk uU U U)<|Le 6 (xl xB U<|xu .h1 U)<|Le 7 (xk sI U U)<|Le 8 (xl xB U<|xu .h1 U)<|Le 9 (xU (v:=(.agg #[vi a.ya,vi a.fQ])) (Lq (l:=[.tmp 6,.tmp 8]) (.r2 U U) [0,1]) (fun _=>by kernel_rfl))<|Le 10 (xk uU U U)<|Le 11 (xl xB U<|xu .here U)<|Le 12 (xk sI U U)<|Le 13 (xl xB U<|xu .here U)<|Le 14 (xU (v:=(.agg #[vi b.ya,vi b.fQ])) (Lq (l:=[.tmp 11,.tmp 13]) (.r2 U U) [0,1]) (fun _=>by kernel_rfl))<|Lm 15 (zf call45<|.r2 U U) .nil (cc hz .nil fun w pz ho=>tY _ _ _ _ c w pz )<|Q1n U<|WC.ret ?_
 obtain rfl:=oJ h
 exact Lh results44 (.tmp U .nil)<|fun w hw=>⟨xK U,hw.sub .nil⟩
theorem zWr:∀ w,(isAgg (Tryz.jQ.t 24)).run Tryz.prog w = .ok true w:=fun _=>by kernel_rfl
theorem zWs:∀ w,(Go.sizeOf (Tryz.jQ.t 24)).run Tryz.prog w = .ok 4 w:=fun _=>by kernel_rfl
def qf(z6X:List yl)(zo3:Int)(zo4:Int)(zkK:Int)(zhB:yl->yl->Option Int):Option (List yl):=chk ((zo3=0/\zo4=(z6X.length:Int))/\(0<=zkK/\zkK<4611686018427387904/\z6X.length<4611686018427387904)) (chk (tB zhB (w8 zhB z6X)=true) (some (w8 zhB z6X)))
theorem uv(Z:Zp)(zhC:Option Addr)(zhD:Nat)(zo5:FuncId)(zyf:List Value)(z6X:List yl)(zo3:Int)(zo4:Int)(zkK:Int)(zhB:yl->yl->Option Int)(r:List yl)(w₀:World)(hz:Pz [row (vs zhC z6X.length zhD) 37 4 (z6X.flatMap wP)] w₀ Z)(a:∀ args w,(callFunc zo5 args).run Tryz.prog w = .ok (.enter zo5 args) w)(b:∀ w:World,PZ [] w Z->∀(x0:yl) (x1:yl) (r:Int),zhB x0 x1=some r->Calls Tryz.prog zo5 (([.agg #[vi x0.ya,vi x0.fQ,vi x0.yj,vi x0.fT],.agg #[vi x1.ya,vi x1.fQ,vi x1.yj,vi x1.fT]]:List Value)++zyf).toArray w fun e w'=>e = .returned (vi r)/\Hp [] w w' [])(h:qf z6X zo3 zo4 zkK zhB=some r)(fh:Ho w₀ [row (vs zhC z6X.length zhD) 37 4 (z6X.flatMap wP)]):
  Calls Tryz.prog 56 #[vs zhC z6X.length zhD,vi zo3,vi zo4,vi zkK,.func (.func zo5) #[] (zyf).toArray] w₀ fun e w'=>e = .returned (.tuple #[])/\(r.length=z6X.length)/\Hp (fps [row (vs zhC z6X.length zhD) 37 4 (z6X.flatMap wP)]) w₀ w' [row (vs zhC r.length zhD) 37 4 (r.flatMap wP)]:=by
 obtain⟨h0,h⟩:=xv h
 obtain⟨h1,h⟩:=xv h
 have hr:=(oJ h).symm
 exact sW (P:=Tryz.prog) (f:=56) (e:=37) (k:=4) (enc:=wP) (fun _=>U) (by decide) di (fun β _ enc cf g cb hO xR off cap d0 w0 eg hC R=>Tryz.sY 4 zWr zWs enc cf g cb hO xR off cap d0 w0 eg hC R) (Tryz.sC (α:=Unit)) hz a b h0 h1 hr fh
def xY(a:List yl)(zhE:yl->yl->Option Int):Option (List yl):=
 (kq (u64 (a.length:Int))).bind fun b=>(qf a 0 (a.length:Int) b zhE).bind fun c=>some c
theorem kj(Z:Zp)(b:Option Addr)(c:Nat)(zhF:FuncId)(zo6:List Value)(a:List yl)(zhE:yl->yl->Option Int)(r:List yl)(h:xY a zhE=some r)(w₀:World)(hz:Pz [row (vs b a.length c) 37 4 (a.flatMap wP)] w₀ Z)(j:∀ args w,(callFunc zhF args).run Tryz.prog w = .ok (.enter zhF args) w)(k:∀ w:World,PZ [] w Z->∀(x0:yl) (x1:yl) (r:Int),zhE x0 x1=some r->Calls Tryz.prog zhF (([.agg #[vi x0.ya,vi x0.fQ,vi x0.yj,vi x0.fT],.agg #[vi x1.ya,vi x1.fQ,vi x1.yj,vi x1.fT]]:List Value)++zo6).toArray w fun e w'=>e = .returned (vi r)/\Hp [] w w' [])(fh:Ho w₀ [row (vs b a.length c) 37 4 (a.flatMap wP)]):
  Calls Tryz.prog 26 #[vs b a.length c,.func (.func zhF) #[] (zo6).toArray] w₀ fun e w'=>e = .returned (.tuple #[])/\(r.length=a.length)/\Hp (fps [row (vs b a.length c) 37 4 (a.flatMap wP)]) w₀ w' [row (vs b r.length c) 37 4 (r.flatMap wP)]:=by
 unfold xY at h
 refine Kd func26 ntmps26 fh ?_
 refine B1q U<|Le 6 (xQ underlying33 U)<|Q1n U<|bK h fun d l h=>bK h fun f m h=>D3q U<|Le 10 (tk underlying3 underlying147 U U)<|Lm 11 (zf call57<|.cons U .nil) .nil (cc hz .nil fun w pz ho=>tZ (Z:=_)  (z9m:=(u64 (a.length:Int))) (r:=d) w pz  l)<|La U<|WL.gj (dd:=13) U U U (zf call56<|.r5 U U U U U) (.cons .here .nil) (cc hz (.cons .here .nil) fun w pz ho=>uv (Z:=_) (zhC:=b) (zhD:=c) (zo5:=zhF) (zyf:=zo6) (z6X:=a) (zo3:=0) (zo4:=(a.length:Int)) (zkK:=d) (zhB:=zhE) (r:=f) w pz j k m ho) ?_
 rintro  g
 refine Ke (i:=0) U (u:=(vs b f.length c)) (ue g.symm)<|WL.nil ?_
 obtain rfl:=oJ h
 exact WX.gP results26 .nil<|fun w hw=>⟨sp,g.trans U,hw.sub (.cons .here .nil)⟩
def kl(a:List zd)(c:Option Bool):Nat->Int->Option Bool
 | 0,_=>none
 | e+1,b=>if decide (b<a.length) then chk (0<=b/\b<a.length) (chk ((0:Int)<=0/\(0:Int)<=b/\b<=a.length) ((gV (a.take (b:Int).toNat) ((nth a b).ya)).bind fun d=>chk ((!d.2)=true->((0:Int)<=0/\0<(a.length:Int))) (if (!d.2)&&(decide (((nth a b).ya)≠((nth a 0).ya))) then some false else kl a c e (i64 (b+1))))) else c
def uM(a:List zd):Option Bool:=
 mh (some true) fun b=>kl a b xI 0
theorem ah(Z:Zp)(f:Option Addr)(g:Nat)(b:List zd)(r:Bool)(h:uM b=some r)(w₀:World)(hz:PZ [] w₀ Z)(k:ZS Z 3 (rq gk) f g b):
  RC 59 #[vs f b.length g] w₀ (.bool r) [] []:=by
 unfold uM at h
 refine L7 func59 ntmps59 ?_
 refine B1n U<|jK0 h fun m p h=>L9 (m=some r) ([]) ([]) ?_ ?_
 ·let A:Value:=(vs f b.length g);let D:Value:=(vi (b.length:Int));refine B1q U<|Le 8 (xQ underlying58 U)<|Q1n U<|WC.block<|Ka (fun(d:Nat) (a:Int)=>(kl b m d a=some r)) (fun d a=>[(0,A),(7,A),(8,D),(9,vi a)]) (fun d a=>[]) (fun d a=>d) ⟨xI,0⟩ h (.q U) .nil ?_
  rintro(_|q) a h;·cases h
  rw[kl] at h
  refine B1n U<|WC.b<|Lj U h (fun s h=>?_)<|fun s h=>?_
  ·refine WC.skip<|Lb<|WC.b<|WC.block<|WC.b<|cK h fun t h=>D1q U<|L2 (dd:=12) U U (Z:=Z) (Pr:=(rq gk)) z8e U U k t ?_
   rintro u K v L rfl
   refine Le 13 (xq z5R U (vY hz.pv v) U) (Lg 4 (xC (cs:=[vi 0,vi 0,vi 0]) zc0 U) fun n _=>La U<|Lk U U (xx zaG U U U .here U U U)<|Q0n<|WC.b ?_)
   refine cK h fun x h=>bK h fun c y h=>Lw (fun i=>[10].contains i) [] U<|Lf 0 15 U (q_m U)<|Lf 1 16 U (q_m U)<|WD.zsub (j:=2) (dd:=17) (by kernel_rfl) U z2J z2K U U (Z:=Z) (Pr:=(rq gk)) z8e U k (fun _=>ixn) (fun _=>ixo U) U U x (List.drop_zero).symm ?_
   rintro z B E
   refine Lf 3 18 U (xk km U U)<|Li 4 19 U (xl xB U<|xu .here U)<|L5 5 20 U (zf call77<|.r2 U U) (cc hz .nil fun w pz ho=>pl _ _ _ _ _ _ y w pz E)<|Lf 6 14 U (q_m U)<|Lf 7 21 U (ka U U)<|Lf 8 22 U (ka U U) (WD.new (i:=9) (dd:=5) U (by kernel_rfl) U U U (xC (cs:=[vi 0,vi 0,vi 0]) zc0 U) (fun h'=>absurd h' (by decide)) fun F _=>WD.forced0 (i:=10) U (by kernel_rfl) U U U (ws.of .nil) (xx zaG U U U .here U U U)<|Lf 11 6 U (q_z U)<|WD.done (by kernel_rfl)<|Lb<|WC.b ?_)
   obtain⟨G,h⟩:=xv h
   let C:Value:=(.agg #[vi c.1.ya,vi c.1.yh,vi c.1.fQ]);refine Lw nc [] U<|Lf 0 23 U (q_m U)<|Lf 1 24 U (X2 U)<|Lf 2 25 U (q_m U)<|Kb (fuel':=0) [(0,A),(7,A),(8,D),(9,vi a),(10,(.bool<|decide (a<b.length))),(11,vi a),(12,vq u),(13,.agg #[(vi<|(nth b a).ya),(vi<|(nth b a).yh),(vi<|(nth b a).fQ)]),(4,vp n),(3,vi a),(15,A),(16,vi a),(17,vs z ((b.take (a:Int).toNat).length) B),(18,vp n),(19,(vi<|(nth b a).ya)),(20,.tuple #[C,.bool c.2]),(14,.tuple #[C,.bool c.2]),(21,C),(22,.bool c.2),(5,vp F),(6,.bool c.2),(23,.bool c.2),(24,.bool (!c.2)),(25,.bool (!c.2)),(33,(.bool<|(!c.2)&&(decide (((nth b a).ya)≠((nth b 0).ya)))))] (wm 11 (dn 11)) ?_<|fun o=>?_
   rotate_left
   ·rcases Bool.eq_false_or_eq_true (!c.2) with hb' | hb'
    ·have e:=hb';clear hb'
     have H:=G e
     refine L3 (i:=25) U e<|Lf 3 26 U (xk km U U)<|Li 4 27 U (xl xB U<|xu .h1 U)<|Lf 5 28 U (q_m U)<|L8 (j:=6) (dd:=29) (by kernel_rfl) U z2J z2K U U (Z:=Z) (Pr:=(rq gk)) z8e U U k H ?_
     rintro M N I O rfl
     refine Lf 7 30 U (xk km U U)<|Li 8 31 U (xl xB U<|wy hz.pv I U)<|Lf 9 32 U (cz U U)<|Lf 10 33 U (jI U U)<|Lt (.a2) ?_ o
     exact .r25 U U U U U U U U U U U U U U U U U U U U U U U (zL<|Eq.symm e)<|zL<|kc e
    ·have l:=hb';clear hb'
     refine L3 (i:=25) U l<|Lo 3 26 U<|Lo 4 27 U<|Lo 5 28 U<|Lo 6 29 U<|Lo 7 30 U<|Lo 8 31 U<|Lo 9 32 U<|Lf 10 33 U (jJ U U)<|Lt (.a2) ?_ o
     exact .r25 U U U U U U U U U U U U U U U U U U U U U U U (zL<|Eq.symm l)<|zL<|kb l
   refine WD.done (by kernel_rfl)<|Lb<|Lj U h (fun J h=>?_)<|fun J h=>?_
   ·refine B1n U<|WC.ret<|Lv<|Ll<|Ll<|Lv<|Ll ?_
    obtain rfl:=oJ h
    exact Lh results59 (.tmp U .nil)<|fun w hw=>⟨xK U,hw.sub .nil⟩
   ·exact WC.skip<|Lu<|Lb<|D2q U<|WL.nil<|WX.round ⟨q,i64 (a+1)⟩ h (Nat.lt_succ_self _) (.q U) .nil
  ·exact WC.exit<|Ln<|Ln<|Lx<|Lp () h .nil .nil
 ·rintro  h
  replace h:=p.symm.trans h
  refine B1n U<|WC.ret ?_
  obtain rfl:=oJ h
  exact Lh results59 (.tmp U .nil)<|fun w hw=>⟨xK U,hw.sub .nil⟩
def kE(a:List zd):Option Bool:=
 (uM a).bind fun b=>some (!b)
theorem ez(Z:Zp)(b:Option Addr)(c:Nat)(a:List zd)(r:Bool)(h:kE a=some r)(w₀:World)(hz:PZ [] w₀ Z)(d:ZS Z 3 (rq gk) b c a):
  RC 58 #[vs b a.length c] w₀ (.bool r) [] []:=by
 unfold kE at h
 refine L7 func58 ntmps58 ?_
 refine B1n U<|WC.b<|bK h fun f e h=>D1q U<|Lm 4 (zf call59<|.cons U .nil) .nil (cc hz .nil fun w pz ho=>ah _ _ _ _ _ e w pz d)<|Q2n U<|WC.ret ?_
 obtain rfl:=oJ h
 exact Lh results58 (.tmp U .nil)<|fun w hw=>⟨xK U,hw.sub .nil⟩
def jd(a:zo)(b:zo):Option Int:=
 some (i64 (a.ya-b.ya))
theorem eB(Z:Zp)(a:zo)(b:zo)(r:Int)(h:jd a b=some r)(w₀:World)(hz:PZ [] w₀ Z):
  RC 62 #[.agg #[vi a.yJ,vi a.ya,vi a.yj],.agg #[vi b.yJ,vi b.ya,vi b.yj]] w₀ (vi r) [] []:=by
 unfold jd at h
 refine L0 func62 ntmps62 ?_
 refine WC.b<|Ld (Lg 2 (xP (cs:=[vi a.yJ,vi a.ya,vi a.yj]) U U) fun c _=>Lg 3 (xP (cs:=[vi b.yJ,vi b.ya,vi b.yj]) U U) fun d _=>Q1n U<|B0q<|Le 5 (xk YD U U)<|Le 6 (xl xB U<|xu .h1 U)<|Le 7 (xk YD U U)<|Le 8 (xl xB U<|xu .here U)<|Q2n U<|WC.ret ?_)
 obtain rfl:=oJ h
 exact Lh results62 (.tmp U .nil)<|fun w hw=>⟨xK U,hw.sub .nil⟩
theorem zWQ:∀ w,(isAgg (Tryz.jp.t 24)).run Tryz.prog w = .ok true w:=fun _=>by kernel_rfl
theorem zWR:∀ w,(Go.sizeOf (Tryz.jp.t 24)).run Tryz.prog w = .ok 3 w:=fun _=>by kernel_rfl
def kN(z6Y:List zo)(zo8:Int)(zo9:Int)(zkM:Int)(zhI:zo->zo->Option Int):Option (List zo):=chk ((zo8=0/\zo9=(z6Y.length:Int))/\(0<=zkM/\zkM<4611686018427387904/\z6Y.length<4611686018427387904)) (chk (tB zhI (w8 zhI z6Y)=true) (some (w8 zhI z6Y)))
theorem tP(Z:Zp)(zhJ:Option Addr)(zhK:Nat)(zoa:FuncId)(zyj:List Value)(z6Y:List zo)(zo8:Int)(zo9:Int)(zkM:Int)(zhI:zo->zo->Option Int)(r:List zo)(w₀:World)(hz:Pz [row (vs zhJ z6Y.length zhK) 53 3 (z6Y.flatMap vC)] w₀ Z)(a:∀ args w,(callFunc zoa args).run Tryz.prog w = .ok (.enter zoa args) w)(b:∀ w:World,PZ [] w Z->∀(x0:zo) (x1:zo) (r:Int),zhI x0 x1=some r->Calls Tryz.prog zoa (([.agg #[vi x0.yJ,vi x0.ya,vi x0.yj],.agg #[vi x1.yJ,vi x1.ya,vi x1.yj]]:List Value)++zyj).toArray w fun e w'=>e = .returned (vi r)/\Hp [] w w' [])(h:kN z6Y zo8 zo9 zkM zhI=some r)(fh:Ho w₀ [row (vs zhJ z6Y.length zhK) 53 3 (z6Y.flatMap vC)]):
  Calls Tryz.prog 110 #[vs zhJ z6Y.length zhK,vi zo8,vi zo9,vi zkM,.func (.func zoa) #[] (zyj).toArray] w₀ fun e w'=>e = .returned (.tuple #[])/\(r.length=z6Y.length)/\Hp (fps [row (vs zhJ z6Y.length zhK) 53 3 (z6Y.flatMap vC)]) w₀ w' [row (vs zhJ r.length zhK) 53 3 (r.flatMap vC)]:=by
 obtain⟨h0,h⟩:=xv h
 obtain⟨h1,h⟩:=xv h
 have hr:=(oJ h).symm
 exact sW (P:=Tryz.prog) (f:=110) (e:=53) (k:=3) (enc:=vC) (fun _=>U) (by decide) aa (fun β _ enc cf g cb hO xR off cap d0 w0 eg hC R=>Tryz.sv 3 zWQ zWR enc cf g cb hO xR off cap d0 w0 eg hC R) (Tryz.sd (α:=Unit)) hz a b h0 h1 hr fh
end Go.Proofs.YthjnhebofpebpaaGreat
