/- A part of this claim's proof: models of functions, walks, plain laws. No conditions. -/
import Derived.Test.YtcahmabkeaijdaaGreatW35xd
set_option linter.all false
namespace Go.Proofs.YtcahmabkeaijdaaGreat
open Go Go.RowKit Sep Tryz
set_option maxRecDepth 30000
set_option maxHeartbeats 4000000
def kf(c:List (List z6))(d:yt)(e:z2)(a:List z2)(f:Int):Option (Bool×(Nat×List z2×Int)):=
 (mT (⟨f⟩:ys) e c d).bind fun b=>(if decide ((a.length:Int)=0) then some true else chk ((0:Int)<=0/\0<(a.length:Int)) ((vZ b.1 (⟨(nth a 0).fN,(nth a 0).fD⟩:z2)).bind fun g=>some (decide (g>0)))).bind fun h=>if h then some (true,(0,([b.1]:List z2),b.2.fE)) else some (true,(0,a,b.2.fE))
def fo(d:List (List z6))(j:yt)(a:List (List z6))(b:yt)(e:List z2):Option (z2×Int):=
 (qR d j a b e).bind fun g=>if decide (g≠0) then some ((⟨0,0⟩:z2),g) else sK (fun(h:Int) (f:List z2)=>if decide (h≠0) then some ((⟨0,0⟩:z2),h) else chk ((0:Int)<=0/\0<(f.length:Int)) (some ((⟨(nth f 0).fN,(nth f 0).fD⟩:z2),0))) fun k=>(ke d j a b e).bind fun c=>(qj (Nat×List z2×Int) (fun(x:z2) (s:Nat×List z2×Int)=>chk (s.1=0) (kf a b x s.2.1 s.2.2)) (0,([]:List z2),0) d (⟨(⟨c.1,c.2.1⟩:z2),(⟨c.2.2.1,c.2.2.2⟩:z2)⟩:yt) a b e).bind fun i=>k i.2.2 i.2.1
theorem dV(Z ae af ag ap aq ah ai ak V j T t W r)(h:fo V j T t W=some r){Nv}(hz:PZ [] Nv Z)(ar:ZS Z 1 (jJ Z) ae af V)(al:ZS Z 1 (jJ Z) ap aq T)(am:ZC Z ag [vs ap T.length aq])(an:ZC Z ah [vi t.fR.fN,vi t.fR.fD,vi t.fL.fN,vi t.fL.fD])(au:ZS Z 2 (rq xZ) ai ak W):
  RC 77 #[.agg #[vs ae V.length af,vi j.fR.fN,vi j.fR.fD,vi j.fL.fN,vi j.fL.fD,.func (.func 72) #[] #[vq ag,vq ah],vs ai W.length ak]] Nv (.tuple #[.agg #[vi r.1.fN,vi r.1.fD],vi r.2]) [] []:=by
 unfold fo at h
 let F:Value:=(.func (.func 72) #[] #[vq ag,vq ah]);let M:Value:=(vs ae V.length af);let N:Value:=(vs ai W.length ak);let H:Value:=(.agg #[M,vi j.fR.fN,vi j.fR.fD,vi j.fL.fN,vi j.fL.fD,F,N]);refine At (vs:=[H]) (pre:=[]) (env:=[(0,H)]) func77 U ntmps77 U (Hp.nil Nv _) U ?_
 let E:List Value:=[M,vi j.fR.fN,vi j.fR.fD,vi j.fL.fN,vi j.fL.fD,F,N];refine B0q<|Lh 1 (wg (cs:=E)) ?_
 intro m _
 refine Lh 2 (xW (cs:=[vi 0,vi 0]) z1s) fun n _=>Q1n U<|WC.b<|WC.b<|bK h fun aZ aK h=>Ld<|Le 9 (xK zlZ (xM .h1))<|Nr call109 hz (fun pz=>pP _ _ _ _ _ _ _ _ _ _ _ _ _ _ _ aK pz ar al am an au)<|Q1n U<|B2n U<|Lj h (fun aL h=>?_)<|fun aL h=>?_
 ·exact B0q<|Le 13 (wm (v:=(.agg #[vi 0,vi 0])) (Lq (l:=[]) .nil []) (fun _=>by kernel_rfl))<|La U<|Ln (xP z12 .here)<|Q1n U<|Nw<|Ll<|oJ h▸O0 results77 (.agg U ze U (xM .here)<|.tmp U .nil) fun w hw=>⟨qz,hw.sub .nil⟩
 ·refine Nn<|B0q (Lh 5 (xW (cs:=[vi 0]) zy2) fun c _=>Q0n<|B0q (Lh 6 (xW (cs:=[vn]) zy3) fun k _=>Q0n ?_))
  refine jK2 h fun a0 aM h=>Pn (fun X y o Y aa=>(a0 y o=some r)) (fun X y o Y aa=>[(2,vp n),(5,vp c),(6,vp k)]) (fun X y o Y aa=>[stb n 132 [vi 0,vi 0],stb c 225 [vi y],stb k 175 [vs Y o.length aa],row (vs Y o.length aa) 132 2 (o.flatMap xZ),gS X]) ?_ ?_
  ·refine WC.b<|bK h fun u aN h=>Ld<|Le 15 (xK zlZ (xM .h3))<|Pj (dd:=16) U U U (Ns call110) .nil (cc hz .nil fun w pz ho=>pn _ _ _ _ _ _ _ _ _ _ _ _ _ _ _ aN pz ar al am an au) ?_
   rintro a _
   refine Q0n<|WC.block<|WC.drop (.s5 .h1 .h1 .h1 .h1 .here)<|WC.nilRow 132 2<|H8 (f:=155) (caps:=[vp a]) U call155 ?_
   intro a2 a3 p b z ao aO aP w hw
   let P:Value:=(vs none (([]:List z2).length) 0);let A:List Asrt:=[stb k 175 [P],row P 132 2 (([]:List z2).flatMap xZ),stb c 225 [vi 0],stb n 132 [vi 0,vi 0],stb m 177 E,wr p (z .ready none)];have hw1:=hw.selAll ((.s6 .h3 .h2 .h2 .h2 .h2 .here):Sel _ A _)
   let C:List Value:=[M,vi u.1,vi u.2.1,vi u.2.2.1,vi u.2.2.2,F,N];have pz:=(hz.call hw1 ((.cons .here .nil):Sel [jt A,gS b,stb a 177 C] [jt A] [gS b,stb a 177 C])).lend hw1 ((.cons .here .nil):Sel [jt A,gS b,stb a 177 C] [jt A] [gS b,stb a 177 C]) (B:=[stb a 177 C]) (fun _ hx'=>((.cons .h1 .nil):Sel _ [stb a 177 C] _).mem hx')
   refine bK h fun d aQ h=>Calls.mono (rm (Z:=_) (z9H:=p) (z4I:=(Option Addr×Nat)) (z34:=(fun(g:Option Addr×Nat) (s:Nat×List z2×Int)=>jt ([stb k 175 [vs g.1 s.2.1.length g.2],row (vs g.1 s.2.1.length g.2) 132 2 (s.2.1.flatMap xZ),stb c 225 [vi s.2.2],stb n 132 [vi 0,vi 0],stb m 177 E]++[wr p (z (pY<|sL [] s.1)<|sL [] s.1)]))) (z8q:=(fun(g:Option Addr×Nat) (s:Nat×List z2×Int)=>True)) (zcA:=(none,0)) (zcB:=⟨a,0,none⟩) (zf1:=ae) (zf2:=af) (zvS:=ag) (zvT:=ap) (zvU:=aq) (zvV:=ah) (znX:=ai) (znY:=ak) (zU:=(Nat×List z2×Int)) (z2V:=(fun(x:z2) (s:Nat×List z2×Int)=>chk (s.1=0)<|kf T t x s.2.1 s.2.2)) (z91:=(0,([]:List z2),0)) (z3r:=V) (zib:=(⟨(⟨u.1,u.2.1⟩:z2),(⟨u.2.2.1,u.2.2.2⟩:z2)⟩:yt)) (znW:=T) (zic:=t) (z3D:=W) (r:=d) pz ?_ trivial ((ar.mono<|zl).weak (fun _ _ h=>g6 zl h)) ((al.mono<|zl).weak (fun _ _ h=>g6 zl h)) (am.mono<|zl) (an.mono<|zl) (au.mono<|zl) ((hw1.lent ((.cons .here .nil):Sel [jt A,gS b,stb a 177 C] [jt A] [gS b,stb a 177 C]) (B:=[stb a 177 C]) (fun _ hx'=>((.cons .h1 .nil):Sel _ [stb a 177 C] _).mem hx') (.head _) _).stb) aQ<|hw1.owns ((.cons .here .nil):Sel [jt A,gS b,stb a 177 C] [jt A] [gS b,stb a 177 C])) ?_
   ·refine aj (LI:=(fun(g:Option Addr×Nat) (s:Nat×List z2×Int)=>[stb k 175 [vs g.1 s.2.1.length g.2],row (vs g.1 s.2.1.length g.2) 132 2 (s.2.1.flatMap xZ),stb c 225 [vi s.2.2],stb n 132 [vi 0,vi 0],stb m 177 E])) (pc:=(fun(s:Nat×List z2×Int)=>sL [] s.1)) ao aO aP (fun _ _=>U) (by decide) ?_
    rintro av _ ⟨aA,aB⟩ ⟨aR,q,aD⟩ aS aT Fb wb aE _ hz
    replace hz:=hz.left
    letI:Rnd:=dI p
    obtain⟨AI,e⟩:=xH aE
    replace AI:aR=0:=AI;subst AI;clear aE
    replace e:kf T t av q aD=some (aS,aT):=e
    unfold kf at e
    let I:Value:=(vs aA q.length aB);let K:Value:=(.agg #[vi av.fN,vi av.fD]);let Q:Value:=(.bool (decide (aZ≠0)));refine WC.restr (env':=[(1,vp m),(12,Q),(5,vp c),(6,vp k),(17,K)]) (.qo U)<|Om (L':=[stb k 175 [I],row I 132 2 (q.flatMap xZ),stb c 225 [vi aD],stb n 132 [vi 0,vi 0],stb m 177 E,wr p (z .ready none)]) U<|Ld<|Lh 7 (xW (cs:=[vi 0,vi 0]) z1s) ?_
    intro aU _
    refine Ln (xP z12 .here)<|WL.nil<|Bh ao .h6<|WC.block<|WC.b ?_
    obtain⟨R,aV,e⟩:=z8 e
    refine Ld<|Le 18 (xA eU)<|Le 19 (Nt zFG .h6)<|Le 20 (xK ze (xM .h1))<|Lm 21 (qi (l:=[.tmp 5,.tmp 20]) call72<|.r2 U U) (.cons .h4 .nil) (cc hz (.cons .h4 .nil) fun w pz ho=>aC _ _ _ _ _ _ _ _ _ _ _ aV pz al am an ho) (Lh 8 (xW (cs:=[vi 0,vi 0]) z1s) fun aW _=>Ln (xP z12 .here)<|Q0n<|WC.b ?_)
    obtain⟨a1,aF,e⟩:=z8 e
    let O:Value:=(.bool (decide ((q.length:Int)=0)));refine Lu nc []<|Lg 0 U (Nt zc6 .h4)<|Lf 1 U (w9 underlying175)<|Lf 2 U (eH U U)<|Lf 3 U q_m<|L9 (fuel':=0) [(1,vp m),(12,Q),(5,vp c),(6,vp k),(17,K),(7,vp aU),(18,(.pointer<|some ⟨m,5,none⟩)),(19,F),(20,K),(21,.agg #[vi R.1.fN,vi R.1.fD]),(8,vp aW),(22,I),(23,vi (q.length:Int)),(24,O),(25,O),(32,.bool a1)] (j7 11 (dn 11)) ?_<|fun aG=>?_
    rotate_left
    ·rcases Bool.eq_false_or_eq_true (decide ((q.length:Int)=0)) with hb' | hb'
     ·have aw:=hb';clear hb'
      have ax:=jD aF aw
      replace ax:=oJ ax
      refine L0 (i:=25) U aw<|Lk 4 U<|Lk 5 U<|Lk 6 U<|Lk 7 U<|Lk 8 U<|Lk 9 U<|Lf 10 U qE<|L2 .a8 ?_ aG
      exact .t 14<|.r2 (zu<|Eq.symm aw)<|zu ax
     ·have ay:=hb';clear hb'
      have S:=jE aF ay
      obtain⟨ab,S⟩:=xH S
      obtain⟨a6,aX,S⟩:=z8 S
      replace S:=oJ S
      refine L0 (i:=25) U ay<|Lg 4 U (xK ze (xM .here))<|Lg 5 U (Nt zc6 .h4)<|N2 (fun w hw=>Hp.vo .h5 hw (by intro hz';have:=ab;rw[hz'] at this;omega)) ?_
      rintro⟨a4,rfl⟩
      refine Lf 6 U (xY z3g ab.1 ab.2 wz)<|Lg 7 U (wi (cs:=(xZ<|nth q 0)) ze<|vB .h5<|wG (enc:=xZ) (l:=q) (i:=0) (sz:=2) (fun _=>U) ab.1 ab.2)<|L4 8 U (Ns call79) (cc hz .nil fun w pz ho=>mS _ _ _ _ aX pz )<|Lf 9 U sT<|Lf 10 U qF<|L2 .a8 ?_ aG
      exact .t 14<|.r2 (zu<|Eq.symm ay)<|zu S
    refine Ny (by kernel_rfl)<|Lb<|WC.cond U (fun az=>?_)<|fun az=>?_
    ·replace e:=jD e az
     refine Ld<|Le 33 (xK ze (xM .here)) (Lh 34 (ws (cs:=([R.1]:List z2).flatMap xZ) z3g (Lq (l:=[.tmp 33]) (.cons U .nil) [0]) (fun _=>by kernel_rfl) (by unfold maxLen;omega)) fun aH _=>Ln (xP zy4 .h5)<|WL.nil<|Lt ?_)
     obtain⟨rfl,rfl⟩:=dJ e
     let L:Value:=(vs (some ⟨aH,0,none⟩) (([R.1]:List z2).length) 1);exact Ob ao .h4<|fun w' qA=>⟨(some ⟨aH,0,none⟩,1),U,trivial,(qA.selAll ((.s6 .h1 .h1 .h2 .h4 .h4 .here):Sel _ [stb k 175 [L],row L 132 2 (([R.1]:List z2).flatMap xZ),stb c 225 [vi R.2.fE],stb n 132 [vi 0,vi 0],stb m 177 E,wr p (z .ready none)] _)).sub (.cons .here .nil)⟩
    ·replace e:=jE e az
     refine N0<|Lt ?_
     obtain⟨rfl,rfl⟩:=dJ e
     exact Ob ao .h2<|fun w' qA=>⟨(aA,aB),U,trivial,(qA.selAll ((.s6 .h4 .h4 .h2 .h3 .h3 .here):Sel _ [stb k 175 [I],row I 132 2 (q.flatMap xZ),stb c 225 [vi R.2.fE],stb n 132 [vi 0,vi 0],stb m 177 E,wr p (z .ready none)] _)).sub (.cons .here .nil)⟩
   ·rintro _ w' ⟨⟨aI,aJ⟩,rfl,_,hp⟩
    have zX:=hw1.call ((.cons .here .nil):Sel [jt A,gS b,stb a 177 C] [jt A] [gS b,stb a 177 C]) hp
    let J:Value:=(vs aI d.2.1.length aJ);have BE:Hp _ _ w' [stb k 175 [J],row J 132 2 (d.2.1.flatMap xZ),stb c 225 [vi d.2.2],stb n 132 [vi 0,vi 0],stb m 177 E,wr p (z (pY (sL [] d.1)) (sL [] d.1)),gS b,stb a 177 C]:=zX.pickAll .here
    refine⟨_,sL [] d.1,_,U,BE.sub ((.s8 .h5 .here .here .here .here .here .here .here):Sel _ [wr p (z (pY (sL [] d.1)) (sL [] d.1)),stb k 175 [J],row J 132 2 (d.2.1.flatMap xZ),stb c 225 [vi d.2.2],stb n 132 [vi 0,vi 0],stb m 177 E,gS b,stb a 177 C] _),?_⟩
    clear hp zX BE pz hw hw1
    refine wjN ?_
    letI:Rnd:=sM b
    exact Lt<|Of (D:=fun(g:Nat×Int×List z2×Option Addr×Nat)=>g.1) (G:=Nat×Int×List z2×Option Addr×Nat) ⟨b,d.2.2,d.2.1,aI,aJ⟩ h .q<|.s5 .h3 .h2 .here .here .h1
  ·rintro X y o Y aa h
   replace h:=(aM y o).symm.trans h
   letI:Rnd:=sM X
   refine WC.b<|B0q<|Le 35 (xA tS)<|Le 36 (Nt z5n .h1)<|Q1n U<|Lj h (fun aY h=>?_)<|fun aY h=>?_
   ·refine WC.b<|Lu (fun i=>[3].contains i) [rG c 225 [(0,vi y)]]<|Lf 0 U (wm (v:=(.agg #[vi 0,vi 0])) (Lq (l:=[]) .nil []) (fun _=>by kernel_rfl))<|Lf 1 U (xA tS)<|Nb 2 U (wT.wk (.cons .h1 .nil)<|.stb (.cons U .nil) .nil) (xB z5n U<|mH .here<|.head _)<|WD.forced0 (i:=3) U (by kernel_rfl) (wT.wk (.cons .h1 .nil)<|.stb (.cons U .nil) .nil) (xP z12 .here)<|Lf 4 U q_z<|Ny (by kernel_rfl)<|Lb<|Nw<|Ll ?_
    obtain rfl:=oJ h
    exact Oc .h4 results77 (.agg U ze U (xM .h1)<|.tmp U .nil)<|fun w hw=>⟨qz,hw.sub .nil⟩
   ·refine Nn<|WC.b<|cK h fun ad h=>Ld<|Le 41 (Nt zc6 .h2)<|Nj (fun w hw=>Hp.vo .h3 hw (by intro hz';have:=ad;rw[hz'] at this;omega)) ?_
    rintro⟨a5,rfl⟩
    refine Le 42 (xY z3g ad.1 ad.2 wz)<|Le 43 (wi (cs:=(xZ<|nth o 0)) ze<|vB .h3<|wG (enc:=xZ) (l:=o) (i:=0) (sz:=2) (fun _=>U) ad.1 ad.2)<|Ln (xP z12 .here)<|Q1n U<|Nw ?_
    obtain rfl:=oJ h
    exact Oc .h4 results77 (.agg U ze U (xM .h1)<|.tmp U .nil)<|fun w hw=>⟨qz,hw.sub .nil⟩
def uT(a:List (List z6))(b:yt):Option (z2×Int):=
 (fo a b a b []).bind fun c=>some (c.1,c.2)
theorem Xs(Z c d b a r)(h:uT b a=some r){Nv}(hz:PZ [] Nv Z)(e:ZS Z 1 (jJ Z) c d b):
  RC 44 #[vs c b.length d,.agg #[vi a.fR.fN,vi a.fR.fD,vi a.fL.fN,vi a.fL.fD]] Nv (.tuple #[.agg #[vi r.1.fN,vi r.1.fD],vi r.2]) [] []:=by
 unfold uT at h
 refine Lz func44 U U ?_
 let A:Value:=(vs c b.length d);refine B0q<|Lh 2 (wg (cs:=[A])) ?_
 intro f _
 refine Lh 3 (wg (cs:=[vi a.fR.fN,vi a.fR.fD,vi a.fL.fN,vi a.fL.fD])) fun g _=>Lh 4 (xW (cs:=[vi 0,vi 0]) z1s) fun j _=>Q1n U<|B0q<|Le 7 (Nt zgS .h2)<|Le 8 (xK zqP (xM .h1))<|Le 9 (wm (v:=(.agg #[A,vi a.fR.fN,vi a.fR.fD,vi a.fL.fN,vi a.fL.fD,.nilFunc,vn])) (Lq (l:=[.tmp 7,.tmp 8]) (.r2 U U) [0,1]) (fun _=>by kernel_rfl)) (Lh 6 (xW (cs:=[vn,vi 0,vi 0,vi 0,vi 0,.nilFunc,vn]) zFy) fun k _=>Ln (xP zFz .here)<|Q0n<|B0q<|Le 10 (vf<|L6 (l:=[.tmp 2,.tmp 3])<|.r2 U U)<|Le 11 (xA eU)<|Ln (kO (ds:=[A,vi a.fR.fN,vi a.fR.fD,vi a.fL.fN,vi a.fL.fD,.func (.func 72) #[] #[vp f,vp g],vn]) zFA .here)<|Q0n<|WC.b ?_)
 exact bK h fun m i h=>Ld<|Le 12 (xK zlZ (xM .here))<|Lm 13 (Ns call77) .nil (uC hz .nil (.s2 .h3 .h2) fun w pz ho la=>dV _ _ _ _ _ _ _ _ _ _ _ _ _ _ _ i pz ((e.mono<|zl).weak (fun _ _ h=>g6 zl h)) ((e.mono<|zl).weak (fun _ _ h=>g6 zl h)) ((la _ (.head _) _).stb) ((la _ (.tail _<|.head _) _).stb)<|ZS.nil _ _ _)<|Q2q U<|Ln (xP z12 .h1)<|Q1n U<|Nw<|oJ h▸Nm results44 (.agg U ze U (xM .here)<|.tmp U .nil) .nil
def mi(g:ys)(b:z2)(h:List (List z6))(c:yt):Option (z2×ys):=
 (kU g h b).bind fun a=>(vZ b c.fL).bind fun i=>if decide (i<=0) then some (a.1,a.2) else(vu a.2 (fun y0 y1=>jq y0 y1) b c.fL).bind fun d=>(vu d.2 (fun y0 y1=>gc y0 y1) c.fR d.1).bind fun e=>(vu e.2 (fun y0 y1=>jq y0 y1) a.1 e.1).bind fun f=>some (f.1,f.2)
theorem n5(Z b g j k l d c e a r)(h:mi d c e a=some r){Nv}(hz:Pz [stb b 225 [vi d.fE]] Nv Z)(n:ZS Z 1 (jJ Z) j k e)(o:ZC Z g [vs j e.length k])(f:ZC Z l [vi a.fR.fN,vi a.fR.fD,vi a.fL.fN,vi a.fL.fD])(ip:Ho Nv [stb b 225 [vi d.fE]]):
  RF 78 #[vp b,.agg #[vi c.fN,vi c.fD],vq g,vq l] Nv (.agg #[vi r.1.fN,vi r.1.fD]) [stb b 225 [vi d.fE]] [stb b 225 [vi r.2.fE]]:=by
 unfold mi at h
 refine H4 func78 U ip U<|B0q (Lh 5 (wg (cs:=[vi c.fN,vi c.fD])) fun z _=>Lh 6 (xW (cs:=[vi 0,vi 0]) z1s) fun B _=>Q0n<|WC.b ?_)
 refine bK h fun m p h=>D1q U<|Le 9 (xB zgS U<|mG hz.pv o)<|Le 10 (xK ze (xM .h1))<|Lm 11 (Ns call76) (.cons .h2 .nil) (cc hz (.cons .h2 .nil) fun w pz ho=>oF _ _ _ _ _ _ _ _ p pz n ho) (Lh 7 (xW (cs:=[vi 0,vi 0]) z1s) fun q _=>Ln (xP z12 .here)<|Q0n<|WC.b<|WC.b ?_)
 obtain⟨C,t,h⟩:=z8 h
 let A:List Value:=[vi a.fL.fN,vi a.fL.fD];refine Ld<|Le 12 (xK ze (xM .h3))<|Le 13 (xA lL)<|Le 14 (wi (cs:=A) ze<|dH (off:=2) (s:=2) hz.pv f U)<|Nr call79 hz (mS _ _ _ _ t)<|Q1n U<|Lj h (fun u h=>?_)<|fun u h=>?_
 ·exact B0q<|Le 17 (xK ze (xM .here))<|Ln (xP z12 .h2)<|Q0n<|Nw<|Ll<|oJ h▸Nm results78 (.agg U ze U (xM .here) .nil) (.cons .h2 .nil)
 ·refine Nn<|WC.b<|bK h fun D v h=>bK h fun E x h=>bK h fun F y h=>Lu (fun i=>[9,10,11,12].contains i) [stb q 132 [vi m.1.fN,vi m.1.fD]]<|Lf 0 U q_m<|Nb 1 U (wT.of<|.cons .here .nil) (xK ze (xM .here))<|Lf 2 U q_m<|Lf 3 U (xA cH)<|Nb 4 U (wT.of<|.cons .here .nil) (wi (cs:=[vi a.fR.fN,vi a.fR.fD]) ze<|dH (off:=0) (s:=2) hz.pv f U)<|Lf 5 U q_m<|Lg 6 U (xK ze (xM .h3))<|Lf 7 U (xA lL)<|Lg 8 U (wi (cs:=A) ze<|dH (off:=2) (s:=2) hz.pv f U) (WD.call0 (i:=9) (dd:=27) U (by kernel_rfl) U (.inl ⟨U,(wT.of<|.cons .h1 .nil)⟩) (Ns call73) (.cons .h1 .nil) (cc hz (.cons .h1 .nil) fun w pz ho=>Calls.mono (kq _ _ (z90:=74) (zaQ:=[]) _ (z9D:=(fun y0 y1=>jq y0 y1)) _ _ _ v pz call74 (fun w' hz' y0 y1  r  hr=>iu _ _ _ _ hr hz' ) ho)<|fun _ _ h'=>⟨h'.1,trivial,h'.2⟩) fun _=>WD.call0 (i:=10) (dd:=28) U (by kernel_rfl) U (.inl ⟨U,(wT.of<|.cons .h1 .nil)⟩) (Ns call73) (.cons .here .nil) (cc hz (.cons .here .nil) fun w pz ho=>Calls.mono (kq _ _ (z90:=70) (zaQ:=[]) _ (z9D:=(fun y0 y1=>gc y0 y1)) _ _ _ x pz call70 (fun w' hz' y0 y1  r  hr=>az _ _ _ _ hr hz' ) ho)<|fun _ _ h'=>⟨h'.1,trivial,h'.2⟩) fun _=>WD.call0 (i:=11) (dd:=29) U (by kernel_rfl) U (.inl ⟨U,(wT.of<|.cons .h1 .nil)⟩) (Ns call73) (.cons .here .nil) (cc hz (.cons .here .nil) fun w pz ho=>Calls.mono (kq _ _ (z90:=74) (zaQ:=[]) _ (z9D:=(fun y0 y1=>jq y0 y1)) _ _ _ y pz call74 (fun w' hz' y0 y1  r  hr=>iu _ _ _ _ hr hz' ) ho)<|fun _ _ h'=>⟨h'.1,trivial,h'.2⟩) fun _=>Nc (i:=12) U (by kernel_rfl) (by kernel_rfl) (xP z12 .h2)<|Ny (by kernel_rfl)<|Lb<|Nw ?_)
  exact oJ h▸Nm results78 (.agg U ze U (xM .here) .nil) (.cons .h1 .nil)
def jT(c:List (List z6))(d:yt)(e:z2)(a:List z2)(f:Int):Option (Bool×(Nat×List z2×Int)):=
 (mi (⟨f⟩:ys) e c d).bind fun b=>(if decide ((a.length:Int)=0) then some true else chk ((0:Int)<=0/\0<(a.length:Int)) ((vZ b.1 (⟨(nth a 0).fN,(nth a 0).fD⟩:z2)).bind fun g=>some (decide (g>0)))).bind fun h=>if h then some (true,(0,([b.1]:List z2),b.2.fE)) else some (true,(0,a,b.2.fE))
def gT(d:List (List z6))(j:yt)(a:List (List z6))(b:yt)(e:List z2):Option (z2×Int):=
 (qR d j a b e).bind fun g=>if decide (g≠0) then some ((⟨0,0⟩:z2),g) else sK (fun(h:Int) (f:List z2)=>if decide (h≠0) then some ((⟨0,0⟩:z2),h) else chk ((0:Int)<=0/\0<(f.length:Int)) (some ((⟨(nth f 0).fN,(nth f 0).fD⟩:z2),0))) fun k=>(ke d j a b e).bind fun c=>(qj (Nat×List z2×Int) (fun(x:z2) (s:Nat×List z2×Int)=>chk (s.1=0) (jT a b x s.2.1 s.2.2)) (0,([]:List z2),0) d (⟨(⟨c.1,c.2.1⟩:z2),(⟨c.2.2.1,c.2.2.2⟩:z2)⟩:yt) a b e).bind fun i=>k i.2.2 i.2.1
theorem di(Z ae af ag ap aq ah ai ak V j T t W r)(h:gT V j T t W=some r){Nv}(hz:PZ [] Nv Z)(ar:ZS Z 1 (jJ Z) ae af V)(al:ZS Z 1 (jJ Z) ap aq T)(am:ZC Z ag [vs ap T.length aq])(an:ZC Z ah [vi t.fR.fN,vi t.fR.fD,vi t.fL.fN,vi t.fL.fD])(au:ZS Z 2 (rq xZ) ai ak W):
  RC 77 #[.agg #[vs ae V.length af,vi j.fR.fN,vi j.fR.fD,vi j.fL.fN,vi j.fL.fD,.func (.func 78) #[] #[vq ag,vq ah],vs ai W.length ak]] Nv (.tuple #[.agg #[vi r.1.fN,vi r.1.fD],vi r.2]) [] []:=by
 unfold gT at h
 let F:Value:=(.func (.func 78) #[] #[vq ag,vq ah]);let M:Value:=(vs ae V.length af);let N:Value:=(vs ai W.length ak);let H:Value:=(.agg #[M,vi j.fR.fN,vi j.fR.fD,vi j.fL.fN,vi j.fL.fD,F,N]);refine At (vs:=[H]) (pre:=[]) (env:=[(0,H)]) func77 U ntmps77 U (Hp.nil Nv _) U ?_
 let E:List Value:=[M,vi j.fR.fN,vi j.fR.fD,vi j.fL.fN,vi j.fL.fD,F,N];refine B0q<|Lh 1 (wg (cs:=E)) ?_
 intro m _
 refine Lh 2 (xW (cs:=[vi 0,vi 0]) z1s) fun n _=>Q1n U<|WC.b<|WC.b<|bK h fun aY aJ h=>Ld<|Le 9 (xK zlZ (xM .h1))<|Nr call109 hz (fun pz=>pP _ _ _ _ _ _ _ _ _ _ _ _ _ _ _ aJ pz ar al am an au)<|Q1n U<|B2n U<|Lj h (fun aK h=>?_)<|fun aK h=>?_
 ·exact B0q<|Le 13 (wm (v:=(.agg #[vi 0,vi 0])) (Lq (l:=[]) .nil []) (fun _=>by kernel_rfl))<|La U<|Ln (xP z12 .here)<|Q1n U<|Nw<|Ll<|oJ h▸O0 results77 (.agg U ze U (xM .here)<|.tmp U .nil) fun w hw=>⟨qz,hw.sub .nil⟩
 ·refine Nn<|B0q (Lh 5 (xW (cs:=[vi 0]) zy2) fun c _=>Q0n<|B0q (Lh 6 (xW (cs:=[vn]) zy3) fun k _=>Q0n ?_))
  refine jK2 h fun aZ aL h=>Pn (fun X y o Y aa=>(aZ y o=some r)) (fun X y o Y aa=>[(2,vp n),(5,vp c),(6,vp k)]) (fun X y o Y aa=>[stb n 132 [vi 0,vi 0],stb c 225 [vi y],stb k 175 [vs Y o.length aa],row (vs Y o.length aa) 132 2 (o.flatMap xZ),gS X]) ?_ ?_
  ·refine WC.b<|bK h fun u aM h=>Ld<|Le 15 (xK zlZ (xM .h3))<|Pj (dd:=16) U U U (Ns call110) .nil (cc hz .nil fun w pz ho=>pn _ _ _ _ _ _ _ _ _ _ _ _ _ _ _ aM pz ar al am an au) ?_
   rintro a _
   refine Q0n<|WC.block<|WC.drop (.s5 .h1 .h1 .h1 .h1 .here)<|WC.nilRow 132 2<|H8 (f:=155) (caps:=[vp a]) U call155 ?_
   intro a1 a2 p b z ao aN aO w hw
   let P:Value:=(vs none (([]:List z2).length) 0);let A:List Asrt:=[stb k 175 [P],row P 132 2 (([]:List z2).flatMap xZ),stb c 225 [vi 0],stb n 132 [vi 0,vi 0],stb m 177 E,wr p (z .ready none)];have hw1:=hw.selAll ((.s6 .h3 .h2 .h2 .h2 .h2 .here):Sel _ A _)
   let C:List Value:=[M,vi u.1,vi u.2.1,vi u.2.2.1,vi u.2.2.2,F,N];have pz:=(hz.call hw1 ((.cons .here .nil):Sel [jt A,gS b,stb a 177 C] [jt A] [gS b,stb a 177 C])).lend hw1 ((.cons .here .nil):Sel [jt A,gS b,stb a 177 C] [jt A] [gS b,stb a 177 C]) (B:=[stb a 177 C]) (fun _ hx'=>((.cons .h1 .nil):Sel _ [stb a 177 C] _).mem hx')
   refine bK h fun d aP h=>Calls.mono (rm (Z:=_) (z9H:=p) (z4I:=(Option Addr×Nat)) (z34:=(fun(g:Option Addr×Nat) (s:Nat×List z2×Int)=>jt ([stb k 175 [vs g.1 s.2.1.length g.2],row (vs g.1 s.2.1.length g.2) 132 2 (s.2.1.flatMap xZ),stb c 225 [vi s.2.2],stb n 132 [vi 0,vi 0],stb m 177 E]++[wr p (z (pY<|sL [] s.1)<|sL [] s.1)]))) (z8q:=(fun(g:Option Addr×Nat) (s:Nat×List z2×Int)=>True)) (zcA:=(none,0)) (zcB:=⟨a,0,none⟩) (zf1:=ae) (zf2:=af) (zvS:=ag) (zvT:=ap) (zvU:=aq) (zvV:=ah) (znX:=ai) (znY:=ak) (zU:=(Nat×List z2×Int)) (z2V:=(fun(x:z2) (s:Nat×List z2×Int)=>chk (s.1=0)<|jT T t x s.2.1 s.2.2)) (z91:=(0,([]:List z2),0)) (z3r:=V) (zib:=(⟨(⟨u.1,u.2.1⟩:z2),(⟨u.2.2.1,u.2.2.2⟩:z2)⟩:yt)) (znW:=T) (zic:=t) (z3D:=W) (r:=d) pz ?_ trivial ((ar.mono<|zl).weak (fun _ _ h=>g6 zl h)) ((al.mono<|zl).weak (fun _ _ h=>g6 zl h)) (am.mono<|zl) (an.mono<|zl) (au.mono<|zl) ((hw1.lent ((.cons .here .nil):Sel [jt A,gS b,stb a 177 C] [jt A] [gS b,stb a 177 C]) (B:=[stb a 177 C]) (fun _ hx'=>((.cons .h1 .nil):Sel _ [stb a 177 C] _).mem hx') (.head _) _).stb) aP<|hw1.owns ((.cons .here .nil):Sel [jt A,gS b,stb a 177 C] [jt A] [gS b,stb a 177 C])) ?_
   ·refine aj (LI:=(fun(g:Option Addr×Nat) (s:Nat×List z2×Int)=>[stb k 175 [vs g.1 s.2.1.length g.2],row (vs g.1 s.2.1.length g.2) 132 2 (s.2.1.flatMap xZ),stb c 225 [vi s.2.2],stb n 132 [vi 0,vi 0],stb m 177 E])) (pc:=(fun(s:Nat×List z2×Int)=>sL [] s.1)) ao aN aO (fun _ _=>U) (by decide) ?_
    rintro av _ ⟨aA,aB⟩ ⟨aQ,q,aC⟩ aR aS Fb wb aD _ hz
    replace hz:=hz.left
    letI:Rnd:=dI p
    obtain⟨AI,e⟩:=xH aD
    replace AI:aQ=0:=AI;subst AI;clear aD
    replace e:jT T t av q aC=some (aR,aS):=e
    unfold jT at e
    let I:Value:=(vs aA q.length aB);let K:Value:=(.agg #[vi av.fN,vi av.fD]);let Q:Value:=(.bool (decide (aY≠0)));refine WC.restr (env':=[(1,vp m),(12,Q),(5,vp c),(6,vp k),(17,K)]) (.qo U)<|Om (L':=[stb k 175 [I],row I 132 2 (q.flatMap xZ),stb c 225 [vi aC],stb n 132 [vi 0,vi 0],stb m 177 E,wr p (z .ready none)]) U<|Ld<|Lh 7 (xW (cs:=[vi 0,vi 0]) z1s) ?_
    intro aT _
    refine Ln (xP z12 .here)<|WL.nil<|Bh ao .h6<|WC.block<|WC.b ?_
    obtain⟨R,aU,e⟩:=z8 e
    refine Ld<|Le 18 (xA eU)<|Le 19 (Nt zFG .h6)<|Le 20 (xK ze (xM .h1))<|Lm 21 (qi (l:=[.tmp 5,.tmp 20]) call78<|.r2 U U) (.cons .h4 .nil) (cc hz (.cons .h4 .nil) fun w pz ho=>n5 _ _ _ _ _ _ _ _ _ _ _ aU pz al am an ho) (Lh 8 (xW (cs:=[vi 0,vi 0]) z1s) fun aV _=>Ln (xP z12 .here)<|Q0n<|WC.b ?_)
    obtain⟨a0,aE,e⟩:=z8 e
    let O:Value:=(.bool (decide ((q.length:Int)=0)));refine Lu nc []<|Lg 0 U (Nt zc6 .h4)<|Lf 1 U (w9 underlying175)<|Lf 2 U (eH U U)<|Lf 3 U q_m<|L9 (fuel':=0) [(1,vp m),(12,Q),(5,vp c),(6,vp k),(17,K),(7,vp aT),(18,(.pointer<|some ⟨m,5,none⟩)),(19,F),(20,K),(21,.agg #[vi R.1.fN,vi R.1.fD]),(8,vp aV),(22,I),(23,vi (q.length:Int)),(24,O),(25,O),(32,.bool a0)] (j7 11 (dn 11)) ?_<|fun aF=>?_
    rotate_left
    ·rcases Bool.eq_false_or_eq_true (decide ((q.length:Int)=0)) with hb' | hb'
     ·have aw:=hb';clear hb'
      have ax:=jD aE aw
      replace ax:=oJ ax
      refine L0 (i:=25) U aw<|Lk 4 U<|Lk 5 U<|Lk 6 U<|Lk 7 U<|Lk 8 U<|Lk 9 U<|Lf 10 U qE<|L2 .a8 ?_ aF
      exact .t 14<|.r2 (zu<|Eq.symm aw)<|zu ax
     ·have ay:=hb';clear hb'
      have S:=jE aE ay
      obtain⟨ab,S⟩:=xH S
      obtain⟨a5,aW,S⟩:=z8 S
      replace S:=oJ S
      refine L0 (i:=25) U ay<|Lg 4 U (xK ze (xM .here))<|Lg 5 U (Nt zc6 .h4)<|N2 (fun w hw=>Hp.vo .h5 hw (by intro hz';have:=ab;rw[hz'] at this;omega)) ?_
      rintro⟨a3,rfl⟩
      refine Lf 6 U (xY z3g ab.1 ab.2 wz)<|Lg 7 U (wi (cs:=(xZ<|nth q 0)) ze<|vB .h5<|wG (enc:=xZ) (l:=q) (i:=0) (sz:=2) (fun _=>U) ab.1 ab.2)<|L4 8 U (Ns call79) (cc hz .nil fun w pz ho=>mS _ _ _ _ aW pz )<|Lf 9 U sT<|Lf 10 U qF<|L2 .a8 ?_ aF
      exact .t 14<|.r2 (zu<|Eq.symm ay)<|zu S
    refine Ny (by kernel_rfl)<|Lb<|WC.cond U (fun az=>?_)<|fun az=>?_
    ·replace e:=jD e az
     refine Ld<|Le 33 (xK ze (xM .here)) (Lh 34 (ws (cs:=([R.1]:List z2).flatMap xZ) z3g (Lq (l:=[.tmp 33]) (.cons U .nil) [0]) (fun _=>by kernel_rfl) (by unfold maxLen;omega)) fun aG _=>Ln (xP zy4 .h5)<|WL.nil<|Lt ?_)
     obtain⟨rfl,rfl⟩:=dJ e
     let L:Value:=(vs (some ⟨aG,0,none⟩) (([R.1]:List z2).length) 1);exact Ob ao .h4<|fun w' qA=>⟨(some ⟨aG,0,none⟩,1),U,trivial,(qA.selAll ((.s6 .h1 .h1 .h2 .h4 .h4 .here):Sel _ [stb k 175 [L],row L 132 2 (([R.1]:List z2).flatMap xZ),stb c 225 [vi R.2.fE],stb n 132 [vi 0,vi 0],stb m 177 E,wr p (z .ready none)] _)).sub (.cons .here .nil)⟩
    ·replace e:=jE e az
     refine N0<|Lt ?_
     obtain⟨rfl,rfl⟩:=dJ e
     exact Ob ao .h2<|fun w' qA=>⟨(aA,aB),U,trivial,(qA.selAll ((.s6 .h4 .h4 .h2 .h3 .h3 .here):Sel _ [stb k 175 [I],row I 132 2 (q.flatMap xZ),stb c 225 [vi R.2.fE],stb n 132 [vi 0,vi 0],stb m 177 E,wr p (z .ready none)] _)).sub (.cons .here .nil)⟩
   ·rintro _ w' ⟨⟨aH,aI⟩,rfl,_,hp⟩
    have zX:=hw1.call ((.cons .here .nil):Sel [jt A,gS b,stb a 177 C] [jt A] [gS b,stb a 177 C]) hp
    let J:Value:=(vs aH d.2.1.length aI);have BE:Hp _ _ w' [stb k 175 [J],row J 132 2 (d.2.1.flatMap xZ),stb c 225 [vi d.2.2],stb n 132 [vi 0,vi 0],stb m 177 E,wr p (z (pY (sL [] d.1)) (sL [] d.1)),gS b,stb a 177 C]:=zX.pickAll .here
    refine⟨_,sL [] d.1,_,U,BE.sub ((.s8 .h5 .here .here .here .here .here .here .here):Sel _ [wr p (z (pY (sL [] d.1)) (sL [] d.1)),stb k 175 [J],row J 132 2 (d.2.1.flatMap xZ),stb c 225 [vi d.2.2],stb n 132 [vi 0,vi 0],stb m 177 E,gS b,stb a 177 C] _),?_⟩
    clear hp zX BE pz hw hw1
    refine wjN ?_
    letI:Rnd:=sM b
    exact Lt<|Of (D:=fun(g:Nat×Int×List z2×Option Addr×Nat)=>g.1) (G:=Nat×Int×List z2×Option Addr×Nat) ⟨b,d.2.2,d.2.1,aH,aI⟩ h .q<|.s5 .h3 .h2 .here .here .h1
  ·rintro X y o Y aa h
   replace h:=(aL y o).symm.trans h
   letI:Rnd:=sM X
   refine WC.b<|B0q<|Le 35 (xA tS)<|Le 36 (Nt z5n .h1)<|Q1n U<|Lj h (fun aX h=>?_)<|fun aX h=>?_
   ·refine WC.b<|Lu (fun i=>[3].contains i) [rG c 225 [(0,vi y)]]<|Lf 0 U (wm (v:=(.agg #[vi 0,vi 0])) (Lq (l:=[]) .nil []) (fun _=>by kernel_rfl))<|Lf 1 U (xA tS)<|Nb 2 U (wT.wk (.cons .h1 .nil)<|.stb (.cons U .nil) .nil) (xB z5n U<|mH .here<|.head _)<|WD.forced0 (i:=3) U (by kernel_rfl) (wT.wk (.cons .h1 .nil)<|.stb (.cons U .nil) .nil) (xP z12 .here)<|Lf 4 U q_z<|Ny (by kernel_rfl)<|Lb<|Nw<|Ll ?_
    obtain rfl:=oJ h
    exact Oc .h4 results77 (.agg U ze U (xM .h1)<|.tmp U .nil)<|fun w hw=>⟨qz,hw.sub .nil⟩
   ·refine Nn<|WC.b<|cK h fun ad h=>Ld<|Le 41 (Nt zc6 .h2)<|Nj (fun w hw=>Hp.vo .h3 hw (by intro hz';have:=ad;rw[hz'] at this;omega)) ?_
    rintro⟨a4,rfl⟩
    refine Le 42 (xY z3g ad.1 ad.2 wz)<|Le 43 (wi (cs:=(xZ<|nth o 0)) ze<|vB .h3<|wG (enc:=xZ) (l:=o) (i:=0) (sz:=2) (fun _=>U) ad.1 ad.2)<|Ln (xP z12 .here)<|Q1n U<|Nw ?_
    obtain rfl:=oJ h
    exact Oc .h4 results77 (.agg U ze U (xM .h1)<|.tmp U .nil)<|fun w hw=>⟨qz,hw.sub .nil⟩
def mU(b:List (List z6))(a:yt):Option (z2×Int):=
 (gT b a b a ([a.fL]:List z2)).bind fun c=>some (c.1,c.2)
theorem aD(Z c d b a r)(h:mU b a=some r){Nv}(hz:PZ [] Nv Z)(e:ZS Z 1 (jJ Z) c d b):
  RC 45 #[vs c b.length d,.agg #[vi a.fR.fN,vi a.fR.fD,vi a.fL.fN,vi a.fL.fD]] Nv (.tuple #[.agg #[vi r.1.fN,vi r.1.fD],vi r.2]) [] []:=by
 unfold mU at h
 refine Lz func45 U U ?_
 let C:Value:=(vs c b.length d);refine B0q<|Lh 2 (wg (cs:=[C])) ?_
 intro f _
 refine Lh 3 (wg (cs:=[vi a.fR.fN,vi a.fR.fD,vi a.fL.fN,vi a.fL.fD])) fun g _=>Lh 4 (xW (cs:=[vi 0,vi 0]) z1s) fun k _=>Q1n U<|B0q<|Le 7 (Nt zgS .h2)<|Le 8 (xK zqP (xM .h1))<|Le 9 (xA lL)<|Le 10 (wi (cs:=[vi a.fL.fN,vi a.fL.fD]) ze<|gp (s:=2) .h1 U)<|Lh 11 (ws (cs:=([a.fL]:List z2).flatMap xZ) z3g (Lq (l:=[.tmp 10]) (.cons U .nil) [0]) (fun _=>by kernel_rfl) (by unfold maxLen;omega)) ?_
 intro j _
 let A:Value:=(vs (some ⟨j,0,none⟩) (([a.fL]:List z2).length) 1);refine Le 12 (wm (v:=(.agg #[C,vi a.fR.fN,vi a.fR.fD,vi a.fL.fN,vi a.fL.fD,.nilFunc,A])) (Lq (l:=[.tmp 7,.tmp 8,.tmp 11]) (.r3 U U U) [0,1,3]) (fun _=>by kernel_rfl))<|Lh 6 (xW (cs:=[vn,vi 0,vi 0,vi 0,vi 0,.nilFunc,vn]) zFy) ?_
 intro m _
 exact Ln (xP zFz .here)<|Q0n<|B0q<|Le 13 (vf<|L6 (l:=[.tmp 2,.tmp 3])<|.r2 U U)<|Le 14 (xA eU)<|Ln (kO (ds:=[C,vi a.fR.fN,vi a.fR.fD,vi a.fL.fN,vi a.fL.fD,.func (.func 78) #[] #[vp f,vp g],A]) zFA .here)<|Q0n<|WC.b<|bK h fun n i h=>Ld<|Le 15 (xK zlZ (xM .here))<|Lm 16 (Ns call77) .nil (uC hz .nil (.s3 .h4 .h3 .h1) fun w pz ho la=>di _ _ _ _ _ _ _ _ _ _ _ _ _ _ _ i pz ((e.mono<|zl).weak (fun _ _ h=>g6 zl h)) ((e.mono<|zl).weak (fun _ _ h=>g6 zl h)) ((la _ (.head _) _).stb) ((la _ (.tail _<|.head _) _).stb)<|ZA.row (la _ (.tail _<|.tail _<|.head _) _) (RR.flat (enc:=xZ) (fun _=>U) _) ⟨w,pz.1⟩)<|Q2q U<|Ln (xP z12 .h2)<|Q1n U<|Nw<|oJ h▸Nm results45 (.agg U ze U (xM .here)<|.tmp U .nil) .nil
def qx(b:z2×Int)(c:z2×Int)(e:Int->Option (zp×Int×(List (ym×z2))×(List (z7×Int)))):Nat->Int->Int->Option (zp×Int×(List (ym×z2))×(List (z7×Int)))
 | 0,_,_=>none
 | h+1,a,d=>if decide (a<(([b.2,c.2]:List Int).length:Int)) then qP (fun(i:Int)=>qx b c e h (i64 (a+1)) i) fun f=>chk (0<=a/\a<(([b.2,c.2]:List Int).length:Int)) (qP (fun(j:Int)=>if decide (d=0) then f j else f d) fun g=>if decide ((nth ([b.2,c.2]:List Int) a)=6) then g 352 else g (nth ([b.2,c.2]:List Int) a)) else e d
def uv(b:zV)(k:List (List zb))(l:List (ym×z2))(d:List (z7×Int))(m:Int)(a:z7):Option (zp×Int×(List (ym×z2))×(List (z7×Int))):=
 (mB b k l d m a).bind fun c=>sK (fun(e:List (List z6)) (n:Int)=>chk (0<=a.fQ/\a.fQ<b.fK.length) ((jB n).bind fun f=>(uT e (⟨(⟨1,(nth b.fK a.fQ).yr⟩:z2),f⟩:yt)).bind fun g=>(mU e (⟨(⟨1,(nth b.fK a.fQ).yr⟩:z2),f⟩:yt)).bind fun h=>qP (fun(o:Int)=>(qL g.1).bind fun i=>(qL h.1).bind fun p=>some (({a with yl:=(xC (w4 d a i) a 0),fT:=i64 (p+c.2.1)}:zp),o,c.2.2.2,w4 d a i)) fun q=>qx g h q xR 0 c.2.2.1)) fun j=>if decide ((i64 (a.ya-(b.fM.length:Int)))>=0) then chk (0<=(i64 (a.ya-(b.fM.length:Int)))/\(i64 (a.ya-(b.fM.length:Int)))<b.fS.length) (j c.1 ((nth b.fS (i64 (a.ya-(b.fM.length:Int)))).yl)) else j c.1 0
theorem YQ(Z d S T V W X Y aa ab ad ae af ag ah ai aj ak al am b c a B ar o au f r)(h:uv a B ar o au f=some r){Nv}(hz:Pz [stb d 95 [vs S a.fM.length T,vs V a.yf.length W,vs X a.fS.length Y,vs aa a.fK.length ab,vs ad a.yg.length ae,vs af a.fH.length ag,vs ah a.fU.length ai,vs aj a.ye.length ak,vs al B.length am,.map (some b),.map (some c),vi au],xU b (ga jH) (ga xZ) ar,xU c (ga wp) vI o] Nv Z)(aH:ZS Z 4 (gk Z) S T a.fM)(aI:ZS Z 4 (fJ Z) V W a.yf)(aw:ZS Z 4 (rq kT) X Y a.fS)(ax:ZS Z 4 (rq mM) aa ab a.fK)(aJ:ZS Z 7 (f0 Z) ad ae a.yg)(aK:ZS Z 5 (rq mb) af ag a.fH)(aL:ZS Z 3 (fO Z) ah ai a.fU)(aM:ZS Z 4 (rq mc) aj ak a.ye)(aN:ZS Z 1 (mN Z) al am B)(ip:Ho Nv [stb d 95 [vs S a.fM.length T,vs V a.yf.length W,vs X a.fS.length Y,vs aa a.fK.length ab,vs ad a.yg.length ae,vs af a.fH.length ag,vs ah a.fU.length ai,vs aj a.ye.length ak,vs al B.length am,.map (some b),.map (some c),vi au],xU b (ga jH) (ga xZ) ar,xU c (ga wp) vI o]):
  RF 22 #[vp d,.agg #[vi f.ya,vi f.fQ]] Nv (.agg #[vi r.1.ya,vi r.1.fQ,vi r.1.yl,vi r.1.fT]) [stb d 95 [vs S a.fM.length T,vs V a.yf.length W,vs X a.fS.length Y,vs aa a.fK.length ab,vs ad a.yg.length ae,vs af a.fH.length ag,vs ah a.fU.length ai,vs aj a.ye.length ak,vs al B.length am,.map (some b),.map (some c),vi au],xU b (ga jH) (ga xZ) ar,xU c (ga wp) vI o] [stb d 95 [vs S a.fM.length T,vs V a.yf.length W,vs X a.fS.length Y,vs aa a.fK.length ab,vs ad a.yg.length ae,vs af a.fH.length ag,vs ah a.fU.length ai,vs aj a.ye.length ak,vs al B.length am,.map (some b),.map (some c),vi r.2.1],xU b (ga jH) (ga xZ) r.2.2.1,xU c (ga wp) vI r.2.2.2]:=by
 unfold uv at h
 refine Ni func22 U ip U ?_
 let M:List Value:=[vi f.ya,vi f.fQ];refine WC.pool<|B0q<|Lh 3 (wg (cs:=M)) ?_
 intro p _
 let C:List Value:=[vi 0,vi 0,vi 0,vi 0];refine Lh 4 (xW (cs:=C) zFv) ?_
 intro q _
 refine Q0n<|WC.b<|bK h fun e aO h=>D1q U<|Le 18 (xK z5S (xM .h1))<|Oj (dd:=19) U (Ns call42) (.s3 .h3 .h3 .h3) (sO hz (.s3 .h3 .h3 .h3) .h2 fun w pz ho=>nW _ _ _ _ _ _ _ _ _ _ _ _ _ _ _ _ _ _ _ _ _ _ _ _ _ _ _ _ _ aO pz ((aH.mono<|zl).weak (fun _ _ h=>qQ zl h)) ((aI.mono<|zl).weak (fun _ _ h=>qX zl h)) (aw.mono<|zl) (ax.mono<|zl) ((aJ.mono<|zl).weak (fun _ _ h=>qN zl h)) (aK.mono<|zl) ((aL.mono<|zl).weak (fun _ _ h=>qY zl h)) (aM.mono<|zl) ((aN.mono<|zl).weak (fun _ _ h=>jc zl h)) ho) ?_
 rintro t ay az aA aB
 refine WL.merge .here .h6<|Q5n U<|B1n U ?_
 obtain⟨a6,aP,h⟩:=jZ h
 let D:Value:=(vs S a.fM.length T);let E:Value:=(vs V a.yf.length W);let F:Value:=(vs X a.fS.length Y);let G:Value:=(vs aa a.fK.length ab);let H:Value:=(vs ad a.yg.length ae);let I:Value:=(vs af a.fH.length ag);let J:Value:=(vs ah a.fU.length ai);let K:Value:=(vs aj a.ye.length ak);let L:Value:=(vs al B.length am);refine N5 (fun u an ap=>(a6 u an=some r)/\(RR 1 (jJ (Z++([]++t))) ap u)) (fun u an ap=>[(0,vp d),(3,vp p),(4,vp q),(5,vs ay u.length az),(6,vi e.2.1),(7,vi an)]) (fun u an ap=>[fz ([]++t),row (vs ay u.length az) 173 1 ap,stb d 95 [D,E,F,G,H,I,J,K,L,(.map<|some b),(.map<|some c),vi e.2.2.1],stb p 97 M,stb q 58 C,xU b (ga jH) (ga xZ) e.2.2.2,xU c (ga wp) vI o]) ?_ ?_
 ·refine WC.b<|Lu nc []<|Lf 0 U (xA cv)<|Lg 1 U (Nt xL .h6)<|Lf 2 U q_m<|Lf 3 U w3<|Lf 4 U (xA rB)<|Lf 5 U (xA tk)<|Lg 6 U (Nt z9o .h2)<|Lf 7 U (w9 underlying22)<|Lf 8 U sR<|Lf 9 U q_z<|Ny (by kernel_rfl)<|Lb<|B2n U<|Lj h (fun aQ h=>?_)<|fun aQ h=>?_
  ·refine cK h fun aR h=>D1q U<|Le 34 w3<|Le 35 (xA rB)<|Le 36 (xA tn)<|Le 37 (Nt zal .h2)<|La U<|L3 (dd:=39) (Z:=(Z++([]++t))) (Pr:=(rq kT)) zc2 (aw.mono<|zl.trans (zl.trans (xN.qC _ _ _))) aR ?_
   rintro bc bd aS be rfl
   exact Le 40 (xA Ym)<|Le 41 (xB xL U<|wA (hz.pv2 .here) aS)<|La U<|WL.nil<|Lp ⟨e.1,(nth a.fS<|i64 (f.ya-(a.fM.length:Int))).yl,aA⟩ ⟨h,(aB.weak<|fun _ _ h=>g6 (xN.qC _ _ _) h)⟩ .q<|.s7 .here .here .here .h3 .h2 .here .here
  ·exact N0<|Lp ⟨e.1,0,aA⟩ ⟨h,(aB.weak<|fun _ _ h=>g6 (xN.qC _ _ _) h)⟩ .q<|.s7 .here .here .here .h3 .h2 .here .here
 ·rintro u an ap ⟨h,aC⟩
  replace h:=(aP u an).symm.trans h
  refine WC.b<|cK h fun aT h=>bK h fun aE aU h=>Lu (fun i=>[15].contains i) []<|Lf 0 U q_m<|Lf 1 U w3<|Lf 2 U (xA rB)<|Lf 3 U (xA lI)<|Lg 4 U (Nt zjx .h2)<|Lf 5 U (xA dN)<|Lg 6 U (Nt xL .h3)<|Nf (j:=7) (dd:=49) (by kernel_rfl) z2B z2C (Z:=(Z++([]++t))) (Pr:=(rq mM)) zqK (ax.mono<|zl.trans (zl.trans (xN.qC _ _ _))) aT ?_
  rintro bf bg aV bh rfl
  let Q:Value:=(vi ((nth a.fK f.fQ).yr));refine Lf 8 U (xA dL)<|Lg 9 U (xB xL U<|wA (hz.pv2 .here) aV)<|Lf 10 U (wm (v:=(.agg #[vi 1,Q])) (Lq (l:=[.const (vi 1),.tmp 51]) (.r2 U U) [0,1]) (fun _=>by kernel_rfl))<|Lf 11 U q_m<|L4 12 U (Ns call43) (sO hz .nil .here fun w pz ho=>ui _ _ _ aU pz )<|Lf 13 U (wm (v:=(.agg #[vi 1,Q,vi aE.fN,vi aE.fD])) (Lq (l:=[.tmp 52,.tmp 54]) (.r2 U U) [0,1]) (fun _=>by kernel_rfl))<|WD.new (i:=14) (dd:=9) U (by kernel_rfl) U (xW (cs:=C) zPx) (fun h'=>absurd h' (by decide)) ?_
  intro bi _
  refine Nc (i:=15) U (by kernel_rfl) (by kernel_rfl) (xP zPy .here)<|Ny (by kernel_rfl)<|Lb<|WC.b<|bK h fun g aW h=>D1q U<|Le 58 (xK zqP (xM .here))<|Lm 59 (Ns call44) .nil (eQ hz .nil .h1 (.cons .h2 .nil) fun w pz ho la=>Xs _ _ _ _ _ _ aW pz<|ZA.row (la _ (.head _) _) (aC.weak<|fun _ _ h=>g6 zl h) ⟨w,pz.1⟩)<|Q2q U<|La U (Lh 10 (xW (cs:=[vi 0,vi 0]) z1s) fun x _=>Ln (xP z12 .here)<|Q1n U<|WC.b ?_)
  refine bK h fun m aX h=>D1q U<|Le 64 (xK zqP (xM .h1))<|Lm 65 (Ns call45) .nil (eQ hz .nil .h2 (.cons .h3 .nil) fun w pz ho la=>aD _ _ _ _ _ _ aX pz<|ZA.row (la _ (.head _) _) (aC.weak<|fun _ _ h=>g6 zl h) ⟨w,pz.1⟩)<|Q2q U<|La U (Lh 12 (xW (cs:=[vi 0,vi 0]) z1s) fun y _=>Ln (xP z12 .here)<|Q1n U ?_)
  obtain⟨aF,aY,h⟩:=wo h
  let O:List Value:=[vi g.1.fN,vi g.1.fD];let P:List Value:=[vi m.1.fN,vi m.1.fD];refine L5 (fun ao=>(aF ao=some r)) (fun ao=>[(0,vp d),(3,vp p),(4,vp q),(6,vi e.2.1),(10,vp x),(12,vp y)]) (fun ao=>[fz ([]++t),stb d 95 [D,E,F,G,H,I,J,K,L,(.map<|some b),(.map<|some c),vi ao],stb p 97 M,stb q 58 C,stb x 132 O,stb y 132 P,xU b (ga jH) (ga xZ) e.2.2.2,xU c (ga wp) vI o]) ?_ ?_
  ·refine B2q U<|Lh 70 (ws (cs:=([g.2,m.2]:List Int).flatMap e39) zFH (Lq (l:=[.tmp 68,.tmp 69]) (.r2 U U) [0,1]) (fun _=>by kernel_rfl) (by unfold maxLen;omega)) ?_
   intro a7 _
   let A:Value:=(vs (some ⟨a7,0,none⟩) (([g.2,m.2]:List Int).length) 2);let N:Value:=(vi (([g.2,m.2]:List Int).length:Int));refine Le 71 (w9 underlying138)<|Q1n U<|WC.block<|N7 (fun aq n s=>(qx g m aF aq n s=some r)) (fun aq n s=>[(0,vp d),(3,vp p),(4,vp q),(6,vi e.2.1),(10,vp x),(12,vp y),(70,A),(71,N),(72,vi n)]) (fun aq n s=>[fz ([]++t),row A 39 1 (([g.2,m.2]:List Int).flatMap e39),stb d 95 [D,E,F,G,H,I,J,K,L,(.map<|some b),(.map<|some c),vi s],stb p 97 M,stb q 58 C,stb x 132 O,stb y 132 P,xU b (ga jH) (ga xZ) e.2.2.2,xU c (ga wp) vI o]) (fun aq n s=>aq) ⟨xR,0,e.2.2.1⟩ h .q (.s9 .h4 .here .h4 .h4 .h4 .h1 .here .h2 .h2) ?_
   rintro(_|a8) n s h;·cases h
   rw[qx] at h
   refine B1n U<|WC.b<|Lj h (fun aZ h=>?_)<|fun aZ h=>?_
   ·refine Nn<|jK1 h fun a9 a0 h=>L5 (fun R=>(a9 R=some r)) (fun R=>[(0,vp d),(3,vp p),(4,vp q),(6,vi e.2.1),(10,vp x),(12,vp y),(70,A),(71,N),(72,vi n)]) (fun R=>[fz ([]++t),row A 39 1 (([g.2,m.2]:List Int).flatMap e39),stb d 95 [D,E,F,G,H,I,J,K,L,(.map<|some b),(.map<|some c),vi R],stb p 97 M,stb q 58 C,stb x 132 O,stb y 132 P,xU b (ga jH) (ga xZ) e.2.2.2,xU c (ga wp) vI o]) ?_ ?_
    ·refine WC.block<|WC.b<|cK h fun av h=>Ld<|Le 74 (xY zFH av.1 av.2 wz)<|Le 75 (xB z5n U<|oQ .h1<|(wG (enc:=e39) (l:=([g.2,m.2]:List Int)) (i:=n) (sz:=1) (fun _=>U) av.1 av.2) 0 _ U)<|Q1n U<|jK1 h fun ba a1 h=>L5 (fun z=>(ba z=some r)) (fun z=>[(0,vp d),(3,vp p),(4,vp q),(6,vi e.2.1),(10,vp x),(12,vp y),(15,vi z),(70,A),(71,N),(72,vi n)]) (fun z=>[fz ([]++t),row A 39 1 (([g.2,m.2]:List Int).flatMap e39),stb d 95 [D,E,F,G,H,I,J,K,L,(.map<|some b),(.map<|some c),vi s],stb p 97 M,stb q 58 C,stb x 132 O,stb y 132 P,xU b (ga jH) (ga xZ) e.2.2.2,xU c (ga wp) vI o]) ?_ ?_
     ·refine B2n U<|Lj h (fun a2 h=>?_)<|fun a2 h=>?_
      ·exact D1q U<|WL.nil<|Lp 352 h .q<|.a9
      ·exact N0<|Lp (nth ([g.2,m.2]:List Int) n) h .q<|.a9
     ·rintro z h
      replace h:=(a1 z).symm.trans h
      refine B1q U<|Le 79 w3<|Le 80 (xA cw)<|Le 81 (Nt z5n .h2)<|Q1n U<|Lj h (fun a3 h=>?_)<|fun a3 h=>?_
      ·exact D2q U<|Le 85 w3<|Le 86 (xA cw)<|Ln (kO (ds:=[D,E,F,G,H,I,J,K,L,(.map<|some b),(.map<|some c),vi z]) zqO .h2)<|WL.nil<|Lt<|Lp z h .q<|.s9 .h1 .h1 .here .here .here .here .here .here .here
      ·exact N0<|Lt<|Lp s h .q<|.a9
    ·rintro R h
     replace h:=(a0 R).symm.trans h
     exact D2q U<|WL.nil<|Nx ⟨a8,i64 (n+1),R⟩ h (Nat.lt_succ_self _) .q<|.a9
   ·exact Nz<|Lo<|Lo<|Lv<|Lp s h .q<|.s8 .here .h1 .h1 .h1 .h1 .h1 .h1 .h1
  ·rintro ao h
   replace h:=(aY ao).symm.trans h
   exact WC.b<|bK h fun aG a4 h=>Lu (fun i=>[7].contains i) []<|Lf 0 U q_m<|Lf 1 U w3<|Lf 2 U (xA V8)<|Lg 3 U (Nt zqN .h1)<|Lg 4 U (xK z5S (xM .h2))<|Lg 5 U (xK ze (xM .h4))<|L4 6 U (Ns call46) (sO hz .nil .here fun w pz ho=>o7 _ _ _ a4 pz )<|Nc (i:=7) U (by kernel_rfl) (by kernel_rfl) (mO (k:=f) (v:=aG) zgR underlying93 .h7)<|Ny (by kernel_rfl)<|Lb<|WC.b<|bK h fun bb a5 h=>Lu (fun i=>[15].contains i) []<|Lf 0 U (xA cv)<|Lg 1 U (Nt xL .h3)<|Lf 2 U (xA dN)<|Lg 3 U (Nt xL .h3)<|Lf 4 U q_m<|Lf 5 U w3<|Lf 6 U (xA V8)<|Lg 7 U (Nt zqN .h2)<|Lg 8 U (xK z5S (xM .h3))<|Lg 9 U (ku (k:=f) (dflt:=(0:Int)) zgR underlying93 ms .here)<|Lg 10 U (xK ze (xM .h6))<|L4 11 U (Ns call46) (sO hz .nil .h1 fun w pz ho=>o7 _ _ _ a5 pz )<|Lf 12 U q_m<|Lf 13 U rP<|Lf 14 U (wm (v:=(.agg #[vi f.ya,vi f.fQ,(vi<|xC (w4 o f aG) f 0),(vi<|i64 (bb+e.2.1))])) (Lq (l:=[.tmp 96,.tmp 98,.tmp 104,.tmp 108]) (.r4 U U U U) [0,1,2,3]) (fun _=>by kernel_rfl))<|Nc (i:=15) U (by kernel_rfl) (by kernel_rfl) (xP zFI .h4)<|Ny (by kernel_rfl)<|Lb<|Nw<|oJ h▸Nm results22 (.agg U zm1 U (xM .here) .nil) (.s3 .h3 .h6 .h1)
def qh(a:zp)(b:zp):Option Int:=
 (vR (⟨a.ya,a.fQ⟩:z7) (⟨b.ya,b.fQ⟩:z7)).bind fun c=>some c
theorem YR(Z a b r)(h:qh a b=some r){Nv}(hz:PZ [] Nv Z):
  RC 24 #[.agg #[vi a.ya,vi a.fQ,vi a.yl,vi a.fT],.agg #[vi b.ya,vi b.fQ,vi b.yl,vi b.fT]] Nv (vi r) [] []:=by
 unfold qh at h
 refine Lz func24 U U<|B0q (Lh 2 (wg (cs:=[vi a.ya,vi a.fQ,vi a.yl,vi a.fT])) fun d _=>Lh 3 (wg (cs:=[vi b.ya,vi b.fQ,vi b.yl,vi b.fT])) fun e _=>Q1n U<|WC.b ?_)
 exact bK h fun f c h=>Ld<|Le 5 (xA Yn)<|Le 6 (Nt xL .h1)<|Le 7 (xA V9)<|Le 8 (Nt xL .h1)<|Le 9 (wm (v:=(.agg #[vi a.ya,vi a.fQ])) (Lq (l:=[.tmp 6,.tmp 8]) (.r2 U U) [0,1]) (fun _=>by kernel_rfl))<|Le 10 (xA Yn)<|Le 11 (Nt xL .here)<|Le 12 (xA V9)<|Le 13 (Nt xL .here)<|Le 14 (wm (v:=(.agg #[vi b.ya,vi b.fQ])) (Lq (l:=[.tmp 11,.tmp 13]) (.r2 U U) [0,1]) (fun _=>by kernel_rfl))<|Nr call25 hz (oY _ _ _ _ c)<|Q1n U<|Nw<|oJ h▸Nl results24
theorem z12t:∀ w,(isAgg (Tryz.gq.t 24)).run Tryz.prog w = .ok true w:=fun _=>by kernel_rfl
theorem z12u:∀ w,(Go.sizeOf (Tryz.gq.t 24)).run Tryz.prog w = .ok 4 w:=fun _=>by kernel_rfl
def kR(z6q:List zp)(zsZ:Int)(zt0:Int)(zop:Int)(zkX:zp->zp->Option Int):Option (List zp):=chk ((zsZ=0/\zt0=(z6q.length:Int))/\(0<=zop/\zop<4611686018427387904/\z6q.length<4611686018427387904)) (chk (ot zkX (wH zkX z6q)=true) (some (wH zkX z6q)))
theorem rY(Z zkY zkZ zt1 zDb z6q zsZ zt0 zop zkX r){Nv}(hz:Pz [row (vs zkY z6q.length zkZ) 58 4 (z6q.flatMap kz)] Nv Z)(a:∀ args w,(callFunc zt1 args).run Tryz.prog w = .ok (.enter zt1 args) w)(b:∀ w:World,PZ [] w Z->∀(x0:zp) (x1:zp) (r:Int),zkX x0 x1=some r->Calls Tryz.prog zt1 (([.agg #[vi x0.ya,vi x0.fQ,vi x0.yl,vi x0.fT],.agg #[vi x1.ya,vi x1.fQ,vi x1.yl,vi x1.fT]]:List Value)++zDb).toArray w fun e w'=>e = .returned (vi r)/\Hp [] w w' [])(h:kR z6q zsZ zt0 zop zkX=some r)(ip:Ho Nv [row (vs zkY z6q.length zkZ) 58 4 (z6q.flatMap kz)]):
  Calls Tryz.prog 47 #[vs zkY z6q.length zkZ,vi zsZ,vi zt0,vi zop,.func (.func zt1) #[] (zDb).toArray] Nv fun e w'=>e = .returned (.tuple #[])/\(r.length=z6q.length)/\Hp (fps [row (vs zkY z6q.length zkZ) 58 4 (z6q.flatMap kz)]) Nv w' [row (vs zkY r.length zkZ) 58 4 (r.flatMap kz)]:=by
 obtain⟨h0,h⟩:=xH h
 obtain⟨h1,h⟩:=xH h
 have hr:=(oJ h).symm
 exact ii (P:=Tryz.prog) (f:=47) (e:=58) (k:=4) (enc:=kz) (fun _=>U) (by decide) Jj (fun β _ enc cf g cb hO wr off cap d0 w0 eg hC R=>Tryz.ik 4 z12t z12u enc cf g cb hO wr off cap d0 w0 eg hC R) (Tryz.lG (α:=Unit)) hz a b h0 h1 hr ip
def vM(a:List zp)(zoq:zp->zp->Option Int):Option (List zp):=
 (mg (u64 (a.length:Int))).bind fun b=>(kR a 0 (a.length:Int) b zoq).bind fun c=>some c
theorem tL(Z b c zor zwn a zoq r)(h:vM a zoq=some r){Nv}(hz:Pz [row (vs b a.length c) 58 4 (a.flatMap kz)] Nv Z)(j:∀ args w,(callFunc zor args).run Tryz.prog w = .ok (.enter zor args) w)(k:∀ w:World,PZ [] w Z->∀(x0:zp) (x1:zp) (r:Int),zoq x0 x1=some r->Calls Tryz.prog zor (([.agg #[vi x0.ya,vi x0.fQ,vi x0.yl,vi x0.fT],.agg #[vi x1.ya,vi x1.fQ,vi x1.yl,vi x1.fT]]:List Value)++zwn).toArray w fun e w'=>e = .returned (vi r)/\Hp [] w w' [])(ip:Ho Nv [row (vs b a.length c) 58 4 (a.flatMap kz)]):
  Calls Tryz.prog 23 #[vs b a.length c,.func (.func zor) #[] (zwn).toArray] Nv fun e w'=>e = .returned (.tuple #[])/\(r.length=a.length)/\Hp (fps [row (vs b a.length c) 58 4 (a.flatMap kz)]) Nv w' [row (vs b r.length c) 58 4 (r.flatMap kz)]:=by
 unfold vM at h
 refine Ni func23 U ip U<|B1q U<|Le 6 (w9 underlying35)<|Q1n U<|bK h fun d l h=>bK h fun f m h=>D3q U<|Le 10 (fg underlying3 underlying142)<|Nr call48 hz (fun pz=>oZ (Z:=_)  (z9t:=(u64 (a.length:Int))) (r:=d) pz  l)<|La U<|Na (dd:=13) U (Ns call47) (.cons .here .nil) (cc hz (.cons .here .nil) fun w pz ho=>rY (Z:=_) (zkY:=b) (zkZ:=c) (zt1:=zor) (zDb:=zwn) (z6q:=a) (zsZ:=0) (zt0:=(a.length:Int)) (zop:=d) (zkX:=zoq) (r:=f) pz j k m ho) ?_
 rintro  g
 exact L7 (i:=0) U (u:=(vs b f.length c)) (qs g.symm)<|WL.nil<|oJ h▸Nh results23 .nil fun w hw=>⟨mF,g.trans U,hw.sub (.cons .here .nil)⟩
def gK(a:List zb)(c:Option Bool):Nat->Int->Option Bool
 | 0,_=>none
 | e+1,b=>if decide (b<a.length) then chk (0<=b/\b<a.length) (chk ((0:Int)<=0/\(0:Int)<=b/\b<=a.length) ((uO (a.take (b:Int).toNat) ((nth a b).ya)).bind fun d=>chk ((!d.2)=true->((0:Int)<=0/\0<(a.length:Int))) (if (!d.2)&&(decide (((nth a b).ya)≠((nth a 0).ya))) then some false else gK a c e (i64 (b+1))))) else c
def po(a:List zb):Option Bool:=
 uB (some true) fun b=>gK a b xR 0
theorem Jv(Z f g b r)(h:po b=some r){Nv}(hz:PZ [] Nv Z)(k:ZS Z 3 (rq mW) f g b):
  RC 52 #[vs f b.length g] Nv (.bool r) [] []:=by
 unfold po at h
 refine L8 func52 U U<|B1n U<|jK0 h fun m p h=>Nd (m=some r) ([]) ([]) ?_ ?_
 ·let A:Value:=(vs f b.length g);let D:Value:=(vi (b.length:Int));refine B1q U<|Le 8 (w9 underlying48)<|Q1n U<|WC.block<|Ng (fun d a=>(gK b m d a=some r)) (fun d a=>[(0,A),(7,A),(8,D),(9,vi a)]) (fun d a=>[]) (fun d a=>d) ⟨xR,0⟩ h .q .nil ?_
  rintro(_|J) a h;·cases h
  rw[gK] at h
  refine B1n U<|WC.b<|Lj h (fun q h=>?_)<|fun q h=>?_
  ·refine Nn<|WC.b<|WC.block<|WC.b<|cK h fun s h=>D1q U<|L3 (dd:=12) (Z:=Z) (Pr:=(rq mW)) z8g k s ?_
   rintro t K u L rfl
   refine Le 13 (xK z4D (qV hz.pv u)) (Lh 4 (xW (cs:=[vi 0,vi 0,vi 0]) zdJ) fun n _=>La U<|Ln (xP zc3 .here)<|Q0n<|WC.b ?_)
   refine cK h fun v h=>bK h fun c x h=>Lu (fun i=>[10].contains i) []<|Lf 0 U q_m<|Lf 1 U q_m<|Pc (j:=2) (dd:=17) (by kernel_rfl) U z2B z2C U U (Z:=Z) (Pr:=(rq mW)) z8g U k (fun _=>ixn) (fun _=>ixo U) U U v (List.drop_zero).symm ?_
   rintro y z B
   refine Lf 3 U (xA gO)<|Lg 4 U (Nt xL .here)<|L4 5 U (Ns call39) (cc hz .nil fun w pz ho=>cO _ _ _ _ _ _ x pz B)<|Lf 6 U q_m<|Lf 7 U mv<|Lf 8 U mv (WD.new (i:=9) (dd:=5) U (by kernel_rfl) U (xW (cs:=[vi 0,vi 0,vi 0]) zdJ) (fun h'=>absurd h' (by decide)) fun E _=>WD.forced0 (i:=10) U (by kernel_rfl) (wT.of .nil) (xP zc3 .here)<|Lf 11 U q_z<|Ny (by kernel_rfl)<|Lb<|WC.b ?_)
   obtain⟨F,h⟩:=xH h
   let C:Value:=(.agg #[vi c.1.ya,vi c.1.fX,vi c.1.fQ]);refine Lu nc []<|Lf 0 U q_m<|Lf 1 U (Yd U)<|Lf 2 U q_m<|L9 (fuel':=0) [(0,A),(7,A),(8,D),(9,vi a),(10,(.bool<|decide (a<b.length))),(11,vi a),(12,vq t),(13,.agg #[(vi<|(nth b a).ya),(vi<|(nth b a).fX),(vi<|(nth b a).fQ)]),(4,vp n),(3,vi a),(15,A),(16,vi a),(17,vs y ((b.take (a:Int).toNat).length) z),(18,vp n),(19,(vi<|(nth b a).ya)),(20,.tuple #[C,.bool c.2]),(14,.tuple #[C,.bool c.2]),(21,C),(22,.bool c.2),(5,vp E),(6,.bool c.2),(23,.bool c.2),(24,.bool (!c.2)),(25,.bool (!c.2)),(33,(.bool<|(!c.2)&&(decide (((nth b a).ya)≠((nth b 0).ya)))))] (j7 11 (dn 11)) ?_<|fun o=>?_
   rotate_left
   ·rcases Bool.eq_false_or_eq_true (!c.2) with hb' | hb'
    ·have e:=hb';clear hb'
     have G:=F e
     refine L0 (i:=25) U e<|Lf 3 U (xA gO)<|Lg 4 U (Nt xL .h1)<|Lf 5 U q_m<|Nf (j:=6) (dd:=29) (by kernel_rfl) z2B z2C (Z:=Z) (Pr:=(rq mW)) z8g k G ?_
     rintro M N H O rfl
     refine Lf 7 U (xA gO)<|Lg 8 U (xB xL U<|wA hz.pv H)<|Lf 9 U (GL U U)<|Lf 10 U qE<|L2 .a2 ?_ o
     exact .t 23<|.r2 (zu<|Eq.symm e)<|zu<|jS e
    ·have l:=hb';clear hb'
     refine L0 (i:=25) U l<|Lk 3 U<|Lk 4 U<|Lk 5 U<|Lk 6 U<|Lk 7 U<|Lk 8 U<|Lk 9 U<|Lf 10 U qF<|L2 .a2 ?_ o
     exact .t 23<|.r2 (zu<|Eq.symm l)<|zu<|jR l
   refine Ny (by kernel_rfl)<|Lb<|Lj h (fun I h=>?_)<|fun I h=>?_
   ·exact B1n U<|Nw<|Ly<|Ll<|Ll<|Ly<|Ll<|oJ h▸Nl results52
   ·exact N0<|Lt<|Lb<|D2q U<|WL.nil<|Nx ⟨J,i64 (a+1)⟩ h (Nat.lt_succ_self _) .q .nil
  ·exact Nz<|Lo<|Lo<|Lv<|Lp () h .nil .nil
 ·rintro  h
  replace h:=p.symm.trans h
  exact B1n U<|Nw<|oJ h▸Nl results52
def fq(a:List zb):Option Bool:=
 (po a).bind fun b=>some (!b)
theorem Vi(Z b c a r)(h:fq a=some r){Nv}(hz:PZ [] Nv Z)(d:ZS Z 3 (rq mW) b c a):
  RC 51 #[vs b a.length c] Nv (.bool r) [] []:=by
 unfold fq at h
 exact L8 func51 U U<|B1n U<|WC.b<|bK h fun f e h=>D1q U<|Nr call52 hz (fun pz=>Jv _ _ _ _ _ e pz d)<|Q2n U<|Nw<|oJ h▸Nl results51
def kg(a:zw)(b:zw):Option Int:=
 some (i64 (a.ya-b.ya))
theorem Vj(Z a b r)(h:kg a b=some r){Nv}(hz:PZ [] Nv Z):
  RC 54 #[.agg #[vi a.yq,vi a.ya,vi a.yl],.agg #[vi b.yq,vi b.ya,vi b.yl]] Nv (vi r) [] []:=by
 unfold kg at h
 refine Lz func54 U U<|B0q (Lh 2 (wg (cs:=[vi a.yq,vi a.ya,vi a.yl])) fun c _=>Lh 3 (wg (cs:=[vi b.yq,vi b.ya,vi b.yl])) fun d _=>Q1n U<|B0q<|Le 5 (xA Va)<|Le 6 (Nt xL .h1)<|Le 7 (xA Va)<|Le 8 (Nt xL .here)<|Q2n U<|Nw ?_)
 exact oJ h▸Nl results54
end Go.Proofs.YtcahmabkeaijdaaGreat
