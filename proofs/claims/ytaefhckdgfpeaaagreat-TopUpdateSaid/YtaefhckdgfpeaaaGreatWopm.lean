/- A part of this claim's proof: models of functions, walks, plain laws. No conditions. -/
import Derived.Test.YtaefhckdgfpeaaaGreatWopl
set_option linter.all false
namespace Go.Proofs.YtaefhckdgfpeaaaGreat
open Go Go.RowKit Sep Tryz
variable {f j:Int}{g:List (List Int)}{i:(List (List Int))->Option yJ}
set_option maxRecDepth 30000
set_option maxHeartbeats 4000000
def jm(f:Int)(a:Int×List Int)(b:List yb)(e:Int):Option (Bool×(Nat×List yb×Int)):=
 (g9 (⟨f,i64 (e+1)⟩:xD)).bind fun c=>(sL a.2).bind fun d=>chk ((((b++([(⟨i64 (c+a.1),false,d⟩:yb)]:List yb)).length:Nat):Int)*40<=140737488355328/\(((b++([(⟨i64 (c+a.1),false,d⟩:yb)]:List yb)).length:Nat):Int)<=4611686018427387904) (some (true,(0,b++([(⟨i64 (c+a.1),false,d⟩:yb)]:List yb),i64 (e+1))))
def k7(f:yJ)(b:yz)(g:Int)(h:Int):Option (List yb):=
 (mO f).bind fun m=>(if !m then some true else(g8 b).bind fun n=>some (!n)).bind fun p=>if p then none else(gS b g h).bind fun o=>if !o then none else(qi (⟨f,g,h⟩:xe)).bind fun a=>Q5 (fun(c:Int) (i:Int) (q:Int)=>(te b).bind fun j=>(g4 j).bind fun r=>rl (fun(t:Int) (d:List yb)=>(gE (⟨(⟨i,t⟩:xD),q,r⟩:xq)).bind fun e=>chk ((((d++([(⟨c,false,e⟩:yb)]:List yb)).length:Nat):Int)*40<=140737488355328/\(((d++([(⟨c,false,e⟩:yb)]:List yb)).length:Nat):Int)<=4611686018427387904) (some (d++([(⟨c,false,e⟩:yb)]:List yb)))) fun u=>(tJ j).bind fun v=>(ug (Nat×List yb×Int) (fun(x:Int×List Int) (s:Nat×List yb×Int)=>chk (s.1=0) (jm i x s.2.1 s.2.2)) (0,([]:List yb),0) v).bind fun k=>u k.2.2 k.2.1) fun l=>if decide (a.2.2>=0) then if decide (b.yd<=a.2.1.yd) then none else if decide (a.1.yY=4294967295) then none else l (i64 (1-a.2.2)) (i64 (1-a.1.yN.xf)) (u32 (a.1.yY+1)) else l 0 0 1
theorem lu(Z az aA aB aC aD aE av a ak al r)(h:k7 av a ak al=some r){Ek}(hz:PZ [] Ek Z)(aK:ZS Z 1 (ff Z) az aA av.yf)(aF:ZS Z 1 (rq e5) aB aC a.yx)(aG:ZS Z 1 (rq vK) aD aE a.y5.yr):
  Calls Tryz.prog 9 #[.agg #[vs az av.yf.length aA],.agg #[.string a.yl,vi a.yd,vs aB a.yx.length aC,vi a.y5.yK,.int .u64 a.y5.y4.a0,.int .u64 a.y5.y4.a1,.int .u64 a.y5.y4.a2,.int .u64 a.y5.y4.a3,.int .u64 a.y5.y4.a4,.int .u64 a.y5.y4.a5,.int .u64 a.y5.y4.a6,.int .u64 a.y5.y4.a7,.int .u64 a.y5.y4.a8,.int .u64 a.y5.y4.a9,.int .u64 a.y5.y4.a10,.int .u64 a.y5.y4.a11,.int .u64 a.y5.y4.a12,.int .u64 a.y5.y4.a13,.int .u64 a.y5.y4.a14,.int .u64 a.y5.y4.a15,.int .u64 a.y5.y4.a16,.int .u64 a.y5.y4.a17,vs aD a.y5.yr.length aE],.int .u64 ak,vi al] Ek fun e w'=>∃ Zn:Zp,∃ aL:Option Addr,∃ aM:Nat,∃ aN:List Value,e = .returned (.tuple #[vs aL r.length aM,vi 0])/\(RR 3 (mS (Z++Zn)) aN r)/\Hp [] Ek w' [fz Zn,row (vs aL r.length aM) 138 3 aN]:=by
 unfold k7 at h
 let K:Value:=(vs az av.yf.length aA);let R:Value:=(vs aD a.y5.yr.length aE);let S:Value:=(vs aB a.yx.length aC);let E:Value:=(.agg #[.string a.yl,vi a.yd,S,vi a.y5.yK,.int .u64 a.y5.y4.a0,.int .u64 a.y5.y4.a1,.int .u64 a.y5.y4.a2,.int .u64 a.y5.y4.a3,.int .u64 a.y5.y4.a4,.int .u64 a.y5.y4.a5,.int .u64 a.y5.y4.a6,.int .u64 a.y5.y4.a7,.int .u64 a.y5.y4.a8,.int .u64 a.y5.y4.a9,.int .u64 a.y5.y4.a10,.int .u64 a.y5.y4.a11,.int .u64 a.y5.y4.a12,.int .u64 a.y5.y4.a13,.int .u64 a.y5.y4.a14,.int .u64 a.y5.y4.a15,.int .u64 a.y5.y4.a16,.int .u64 a.y5.y4.a17,R]);refine E7 (vs:=[.agg #[K],E,.int .u64 ak,vi al]) (pre:=[]) (env:=[(0,.agg #[K]),(1,E),(2,.int .u64 ak),(3,vi al)]) func9 U ntmps9 (Hp.nil Ek _) U ?_
 refine WC.pool<|B0q<|Lh 4 (wu (cs:=[K])) ?_
 intro bW _
 let A:List Value:=[.string a.yl,vi a.yd,S,vi a.y5.yK,.int .u64 a.y5.y4.a0,.int .u64 a.y5.y4.a1,.int .u64 a.y5.y4.a2,.int .u64 a.y5.y4.a3,.int .u64 a.y5.y4.a4,.int .u64 a.y5.y4.a5,.int .u64 a.y5.y4.a6,.int .u64 a.y5.y4.a7,.int .u64 a.y5.y4.a8,.int .u64 a.y5.y4.a9,.int .u64 a.y5.y4.a10,.int .u64 a.y5.y4.a11,.int .u64 a.y5.y4.a12,.int .u64 a.y5.y4.a13,.int .u64 a.y5.y4.a14,.int .u64 a.y5.y4.a15,.int .u64 a.y5.y4.a16,.int .u64 a.y5.y4.a17,R];refine Lh 5 (wu (cs:=A)) ?_
 intro u _
 refine Q2n U<|Lb<|WC.block<|Lb<|bK h fun bX a7 h=>bK h fun bS aO h=>Le<|Lf 21 (we z3N (wh .h1))<|Lm 22 (Eh call25) .nil (qB hz .nil .h2 fun w pz ho=>eO _ _ _ _ _ a7 pz<|(aK.mono<|zl).weak (fun _ _ h=>gM zl h))<|Q2q U<|Lx false 3 24 (B:=bS) (fun h=>(oJ<|qf aO h).symm) (fun _ a8=>?_) ?_
 ·have am:=qg aO a8
  obtain⟨bY,a9,am⟩:=z2 am
  replace am:=oJ am
  exact Lf 25 (we z4P (wh .here))<|Lm 26 (Eh call26) .nil (qB hz .nil .h2 fun w pz ho=>ox _ _ _ _ _ _ _ a9 pz (aF.mono<|zl)<|aG.mono<|zl)<|Q2q U<|Ly am U .all
 refine Q1n U<|Lj h (fun ba h=>?_)<|fun ba h=>?_
 ·cases h
 ·refine Lb<|bK h fun bZ bb h=>Le<|Lf 30 (we z4P (wh .here))<|Q2q U<|Lm 33 (Eh call27) .nil (qB hz .nil .h2 fun w pz ho=>dN _ _ _ _ _ _ _ _ _ bb pz (aF.mono<|zl)<|aG.mono<|zl)<|Q2n U<|Lj h (fun bc h=>?_)<|fun bc h=>?_
  ·cases h
  ·refine Ep<|Lq<|Ld<|Lb<|bK h fun af bd h=>Le<|Lf 36 (we z3N (wh .h1))<|Q2q U<|Lf 39 (wN (v:=(.agg #[K,.int .u64 ak,vi al])) (Lt (l:=[.tmp 36,.tmp 37,.tmp 38]) (.r3 U U U) [0,1,2]) (fun _=>by kernel_rfl))<|Np (dd:=40) U (Eh call28) .nil (qB hz .nil .h2 fun w pz ho=>oD _ _ _ _ _ bd pz<|(aK.mono<|zl).weak (fun _ _ h=>gM zl h)) ?_
   rintro b0 b1 b2 b3 _
   let P:List Value:=[vi 0,vi 0,.int .u32 0,.int .u64 0];refine La U<|La U<|La U<|La U<|Lh 10 (wn (cs:=P) zh0) ?_
   intro be _
   refine Lh 11 (wn (cs:=[.string ⟨#[]⟩,vi 0,vn,vi 0,.int .u64 0,.int .u64 0,.int .u64 0,.int .u64 0,.int .u64 0,.int .u64 0,.int .u64 0,.int .u64 0,.int .u64 0,.int .u64 0,.int .u64 0,.int .u64 0,.int .u64 0,.int .u64 0,.int .u64 0,.int .u64 0,.int .u64 0,.int .u64 0,vn]) z8p) fun b4 _=>Ll (wl zdv .h1)<|Ll (wl z8q .h1)<|Q1n U<|B0q<|Lf 44 (wN (v:=(.agg #[vi 0,vi 0,.int .u32 1,.int .u64 0])) (Lt (l:=[.const (.int .u32 1)]) (.cons U .nil) [1]) (fun _=>by kernel_rfl)) (Lh 13 (wn (cs:=P) zh0) fun k _=>Ll (wl zdv .here)<|Q0n<|B1n U ?_)
   refine jK3 h fun bT bf h=>Nf (fun d b j=>(bT d b j=some r)) (fun d b j=>[(5,vp u),(13,vp k),(14,vi d)]) (fun d b j=>[fz [],stb u 42 A,stb k 124 [vi b,vi 0,.int .u32 j,.int .u64 0]]) ?_ ?_
   ·refine B2n U<|Lj h (fun bg h=>?_)<|fun bg h=>?_
    ·refine Lb<|WC.block<|B0q<|Lf 48 (w7 pX)<|Lf 49 (Ei wm .h5)<|Lf 50 (w7 pX)<|Lf 51 (Ei wm .h1)<|Q2n U<|Lj h (fun bh h=>?_)<|fun bh h=>?_
     ·cases h
     ·refine B0q<|Lf 54 (w7 cx)<|Lf 55 (Ei zvE .h2)<|Q2n U<|Lj h (fun bi h=>?_)<|fun bi h=>?_
      ·cases h
      ·let X:Value:=(vi (i64 (1-af.1.yN.xf)));refine Ep<|Lq<|Ld<|Lv (fun i=>[11,13].contains i) [pp be 124 [(2,.int .u32 af.1.yY)]]<|Lg 0 U (w7 mV)<|Lg 1 U (w7 dx)<|Li 2 U (Ei wm .h2)<|Lg 3 U oU<|Lg 4 U (w7 cx)<|Na 5 U (wS.wk (.cons .h2 .nil)<|.stb (.cons U .nil) .nil) (w8 zvE U<|mF .here<|.head _)<|Lg 6 U fb<|Lg 7 U q_m<|Lg 8 U oU<|Lg 9 U (w7 mV)<|Lg 10 U (w7 dx)<|Dd (i:=11) U (by kernel_rfl) U U U (wS.wk (.cons .h2 .nil)<|.stb (.cons U .nil) .nil) (vg (ds:=[X,vi 0,.int .u32 1,.int .u64 0]) jM .here)<|Lg 12 U (w7 cx)<|Dd (i:=13) U (by kernel_rfl) U U U (wS.wk (.cons .h2 .nil)<|.stb (.cons U .nil) .nil) (vg (ds:=[X,vi 0,(.int .u32<|u32 (af.1.yY+1)),.int .u64 0]) zZF .here)<|Lg 14 U q_z<|Eo (by kernel_rfl) ?_
       exact Lp ⟨i64 (1-af.2.2),i64 (1-af.1.yN.xf),u32 (af.1.yY+1)⟩ h .q<|.s3 .h7 .h5 .here
    ·exact Ep<|Lp ⟨0,0,1⟩ h .q<|.s3 .h7 .h5 .here
   ·rintro d b j h
    replace h:=(bf d b j).symm.trans h
    refine Lb<|bK h fun bU bj h=>Le<|Lf 70 (we z4P (wh .h1))<|L7 (dd:=71) U (Eh call29) .nil (qB hz .nil .here fun w pz ho=>QO _ _ _ _ _ _ _ bj pz (aF.mono<|zl)<|aG.mono<|zl) ?_
    rintro b5 b6 _
    refine Q5n U<|Lb<|B1q U<|Lf 75 kj<|Q0n<|Er (fun h'=>(by cases h'))<|fun h'=>?_
    clear h'
    refine Ec<|Lb ?_
    obtain⟨aa,bk,h⟩:=z2 h
    let O:List Value:=[vi b,vi 0,.int .u32 j,.int .u64 aa];refine D1q U<|Lm 78 (Eh call30) .nil (uT hz .nil .h1 (.cons .here .nil) fun w pz ho la=>rH _ _ _ _ _ bk pz<|ZA.row (la _ (.head _) _) (RR.flat (enc:=e5) (fun _=>U) _) ⟨w,pz.1⟩)<|Lf 79 (w7 Wf)<|Ll (vg (ds:=O) zgZ .h3)<|Q0n<|B0q<|Lh 17 (wn (cs:=[vn]) z1ey) ?_
    intro n _
    refine Q0n<|jK2 h fun bV bl h=>Oa (fun an ag o ah ap aq ab=>(bV ag o=some r)/\(wg (Z++[]) (Z++ah))/\(RR 3 (mS (Z++ah)) ab o)) (fun an ag o ah ap aq ab=>[(13,vp k),(14,vi d),(17,vp n)]) (fun an ag o ah ap aq ab=>[fz ah,stb k 124 [vi b,vi ag,.int .u32 j,.int .u64 aa],stb n 50 [vs ap o.length aq],row (vs ap o.length aq) 138 3 ab,wW an]) ?_ ?_
    ·refine Lb<|WC.freezeS (ls:=bU) .h2 .h2 hz (RR.flat (enc:=e5) (fun _=>U) _) ?_
     intro c bm bn
     refine bK h fun aW bo h=>D1q U<|Ha (dd:=81) U (Eh call31) .nil (qB hz .nil .here fun w pz ho=>Vh _ _ _ _ _ bo pz bn) ?_
     rintro y aX aY bp
     refine Q0n<|WC.block<|WC.pool<|WC.drop (.s6 .here .h2 .h2 .h2 .here .here)<|WC.nilRow 138 3<|Ez (f:=74) (caps:=[vp y]) U call74 ?_
     intro b7 b8 z p ai aH bq br w hw
     let Q:Value:=(vs none (([]:List yb).length) 0);let C:List Asrt:=[fz [],stb n 50 [Q],row Q 138 3 [],stb k 124 O,stb u 42 A,wA z (ai .ready none)];have hw1:=hw.selAll ((.s6 .h3 .h3 .h2 .h2 .h2 .here):Sel _ C _)
     let I:List Value:=[vs aX aW.length aY];have pz:=(hz.call2 hw1 ((.s2 .here .h1):Sel [wM C,wW p,stb y 23 I,fz c] [wM C,stb y 23 I] [wW p,fz c]) .h1)
     refine bK h fun q bs h=>Calls.mono (XH (Z:=_) (zN7:=z) (zro:=(Zp×Option Addr×Nat×List Value)) (zgK:=(fun(g:Zp×Option Addr×Nat×List Value) (s:Nat×List yb×Int)=>wM ([fz g.1,stb n 50 [vs g.2.1 s.2.1.length g.2.2.1],row (vs g.2.1 s.2.1.length g.2.2.1) 138 3 g.2.2.2,stb k 124 [vi b,vi s.2.2,.int .u32 j,.int .u64 aa],stb u 42 A]++[wA z (ai (ka<|vY [] s.1)<|vY [] s.1)]))) (zBF:=(fun(g:Zp×Option Addr×Nat×List Value) (s:Nat×List yb×Int)=>(wg ((Z++c)++[]) ((Z++c)++g.1))/\(RR 3 (mS ((Z++c)++g.1)) g.2.2.2 s.2.1))) (zuS:=([],none,0,[])) (znr:=y) (zuT:=aX) (zuU:=aY) (z3X:=(Nat×List yb×Int)) (zgJ:=(fun(x:Int×List Int) (s:Nat×List yb×Int)=>chk (s.1=0)<|jm b x s.2.1 s.2.2)) (zjC:=(0,([]:List yb),0)) (zjD:=aW) (r:=q) pz ?_ ⟨wg.refl _,RR.nil _ _⟩ bp bs<|hw1.owns ((.s2 .here .h1):Sel [wM C,wW p,stb y 23 I,fz c] [wM C,stb y 23 I] [wW p,fz c])) ?_
     ·refine YW (LI:=(fun(g:Zp×Option Addr×Nat×List Value) (s:Nat×List yb×Int)=>[fz g.1,stb n 50 [vs g.2.1 s.2.1.length g.2.2.1],row (vs g.2.1 s.2.1.length g.2.2.1) 138 3 g.2.2.2,stb k 124 [vi b,vi s.2.2,.int .u32 j,.int .u64 aa],stb u 42 A])) (pc:=(fun(s:Nat×List yb×Int)=>vY [] s.1)) aH bq br (fun _ _=>U) (by decide) ?_
      rintro m ⟨aP,aQ⟩ ⟨bt,bu,bv,aw⟩ ⟨bw,ar,ax⟩ bx bz Fb wb aR ⟨aS,bA⟩ bB hz
      letI:Rnd:=rX z
      obtain⟨vj,t⟩:=wa aR
      replace vj:bw=0:=vj;subst vj;clear aR
      replace t:jm b m ar ax=some (bx,bz):=t
      unfold jm at t
      let M:List Value:=[vi b,vi (i64 (ax+1)),.int .u32 j,.int .u64 aa];let T:Value:=(vs bu ar.length bv);refine WC.restr (env':=[(13,vp k),(75,.bool false),(17,vp n),(82,vi m.1),(83,vs aP m.2.length aQ)]) (.qo U)<|N4 (L':=[fz bt,stb n 50 [T],row T 138 3 aw,stb k 124 [vi b,vi ax,.int .u32 j,.int .u64 aa],stb u 42 A,wA z (ai .ready none)]) U<|B1n U<|D1q U<|WL.nil<|N0 aH .h5<|WC.block<|B0q<|Lf 84 (w7 mV)<|Lf 85 (w7 cw)<|Lf 86 (Ei wm .h4)<|La U<|Lf 88 (w7 mV)<|Lf 89 (w7 cw)<|Ll (vg (ds:=M) jM .h4)<|Q0n ?_
      obtain⟨ad,bC,t⟩:=z2 t
      obtain⟨Y,bD,t⟩:=z2 t
      obtain⟨bE,t⟩:=wa t
      refine Lv (fun i=>[10,11].contains i) []<|Li 0 U (Ei zZH .h3)<|Lg 1 U (w7 mV)<|Li 2 U (wX (cs:=[vi b,(vi<|i64 (ax+1))]) zZG<|qW (s:=2) .here U)<|L5 3 U (Eh call32) (qB hz .nil .h2 fun w pz ho=>iG _ _ _ bC pz )<|Lg 4 U q_m<|Lg 5 U fb<|Lg 6 U q_m<|WD.call2 (i:=7) (dd:=97) U (by kernel_rfl) U (.inr U) (Eh call33) .nil (qB hz .nil .h2 fun w pz ho=>ae (Z:=_) (ao:=aP) (cap:=aQ) (l:=m.2) (r:=Y) pz (bB.mono<|zl.trans aS) bD) ?_
      rintro aZ a0 _
      let V:Value:=(vs aZ Y.length a0);refine Lg 8 U (wN (v:=(.agg #[(vi<|i64 (ad+m.1)),.bool false,V])) (Lt (l:=[.tmp 95,.tmp 97]) (.r2 U U) [0,2]) (fun _=>by kernel_rfl))<|WD.freezeS (ls:=Y) .here .h2 hz (RR.flat (enc:=e5) (fun _=>U) _) ?_
      intro au aT bF
      let F:List Value:=[vi (i64 (ad+m.1)),.bool false,V];have aU:RR 3 (mS ((Z++c)++au)) F ([(⟨i64 (ad+m.1),false,Y⟩:yb)]:List yb):=(RR.cons (r:=F) U (show mS _ _ _ from⟨_,_,U,bF⟩) (RR.nil _ _))
      refine WD.new (i:=9) (dd:=99) U (by kernel_rfl) U (wD (cs:=[(vi<|i64 (ad+m.1)),.bool false,vs aZ Y.length a0]) zk6 (Lt (l:=[.tmp 98]) (.cons U .nil) [0]) (fun _=>by kernel_rfl) (by unfold maxLen;omega)) (fun h'=>absurd h' (by decide)) ?_
      intro b9 _
      have bG:RR 3 (mS ((Z++c)++au)) (aw++F) (ar++([(⟨i64 (ad+m.1),false,Y⟩:yb)]:List yb)):=RR.app (bA.weak (fun _ _ h=>gW aT h)) aU
      refine WD.old (i:=10) (dd:=100) U (by kernel_rfl) U (fun _=>(wS.of .nil)) (uq (l1:=ar) (l2:=([(⟨i64 (ad+m.1),false,Y⟩:yb)]:List yb)) (news:=F) (Pr:=(mS ((Z++c)++au))) zk6 .h5 aU (wY .here) lX bE) ?_
      rintro⟨a1,a2⟩ _
      refine Nb (i:=11) U (by kernel_rfl) (by kernel_rfl) (wl z1ez .h5)<|Eo (by kernel_rfl)<|Lq ?_
      obtain⟨rfl,rfl⟩:=tj t
      let L:Value:=(vs a1 ((ar++([(⟨i64 (ad+m.1),false,Y⟩:yb)]:List yb)).length) a2);exact Nt aH .h5<|fun w' pQ=>⟨(au,a1,a2,aw++F),U,⟨aS.trans aT,bG⟩,(pQ.selAll ((.s6 .h4 .h1 .h1 .h2 .h2 .here):Sel _ [fz au,stb n 50 [L],row L 138 3 (aw++F),stb k 124 M,stb u 42 A,wA z (ai .ready none)] _)).sub (.cons .here .nil)⟩
     ·rintro _ w' ⟨⟨aI,a3,a4,aJ⟩,rfl,⟨bH,bI⟩,hp⟩
      have uY:=hw1.call ((.s2 .here .h1):Sel [wM C,wW p,stb y 23 I,fz c] [wM C,stb y 23 I] [wW p,fz c]) hp
      let J:Value:=(vs a3 q.2.1.length a4);let N:List Value:=[vi b,vi q.2.2,.int .u32 j,.int .u64 aa];have wQ:Hp _ _ w' [fz aI,stb n 50 [J],row J 138 3 aJ,stb k 124 N,stb u 42 A,wA z (ai (ka (vY [] q.1)) (vY [] q.1)),wW p,fz c]:=uY.pickAll .here
      refine⟨_,vY [] q.1,_,U,wQ.sub ((.s8 .h5 .here .here .here .here .here .here .here):Sel _ [wA z (ai (ka (vY [] q.1)) (vY [] q.1)),fz aI,stb n 50 [J],row J 138 3 aJ,stb k 124 N,stb u 42 A,wW p,fz c] _),?_⟩
      clear hp uY wQ pz hw hw1
      refine wjN ?_
      letI:Rnd:=fO p
      exact WX.merge .here .h5<|Lq<|Nz (D:=fun(g:Nat×Int×List yb×Zp×Option Addr×Nat×List Value)=>g.1) (G:=Nat×Int×List yb×Zp×Option Addr×Nat×List Value) ⟨p,q.2.2,q.2.1,c++aI,a3,a4,aJ⟩ ⟨h,(bm.trans<|zl.trans (bH.trans<|wg.wG _ _ _)),(bI.weak<|fun _ _ h=>gW (wg.wG _ _ _) h)⟩ .q<|.s5 .here .h2 .here .here .h1
    ·rintro an ag o ah ap aq ab ⟨h,ca,bJ⟩
     replace h:=(bl ag o).symm.trans h
     letI:Rnd:=fO an
     refine Lb<|bK h fun aj bL h=>cK h fun bM h=>Lv (fun i=>[6].contains i) []<|Li 0 U (Ei zZH .h2)<|Lg 1 U q_m<|Li 2 U (we zfq (wh .h1))<|WD.call2 (i:=3) (dd:=104) U (by kernel_rfl) U (.inr U) (Eh call34) .nil (qB hz .nil .here fun w pz ho=>nk _ _ _ bL pz ) ?_
     rintro a5 a6 _
     let W:Value:=(vs a5 aj.length a6);refine Lg 4 U (wN (v:=(.agg #[vi d,.bool false,W])) (Lt (l:=[.tmp 102,.tmp 104]) (.r2 U U) [0,2]) (fun _=>by kernel_rfl))<|WD.freezeS (ls:=aj) .here .here hz (RR.flat (enc:=e5) (fun _=>U) _) ?_
     intro ay bN bO
     let H:List Value:=[vi d,.bool false,W];have aV:RR 3 (mS (Z++ay)) H ([(⟨d,false,aj⟩:yb)]:List yb):=(RR.cons (r:=H) U (show mS _ _ _ from⟨_,_,U,bO⟩) (RR.nil _ _))
     refine WD.new (i:=5) (dd:=106) U (by kernel_rfl) U (wD (cs:=[vi d,.bool false,vs a5 aj.length a6]) zk6 (Lt (l:=[.tmp 105]) (.cons U .nil) [0]) (fun _=>by kernel_rfl) (by unfold maxLen;omega)) (fun h'=>absurd h' (by decide)) ?_
     intro cb _
     have bP:RR 3 (mS (Z++ay)) (ab++H) (o++([(⟨d,false,aj⟩:yb)]:List yb)):=RR.app (bJ.weak (fun _ _ h=>gW bN h)) aV
     refine WD.old (i:=6) (dd:=107) U (by kernel_rfl) U (fun _=>(wS.of .nil)) (uq (l1:=o) (l2:=([(⟨d,false,aj⟩:yb)]:List yb)) (news:=H) (Pr:=(mS (Z++ay))) zk6 .h4 aV (wY .here) lX bM) ?_
     rintro⟨bQ,bR⟩ _
     refine Lg 7 U q_z<|Lg 8 U q_z<|Eo (by kernel_rfl)<|Ld<|El ?_
     obtain rfl:=oJ h
     exact Hd .h5 results9 (.tmp U<|.tmp U .nil)<|fun w hw=>⟨ay,bQ,bR,ab++H,qq,bP,hw.sub (.s2 .h3 .h1)⟩
def fw(a:yb)(b:yJ):Option Bool:=
 some ((((decide (a.yo<0))||(decide (a.yo>=b.yf.length)))||(decide ((a.yA.length:Int)>48)))||(a.yE&&(decide ((a.yA.length:Int)>0))))
theorem Vi(Z c d e f g a b r)(h:fw a b=some r){Ek}(hz:PZ [] Ek Z)(n:ZS Z 1 (rq e5) c d a.yA)(o:ZS Z 1 (ff Z) f g b.yf)(i:ZC Z e [vs f b.yf.length g]):
  RC 77 #[.agg #[vi a.yo,.bool a.yE,vs c a.yA.length d],vq e] Ek (.bool r) [] []:=by
 unfold fw at h
 refine Lz func77 U U<|B0q<|Lh 2 (wu (cs:=[vi a.yo,.bool a.yE,vs c a.yA.length d])) ?_
 intro p _
 let C:=(b.yf.length:Int);refine Q1n U<|B0q<|Lf 4 (w7 Wg)<|Lf 5 (Ei wm .here)<|Q2q U<|Lx false 6 7 (B:=(decide (a.yo<0))||(decide (a.yo>=C))) (fun h=>(jB h).symm) (fun _ j=>?_) ?_
 ·exact Lf 8 (w7 Wg)<|Lf 9 (Ei wm .here)<|Lf 10 (w7 ux)<|Lf 11 (w8 zfp U<|wP hz.pv i)<|Lf 12 (wB underlying45)<|Q2q U<|Ly (jC j) U .all
 let A:=(a.yA.length:Int);refine La U<|Lx false 4 15 (B:=((decide (a.yo<0))||(decide (a.yo>=C)))||(decide (A>48))) (fun h=>(jB h).symm) (fun _ k=>?_) ?_
 ·exact Lf 16 (w7 Wh)<|Lf 17 (Ei z56 .here)<|Lf 18 (wB underlying23)<|Q2q U<|Ly (jC k) U .all
 refine La U<|Lx false 8 21 (B:=(((decide (a.yo<0))||(decide (a.yo>=C)))||(decide (A>48)))||(a.yE&&(decide (A>0)))) (fun h=>(jB h).symm) (fun _ l=>?_) ?_
 ·refine Lf 22 (w7 Wi)<|Lf 23 (Ei YZ .here)<|La U<|Lx true 4 24 (B:=a.yE&&(decide (A>0))) (fun h=>(qd h).symm) (fun _ m=>?_) ?_
  ·exact Lf 25 (w7 Wh)<|Lf 26 (Ei z56 .here)<|Lf 27 (wB underlying23)<|Q2q U<|Ly (qe m) U .all
  exact La U<|Ly (jC l) U .all
 exact Q1n U<|El<|oJ h▸Ea results77
def vd(b:List yb)(zgM:yb->Option Bool)(c:Option Unit):Nat->Int->Option Unit
 | 0,_=>none
 | d+1,a=>if decide (a<b.length) then chk (0<=a/\a<b.length) ((zgM (⟨(nth b a).yo,(nth b a).yE,(nth b a).yA⟩:yb)).bind fun e=>if e then none else vd b zgM c d (i64 (a+1))) else c
def qw(a:List yb)(zgM:yb->Option Bool):Option Unit:=
 uo (some ()) fun b=>vd a zgM b wr 0
theorem pR(Z d g zv2 zHb b zgM r)(h:qw b zgM=some r){Ek}(hz:PZ [] Ek Z)(j:ZS Z 3 (mS Z) d g b)(k:∀ args w,(callFunc zv2 args).run Tryz.prog w = .ok (.enter zv2 args) w)(m:∀ w:World,PZ [] w Z->∀(x0:yb) (nD:Option Addr) (nb:Nat) (r:Bool),ZS Z 1 (rq e5) nD nb x0.yA->zgM x0=some r->Calls Tryz.prog zv2 (([.agg #[vi x0.yo,.bool x0.yE,vs nD x0.yA.length nb]]:List Value)++zHb).toArray w fun e w'=>e = .returned (.bool r)/\Hp [] w w' []):
  RC 123 #[vs d b.length g,.func (.func zv2) #[] (zHb).toArray] Ek (vi (-1)) [] []:=by
 unfold qw at h
 refine Lz func123 U U<|B1n U<|jK0 h fun i n h=>Nh (i=some r) ([]) ([]) ?_ ?_
 ·refine B1q U<|Lf 7 (wB underlying50)<|Q1n U<|WC.block<|Ni (fun c a=>(vd b zgM i c a=some r)) (fun c a=>[(0,vs d b.length g),(1,.func (.func zv2) #[] (zHb).toArray),(7,vi (b.length:Int)),(8,vi a)]) (fun c a=>[]) (fun c a=>c) ⟨wr,0⟩ h .q .nil ?_
  rintro(_|y) a h;·cases h
  rw[vd] at h
  refine B1n U<|Lb<|Lj h (fun o h=>?_)<|fun o h=>?_
  ·refine Ec<|Lb<|WC.block<|B2n U<|Lb<|cK h fun p h=>bK h fun z q h=>D3q U<|L0 (dd:=14) (Z:=Z) (Pr:=(mS Z)) zk6 j p ?_
   rintro A B s C ⟨t,u,rfl,v⟩
   refine Lf 15 (we zvF (vy hz.pv s))<|Lm 16 (wV (l:=[.tmp 15]) (f:=zv2) (caps:=zHb) k<|.cons U .nil) .nil (fun w hw=>m w (hz.now hw) (⟨(nth b a).yo,(nth b a).yE,(nth b a).yA⟩:yb) t u z v q)<|Q0n<|Lj h (fun x h=>?_)<|fun x h=>?_
   ·cases h
   ·exact Ep<|Lq<|Ld<|D2q U<|WL.nil<|Em ⟨y,i64 (a+1)⟩ h (Nat.lt_succ_self _) .q .nil
  ·exact En<|Ln<|Ln<|Lu<|Lp () h .nil .nil
 ·rintro  h
  replace h:=n.symm.trans h
  refine B1n U<|El ?_
  skip
  exact Lk results123 (.tmp U .nil)<|fun w hw=>⟨wx,hw.sub .nil⟩
def qR(a:List yb)(zBM:yb->Option Bool):Option Unit:=
 (qw a zBM).bind fun b=>some ()
theorem rC(Z b c zBN zNc a zBM r)(h:qR a zBM=some r){Ek}(hz:PZ [] Ek Z)(d:ZS Z 3 (mS Z) b c a)(f:∀ args w,(callFunc zBN args).run Tryz.prog w = .ok (.enter zBN args) w)(g:∀ w:World,PZ [] w Z->∀(x0:yb) (nD:Option Addr) (nb:Nat) (r:Bool),ZS Z 1 (rq e5) nD nb x0.yA->zBM x0=some r->Calls Tryz.prog zBN (([.agg #[vi x0.yo,.bool x0.yE,vs nD x0.yA.length nb]]:List Value)++zNc).toArray w fun e w'=>e = .returned (.bool r)/\Hp [] w w' []):
  RC 78 #[vs b a.length c,.func (.func zBN) #[] (zNc).toArray] Ek (.bool false) [] []:=by
 unfold qR at h
 refine Lz func78 U U<|B1n U<|Lb<|bK h fun j i h=>D2q U<|Eg call123 hz (fun pz=>pR _ _ _ (zv2:=zBN) (zHb:=zNc) _ (zgM:=zBM) _ i pz d f g)<|Lf 8 tZ<|Q1n U<|El ?_
 skip
 exact Lk results78 (.tmp U .nil)<|fun w hw=>⟨wx,hw.sub .nil⟩
def tf(a:yJ)(c:List yb):Option Bool:=
 (mY a).bind fun b=>(if b then(qR c (fun(y0:yb)=>fw y0 a)).bind fun e=>some true else some false).bind fun d=>some d
theorem Yu(Z c d f g a e r)(h:tf a e=some r){Ek}(hz:PZ [] Ek Z)(i:ZS Z 1 (ff Z) c d a.yf)(k:ZS Z 3 (mS Z) f g e):
  RC 35 #[.agg #[vs c a.yf.length d],vs f e.length g] Ek (.bool r) [] []:=by
 unfold tf at h
 refine Lz func35 U U<|Lb<|Le (Lh 2 (wu (cs:=[vs c a.yf.length d])) fun m _=>Q1n U<|B0q<|Lf 6 (wO<|L6 (l:=[.tmp 2])<|.cons U .nil)<|Q1n U<|Lb ?_)
 refine bK h fun s n h=>bK h fun q j h=>Le<|Lf 7 (we z3N (wh .here))<|Eg call67 hz (fun pz=>bC _ _ _ _ _ n pz i)<|La U<|Lx true 4 9 (B:=q) (fun h=>(oJ<|qg j h).symm) (fun _ o=>?_) ?_
 ·have b:=qf j o
  obtain⟨t,p,b⟩:=z2 b
  replace b:=oJ b
  exact Q2q U<|Lm 12 (Eh call78) .nil (kb hz .nil (.cons .here .nil) fun w pz ho la=>rC _ _ _ (zBN:=77) (zNc:=[vp m]) _ (zBM:=(fun(y0:yb)=>fw y0 a)) _ p pz ((k.mono<|zl).weak (fun _ _ h=>gW zl h)) call77<|fun w' nd y0 ga0 gc0 r By hr=>Vi _ _ _ _ _ _ _ _ _ hr nd By ((i.mono<|zl).weak (fun _ _ h=>gM zl h))<|(la _ (.head _) _).stb)<|Lf 13 th<|La U<|Ly b U .all
 exact Q1n U<|El<|oJ h▸Ea results35
def k8(b:yJ)(e:(List (List Int))->Option yJ):Nat->Int->(List (List Int))->Option yJ
 | 0,_,_=>none
 | f+1,a,c=>if decide (a<b.yf.length) then chk (0<=a/\a<b.yf.length) ((qN (nth b.yf a)).bind fun d=>chk ((((c++([d]:List (List Int))).length:Nat):Int)*24<=140737488355328/\(((c++([d]:List (List Int))).length:Nat):Int)<=4611686018427387904) (k8 b e f (i64 (a+1)) (c++([d]:List (List Int))))) else e c
def fF(a:yJ):Option yJ:=
 vC (fun(b:List (List Int))=>some (⟨b⟩:yJ)) fun c=>k8 a c wr 0 ([]:List (List Int))
theorem bG(Z q s d r)(h:fF d=some r){Ek}(hz:PZ [] Ek Z)(B:ZS Z 1 (ff Z) q s d.yf):
  Calls Tryz.prog 36 #[.agg #[vs q d.yf.length s]] Ek fun e w'=>∃ x:Option Addr,∃ y:Nat,∃ zz:MG Int,e = .returned (.agg #[vs x r.yf.length y])/\(zz.map (·.2)=r.yf)/\Hp [] Ek w' [mat 5 1 e5 zz,row (vs x r.yf.length y) 23 1 (zz.flatMap em)]:=by
 unfold fF at h
 refine L3 func36 U U ?_
 let A:Value:=(vs q d.yf.length s);refine B0q<|Lh 1 (wu (cs:=[A])) ?_
 intro P _
 refine Lh 2 (wn (cs:=[vn]) zdu) fun o _=>Q0n<|Lb<|Le (Lh 3 (wn (cs:=[vn]) zdu) fun p _=>Q0n ?_)
 refine jK1 h fun z C h=>Dn (fun b j k tY=>(z b=some r)/\(tY.map (·.2)=b)) (fun b j k tY=>[(2,vp o),(3,vp p)]) (fun b j k tY=>[stb o 47 [vn],stb p 47 [vs j b.length k],mat 5 1 e5 tY,row (vs j b.length k) 23 1 (tY.flatMap em)]) ?_ ?_
 ·refine B0q<|Lf 6 (w7 ux)<|Lf 7 (Ei zfp .h2)<|Lf 8 (wB underlying45)<|Q1n U<|WC.block<|WC.nilRow 23 1<|WC.matNil 5 1 0 e5<|Hj (fun m c a f g qX=>(k8 d z m c a=some r)/\(qX.map (·.2)=a)) (fun m c a f g qX=>[(2,vp o),(3,vp p),(7,A),(8,vi (d.yf.length:Int)),(9,vi c)]) (fun m c a f g qX=>[stb o 47 [vn],stb p 47 [vs f a.length g],mat 5 1 e5 qX,row (vs f a.length g) 23 1 (qX.flatMap em)]) (fun m c a f g qX=>m) ⟨wr,0,([]:List (List Int)),none,0,List.replicate 0 (((none:Option Addr),(0:Nat)),([]:List Int))⟩ ⟨h,U⟩ .q (.s4 .h3 .h2 .here .here) ?_
  rintro (_|O) c a f g qX ⟨h,t⟩;·cases h
  rw[k8] at h
  refine B1n U<|Lb<|Lj h (fun D h=>?_)<|fun D h=>?_
  ·refine Ec<|Lb<|WC.block<|Lb<|cK h fun E h=>Le<|L0 (dd:=11) (Z:=Z) (Pr:=(ff Z)) zer B E ?_
   rintro Q R F S ⟨G,H,rfl,I⟩
   refine Lf 12 (w8 z56 U<|vx hz.pv F)<|Q1n U<|bK h fun n J h=>cK h fun K h=>Lv (fun i=>[5,7].contains i) []<|Lg 0 U (w7 ux)<|Li 1 U (Ei zfp .h1)<|Lg 2 U q_m<|WD.call2 (i:=3) (dd:=16) U (by kernel_rfl) U (.inr U) (Eh call79) .nil (cc hz .nil fun w pz ho=>um (Z:=_) (ao:=G) (cap:=H) (l:=(nth d.yf c)) (r:=n) pz I J) ?_
   rintro u v _
   refine WD.new (i:=4) (dd:=17) U (by kernel_rfl) U (wD (cs:=([((u,v),n)]:MG Int).flatMap em) zer (Lt (l:=[.tmp 16]) (.cons U .nil) [0]) (fun _=>by kernel_rfl) (by unfold maxLen;omega)) (fun h'=>absurd h' (by decide)) fun T _=>E8 (fun _ h=>Hp.Gz .h1 h)<|WD.old (i:=5) (dd:=18) U (by kernel_rfl) U (fun _=>(wS.of .nil)) (GD (m1:=qX) (m2:=([((u,v),n)]:MG Int)) (l1:=a) (l2:=([n]:List (List Int))) zer U U .h5 t U (wY .h1) K) ?_
   rintro⟨L,M⟩ _
   exact E8 (fun _ h=>Hp.GC .h5 .h1 h)<|Lg 6 U (w7 ux)<|Nb (i:=7) U (by kernel_rfl) (by kernel_rfl) (wl zZC .h4)<|Eo (by kernel_rfl)<|Lq<|Ld<|D2q U<|WL.nil<|Em ⟨O,i64 (c+1),a++([n]:List (List Int)),L,M,qX++([((u,v),n)]:MG Int)⟩ ⟨h,Mo t U⟩ (Nat.lt_succ_self _) .q<|.s4 .h4 .here .here .here
  ·exact En<|Ln<|Ln<|Lu<|Lp ⟨a,f,g,qX⟩ ⟨h,t⟩ .q<|.a4
 ·rintro b j k tY ⟨h,N⟩
  replace h:=(C b).symm.trans h
  exact B0q<|Lf 21 (we z3N (wh .h1))<|Ll (wl zcK .here)<|Q0n<|El<|oJ h▸Lk results36 (.agg U z3N U (wh .here) .nil) fun w hw=>⟨j,k,tY,wx,N,hw.sub (.s2 .h2 .h2)⟩
def f4(a:yb):Option Unit:=
 if a.yE then none else some ()
theorem cI(Z b c a r)(h:f4 a=some r){Ek}(hz:PZ [] Ek Z)(e:ZS Z 1 (rq e5) b c a.yA):
  RC 37 #[.agg #[vi a.yo,.bool a.yE,vs b a.yA.length c]] Ek (vi 108) [] []:=by
 unfold f4 at h
 refine L3 func37 U U<|Lb<|Le (Lh 1 (wu (cs:=[vi a.yo,.bool a.yE,vs b a.yA.length c])) fun f _=>Q1n U<|Lb<|B0q<|Lf 3 (w7 Wi)<|Lf 4 (Ei YZ .here)<|Q0n<|Lj h (fun d h=>?_)<|fun d h=>?_)
 ·cases h
 ·refine Ec<|B1n U<|El ?_
  skip
  exact Lk results37 (.tmp U .nil)<|fun w hw=>⟨wx,hw.sub .nil⟩
def l3(a:yb):Option yb:=
 some a
theorem QP(Z b c a r)(h:l3 a=some r){Ek}(hz:PZ [] Ek Z)(i:ZS Z 1 (rq e5) b c a.yA):
  Calls Tryz.prog 39 #[.agg #[vi a.yo,.bool a.yE,vs b a.yA.length c]] Ek fun e w'=>∃ d:Nat,∃ f:Option Addr,∃ g:Nat,e = .returned (.func (.func 80) #[] #[vp d])/\(ZS Z 1 (rq e5) f g r.yA)/\Hp [] Ek w' [stb d 138 [vi r.yo,.bool r.yE,vs f r.yA.length g]]:=by
 unfold l3 at h
 refine L3 func39 U U<|Lb<|Le (Lh 1 (wu (cs:=[vi a.yo,.bool a.yE,vs b a.yA.length c])) fun j _=>Q1n U<|B0q<|Lf 3 (wO<|L6 (l:=[.tmp 1])<|.cons U .nil)<|Q1n U<|El ?_)
 exact oJ h▸Lk results39 (.tmp U .nil) fun w hw=>⟨j,b,c,wx,i,hw.sub (.cons .here .nil)⟩
def jP(z2a:Type)(b:List (List Int))(c:Int)(zaF:xt->z2a->Option (Bool×z2a))(e:z2a->Option z2a):Nat->Int->z2a->Option z2a
 | 0,_,_=>none
 | g+1,a,f=>if decide (a<((nth b c).length:Int)) then chk (0<=a/\a<((nth b c).length:Int)) ((zaF (⟨a,nth (nth b c) a⟩:xt) f).bind fun d=>if !d.1 then some d.2 else jP z2a b c zaF e g (i64 (a+1)) d.2) else e f
def jQ(z2a:Type)(c:List Int)(d:List Int)(zaF:xt->z2a->Option (Bool×z2a))(e:z2a->Option z2a):Nat->(List (List Int))->Int->z2a->Option z2a
 | 0,_,_,_=>none
 | g+1,b,a,f=>if decide (a<(((([c]:List (List Int))++([d]:List (List Int))).length:Nat):Int)) then rl (fun(h:List (List Int)) (i:z2a)=>jQ z2a c d zaF e g h (i64 (a+1)) i) fun j=>chk (0<=a/\a<b.length) (vC (fun(k:z2a)=>j b k) fun l=>jP z2a b a zaF l wr 0 f) else e f
def tK(z2a:Type)(zaF:xt->z2a->Option (Bool×z2a))(zjO:z2a)(znx:yb):Option z2a:=
 (uy).bind fun a=>if !znx.yE then(uz znx.yA).bind fun b=>chk ((((([a]:List (List Int))++([b]:List (List Int))).length:Nat):Int)*24<=140737488355328/\(((([a]:List (List Int))++([b]:List (List Int))).length:Nat):Int)<=4611686018427387904) (vC (fun(c:z2a)=>some c) fun d=>jQ z2a a b zaF d wr (([a]:List (List Int))++([b]:List (List Int))) 0 zjO) else none
theorem Vj(Z)(z2a:Type)(zv6)(zgO:Type)(zds)(znz:zgO->z2a->Prop)(zv7 zYq zYr zYs zaF zjO znx r){Ek}(hz:Pz [zds zv7 zjO] Ek Z)(am:cU Tryz.prog Z zv6 (α:=xt) (σ:=z2a) (G:=zgO) (H:=Unit) (fun h x=>[.agg #[vi x.xo,.int .u8 x.xn]]) (fun h x=>[]) zaF zds znz)(an:znz zv7 zjO)(ao:ZS Z 1 (rq e5) zYr zYs znx.yA)(T:ZC Z zYq [vi znx.yo,.bool znx.yE,vs zYr znx.yA.length zYs])(h:tK z2a zaF zjO znx=some r)(iA:Ho Ek [zds zv7 zjO]):
  Calls Tryz.prog 80 #[.func (.yield zv6) #[] #[],vq zYq] Ek fun e w'=>∃ V:zgO,e = .returned (.tuple #[])/\(znz V r)/\Hp (fps [zds zv7 zjO]) Ek w' [zds V r]:=by
 unfold tK at h
 refine Nk func80 U iA U<|WC.pool<|Lb<|bK h fun f ap h=>Le<|L7 (dd:=10) U (Eh call24) .nil (qB hz .nil .here fun w pz ho=>cF _ _ ap pz ) ?_
 rintro af ag _
 refine WL.freezeS (ls:=f) .here .here hz (RR.flat (enc:=e5) (fun _=>U) _) ?_
 intro aq R ar
 let E:List Value:=[vs af f.length ag];have au:RR 1 (ff (Z++aq)) E ([f]:List (List Int)):=(RR.cons (r:=E) U (show ff _ _ _ from⟨_,_,U,ar⟩) (RR.nil _ _))
 refine Lh 11 (wD (cs:=[vs af f.length ag]) zer (Lt (l:=[.tmp 10]) (.cons U .nil) [0]) (fun _=>by kernel_rfl) (by unfold maxLen;omega)) fun aX _=>Q1n U<|Lb<|B0q<|Lf 12 (w7 Wi)<|Lf 13 (w8 YZ U<|wP (hz.pv2 .h1) (T.mono<|zl.trans R))<|Q1n U<|Lj h (fun av h=>?_)<|fun av h=>?_
 ·refine Lb<|bK h fun i aw h=>Le<|Lf 16 (w7 Wh)<|Lf 17 (w8 z56 U<|wP (hz.pv2 .h1) (T.mono<|zl.trans R))<|L7 (dd:=18) U (Eh call81) .nil (qB hz .nil .h1 fun w pz ho=>ab _ _ _ _ _ aw pz<|ao.mono<|zl.trans R) ?_
  rintro ah ai _
  refine Q5n U<|cK h fun ax h=>D2q U<|WL.freezeS (ls:=i) .here .h1 hz (RR.flat (enc:=e5) (fun _=>U) _) ?_
  intro d ay az
  let C:List Value:=[vs ah i.length ai];have W:RR 1 (ff (Z++d)) C ([i]:List (List Int)):=(RR.cons (r:=C) U (show ff _ _ _ from⟨_,_,U,az⟩) (RR.nil _ _))
  refine Lh 23 (wD (cs:=[vs ah i.length ai]) zer (Lt (l:=[.tmp 22]) (.cons U .nil) [0]) (fun _=>by kernel_rfl) (by unfold maxLen;omega)) ?_
  intro aY _
  have aA:RR 1 (ff (Z++d)) (E++C) (([f]:List (List Int))++([i]:List (List Int))):=RR.app (au.weak (fun _ _ h=>gM ay h)) W
  refine WL.fA 24 (uq (l1:=([f]:List (List Int))) (l2:=([i]:List (List Int))) (news:=C) (Pr:=(ff (Z++d))) zer .h2 W (wY .here) (uv si) ax) ?_
  rintro⟨aB,aC⟩ _
  refine Q1n U<|B1q U<|Lf 26 (wB underlying45)<|Q1n U<|jK1 h fun aj aD h=>N3 (fun z B=>(aj z=some r)/\(znz B z)) (fun z B=>[]) (fun z B=>[fz d,zds B z]) ?_ ?_
  ·let D:Value:=(.func (.yield zv6) #[] #[]);refine WC.block<|Hb (fun I a c n J q o t=>(jQ z2a f i zaF aj I a c n=some r)/\(RR 1 (ff (Z++d)) o a)/\(znz t n)) (fun I a c n J q o t=>[(0,D),(25,vs J a.length q),(26,vi (((([f]:List (List Int))++([i]:List (List Int))).length:Nat):Int)),(27,vi c)]) (fun I a c n J q o t=>[fz d,row (vs J a.length q) 23 1 o,zds t n]) (fun I a c n J q o t=>I) ⟨wr,([f]:List (List Int))++([i]:List (List Int)),0,zjO,aB,aC,E++C,zv7⟩ ⟨h,aA,an⟩ .q (.s3 .h2 .here .h1) ?_
   rintro (_|aU) a c n J q o t ⟨h,X,Y⟩;·cases h
   rw[jQ] at h
   refine B1n U<|Lb<|Lj h (fun aE h=>?_)<|fun aE h=>?_
   ·refine Ec<|jK2 h fun aV aF h=>Hw (fun p u K L M N=>(aV p u=some r)/\(RR 1 (ff (Z++d)) M p)/\(znz N u)) (fun p u K L M N=>[(0,D),(25,vs K p.length L),(26,vi (((([f]:List (List Int))++([i]:List (List Int))).length:Nat):Int)),(27,vi c)]) (fun p u K L M N=>[fz d,row (vs K p.length L) 23 1 M,zds N u]) ?_ ?_
    ·refine WC.block<|Lb<|cK h fun Q h=>Le<|Es (fun w hw=>Hp.vr .h1 hw (by intro nd;have:=Q;rw[nd] at this;omega)) ?_
     rintro⟨ak,rfl⟩
     obtain⟨aZ,a0,a1,aG,⟨aH,aI,rfl,aJ⟩⟩:=RR.elem (Pr:=(ff (Z++d))) X Q.1 Q.2
     refine Lf 29 (wL zer Q.1 Q.2 vB)<|Lf 30 (w8 z56 U<|gt .h1<|bS aG 0 _ U)<|Q1n U<|B1q U<|Lf 32 (wB underlying23)<|Q1n U ?_
     obtain⟨al,aK,h⟩:=wE h
     let A:Value:=(vs (some ⟨ak,0,none⟩) a.length q);let F:=(((([f]:List (List Int))++([i]:List (List Int))).length:Nat):Int);refine N3 (fun y O=>(al y=some r)/\(znz O y)) (fun y O=>[(0,D),(25,A),(26,vi F),(27,vi c)]) (fun y O=>[fz d,row A 23 1 o,zds O y]) ?_ ?_
     ·refine WC.block<|E9 (fun P j k m=>(jP z2a a c zaF al P j k=some r)/\(znz m k)) (fun P j k m=>[(0,D),(25,A),(26,vi F),(27,vi c),(31,vs aH ((nth a c).length) aI),(32,vi ((nth a c).length:Int)),(33,vi j)]) (fun P j k m=>[fz d,row A 23 1 o,zds m k]) (fun P j k m=>P) ⟨wr,0,n,t⟩ ⟨h,Y⟩ .q .a3 ?_
      rintro (_|aW) j k m ⟨h,aa⟩;·cases h
      rw[jP] at h
      refine B1n U<|Lb<|Lj h (fun aL h=>?_)<|fun aL h=>?_
      ·refine Ec<|Lb<|WC.block<|Lb<|cK h fun aM h=>D1q U<|L0 (dd:=36) (Z:=(Z++d)) (Pr:=(rq e5)) z2j aJ aM ?_
       rintro a2 a3 aN a4 rfl
       refine Lf 37 (w8 m9 U<|vx (hz.pv2 .here) aN)<|Q2n U<|Lb<|bK h fun S aO h=>D3q U<|Lf 41 (wN (v:=(.agg #[vi j,(.int .u8<|nth (nth a c) j)])) (Lt (l:=[.tmp 39,.tmp 40]) (.r2 U U) [0,1]) (fun _=>by kernel_rfl)) (E1 (dd:=42) (x:=(⟨j,nth (nth a c) j⟩:xt)) (h:=()) (g:=m) (s:=k) (b:=S.1) (s':=S.2) am U (.cons U .nil) ((.cons .h2 .nil):Sel _ [zds m k] _) aO aa (fun w hw=>hz.call hw ((.cons .h2 .nil):Sel _ [zds m k] _)) fun ad ae=>Q1n U<|Lj h (fun aP h=>?_)<|fun aP h=>?_)
       ·exact El<|Nc<|L4<|L4<|Nc<|L4<|Nc<|L4<|L4<|Nc<|L4<|oJ h▸Lk results80 .nil fun w hw=>⟨ad,ui,ae,hw.sub (.cons .here .nil)⟩
       ·exact Ep<|Lq<|Ld<|D2q U<|WL.nil<|Em ⟨aW,i64 (j+1),S.2,ad⟩ ⟨h,ae⟩ (Nat.lt_succ_self _) .q<|.s3 .h1 .h1 .here
      ·exact En<|Ln<|Ln<|Lu<|Lp ⟨k,m⟩ ⟨h,aa⟩ .q<|.a3
     ·rintro y O ⟨h,aQ⟩
      replace h:=(aK y).symm.trans h
      exact Lq<|Lp ⟨a,y,some ⟨ak,0,none⟩,q,o,O⟩ ⟨h,X,aQ⟩ .q<|.a3
    ·rintro p u K L M N ⟨h,aR,aS⟩
     replace h:=(aF p u).symm.trans h
     exact D2q U<|WL.nil<|Em ⟨aU,p,i64 (c+1),u,K,L,M,N⟩ ⟨h,aR,aS⟩ (Nat.lt_succ_self _) .q<|.a3
   ·exact En<|Ln<|Ln<|Lu<|Lp ⟨n,t⟩ ⟨h,Y⟩ .nil<|.s2 .here .h1
  ·rintro z B ⟨h,aT⟩
   replace h:=(aD z).symm.trans h
   exact oJ h▸Nj results80 .nil fun w hw=>⟨B,ui,aT,hw.sub (.cons .h1 .nil)⟩
 ·cases h
def mQ(b:List yb)(c:Int)(d:Int)(e:xt)(a:List (List Int))(f:Int):Option (Bool×(Nat×List (List Int)×Int)):=
 if decide (f=0) then some (false,(1,a,f)) else chk (0<=((nth (b.take ((i64 (c+1)):Int).toNat) d).yo)/\((nth (b.take ((i64 (c+1)):Int).toNat) d).yo)<a.length) (chk (0<=e.xo/\e.xo<(((nth a ((nth (b.take ((i64 (c+1)):Int).toNat) d).yo)).length:Nat):Int)) (some (true,(0,a.set (((nth (b.take ((i64 (c+1)):Int).toNat) d).yo):Int).toNat ((nth a ((nth (b.take ((i64 (c+1)):Int).toNat) d).yo)).set (e.xo:Int).toNat e.xn),i64 (f-1)))))
def jA(c:List yb)(b:Int)(e:Int)(f:(List (List Int))->Option yJ):Nat->Int->(List (List Int))->Option yJ
 | 0,_,_=>none
 | j+1,a,g=>if decide (a<(((c.take ((i64 (b+1)):Int).toNat).length:Nat):Int)) then vC (fun(k:List (List Int))=>jA c b e f j (i64 (a+1)) k) fun l=>chk (0<=a/\a<(((c.take ((i64 (b+1)):Int).toNat).length:Nat):Int)) ((f4 (⟨(nth (c.take ((i64 (b+1)):Int).toNat) a).yo,(nth (c.take ((i64 (b+1)):Int).toNat) a).yE,(nth (c.take ((i64 (b+1)):Int).toNat) a).yA⟩:yb)).bind fun p=>vC (fun(m:Int)=>(l3 (⟨(nth (c.take ((i64 (b+1)):Int).toNat) a).yo,(nth (c.take ((i64 (b+1)):Int).toNat) a).yE,(nth (c.take ((i64 (b+1)):Int).toNat) a).yA⟩:yb)).bind fun n=>vC (fun o=>l o) fun h=>(tK (Nat×List (List Int)×Int) (fun(x:xt) (s:Nat×List (List Int)×Int)=>chk (s.1=0) (mQ c b a x s.2.1 s.2.2)) (0,g,m) n).bind fun d=>if d.1=0 then h d.2.1 else if d.1=1 then h d.2.1 else none) fun i=>if decide (a=b) then i e else i 108) else f g
theorem YG{n a b r}(h:jA a f j i n b g=some r):∃ m,n=m+1:=by
 cases n with
 | zero=>cases h
 | succ m=>exact⟨m,rfl⟩
def tX(d:yJ)(b:List yb)(a:Int)(c:Int):Option yJ:=
 (fF d).bind fun e=>(tf d b).bind fun f=>(if (((!f)||(decide (a<0)))||(decide (a>=b.length)))||(decide (c<0)) then some true else chk (0<=a/\a<b.length) ((f4 (⟨(nth b a).yo,(nth b a).yE,(nth b a).yA⟩:yb)).bind fun j=>some (decide (c>108)))).bind fun g=>if g then none else vC (fun(h:List (List Int))=>some (⟨h⟩:yJ)) fun i=>chk ((0:Int)<=0/\(0:Int)<=(i64 (a+1))/\(i64 (a+1))<=b.length) (jA b a c i wr 0 e.yf)
theorem nm(Z ar au av aw ak b a S r)(h:tX ak b a S=some r){Ek}(hz:PZ [] Ek Z)(aC:ZS Z 1 (ff Z) ar au ak.yf)(ax:ZS Z 3 (mS Z) av aw b):
  Calls Tryz.prog 14 #[.agg #[vs ar ak.yf.length au],vs av b.length aw,vi a,vi S] Ek fun e w'=>∃ aD:Option Addr,∃ aE:Nat,∃ zA:MG Int,e = .returned (.tuple #[.agg #[vs aD r.yf.length aE],vi 0])/\(zA.map (·.2)=r.yf)/\Hp [] Ek w' [mat 5 1 e5 zA,row (vs aD r.yf.length aE) 23 1 (zA.flatMap em)]:=by
 unfold tX at h
 let J:Value:=(vs ar ak.yf.length au);let K:Value:=(vs av b.length aw);refine E7 (vs:=[.agg #[J],K,vi a,vi S]) (pre:=[]) (env:=[(0,.agg #[J]),(1,K),(2,vi a),(3,vi S)]) func14 U ntmps14 (Hp.nil Ek _) U ?_
 refine Ht ?_
 letI:Rnd:=ve []
 refine Lb<|Le (Lh 4 (wu (cs:=[J])) fun bu _=>Lh 8 (wn (cs:=[vn]) zdu) fun m _=>Q1n U<|Lb ?_)
 refine bK h fun bo aO h=>Le<|Lf 15 (we z3N (wh .h1))<|Ha (dd:=16) U (Eh call36) .nil (cc hz .nil fun w pz ho=>bG _ _ _ _ _ aO pz aC) ?_
 rintro N v Bg aP
 refine Lh 10 (wn (cs:=[vn]) zdu) fun j _=>Ll (wl zcK .here)<|Q0n<|Lb<|Lb<|bK h fun ay aQ h=>bK h fun bp aF h=>Le<|Lf 17 (we z3N (wh .h4))<|La U<|Eg call35 hz (fun pz=>Yu _ _ _ _ _ _ _ _ aQ pz aC ax)<|Q2q U<|Lx false 2 21 (B:=(!ay)||(decide (a<0))) (fun h=>(jB h).symm) (fun _ aR=>?_) ?_
 ·exact Q3q U<|Ly (jC aR) U .all
 refine La U<|Lx false 4 25 (B:=((!ay)||(decide (a<0)))||(decide (a>=b.length))) (fun h=>(jB h).symm) (fun _ aS=>?_) ?_
 ·exact Q2q U<|Lf 28 (wB underlying50)<|Q2q U<|Ly (jC aS) U .all
 refine La U<|Lx false 2 31 (B:=(((!ay)||(decide (a<0)))||(decide (a>=b.length)))||(decide (S<0))) (fun h=>(jB h).symm) (fun _ aT=>?_) ?_
 ·exact Q3q U<|Ly (jC aT) U .all
 refine La U<|Lx false 7 35 (B:=bp) (fun h=>(oJ<|qf aF h).symm) (fun _ aU=>?_) ?_
 ·have Y:=qg aF aU
  obtain⟨aV,Y⟩:=wa Y
  obtain⟨bv,aW,Y⟩:=z2 Y
  replace Y:=oJ Y
  refine Q3q U<|L0 (dd:=39) (Z:=Z) (Pr:=(mS Z)) zk6 ax aV ?_
  rintro bw bx aX bz ⟨bA,bB,rfl,aY⟩
  exact Lf 40 (we zvF (vy hz.pv aX))<|Eg call37 hz (fun pz=>cI _ _ _ _ _ aW pz aY)<|Q2q U<|Ly Y U .all
 refine Q0n<|Lj h (fun aZ h=>?_)<|fun aZ h=>?_
 ·cases h
 ·refine Ec<|jK1 h fun aK a0 h=>D1 (fun aj X uF=>(aK X=some r)/\(uF.map (·.2)=X)) (fun aj X uF=>[(8,vp m),(10,vp j)]) (fun aj X uF=>[stb m 47 [vn],stb j 47 [vs N X.length v],mat 5 1 e5 uF,row (vs N X.length v) 23 1 (uF.flatMap em),qK aj]) ?_ ?_
  ·refine Lb<|cK h fun a1 h=>D3q U<|Nn (dd:=48) (Z:=Z) (Pr:=(mS Z)) zk6 U ax WE np U U a1 (List.drop_zero).symm ?_
   rintro al am a2
   refine Lf 49 (wB underlying50)<|Q1n U<|WC.block<|D5 (fun af n c T iP=>(jA b a S aK af c T=some r)/\(iP.map (·.2)=T)) (fun af n c T iP=>[(2,vi a),(3,vi S),(8,vp m),(10,vp j),(48,vs al ((b.take ((i64 (a+1)):Int).toNat).length) am),(49,vi (((b.take ((i64 (a+1)):Int).toNat).length:Nat):Int)),(50,vi c)]) (fun af n c T iP=>[stb m 47 [vn],stb j 47 [vs N T.length v],mat 5 1 e5 iP,row (vs N T.length v) 23 1 (iP.flatMap em),qK n]) (fun af n c T iP=>af) ⟨wr,[],0,bo.yf,Bg⟩ U ⟨h,aP⟩ .q (.s5 .h3 .here .here .here .h1) ?_
   rintro af n c T iP ⟨h,aG⟩
   letI:Rnd:=ve n
   obtain⟨bq,rfl⟩:=YG h
   rw[jA] at h
   refine B1n U<|Lb<|Lj h (fun a3 h=>?_)<|fun a3 h=>?_
   ·refine Ec<|jK1 h fun br a4 h=>D1 (fun ag V uO=>(br V=some r)/\(uO.map (·.2)=V)) (fun ag V uO=>[(2,vi a),(3,vi S),(8,vp m),(10,vp j),(48,vs al ((b.take ((i64 (a+1)):Int).toNat).length) am),(49,vi (((b.take ((i64 (a+1)):Int).toNat).length:Nat):Int)),(50,vi c)]) (fun ag V uO=>[stb m 47 [vn],stb j 47 [vs N V.length v],mat 5 1 e5 uO,row (vs N V.length v) 23 1 (uO.flatMap em),qK ag]) ?_ ?_
    ·refine WC.block<|Lb<|cK h fun a5 h=>D1q U<|L0 (dd:=53) (Z:=Z) (Pr:=(mS Z)) zk6 a2 a5 ?_
     rintro bC bD a6 bE ⟨aa,ab,rfl,aH⟩
     refine Lf 54 (we zvF (vy hz.pv a6)) (Lh 12 (wn (cs:=[vi 0,.bool false,vn]) z1eA) fun p _=>La U<|Ll (wl z1eB .here)<|Q0n<|Lb ?_)
     refine bK h fun bF a7 h=>Le<|Lf 55 (we zvF (wh .here))<|Eg call37 hz (fun pz=>cI _ _ _ _ _ a7 pz aH) (Lh 13 (wn (cs:=[vi 0]) qp) fun q _=>Ll (wl jM .here)<|Q0n ?_)
     obtain⟨bs,a8,h⟩:=wE h
     let A:List Value:=[vi ((nth (b.take ((i64 (a+1)):Int).toNat) c).yo),.bool ((nth (b.take ((i64 (a+1)):Int).toNat) c).yE),vs aa (((nth (b.take ((i64 (a+1)):Int).toNat) c).yA).length) ab];let E:Value:=(vs N T.length v);refine Nd (fun z=>(bs z=some r)) (fun z=>[(2,vi a),(3,vi S),(8,vp m),(10,vp j),(12,vp p),(13,vp q),(48,vs al ((b.take ((i64 (a+1)):Int).toNat).length) am),(49,vi (((b.take ((i64 (a+1)):Int).toNat).length:Nat):Int)),(50,vi c)]) (fun z=>[stb m 47 [vn],stb j 47 [E],row E 23 1 (iP.flatMap em),mat 5 1 e5 iP,stb p 138 A,stb q 3 [vi z],qK n]) ?_ ?_
     ·refine B3n U<|Lj h (fun a9 h=>?_)<|fun a9 h=>?_
      ·exact D1q U<|Ll (wl jM .here)<|WL.nil<|Lp S h .q<|.s7 .h2 .h2 .h3 .h2 .h1 .here .here
      ·exact Ep<|Lp 108 h .q<|.s7 .h2 .h2 .h3 .h2 .h1 .here .here
     ·rintro z h
      replace h:=(a8 z).symm.trans h
      refine Lb<|bK h fun an ba h=>Le<|Lf 61 (we zvF (wh .h4))<|Ha (dd:=62) U (Eh call39) .nil (cc hz .nil fun w pz ho=>QP _ _ _ _ _ ba pz aH) ?_
      rintro L aL aM bb
      refine Q0n<|jK1 h fun bt bc h=>Dh (fun ah W uP=>(bt W=some r)/\(uP.map (·.2)=W)) (fun ah W uP=>[(2,vi a),(3,vi S),(8,vp m),(10,vp j),(48,vs al ((b.take ((i64 (a+1)):Int).toNat).length) am),(49,vi (((b.take ((i64 (a+1)):Int).toNat).length:Nat):Int)),(50,vi c)]) (fun ah W uP=>[stb m 47 [vn],stb j 47 [vs N W.length v],mat 5 1 e5 uP,row (vs N W.length v) 23 1 (uP.flatMap em),qK ah]) ?_ ?_
      ·refine WC.block<|WC.drop (.s8 .h1 .h1 .h1 .h1 .h1 .h1 .here .here)<|Dm (f:=80) (caps:=[vp L]) U call80 ?_
       intro bH bI t O M ao bd be w hw
       have hw1:=hw.selAll ((.s7 .h5 .h4 .h2 .h2 .h2 .h2 .here):Sel _ [mat 5 1 e5 iP,row E 23 1 (iP.flatMap em),stb m 47 [vn],stb j 47 [E],stb p 138 A,stb q 3 [vi z],wA t (M .ready none)] _)
       let C:List Value:=[vi an.yo,.bool an.yE,vs aL an.yA.length aM];have pz:=(hz.call hw1 ((.cons .here .nil):Sel [wM [mat 5 1 e5 iP,row E 23 1 (iP.flatMap em),stb m 47 [vn],stb j 47 [E],stb p 138 A,stb q 3 [vi z],wA t (M .ready none)],wW O,stb L 138 C,qK n] [wM [mat 5 1 e5 iP,row E 23 1 (iP.flatMap em),stb m 47 [vn],stb j 47 [E],stb p 138 A,stb q 3 [vi z],wA t (M .ready none)]] [wW O,stb L 138 C,qK n])).lend hw1 ((.cons .here .nil):Sel [wM [mat 5 1 e5 iP,row E 23 1 (iP.flatMap em),stb m 47 [vn],stb j 47 [E],stb p 138 A,stb q 3 [vi z],wA t (M .ready none)],wW O,stb L 138 C,qK n] [wM [mat 5 1 e5 iP,row E 23 1 (iP.flatMap em),stb m 47 [vn],stb j 47 [E],stb p 138 A,stb q 3 [vi z],wA t (M .ready none)]] [wW O,stb L 138 C,qK n]) (B:=[stb L 138 C]) (fun _ nY=>((.cons .h1 .nil):Sel _ [stb L 138 C] _).mem nY)
       refine bK h fun P bf h=>Calls.mono (Vj (Z:=_) (zv6:=t) (zgO:=(MG Int)) (zds:=(fun(g:MG Int) (s:Nat×List (List Int)×Int)=>wM ([mat 5 1 e5 g,row (vs N s.2.1.length v) 23 1 (g.flatMap em),stb m 47 [vn],stb j 47 [vs N s.2.1.length v],stb p 138 [(vi<|(nth (b.take ((i64 (a+1)):Int).toNat) c).yo),(.bool<|(nth (b.take ((i64 (a+1)):Int).toNat) c).yE),vs aa (((nth (b.take ((i64 (a+1)):Int).toNat) c).yA).length) ab],stb q 3 [vi s.2.2]]++[wA t (M (ka<|vY [.exit 2] s.1)<|vY [.exit 2] s.1)]))) (znz:=(fun(g:MG Int) (s:Nat×List (List Int)×Int)=>(g.map (·.2)=s.2.1))) (zv7:=iP) (zYq:=⟨L,0,none⟩) (zYr:=aL) (zYs:=aM) (z2a:=(Nat×List (List Int)×Int)) (zaF:=(fun(x:xt) (s:Nat×List (List Int)×Int)=>chk (s.1=0)<|mQ b a c x s.2.1 s.2.2)) (zjO:=(0,T,z)) (znx:=an) (r:=P) pz ?_ aG (bb.mono<|zl) ((hw1.lent ((.cons .here .nil):Sel [wM [mat 5 1 e5 iP,row E 23 1 (iP.flatMap em),stb m 47 [vn],stb j 47 [E],stb p 138 [(vi<|(nth (b.take ((i64 (a+1)):Int).toNat) c).yo),(.bool<|(nth (b.take ((i64 (a+1)):Int).toNat) c).yE),vs aa (((nth (b.take ((i64 (a+1)):Int).toNat) c).yA).length) ab],stb q 3 [vi z],wA t (M .ready none)],wW O,stb L 138 C,qK n] [wM [mat 5 1 e5 iP,row E 23 1 (iP.flatMap em),stb m 47 [vn],stb j 47 [E],stb p 138 [(vi<|(nth (b.take ((i64 (a+1)):Int).toNat) c).yo),(.bool<|(nth (b.take ((i64 (a+1)):Int).toNat) c).yE),vs aa (((nth (b.take ((i64 (a+1)):Int).toNat) c).yA).length) ab],stb q 3 [vi z],wA t (M .ready none)]] [wW O,stb L 138 C,qK n]) (B:=[stb L 138 C]) (fun _ nY=>((.cons .h1 .nil):Sel _ [stb L 138 C] _).mem nY) (.head _) _).stb) bf<|hw1.owns ((.cons .here .nil):Sel [wM [mat 5 1 e5 iP,row E 23 1 (iP.flatMap em),stb m 47 [vn],stb j 47 [E],stb p 138 [(vi<|(nth (b.take ((i64 (a+1)):Int).toNat) c).yo),(.bool<|(nth (b.take ((i64 (a+1)):Int).toNat) c).yE),vs aa (((nth (b.take ((i64 (a+1)):Int).toNat) c).yA).length) ab],stb q 3 [vi z],wA t (M .ready none)],wW O,stb L 138 C,qK n] [wM [mat 5 1 e5 iP,row E 23 1 (iP.flatMap em),stb m 47 [vn],stb j 47 [E],stb p 138 [(vi<|(nth (b.take ((i64 (a+1)):Int).toNat) c).yo),(.bool<|(nth (b.take ((i64 (a+1)):Int).toNat) c).yE),vs aa (((nth (b.take ((i64 (a+1)):Int).toNat) c).yA).length) ab],stb q 3 [vi z],wA t (M .ready none)]] [wW O,stb L 138 C,qK n])) ?_
       ·refine lD (LI:=(fun(g:MG Int) (s:Nat×List (List Int)×Int)=>[mat 5 1 e5 g,row (vs N s.2.1.length v) 23 1 (g.flatMap em),stb m 47 [vn],stb j 47 [vs N s.2.1.length v],stb p 138 [(vi<|(nth (b.take ((i64 (a+1)):Int).toNat) c).yo),(.bool<|(nth (b.take ((i64 (a+1)):Int).toNat) c).yE),vs aa (((nth (b.take ((i64 (a+1)):Int).toNat) c).yA).length) ab],stb q 3 [vi s.2.2]])) (pc:=(fun(s:Nat×List (List Int)×Int)=>vY [.exit 2] s.1)) ao bd be (fun _ _=>U) (by decide) ?_
        rintro o _ nV ⟨bg,Q,ap⟩ bh bi Fb wb aI ai hz
        replace hz:=hz.left
        letI:Rnd:=rX t
        obtain⟨vj,R⟩:=wa aI
        replace vj:bg=0:=vj;subst vj;clear aI
        replace R:mQ b a c o Q ap=some (bh,bi):=R
        unfold mQ at R
        let I:Value:=(vs N Q.length v);refine WC.restr (env':=[(10,vp j),(12,vp p),(13,vp q),(63,.agg #[vi o.xo,.int .u8 o.xn])]) (.qo U)<|N4 (L':=[mat 5 1 e5 nV,row I 23 1 (nV.flatMap em),stb m 47 [vn],stb j 47 [I],stb p 138 A,stb q 3 [vi ap],wA t (M .ready none)]) U<|Le<|Lh 14 (wn (cs:=[vi 0,.int .u8 0]) z1eC) ?_
        intro bJ _
        refine Ll (wl z1eD .here)<|WL.nil<|N0 ao .h7<|WC.block<|Lb<|B0q<|Lf 64 (Ei wm .h7)<|Q1n U<|Er (fun az=>?_)<|fun az=>?_
        ·replace R:=qf R az
         refine En<|Ln<|Hc U ?_
         obtain⟨rfl,rfl⟩:=tj R
         exact Du ao .here<|fun w' pQ=>⟨nV,U,ai,(pQ.selAll ((.s7 .h2 .h2 .h2 .h2 .h2 .h2 .here):Sel _ [mat 5 1 e5 nV,row I 23 1 (nV.flatMap em),stb m 47 [vn],stb j 47 [I],stb p 138 A,stb q 3 [vi ap],wA t (M .done<|some<|.exit 2)] _)).sub (.cons .here .nil)⟩
        ·replace R:=qg R az
         refine Ec<|B0q<|Lf 66 (Ei wm .h7)<|La U<|Ll (wl jM .h7)<|Q0n ?_
         obtain⟨ad,R⟩:=wa R
         obtain⟨ae,R⟩:=wa R
         refine Lv (fun i=>[11].contains i) []<|Lg 0 U (w7 ux)<|Li 1 U (Ei zfp .h6)<|Lg 2 U (w7 Wg)<|Li 3 U (Ei wm .h7)<|Eu (fun w hw=>Hp.vr .h4 hw (by intro nd;have:=ad;rw[nd] at this;omega)) ?_
         rintro⟨aN,rfl⟩
         refine Lg 4 U (wL zer ad.1 ad.2 vB) ?_
         obtain⟨bL,bj⟩:=MS ai ad
         refine Li 5 U (w8 z56 U<|gt .h4<|bS bj 0 _ U)<|Lg 6 U (w7 FP)<|Li 7 U (Ei wm .h2)<|Lg 8 U (w7 FQ)<|Li 9 U (Ei m9 .h2)<|E8 (fun _ h=>Hp.matOpen h .h3 ai ad) ?_
         generalize bk:(nth nV ((nth (b.take ((i64 (a+1)):Int).toNat) c).yo)).1.1=bM
         refine Eu (fun w hw=>Hp.vr .here hw (by intro nd;have:=ae;rw[nd] at this;omega)) ?_
         rintro⟨aq,rfl⟩
         refine Lg 10 U (wL z2j ae.1 ae.2 vB)<|Nb (i:=11) U (by kernel_rfl) (by kernel_rfl) (sT (vs:=[.int .u8 o.xn]) (ds:=((nth Q<|(nth (b.take ((i64 (a+1)):Int).toNat) c).yo).set (o.xo:Int).toNat o.xn).flatMap e5) WZ (uv si) .here (db (enc:=e5) (sz:=1) (k:=0) (fun _=>U) ae.1 ae.2 (by decide))<|d9 (enc:=e5) (l:=nth Q ((nth (b.take ((i64 (a+1)):Int).toNat) c).yo)) (sz:=1) (vs:=[.int .u8 o.xn]) (y:=o.xn) (k:=0) (fun _=>U) ae.1 ae.2<|Nat.le_of_ble_eq_true U)<|N1 .here (u:=(vs (some ⟨aq,0,none⟩) (((nth Q<|(nth (b.take ((i64 (a+1)):Int).toNat) c).yo).set (o.xo:Int).toNat o.xn).length)<|(nth nV<|(nth (b.take ((i64 (a+1)):Int).toNat) c).yo).1.2)) (rJ (List.length_set).symm)<|E8 (fun _ h=>Hp.matClose h .here .here ai ad)<|E8 (fun _ h=>Hp.GA (d:=(nth Q<|(nth (b.take ((i64 (a+1)):Int).toNat) c).yo).set (o.xo:Int).toNat o.xn) .h4 ai ad (by simp only[List.length_set]<;>rfl) bk h)<|Dc (cs':=[vs (some ⟨aN,0,none⟩) ((Q.set (((nth (b.take ((i64 (a+1)):Int).toNat) c).yo):Int).toNat<|(nth Q<|(nth (b.take ((i64 (a+1)):Int).toNat) c).yo).set (o.xo:Int).toNat o.xn).length) v]) .h6 (by simp only[List.length_set]<;>rfl)<|Eo (by kernel_rfl)<|Lq ?_
         obtain⟨rfl,rfl⟩:=tj R
         let F:Value:=(vs (some ⟨aN,0,none⟩) ((Q.set (((nth (b.take ((i64 (a+1)):Int).toNat) c).yo):Int).toNat ((nth Q ((nth (b.take ((i64 (a+1)):Int).toNat) c).yo)).set (o.xo:Int).toNat o.xn)).length) v);exact Nt ao .h4<|fun w' pQ=>⟨nV.set (((nth (b.take ((i64 (a+1)):Int).toNat) c).yo):Int).toNat ((some ⟨aq,0,none⟩,(nth nV<|(nth (b.take ((i64 (a+1)):Int).toNat) c).yo).1.2),(nth Q<|(nth (b.take ((i64 (a+1)):Int).toNat) c).yo).set (o.xo:Int).toNat o.xn),U,Mg ai _ _ _,(pQ.selAll ((.s7 .h3 .h2 .h4 .h1 .h3 .h1 .here):Sel _ [mat 5 1 e5 (nV.set (((nth (b.take ((i64 (a+1)):Int).toNat) c).yo):Int).toNat ((some ⟨aq,0,none⟩,(nth nV<|(nth (b.take ((i64 (a+1)):Int).toNat) c).yo).1.2),(nth Q<|(nth (b.take ((i64 (a+1)):Int).toNat) c).yo).set (o.xo:Int).toNat o.xn)),row F 23 1 ((nV.set (((nth (b.take ((i64 (a+1)):Int).toNat) c).yo):Int).toNat ((some ⟨aq,0,none⟩,(nth nV<|(nth (b.take ((i64 (a+1)):Int).toNat) c).yo).1.2),(nth Q<|(nth (b.take ((i64 (a+1)):Int).toNat) c).yo).set (o.xo:Int).toNat o.xn)).flatMap em),stb m 47 [vn],stb j 47 [F],stb p 138 A,stb q 3 [(vi<|i64 (ap-1))],wA t (M .ready none)] _)).sub (.cons .here .nil)⟩
       ·rintro _ w' ⟨uX,rfl,aJ,hp⟩
        have uY:=hw1.call ((.cons .here .nil):Sel [wM [mat 5 1 e5 iP,row E 23 1 (iP.flatMap em),stb m 47 [vn],stb j 47 [E],stb p 138 A,stb q 3 [vi z],wA t (M .ready none)],wW O,stb L 138 C,qK n] [wM [mat 5 1 e5 iP,row E 23 1 (iP.flatMap em),stb m 47 [vn],stb j 47 [E],stb p 138 A,stb q 3 [vi z],wA t (M .ready none)]] [wW O,stb L 138 C,qK n]) hp
        let H:Value:=(vs N P.2.1.length v);have wQ:Hp _ _ w' [mat 5 1 e5 uX,row H 23 1 (uX.flatMap em),stb m 47 [vn],stb j 47 [H],stb p 138 A,stb q 3 [vi P.2.2],wA t (M (ka (vY [.exit 2] P.1)) (vY [.exit 2] P.1)),wW O,stb L 138 C,qK n]:=uY.pickAll .here
        refine⟨_,vY [.exit 2] P.1,_,U,wQ.sub ((.s10 .h6 .here .here .here .here .here .here .here .here .here):Sel _ [wA t (M (ka (vY [.exit 2] P.1)) (vY [.exit 2] P.1)),mat 5 1 e5 uX,row H 23 1 (uX.flatMap em),stb m 47 [vn],stb j 47 [H],stb p 138 A,stb q 3 [vi P.2.2],wW O,stb L 138 C,qK n] _),?_⟩
        clear hp uY wQ pz hw hw1
        by_cases aA:P.1=0
        ·replace h:=QR h aA
         refine wj0L aA ?_
         letI:Rnd:=ve (O::n)
         exact N8 .h6 .h7<|Lq<|E2 (D:=fun(g:List Nat×List (List Int)×MG Int)=>g.1) (G:=List Nat×List (List Int)×MG Int) ⟨(O::n),P.2.1,uX⟩ ⟨h,aJ⟩ .q<|.s5 .h3 .h3 .h1 .h1 .here
        ·replace h:=QS h aA
         by_cases aB:P.1=1
         ·replace h:=QR h aB
          refine wjSL (i:=0) aB U ?_
          letI:Rnd:=ve (O::n)
          exact Hu .h6 .h7<|En<|Lu<|E2 (D:=fun(g:List Nat×List (List Int)×MG Int)=>g.1) (G:=List Nat×List (List Int)×MG Int) ⟨(O::n),P.2.1,uX⟩ ⟨h,aJ⟩ .q<|.s5 .h3 .h3 .h1 .h1 .here
         ·replace h:=QS h aB
          cases h
      ·rintro ah W uP ⟨h,bl⟩
       replace h:=(bc W).symm.trans h
       letI:Rnd:=ve ah
       exact Lq<|E2 (D:=fun(g:List Nat×List (List Int)×MG Int)=>g.1) (G:=List Nat×List (List Int)×MG Int) ⟨ah,W,uP⟩ ⟨h,bl⟩ .q<|.a5
    ·rintro ag V uO ⟨h,bm⟩
     replace h:=(a4 V).symm.trans h
     letI:Rnd:=ve ag
     exact D2q U<|WL.nil<|H6 (D:=fun(g:Nat×List Nat×Int×List (List Int)×MG Int)=>g.2.1) (G:=Nat×List Nat×Int×List (List Int)×MG Int) ⟨bq,ag,i64 (c+1),V,uO⟩ ⟨h,bm⟩ (Nat.lt_succ_self _) .q<|.a5
   ·exact En<|Ln<|Ln<|Lu<|E2 (D:=fun(g:List Nat×List (List Int)×MG Int)=>g.1) (G:=List Nat×List (List Int)×MG Int) ⟨n,T,iP⟩ ⟨h,aG⟩ .q<|.a5
  ·rintro aj X uF ⟨h,bn⟩
   replace h:=(a0 X).symm.trans h
   letI:Rnd:=ve aj
   refine B0q<|Lf 80 (we z3N (wh .h1))<|Ll (wl zcK .here)<|Q1n U<|El ?_
   obtain rfl:=oJ h
   exact Hz .h4 results14 (.agg U z3N U (wh .here)<|.tmp U .nil)<|fun w hw=>⟨N,v,uF,qq,bn,hw.sub (.s2 .h2 .h2)⟩
def gF(b:yJ)(a:List yb):Option yJ:=
 (tf b a).bind fun c=>if !c then none else if decide ((a.length:Int)=0) then(fF b).bind fun d=>some d else chk (0<=(i64 ((a.length:Int)-1))/\(i64 ((a.length:Int)-1))<a.length) ((f4 (⟨(nth a (i64 ((a.length:Int)-1))).yo,(nth a (i64 ((a.length:Int)-1))).yE,(nth a (i64 ((a.length:Int)-1))).yA⟩:yb)).bind fun f=>(tX b a (i64 ((a.length:Int)-1)) 108).bind fun e=>some e)
theorem XU(Z b c k l a d r)(h:gF a d=some r){Ek}(hz:PZ [] Ek Z)(f:ZS Z 1 (ff Z) b c a.yf)(g:ZS Z 3 (mS Z) k l d):
  Calls Tryz.prog 10 #[.agg #[vs b a.yf.length c],vs k d.length l] Ek fun e w'=>∃ m:Option Addr,∃ n:Nat,∃ zB:MG Int,e = .returned (.tuple #[.agg #[vs m r.yf.length n],vi 0])/\(zB.map (·.2)=r.yf)/\Hp [] Ek w' [mat 5 1 e5 zB,row (vs m r.yf.length n) 23 1 (zB.flatMap em)]:=by
 unfold gF at h
 refine Lz func10 U U<|Lb<|Le (Lh 2 (wu (cs:=[vs b a.yf.length c])) fun F _=>Lh 4 (wn (cs:=[vn]) zdu) fun G _=>Q1n U<|Lb<|Lb ?_)
 refine bK h fun H o h=>Le<|Lf 7 (we z3N (wh .h1))<|La U<|Eg call35 hz (fun pz=>Yu _ _ _ _ _ _ _ _ o pz f g)<|Q1n U<|Lj h (fun p h=>?_)<|fun p h=>?_
 ·cases h
 ·refine Ec<|Lb<|B1q U<|Lf 14 (wB underlying50)<|Q1n U<|Lj h (fun q h=>?_)<|fun q h=>?_
  ·refine Lb<|bK h fun I s h=>Le<|Lf 16 (we z3N (wh .h1))<|Ha (dd:=17) U (Eh call36) .nil (cc hz .nil fun w pz ho=>bG _ _ _ _ _ s pz f) ?_
   rintro t u Bh v
   exact Ll (wl zcK .h2)<|Q1n U<|El<|L4<|oJ h▸Lk results10 (.agg U z3N U (wh .here)<|.tmp U .nil) fun w hw=>⟨t,u,Bh,qq,v,hw.sub (.s2 .h1 .h1)⟩
  ·refine Ec<|B1q U<|Lf 19 (wB underlying50)<|Q2n U<|Lb<|cK h fun x h=>bK h fun J y h=>bK h fun K z h=>Lv (fun i=>[11].contains i) []<|Li 0 U (we z3N (wh .h1))<|Lg 1 U q_m<|Lg 2 U q_m<|Lg 3 U q_m<|Lg 4 U q_m<|L8 (j:=5) (dd:=26) (by kernel_rfl) z2W z2X (Z:=Z) (Pr:=(mS Z)) zk6 g x ?_
   rintro L M A N ⟨O,P,rfl,B⟩
   refine Li 6 U (we zvF (vy hz.pv A))<|L5 7 U (Eh call37) (cc hz .nil fun w pz ho=>cI _ _ _ _ _ y pz B)<|WD.call3 (i:=8) (dd:=29) U (by kernel_rfl) U U U (.inr U) (Eh call14) .nil (cc hz .nil fun w pz ho=>nm _ _ _ _ _ _ _ _ _ _ z pz f g) ?_
   rintro C D Bi E
   exact Lg 9 U vF<|Lg 10 U vF<|WD.forced0 (i:=11) U (by kernel_rfl) (wS.of .nil) (wl zcK .h2)<|Lg 12 U q_z<|Eo (by kernel_rfl)<|Ld<|El<|oJ h▸Lk results10 (.agg U z3N U (wh .here)<|.tmp U .nil) fun w hw=>⟨C,D,Bi,qq,E,hw.sub (.s2 .h1 .h1)⟩
def jg(b:yJ)(d:Int)(e:Int):Option (yz×Int):=
 (mO b).bind fun c=>if !c then none else(qi (⟨b,d,e⟩:xe)).bind fun a=>if decide (a.2.2<0) then none else some (a.2.1,a.2.2)
theorem lw(Z b c a d f r)(h:jg a d f=some r){Ek}(hz:PZ [] Ek Z)(g:ZS Z 1 (ff Z) b c a.yf):
  Calls Tryz.prog 12 #[.agg #[vs b a.yf.length c],.int .u64 d,vi f] Ek fun e w'=>∃ i:Option Addr,∃ j:Nat,∃ k:Option Addr,∃ m:Nat,e = .returned (.tuple #[.agg #[.string r.1.yl,vi r.1.yd,vs i r.1.yx.length j,vi r.1.y5.yK,.int .u64 r.1.y5.y4.a0,.int .u64 r.1.y5.y4.a1,.int .u64 r.1.y5.y4.a2,.int .u64 r.1.y5.y4.a3,.int .u64 r.1.y5.y4.a4,.int .u64 r.1.y5.y4.a5,.int .u64 r.1.y5.y4.a6,.int .u64 r.1.y5.y4.a7,.int .u64 r.1.y5.y4.a8,.int .u64 r.1.y5.y4.a9,.int .u64 r.1.y5.y4.a10,.int .u64 r.1.y5.y4.a11,.int .u64 r.1.y5.y4.a12,.int .u64 r.1.y5.y4.a13,.int .u64 r.1.y5.y4.a14,.int .u64 r.1.y5.y4.a15,.int .u64 r.1.y5.y4.a16,.int .u64 r.1.y5.y4.a17,vs k r.1.y5.yr.length m],vi r.2,vi 0])/\True/\Hp [] Ek w' [row (vs i r.1.yx.length j) 5 1 (r.1.yx.flatMap e5),row (vs k r.1.y5.yr.length m) 24 1 (r.1.y5.yr.flatMap vK)]:=by
 unfold jg at h
 refine Ng func12 U U ?_
 let C:Value:=(vs b a.yf.length c);refine B0q<|Lh 3 (wu (cs:=[C])) ?_
 intro y _
 let A:List Value:=[.string ⟨#[]⟩,vi 0,vn,vi 0,.int .u64 0,.int .u64 0,.int .u64 0,.int .u64 0,.int .u64 0,.int .u64 0,.int .u64 0,.int .u64 0,.int .u64 0,.int .u64 0,.int .u64 0,.int .u64 0,.int .u64 0,.int .u64 0,.int .u64 0,.int .u64 0,.int .u64 0,.int .u64 0,vn];refine Lh 6 (wn (cs:=A) z8p) ?_
 intro z _
 refine Q2n U<|Lb<|Lb<|bK h fun B n h=>Le<|Lf 12 (we z3N (wh .h1))<|Eg call25 hz (fun pz=>eO _ _ _ _ _ n pz g)<|Q1n U<|Lj h (fun o h=>?_)<|fun o h=>?_
 ·cases h
 ·refine Ec<|Lb<|bK h fun F p h=>Le<|Lf 17 (we z3N (wh .h1))<|Q2q U<|Lf 20 (wN (v:=(.agg #[C,.int .u64 d,vi f])) (Lt (l:=[.tmp 17,.tmp 18,.tmp 19]) (.r3 U U U) [0,1,2]) (fun _=>by kernel_rfl))<|Np (dd:=21) U (Eh call28) .nil (cc hz .nil fun w pz ho=>oD _ _ _ _ _ p pz g) ?_
  rintro q s t u _
  refine Q3q U<|La U (Lh 9 (wn (cs:=[vi 0,vi 0,.int .u32 0,.int .u64 0]) zh0) fun D _=>Lh 10 (wn (cs:=A) z8p) fun E _=>Ll (wl zdv .h1)<|Ll (wl z8q .h1)<|Q1n U<|Lb<|B2n U<|Lj h (fun x h=>?_)<|fun x h=>?_)
  ·cases h
  ·exact Ec<|B0q<|Lf 28 (we z4P (wh .here))<|La U<|Ll (wl z8q .h4)<|Q2n U<|El<|oJ h▸Lk results12 (.agg U z4P U (wh .here)<|.tmp U<|.tmp U .nil) fun w hw=>⟨q,s,t,u,XW,trivial,hw.sub (.s2 .h3 .h3)⟩
def mc(d:List ym)(a:List yj):Option Bool:=
 (sE a).bind fun b=>if !b then none else(qU d a).bind fun c=>some c
theorem YH(Z c d e f a b r)(h:mc a b=some r){Ek}(hz:PZ [] Ek Z)(i:ZS Z 4 (rq j5) c d a)(g:ZS Z 2 (rq vD) e f b):
  RC 13 #[vs c a.length d,vs e b.length f] Ek (.tuple #[.bool r,vi 0]) [] []:=by
 unfold mc at h
 refine Lz func13 U U<|B2n U<|Lb<|Lb<|bK h fun m j h=>D1q U<|Eg call38 hz (fun pz=>nR _ _ _ _ _ j pz g)<|Q1n U<|Lj h (fun k h=>?_)<|fun k h=>?_
 ·cases h
 ·exact Ec<|Lb<|bK h fun n l h=>D2q U<|Eg call18 hz (fun pz=>rU _ _ _ _ _ _ _ _ l pz i g)<|Q2n U<|El<|oJ h▸Eb results13 (.tmp U<|.tmp U .nil) .nil
def jb(c:List yJ)(f:Int)(a:xF)(g:(List yj)->Option Bool):Nat->(List yj)->Int->Option Bool
 | 0,_,_=>none
 | h+1,d,b=>if decide (b<c.length) then chk (0<=b/\b<c.length) ((jg (⟨(nth c b).yf⟩:yJ) f 1).bind fun e=>chk (0<=b/\b<4) (if decide (e.1.yl≠(nth ([a.a0,a.a1,a.a2,a.a3]:List ByteArray) b)) then none else chk (0<=b/\b<4) (chk ((((d++([(⟨nth ([a.a0,a.a1,a.a2,a.a3]:List ByteArray) b,e.1.yd⟩:yj)]:List yj)).length:Nat):Int)*24<=140737488355328/\(((d++([(⟨nth ([a.a0,a.a1,a.a2,a.a3]:List ByteArray) b,e.1.yd⟩:yj)]:List yj)).length:Nat):Int)<=4611686018427387904) (jb c f a g h (d++([(⟨nth ([a.a0,a.a1,a.a2,a.a3]:List ByteArray) b,e.1.yd⟩:yj)]:List yj)) (i64 (b+1)))))) else g d
def gl(a:List yJ)(b:Int)(c:xF)(d:List ym):Option Bool:=
 vC (fun(e:List yj)=>(mc d e).bind fun f=>some f) fun g=>jb a b c g wr ([]:List yj) 0
theorem oO(Z C t u x y q D E j z a A r)(h:gl j z a A=some r){Ek}(hz:PZ [] Ek Z)(J:ZS Z 1 (rZ Z) t u j)(K:ZC Z C [vs t j.length u])(L:ZC Z x [.int .u64 z])(F:ZC Z y [.string a.a0,.string a.a1,.string a.a2,.string a.a3])(M:ZS Z 4 (rq j5) D E A)(N:ZC Z q [vs D A.length E]):
  RC 11 #[vq C,vq x,vq y,vq q] Ek (.bool r) [] []:=by
 unfold gl at h
 refine Nl func11 U U<|B1n U<|B1n U<|jK1 h fun I O h=>Nf (fun d n o=>(I d=some r)) (fun d n o=>[(3,vq q),(5,vs n d.length o)]) (fun d n o=>[row (vs n d.length o) 29 2 (d.flatMap vD)]) ?_ ?_
 ·refine B0q<|Lf 13 (w8 znQ U<|vx hz.pv K)<|Lf 14 (wB underlying36)<|Q1n U<|WC.block<|WC.nilRow 29 2<|E6 (fun p b c e g=>(jb j z a I p b c=some r)) (fun p b c e g=>[(1,vq x),(2,vq y),(3,vq q),(5,vs e b.length g),(13,vs t j.length u),(14,vi (j.length:Int)),(15,vi c)]) (fun p b c e g=>[row (vs e b.length g) 29 2 (b.flatMap vD)]) (fun p b c e g=>p) ⟨wr,([]:List yj),0,none,0⟩ h .q (.cons .here .nil) ?_
  rintro(_|ad) b c e g h;·cases h
  rw[jb] at h
  refine B1n U<|Lb<|Lj h (fun P h=>?_)<|fun P h=>?_
  ·refine Ec<|Lb<|WC.block<|Lb<|cK h fun Q h=>D1q U<|L0 (dd:=18) (Z:=Z) (Pr:=(rZ Z)) zk7 J Q ?_
   rintro af ag R ah ⟨ai,aj,rfl,S⟩
   refine Lf 19 (we z3N (vy hz.pv R)) (Lh 7 (wn (cs:=[vn]) zdu) fun ak _=>La U<|Ll (wl zcK .here)<|Q0n<|Lb ?_)
   refine bK h fun s T h=>Le<|Lf 21 (we z3N (wh .here))<|Lf 22 (w8 z4O U<|vx hz.pv L)<|Np (dd:=23) U (Eh call12) .nil (cc hz .nil fun w pz ho=>lw _ _ _ _ _ _ _ T pz S) ?_
   rintro al am an ao _
   refine Q3q U<|La U (Lh 8 (wn (cs:=[.string ⟨#[]⟩,vi 0,vn,vi 0,.int .u64 0,.int .u64 0,.int .u64 0,.int .u64 0,.int .u64 0,.int .u64 0,.int .u64 0,.int .u64 0,.int .u64 0,.int .u64 0,.int .u64 0,.int .u64 0,.int .u64 0,.int .u64 0,.int .u64 0,.int .u64 0,.int .u64 0,.int .u64 0,vn]) z8p) fun ap _=>Ll (wl z8q .here)<|Q2n U<|Lb<|Lb ?_)
   refine cK h fun G h=>Lv nc []<|Lg 0 U q_m<|Lg 1 U kj<|Lg 2 U q_m<|Lg 3 U (w7 bW)<|Li 4 U (Ei ge .here)<|Lg 5 U q_m<|Lg 6 U (qF zvB G WP)<|Li 7 U (w8 ge U<|ns (l:=([a.a0,a.a1,a.a2,a.a3]:List ByteArray)) (f:=Value.string) (k:=0) (m:=4) hz.pv F U G)<|Lg 8 U (J6 U U)<|Lg 9 U vA<|Eo (by kernel_rfl)<|Ld<|Lj h (fun V h=>?_)<|fun V h=>?_
   ·cases h
   ·refine Ec<|cK h fun H h=>cK h fun W h=>Lv (fun i=>[8].contains i) []<|Lg 0 U q_m<|Lg 1 U q_m<|Lg 2 U (qF zvB H WP)<|Li 3 U (w8 ge U<|ns (l:=([a.a0,a.a1,a.a2,a.a3]:List ByteArray)) (f:=Value.string) (k:=0) (m:=4) hz.pv F U H)<|Lg 4 U (w7 pX)<|Li 5 U (Ei wm .here)<|Lg 6 U (wN (v:=(.agg #[(.string<|nth ([a.a0,a.a1,a.a2,a.a3]:List ByteArray) c),vi s.1.yd])) (Lt (l:=[.tmp 40,.tmp 42]) (.r2 U U) [0,1]) (fun _=>by kernel_rfl)) (WD.new (i:=7) (dd:=44) U (by kernel_rfl) U (wD (cs:=([(⟨nth ([a.a0,a.a1,a.a2,a.a3]:List ByteArray) c,s.1.yd⟩:yj)]:List yj).flatMap vD) z5y (Lt (l:=[.tmp 43]) (.cons U .nil) [0]) (fun _=>by kernel_rfl) (by unfold maxLen;omega)) (fun h'=>absurd h' (by decide)) fun aq _=>WD.old (i:=8) (dd:=45) U (by kernel_rfl) U (fun _=>(wS.of .nil)) (vb (enc:=vD) (l1:=b) (l2:=([(⟨nth ([a.a0,a.a1,a.a2,a.a3]:List ByteArray) c,s.1.yd⟩:yj)]:List yj)) z5y .h5 (fun _=>U) (wY .here) (vm YY _) W) ?_)
    rintro⟨X,Y⟩ _
    exact Lg 9 U q_z<|Eo (by kernel_rfl)<|Lq<|Ld<|D2q U<|WL.nil<|Em ⟨ad,b++([(⟨nth ([a.a0,a.a1,a.a2,a.a3]:List ByteArray) c,s.1.yd⟩:yj)]:List yj),i64 (c+1),X,Y⟩ h (Nat.lt_succ_self _) .q<|.cons .here .nil
  ·exact En<|Ln<|Ln<|Lu<|Lp ⟨b,e,g⟩ h .q<|.cons .here .nil
 ·rintro d n o h
  replace h:=(O d).symm.trans h
  refine Lb<|bK h fun ae aa h=>Le<|Lf 48 (w8 zCq U<|vx hz.pv N)<|La U<|Lm 50 (Eh call13) .nil (kb hz .nil (.cons .here .nil) fun w pz ho la=>YH _ _ _ _ _ _ _ _ aa pz (M.mono<|zl)<|ZA.row (la _ (.head _) _) (RR.flat (enc:=vD) (fun _=>U) _) ⟨w,pz.1⟩)<|Q5n U<|B2q U<|Lx true 2 54 (B:=ae) (fun h=>h) (fun _ ab=>?_) ?_
  ·exact La U<|Lf 56 uh<|La U<|Ly (Eq.symm ab) U .all
  exact Q1n U<|El<|oJ h▸Ea results11
end Go.Proofs.YtaefhckdgfpeaaaGreat
