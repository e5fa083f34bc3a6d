/- A part of this claim's proof: models of functions, walks, plain laws. No conditions. -/
import Derived.Test.YthjnhebofpebpaaGreatW36d
set_option linter.all false
namespace Go.Proofs.YthjnhebofpebpaaGreat
open Go Go.RowKit Sep Tryz
variable {j p:zSv}{m t u:Nat}{n q S:Option Addr}{k W:List (List z6)}{y:List z2}{g:Type}{z T:Addr}{l:List ze}{aa:Int}
set_option maxRecDepth 30000
set_option maxHeartbeats 4000000
def y35(c:List (List z6))(d:zSv)(e:z2)(a:List z2)(f:Int):Option (Bool×(Nat×List z2×Int)):=
 (y5e (⟨f⟩:z1A) e c d).bind fun b=>(if decide ((a.length:Int)=0) then some true else chk ((0:Int)<=0/\0<(a.length:Int)) ((y1w b.1 (⟨((nth a 0).fN),((nth a 0).fD)⟩:z2)).bind fun g=>some (decide (g>0)))).bind fun h=>if h then some (true,(0,([b.1]:List z2),b.2.fE)) else some (true,(0,a,b.2.fE))
def y4t(d:List (List z6))(j:zSv)(a:List (List z6))(b:zSv)(e:List z2):Option (z2×Int):=
 (y3W d j a b e).bind fun g=>if decide (g≠0) then some ((⟨0,0⟩:z2),g) else jp2 (fun(h:Int) (f:List z2)=>if decide (h≠0) then some ((⟨0,0⟩:z2),h) else chk ((0:Int)<=0/\0<(f.length:Int)) (some ((⟨((nth f 0).fN),((nth f 0).fD)⟩:z2),0))) fun k=>(y4Q d j a b e).bind fun c=>(y3i (Nat×List z2×Int) (fun(x:z2) (s:Nat×List z2×Int)=>chk (s.1=0) (y35 a b x s.2.1 s.2.2)) (0,([]:List z2),0) d (⟨(⟨c.1,c.2.1⟩:z2),(⟨c.2.2.1,c.2.2.2⟩:z2)⟩:zSv) a b e).bind fun i=>k i.2.2 i.2.1
theorem ybW{Z:Zp}{r:z2×Int}(h:y4t k j W p y=some r)(w₀:World)(hz:PZ [] w₀ Z)(au:ZS Z 1 (y29 Z) n m k)(ao:ZS Z 1 (y29 Z) S u W)(ap:ZC Z z [(vs S W.length u)])(aq:ZC Z T [(vi p.fRate.fN),(vi p.fRate.fD),(vi p.fL.fN),(vi p.fL.fD)])(av:ZS Z 2 (fun r x=>r=yx x) q t y):
  Calls Tryz.prog 127 #[(.agg #[(vs n k.length m),(vi j.fRate.fN),(vi j.fRate.fD),(vi j.fL.fN),(vi j.fL.fD),(.func (.func 122) #[] #[(vq z),(vq T)]),(vs q y.length t)])] w₀ fun e w'=>e = .returned (.tuple #[(.agg #[(vi r.1.fN),(vi r.1.fD)]),(vi r.2)])/\Hp [] w₀ w' []:=by
 unfold y4t at h
 let F:Value:=(.func (.func 122) #[] #[(vq z),(vq T)]);let N:Value:=(vs n k.length m);let O:Value:=(vs q y.length t);let H:Value:=(.agg #[N,(vi j.fRate.fN),(vi j.fRate.fD),(vi j.fL.fN),(vi j.fL.fD),F,O]);refine Calls.y9J (vs:=[H]) (pre:=[]) (env:=[(0,H)]) func127 U ntmps127 U (Hp.nil w₀ _) U ?_
 let E:List Value:=[N,(vi j.fRate.fN),(vi j.fRate.fD),(vi j.fL.fN),(vi j.fL.fD),F,O];refine WC.b (Ld (Lg 1 (yI (cs:=E) U U) ?_))
 intro V _
 refine Lg 2 (yu (cs:=[(vi 0),(vi 0)]) zX U) fun X _=>La U<|WL.nil<|Lb<|WC.b<|WC.b ?_
 obtain⟨aM,aN,h⟩:=za h
 refine Ld<|Le 9 (yi zhu U (yj .h1) U)<|Ll 10 (zb call163<|.cons U .nil) .nil (cc hz .nil fun w pz ho=>ybh aN w pz au ao ap aq av)<|La U<|WL.nil<|Lb<|WC.b<|Ld<|La U<|La U<|WL.nil<|Lb<|WC.cond U (fun aw=>?_)<|fun aw=>?_
 ·replace h:=yr h aw
  refine WC.b<|Ld<|Le 13 (yN (v:=(.agg #[(vi 0),(vi 0)])) (Lo (l:=[]) .nil []) (fun _=>by kernel_rfl))<|La U<|Lk U U (yl zy U U U .here U U U)<|La U<|WL.nil<|Lb<|WC.ret<|Lj ?_
  obtain rfl:=oJ h
  refine WX.ydd results127 (.agg U zg U (yj .here)<|.tmp U .nil)<|fun w hw=>?_
  exact⟨y1T U U,hw.sub .nil⟩
 ·replace h:=ys h aw
  refine WC.skip<|Lb<|WC.b<|Ld (Lg 5 (yu (cs:=[(vi 0)]) zoC U) fun b _=>WL.nil<|Lb<|WC.b<|Ld (Lg 6 (yu (cs:=[vn]) zsD U) fun o _=>WL.nil<|Lb ?_))
  obtain⟨aO,aP,h⟩:=y52 h
  refine WC.yeB (fun(aj:Nat) (af:Int) (Y:List z2) (ak:Option Addr) (al:Nat)=>(aO af Y=some r)) (fun(aj:Nat) (af:Int) (Y:List z2) (ak:Option Addr) (al:Nat)=>[(2,(vp X)),(5,(vp b)),(6,(vp o))]) (fun(aj:Nat) (af:Int) (Y:List z2) (ak:Option Addr) (al:Nat)=>[stb X 175 [(vi 0),(vi 0)],stb b 277 [(vi af)],stb o 229 [(vs ak Y.length al)],row (vs ak Y.length al) 175 2 (Y.flatMap yx),dfr aj]) ?_ ?_
  ·skip
   refine WC.b ?_
   obtain⟨zB,aQ,h⟩:=za h
   refine Ld<|Le 15 (yi zhu U (yj .h3) U)<|WL.yd7 (dd:=16) U U U (zb call164<|.cons U .nil) .nil (cc hz .nil fun w pz ho=>yaZ aQ w pz au ao ap aq av) ?_
   rintro a _
   refine WL.nil<|Lb<|WC.block<|WC.drop (.s5 .h1 .h1 .h1 .h1 .here)<|WC.nilRow 175 2<|WC.rangeFunc (f:=201) (caps:=[(vp a)]) U call201 ?_
   intro a2 a3 ab aa ag ar aR aS w hw
   let Q:Value:=(vs none (([]:List z2).length) 0);let A:List Asrt:=[stb o 229 [Q],row Q 175 2 (([]:List z2).flatMap yx),stb b 277 [(vi 0)],stb X 175 [(vi 0),(vi 0)],stb V 231 E,blk ab (ag .ready none)];have hw1:=hw.selAll ((.s6 .h3 .h2 .h2 .h2 .h2 .here):Sel _ A _)
   let C:List Value:=[N,(vi zB.1),(vi zB.2.1),(vi zB.2.2.1),(vi zB.2.2.2),F,O];let K:List Asrt:=[dfr aa,stb a 231 C];have pz:=(hz.call hw1 ((.cons .here .nil):Sel [y1N A,dfr aa,stb a 231 C] [y1N A] K)).lend hw1 ((.cons .here .nil):Sel [y1N A,dfr aa,stb a 231 C] [y1N A] K) (B:=[stb a 231 C]) (fun _ hx'=>((.cons .h1 .nil):Sel _ [stb a 231 C] _).mem hx')
   obtain⟨c,aT,h⟩:=za h
   refine Calls.mono (yad (Z:=_) (z9o:=ab) (z4E:=(Option Addr×Nat)) (z2V:=(fun(g:Option Addr×Nat) (s:Nat×List z2×Int)=>y1N ([stb o 229 [(vs g.1 s.2.1.length g.2)],row (vs g.1 s.2.1.length g.2) 175 2 (s.2.1.flatMap yx),stb b 277 [(vi s.2.2)],stb X 175 [(vi 0),(vi 0)],stb V 231 E]++[blk ab (ag (rdy<|pcs [] s.1)<|pcs [] s.1)]))) (z7Q:=(fun(g:Option Addr×Nat) (s:Nat×List z2×Int)=>True)) (zcc:=(none,0)) (zcd:=⟨a,0,none⟩) (zet:=n) (zeu:=m) (zyo:=z) (zyp:=S) (zyq:=u) (zyr:=T) (zmP:=q) (zmQ:=t) (zw:=(Nat×List z2×Int)) (z2B:=(fun(x:z2) (s:Nat×List z2×Int)=>chk (s.1=0)<|y35 W p x s.2.1 s.2.2)) (z8q:=(0,([]:List z2),0)) (z3i:=k) (zgy:=(⟨(⟨zB.1,zB.2.1⟩:z2),(⟨zB.2.2.1,zB.2.2.2⟩:z2)⟩:zSv)) (zmO:=W) (zgz:=p) (z3r:=y) (r:=c) w pz ?_ trivial ((au.mono<|Zle.left _ _).weak (fun _ _ h=>y3G (Zle.left _ _) h)) ((ao.mono<|Zle.left _ _).weak (fun _ _ h=>y3G (Zle.left _ _) h)) (ap.mono<|Zle.left _ _) (aq.mono<|Zle.left _ _) (av.mono<|Zle.left _ _) ((hw1.lent ((.cons .here .nil):Sel [y1N A,dfr aa,stb a 231 C] [y1N A] K) (B:=[stb a 231 C]) (fun _ hx'=>((.cons .h1 .nil):Sel _ [stb a 231 C] _).mem hx') (.head _) _).stb) aT<|hw1.owns ((.cons .here .nil):Sel [y1N A,dfr aa,stb a 231 C] [y1N A] K)) ?_
   ·skip
    refine ybn (LI:=(fun(g:Option Addr×Nat) (s:Nat×List z2×Int)=>[stb o 229 [(vs g.1 s.2.1.length g.2)],row (vs g.1 s.2.1.length g.2) 175 2 (s.2.1.flatMap yx),stb b 277 [(vi s.2.2)],stb X 175 [(vi 0),(vi 0)],stb V 231 E])) (pc:=(fun(s:Nat×List z2×Int)=>pcs [] s.1)) ar aR aS (fun _ _=>U) (by decide) ?_
    rintro ax _ ⟨aD,aE⟩ ⟨aU,ad,aF⟩ aV aW Fb wb aG _ hz
    replace hz:=hz.left
    letI:Rnd:=inR ab
    obtain⟨hp0,d⟩:=yo aG
    replace hp0:aU=0:=hp0;subst hp0;clear aG
    replace d:y35 W p ax ad aF=some (aV,aW):=d
    unfold y35 at d
    let I:Value:=(vs aD ad.length aE);let L:Value:=(.agg #[(vi ax.fN),(vi ax.fD)]);let R:Value:=(.bool (decide (aM≠0)));refine WC.restr (env':=[(1,(vp V)),(12,R),(5,(vp b)),(6,(vp o)),(17,L)]) (.r5 U U U U U) (WC.eqL (L':=[stb o 229 [I],row I 175 2 (ad.flatMap yx),stb b 277 [(vi aF)],stb X 175 [(vi 0),(vi 0)],stb V 231 E,blk ab (ag .ready none)]) U (Ld (Lg 7 (yu (cs:=[(vi 0),(vi 0)]) zX U) ?_)))
    intro aX _
    refine Lk U U (yl zy U U U .here U U U)<|WL.nil<|WX.ycl ar .h6<|WC.block<|WC.b ?_
    obtain⟨ah,aY,d⟩:=za d
    refine Ld<|Le 18 (ya ycq U U)<|Le 19 (yc zDj U<|yh .h6 U)<|Le 20 (yi zg U (yj .h1) U)<|Ll 21 (y2M (l:=[.tmp 5,.tmp 20]) call122 U<|.r2 U U) (.cons .h4 .nil) (cc hz (.cons .h4 .nil) fun w pz ho=>ydt aY w pz ao ap aq ho) (Lg 8 (yu (cs:=[(vi 0),(vi 0)]) zX U) fun aZ _=>Lk U U (yl zy U U U .here U U U)<|WL.nil<|Lb<|WC.b ?_)
    obtain⟨a0,aH,d⟩:=za d
    let P:Value:=(.bool (decide ((ad.length:Int)=0)));refine Lx (fun i=>[].contains i) [] U (Li 0 22 U (yc z8U U (yh .h4 U)) (Lf 1 23 U (fun _=>yJ underlying229 U) (Lf 2 24 U (fun _=>ycd U U) (Lf 3 25 U (fun _=>q_m U) (Ke (fuel':=0) [(1,(vp V)),(12,R),(5,(vp b)),(6,(vp o)),(17,L),(7,(vp aX)),(18,(.pointer (some ⟨V,5,none⟩))),(19,F),(20,L),(21,(.agg #[(vi ah.1.fN),(vi ah.1.fD)])),(8,(vp aZ)),(22,I),(23,(vi (ad.length:Int))),(24,P),(25,P),(32,(.bool a0))] (y2e 11 (dn 11)) ?_ (fun aI=>?_))))))
    rotate_left
    ·rcases Bool.eq_false_or_eq_true (decide ((ad.length:Int)=0)) with hb' | hb'
     ·have ay:=hb';clear hb'
      have az:=yr aH ay
      replace az:=oJ az
      refine L3 (i:=25) U ay<|Lp 4 26 U<|Lp 5 27 U<|Lp 6 28 U<|Lp 7 29 U<|Lp 8 30 U<|Lp 9 31 U<|Lf 10 32 U (fun _=>y4o U U)<|Ly (.a8) ?_ aI
      exact .r16 U U U U U U U U U U U U U U (zO<|Eq.symm ay)<|zO az
     ·have aA:=hb';clear hb'
      have ai:=ys aH aA
      obtain⟨am,ai⟩:=yo ai
      obtain⟨a6,a1,ai⟩:=za ai
      replace ai:=oJ ai
      refine L3 (i:=25) U aA<|Li 4 26 U (yi zg U (yj .here) U)<|Li 5 27 U (yc z8U U<|yh .h4 U)<|WD.know (fun w hw=>Hp.y2c .h5 hw (by intro hz';have:=am;rw[hz'] at this;omega)) ?_
      rintro⟨a4,rfl⟩
      refine Lf 6 28 U (fun _=>y11 z2r U U am.1 am.2 y3g)<|Li 7 29 U (yX (cs:=(yx<|nth ad 0)) zg U U<|y3Q .h5<|y2y (enc:=yx) (l:=ad) (i:=0) (sz:=2) (fun _=>U) am.1 am.2)<|L4 8 30 U (zb call129<|.r2 U U) (cc hz .nil fun w pz ho=>y4Z a1 w pz )<|Lf 9 31 U (fun _=>yfk U U)<|Lf 10 32 U (fun _=>y4p U U)<|Ly (.a8) ?_ aI
      exact .r16 U U U U U U U U U U U U U U (zO<|Eq.symm aA)<|zO ai
    refine WD.done (by kernel_rfl)<|Lb<|WC.cond U (fun aB=>?_)<|fun aB=>?_
    ·replace d:=yr d aB
     refine Ld<|Le 33 (yi zg U (yj .here) U) (Lg 34 (yT (cs:=([ah.1]:List z2).flatMap yx) z2r (Lo (l:=[.tmp 33]) (.cons U .nil) [0]) (fun _=>by kernel_rfl) U (by unfold maxLen;omega)) fun aJ _=>Lk U U (yl zsE U U U .h5 U U U)<|WL.nil<|Lq ?_)
     obtain⟨rfl,rfl⟩:=yaP d
     let M:Value:=(vs (some ⟨aJ,0,none⟩) (([ah.1]:List z2).length) 1);exact WX.y6W ar .h4 (fun w' hw'=>⟨((some ⟨aJ,0,none⟩),1),U,trivial,(hw'.selAll ((.s6 .h1 .h1 .h2 .h4 .h4 .here):Sel _ [stb o 229 [M],row M 175 2 (([ah.1]:List z2).flatMap yx),stb b 277 [(vi ah.2.fE)],stb X 175 [(vi 0),(vi 0)],stb V 231 E,blk ab (ag .ready none)] _)).sub (.cons .here .nil)⟩)
    ·replace d:=ys d aB
     refine WC.skip<|Lq ?_
     obtain⟨rfl,rfl⟩:=yaP d
     exact WX.y6W ar .h2<|fun w' hw'=>⟨(aD,aE),U,trivial,(hw'.selAll ((.s6 .h4 .h4 .h2 .h3 .h3 .here):Sel _ [stb o 229 [I],row I 175 2 (ad.flatMap yx),stb b 277 [(vi ah.2.fE)],stb X 175 [(vi 0),(vi 0)],stb V 231 E,blk ab (ag .ready none)] _)).sub (.cons .here .nil)⟩
   ·skip
    rintro _ w' ⟨⟨aK,aL⟩,rfl,_,hp⟩
    have hp1:=hw1.call ((.cons .here .nil):Sel [y1N A,dfr aa,stb a 231 C] [y1N A] K) hp
    let J:Value:=(vs aK c.2.1.length aL);have hp2:Hp _ _ w' [stb o 229 [J],row J 175 2 (c.2.1.flatMap yx),stb b 277 [(vi c.2.2)],stb X 175 [(vi 0),(vi 0)],stb V 231 E,blk ab (ag (rdy (pcs [] c.1)) (pcs [] c.1)),dfr aa,stb a 231 C]:=hp1.pickAll .here
    refine⟨_,pcs [] c.1,_,U,(hp2.sub ((.s8 .h5 .here .here .here .here .here .here .here):Sel _ [blk ab (ag (rdy (pcs [] c.1)) (pcs [] c.1)),stb o 229 [J],row J 175 2 (c.2.1.flatMap yx),stb b 277 [(vi c.2.2)],stb X 175 [(vi 0),(vi 0)],stb V 231 E,dfr aa,stb a 231 C] _)),?_⟩
    clear hp hp1 hp2 pz hw hw1
    refine wjN ?_
    letI:Rnd:=aft aa
    refine Lq ?_
    exact WX.midR (D:=fun(g:Nat×Int×List z2×Option Addr×Nat)=>g.1) (G:=Nat×Int×List z2×Option Addr×Nat) ⟨aa,c.2.2,c.2.1,aK,aL⟩ h (.r3 U U U)<|.s5 .h3 .h2 .here .here .h1
  ·rintro aj af Y ak al h
   replace h:=(aP af Y).symm.trans h
   letI:Rnd:=aft aj
   refine WC.b<|WC.b<|Ld<|Le 35 (ya y5u U U)<|Le 36 (yc y3t U<|yh .h1 U)<|La U<|WL.nil<|Lb<|WC.cond U (fun aC=>?_)<|fun aC=>?_
   ·replace h:=yr h aC
    refine WC.b<|Lx (fun i=>[3].contains i) [y8a b 277 [(0,(vi af))]] U<|Lf 0 38 U (fun _=>yN (v:=(.agg #[(vi 0),(vi 0)])) (Lo (l:=[]) .nil []) (fun _=>by kernel_rfl))<|Lf 1 39 U (fun _=>ya y5u U U)<|L6 2 40 U (Sin.wk (.cons .h1 .nil)<|.stb (.cons U .nil) .nil) (yc y3t U<|y62 .here<|.head _)<|WD.forced0 (i:=3) U (by kernel_rfl) U U U (Sin.wk (.cons .h1 .nil)<|.stb (.cons U .nil) .nil) (yl zy U U U .here U U U)<|Lf 4 3 U (fun _=>q_z U)<|WD.done (by kernel_rfl)<|Lb<|WC.ret<|Lj ?_
    obtain rfl:=oJ h
    refine WX.y7D .h4 results127 (.agg U zg U (yj .h1)<|.tmp U .nil)<|fun w hw=>?_
    exact⟨y1T U U,hw.sub .nil⟩
   ·replace h:=ys h aC
    refine WC.skip<|Lb<|WC.b ?_
    obtain⟨an,h⟩:=yo h
    refine Ld<|Le 41 (yc z8U U<|yh .h2 U)<|Kg (fun w hw=>Hp.y2c .h3 hw (by intro hz';have:=an;rw[hz'] at this;omega)) ?_
    rintro⟨a5,rfl⟩
    refine Le 42 (y11 z2r U U an.1 an.2 y3g)<|Le 43 (yX (cs:=(yx<|nth Y 0)) zg U U<|y3Q .h3<|y2y (enc:=yx) (l:=Y) (i:=0) (sz:=2) (fun _=>U) an.1 an.2)<|Lk U U (yl zy U U U .here U U U)<|La U<|WL.nil<|Lb<|WC.ret ?_
    obtain rfl:=oJ h
    refine WX.y7D .h4 results127 (.agg U zg U (yj .h1)<|.tmp U .nil)<|fun w hw=>?_
    exact⟨y1T U U,hw.sub .nil⟩
def y5O(a:List (List z6))(b:zSv):Option (z2×Int):=
 (y4t a b a b []).bind fun c=>some (c.1,c.2)
theorem yf0{Z:Zp}{r:z2×Int}(h:y5O k j=some r)(w₀:World)(hz:PZ [] w₀ Z)(a:ZS Z 1 (y29 Z) n m k):
  Calls Tryz.prog 81 #[(vs n k.length m),(.agg #[(vi j.fRate.fN),(vi j.fRate.fD),(vi j.fL.fN),(vi j.fL.fD)])] w₀ fun e w'=>e = .returned (.tuple #[(.agg #[(vi r.1.fN),(vi r.1.fD)]),(vi r.2)])/\Hp [] w₀ w' []:=by
 unfold y5O at h
 refine Lz func81 ntmps81 ?_
 let A:Value:=(vs n k.length m);refine WC.b (Ld (Lg 2 (yI (cs:=[A]) U U) ?_))
 intro b _
 refine Lg 3 (yI (cs:=[(vi j.fRate.fN),(vi j.fRate.fD),(vi j.fL.fN),(vi j.fL.fD)]) U U) fun c _=>Lg 4 (yu (cs:=[(vi 0),(vi 0)]) zX U) fun f _=>La U<|WL.nil<|Lb<|WC.b<|Ld<|Le 7 (yc z88 U<|yh .h2 U)<|Le 8 (yi zht U (yj .h1) U)<|Le 9 (yN (v:=(.agg #[A,(vi j.fRate.fN),(vi j.fRate.fD),(vi j.fL.fN),(vi j.fL.fD),.nilFunc,vn])) (Lo (l:=[.tmp 7,.tmp 8]) (.r2 U U) [0,1]) (fun _=>by kernel_rfl)) (Lg 6 (yu (cs:=[vn,(vi 0),(vi 0),(vi 0),(vi 0),.nilFunc,vn]) zDb U) fun g _=>Lk U U (yl zDc U U U .here U U U)<|WL.nil<|Lb<|WC.b<|Ld<|Le 10 (y15<|L2 (l:=[.tmp 2,.tmp 3])<|.r2 U U)<|Le 11 (ya ycq U U)<|Lk U U (y4L (ds:=[A,(vi j.fRate.fN),(vi j.fRate.fD),(vi j.fL.fN),(vi j.fL.fD),(.func (.func 122) #[] #[(vp b),(vp c)]),vn]) zDd U U U U U .here U U)<|WL.nil<|Lb<|WC.b ?_)
 obtain⟨i,d,h⟩:=za h
 refine Ld<|Le 12 (yi zhu U (yj .here) U)<|Ll 13 (zb call127<|.cons U .nil) .nil (ccl hz .nil (.s2 .h3 .h2) fun w pz ho la=>ybW d w pz ((a.mono<|Zle.left _ _).weak (fun _ _ h=>y3G (Zle.left _ _) h)) ((a.mono<|Zle.left _ _).weak (fun _ _ h=>y3G (Zle.left _ _) h)) ((la _ (.head _) _).stb) ((la _ (.tail _<|.head _) _).stb)<|ZS.nil _ _ _)<|La U<|La U<|Lk U U (yl zy U U U .h1 U U U)<|La U<|WL.nil<|Lb<|WC.ret ?_
 obtain rfl:=oJ h
 refine Lh results81 (.agg U zg U (yj .here)<|.tmp U .nil)<|fun w hw=>?_
 exact⟨y1T U U,hw.sub .nil⟩
def y23(b:List (List z6))(d:Int->Int->Int->Option Int):Nat->Int->Int->Int->Int->Option Int
 | 0,_,_,_,_=>none
 | i+1,a,e,f,g=>if decide (a<(b.length:Int)) then chk ((0:Int)<=a/\a<(b.length:Int)) ((y27 (nth b a)).bind fun h=>if decide (h.2≠0) then some h.2 else(y5d (nth b a)).bind fun j=>(y1c (⟨e⟩:z1A) (fun(y0:z2) (y1:z2)=>y1q y0 y1) (⟨f,g⟩:z2) j.1).bind fun c=>y23 b d i (i64 (a+1)) c.2.fE c.1.fN c.1.fD) else d e f g
def y3M(a:List (List z6))(b:zSv)(n:List (List z6))(o:zSv)(p:List z2):Option Int:=
 (if decide ((a.length:Int)>32) then some true else(y1i a (fun(y0:List z6)=>y1E y0)).bind fun e=>some e).bind fun f=>(if f then some true else(y56 b).bind fun g=>some (!g)).bind fun h=>if h then some 2 else(y38).bind fun c=>jp3 (fun(d:Int) (i:Int) (j:Int)=>(if decide (d=0) then(y1w (⟨i,j⟩:z2) b.fRate).bind fun k=>some (decide (k>0)) else some false).bind fun l=>if l then some 6 else some d) fun m=>y23 a m yy 0 0 c.fN c.fD
theorem yb0{Z:Zp}{r:Int}(h:y3M k j W p y=some r)(w₀:World)(hz:PZ [] w₀ Z)(M:ZS Z 1 (y29 Z) n m k)(aq:ZS Z 1 (y29 Z) S u W)(ar:ZC Z z [(vs S W.length u)])(au:ZC Z T [(vi p.fRate.fN),(vi p.fRate.fD),(vi p.fL.fN),(vi p.fL.fD)])(av:ZS Z 2 (fun r x=>r=yx x) q t y):
  Calls Tryz.prog 163 #[(.agg #[(vs n k.length m),(vi j.fRate.fN),(vi j.fRate.fD),(vi j.fL.fN),(vi j.fL.fD),(.func (.func 128) #[] #[(vq z),(vq T)]),(vs q y.length t)])] w₀ fun e w'=>e = .returned (vi r)/\Hp [] w₀ w' []:=by
 unfold y3M at h
 refine L5 func163 ntmps163 ?_
 let C:Value:=(vs n k.length m);let A:List Value:=[C,(vi j.fRate.fN),(vi j.fRate.fD),(vi j.fL.fN),(vi j.fL.fD),(.func (.func 128) #[] #[(vq z),(vq T)]),(vs q y.length t)];refine WC.b (Ld (Lg 1 (yI (cs:=A) U U) ?_))
 intro E _
 refine La U<|WL.nil<|Lb<|WC.b<|WC.b ?_
 obtain⟨X,N,h⟩:=za h
 obtain⟨Y,O,h⟩:=za h
 refine Ld<|Le 11 (ya y7H U U)<|Le 12 (yc z88 U<|yh .here U)<|Le 13 (yJ underlying171 U)<|La U<|La U<|Lu false 3 15 (B:=X) U U U U U U (fun h=>(oJ<|yr N h).symm) (fun _ aa=>?_) ?_
 ·skip
  have l:=ys N aa
  obtain⟨aE,ab,l⟩:=za l
  replace l:=oJ l
  refine Le 16 (ya y7H U U)<|Le 17 (yc z88 U<|yh .here U)<|Ll 18 (zb call196<|.r2 U U) .nil (cc hz .nil fun w pz ho=>y4J _ _ _ (zg9:=197) (zmf:=[]) _ (zg8:=(fun(y0:List z6)=>y1E y0)) _ ab w pz M call197<|fun w' hz' y0 ga0 gc0 r gh0 hr=>y7t hr w' hz' gh0)<|La U ?_
  exact Lv l U U .all
 refine La U<|Lu false 4 20 (B:=Y) U U U U U U (fun h=>(oJ<|yr O h).symm) (fun _ ad=>?_) ?_
 ·skip
  have o:=ys O ad
  obtain⟨aF,ae,o⟩:=za o
  replace o:=oJ o
  refine Le 21 (ya ycr U U)<|Le 22 (yX (cs:=[(vi j.fRate.fN),(vi j.fRate.fD),(vi j.fL.fN),(vi j.fL.fD)]) zht U U<|y3w (s:=4) .here U)<|Ll 23 (zb call198<|.cons U .nil) .nil (cc hz .nil fun w pz ho=>yaY ae w pz )<|La U<|La U ?_
  exact Lv o U U .all
 refine WL.nil<|Lb<|WC.cond U (fun H=>?_)<|fun H=>?_
 ·replace h:=yr h H
  refine WC.b<|Ld<|La U<|WL.nil<|Lb<|WC.ret<|Lj ?_
  obtain rfl:=oJ h
  refine Lh results163 (.tmp U .nil)<|fun w hw=>?_
  exact⟨yD U,hw.sub .nil⟩
 ·replace h:=ys h H
  refine WC.skip<|Lb<|WC.b<|Ld (Lg 3 (yu (cs:=[(vi 0)]) zoC U) fun F _=>WL.nil<|Lb<|WC.b ?_)
  obtain⟨P,af,h⟩:=za h
  refine Ld<|Ll 26 (zb call161 .nil) .nil (cc hz .nil fun w pz ho=>y4O af w pz ) (Lg 4 (yu (cs:=[(vi 0),(vi 0)]) zX U) fun G _=>Lk U U (yl zy U U U .here U U U)<|WL.nil<|Lb ?_)
  obtain⟨Q,ag,h⟩:=y9k h
  refine Kb (fun(f:Int) (g:Int) (i:Int)=>(Q f g i=some r)) (fun f g i=>[(1,(vp E)),(3,(vp F)),(4,(vp G))]) (fun f g i=>[stb E 231 A,stb F 277 [(vi f)],stb G 175 [(vi g),(vi i)]]) ?_ ?_
  ·skip
   refine WC.b<|Ld<|Le 27 (ya y7H U U)<|Le 28 (yc z88 U<|yh .h2 U)<|Le 29 (yJ underlying171 U)<|La U<|WL.nil<|Lb<|WC.block<|WC.y7B (fun(v:Nat) (a:Int) (b:Int) (c:Int) (d:Int)=>(y23 k Q v a b c d=some r)) (fun v a b c d=>[(1,(vp E)),(3,(vp F)),(4,(vp G)),(28,C),(29,(vi (k.length:Int))),(30,(vi a))]) (fun v a b c d=>[stb E 231 A,stb F 277 [(vi b)],stb G 175 [(vi c),(vi d)]]) (fun v a b c d=>v) ⟨yy,0,0,P.fN,P.fD⟩ h (.r6 U U U U U U) (.s3 .h2 .h1 .here) ?_
   rintro(_|ah) a b c d h;·cases h
   rw[y23] at h
   refine WC.b<|Ld<|La U<|WL.nil<|Lb<|WC.b<|WC.cond U (fun I=>?_)<|fun I=>?_
   ·replace h:=yr h I
    refine WC.skip<|Lb<|WC.b<|WC.block<|WC.b ?_
    obtain⟨ai,h⟩:=yo h
    refine Ld<|L0 (dd:=32) U U (Z:=Z) (Pr:=(y29 Z)) z8T U U M ai ?_
    rintro aw ax aj ay ⟨az,aA,rfl,R⟩
    refine Le 33 (yc zda U<|y3x hz.pv aj U)<|La U<|WL.nil<|Lb<|WC.b<|WC.b ?_
    obtain⟨aG,ak,h⟩:=za h
    refine Ld<|La U<|WL.y43 (dd:=36) U U U (zb call199<|.cons U .nil) .nil (cc hz .nil fun w pz ho=>y83 ak w pz R) ?_
    rintro aB aC _
    refine La U<|La U<|La U<|La U<|La U<|WL.nil<|Lb<|WC.b<|Ld<|La U<|La U<|WL.nil<|Lb<|WC.cond U (fun J=>?_)<|fun J=>?_
    ·replace h:=yr h J
     refine WC.b<|Ld<|La U<|La U<|WL.nil<|Lb<|WC.ret<|Lj<|Lt<|Lj<|Lj<|Lt<|Lj ?_
     obtain rfl:=oJ h
     refine Lh results163 (.tmp U .nil)<|fun w hw=>?_
     exact⟨yD U,hw.sub .nil⟩
    ·replace h:=ys h J
     refine WC.skip<|Lb<|WC.b ?_
     obtain⟨aH,al,h⟩:=za h
     refine Ld<|La U<|Ll 44 (zb call200<|.cons U .nil) .nil (cc hz .nil fun w pz ho=>ydq al w pz R)<|La U<|La U<|La U (Lg 9 (yu (cs:=[(vi 0),(vi 0)]) zX U) fun aD _=>Lk U U (yl zy U U U .here U U U)<|La U<|WL.nil<|Lb ?_)
     obtain⟨K,am,h⟩:=za h
     refine Ld<|Le 47 (yi zg U (yj .h4) U)<|Le 48 (yi zg U (yj .here) U)<|Ll 49 (zb call123<|.r4 U U U U) (.cons .h3 .nil) (cc hz (.cons .h3 .nil) fun w pz ho=>y2R _ _ (z7f:=119) (z8m:=[]) _ (z7P:=(fun(y0:z2) (y1:z2)=>y1q y0 y1)) _ _ _ am w pz call119 (fun w' hz' y0 y1  r  hr=>y6U hr w' hz' ) ho)<|Lk U U (yl zy U U U .h4 U U U)<|WL.nil<|Lq<|Lb<|Ld<|La U<|La U<|WL.nil ?_
     exact WX.round ⟨ah,(i64 (a+1)),K.2.fE,K.1.fN,K.1.fD⟩ h (Nat.lt_succ_self _) (.r6 U U U U U U)<|.s3 .h4 .h1 .here
   ·replace h:=ys h I
    refine WC.exit<|Lm<|Lm<|Lw ?_
    exact Ln ⟨b,c,d⟩ h (.r3 U U U)<|.a3
  ·rintro f g i h
   replace h:=(ag f g i).symm.trans h
   refine WC.b<|WC.b ?_
   obtain⟨an,V,h⟩:=za h
   refine Ld<|Le 51 (ya y5u U U)<|Le 52 (yc y3t U<|yh .h1 U)<|La U<|La U<|Lu true 6 54 (B:=an) U U U U U U (fun h=>(oJ<|ys V h).symm) (fun _ ao=>?_) ?_
   ·skip
    have D:=yr V ao
    obtain⟨aI,ap,D⟩:=za D
    replace D:=oJ D
    refine Le 55 (yi zg U (yj .h2) U)<|Le 56 (ya ycr U U)<|Le 57 (ya y9v U U)<|Le 58 (yX (cs:=[(vi j.fRate.fN),(vi j.fRate.fD)]) zg U U<|y3w (s:=2) .here U)<|Ll 59 (zb call129<|.r2 U U) .nil (cc hz .nil fun w pz ho=>y4Z ap w pz )<|La U<|La U ?_
    exact Lv D U U .all
   refine WL.nil<|Lb<|WC.cond U (fun L=>?_)<|fun L=>?_
   ·replace h:=yr h L
    refine WC.b<|Ld<|La U<|WL.nil<|Lb<|WC.ret<|Lj ?_
    obtain rfl:=oJ h
    refine Lh results163 (.tmp U .nil)<|fun w hw=>?_
    exact⟨yD U,hw.sub .nil⟩
   ·replace h:=ys h L
    refine WC.skip<|Lb<|WC.b<|Ld<|Le 62 (ya y5u U U)<|Le 63 (yc y3t U<|yh .h1 U)<|La U<|WL.nil<|Lb<|WC.ret ?_
    obtain rfl:=oJ h
    refine Lh results163 (.tmp U .nil)<|fun w hw=>?_
    exact⟨yD U,hw.sub .nil⟩
def y4C(b:List (List z6))(a:zSv)(c:List (List z6))(d:zSv)(e:List z2):Option (Int×Int×Int×Int):=
 some (a.fRate.fN,a.fRate.fD,a.fL.fN,a.fL.fD)
theorem yaz{Z:Zp}{r:Int×Int×Int×Int}(h:y4C k j W p y=some r)(w₀:World)(hz:PZ [] w₀ Z)(c:ZS Z 1 (y29 Z) n m k)(d:ZS Z 1 (y29 Z) S u W)(f:ZC Z z [(vs S W.length u)])(g:ZC Z T [(vi p.fRate.fN),(vi p.fRate.fD),(vi p.fL.fN),(vi p.fL.fD)])(i:ZS Z 2 (fun r x=>r=yx x) q t y):
  Calls Tryz.prog 164 #[(.agg #[(vs n k.length m),(vi j.fRate.fN),(vi j.fRate.fD),(vi j.fL.fN),(vi j.fL.fD),(.func (.func 128) #[] #[(vq z),(vq T)]),(vs q y.length t)])] w₀ fun e w'=>∃ a:Nat,e = .returned (.func (.func 201) #[] #[(vp a)])/\True/\Hp [] w₀ w' [stb a 231 [(vs n k.length m),(vi r.1),(vi r.2.1),(vi r.2.2.1),(vi r.2.2.2),(.func (.func 128) #[] #[(vq z),(vq T)]),(vs q y.length t)]]:=by
 unfold y4C at h
 refine L5 func164 ntmps164 ?_
 refine WC.b<|Ld (Lg 1 (yI (cs:=[(vs n k.length m),(vi j.fRate.fN),(vi j.fRate.fD),(vi j.fL.fN),(vi j.fL.fD),(.func (.func 128) #[] #[(vq z),(vq T)]),(vs q y.length t)]) U U) fun b _=>La U<|WL.nil<|Lb<|WC.b<|Ld<|Le 3 (y15<|L2 (l:=[.tmp 1])<|.cons U .nil)<|La U<|WL.nil<|Lb<|WC.ret ?_)
 obtain rfl:=oJ h
 refine Lh results164 (.tmp U .nil)<|fun w hw=>?_
 exact⟨b,yD U,trivial,hw.sub (.cons .here .nil)⟩
def y1J(zx:Type)(b:List z2×Int)(z2C:z2->zx->Option (Bool×zx))(e:zx->Option zx):Nat->Int->zx->Option zx
 | 0,_,_=>none
 | h+1,a,f=>if decide (a<(b.1.length:Int)) then chk ((0:Int)<=a/\a<(b.1.length:Int)) ((y1S (⟨((nth b.1 a).fN),((nth b.1 a).fD)⟩:z2)).bind fun i=>(y1y i).bind fun j=>(z2C j f).bind fun c=>(if !c.1 then some (true,c.2) else(y2S (⟨((nth b.1 a).fN),((nth b.1 a).fD)⟩:z2)).bind fun k=>(y1y k).bind fun l=>(z2C l c.2).bind fun g=>some (!g.1,g.2)).bind fun d=>if d.1 then some d.2 else y1J zx b z2C e h (i64 (a+1)) d.2) else e f
theorem y84{n:Nat}{a:List z2×Int}{z2C:z2->g->Option (Bool×g)}{b:g->Option g}{c:g}{r:g}(h:y1J g a z2C b n aa c=some r):∃ m,n=m+1:=by
 cases n with
 | zero=>cases h
 | succ m=>exact⟨m,rfl⟩
def y1K(zx:Type)(z3j:List (List z6))(z2C:z2->zx->Option (Bool×zx))(b:zx->Option zx):Nat->Int->zx->Option zx
 | 0,_,_=>none
 | d+1,a,c=>if decide (a<(z3j.length:Int)) then jp1 (fun(e:zx)=>y1K zx z3j z2C b d (i64 (a+1)) e) fun f=>chk ((0:Int)<=a/\a<(z3j.length:Int)) ((y27 (nth z3j a)).bind fun g=>jp1 (fun(h:zx)=>f h) fun i=>y1J zx g z2C i yy 0 c) else b c
theorem y85{n:Nat}{z2C:z2->g->Option (Bool×g)}{a:g->Option g}{b:g}{r:g}(h:y1K g k z2C a n aa b=some r):∃ m,n=m+1:=by
 cases n with
 | zero=>cases h
 | succ m=>exact⟨m,rfl⟩
def y1L(zx:Type)(z3u:List z2)(z2C:z2->zx->Option (Bool×zx))(d:zx->Option zx):Nat->Int->zx->Option zx
 | 0,_,_=>none
 | g+1,a,e=>if decide (a<(z3u.length:Int)) then chk ((0:Int)<=a/\a<(z3u.length:Int)) ((y1S (⟨((nth z3u a).fN),((nth z3u a).fD)⟩:z2)).bind fun h=>(y1y h).bind fun i=>(z2C i e).bind fun b=>(if !b.1 then some (true,b.2) else(y2S (⟨((nth z3u a).fN),((nth z3u a).fD)⟩:z2)).bind fun j=>(y1y j).bind fun k=>(z2C k b.2).bind fun f=>some (!f.1,f.2)).bind fun c=>if c.1 then some c.2 else y1L zx z3u z2C d g (i64 (a+1)) c.2) else d e
theorem y86{n:Nat}{z2C:z2->g->Option (Bool×g)}{a:g->Option g}{b:g}{r:g}(h:y1L g y z2C a n aa b=some r):∃ m,n=m+1:=by
 cases n with
 | zero=>cases h
 | succ m=>exact⟨m,rfl⟩
def y3b(zx:Type)(z2C:z2->zx->Option (Bool×zx))(z8w:zx)(z3j:List (List z6))(zgM:zSv)(znj:List (List z6))(zgN:zSv)(z3u:List z2):Option zx:=
 (y38).bind fun b=>(z2C b z8w).bind fun a=>if !a.1 then some a.2 else jp1 (fun(c:zx)=>jp1 (fun(d:zx)=>some d) fun e=>y1L zx z3u z2C e yy 0 c) fun f=>y1K zx z3j z2C f yy 0 a.2
theorem ya3(Z:Zp)(zx:Type)(z9r:Nat)(z4J:Type)(z2X:z4J->zx->Asrt)(z7W:z4J->zx->Prop)(zcu:z4J)(zcv:Addr)(zeI:Option Addr)(zeJ:Nat)(zzs:Addr)(zzt:Option Addr)(zzu:Nat)(zzv:Addr)(znk:Option Addr)(znl:Nat)(z2C:z2->zx->Option (Bool×zx))(z8w:zx)(z3j:List (List z6))(zgM:zSv)(znj:List (List z6))(zgN:zSv)(z3u:List z2)(r:zx)(w₀:World)(hz:PZ (fps [z2X zcu z8w]) w₀ Z)(W:ybM Tryz.prog Z z9r (α:=z2) (σ:=zx) (G:=z4J) (H:=Unit) (fun h x=>[(.agg #[(vi x.fN),(vi x.fD)])]) (fun h x=>[]) z2C z2X z7W)(aM:z7W zcu z8w)(aN:ZS Z 1 (y29 Z) zeI zeJ z3j)(bz:ZS Z 1 (y29 Z) zzt zzu znj)(bA:ZC Z zzs [(vs zzt znj.length zzu)])(bB:ZC Z zzv [(vi zgN.fRate.fN),(vi zgN.fRate.fD),(vi zgN.fL.fN),(vi zgN.fL.fD)])(aO:ZS Z 2 (fun r x=>r=yx x) znk znl z3u)(an:ZC Z zcv [(vs zeI z3j.length zeJ),(vi zgM.fRate.fN),(vi zgM.fRate.fD),(vi zgM.fL.fN),(vi zgM.fL.fD),(.func (.func 128) #[] #[(vq zzs),(vq zzv)]),(vs znk z3u.length znl)])(h:y3b zx z2C z8w z3j zgM znj zgN z3u=some r)(hown:Hp (fps [z2X zcu z8w]) w₀ w₀ [z2X zcu z8w]):
  Calls Tryz.prog 201 #[(.func (.yield z9r) #[] #[]),(vq zcv)] w₀ fun e w'=>∃ ao:z4J,e = .returned (.tuple #[])/\(z7W ao r)/\Hp (fps [z2X zcu z8w]) w₀ w' [z2X ao r]:=by
 unfold y3b at h
 refine Kf func201 ntmps201 hown ?_
 refine WC.b<|WC.b ?_
 obtain⟨aP,aQ,h⟩:=za h
 obtain⟨ae,aR,h⟩:=za h
 refine Ld<|La U<|Ll 12 (zb call161 .nil) .nil (cc hz .nil fun w pz ho=>y4O aQ w pz ) (WL.yield (dd:=13) (x:=aP) (h:=()) (g:=zcu) (s:=z8w) (b:=ae.1) (s':=ae.2) W U U U (.cons U .nil) ((.cons .here .nil):Sel _ [z2X zcu z8w] _) aR aM (fun w hw=>hz.call hw ((.cons .here .nil):Sel _ [z2X zcu z8w] _)) fun ap aq=>La U<|WL.nil<|Lb<|WC.cond U (fun af=>?_)<|fun af=>?_)
 ·replace h:=yr h af
  refine WC.ret<|Lj ?_
  obtain rfl:=oJ h
  refine Lh results201 .nil<|fun w hw=>?_
  exact⟨ap,y7A,aq,hw.sub (.cons .here .nil)⟩
 ·replace h:=ys h af
  refine WC.skip<|Lb ?_
  obtain⟨ar,aS,h⟩:=y13 h
  let A:Value:=(.func (.yield z9r) #[] #[]);refine WC.y59 (fun(t:zx) (M:z4J)=>(ar t=some r)/\(z7W M t)) (fun t M=>[(0,A),(1,(vq zcv))]) (fun t M=>[z2X M t]) ?_ ?_
  ·skip
   let C:Value:=(vs zeI z3j.length zeJ);let D:Value:=(vi (z3j.length:Int));refine WC.b (Ld (Le 15 (ya y7H U U) (Le 16 (yc z88 U (y1b hz.pv an U)) (Le 17 (yJ underlying171 U) (La U (WL.nil (Lb (WC.block (WC.y5s (fun(N:Nat) (c:Int) (o:zx) (u:z4J)=>(y1K zx z3j z2C ar N c o=some r)/\(z7W u o)) (fun N c o u=>[(0,A),(1,(vq zcv)),(16,C),(17,D),(18,(vi c))]) (fun N c o u=>[z2X u o]) (fun N c o u=>N) ⟨yy,0,ae.2,ap⟩ ⟨h,aq⟩ (.r5 U U U U U) (.cons .here .nil) ?_)))))))))
   rintro N c o u ⟨h,au⟩
   obtain⟨aT,rfl⟩:=y85 h
   rw[y1K] at h
   refine WC.b<|Ld<|La U<|WL.nil<|Lb<|WC.b<|WC.cond U (fun ag=>?_)<|fun ag=>?_
   ·replace h:=yr h ag
    refine WC.skip<|Lb ?_
    obtain⟨aU,aV,h⟩:=y13 h
    refine WC.y59 (fun(v:zx) (O:z4J)=>(aU v=some r)/\(z7W O v)) (fun v O=>[(0,A),(1,(vq zcv)),(16,C),(17,D),(18,(vi c))]) (fun v O=>[z2X O v]) ?_ ?_
    ·skip
     refine WC.block<|WC.b ?_
     obtain⟨aW,h⟩:=yo h
     refine Ld<|L0 (dd:=20) U U (Z:=Z) (Pr:=(y29 Z)) z8T U U aN aW ?_
     rintro bC bD aX bE ⟨bF,bG,rfl,aY⟩
     refine Le 21 (yc zda U<|y3x hz.pv aX U)<|La U<|WL.nil<|Lb<|WC.b ?_
     obtain⟨j,aZ,h⟩:=za h
     refine Ld<|La U<|WL.y43 (dd:=24) U U U (zb call199<|.cons U .nil) .nil (cc hz .nil fun w pz ho=>y83 aZ w pz aY) ?_
     rintro a0 av _
     refine La U<|La U<|La U<|La U<|La U<|WL.nil<|Lb<|WC.b<|Ld<|La U<|Le 28 (yJ underlying229 U)<|La U<|WL.nil<|Lb ?_
     obtain⟨aw,a1,h⟩:=y13 h
     refine WC.y9m (fun(y:zx) (P:z4J)=>(aw y=some r)/\(z7W P y)) (fun y P=>[(0,A),(1,(vq zcv)),(16,C),(17,D),(18,(vi c))]) (fun y P=>[z2X P y]) ?_ ?_
     ·skip
      let F:=(j.1.length:Int);let I:Value:=(vs a0 j.1.length av);refine WC.block (WC.y5s (fun(Q:Nat) (a:Int) (d:zx) (k:z4J)=>(y1J zx j z2C aw Q a d=some r)/\(z7W k d)) (fun Q a d k=>[(0,A),(1,(vq zcv)),(16,C),(17,D),(18,(vi c)),(27,I),(28,(vi F)),(29,(vi a))]) (fun Q a d k=>[row I 175 2 (j.1.flatMap yx),z2X k d]) (fun Q a d k=>Q) ⟨yy,0,o,u⟩ ⟨h,au⟩ (.r8 U U U U U U U U) (.a2) ?_)
      rintro Q a d k ⟨h,ax⟩
      obtain⟨a2,rfl⟩:=y84 h
      rw[y1J] at h
      refine WC.b<|Ld<|La U<|WL.nil<|Lb<|WC.b<|WC.cond U (fun ah=>?_)<|fun ah=>?_
      ·replace h:=yr h ah
       refine WC.skip<|Lb<|WC.b<|WC.block<|WC.b ?_
       obtain⟨X,h⟩:=yo h
       refine Ld<|Kg (fun w hw=>Hp.y2c .here hw (by intro hz';have:=X;rw[hz'] at this;omega)) ?_
       rintro⟨a3,rfl⟩
       refine Le 31 (y11 z2r U U X.1 X.2 y3g)<|Le 32 (yX (cs:=(yx<|nth j.1 a)) zg U U<|y3Q .here<|y2y (enc:=yx) (l:=j.1) (i:=a) (sz:=2) (fun _=>U) X.1 X.2) (Lg 8 (yu (cs:=[(vi 0),(vi 0)]) zX U) fun a4 _=>Lk U U (yl zy U U U .here U U U)<|WL.nil<|Lb<|WC.b ?_)
       obtain⟨bK,a5,h⟩:=za h
       obtain⟨a6,a7,h⟩:=za h
       obtain⟨R,a8,h⟩:=za h
       obtain⟨Y,ay,h⟩:=za h
       refine Ld<|La U<|Le 34 (yi zg U (yj .here) U)<|Ll 35 (zb call83<|.cons U .nil) .nil (cc hz .nil fun w pz ho=>y6r a5 w pz )<|Ll 36 (zb call191<|.cons U .nil) .nil (cc hz .nil fun w pz ho=>y3f a7 w pz )<|WL.yield (dd:=37) (x:=a6) (h:=()) (g:=k) (s:=d) (b:=R.1) (s':=R.2) W U U U (.cons U .nil) ((.cons .h2 .nil):Sel _ [z2X k d] _) a8 ax (fun w hw=>hz.call hw ((.cons .h2 .nil):Sel _ [z2X k d] _)) ?_
       intro aa az
       let E:Value:=(vs (some ⟨a3,0,none⟩) j.1.length av);refine La U (La U (WL.ydW (fun(z:z4J)=>z7W z Y.2) (fun(z:z4J)=>[(0,A),(1,(vq zcv)),(16,C),(17,D),(18,(vi c)),(27,E),(28,(vi F)),(29,(vi a)),(46,(.bool Y.1))]) (fun(z:z4J)=>[z2X z Y.2,stb a4 175 [(vi ((nth j.1 a).fN)),(vi ((nth j.1 a).fD))],row E 175 2 (j.1.flatMap yx)]) 7 ?_ (fun z aA=>?_)))
       ·rcases Bool.eq_false_or_eq_true (!R.1) with hb' | hb'
        ·have aB:=hb';clear hb'
         have ai:=yr ay aB
         replace ai:=oJ ai
         refine WL.pin (i:=39) U aB<|WL.e U U U<|WL.e U U U<|WL.e U U U<|WL.e U U U<|WL.e U U U<|WL.e U U U<|La U ?_
         subst ai
         exact WL.y6S aa az (.r9 U U U U U U U U U)<|.a3
        ·have aC:=hb';clear hb'
         have p:=ys ay aC
         obtain⟨bL,a9,p⟩:=za p
         obtain⟨ba,bb,p⟩:=za p
         obtain⟨aD,bc,p⟩:=za p
         replace p:=oJ p
         refine WL.pin (i:=39) U aC<|La U<|Le 41 (yi zg U (yj .h1) U)<|Ll 42 (zb call202<|.cons U .nil) .nil (cc hz .nil fun w pz ho=>yay a9 w pz )<|Ll 43 (zb call191<|.cons U .nil) .nil (cc hz .nil fun w pz ho=>y3f bb w pz ) (WL.yield (dd:=44) (x:=ba) (h:=()) (g:=aa) (s:=R.2) (b:=aD.1) (s':=aD.2) W U U U (.cons U .nil) ((.cons .here .nil):Sel _ [z2X aa R.2] _) bc az (fun w hw=>hz.call hw ((.cons .here .nil):Sel _ [z2X aa R.2] _)) fun bd be=>La U<|La U ?_)
         subst p
         exact WL.y6S bd be (.r9 U U U U U U U U U)<|.a3
       ·skip
        refine WL.nil<|Lb<|WC.cond U (fun aj=>?_)<|fun aj=>?_
        ·replace h:=yr h aj
         refine WC.ret<|Lt<|Lj<|Lj<|Lt<|Lj<|Lt<|Lj<|Lj<|Lt<|Lj ?_
         obtain rfl:=oJ h
         refine Lh results201 .nil<|fun w hw=>?_
         exact⟨z,y7A,aA,hw.sub (.cons .here .nil)⟩
        ·replace h:=ys h aj
         refine WC.skip<|Lq<|Lb<|Ld<|La U<|La U<|WL.nil ?_
         exact WX.round ⟨a2,(i64 (a+1)),Y.2,z⟩ ⟨h,aA⟩ (Nat.lt_succ_self _) (.r8 U U U U U U U U)<|.s2 .h2 .here
      ·replace h:=ys h ah
       refine WC.exit<|Lm<|Lm<|Lw ?_
       exact Ln ⟨d,k⟩ ⟨h,ax⟩ (.r5 U U U U U)<|.cons .h1 .nil
     ·rintro y P ⟨h,bf⟩
      replace h:=(a1 y).symm.trans h
      refine Lq ?_
      exact Ln ⟨y,P⟩ ⟨h,bf⟩ (.r5 U U U U U)<|.cons .here .nil
    ·rintro v O ⟨h,bg⟩
     replace h:=(aV v).symm.trans h
     refine Ld<|La U<|La U<|WL.nil ?_
     exact WX.round ⟨aT,(i64 (c+1)),v,O⟩ ⟨h,bg⟩ (Nat.lt_succ_self _) (.r5 U U U U U)<|.cons .here .nil
   ·replace h:=ys h ag
    refine WC.exit<|Lm<|Lm<|Lw ?_
    exact Ln ⟨o,u⟩ ⟨h,au⟩ (.r2 U U)<|.cons .here .nil
  ·rintro t M ⟨h,bh⟩
   replace h:=(aS t).symm.trans h
   refine WC.b<|Ld<|Le 49 (ya yhD U U)<|Le 50 (yc z8U U<|y1b hz.pv an U)<|Le 51 (yJ underlying229 U)<|La U<|WL.nil<|Lb ?_
   obtain⟨aE,bi,h⟩:=y13 h
   refine WC.y9m (fun(B:zx) (S:z4J)=>(aE B=some r)/\(z7W S B)) (fun B S=>[]) (fun B S=>[z2X S B]) ?_ ?_
   ·skip
    let J:Value:=(vs znk z3u.length znl);let K:Value:=(vi (z3u.length:Int));refine WC.block (WC.y5s (fun(T:Nat) (m:Int) (f:zx) (n:z4J)=>(y1L zx z3u z2C aE T m f=some r)/\(z7W n f)) (fun T m f n=>[(0,A),(50,J),(51,K),(52,(vi m))]) (fun T m f n=>[z2X n f]) (fun T m f n=>T) ⟨yy,0,t,M⟩ ⟨h,bh⟩ (.r4 U U U U) (.cons .here .nil) ?_)
    rintro T m f n ⟨h,aF⟩
    obtain⟨bj,rfl⟩:=y86 h
    rw[y1L] at h
    refine WC.b<|Ld<|La U<|WL.nil<|Lb<|WC.b<|WC.cond U (fun ak=>?_)<|fun ak=>?_
    ·replace h:=yr h ak
     refine WC.skip<|Lb<|WC.b<|WC.block<|WC.b ?_
     obtain⟨bk,h⟩:=yo h
     refine Ld<|L0 (dd:=54) U U (Z:=Z) (Pr:=(fun r x=>r=yx x)) z2r U U aO bk ?_
     rintro bH bI bl bJ rfl
     refine Le 55 (yi zg U (y2j hz.pv bl) U) (Lg 10 (yu (cs:=[(vi 0),(vi 0)]) zX U) fun bm _=>Lk U U (yl zy U U U .here U U U)<|WL.nil<|Lb<|WC.b ?_)
     obtain⟨bM,bn,h⟩:=za h
     obtain⟨bo,bp,h⟩:=za h
     obtain⟨V,bq,h⟩:=za h
     obtain⟨ab,aG,h⟩:=za h
     refine Ld<|La U<|Le 57 (yi zg U (yj .here) U)<|Ll 58 (zb call83<|.cons U .nil) .nil (cc hz .nil fun w pz ho=>y6r bn w pz )<|Ll 59 (zb call191<|.cons U .nil) .nil (cc hz .nil fun w pz ho=>y3f bp w pz ) (WL.yield (dd:=60) (x:=bo) (h:=()) (g:=n) (s:=f) (b:=V.1) (s':=V.2) W U U U (.cons U .nil) ((.cons .h1 .nil):Sel _ [z2X n f] _) bq aF (fun w hw=>hz.call hw ((.cons .h1 .nil):Sel _ [z2X n f] _)) fun ad aH=>La U<|La U<|WL.ydW (fun(L:z4J)=>z7W L ab.2) (fun(L:z4J)=>[(0,A),(50,J),(51,K),(52,(vi m)),(69,(.bool ab.1))]) (fun(L:z4J)=>[z2X L ab.2,stb bm 175 [(vi<|(nth z3u m).fN),(vi<|(nth z3u m).fD)]]) 7 ?_<|fun L aI=>?_)
     ·rcases Bool.eq_false_or_eq_true (!V.1) with hb' | hb'
      ·have aJ:=hb';clear hb'
       have al:=yr aG aJ
       replace al:=oJ al
       refine WL.pin (i:=62) U aJ<|WL.e U U U<|WL.e U U U<|WL.e U U U<|WL.e U U U<|WL.e U U U<|WL.e U U U<|La U ?_
       subst al
       exact WL.y6S ad aH (.r5 U U U U U)<|.a2
      ·have aK:=hb';clear hb'
       have q:=ys aG aK
       obtain⟨bN,br,q⟩:=za q
       obtain⟨bs,bt,q⟩:=za q
       obtain⟨aL,bu,q⟩:=za q
       replace q:=oJ q
       refine WL.pin (i:=62) U aK<|La U<|Le 64 (yi zg U (yj .h1) U)<|Ll 65 (zb call202<|.cons U .nil) .nil (cc hz .nil fun w pz ho=>yay br w pz )<|Ll 66 (zb call191<|.cons U .nil) .nil (cc hz .nil fun w pz ho=>y3f bt w pz ) (WL.yield (dd:=67) (x:=bs) (h:=()) (g:=ad) (s:=V.2) (b:=aL.1) (s':=aL.2) W U U U (.cons U .nil) ((.cons .here .nil):Sel _ [z2X ad V.2] _) bu aH (fun w hw=>hz.call hw ((.cons .here .nil):Sel _ [z2X ad V.2] _)) fun bv bw=>La U<|La U ?_)
       subst q
       exact WL.y6S bv bw (.r5 U U U U U)<|.a2
     ·skip
      refine WL.nil<|Lb<|WC.cond U (fun am=>?_)<|fun am=>?_
      ·replace h:=yr h am
       refine WC.ret<|Lt<|Lj<|Lj<|Lt<|Lj ?_
       obtain rfl:=oJ h
       refine Lh results201 .nil<|fun w hw=>?_
       exact⟨L,y7A,aI,hw.sub (.cons .here .nil)⟩
      ·replace h:=ys h am
       refine WC.skip<|Lq<|Lb<|Ld<|La U<|La U<|WL.nil ?_
       exact WX.round ⟨bj,(i64 (m+1)),ab.2,L⟩ ⟨h,aI⟩ (Nat.lt_succ_self _) (.r4 U U U U)<|.cons .here .nil
    ·replace h:=ys h ak
     refine WC.exit<|Lm<|Lm<|Lw ?_
     exact Ln ⟨f,n⟩ ⟨h,aF⟩ .nil<|.cons .here .nil
   ·rintro B S ⟨h,bx⟩
    replace h:=(bi B).symm.trans h
    obtain rfl:=oJ h
    refine WX.y58 results201 .nil<|fun w hw=>?_
    exact⟨S,y7A,bx,hw.sub (.cons .here .nil)⟩
def y4R(g:z1A)(b:z2)(h:List (List z6))(c:zSv):Option (z2×z1A):=
 (y3u g h b).bind fun a=>(y1w b c.fL).bind fun i=>if decide (i<=0) then some (a.1,a.2) else(y1c a.2 (fun(y0:z2) (y1:z2)=>y2z y0 y1) b c.fL).bind fun d=>(y1c d.2 (fun(y0:z2) (y1:z2)=>y3J y0 y1) c.fRate d.1).bind fun e=>(y1c e.2 (fun(y0:z2) (y1:z2)=>y2z y0 y1) a.1 e.1).bind fun f=>some (f.1,f.2)
theorem ycu{Z:Zp}{a:z1A}{b:z2}{r:z2×z1A}(h:y4R a b k j=some r)(w₀:World)(hz:PZ (fps [stb m 277 [(vi a.fE)]]) w₀ Z)(g:ZS Z 1 (y29 Z) n u k)(l:ZC Z z [(vs n k.length u)])(c:ZC Z T [(vi j.fRate.fN),(vi j.fRate.fD),(vi j.fL.fN),(vi j.fL.fD)])(hown:Hp (fps [stb m 277 [(vi a.fE)]]) w₀ w₀ [stb m 277 [(vi a.fE)]]):
  Calls Tryz.prog 128 #[(vp m),(.agg #[(vi b.fN),(vi b.fD)]),(vq z),(vq T)] w₀ fun e w'=>e = .returned (.agg #[(vi r.1.fN),(vi r.1.fD)])/\Hp (fps [stb m 277 [(vi a.fE)]]) w₀ w' [stb m 277 [(vi r.2.fE)]]:=by
 unfold y4R at h
 refine Calls.oh4 func128 ntmps128 hown ?_
 refine WC.b<|Ld (Lg 5 (yI (cs:=[(vi b.fN),(vi b.fD)]) U U) fun y _=>Lg 6 (yu (cs:=[(vi 0),(vi 0)]) zX U) fun B _=>WL.nil<|Lb<|WC.b ?_)
 obtain⟨f,o,h⟩:=za h
 refine Ld<|La U<|Le 9 (yc z88 U<|y3x hz.pv l U)<|Le 10 (yi zg U (yj .h1) U)<|Ll 11 (zb call126<|.r3 U U U) (.cons .h2 .nil) (cc hz (.cons .h2 .nil) fun w pz ho=>y8I o w pz g ho) (Lg 7 (yu (cs:=[(vi 0),(vi 0)]) zX U) fun p _=>Lk U U (yl zy U U U .here U U U)<|WL.nil<|Lb<|WC.b<|WC.b ?_)
 obtain⟨C,q,h⟩:=za h
 let A:List Value:=[(vi j.fL.fN),(vi j.fL.fD)];refine Ld (Le 12 (yi zg U (yj .h3) U) (Le 13 (ya y9w U U) (Le 14 (yX (cs:=A) zg U U (ybL (off:=2) (s:=2) hz.pv c U)) (Ll 15 (zb call129 (.r2 U U)) .nil (cc hz .nil fun w pz ho=>y4Z q w pz ) (La U (WL.nil (Lb (WC.cond U (fun d=>?_) (fun d=>?_)))))))))
 ·replace h:=yr h d
  refine WC.b<|Ld<|Le 17 (yi zg U (yj .here) U)<|Lk U U (yl zy U U U .h2 U U U)<|WL.nil<|Lb<|WC.ret<|Lj ?_
  obtain rfl:=oJ h
  refine Lh results128 (.agg U zg U (yj .here) .nil)<|fun w hw=>?_
  exact⟨yD U,hw.sub (.cons .h2 .nil)⟩
 ·replace h:=ys h d
  refine WC.skip<|Lb<|WC.b ?_
  obtain⟨D,t,h⟩:=za h
  obtain⟨E,v,h⟩:=za h
  obtain⟨F,x,h⟩:=za h
  refine Lx (fun i=>[9,10,11,12].contains i) [stb p 175 [(vi f.1.fN),(vi f.1.fD)]] U<|Lf 0 18 U (fun _=>q_m U)<|L6 1 19 U (Sin.of<|.cons .here .nil) (yi zg U (yj .here) U)<|Lf 2 20 U (fun _=>q_m U)<|Lf 3 21 U (fun _=>ya y9v U U)<|L6 4 22 U (Sin.of<|.cons .here .nil) (yX (cs:=[(vi j.fRate.fN),(vi j.fRate.fD)]) zg U U<|ybL (off:=0) (s:=2) hz.pv c U)<|Lf 5 23 U (fun _=>q_m U)<|Li 6 24 U (yi zg U (yj .h3) U)<|Lf 7 25 U (fun _=>ya y9w U U)<|Li 8 26 U (yX (cs:=A) zg U U<|ybL (off:=2) (s:=2) hz.pv c U) (Ka (i:=9) (dd:=27) U (by kernel_rfl) U U U (.inl ⟨U,(Sin.of<|.cons .h1 .nil)⟩) (zb call123<|.r4 U U U U) (.cons .h1 .nil) (cc hz (.cons .h1 .nil) fun w pz ho=>Calls.mono (y2R _ _ (z7f:=124) (z8m:=[]) _ (z7P:=(fun(y0:z2) (y1:z2)=>y2z y0 y1)) _ _ _ t w pz call124 (fun w' hz' y0 y1  r  hr=>ya1 hr w' hz' ) ho)<|fun _ _ h'=>⟨h'.1,trivial,h'.2⟩) fun _=>Ka (i:=10) (dd:=28) U (by kernel_rfl) U U U (.inl ⟨U,(Sin.of<|.cons .h1 .nil)⟩) (zb call123<|.r4 U U U U) (.cons .here .nil) (cc hz (.cons .here .nil) fun w pz ho=>Calls.mono (y2R _ _ (z7f:=120) (z8m:=[]) _ (z7P:=(fun(y0:z2) (y1:z2)=>y3J y0 y1)) _ _ _ v w pz call120 (fun w' hz' y0 y1  r  hr=>ydp hr w' hz' ) ho)<|fun _ _ h'=>⟨h'.1,trivial,h'.2⟩) fun _=>Ka (i:=11) (dd:=29) U (by kernel_rfl) U U U (.inl ⟨U,(Sin.of<|.cons .h1 .nil)⟩) (zb call123<|.r4 U U U U) (.cons .here .nil) (cc hz (.cons .here .nil) fun w pz ho=>Calls.mono (y2R _ _ (z7f:=124) (z8m:=[]) _ (z7P:=(fun(y0:z2) (y1:z2)=>y2z y0 y1)) _ _ _ x w pz call124 (fun w' hz' y0 y1  r  hr=>ya1 hr w' hz' ) ho)<|fun _ _ h'=>⟨h'.1,trivial,h'.2⟩) fun _=>Kc (i:=12) U (by kernel_rfl) U U U (by kernel_rfl) (yl zy U U U .h2 U U U)<|WD.done (by kernel_rfl)<|Lb<|WC.ret ?_)
  obtain rfl:=oJ h
  refine Lh results128 (.agg U zg U (yj .here) .nil)<|fun w hw=>?_
  exact⟨yD U,hw.sub (.cons .h1 .nil)⟩
def y31(c:List (List z6))(d:zSv)(e:z2)(a:List z2)(f:Int):Option (Bool×(Nat×List z2×Int)):=
 (y4R (⟨f⟩:z1A) e c d).bind fun b=>(if decide ((a.length:Int)=0) then some true else chk ((0:Int)<=0/\0<(a.length:Int)) ((y1w b.1 (⟨((nth a 0).fN),((nth a 0).fD)⟩:z2)).bind fun g=>some (decide (g>0)))).bind fun h=>if h then some (true,(0,([b.1]:List z2),b.2.fE)) else some (true,(0,a,b.2.fE))
def y4e(d:List (List z6))(j:zSv)(a:List (List z6))(b:zSv)(e:List z2):Option (z2×Int):=
 (y3M d j a b e).bind fun g=>if decide (g≠0) then some ((⟨0,0⟩:z2),g) else jp2 (fun(h:Int) (f:List z2)=>if decide (h≠0) then some ((⟨0,0⟩:z2),h) else chk ((0:Int)<=0/\0<(f.length:Int)) (some ((⟨((nth f 0).fN),((nth f 0).fD)⟩:z2),0))) fun k=>(y4C d j a b e).bind fun c=>(y3b (Nat×List z2×Int) (fun(x:z2) (s:Nat×List z2×Int)=>chk (s.1=0) (y31 a b x s.2.1 s.2.2)) (0,([]:List z2),0) d (⟨(⟨c.1,c.2.1⟩:z2),(⟨c.2.2.1,c.2.2.2⟩:z2)⟩:zSv) a b e).bind fun i=>k i.2.2 i.2.1
theorem ybB{Z:Zp}{r:z2×Int}(h:y4e k j W p y=some r)(w₀:World)(hz:PZ [] w₀ Z)(au:ZS Z 1 (y29 Z) n m k)(ao:ZS Z 1 (y29 Z) S u W)(ap:ZC Z z [(vs S W.length u)])(aq:ZC Z T [(vi p.fRate.fN),(vi p.fRate.fD),(vi p.fL.fN),(vi p.fL.fD)])(av:ZS Z 2 (fun r x=>r=yx x) q t y):
  Calls Tryz.prog 127 #[(.agg #[(vs n k.length m),(vi j.fRate.fN),(vi j.fRate.fD),(vi j.fL.fN),(vi j.fL.fD),(.func (.func 128) #[] #[(vq z),(vq T)]),(vs q y.length t)])] w₀ fun e w'=>e = .returned (.tuple #[(.agg #[(vi r.1.fN),(vi r.1.fD)]),(vi r.2)])/\Hp [] w₀ w' []:=by
 unfold y4e at h
 let F:Value:=(.func (.func 128) #[] #[(vq z),(vq T)]);let N:Value:=(vs n k.length m);let O:Value:=(vs q y.length t);let H:Value:=(.agg #[N,(vi j.fRate.fN),(vi j.fRate.fD),(vi j.fL.fN),(vi j.fL.fD),F,O]);refine Calls.y9J (vs:=[H]) (pre:=[]) (env:=[(0,H)]) func127 U ntmps127 U (Hp.nil w₀ _) U ?_
 let E:List Value:=[N,(vi j.fRate.fN),(vi j.fRate.fD),(vi j.fL.fN),(vi j.fL.fD),F,O];refine WC.b (Ld (Lg 1 (yI (cs:=E) U U) ?_))
 intro V _
 refine Lg 2 (yu (cs:=[(vi 0),(vi 0)]) zX U) fun X _=>La U<|WL.nil<|Lb<|WC.b<|WC.b ?_
 obtain⟨aM,aN,h⟩:=za h
 refine Ld<|Le 9 (yi zhu U (yj .h1) U)<|Ll 10 (zb call163<|.cons U .nil) .nil (cc hz .nil fun w pz ho=>yb0 aN w pz au ao ap aq av)<|La U<|WL.nil<|Lb<|WC.b<|Ld<|La U<|La U<|WL.nil<|Lb<|WC.cond U (fun aw=>?_)<|fun aw=>?_
 ·replace h:=yr h aw
  refine WC.b<|Ld<|Le 13 (yN (v:=(.agg #[(vi 0),(vi 0)])) (Lo (l:=[]) .nil []) (fun _=>by kernel_rfl))<|La U<|Lk U U (yl zy U U U .here U U U)<|La U<|WL.nil<|Lb<|WC.ret<|Lj ?_
  obtain rfl:=oJ h
  refine WX.ydd results127 (.agg U zg U (yj .here)<|.tmp U .nil)<|fun w hw=>?_
  exact⟨y1T U U,hw.sub .nil⟩
 ·replace h:=ys h aw
  refine WC.skip<|Lb<|WC.b<|Ld (Lg 5 (yu (cs:=[(vi 0)]) zoC U) fun b _=>WL.nil<|Lb<|WC.b<|Ld (Lg 6 (yu (cs:=[vn]) zsD U) fun o _=>WL.nil<|Lb ?_))
  obtain⟨aO,aP,h⟩:=y52 h
  refine WC.yeB (fun(aj:Nat) (af:Int) (Y:List z2) (ak:Option Addr) (al:Nat)=>(aO af Y=some r)) (fun(aj:Nat) (af:Int) (Y:List z2) (ak:Option Addr) (al:Nat)=>[(2,(vp X)),(5,(vp b)),(6,(vp o))]) (fun(aj:Nat) (af:Int) (Y:List z2) (ak:Option Addr) (al:Nat)=>[stb X 175 [(vi 0),(vi 0)],stb b 277 [(vi af)],stb o 229 [(vs ak Y.length al)],row (vs ak Y.length al) 175 2 (Y.flatMap yx),dfr aj]) ?_ ?_
  ·skip
   refine WC.b ?_
   obtain⟨zC,aQ,h⟩:=za h
   refine Ld<|Le 15 (yi zhu U (yj .h3) U)<|WL.yd7 (dd:=16) U U U (zb call164<|.cons U .nil) .nil (cc hz .nil fun w pz ho=>yaz aQ w pz au ao ap aq av) ?_
   rintro a _
   refine WL.nil<|Lb<|WC.block<|WC.drop (.s5 .h1 .h1 .h1 .h1 .here)<|WC.nilRow 175 2<|WC.rangeFunc (f:=201) (caps:=[(vp a)]) U call201 ?_
   intro a2 a3 ab aa ag ar aR aS w hw
   let Q:Value:=(vs none (([]:List z2).length) 0);let A:List Asrt:=[stb o 229 [Q],row Q 175 2 (([]:List z2).flatMap yx),stb b 277 [(vi 0)],stb X 175 [(vi 0),(vi 0)],stb V 231 E,blk ab (ag .ready none)];have hw1:=hw.selAll ((.s6 .h3 .h2 .h2 .h2 .h2 .here):Sel _ A _)
   let C:List Value:=[N,(vi zC.1),(vi zC.2.1),(vi zC.2.2.1),(vi zC.2.2.2),F,O];let K:List Asrt:=[dfr aa,stb a 231 C];have pz:=(hz.call hw1 ((.cons .here .nil):Sel [y1N A,dfr aa,stb a 231 C] [y1N A] K)).lend hw1 ((.cons .here .nil):Sel [y1N A,dfr aa,stb a 231 C] [y1N A] K) (B:=[stb a 231 C]) (fun _ hx'=>((.cons .h1 .nil):Sel _ [stb a 231 C] _).mem hx')
   obtain⟨c,aT,h⟩:=za h
   refine Calls.mono (ya3 (Z:=_) (z9r:=ab) (z4J:=(Option Addr×Nat)) (z2X:=(fun(g:Option Addr×Nat) (s:Nat×List z2×Int)=>y1N ([stb o 229 [(vs g.1 s.2.1.length g.2)],row (vs g.1 s.2.1.length g.2) 175 2 (s.2.1.flatMap yx),stb b 277 [(vi s.2.2)],stb X 175 [(vi 0),(vi 0)],stb V 231 E]++[blk ab (ag (rdy<|pcs [] s.1)<|pcs [] s.1)]))) (z7W:=(fun(g:Option Addr×Nat) (s:Nat×List z2×Int)=>True)) (zcu:=(none,0)) (zcv:=⟨a,0,none⟩) (zeI:=n) (zeJ:=m) (zzs:=z) (zzt:=S) (zzu:=u) (zzv:=T) (znk:=q) (znl:=t) (zx:=(Nat×List z2×Int)) (z2C:=(fun(x:z2) (s:Nat×List z2×Int)=>chk (s.1=0)<|y31 W p x s.2.1 s.2.2)) (z8w:=(0,([]:List z2),0)) (z3j:=k) (zgM:=(⟨(⟨zC.1,zC.2.1⟩:z2),(⟨zC.2.2.1,zC.2.2.2⟩:z2)⟩:zSv)) (znj:=W) (zgN:=p) (z3u:=y) (r:=c) w pz ?_ trivial ((au.mono<|Zle.left _ _).weak (fun _ _ h=>y3G (Zle.left _ _) h)) ((ao.mono<|Zle.left _ _).weak (fun _ _ h=>y3G (Zle.left _ _) h)) (ap.mono<|Zle.left _ _) (aq.mono<|Zle.left _ _) (av.mono<|Zle.left _ _) ((hw1.lent ((.cons .here .nil):Sel [y1N A,dfr aa,stb a 231 C] [y1N A] K) (B:=[stb a 231 C]) (fun _ hx'=>((.cons .h1 .nil):Sel _ [stb a 231 C] _).mem hx') (.head _) _).stb) aT<|hw1.owns ((.cons .here .nil):Sel [y1N A,dfr aa,stb a 231 C] [y1N A] K)) ?_
   ·skip
    refine ybn (LI:=(fun(g:Option Addr×Nat) (s:Nat×List z2×Int)=>[stb o 229 [(vs g.1 s.2.1.length g.2)],row (vs g.1 s.2.1.length g.2) 175 2 (s.2.1.flatMap yx),stb b 277 [(vi s.2.2)],stb X 175 [(vi 0),(vi 0)],stb V 231 E])) (pc:=(fun(s:Nat×List z2×Int)=>pcs [] s.1)) ar aR aS (fun _ _=>U) (by decide) ?_
    rintro ax _ ⟨aD,aE⟩ ⟨aU,ad,aF⟩ aV aW Fb wb aG _ hz
    replace hz:=hz.left
    letI:Rnd:=inR ab
    obtain⟨hp0,d⟩:=yo aG
    replace hp0:aU=0:=hp0;subst hp0;clear aG
    replace d:y31 W p ax ad aF=some (aV,aW):=d
    unfold y31 at d
    let I:Value:=(vs aD ad.length aE);let L:Value:=(.agg #[(vi ax.fN),(vi ax.fD)]);let R:Value:=(.bool (decide (aM≠0)));refine WC.restr (env':=[(1,(vp V)),(12,R),(5,(vp b)),(6,(vp o)),(17,L)]) (.r5 U U U U U) (WC.eqL (L':=[stb o 229 [I],row I 175 2 (ad.flatMap yx),stb b 277 [(vi aF)],stb X 175 [(vi 0),(vi 0)],stb V 231 E,blk ab (ag .ready none)]) U (Ld (Lg 7 (yu (cs:=[(vi 0),(vi 0)]) zX U) ?_)))
    intro aX _
    refine Lk U U (yl zy U U U .here U U U)<|WL.nil<|WX.ycl ar .h6<|WC.block<|WC.b ?_
    obtain⟨ah,aY,d⟩:=za d
    refine Ld<|Le 18 (ya ycq U U)<|Le 19 (yc zDj U<|yh .h6 U)<|Le 20 (yi zg U (yj .h1) U)<|Ll 21 (y2M (l:=[.tmp 5,.tmp 20]) call128 U<|.r2 U U) (.cons .h4 .nil) (cc hz (.cons .h4 .nil) fun w pz ho=>ycu aY w pz ao ap aq ho) (Lg 8 (yu (cs:=[(vi 0),(vi 0)]) zX U) fun aZ _=>Lk U U (yl zy U U U .here U U U)<|WL.nil<|Lb<|WC.b ?_)
    obtain⟨a0,aH,d⟩:=za d
    let P:Value:=(.bool (decide ((ad.length:Int)=0)));refine Lx (fun i=>[].contains i) [] U (Li 0 22 U (yc z8U U (yh .h4 U)) (Lf 1 23 U (fun _=>yJ underlying229 U) (Lf 2 24 U (fun _=>ycd U U) (Lf 3 25 U (fun _=>q_m U) (Ke (fuel':=0) [(1,(vp V)),(12,R),(5,(vp b)),(6,(vp o)),(17,L),(7,(vp aX)),(18,(.pointer (some ⟨V,5,none⟩))),(19,F),(20,L),(21,(.agg #[(vi ah.1.fN),(vi ah.1.fD)])),(8,(vp aZ)),(22,I),(23,(vi (ad.length:Int))),(24,P),(25,P),(32,(.bool a0))] (y2e 11 (dn 11)) ?_ (fun aI=>?_))))))
    rotate_left
    ·rcases Bool.eq_false_or_eq_true (decide ((ad.length:Int)=0)) with hb' | hb'
     ·have ay:=hb';clear hb'
      have az:=yr aH ay
      replace az:=oJ az
      refine L3 (i:=25) U ay<|Lp 4 26 U<|Lp 5 27 U<|Lp 6 28 U<|Lp 7 29 U<|Lp 8 30 U<|Lp 9 31 U<|Lf 10 32 U (fun _=>y4o U U)<|Ly (.a8) ?_ aI
      exact .r16 U U U U U U U U U U U U U U (zO<|Eq.symm ay)<|zO az
     ·have aA:=hb';clear hb'
      have ai:=ys aH aA
      obtain⟨am,ai⟩:=yo ai
      obtain⟨a6,a1,ai⟩:=za ai
      replace ai:=oJ ai
      refine L3 (i:=25) U aA<|Li 4 26 U (yi zg U (yj .here) U)<|Li 5 27 U (yc z8U U<|yh .h4 U)<|WD.know (fun w hw=>Hp.y2c .h5 hw (by intro hz';have:=am;rw[hz'] at this;omega)) ?_
      rintro⟨a4,rfl⟩
      refine Lf 6 28 U (fun _=>y11 z2r U U am.1 am.2 y3g)<|Li 7 29 U (yX (cs:=(yx<|nth ad 0)) zg U U<|y3Q .h5<|y2y (enc:=yx) (l:=ad) (i:=0) (sz:=2) (fun _=>U) am.1 am.2)<|L4 8 30 U (zb call129<|.r2 U U) (cc hz .nil fun w pz ho=>y4Z a1 w pz )<|Lf 9 31 U (fun _=>yfk U U)<|Lf 10 32 U (fun _=>y4p U U)<|Ly (.a8) ?_ aI
      exact .r16 U U U U U U U U U U U U U U (zO<|Eq.symm aA)<|zO ai
    refine WD.done (by kernel_rfl)<|Lb<|WC.cond U (fun aB=>?_)<|fun aB=>?_
    ·replace d:=yr d aB
     refine Ld<|Le 33 (yi zg U (yj .here) U) (Lg 34 (yT (cs:=([ah.1]:List z2).flatMap yx) z2r (Lo (l:=[.tmp 33]) (.cons U .nil) [0]) (fun _=>by kernel_rfl) U (by unfold maxLen;omega)) fun aJ _=>Lk U U (yl zsE U U U .h5 U U U)<|WL.nil<|Lq ?_)
     obtain⟨rfl,rfl⟩:=yaP d
     let M:Value:=(vs (some ⟨aJ,0,none⟩) (([ah.1]:List z2).length) 1);exact WX.y6W ar .h4 (fun w' hw'=>⟨((some ⟨aJ,0,none⟩),1),U,trivial,(hw'.selAll ((.s6 .h1 .h1 .h2 .h4 .h4 .here):Sel _ [stb o 229 [M],row M 175 2 (([ah.1]:List z2).flatMap yx),stb b 277 [(vi ah.2.fE)],stb X 175 [(vi 0),(vi 0)],stb V 231 E,blk ab (ag .ready none)] _)).sub (.cons .here .nil)⟩)
    ·replace d:=ys d aB
     refine WC.skip<|Lq ?_
     obtain⟨rfl,rfl⟩:=yaP d
     exact WX.y6W ar .h2<|fun w' hw'=>⟨(aD,aE),U,trivial,(hw'.selAll ((.s6 .h4 .h4 .h2 .h3 .h3 .here):Sel _ [stb o 229 [I],row I 175 2 (ad.flatMap yx),stb b 277 [(vi ah.2.fE)],stb X 175 [(vi 0),(vi 0)],stb V 231 E,blk ab (ag .ready none)] _)).sub (.cons .here .nil)⟩
   ·skip
    rintro _ w' ⟨⟨aK,aL⟩,rfl,_,hp⟩
    have hp1:=hw1.call ((.cons .here .nil):Sel [y1N A,dfr aa,stb a 231 C] [y1N A] K) hp
    let J:Value:=(vs aK c.2.1.length aL);have hp2:Hp _ _ w' [stb o 229 [J],row J 175 2 (c.2.1.flatMap yx),stb b 277 [(vi c.2.2)],stb X 175 [(vi 0),(vi 0)],stb V 231 E,blk ab (ag (rdy (pcs [] c.1)) (pcs [] c.1)),dfr aa,stb a 231 C]:=hp1.pickAll .here
    refine⟨_,pcs [] c.1,_,U,(hp2.sub ((.s8 .h5 .here .here .here .here .here .here .here):Sel _ [blk ab (ag (rdy (pcs [] c.1)) (pcs [] c.1)),stb o 229 [J],row J 175 2 (c.2.1.flatMap yx),stb b 277 [(vi c.2.2)],stb X 175 [(vi 0),(vi 0)],stb V 231 E,dfr aa,stb a 231 C] _)),?_⟩
    clear hp hp1 hp2 pz hw hw1
    refine wjN ?_
    letI:Rnd:=aft aa
    refine Lq ?_
    exact WX.midR (D:=fun(g:Nat×Int×List z2×Option Addr×Nat)=>g.1) (G:=Nat×Int×List z2×Option Addr×Nat) ⟨aa,c.2.2,c.2.1,aK,aL⟩ h (.r3 U U U)<|.s5 .h3 .h2 .here .here .h1
  ·rintro aj af Y ak al h
   replace h:=(aP af Y).symm.trans h
   letI:Rnd:=aft aj
   refine WC.b<|WC.b<|Ld<|Le 35 (ya y5u U U)<|Le 36 (yc y3t U<|yh .h1 U)<|La U<|WL.nil<|Lb<|WC.cond U (fun aC=>?_)<|fun aC=>?_
   ·replace h:=yr h aC
    refine WC.b<|Lx (fun i=>[3].contains i) [y8a b 277 [(0,(vi af))]] U<|Lf 0 38 U (fun _=>yN (v:=(.agg #[(vi 0),(vi 0)])) (Lo (l:=[]) .nil []) (fun _=>by kernel_rfl))<|Lf 1 39 U (fun _=>ya y5u U U)<|L6 2 40 U (Sin.wk (.cons .h1 .nil)<|.stb (.cons U .nil) .nil) (yc y3t U<|y62 .here<|.head _)<|WD.forced0 (i:=3) U (by kernel_rfl) U U U (Sin.wk (.cons .h1 .nil)<|.stb (.cons U .nil) .nil) (yl zy U U U .here U U U)<|Lf 4 3 U (fun _=>q_z U)<|WD.done (by kernel_rfl)<|Lb<|WC.ret<|Lj ?_
    obtain rfl:=oJ h
    refine WX.y7D .h4 results127 (.agg U zg U (yj .h1)<|.tmp U .nil)<|fun w hw=>?_
    exact⟨y1T U U,hw.sub .nil⟩
   ·replace h:=ys h aC
    refine WC.skip<|Lb<|WC.b ?_
    obtain⟨an,h⟩:=yo h
    refine Ld<|Le 41 (yc z8U U<|yh .h2 U)<|Kg (fun w hw=>Hp.y2c .h3 hw (by intro hz';have:=an;rw[hz'] at this;omega)) ?_
    rintro⟨a5,rfl⟩
    refine Le 42 (y11 z2r U U an.1 an.2 y3g)<|Le 43 (yX (cs:=(yx<|nth Y 0)) zg U U<|y3Q .h3<|y2y (enc:=yx) (l:=Y) (i:=0) (sz:=2) (fun _=>U) an.1 an.2)<|Lk U U (yl zy U U U .here U U U)<|La U<|WL.nil<|Lb<|WC.ret ?_
    obtain rfl:=oJ h
    refine WX.y7D .h4 results127 (.agg U zg U (yj .h1)<|.tmp U .nil)<|fun w hw=>?_
    exact⟨y1T U U,hw.sub .nil⟩
def y5f(b:List (List z6))(a:zSv):Option (z2×Int):=
 (y4e b a b a ([a.fL]:List z2)).bind fun c=>some (c.1,c.2)
theorem ydu{Z:Zp}{r:z2×Int}(h:y5f k j=some r)(w₀:World)(hz:PZ [] w₀ Z)(a:ZS Z 1 (y29 Z) n m k):
  Calls Tryz.prog 82 #[(vs n k.length m),(.agg #[(vi j.fRate.fN),(vi j.fRate.fD),(vi j.fL.fN),(vi j.fL.fD)])] w₀ fun e w'=>e = .returned (.tuple #[(.agg #[(vi r.1.fN),(vi r.1.fD)]),(vi r.2)])/\Hp [] w₀ w' []:=by
 unfold y5f at h
 refine Lz func82 ntmps82 ?_
 let C:Value:=(vs n k.length m);refine WC.b (Ld (Lg 2 (yI (cs:=[C]) U U) ?_))
 intro b _
 refine Lg 3 (yI (cs:=[(vi j.fRate.fN),(vi j.fRate.fD),(vi j.fL.fN),(vi j.fL.fD)]) U U) fun c _=>Lg 4 (yu (cs:=[(vi 0),(vi 0)]) zX U) fun g _=>La U<|WL.nil<|Lb<|WC.b<|Ld<|Le 7 (yc z88 U<|yh .h2 U)<|Le 8 (yi zht U (yj .h1) U)<|Le 9 (ya y9w U U)<|Le 10 (yX (cs:=[(vi j.fL.fN),(vi j.fL.fD)]) zg U U<|y3w (s:=2) .h1 U)<|Lg 11 (yT (cs:=([j.fL]:List z2).flatMap yx) z2r (Lo (l:=[.tmp 10]) (.cons U .nil) [0]) (fun _=>by kernel_rfl) U (by unfold maxLen;omega)) ?_
 intro d _
 let A:Value:=(vs (some ⟨d,0,none⟩) (([j.fL]:List z2).length) 1);refine Le 12 (yN (v:=(.agg #[C,(vi j.fRate.fN),(vi j.fRate.fD),(vi j.fL.fN),(vi j.fL.fD),.nilFunc,A])) (Lo (l:=[.tmp 7,.tmp 8,.tmp 11]) (.r3 U U U) [0,1,3]) (fun _=>by kernel_rfl)) (Lg 6 (yu (cs:=[vn,(vi 0),(vi 0),(vi 0),(vi 0),.nilFunc,vn]) zDb U) ?_)
 intro i _
 refine Lk U U (yl zDc U U U .here U U U)<|WL.nil<|Lb<|WC.b<|Ld<|Le 13 (y15<|L2 (l:=[.tmp 2,.tmp 3])<|.r2 U U)<|Le 14 (ya ycq U U)<|Lk U U (y4L (ds:=[C,(vi j.fRate.fN),(vi j.fRate.fD),(vi j.fL.fN),(vi j.fL.fD),(.func (.func 128) #[] #[(vp b),(vp c)]),A]) zDd U U U U U .here U U)<|WL.nil<|Lb<|WC.b ?_
 obtain⟨o,f,h⟩:=za h
 refine Ld<|Le 15 (yi zhu U (yj .here) U)<|Ll 16 (zb call127<|.cons U .nil) .nil (ccl hz .nil (.s3 .h4 .h3 .h1) fun w pz ho la=>ybB f w pz ((a.mono<|Zle.left _ _).weak (fun _ _ h=>y3G (Zle.left _ _) h)) ((a.mono<|Zle.left _ _).weak (fun _ _ h=>y3G (Zle.left _ _) h)) ((la _ (.head _) _).stb) ((la _ (.tail _<|.head _) _).stb)<|ZA.row (la _ (.tail _<|.tail _<|.head _) _) (RR.flat (enc:=yx) (fun _=>U) _) ⟨w,pz.1⟩)<|La U<|La U<|Lk U U (yl zy U U U .h2 U U U)<|La U<|WL.nil<|Lb<|WC.ret ?_
 obtain rfl:=oJ h
 refine Lh results82 (.agg U zg U (yj .here)<|.tmp U .nil)<|fun w hw=>?_
 exact⟨y1T U U,hw.sub .nil⟩
def y1Z(b:z2×Int)(c:z2×Int)(e:Int->Option (S36×Int×(List (zP×z2))×(List (z8×Int)))):Nat->Int->Int->Option (S36×Int×(List (zP×z2))×(List (z8×Int)))
 | 0,_,_=>none
 | h+1,a,d=>if decide (a<(([b.2,c.2]:List Int).length:Int)) then jp1 (fun(i:Int)=>y1Z b c e h (i64 (a+1)) i) fun f=>chk ((0:Int)<=a/\a<(([b.2,c.2]:List Int).length:Int)) (jp1 (fun(j:Int)=>if decide (d=0) then f j else f d) fun g=>if decide ((nth ([b.2,c.2]:List Int) a)=6) then g 352 else g (nth ([b.2,c.2]:List Int) a)) else e d
def y5C(b:zs)(k:List (List ze))(l:List (zP×z2))(d:List (z8×Int))(m:Int)(a:z8):Option (S36×Int×(List (zP×z2))×(List (z8×Int))):=
 (y50 b k l d m a).bind fun c=>jp2 (fun(e:List (List z6)) (n:Int)=>chk ((0:Int)<=a.fQ/\a.fQ<(b.fK.length:Int)) ((y2L n).bind fun f=>(y5O e (⟨(⟨1,((nth b.fK a.fQ).fSlow)⟩:z2),f⟩:zSv)).bind fun g=>(y5f e (⟨(⟨1,((nth b.fK a.fQ).fSlow)⟩:z2),f⟩:zSv)).bind fun h=>jp1 (fun(o:Int)=>(y1S g.1).bind fun i=>(y1S h.1).bind fun p=>some (({a with fDelay:=(yd (yC d a i) a 0),fT:=i64 (p+c.2.1)}:S36),o,c.2.2.2,(yC d a i))) fun q=>y1Z g h q yy 0 c.2.2.1)) fun j=>if decide ((i64 (a.fNode-(b.fM.length:Int)))>=0) then chk ((0:Int)<=(i64 (a.fNode-(b.fM.length:Int)))/\(i64 (a.fNode-(b.fM.length:Int)))<(b.fS.length:Int)) (j c.1 ((nth b.fS (i64 (a.fNode-(b.fM.length:Int)))).fDelay)) else j c.1 0
theorem yex{Z:Zp}{ab:Nat}{ad:Option Addr}{ae:Nat}{af:Option Addr}{ag:Nat}{ah:Option Addr}{ai:Nat}{aj:Option Addr}{ak:Nat}{al:Option Addr}{am:Nat}{an:Option Addr}{ao:Nat}{b:Nat}{c:Nat}{a:zs}{R:List (List ze)}{au:List (zP×z2)}{g:List (z8×Int)}{f:z8}{r:S36×Int×(List (zP×z2))×(List (z8×Int))}(h:y5C a R au g aa f=some r)(w₀:World)(hz:PZ (fps [stb m 119 [(vs n a.fM.length u),(vs S a.fC0.length t),(vs q a.fS.length ab),(vs ad a.fK.length ae),(vs af a.fVLs.length ag),(vs ah a.fH.length ai),(vs aj a.fU.length ak),(vs al a.fV0.length am),(vs an R.length ao),(.map (some b)),(.map (some c)),(vi aa)],yn b (fun x=>Value.agg (y2P x).toArray) (fun x=>Value.agg (yx x).toArray) au,yn c (fun x=>Value.agg (yE x).toArray) (Value.int .i64) g]) w₀ Z)(aM:ZS Z 4 (y3F Z) n u a.fM)(aN:ZS Z 4 (y4l Z) S t a.fC0)(aC:ZS Z 4 (fun r x=>r=e64 x) q ab a.fS)(aD:ZS Z 4 (fun r x=>r=e62 x) ad ae a.fK)(aO:ZS Z 7 (p69 Z) af ag a.fVLs)(aP:ZS Z 5 (fun r x=>r=y4D x) ah ai a.fH)(aQ:ZS Z 3 (y4m Z) aj ak a.fU)(aR:ZS Z 4 (fun r x=>r=y4E x) al am a.fV0)(aS:ZS Z 1 (p58 Z) an ao R)(hown:Hp (fps [stb m 119 [(vs n a.fM.length u),(vs S a.fC0.length t),(vs q a.fS.length ab),(vs ad a.fK.length ae),(vs af a.fVLs.length ag),(vs ah a.fH.length ai),(vs aj a.fU.length ak),(vs al a.fV0.length am),(vs an R.length ao),(.map (some b)),(.map (some c)),(vi aa)],yn b (fun x=>Value.agg (y2P x).toArray) (fun x=>Value.agg (yx x).toArray) au,yn c (fun x=>Value.agg (yE x).toArray) (Value.int .i64) g]) w₀ w₀ [stb m 119 [(vs n a.fM.length u),(vs S a.fC0.length t),(vs q a.fS.length ab),(vs ad a.fK.length ae),(vs af a.fVLs.length ag),(vs ah a.fH.length ai),(vs aj a.fU.length ak),(vs al a.fV0.length am),(vs an R.length ao),(.map (some b)),(.map (some c)),(vi aa)],yn b (fun x=>Value.agg (y2P x).toArray) (fun x=>Value.agg (yx x).toArray) au,yn c (fun x=>Value.agg (yE x).toArray) (Value.int .i64) g]):
  Calls Tryz.prog 43 #[(vp m),(.agg #[(vi f.fNode),(vi f.fQ)])] w₀ fun e w'=>e = .returned (.agg #[(vi r.1.fNode),(vi r.1.fQ),(vi r.1.fDelay),(vi r.1.fT)])/\Hp (fps [stb m 119 [(vs n a.fM.length u),(vs S a.fC0.length t),(vs q a.fS.length ab),(vs ad a.fK.length ae),(vs af a.fVLs.length ag),(vs ah a.fH.length ai),(vs aj a.fU.length ak),(vs al a.fV0.length am),(vs an R.length ao),(.map (some b)),(.map (some c)),(vi aa)],yn b (fun x=>Value.agg (y2P x).toArray) (fun x=>Value.agg (yx x).toArray) au,yn c (fun x=>Value.agg (yE x).toArray) (Value.int .i64) g]) w₀ w' [stb m 119 [(vs n a.fM.length u),(vs S a.fC0.length t),(vs q a.fS.length ab),(vs ad a.fK.length ae),(vs af a.fVLs.length ag),(vs ah a.fH.length ai),(vs aj a.fU.length ak),(vs al a.fV0.length am),(vs an R.length ao),(.map (some b)),(.map (some c)),(vi r.2.1)],yn b (fun x=>Value.agg (y2P x).toArray) (fun x=>Value.agg (yx x).toArray) r.2.2.1,yn c (fun x=>Value.agg (yE x).toArray) (Value.int .i64) r.2.2.2]:=by
 unfold y5C at h
 refine Kf func43 ntmps43 hown ?_
 let L:List Value:=[(vi f.fNode),(vi f.fQ)];refine WC.pool (WC.b (Ld (Lg 3 (yI (cs:=L) U U) ?_)))
 intro y _
 let C:List Value:=[(vi 0),(vi 0),(vi 0),(vi 0)];refine Lg 4 (yu (cs:=C) y7G U) ?_
 intro z _
 refine WL.nil<|Lb<|WC.b ?_
 obtain⟨d,aT,h⟩:=za h
 refine Ld<|La U<|Le 18 (yi z5o U (yj .h1) U)<|WL.y8E (dd:=19) U U U (zb call79<|.r2 U U) (.s3 .h3 .h3 .h3) (ccz hz (.s3 .h3 .h3 .h3) .h2 fun w pz ho=>yd2 aT w pz ((aM.mono<|Zle.left _ _).weak (fun _ _ h=>y1p (Zle.left _ _) h)) ((aN.mono<|Zle.left _ _).weak (fun _ _ h=>y1A (Zle.left _ _) h)) (aC.mono<|Zle.left _ _) (aD.mono<|Zle.left _ _) ((aO.mono<|Zle.left _ _).weak (fun _ _ h=>y1k (Zle.left _ _) h)) (aP.mono<|Zle.left _ _) ((aQ.mono<|Zle.left _ _).weak (fun _ _ h=>y1B (Zle.left _ _) h)) (aR.mono<|Zle.left _ _) ((aS.mono<|Zle.left _ _).weak (fun _ _ h=>y22 (Zle.left _ _) h)) ho) ?_
 rintro T aE aF aG aH
 refine WL.merge .here .h6<|La U<|La U<|La U<|La U<|La U<|WL.nil<|Lb<|WC.b<|Ld<|La U<|WL.nil<|Lb ?_
 obtain⟨aU,aV,h⟩:=y52 h
 let D:Value:=(vs af a.fVLs.length ag);let E:Value:=(vs S a.fC0.length t);let F:Value:=(vs al a.fV0.length am);let G:Value:=(vs n a.fM.length u);let H:Value:=(vs q a.fS.length ab);let I:Value:=(vs ad a.fK.length ae);let J:Value:=(vs ah a.fH.length ai);let K:Value:=(vs aj a.fU.length ak);let M:Value:=(vs an R.length ao);refine Kb (fun(V:List (List z6)) (aq:Int) (av:List Value)=>(aU V aq=some r)/\(RR 1 (y29 (Z++([]++T))) av V)) (fun V aq av=>[(0,(vp m)),(3,(vp y)),(4,(vp z)),(5,(vs aE V.length aF)),(6,(vi d.2.1)),(7,(vi aq))]) (fun V aq av=>[fz ([]++T),row (vs aE V.length aF) 227 1 av,stb m 119 [G,E,H,I,D,J,K,F,M,(.map (some b)),(.map (some c)),(vi d.2.2.1)],stb y 121 L,stb z 37 C,yn b (fun x=>Value.agg (y2P x).toArray) (fun x=>Value.agg (yx x).toArray) d.2.2.2,yn c (fun x=>Value.agg (yE x).toArray) (Value.int .i64) g]) ?_ ?_
 ·skip
  refine WC.b<|Lx (fun i=>[].contains i) [] U<|Lf 0 22 U (fun _=>ya y9t U U)<|Li 1 23 U (yc yq U<|yh .h6 U)<|Lf 2 24 U (fun _=>q_m U)<|Lf 3 25 U (fun _=>y1d U)<|Lf 4 26 U (fun _=>ya y6o U U)<|Lf 5 27 U (fun _=>ya y7e U U)<|Li 6 28 U (yc y7f U<|yh .h2 U)<|Lf 7 29 U (fun _=>yJ underlying22 U)<|Lf 8 30 U (fun _=>y9I U U U)<|Lf 9 8 U (fun _=>q_z U)<|WD.done (by kernel_rfl)<|Lb<|WC.b<|Ld<|La U<|La U<|WL.nil<|Lb<|WC.cond U (fun ay=>?_)<|fun ay=>?_
  ·replace h:=yr h ay
   obtain⟨aW,h⟩:=yo h
   refine Ld<|La U<|Le 34 (y1d U)<|Le 35 (ya y6o U U)<|Le 36 (ya yaG U U)<|Le 37 (yc yaH U<|yh .h2 U)<|La U<|L0 (dd:=39) U U (Z:=(Z++([]++T))) (Pr:=(fun r x=>r=e64 x)) ydo U U (aC.mono<|(Zle.left _ _).trans ((Zle.left _ _).trans (Zle.yU _ _ _))) aW ?_
   rintro bd be aX bf rfl
   refine Le 40 (ya ye1 U U)<|Le 41 (yc yq U<|y1b (hz.pv2 .here) aX U)<|La U<|WL.nil ?_
   exact Ln ⟨d.1,((nth a.fS<|i64 (f.fNode-(a.fM.length:Int))).fDelay),aG⟩ ⟨h,(aH.weak<|fun _ _ h=>y3G (Zle.yU _ _ _) h)⟩ (.r6 U U U U U U)<|.s7 .here .here .here .h3 .h2 .here .here
  ·replace h:=ys h ay
   refine WC.skip ?_
   exact Ln ⟨d.1,0,aG⟩ ⟨h,(aH.weak<|fun _ _ h=>y3G (Zle.yU _ _ _) h)⟩ (.r6 U U U U U U)<|.s7 .here .here .here .h3 .h2 .here .here
 ·rintro V aq av ⟨h,aI⟩
  replace h:=(aV V aq).symm.trans h
  refine WC.b ?_
  obtain⟨aY,h⟩:=yo h
  obtain⟨aJ,aZ,h⟩:=za h
  refine Lx (fun i=>[15].contains i) [] U<|Lf 0 42 U (fun _=>q_m U)<|Lf 1 43 U (fun _=>y1d U)<|Lf 2 44 U (fun _=>ya y6o U U)<|Lf 3 45 U (fun _=>ya y7S U U)<|Li 4 46 U (yc y7T U<|yh .h2 U)<|Lf 5 47 U (fun _=>ya yaS U U)<|Li 6 48 U (yc yq U<|yh .h3 U)<|L7 (j:=7) (dd:=49) (by kernel_rfl) U z2k z2l U U (Z:=(Z++([]++T))) (Pr:=(fun r x=>r=e62 x)) yaR U U (aD.mono<|(Zle.left _ _).trans ((Zle.left _ _).trans (Zle.yU _ _ _))) aY ?_
  rintro bg bh a0 bi rfl
  let Q:Value:=(vi ((nth a.fK f.fQ).fSlow));refine Lf 8 50 U (fun _=>ya y9s U U) (Li 9 51 U (yc yq U (y1b (hz.pv2 .here) a0 U)) (Lf 10 52 U (fun _=>yN (v:=(.agg #[(vi 1),Q])) (Lo (l:=[.const (vi 1),.tmp 51]) (.r2 U U) [0,1]) (fun _=>by kernel_rfl)) (Lf 11 53 U (fun _=>q_m U) (L4 12 54 U (zb call80 (.cons U .nil)) (ccz hz .nil .here fun w pz ho=>y5w aZ w pz ) (Lf 13 55 U (fun _=>yN (v:=(.agg #[(vi 1),Q,(vi aJ.fN),(vi aJ.fD)])) (Lo (l:=[.tmp 52,.tmp 54]) (.r2 U U) [0,1]) (fun _=>by kernel_rfl)) (WD.new (i:=14) (dd:=9) U (by kernel_rfl) U U U (yu (cs:=C) zLR U) (fun h'=>absurd h' (by decide)) ?_))))))
  intro bj _
  refine Kc (i:=15) U (by kernel_rfl) U U U (by kernel_rfl) (yl zLS U U U .here U U U)<|WD.done (by kernel_rfl)<|Lb<|WC.b ?_
  obtain⟨o,a1,h⟩:=za h
  refine Ld<|La U<|Le 58 (yi zht U (yj .here) U)<|Ll 59 (zb call81<|.r2 U U) .nil (yaQ hz .nil .h1 (.cons .h2 .nil) fun w pz ho la=>yf0 a1 w pz<|ZA.row (la _ (.head _) _) (aI.weak<|fun _ _ h=>y3G (Zle.left _ _) h) ⟨w,pz.1⟩)<|La U<|La U<|La U (Lg 10 (yu (cs:=[(vi 0),(vi 0)]) zX U) fun W _=>Lk U U (yl zy U U U .here U U U)<|La U<|WL.nil<|Lb<|WC.b ?_)
  obtain⟨p,a2,h⟩:=za h
  refine Ld<|La U<|Le 64 (yi zht U (yj .h1) U)<|Ll 65 (zb call82<|.r2 U U) .nil (yaQ hz .nil .h2 (.cons .h3 .nil) fun w pz ho la=>ydu a2 w pz<|ZA.row (la _ (.head _) _) (aI.weak<|fun _ _ h=>y3G (Zle.left _ _) h) ⟨w,pz.1⟩)<|La U<|La U<|La U (Lg 12 (yu (cs:=[(vi 0),(vi 0)]) zX U) fun X _=>Lk U U (yl zy U U U .here U U U)<|La U<|WL.nil<|Lb ?_)
  obtain⟨aK,a3,h⟩:=y13 h
  let O:List Value:=[(vi o.1.fN),(vi o.1.fD)];let P:List Value:=[(vi p.1.fN),(vi p.1.fD)];refine WC.y3r (fun(ar:Int)=>(aK ar=some r)) (fun ar=>[(0,(vp m)),(3,(vp y)),(4,(vp z)),(6,(vi d.2.1)),(10,(vp W)),(12,(vp X))]) (fun ar=>[fz ([]++T),stb m 119 [G,E,H,I,D,J,K,F,M,(.map (some b)),(.map (some c)),(vi ar)],stb y 121 L,stb z 37 C,stb W 175 O,stb X 175 P,yn b (fun x=>Value.agg (y2P x).toArray) (fun x=>Value.agg (yx x).toArray) d.2.2.2,yn c (fun x=>Value.agg (yE x).toArray) (Value.int .i64) g]) ?_ ?_
  ·skip
   refine WC.b<|Ld<|La U<|La U<|Lg 70 (yT (cs:=([o.2,p.2]:List Int).flatMap e41) zDk (Lo (l:=[.tmp 68,.tmp 69]) (.r2 U U) [0,1]) (fun _=>by kernel_rfl) U (by unfold maxLen;omega)) ?_
   intro a4 _
   let A:Value:=(vs (some ⟨a4,0,none⟩) (([o.2,p.2]:List Int).length) 2);let N:Value:=(vi (([o.2,p.2]:List Int).length:Int));refine Le 71 (yJ underlying181 U) (La U (WL.nil (Lb (WC.block (WC.yaM (fun(aw:Nat) (s:Int) (B:Int)=>(y1Z o p aK aw s B=some r)) (fun aw s B=>[(0,(vp m)),(3,(vp y)),(4,(vp z)),(6,(vi d.2.1)),(10,(vp W)),(12,(vp X)),(70,A),(71,N),(72,(vi s))]) (fun aw s B=>[fz ([]++T),row A 41 1 (([o.2,p.2]:List Int).flatMap e41),stb m 119 [G,E,H,I,D,J,K,F,M,(.map (some b)),(.map (some c)),(vi B)],stb y 121 L,stb z 37 C,stb W 175 O,stb X 175 P,yn b (fun x=>Value.agg (y2P x).toArray) (fun x=>Value.agg (yx x).toArray) d.2.2.2,yn c (fun x=>Value.agg (yE x).toArray) (Value.int .i64) g]) (fun aw s B=>aw) ⟨yy,0,d.2.2.1⟩ h (.r9 U U U U U U U U U) (.s9 .h4 .here .h4 .h4 .h4 .h1 .here .h2 .h2) ?_)))))
   rintro(_|a5) s B h;·cases h
   rw[y1Z] at h
   refine WC.b<|Ld<|La U<|WL.nil<|Lb<|WC.b<|WC.cond U (fun az=>?_)<|fun az=>?_
   ·replace h:=yr h az
    refine WC.skip<|Lb ?_
    obtain⟨a6,a7,h⟩:=y13 h
    refine WC.y3r (fun(ap:Int)=>(a6 ap=some r)) (fun ap=>[(0,(vp m)),(3,(vp y)),(4,(vp z)),(6,(vi d.2.1)),(10,(vp W)),(12,(vp X)),(70,A),(71,N),(72,(vi s))]) (fun ap=>[fz ([]++T),row A 41 1 (([o.2,p.2]:List Int).flatMap e41),stb m 119 [G,E,H,I,D,J,K,F,M,(.map<|some b),(.map<|some c),(vi ap)],stb y 121 L,stb z 37 C,stb W 175 O,stb X 175 P,yn b (fun x=>Value.agg (y2P x).toArray) (fun x=>Value.agg (yx x).toArray) d.2.2.2,yn c (fun x=>Value.agg (yE x).toArray) (Value.int .i64) g]) ?_ ?_
    ·skip
     refine WC.block<|WC.b ?_
     obtain⟨ax,h⟩:=yo h
     refine Ld<|Le 74 (y11 zDk U U ax.1 ax.2 y3g)<|Le 75 (yc y3t U<|y8S .h1<|(y2y (enc:=e41) (l:=([o.2,p.2]:List Int)) (i:=s) (sz:=1) (fun _=>U) ax.1 ax.2) 0 _ U)<|La U<|WL.nil<|Lb ?_
     obtain⟨a8,a9,h⟩:=y13 h
     refine WC.y3r (fun(Y:Int)=>(a8 Y=some r)) (fun Y=>[(0,(vp m)),(3,(vp y)),(4,(vp z)),(6,(vi d.2.1)),(10,(vp W)),(12,(vp X)),(15,(vi Y)),(70,A),(71,N),(72,(vi s))]) (fun Y=>[fz ([]++T),row A 41 1 (([o.2,p.2]:List Int).flatMap e41),stb m 119 [G,E,H,I,D,J,K,F,M,(.map<|some b),(.map<|some c),(vi B)],stb y 121 L,stb z 37 C,stb W 175 O,stb X 175 P,yn b (fun x=>Value.agg (y2P x).toArray) (fun x=>Value.agg (yx x).toArray) d.2.2.2,yn c (fun x=>Value.agg (yE x).toArray) (Value.int .i64) g]) ?_ ?_
     ·skip
      refine WC.b<|Ld<|La U<|La U<|WL.nil<|Lb<|WC.cond U (fun aA=>?_)<|fun aA=>?_
      ·replace h:=yr h aA
       refine Ld<|La U<|WL.nil ?_
       exact Ln 352 h (.r10 U U U U U U U U U U)<|.a9
      ·replace h:=ys h aA
       refine WC.skip ?_
       exact Ln (nth ([o.2,p.2]:List Int) s) h (.r10 U U U U U U U U U U)<|.a9
     ·rintro Y h
      replace h:=(a9 Y).symm.trans h
      refine WC.b<|Ld<|La U<|Le 79 (y1d U)<|Le 80 (ya y9u U U)<|Le 81 (yc y3t U<|yh .h2 U)<|La U<|WL.nil<|Lb<|WC.cond U (fun aB=>?_)<|fun aB=>?_
      ·replace h:=yr h aB
       refine Ld<|La U<|La U<|Le 85 (y1d U)<|Le 86 (ya y9u U U)<|Lk U U (y4L (ds:=[G,E,H,I,D,J,K,F,M,(.map<|some b),(.map<|some c),(vi Y)]) ybP U U U U U .h2 U U)<|WL.nil<|Lq ?_
       exact Ln Y h (.r9 U U U U U U U U U)<|.s9 .h1 .h1 .here .here .here .here .here .here .here
      ·replace h:=ys h aB
       refine WC.skip<|Lq ?_
       exact Ln B h (.r9 U U U U U U U U U)<|.a9
    ·rintro ap h
     replace h:=(a7 ap).symm.trans h
     refine Ld<|La U<|La U<|WL.nil ?_
     exact WX.round ⟨a5,(i64 (s+1)),ap⟩ h (Nat.lt_succ_self _) (.r9 U U U U U U U U U)<|.a9
   ·replace h:=ys h az
    refine WC.exit<|Lm<|Lm<|Lw ?_
    exact Ln B h (.r6 U U U U U U)<|.s8 .here .h1 .h1 .h1 .h1 .h1 .h1 .h1
  ·rintro ar h
   replace h:=(a3 ar).symm.trans h
   refine WC.b ?_
   obtain⟨aL,ba,h⟩:=za h
   refine Lx (fun i=>[7].contains i) [] U<|Lf 0 88 U (fun _=>q_m U)<|Lf 1 89 U (fun _=>y1d U)<|Lf 2 90 U (fun _=>ya yeY U U)<|Li 3 91 U (yc zl6 U<|yh .h1 U)<|Li 4 92 U (yi z5o U (yj .h2) U)<|Li 5 93 U (yi zg U (yj .h4) U)<|L4 6 94 U (zb call83<|.cons U .nil) (ccz hz .nil .here fun w pz ho=>y6r ba w pz )<|Kc (i:=7) U (by kernel_rfl) U U U (by kernel_rfl) (y3P (k:=f) (v:=aL) zd9 underlying117 U U U U .h7)<|WD.done (by kernel_rfl)<|Lb<|WC.b ?_
   obtain⟨bb,bc,h⟩:=za h
   refine Lx (fun i=>[15].contains i) [] U<|Lf 0 95 U (fun _=>ya y9t U U)<|Li 1 96 U (yc yq U<|yh .h3 U)<|Lf 2 97 U (fun _=>ya yaS U U)<|Li 3 98 U (yc yq U<|yh .h3 U)<|Lf 4 99 U (fun _=>q_m U)<|Lf 5 100 U (fun _=>y1d U)<|Lf 6 101 U (fun _=>ya yeY U U)<|Li 7 102 U (yc zl6 U<|yh .h2 U)<|Li 8 103 U (yi z5o U (yj .h3) U)<|Li 9 104 U (y2V (k:=f) (dflt:=(0:Int)) zd9 underlying117 y2K U U U .here)<|Li 10 105 U (yi zg U (yj .h6) U)<|L4 11 106 U (zb call83<|.cons U .nil) (ccz hz .nil .h1 fun w pz ho=>y6r bc w pz )<|Lf 12 107 U (fun _=>q_m U)<|Lf 13 108 U (fun _=>y9H U U U)<|Lf 14 109 U (fun _=>yN (v:=(.agg #[(vi f.fNode),(vi f.fQ),(vi<|yd (yC g f aL) f 0),(vi<|i64 (bb+d.2.1))])) (Lo (l:=[.tmp 96,.tmp 98,.tmp 104,.tmp 108]) (.r4 U U U U) [0,1,2,3]) (fun _=>by kernel_rfl))<|Kc (i:=15) U (by kernel_rfl) U U U (by kernel_rfl) (yl y7X U U U .h4 U U U)<|WD.done (by kernel_rfl)<|Lb<|WC.ret ?_
   obtain rfl:=oJ h
   refine Lh results43 (.agg U y6C U (yj .here) .nil)<|fun w hw=>?_
   exact⟨yD U,hw.sub (.s3 .h3 .h6 .h1)⟩
def yH(a:S36)(b:S36):Option Int:=
 (y1x (⟨a.fNode,a.fQ⟩:z8) (⟨b.fNode,b.fQ⟩:z8)).bind fun c=>some c
theorem yey{Z:Zp}{a:S36}{b:S36}{r:Int}(h:yH a b=some r)(w₀:World)(hz:PZ [] w₀ Z):
  Calls Tryz.prog 44 #[(.agg #[(vi a.fNode),(vi a.fQ),(vi a.fDelay),(vi a.fT)]),(.agg #[(vi b.fNode),(vi b.fQ),(vi b.fDelay),(vi b.fT)])] w₀ fun e w'=>e = .returned (vi r)/\Hp [] w₀ w' []:=by
 unfold yH at h
 refine Lz func44 ntmps44 ?_
 refine WC.b<|Ld (Lg 2 (yI (cs:=[(vi a.fNode),(vi a.fQ),(vi a.fDelay),(vi a.fT)]) U U) fun d _=>Lg 3 (yI (cs:=[(vi b.fNode),(vi b.fQ),(vi b.fDelay),(vi b.fT)]) U U) fun f _=>La U<|WL.nil<|Lb<|WC.b ?_)
 obtain⟨g,c,h⟩:=za h
 refine Ld<|Le 5 (ya y6D U U)<|Le 6 (yc yq U<|yh .h1 U)<|Le 7 (ya y7Y U U)<|Le 8 (yc yq U<|yh .h1 U)<|Le 9 (yN (v:=(.agg #[(vi a.fNode),(vi a.fQ)])) (Lo (l:=[.tmp 6,.tmp 8]) (.r2 U U) [0,1]) (fun _=>by kernel_rfl))<|Le 10 (ya y6D U U)<|Le 11 (yc yq U<|yh .here U)<|Le 12 (ya y7Y U U)<|Le 13 (yc yq U<|yh .here U)<|Le 14 (yN (v:=(.agg #[(vi b.fNode),(vi b.fQ)])) (Lo (l:=[.tmp 11,.tmp 13]) (.r2 U U) [0,1]) (fun _=>by kernel_rfl))<|Ll 15 (zb call45<|.r2 U U) .nil (cc hz .nil fun w pz ho=>y90 c w pz )<|La U<|WL.nil<|Lb<|WC.ret ?_
 obtain rfl:=oJ h
 refine Lh results44 (.tmp U .nil)<|fun w hw=>?_
 exact⟨yD U,hw.sub .nil⟩
theorem srtA_56:∀ w,(isAgg (Tryz.y3U.t 24)).run Tryz.prog w = .ok true w:=fun _=>by kernel_rfl
theorem srtZ_56:∀ w,(Go.sizeOf (Tryz.y3U.t 24)).run Tryz.prog w = .ok 4 w:=fun _=>by kernel_rfl
def y2E(z5U:List S36)(znC:Int)(znD:Int)(zk0:Int)(zgW:S36->S36->Option Int):Option (List S36):=chk ((znC=0/\znD=(z5U.length:Int))/\(0<=zk0/\zk0<4611686018427387904/\z5U.length<4611686018427387904)) (chk (y8r zgW (yK zgW z5U)=true) (some (yK zgW z5U)))
theorem y7x(Z:Zp)(zgX:Option Addr)(zgY:Nat)(znE:FuncId)(zA3:List Value)(z5U:List S36)(znC:Int)(znD:Int)(zk0:Int)(zgW:S36->S36->Option Int)(r:List S36)(w₀:World)(hz:PZ (fps [row (vs zgX z5U.length zgY) 37 4 (z5U.flatMap e37)]) w₀ Z)(a:∀ args w,(callFunc znE args).run Tryz.prog w = .ok (.enter znE args) w)(b:∀ w:World,PZ [] w Z->∀(x0:S36) (x1:S36) (r:Int),zgW x0 x1=some r->Calls Tryz.prog znE (([(.agg #[(vi x0.fNode),(vi x0.fQ),(vi x0.fDelay),(vi x0.fT)]),(.agg #[(vi x1.fNode),(vi x1.fQ),(vi x1.fDelay),(vi x1.fT)])]:List Value)++zA3).toArray w fun e w'=>e = .returned (vi r)/\Hp [] w w' [])(h:y2E z5U znC znD zk0 zgW=some r)(hown:Hp (fps [row (vs zgX z5U.length zgY) 37 4 (z5U.flatMap e37)]) w₀ w₀ [row (vs zgX z5U.length zgY) 37 4 (z5U.flatMap e37)]):
  Calls Tryz.prog 56 #[(vs zgX z5U.length zgY),(vi znC),(vi znD),(vi zk0),(.func (.func znE) #[] (zA3).toArray)] w₀ fun e w'=>e = .returned (.tuple #[])/\(r.length=z5U.length)/\Hp (fps [row (vs zgX z5U.length zgY) 37 4 (z5U.flatMap e37)]) w₀ w' [row (vs zgX r.length zgY) 37 4 (r.flatMap e37)]:=by
 obtain⟨h0,h⟩:=yo h
 obtain⟨h1,h⟩:=yo h
 have hr:=(oJ h).symm
 exact y9S (P:=Tryz.prog) (f:=56) (e:=37) (k:=4) (enc:=e37) (fun _=>U) (by decide) yfu (fun β _ enc cf g cb hO blk off cap d0 w0 eg hC R=>Tryz.y9T 4 srtA_56 srtZ_56 enc cf g cb hO blk off cap d0 w0 eg hC R) (Tryz.y9r (α:=Unit)) hz a b h0 h1 hr hown
def yS(a:List S36)(zgZ:S36->S36->Option Int):Option (List S36):=
 (y4i (u64 (a.length:Int))).bind fun b=>(y2E a 0 (a.length:Int) b zgZ).bind fun c=>some c
theorem y47(Z:Zp)(b:Option Addr)(c:Nat)(zh0:FuncId)(znF:List Value)(a:List S36)(zgZ:S36->S36->Option Int)(r:List S36)(h:yS a zgZ=some r)(w₀:World)(hz:PZ (fps [row (vs b a.length c) 37 4 (a.flatMap e37)]) w₀ Z)(j:∀ args w,(callFunc zh0 args).run Tryz.prog w = .ok (.enter zh0 args) w)(k:∀ w:World,PZ [] w Z->∀(x0:S36) (x1:S36) (r:Int),zgZ x0 x1=some r->Calls Tryz.prog zh0 (([(.agg #[(vi x0.fNode),(vi x0.fQ),(vi x0.fDelay),(vi x0.fT)]),(.agg #[(vi x1.fNode),(vi x1.fQ),(vi x1.fDelay),(vi x1.fT)])]:List Value)++znF).toArray w fun e w'=>e = .returned (vi r)/\Hp [] w w' [])(hown:Hp (fps [row (vs b a.length c) 37 4 (a.flatMap e37)]) w₀ w₀ [row (vs b a.length c) 37 4 (a.flatMap e37)]):
  Calls Tryz.prog 26 #[(vs b a.length c),(.func (.func zh0) #[] (znF).toArray)] w₀ fun e w'=>e = .returned (.tuple #[])/\(r.length=a.length)/\Hp (fps [row (vs b a.length c) 37 4 (a.flatMap e37)]) w₀ w' [row (vs b r.length c) 37 4 (r.flatMap e37)]:=by
 unfold yS at h
 refine Kf func26 ntmps26 hown ?_
 refine WC.b<|Ld<|La U<|Le 6 (yJ underlying33 U)<|La U<|WL.nil<|Lb ?_
 obtain⟨d,l,h⟩:=za h
 obtain⟨f,m,h⟩:=za h
 refine Ld<|La U<|La U<|La U<|Le 10 (y8R underlying3 underlying147 U U)<|Ll 11 (zb call57<|.cons U .nil) .nil (cc hz .nil fun w pz ho=>y91 (Z:=_)  (z8d:=(u64 (a.length:Int))) (r:=d) w pz  l)<|La U<|WL.y5c (dd:=13) U U U (zb call56<|.r5 U U U U U) (.cons .here .nil) (cc hz (.cons .here .nil) fun w pz ho=>y7x (Z:=_) (zgX:=b) (zgY:=c) (znE:=zh0) (zA3:=znF) (z5U:=a) (znC:=0) (znD:=(a.length:Int)) (zk0:=d) (zgW:=zgZ) (r:=f) w pz j k m ho) ?_
 rintro  g
 refine Kh (i:=0) U (u:=(vs b f.length c)) (yac g.symm)<|WL.nil ?_
 obtain rfl:=oJ h
 refine WX.y58 results26 .nil<|fun w hw=>?_
 exact⟨y7A,(g.trans U),hw.sub (.cons .here .nil)⟩
def y48(a:List ze)(c:Option Bool):Nat->Int->Option Bool
 | 0,_=>none
 | e+1,b=>if decide (b<(a.length:Int)) then chk ((0:Int)<=b/\b<(a.length:Int)) (chk ((0:Int)<=0/\(0:Int)<=b/\b<=(a.length:Int)) ((y5M (a.take (b:Int).toNat) ((nth a b).fNode)).bind fun d=>chk ((!d.2)=true->((0:Int)<=0/\0<(a.length:Int))) (if (!d.2)&&(decide (((nth a b).fNode)≠((nth a 0).fNode))) then some false else y48 a c e (i64 (b+1))))) else c
def y7K(a:List ze):Option Bool:=
 jp0 (some true) fun b=>y48 a b yy 0
theorem yhI{Z:Zp}{r:Bool}(h:y7K l=some r)(w₀:World)(hz:PZ [] w₀ Z)(f:ZS Z 3 (fun r x=>r=e60 x) n m l):
  Calls Tryz.prog 59 #[(vs n l.length m)] w₀ fun e w'=>e = .returned (.bool r)/\Hp [] w₀ w' []:=by
 unfold y7K at h
 refine L5 func59 ntmps59 ?_
 refine WC.b<|Ld<|La U<|WL.nil<|Lb ?_
 obtain⟨p,t,h⟩:=y2m h
 refine L8 ((p=some r)) ([]) ([]) ?_ ?_
 ·skip
  let C:Value:=(vs n l.length m);let D:Value:=(vi (l.length:Int));refine WC.b (Ld (La U (Le 8 (yJ underlying58 U) (La U (WL.nil (Lb (WC.block (L9 (fun(c:Nat) (a:Int)=>(y48 l p c a=some r)) (fun c a=>[(0,C),(7,C),(8,D),(9,(vi a))]) (fun c a=>[]) (fun c a=>c) ⟨yy,0⟩ h (.r4 U U U U) .nil ?_))))))))
  rintro(_|u) a h;·cases h
  rw[y48] at h
  refine WC.b<|Ld<|La U<|WL.nil<|Lb<|WC.b<|WC.cond U (fun g=>?_)<|fun g=>?_
  ·replace h:=yr h g
   refine WC.skip<|Lb<|WC.b<|WC.block<|WC.b ?_
   obtain⟨v,h⟩:=yo h
   refine Ld<|La U<|L0 (dd:=12) U U (Z:=Z) (Pr:=(fun r x=>r=e60 x)) y69 U U f v ?_
   rintro y N z O rfl
   refine Le 13 (yi y49 U (y2j hz.pv z) U) (Lg 4 (yu (cs:=[(vi 0),(vi 0),(vi 0)]) y6Y U) fun q _=>La U<|Lk U U (yl y7h U U U .here U U U)<|WL.nil<|Lb<|WC.b ?_)
   obtain⟨B,h⟩:=yo h
   obtain⟨b,F,h⟩:=za h
   refine Lx (fun i=>[10].contains i) [] U<|Lf 0 15 U (fun _=>q_m U)<|Lf 1 16 U (fun _=>q_m U)<|WD.zsub (j:=2) (dd:=17) (by kernel_rfl) U z2k z2l U U (Z:=Z) (Pr:=(fun r x=>r=e60 x)) y69 U f (fun _=>ixn) (fun _=>ixo U) U U B (List.drop_zero).symm ?_
   rintro G H I
   refine Lf 3 18 U (fun _=>ya y4a U U)<|Li 4 19 U (yc yq U<|yh .here U)<|L4 5 20 U (zb call77<|.r2 U U) (cc hz .nil fun w pz ho=>yaT F w pz I)<|Lf 6 14 U (fun _=>q_m U)<|Lf 7 21 U (fun _=>y8D U U)<|Lf 8 22 U (fun _=>y8D U U) (WD.new (i:=9) (dd:=5) U (by kernel_rfl) U U U (yu (cs:=[(vi 0),(vi 0),(vi 0)]) y6Y U) (fun h'=>absurd h' (by decide)) fun J _=>WD.forced0 (i:=10) U (by kernel_rfl) U U U (Sin.of .nil) (yl y7h U U U .here U U U)<|Lf 11 6 U (fun _=>q_z U)<|WD.done (by kernel_rfl)<|Lb<|WC.b ?_)
   obtain⟨K,h⟩:=yo h
   let A:Value:=(.agg #[(vi b.1.fNode),(vi b.1.fNext),(vi b.1.fQ)]);let E:Value:=(vi ((nth l a).fNode));refine Lx (fun i=>[].contains i) [] U (Lf 0 23 U (fun _=>q_m U) (Lf 1 24 U (fun _=>q_not U) (Lf 2 25 U (fun _=>q_m U) (Ke (fuel':=0) [(0,C),(7,C),(8,D),(9,(vi a)),(10,(.bool (decide (a<(l.length:Int))))),(11,(vi a)),(12,(vq y)),(13,(.agg #[E,(vi ((nth l a).fNext)),(vi ((nth l a).fQ))])),(4,(vp q)),(3,(vi a)),(15,C),(16,(vi a)),(17,(vs G ((l.take (a:Int).toNat).length) H)),(18,(vp q)),(19,E),(20,(.tuple #[A,(.bool b.2)])),(14,(.tuple #[A,(.bool b.2)])),(21,A),(22,(.bool b.2)),(5,(vp J)),(6,(.bool b.2)),(23,(.bool b.2)),(24,(.bool (!b.2))),(25,(.bool (!b.2))),(33,(.bool ((!b.2)&&(decide (((nth l a).fNode)≠((nth l 0).fNode))))))] (y2e 11 (dn 11)) ?_ (fun s=>?_)))))
   rotate_left
   ·rcases Bool.eq_false_or_eq_true (!b.2) with hb' | hb'
    ·have d:=hb';clear hb'
     have L:=K d
     refine L3 (i:=25) U d<|Lf 3 26 U (fun _=>ya y4a U U)<|Li 4 27 U (yc yq U<|yh .h1 U)<|Lf 5 28 U (fun _=>q_m U)<|L7 (j:=6) (dd:=29) (by kernel_rfl) U z2k z2l U U (Z:=Z) (Pr:=(fun r x=>r=e60 x)) y69 U U f L ?_
     rintro P Q M R rfl
     refine Lf 7 30 U (fun _=>ya y4a U U)<|Li 8 31 U (yc yq U<|y1b hz.pv M U)<|Lf 9 32 U (fun _=>q_neq U U)<|Lf 10 33 U (fun _=>y4o U U)<|Ly (.a2) ?_ s
     exact .r25 U U U U U U U U U U U U U U U U U U U U U U U (zO<|Eq.symm d)<|zO<|y4g d
    ·have k:=hb';clear hb'
     refine L3 (i:=25) U k<|Lp 3 26 U<|Lp 4 27 U<|Lp 5 28 U<|Lp 6 29 U<|Lp 7 30 U<|Lp 8 31 U<|Lp 9 32 U<|Lf 10 33 U (fun _=>y4p U U)<|Ly (.a2) ?_ s
     exact .r25 U U U U U U U U U U U U U U U U U U U U U U U (zO<|Eq.symm k)<|zO<|y4f k
   refine WD.done (by kernel_rfl)<|Lb<|WC.cond U (fun o=>?_)<|fun o=>?_
   ·replace h:=yr h o
    refine WC.b<|Ld<|La U<|WL.nil<|Lb<|WC.ret<|Lt<|Lj<|Lj<|Lt<|Lj ?_
    obtain rfl:=oJ h
    refine Lh results59 (.tmp U .nil)<|fun w hw=>?_
    exact⟨yD U,hw.sub .nil⟩
   ·replace h:=ys h o
    refine WC.skip<|Lq<|Lb<|Ld<|La U<|La U<|WL.nil ?_
    exact WX.round ⟨u,(i64 (a+1))⟩ h (Nat.lt_succ_self _) (.r4 U U U U) .nil
  ·replace h:=ys h g
   refine WC.exit<|Lm<|Lm<|Lw ?_
   exact Ln () h .nil .nil
 ·rintro  h
  replace h:=t.symm.trans h
  refine WC.b<|Ld<|La U<|WL.nil<|Lb<|WC.ret ?_
  obtain rfl:=oJ h
  refine Lh results59 (.tmp U .nil)<|fun w hw=>?_
  exact⟨yD U,hw.sub .nil⟩
def y4u(a:List ze):Option Bool:=
 (y7K a).bind fun b=>some (!b)
theorem ygn{Z:Zp}{r:Bool}(h:y4u l=some r)(w₀:World)(hz:PZ [] w₀ Z)(a:ZS Z 3 (fun r x=>r=e60 x) n m l):
  Calls Tryz.prog 58 #[(vs n l.length m)] w₀ fun e w'=>e = .returned (.bool r)/\Hp [] w₀ w' []:=by
 unfold y4u at h
 refine L5 func58 ntmps58 ?_
 refine WC.b<|Ld<|La U<|WL.nil<|Lb<|WC.b ?_
 obtain⟨c,b,h⟩:=za h
 refine Ld<|La U<|Ll 4 (zb call59<|.cons U .nil) .nil (cc hz .nil fun w pz ho=>yhI b w pz a)<|La U<|La U<|WL.nil<|Lb<|WC.ret ?_
 obtain rfl:=oJ h
 refine Lh results58 (.tmp U .nil)<|fun w hw=>?_
 exact⟨yD U,hw.sub .nil⟩
def y1g(a:zj)(b:zj):Option Int:=
 some (i64 (a.fNode-b.fNode))
theorem ygo{Z:Zp}{a:zj}{b:zj}{r:Int}(h:y1g a b=some r)(w₀:World)(hz:PZ [] w₀ Z):
  Calls Tryz.prog 62 #[(.agg #[(vi a.fVL),(vi a.fNode),(vi a.fDelay)]),(.agg #[(vi b.fVL),(vi b.fNode),(vi b.fDelay)])] w₀ fun e w'=>e = .returned (vi r)/\Hp [] w₀ w' []:=by
 unfold y1g at h
 refine Lz func62 ntmps62 ?_
 refine WC.b<|Ld (Lg 2 (yI (cs:=[(vi a.fVL),(vi a.fNode),(vi a.fDelay)]) U U) fun c _=>Lg 3 (yI (cs:=[(vi b.fVL),(vi b.fNode),(vi b.fDelay)]) U U) fun d _=>La U<|WL.nil<|Lb<|WC.b<|Ld<|Le 5 (ya ye2 U U)<|Le 6 (yc yq U<|yh .h1 U)<|Le 7 (ya ye2 U U)<|Le 8 (yc yq U<|yh .here U)<|La U<|La U<|WL.nil<|Lb<|WC.ret ?_)
 obtain rfl:=oJ h
 refine Lh results62 (.tmp U .nil)<|fun w hw=>?_
 exact⟨yD U,hw.sub .nil⟩
theorem zYc:∀ w,(isAgg (Tryz.y3B.t 24)).run Tryz.prog w = .ok true w:=fun _=>by kernel_rfl
theorem zYd:∀ w,(Go.sizeOf (Tryz.y3B.t 24)).run Tryz.prog w = .ok 3 w:=fun _=>by kernel_rfl
def y4G(z5V:List zj)(znH:Int)(znI:Int)(zk2:Int)(zh3:zj->zj->Option Int):Option (List zj):=chk ((znH=0/\znI=(z5V.length:Int))/\(0<=zk2/\zk2<4611686018427387904/\z5V.length<4611686018427387904)) (chk (y8r zh3 (yK zh3 z5V)=true) (some (yK zh3 z5V)))
theorem y8P(Z:Zp)(zh4:Option Addr)(zh5:Nat)(znJ:FuncId)(zA9:List Value)(z5V:List zj)(znH:Int)(znI:Int)(zk2:Int)(zh3:zj->zj->Option Int)(r:List zj)(w₀:World)(hz:PZ (fps [row (vs zh4 z5V.length zh5) 53 3 (z5V.flatMap e53)]) w₀ Z)(a:∀ args w,(callFunc znJ args).run Tryz.prog w = .ok (.enter znJ args) w)(b:∀ w:World,PZ [] w Z->∀(x0:zj) (x1:zj) (r:Int),zh3 x0 x1=some r->Calls Tryz.prog znJ (([(.agg #[(vi x0.fVL),(vi x0.fNode),(vi x0.fDelay)]),(.agg #[(vi x1.fVL),(vi x1.fNode),(vi x1.fDelay)])]:List Value)++zA9).toArray w fun e w'=>e = .returned (vi r)/\Hp [] w w' [])(h:y4G z5V znH znI zk2 zh3=some r)(hown:Hp (fps [row (vs zh4 z5V.length zh5) 53 3 (z5V.flatMap e53)]) w₀ w₀ [row (vs zh4 z5V.length zh5) 53 3 (z5V.flatMap e53)]):
  Calls Tryz.prog 110 #[(vs zh4 z5V.length zh5),(vi znH),(vi znI),(vi zk2),(.func (.func znJ) #[] (zA9).toArray)] w₀ fun e w'=>e = .returned (.tuple #[])/\(r.length=z5V.length)/\Hp (fps [row (vs zh4 z5V.length zh5) 53 3 (z5V.flatMap e53)]) w₀ w' [row (vs zh4 r.length zh5) 53 3 (r.flatMap e53)]:=by
 obtain⟨h0,h⟩:=yo h
 obtain⟨h1,h⟩:=yo h
 have hr:=(oJ h).symm
 exact y9S (P:=Tryz.prog) (f:=110) (e:=53) (k:=3) (enc:=e53) (fun _=>U) (by decide) yhB (fun β _ enc cf g cb hO blk off cap d0 w0 eg hC R=>Tryz.y9n 3 zYc zYd enc cf g cb hO blk off cap d0 w0 eg hC R) (Tryz.y9b (α:=Unit)) hz a b h0 h1 hr hown
end Go.Proofs.YthjnhebofpebpaaGreat
