/- A part of this claim's proof: models of functions, walks, plain laws. No conditions. -/
import Derived.Test.YthjnhebofpebpaaGreatW36d
set_option linter.all false
namespace Go.Proofs.YthjnhebofpebpaaGreat
open Go Go.RowKit Sep
set_option maxRecDepth 30000
set_option maxHeartbeats 4000000
def y34(z8j:List (List z6))(z72:zSv)(zcK:z2)(z4n:List z2)(zqV:Int):Option (Bool×(Nat×List z2×Int)):=
 (y5k (⟨zqV⟩:z1y) zcK z8j z72).bind fun z8k=>(if decide (((z4n.length:Nat):Int)=0) then some true else chk ((0:Int)≤0∧0<((z4n.length:Nat):Int)) ((y1u z8k.1 (⟨((nth z4n 0).fN),((nth z4n 0).fD)⟩:z2)).bind fun zJc=>some (decide (zJc>0)))).bind fun zzg=>if zzg then some (true,(0,([z8k.1]:List z2),z8k.2.fE)) else some (true,(0,z4n,z8k.2.fE))
def y4t(z1f:List (List z6))(zq:zSv)(z8j:List (List z6))(z72:zSv)(z1g:List z2):Option (z2×Int):=
 (y44 z1f zq z8j z72 z1g).bind fun znr=>if decide (znr≠0) then some ((⟨0,0⟩:z2),znr) else jp2 (fun(zaz:Int) (z7t:List z2)=>if decide (zaz≠0) then some ((⟨0,0⟩:z2),zaz) else chk ((0:Int)≤0∧0<((z7t.length:Nat):Int)) (some ((⟨((nth z7t 0).fN),((nth z7t 0).fD)⟩:z2),0))) fun zzh=>(y4N z1f zq z8j z72 z1g).bind fun zB=>(y3l (Nat×List z2×Int) (fun(x:z2) (s:Nat×List z2×Int)=>chk (s.1=0) (y34 z8j z72 x s.2.1 s.2.2)) (0,([]:List z2),0) z1f (⟨(⟨zB.1,zB.2.1⟩:z2),(⟨zB.2.2.1,zB.2.2.2⟩:z2)⟩:zSv) z8j z72 z1g).bind fun z4K=>zzh z4K.2.2 z4K.2.1
theorem ybm{Z:Zp}{z1A:Option Addr}{z1B:Nat}{z1t:Addr}{zzi:Option Addr}{zzj:Nat}{z1u:Addr}{z1C:Option Addr}{z1D:Nat}{z1f:List (List z6)}{zq:zSv}{z8j:List (List z6)}{z72:zSv}{z1g:List z2}{r:z2×Int}(h:y4t z1f zq z8j z72 z1g=some r)(w₀:World)(hz:PZ [] w₀ Z)(zzk:ZS Z 1 (y26 Z) z1A z1B z1f)(zqW:ZS Z 1 (y26 Z) zzi zzj z8j)(zqX:ZC Z z1t [(.slice zzi z8j.length zzj)])(zqY:ZC Z z1u [(vi z72.fRate.fN),(vi z72.fRate.fD),(vi z72.fL.fN),(vi z72.fL.fD)])(zzl:ZS Z 2 (fun r x=>r=yA x) z1C z1D z1g):
  Calls Tryz.prog 127 #[(.agg #[(.slice z1A z1f.length z1B),(vi zq.fRate.fN),(vi zq.fRate.fD),(vi zq.fL.fN),(vi zq.fL.fD),(.func (.func 122) #[] #[(vq z1t),(vq z1u)]),(.slice z1C z1g.length z1D)])] w₀ fun e w'=>e = .returned (.tuple #[(.agg #[(vi r.1.fN),(vi r.1.fD)]),(vi r.2)])∧Hp [] w₀ w' []:=by
 unfold y4t at h
 let F:Value:=(.func (.func 122) #[] #[(vq z1t),(vq z1u)]);let N:Value:=(.slice z1A z1f.length z1B);let O:Value:=(.slice z1C z1g.length z1D);let H:Value:=(.agg #[N,(vi zq.fRate.fN),(vi zq.fRate.fD),(vi zq.fL.fN),(vi zq.fL.fD),F,O]);refine Calls.y9f (vs:=[H]) (pre:=[]) (env:=[(0,H)]) Tryz.func127 U Tryz.ntmps127 U (Hp.nil w₀ _) U ?_
 let E:List Value:=[N,(vi zq.fRate.fN),(vi zq.fRate.fD),(vi zq.fL.fN),(vi zq.fL.fD),F,O];refine WC.b (Ld (Lg 1 (yI (cs:=E) U U) ?_))
 intro z4b _
 refine Lg 2 (yv (cs:=[(vi 0),(vi 0)]) zV U) fun z4o _=>La U<|WL.nil<|Lb<|WC.b<|WC.b ?_
 obtain⟨znr,zWb,h⟩:=za h
 refine Ld<|Le 9 (yh zhW U (yj .h1) U)<|Lk 10 (zb Tryz.call163<|.cons U .nil) .nil (cc hz .nil fun w pz ho=>yaH zWb w pz zzk zqW zqX zqY zzl)<|La U<|WL.nil<|Lb<|WC.b<|Ld<|La U<|La U<|WL.nil<|Lb<|WC.cond U (fun zzm=>?_)<|fun zzm=>?_
 ·replace h:=yr h zzm
  refine WC.b<|Ld<|Le 13 (yL (v:=(.agg #[(vi 0),(vi 0)])) (Lp (l:=[]) .nil []) (fun _=>by kernel_rfl))<|La U<|Ll U U (yn zz U U U .here U U U)<|La U<|WL.nil<|Lb<|WC.ret<|Lj ?_
  obtain rfl:=oJ h
  refine WX.ycv Tryz.results127 (.agg U zg U (yj .here)<|.tmp U .nil)<|fun w hw=>?_
  exact⟨y1R U U,hw.sub .nil⟩
 ·replace h:=ys h zzm
  refine WC.skip<|Lb<|WC.b<|Ld (Lg 5 (yv (cs:=[(vi 0)]) zp4 U) fun z3t _=>WL.nil<|Lb<|WC.b<|Ld (Lg 6 (yv (cs:=[vn]) zsX U) fun z3O _=>WL.nil<|Lb ?_))
  obtain⟨zzh,zWc,h⟩:=y57 h
  refine WC.yds (fun(zns:Nat) (zaz:Int) (z7t:List z2) (znt:Option Addr) (znu:Nat)=>(zzh zaz z7t=some r)) (fun(zns:Nat) (zaz:Int) (z7t:List z2) (znt:Option Addr) (znu:Nat)=>[(2,(vp z4o)),(5,(vp z3t)),(6,(vp z3O))]) (fun(zns:Nat) (zaz:Int) (z7t:List z2) (znt:Option Addr) (znu:Nat)=>[stb z4o 175 [(vi 0),(vi 0)],stb z3t 277 [(vi zaz)],stb z3O 229 [(.slice znt z7t.length znu)],row (.slice znt z7t.length znu) 175 2 (z7t.flatMap yA),dfr zns]) ?_ ?_
  ·skip
   refine WC.b ?_
   obtain⟨zB,zWd,h⟩:=za h
   refine Ld<|Le 15 (yh zhW U (yj .h3) U)<|WL.ycp (dd:=16) U U U (zb Tryz.call164<|.cons U .nil) .nil (cc hz .nil fun w pz ho=>yaq zWd w pz zzk zqW zqX zqY zzl) ?_
   rintro z5h _
   refine WL.nil<|Lb<|WC.block<|WC.drop (.s5 .h1 .h1 .h1 .h1 .here)<|WC.nilRow 175 2<|WC.rangeFunc (f:=201) (caps:=[(vp z5h)]) U Tryz.call201 ?_
   intro z17J z17K z4L z7u z5Z zqZ zWe zWf w hw
   let Q:Value:=(.slice none (([]:List z2).length) 0);let A:List Asrt:=[stb z3O 229 [Q],row Q 175 2 (([]:List z2).flatMap yA),stb z3t 277 [(vi 0)],stb z4o 175 [(vi 0),(vi 0)],stb z4b 231 E,blk z4L (z5Z .ready none)];have hw1:=hw.selAll ((.s6 .h3 .h2 .h2 .h2 .h2 .here):Sel _ A _)
   let C:List Value:=[N,(vi zB.1),(vi zB.2.1),(vi zB.2.2.1),(vi zB.2.2.2),F,O];let K:List Asrt:=[dfr z7u,stb z5h 231 C];have pz:=(hz.call hw1 ((.cons .here .nil):Sel [y1M A,dfr z7u,stb z5h 231 C] [y1M A] K)).lend hw1 ((.cons .here .nil):Sel [y1M A,dfr z7u,stb z5h 231 C] [y1M A] K) (B:=[stb z5h 231 C]) (fun _ hx'=>((.cons .h1 .nil):Sel _ [stb z5h 231 C] _).mem hx')
   obtain⟨z4K,zWg,h⟩:=za h
   refine Calls.mono (y9J (Z:=_) (z9N:=z4L) (z4I:=(Option Addr×Nat)) (z2W:=(fun(g:Option Addr×Nat) (s:Nat×List z2×Int)=>y1M ([stb z3O 229 [(.slice g.1 s.2.1.length g.2)],row (.slice g.1 s.2.1.length g.2) 175 2 (s.2.1.flatMap yA),stb z3t 277 [(vi s.2.2)],stb z4o 175 [(vi 0),(vi 0)],stb z4b 231 E]++[blk z4L (z5Z (rdy<|pcs [] s.1)<|pcs [] s.1)]))) (z8g:=(fun(g:Option Addr×Nat) (s:Nat×List z2×Int)=>True)) (zcA:=(none,0)) (zcB:=⟨z5h,0,none⟩) (zeU:=z1A) (zeV:=z1B) (zyI:=z1t) (zyJ:=zzi) (zyK:=zzj) (zyL:=z1u) (znh:=z1C) (zni:=z1D) (zx:=(Nat×List z2×Int)) (z2z:=(fun(x:z2) (s:Nat×List z2×Int)=>chk (s.1=0)<|y34 z8j z72 x s.2.1 s.2.2)) (s0_44460:=(0,([]:List z2),0)) (z3j:=z1f) (zgZ:=(⟨(⟨zB.1,zB.2.1⟩:z2),(⟨zB.2.2.1,zB.2.2.2⟩:z2)⟩:zSv)) (zng:=z8j) (zh0:=z72) (z3s:=z1g) (r:=z4K) w pz ?_ trivial ((zzk.mono<|Zle.left _ _).weak (fun _ _ h=>y3M (Zle.left _ _) h)) ((zqW.mono<|Zle.left _ _).weak (fun _ _ h=>y3M (Zle.left _ _) h)) (zqX.mono<|Zle.left _ _) (zqY.mono<|Zle.left _ _) (zzl.mono<|Zle.left _ _) ((hw1.lent ((.cons .here .nil):Sel [y1M A,dfr z7u,stb z5h 231 C] [y1M A] K) (B:=[stb z5h 231 C]) (fun _ hx'=>((.cons .h1 .nil):Sel _ [stb z5h 231 C] _).mem hx') (.head _) _).stb) zWg<|hw1.owns ((.cons .here .nil):Sel [y1M A,dfr z7u,stb z5h 231 C] [y1M A] K)) ?_
   ·skip
    refine yaO (LI:=(fun(g:Option Addr×Nat) (s:Nat×List z2×Int)=>[stb z3O 229 [(.slice g.1 s.2.1.length g.2)],row (.slice g.1 s.2.1.length g.2) 175 2 (s.2.1.flatMap yA),stb z3t 277 [(vi s.2.2)],stb z4o 175 [(vi 0),(vi 0)],stb z4b 231 E])) (pc:=(fun(s:Nat×List z2×Int)=>pcs [] s.1)) zqZ zWe zWf (fun _ _=>U) (by decide) ?_
    rintro zcK _ ⟨zk7,zk8⟩ ⟨zWh,z4n,zqV⟩ zWi zWj Fb wb zJd _ hz
    replace hz:=hz.left
    letI:Rnd:=inR z4L
    obtain⟨hp0,z8l⟩:=yl zJd
    replace hp0:zWh=0:=hp0;subst hp0;clear zJd
    replace z8l:y34 z8j z72 zcK z4n zqV=some (zWi,zWj):=z8l
    unfold y34 at z8l
    let I:Value:=(.slice zk7 z4n.length zk8);let L:Value:=(.agg #[(vi zcK.fN),(vi zcK.fD)]);let R:Value:=(.bool (decide (znr≠0)));refine WC.restr (env':=[(1,(vp z4b)),(12,R),(5,(vp z3t)),(6,(vp z3O)),(17,L)]) (.r5 U U U U U) (WC.eqL (L':=[stb z3O 229 [I],row I 175 2 (z4n.flatMap yA),stb z3t 277 [(vi zqV)],stb z4o 175 [(vi 0),(vi 0)],stb z4b 231 E,blk z4L (z5Z .ready none)]) U (Ld (Lg 7 (yv (cs:=[(vi 0),(vi 0)]) zV U) ?_)))
    intro zWk _
    refine Ll U U (yn zz U U U .here U U U)<|WL.nil<|WX.ybE zqZ .h6<|WC.block<|WC.b ?_
    obtain⟨z8k,zWl,z8l⟩:=za z8l
    refine Ld<|Le 18 (ya ybK U U)<|Le 19 (yc zDD U<|yi .h6 U)<|Le 20 (yh zg U (yj .h1) U)<|Lk 21 (y2G (l:=[.tmp 5,.tmp 20]) Tryz.call122 U<|.r2 U U) (.cons .h4 .nil) (cc hz (.cons .h4 .nil) fun w pz ho=>ycK zWl w pz zqW zqX zqY ho) (Lg 8 (yv (cs:=[(vi 0),(vi 0)]) zV U) fun zWm _=>Ll U U (yn zz U U U .here U U U)<|WL.nil<|Lb<|WC.b ?_)
    obtain⟨zzg,zJe,z8l⟩:=za z8l
    let P:Value:=(.bool (decide (((z4n.length:Nat):Int)=0)));refine Lv (fun i=>[].contains i) [] U (Li 0 22 U (yc z9j U (yi .h4 U)) (Lf 1 23 U (fun _=>yG Tryz.underlying229 U) (Lf 2 24 U (fun _=>y9U U U) (Lf 3 25 U (fun _=>q_m U) (Kb (fuel':=0) [(1,(vp z4b)),(12,R),(5,(vp z3t)),(6,(vp z3O)),(17,L),(7,(vp zWk)),(18,(.pointer (some ⟨z4b,5,none⟩))),(19,F),(20,L),(21,(.agg #[(vi z8k.1.fN),(vi z8k.1.fD)])),(8,(vp zWm)),(22,I),(23,(vi ((z4n.length:Nat):Int))),(24,P),(25,P),(32,(.bool zzg))] (y1U 11 [10,9,8,7,6,5,4,3,2,1,0]) ?_ (fun zJf=>?_))))))
    rotate_left
    ·rcases Bool.eq_false_or_eq_true (decide (((z4n.length:Nat):Int)=0)) with hb' | hb'
     ·have zzn:=hb';clear hb'
      have zzo:=yr zJe zzn
      replace zzo:=oJ zzo
      refine L2 (i:=25) U zzn<|Lm 4 26 U<|Lm 5 27 U<|Lm 6 28 U<|Lm 7 29 U<|Lm 8 30 U<|Lm 9 31 U<|Lf 10 32 U (fun _=>y3x U U)<|Lw (.a8) ?_ zJf
      exact .r16 U U U U U U U U U U U U U U (zD<|Eq.symm zzn)<|zD zzo
     ·have zzp:=hb';clear hb'
      have zha:=ys zJe zzp
      obtain⟨znv,zha⟩:=yl zha
      obtain⟨zJc,zWn,zha⟩:=za zha
      replace zha:=oJ zha
      refine L2 (i:=25) U zzp<|Li 4 26 U (yh zg U (yj .here) U)<|Li 5 27 U (yc z9j U<|yi .h4 U)<|WD.know (fun w hw=>Hp.y2u .h5 hw (by intro hz';have:=znv;rw[hz'] at this;omega)) ?_
      rintro⟨z17L,rfl⟩
      refine Lf 6 28 U (fun _=>yW z2p U U znv.1 znv.2 y30)<|Li 7 29 U (y14 (cs:=(yA<|nth z4n 0)) zg U U<|y4S .h5<|y31 (enc:=yA) (l:=z4n) (i:=0) (sz:=2) (fun _=>U) znv.1 znv.2)<|L4 8 30 U (zb Tryz.call129<|.r2 U U) (cc hz .nil fun w pz ho=>y4Z zWn w pz )<|Lf 9 31 U (fun _=>ye4 U U)<|Lf 10 32 U (fun _=>y3y U U)<|Lw (.a8) ?_ zJf
      exact .r16 U U U U U U U U U U U U U U (zD<|Eq.symm zzp)<|zD zha
    refine WD.done (by kernel_rfl)<|Lb<|WC.cond U (fun zzq=>?_)<|fun zzq=>?_
    ·replace z8l:=yr z8l zzq
     refine Ld<|Le 33 (yh zg U (yj .here) U) (Lg 34 (yS (cs:=([z8k.1]:List z2).flatMap yA) z2p (Lp (l:=[.tmp 33]) (.cons U .nil) [0]) (fun _=>by kernel_rfl) U (by unfold maxLen;omega)) fun zzr _=>Ll U U (yn zsY U U U .h5 U U U)<|WL.nil<|Lt ?_)
     obtain⟨rfl,rfl⟩:=yah z8l
     let M:Value:=(.slice (some ⟨zzr,0,none⟩) (([z8k.1]:List z2).length) 1);exact WX.y6N zqZ .h4 (fun w' hw'=>⟨((some ⟨zzr,0,none⟩),1),U,trivial,(hw'.selAll ((.s6 .h1 .h1 .h2 .h4 .h4 .here):Sel _ [stb z3O 229 [M],row M 175 2 (([z8k.1]:List z2).flatMap yA),stb z3t 277 [(vi z8k.2.fE)],stb z4o 175 [(vi 0),(vi 0)],stb z4b 231 E,blk z4L (z5Z .ready none)] _)).sub (.cons .here .nil)⟩)
    ·replace z8l:=ys z8l zzq
     refine WC.skip<|Lt ?_
     obtain⟨rfl,rfl⟩:=yah z8l
     exact WX.y6N zqZ .h2<|fun w' hw'=>⟨(zk7,zk8),U,trivial,(hw'.selAll ((.s6 .h4 .h4 .h2 .h3 .h3 .here):Sel _ [stb z3O 229 [I],row I 175 2 (z4n.flatMap yA),stb z3t 277 [(vi z8k.2.fE)],stb z4o 175 [(vi 0),(vi 0)],stb z4b 231 E,blk z4L (z5Z .ready none)] _)).sub (.cons .here .nil)⟩
   ·skip
    rintro _ w' ⟨⟨znw,znx⟩,rfl,_,hp⟩
    have hp1:=hw1.call ((.cons .here .nil):Sel [y1M A,dfr z7u,stb z5h 231 C] [y1M A] K) hp
    let J:Value:=(.slice znw z4K.2.1.length znx);have hp2:Hp _ _ w' [stb z3O 229 [J],row J 175 2 (z4K.2.1.flatMap yA),stb z3t 277 [(vi z4K.2.2)],stb z4o 175 [(vi 0),(vi 0)],stb z4b 231 E,blk z4L (z5Z (rdy (pcs [] z4K.1)) (pcs [] z4K.1)),dfr z7u,stb z5h 231 C]:=hp1.pickAll .here
    refine⟨_,pcs [] z4K.1,_,U,(hp2.sub ((.s8 .h5 .here .here .here .here .here .here .here):Sel _ [blk z4L (z5Z (rdy (pcs [] z4K.1)) (pcs [] z4K.1)),stb z3O 229 [J],row J 175 2 (z4K.2.1.flatMap yA),stb z3t 277 [(vi z4K.2.2)],stb z4o 175 [(vi 0),(vi 0)],stb z4b 231 E,dfr z7u,stb z5h 231 C] _)),?_⟩
    clear hp hp1 hp2 pz hw hw1
    refine wjN ?_
    letI:Rnd:=aft z7u
    refine Lt ?_
    exact WX.midR (D:=fun(g:Nat×Int×List z2×Option Addr×Nat)=>g.1) (G:=Nat×Int×List z2×Option Addr×Nat) ⟨z7u,z4K.2.2,z4K.2.1,znw,znx⟩ h (.r3 U U U)<|.s5 .h3 .h2 .here .here .h1
  ·rintro zns zaz z7t znt znu h
   replace h:=(zWc zaz z7t).symm.trans h
   letI:Rnd:=aft zns
   refine WC.b<|WC.b<|Ld<|Le 35 (ya y5A U U)<|Le 36 (yc y3A U<|yi .h1 U)<|La U<|WL.nil<|Lb<|WC.cond U (fun zzs=>?_)<|fun zzs=>?_
   ·replace h:=yr h zzs
    refine WC.b<|Lv (fun i=>[3].contains i) [y7S z3t 277 [(0,(vi zaz))]] U<|Lf 0 38 U (fun _=>yL (v:=(.agg #[(vi 0),(vi 0)])) (Lp (l:=[]) .nil []) (fun _=>by kernel_rfl))<|Lf 1 39 U (fun _=>ya y5A U U)<|L7 2 40 U (Sin.wk (.cons .h1 .nil)<|.stb (.cons U .nil) .nil) (yc y3A U<|y5Z .here<|.head _)<|WD.forced0 (i:=3) U (by kernel_rfl) U U U (Sin.wk (.cons .h1 .nil)<|.stb (.cons U .nil) .nil) (yn zz U U U .here U U U)<|Lf 4 3 U (fun _=>q_z U)<|WD.done (by kernel_rfl)<|Lb<|WC.ret<|Lj ?_
    obtain rfl:=oJ h
    refine WX.y7s .h4 Tryz.results127 (.agg U zg U (yj .h1)<|.tmp U .nil)<|fun w hw=>?_
    exact⟨y1R U U,hw.sub .nil⟩
   ·replace h:=ys h zzs
    refine WC.skip<|Lb<|WC.b ?_
    obtain⟨zny,h⟩:=yl h
    refine Ld<|Le 41 (yc z9j U<|yi .h2 U)<|Ki (fun w hw=>Hp.y2u .h3 hw (by intro hz';have:=zny;rw[hz'] at this;omega)) ?_
    rintro⟨z17M,rfl⟩
    refine Le 42 (yW z2p U U zny.1 zny.2 y30)<|Le 43 (y14 (cs:=(yA<|nth z7t 0)) zg U U<|y4S .h3<|y31 (enc:=yA) (l:=z7t) (i:=0) (sz:=2) (fun _=>U) zny.1 zny.2)<|Ll U U (yn zz U U U .here U U U)<|La U<|WL.nil<|Lb<|WC.ret ?_
    obtain rfl:=oJ h
    refine WX.y7s .h4 Tryz.results127 (.agg U zg U (yj .h1)<|.tmp U .nil)<|fun w hw=>?_
    exact⟨y1R U U,hw.sub .nil⟩
def y5R(zcL:List (List z6))(z4p:zSv):Option (z2×Int):=
 (y4t zcL z4p zcL z4p []).bind fun zzt=>some (zzt.1,zzt.2)
theorem ydQ{Z:Zp}{znz:Option Addr}{znA:Nat}{zcL:List (List z6)}{z4p:zSv}{r:z2×Int}(h:y5R zcL z4p=some r)(w₀:World)(hz:PZ [] w₀ Z)(zJg:ZS Z 1 (y26 Z) znz znA zcL):
  Calls Tryz.prog 81 #[(.slice znz zcL.length znA),(.agg #[(vi z4p.fRate.fN),(vi z4p.fRate.fD),(vi z4p.fL.fN),(vi z4p.fL.fD)])] w₀ fun e w'=>e = .returned (.tuple #[(.agg #[(vi r.1.fN),(vi r.1.fD)]),(vi r.2)])∧Hp [] w₀ w' []:=by
 unfold y5R at h
 refine Lz Tryz.func81 Tryz.ntmps81 ?_
 let A:Value:=(.slice znz zcL.length znA);refine WC.b (Ld (Lg 2 (yI (cs:=[A]) U U) ?_))
 intro zWo _
 refine Lg 3 (yI (cs:=[(vi z4p.fRate.fN),(vi z4p.fRate.fD),(vi z4p.fL.fN),(vi z4p.fL.fD)]) U U) fun zWp _=>Lg 4 (yv (cs:=[(vi 0),(vi 0)]) zV U) fun z17N _=>La U<|WL.nil<|Lb<|WC.b<|Ld<|Le 7 (yc z8A U<|yi .h2 U)<|Le 8 (yh zhV U (yj .h1) U)<|Le 9 (yL (v:=(.agg #[A,(vi z4p.fRate.fN),(vi z4p.fRate.fD),(vi z4p.fL.fN),(vi z4p.fL.fD),.nilFunc,vn])) (Lp (l:=[.tmp 7,.tmp 8]) (.r2 U U) [0,1]) (fun _=>by kernel_rfl)) (Lg 6 (yv (cs:=[vn,(vi 0),(vi 0),(vi 0),(vi 0),.nilFunc,vn]) zDx U) fun z17O _=>Ll U U (yn zDy U U U .here U U U)<|WL.nil<|Lb<|WC.b<|Ld<|Le 10 (y16<|L3 (l:=[.tmp 2,.tmp 3])<|.r2 U U)<|Le 11 (ya ybK U U)<|Ll U U (y4I (ds:=[A,(vi z4p.fRate.fN),(vi z4p.fRate.fD),(vi z4p.fL.fN),(vi z4p.fL.fD),(.func (.func 122) #[] #[(vp zWo),(vp zWp)]),vn]) zDz U U U U U .here U U)<|WL.nil<|Lb<|WC.b ?_)
 obtain⟨zzt,zWq,h⟩:=za h
 refine Ld<|Le 12 (yh zhW U (yj .here) U)<|Lk 13 (zb Tryz.call127<|.cons U .nil) .nil (ccl hz .nil (.s2 .h3 .h2) fun w pz ho la=>ybm zWq w pz ((zJg.mono<|Zle.left _ _).weak (fun _ _ h=>y3M (Zle.left _ _) h)) ((zJg.mono<|Zle.left _ _).weak (fun _ _ h=>y3M (Zle.left _ _) h)) ((la _ (.head _) _).stb) ((la _ (.tail _<|.head _) _).stb)<|ZS.nil _ _ _)<|La U<|La U<|Ll U U (yn zz U U U .h1 U U U)<|La U<|WL.nil<|Lb<|WC.ret ?_
 obtain rfl:=oJ h
 refine Lh Tryz.results81 (.agg U zg U (yj .here)<|.tmp U .nil)<|fun w hw=>?_
 exact⟨y1R U U,hw.sub .nil⟩
def y21(z4c:List (List z6))(zcM:Int→Int→Int→Option Int):Nat→Int→Int→Int→Int→Option Int
 | 0,_,_,_,_=>none
 | zzu+1,z6s,z8U,z8V,z8W=>if decide (z6s<((z4c.length:Nat):Int)) then chk ((0:Int)≤z6s∧z6s<((z4c.length:Nat):Int)) ((y24 (nth z4c z6s)).bind fun zzv=>if decide (zzv.2≠0) then some zzv.2 else(y5j (nth z4c z6s)).bind fun zJh=>(y1d (⟨z8U⟩:z1y) (fun(y0:z2) (y1:z2)=>y1q y0 y1) (⟨z8V,z8W⟩:z2) zJh.1).bind fun zhb=>y21 z4c zcM zzu (i64 (z6s+1)) zhb.2.fE zhb.1.fN zhb.1.fD) else zcM z8U z8V z8W
theorem y8c{n:Nat}{z4c:List (List z6)}{zcM:Int→Int→Int→Option Int}{z6s:Int}{z8U:Int}{z8V:Int}{z8W:Int}{r:Int}(h:y21 z4c zcM n z6s z8U z8V z8W=some r):∃ m,n=m+1:=by
 cases n with
 | zero=>cases h
 | succ m=>exact⟨m,rfl⟩
def y3S(z4c:List (List z6))(z2X:zSv)(zr0:List (List z6))(zk9:zSv)(zhc:List z2):Option Int:=
 (if decide (((z4c.length:Nat):Int)>32) then some true else(y1i z4c (fun(y0:List z6)=>y1A y0)).bind fun zJi=>some zJi).bind fun zzw=>(if zzw then some true else(y5a z2X).bind fun zJj=>some (!zJj)).bind fun zzx=>if zzx then some 2 else(y39).bind fun znB=>jp3 (fun(zcN:Int) (zf5:Int) (zf6:Int)=>(if decide (zcN=0) then(y1u (⟨zf5,zf6⟩:z2) z2X.fRate).bind fun zJk=>some (decide (zJk>0)) else some false).bind fun zzy=>if zzy then some 6 else some zcN) fun zcM=>y21 z4c zcM yx 0 0 znB.fN znB.fD
theorem yar{Z:Zp}{zka:Option Addr}{zkb:Nat}{znC:Addr}{zJl:Option Addr}{zJm:Nat}{znD:Addr}{znE:Option Addr}{znF:Nat}{z4c:List (List z6)}{z2X:zSv}{zr0:List (List z6)}{zk9:zSv}{zhc:List z2}{r:Int}(h:y3S z4c z2X zr0 zk9 zhc=some r)(w₀:World)(hz:PZ [] w₀ Z)(zJn:ZS Z 1 (y26 Z) zka zkb z4c)(z17P:ZS Z 1 (y26 Z) zJl zJm zr0)(z17Q:ZC Z znC [(.slice zJl zr0.length zJm)])(z17R:ZC Z znD [(vi zk9.fRate.fN),(vi zk9.fRate.fD),(vi zk9.fL.fN),(vi zk9.fL.fD)])(z17S:ZS Z 2 (fun r x=>r=yA x) znE znF zhc):
  Calls Tryz.prog 163 #[(.agg #[(.slice zka z4c.length zkb),(vi z2X.fRate.fN),(vi z2X.fRate.fD),(vi z2X.fL.fN),(vi z2X.fL.fD),(.func (.func 128) #[] #[(vq znC),(vq znD)]),(.slice znE zhc.length znF)])] w₀ fun e w'=>e = .returned (vi r)∧Hp [] w₀ w' []:=by
 unfold y3S at h
 refine L6 Tryz.func163 Tryz.ntmps163 ?_
 let C:Value:=(.slice zka z4c.length zkb);let A:List Value:=[C,(vi z2X.fRate.fN),(vi z2X.fRate.fD),(vi z2X.fL.fN),(vi z2X.fL.fD),(.func (.func 128) #[] #[(vq znC),(vq znD)]),(.slice znE zhc.length znF)];refine WC.b (Ld (Lg 1 (yI (cs:=A) U U) ?_))
 intro zr1 _
 refine La U<|WL.nil<|Lb<|WC.b<|WC.b ?_
 obtain⟨zzw,zJo,h⟩:=za h
 obtain⟨zzx,zJp,h⟩:=za h
 refine Ld<|Le 11 (ya y7w U U)<|Le 12 (yc z8A U<|yi .here U)<|Le 13 (yG Tryz.underlying171 U)<|La U<|La U<|Lx false 3 15 (B:=zzw) U U U U U U (fun h=>(oJ<|yr zJo h).symm) (fun _ zWr=>?_) ?_
 ·skip
  have znG:=ys zJo zWr
  obtain⟨zJi,zWs,znG⟩:=za znG
  replace znG:=oJ znG
  refine Le 16 (ya y7w U U)<|Le 17 (yc z8A U<|yi .here U)<|Lk 18 (zb Tryz.call196<|.r2 U U) .nil (cc hz .nil fun w pz ho=>y4H _ _ _ (zgA:=197) (zmH:=[]) _ (zgz:=(fun(y0:List z6)=>y1A y0)) _ zWs w pz zJn Tryz.call197<|fun w' hz' y0 ga0 gc0 r gh0 hr=>y7j hr w' hz' gh0)<|La U ?_
  exact Ly znG U U .all
 refine La U<|Lx false 4 20 (B:=zzx) U U U U U U (fun h=>(oJ<|yr zJp h).symm) (fun _ zWt=>?_) ?_
 ·skip
  have znH:=ys zJp zWt
  obtain⟨zJj,zWu,znH⟩:=za znH
  replace znH:=oJ znH
  refine Le 21 (ya ybL U U)<|Le 22 (y14 (cs:=[(vi z2X.fRate.fN),(vi z2X.fRate.fD),(vi z2X.fL.fN),(vi z2X.fL.fD)]) zhV U U<|y3D (s:=4) .here U)<|Lk 23 (zb Tryz.call198<|.cons U .nil) .nil (cc hz .nil fun w pz ho=>yap zWu w pz )<|La U<|La U ?_
  exact Ly znH U U .all
 refine WL.nil<|Lb<|WC.cond U (fun zzz=>?_)<|fun zzz=>?_
 ·replace h:=yr h zzz
  refine WC.b<|Ld<|La U<|WL.nil<|Lb<|WC.ret<|Lj ?_
  obtain rfl:=oJ h
  refine Lh Tryz.results163 (.tmp U .nil)<|fun w hw=>?_
  exact⟨yD U,hw.sub .nil⟩
 ·replace h:=ys h zzz
  refine WC.skip<|Lb<|WC.b<|Ld (Lg 3 (yv (cs:=[(vi 0)]) zp4 U) fun zr2 _=>WL.nil<|Lb<|WC.b ?_)
  obtain⟨znB,zWv,h⟩:=za h
  refine Ld<|Lk 26 (zb Tryz.call161 .nil) .nil (cc hz .nil fun w pz ho=>y4L zWv w pz ) (Lg 4 (yv (cs:=[(vi 0),(vi 0)]) zV U) fun zr3 _=>Ll U U (yn zz U U U .here U U U)<|WL.nil<|Lb ?_)
  obtain⟨zcM,zWw,h⟩:=y8U h
  refine Kc (fun(zcN:Int) (zf5:Int) (zf6:Int)=>(zcM zcN zf5 zf6=some r)) (fun zcN zf5 zf6=>[(1,(vp zr1)),(3,(vp zr2)),(4,(vp zr3))]) (fun zcN zf5 zf6=>[stb zr1 231 A,stb zr2 277 [(vi zcN)],stb zr3 175 [(vi zf5),(vi zf6)]]) ?_ ?_
  ·skip
   refine WC.b<|Ld<|Le 27 (ya y7w U U)<|Le 28 (yc z8A U<|yi .h2 U)<|Le 29 (yG Tryz.underlying171 U)<|La U<|WL.nil<|Lb<|WC.block<|WC.y7q (fun(zkc:Nat) (z6s:Int) (z8U:Int) (z8V:Int) (z8W:Int)=>(y21 z4c zcM zkc z6s z8U z8V z8W=some r)) (fun zkc z6s z8U z8V z8W=>[(1,(vp zr1)),(3,(vp zr2)),(4,(vp zr3)),(28,C),(29,(vi ((z4c.length:Nat):Int))),(30,(vi z6s))]) (fun zkc z6s z8U z8V z8W=>[stb zr1 231 A,stb zr2 277 [(vi z8U)],stb zr3 175 [(vi z8V),(vi z8W)]]) (fun zkc z6s z8U z8V z8W=>zkc) ⟨yx,0,0,znB.fN,znB.fD⟩ h (.r6 U U U U U U) (.s3 .h2 .h1 .here) ?_
   rintro zkc z6s z8U z8V z8W h
   obtain⟨zzu,rfl⟩:=y8c h
   rw[y21] at h
   refine WC.b<|Ld<|La U<|WL.nil<|Lb<|WC.b<|WC.cond U (fun zzA=>?_)<|fun zzA=>?_
   ·replace h:=yr h zzA
    refine WC.skip<|Lb<|WC.b<|WC.block<|WC.b ?_
    obtain⟨zWx,h⟩:=yl h
    refine Ld<|L0 (dd:=32) U U (Z:=Z) (Pr:=(y26 Z)) z9i U U zJn zWx ?_
    rintro z17T z17U zWy z17V ⟨z17W,z17X,rfl,zJq⟩
    refine Le 33 (yc zdB U<|y3a hz.pv zWy U)<|La U<|WL.nil<|Lb<|WC.b<|WC.b ?_
    obtain⟨zzv,zWz,h⟩:=za h
    refine Ld<|La U<|WL.y4b (dd:=36) U U U (zb Tryz.call199<|.cons U .nil) .nil (cc hz .nil fun w pz ho=>y7L zWz w pz zJq) ?_
    rintro z17Y z17Z _
    refine La U<|La U<|La U<|La U<|La U<|WL.nil<|Lb<|WC.b<|Ld<|La U<|La U<|WL.nil<|Lb<|WC.cond U (fun zzB=>?_)<|fun zzB=>?_
    ·replace h:=yr h zzB
     refine WC.b<|Ld<|La U<|La U<|WL.nil<|Lb<|WC.ret<|Lj<|Lq<|Lj<|Lj<|Lq<|Lj ?_
     obtain rfl:=oJ h
     refine Lh Tryz.results163 (.tmp U .nil)<|fun w hw=>?_
     exact⟨yD U,hw.sub .nil⟩
    ·replace h:=ys h zzB
     refine WC.skip<|Lb<|WC.b ?_
     obtain⟨zJh,zWA,h⟩:=za h
     refine Ld<|La U<|Lk 44 (zb Tryz.call200<|.cons U .nil) .nil (cc hz .nil fun w pz ho=>ycH zWA w pz zJq)<|La U<|La U<|La U (Lg 9 (yv (cs:=[(vi 0),(vi 0)]) zV U) fun z180 _=>Ll U U (yn zz U U U .here U U U)<|La U<|WL.nil<|Lb ?_)
     obtain⟨zhb,zWB,h⟩:=za h
     refine Ld<|Le 47 (yh zg U (yj .h4) U)<|Le 48 (yh zg U (yj .here) U)<|Lk 49 (zb Tryz.call123<|.r4 U U U U) (.cons .h3 .nil) (cc hz (.cons .h3 .nil) fun w pz ho=>y2L _ _ (z7p:=119) (z8O:=[]) _ (z8f:=(fun(y0:z2) (y1:z2)=>y1q y0 y1)) _ _ _ zWB w pz Tryz.call119 (fun w' hz' y0 y1  r  hr=>y6L hr w' hz' ) ho)<|Ll U U (yn zz U U U .h4 U U U)<|WL.nil<|Lt<|Lb<|Ld<|La U<|La U<|WL.nil ?_
     exact WX.round ⟨zzu,(i64 (z6s+1)),zhb.2.fE,zhb.1.fN,zhb.1.fD⟩ h (Nat.lt_succ_self _) (.r6 U U U U U U)<|.s3 .h4 .h1 .here
   ·replace h:=ys h zzA
    refine WC.exit<|Ln<|Ln<|Lu ?_
    exact Lo ⟨z8U,z8V,z8W⟩ h (.r3 U U U)<|.a3
  ·rintro zcN zf5 zf6 h
   replace h:=(zWw zcN zf5 zf6).symm.trans h
   refine WC.b<|WC.b ?_
   obtain⟨zzy,zJr,h⟩:=za h
   refine Ld<|Le 51 (ya y5A U U)<|Le 52 (yc y3A U<|yi .h1 U)<|La U<|La U<|Lx true 6 54 (B:=zzy) U U U U U U (fun h=>(oJ<|ys zJr h).symm) (fun _ zWC=>?_) ?_
   ·skip
    have znI:=yr zJr zWC
    obtain⟨zJk,zWD,znI⟩:=za znI
    replace znI:=oJ znI
    refine Le 55 (yh zg U (yj .h2) U)<|Le 56 (ya ybL U U)<|Le 57 (ya y96 U U)<|Le 58 (y14 (cs:=[(vi z2X.fRate.fN),(vi z2X.fRate.fD)]) zg U U<|y3D (s:=2) .here U)<|Lk 59 (zb Tryz.call129<|.r2 U U) .nil (cc hz .nil fun w pz ho=>y4Z zWD w pz )<|La U<|La U ?_
    exact Ly znI U U .all
   refine WL.nil<|Lb<|WC.cond U (fun zzC=>?_)<|fun zzC=>?_
   ·replace h:=yr h zzC
    refine WC.b<|Ld<|La U<|WL.nil<|Lb<|WC.ret<|Lj ?_
    obtain rfl:=oJ h
    refine Lh Tryz.results163 (.tmp U .nil)<|fun w hw=>?_
    exact⟨yD U,hw.sub .nil⟩
   ·replace h:=ys h zzC
    refine WC.skip<|Lb<|WC.b<|Ld<|Le 62 (ya y5A U U)<|Le 63 (yc y3A U<|yi .h1 U)<|La U<|WL.nil<|Lb<|WC.ret ?_
    obtain rfl:=oJ h
    refine Lh Tryz.results163 (.tmp U .nil)<|fun w hw=>?_
    exact⟨yD U,hw.sub .nil⟩
def y4B(zkd:List (List z6))(z7v:zSv)(zr4:List (List z6))(zke:zSv)(zkf:List z2):Option (Int×Int×Int×Int):=
 some (z7v.fRate.fN,z7v.fRate.fD,z7v.fL.fN,z7v.fL.fD)
theorem ya3{Z:Zp}{zr5:Option Addr}{zr6:Nat}{zr7:Addr}{zJs:Option Addr}{zJt:Nat}{zr8:Addr}{zr9:Option Addr}{zra:Nat}{zkd:List (List z6)}{z7v:zSv}{zr4:List (List z6)}{zke:zSv}{zkf:List z2}{r:Int×Int×Int×Int}(h:y4B zkd z7v zr4 zke zkf=some r)(w₀:World)(hz:PZ [] w₀ Z)(z181:ZS Z 1 (y26 Z) zr5 zr6 zkd)(z182:ZS Z 1 (y26 Z) zJs zJt zr4)(z183:ZC Z zr7 [(.slice zJs zr4.length zJt)])(z184:ZC Z zr8 [(vi zke.fRate.fN),(vi zke.fRate.fD),(vi zke.fL.fN),(vi zke.fL.fD)])(z185:ZS Z 2 (fun r x=>r=yA x) zr9 zra zkf):
  Calls Tryz.prog 164 #[(.agg #[(.slice zr5 zkd.length zr6),(vi z7v.fRate.fN),(vi z7v.fRate.fD),(vi z7v.fL.fN),(vi z7v.fL.fD),(.func (.func 128) #[] #[(vq zr7),(vq zr8)]),(.slice zr9 zkf.length zra)])] w₀ fun e w'=>∃ zJu:Nat,e = .returned (.func (.func 201) #[] #[(vp zJu)])∧True∧Hp [] w₀ w' [stb zJu 231 [(.slice zr5 zkd.length zr6),(vi r.1),(vi r.2.1),(vi r.2.2.1),(vi r.2.2.2),(.func (.func 128) #[] #[(vq zr7),(vq zr8)]),(.slice zr9 zkf.length zra)]]:=by
 unfold y4B at h
 refine L6 Tryz.func164 Tryz.ntmps164 ?_
 refine WC.b<|Ld (Lg 1 (yI (cs:=[(.slice zr5 zkd.length zr6),(vi z7v.fRate.fN),(vi z7v.fRate.fD),(vi z7v.fL.fN),(vi z7v.fL.fD),(.func (.func 128) #[] #[(vq zr7),(vq zr8)]),(.slice zr9 zkf.length zra)]) U U) fun zWE _=>La U<|WL.nil<|Lb<|WC.b<|Ld<|Le 3 (y16<|L3 (l:=[.tmp 1])<|.cons U .nil)<|La U<|WL.nil<|Lb<|WC.ret ?_)
 obtain rfl:=oJ h
 refine Lh Tryz.results164 (.tmp U .nil)<|fun w hw=>?_
 exact⟨zWE,yD U,trivial,hw.sub (.cons .here .nil)⟩
def y1H(zy:Type)(z36:List z2×Int)(z2A:z2→zy→Option (Bool×zy))(zcO:zy→Option zy):Nat→Int→zy→Option zy
 | 0,_,_=>none
 | zzD+1,z3u,z6t=>if decide (z3u<((z36.1.length:Nat):Int)) then chk ((0:Int)≤z3u∧z3u<((z36.1.length:Nat):Int)) ((y1Z (⟨((nth z36.1 z3u).fN),((nth z36.1 z3u).fD)⟩:z2)).bind fun zJv=>(y1w zJv).bind fun zzE=>(z2A zzE z6t).bind fun zaA=>(if !zaA.1 then some (true,zaA.2) else(y2Z (⟨((nth z36.1 z3u).fN),((nth z36.1 z3u).fD)⟩:z2)).bind fun zJw=>(y1w zJw).bind fun zzF=>(z2A zzF zaA.2).bind fun znJ=>some (!znJ.1,znJ.2)).bind fun zf7=>if zf7.1 then some zf7.2 else y1H zy z36 z2A zcO zzD (i64 (z3u+1)) zf7.2) else zcO z6t
theorem y7M{n:Nat}{zy:Type}{z36:List z2×Int}{z2A:z2→zy→Option (Bool×zy)}{zcO:zy→Option zy}{z3u:Int}{z6t:zy}{r:zy}(h:y1H zy z36 z2A zcO n z3u z6t=some r):∃ m,n=m+1:=by
 cases n with
 | zero=>cases h
 | succ m=>exact⟨m,rfl⟩
def y1I(zy:Type)(z3k:List (List z6))(z2A:z2→zy→Option (Bool×zy))(zcP:zy→Option zy):Nat→Int→zy→Option zy
 | 0,_,_=>none
 | zzG+1,z4M,z7w=>if decide (z4M<((z3k.length:Nat):Int)) then jp1 (fun(zaB:zy)=>y1I zy z3k z2A zcP zzG (i64 (z4M+1)) zaB) fun zzH=>chk ((0:Int)≤z4M∧z4M<((z3k.length:Nat):Int)) ((y24 (nth z3k z4M)).bind fun z36=>jp1 (fun(zaC:zy)=>zzH zaC) fun zcO=>y1H zy z36 z2A zcO yx 0 z7w) else zcP z7w
theorem y7N{n:Nat}{zy:Type}{z3k:List (List z6)}{z2A:z2→zy→Option (Bool×zy)}{zcP:zy→Option zy}{z4M:Int}{z7w:zy}{r:zy}(h:y1I zy z3k z2A zcP n z4M z7w=some r):∃ m,n=m+1:=by
 cases n with
 | zero=>cases h
 | succ m=>exact⟨m,rfl⟩
def y1J(zy:Type)(z3v:List z2)(z2A:z2→zy→Option (Bool×zy))(zcQ:zy→Option zy):Nat→Int→zy→Option zy
 | 0,_,_=>none
 | zzI+1,z4d,z6u=>if decide (z4d<((z3v.length:Nat):Int)) then chk ((0:Int)≤z4d∧z4d<((z3v.length:Nat):Int)) ((y1Z (⟨((nth z3v z4d).fN),((nth z3v z4d).fD)⟩:z2)).bind fun zJx=>(y1w zJx).bind fun zzJ=>(z2A zzJ z6u).bind fun zaD=>(if !zaD.1 then some (true,zaD.2) else(y2Z (⟨((nth z3v z4d).fN),((nth z3v z4d).fD)⟩:z2)).bind fun zJy=>(y1w zJy).bind fun zzK=>(z2A zzK zaD.2).bind fun znK=>some (!znK.1,znK.2)).bind fun zf8=>if zf8.1 then some zf8.2 else y1J zy z3v z2A zcQ zzI (i64 (z4d+1)) zf8.2) else zcQ z6u
theorem y7O{n:Nat}{zy:Type}{z3v:List z2}{z2A:z2→zy→Option (Bool×zy)}{zcQ:zy→Option zy}{z4d:Int}{z6u:zy}{r:zy}(h:y1J zy z3v z2A zcQ n z4d z6u=some r):∃ m,n=m+1:=by
 cases n with
 | zero=>cases h
 | succ m=>exact⟨m,rfl⟩
def y3d(zy:Type)(z2A:z2→zy→Option (Bool×zy))(s0_56856:zy)(z3k:List (List z6))(zhd:zSv)(znL:List (List z6))(zhe:zSv)(z3v:List z2):Option zy:=
 (y39).bind fun zzL=>(z2A zzL s0_56856).bind fun zhf=>if !zhf.1 then some zhf.2 else jp1 (fun(zaE:zy)=>jp1 (fun(zcR:zy)=>some zcR) fun zcQ=>y1J zy z3v z2A zcQ yx 0 zaE) fun zcP=>y1I zy z3k z2A zcP yx 0 zhf.2
theorem y9z(Z:Zp)(zy:Type)(z9Q:Nat)(z4N:Type)(z2Y:z4N→zy→Asrt)(z8m:z4N→zy→Prop)(zcS:z4N)(zcT:Addr)(zf9:Option Addr)(zfa:Nat)(zzM:Addr)(zzN:Option Addr)(zzO:Nat)(zzP:Addr)(znM:Option Addr)(znN:Nat)(z2A:z2→zy→Option (Bool×zy))(s0_56856:zy)(z3k:List (List z6))(zhd:zSv)(znL:List (List z6))(zhe:zSv)(z3v:List z2)(r:zy)(w₀:World)(hz:PZ (fps [z2Y zcS s0_56856]) w₀ Z)(znO:yb8 Tryz.prog Z z9Q (α:=z2) (σ:=zy) (G:=z4N) (H:=Unit) (fun h x=>[(.agg #[(vi x.fN),(vi x.fD)])]) (fun h x=>[]) z2A z2Y z8m)(zWF:z8m zcS s0_56856)(zWG:ZS Z 1 (y26 Z) zf9 zfa z3k)(z186:ZS Z 1 (y26 Z) zzN zzO znL)(z187:ZC Z zzM [(.slice zzN znL.length zzO)])(z188:ZC Z zzP [(vi zhe.fRate.fN),(vi zhe.fRate.fD),(vi zhe.fL.fN),(vi zhe.fL.fD)])(zWH:ZS Z 2 (fun r x=>r=yA x) znM znN z3v)(zJz:ZC Z zcT [(.slice zf9 z3k.length zfa),(vi zhd.fRate.fN),(vi zhd.fRate.fD),(vi zhd.fL.fN),(vi zhd.fL.fD),(.func (.func 128) #[] #[(vq zzM),(vq zzP)]),(.slice znM z3v.length znN)])(h:y3d zy z2A s0_56856 z3k zhd znL zhe z3v=some r)(hown:Hp (fps [z2Y zcS s0_56856]) w₀ w₀ [z2Y zcS s0_56856]):
  Calls Tryz.prog 201 #[(.func (.yield z9Q) #[] #[]),(vq zcT)] w₀ fun e w'=>∃ zJA:z4N,e = .returned (.tuple #[])∧(z8m zJA r)∧Hp (fps [z2Y zcS s0_56856]) w₀ w' [z2Y zJA r]:=by
 unfold y3d at h
 refine Kg Tryz.func201 Tryz.ntmps201 hown ?_
 refine WC.b<|WC.b ?_
 obtain⟨zzL,zWI,h⟩:=za h
 obtain⟨zhf,zWJ,h⟩:=za h
 refine Ld<|La U<|Lk 12 (zb Tryz.call161 .nil) .nil (cc hz .nil fun w pz ho=>y4L zWI w pz ) (WL.yield (dd:=13) (x:=zzL) (h:=()) (g:=zcS) (s:=s0_56856) (b:=zhf.1) (s':=zhf.2) znO U U U (.cons U .nil) ((.cons .here .nil):Sel _ [z2Y zcS s0_56856] _) zWJ zWF (fun w hw=>hz.call hw ((.cons .here .nil):Sel _ [z2Y zcS s0_56856] _)) fun zJB zJC=>La U<|WL.nil<|Lb<|WC.cond U (fun zzQ=>?_)<|fun zzQ=>?_)
 ·replace h:=yr h zzQ
  refine WC.ret<|Lj ?_
  obtain rfl:=oJ h
  refine Lh Tryz.results201 .nil<|fun w hw=>?_
  exact⟨zJB,y7p,zJC,hw.sub (.cons .here .nil)⟩
 ·replace h:=ys h zzQ
  refine WC.skip<|Lb ?_
  obtain⟨zcP,zWK,h⟩:=yZ h
  let A:Value:=(.func (.yield z9Q) #[] #[]);refine WC.y5e (fun(zaE:zy) (zkg:z4N)=>(zcP zaE=some r)∧(z8m zkg zaE)) (fun zaE zkg=>[(0,A),(1,(vq zcT))]) (fun zaE zkg=>[z2Y zkg zaE]) ?_ ?_
  ·skip
   let C:Value:=(.slice zf9 z3k.length zfa);let D:Value:=(vi ((z3k.length:Nat):Int));refine WC.b (Ld (Le 15 (ya y7w U U) (Le 16 (yc z8A U (y17 hz.pv zJz U)) (Le 17 (yG Tryz.underlying171 U) (La U (WL.nil (Lb (WC.block (WC.y5y (fun(zkh:Nat) (z4M:Int) (z7w:zy) (zfb:z4N)=>(y1I zy z3k z2A zcP zkh z4M z7w=some r)∧(z8m zfb z7w)) (fun zkh z4M z7w zfb=>[(0,A),(1,(vq zcT)),(16,C),(17,D),(18,(vi z4M))]) (fun zkh z4M z7w zfb=>[z2Y zfb z7w]) (fun zkh z4M z7w zfb=>zkh) ⟨yx,0,zhf.2,zJB⟩ ⟨h,zJC⟩ (.r5 U U U U U) (.cons .here .nil) ?_)))))))))
   rintro zkh z4M z7w zfb ⟨h,zJD⟩
   obtain⟨zzG,rfl⟩:=y7N h
   rw[y1I] at h
   refine WC.b<|Ld<|La U<|WL.nil<|Lb<|WC.b<|WC.cond U (fun zzR=>?_)<|fun zzR=>?_
   ·replace h:=yr h zzR
    refine WC.skip<|Lb ?_
    obtain⟨zzH,zWL,h⟩:=yZ h
    refine WC.y5e (fun(zaB:zy) (zki:z4N)=>(zzH zaB=some r)∧(z8m zki zaB)) (fun zaB zki=>[(0,A),(1,(vq zcT)),(16,C),(17,D),(18,(vi z4M))]) (fun zaB zki=>[z2Y zki zaB]) ?_ ?_
    ·skip
     refine WC.block<|WC.b ?_
     obtain⟨zWM,h⟩:=yl h
     refine Ld<|L0 (dd:=20) U U (Z:=Z) (Pr:=(y26 Z)) z9i U U zWG zWM ?_
     rintro z189 z18a zWN z18b ⟨z18c,z18d,rfl,zWO⟩
     refine Le 21 (yc zdB U<|y3a hz.pv zWN U)<|La U<|WL.nil<|Lb<|WC.b ?_
     obtain⟨z36,zWP,h⟩:=za h
     refine Ld<|La U<|WL.y4b (dd:=24) U U U (zb Tryz.call199<|.cons U .nil) .nil (cc hz .nil fun w pz ho=>y7L zWP w pz zWO) ?_
     rintro zJE zrb _
     refine La U<|La U<|La U<|La U<|La U<|WL.nil<|Lb<|WC.b<|Ld<|La U<|Le 28 (yG Tryz.underlying229 U)<|La U<|WL.nil<|Lb ?_
     obtain⟨zcO,zWQ,h⟩:=yZ h
     refine WC.y8W (fun(zaC:zy) (zkj:z4N)=>(zcO zaC=some r)∧(z8m zkj zaC)) (fun zaC zkj=>[(0,A),(1,(vq zcT)),(16,C),(17,D),(18,(vi z4M))]) (fun zaC zkj=>[z2Y zkj zaC]) ?_ ?_
     ·skip
      let F:=((z36.1.length:Nat):Int);let I:Value:=(.slice zJE z36.1.length zrb);refine WC.block (WC.y5y (fun(zkk:Nat) (z3u:Int) (z6t:zy) (zaF:z4N)=>(y1H zy z36 z2A zcO zkk z3u z6t=some r)∧(z8m zaF z6t)) (fun zkk z3u z6t zaF=>[(0,A),(1,(vq zcT)),(16,C),(17,D),(18,(vi z4M)),(27,I),(28,(vi F)),(29,(vi z3u))]) (fun zkk z3u z6t zaF=>[row I 175 2 (z36.1.flatMap yA),z2Y zaF z6t]) (fun zkk z3u z6t zaF=>zkk) ⟨yx,0,z7w,zfb⟩ ⟨h,zJD⟩ (.r8 U U U U U U U U) (.a2) ?_)
      rintro zkk z3u z6t zaF ⟨h,zJF⟩
      obtain⟨zzD,rfl⟩:=y7M h
      rw[y1H] at h
      refine WC.b<|Ld<|La U<|WL.nil<|Lb<|WC.b<|WC.cond U (fun zzS=>?_)<|fun zzS=>?_
      ·replace h:=yr h zzS
       refine WC.skip<|Lb<|WC.b<|WC.block<|WC.b ?_
       obtain⟨znP,h⟩:=yl h
       refine Ld<|Ki (fun w hw=>Hp.y2u .here hw (by intro hz';have:=znP;rw[hz'] at this;omega)) ?_
       rintro⟨zJG,rfl⟩
       refine Le 31 (yW z2p U U znP.1 znP.2 y30)<|Le 32 (y14 (cs:=(yA<|nth z36.1 z3u)) zg U U<|y4S .here<|y31 (enc:=yA) (l:=z36.1) (i:=z3u) (sz:=2) (fun _=>U) znP.1 znP.2) (Lg 8 (yv (cs:=[(vi 0),(vi 0)]) zV U) fun zWR _=>Ll U U (yn zz U U U .here U U U)<|WL.nil<|Lb<|WC.b ?_)
       obtain⟨zJv,zWS,h⟩:=za h
       obtain⟨zzE,zWT,h⟩:=za h
       obtain⟨zaA,zWU,h⟩:=za h
       obtain⟨zf7,zJH,h⟩:=za h
       refine Ld<|La U<|Le 34 (yh zg U (yj .here) U)<|Lk 35 (zb Tryz.call83<|.cons U .nil) .nil (cc hz .nil fun w pz ho=>y6m zWS w pz )<|Lk 36 (zb Tryz.call191<|.cons U .nil) .nil (cc hz .nil fun w pz ho=>y3i zWT w pz )<|WL.yield (dd:=37) (x:=zzE) (h:=()) (g:=zaF) (s:=z6t) (b:=zaA.1) (s':=zaA.2) znO U U U (.cons U .nil) ((.cons .h2 .nil):Sel _ [z2Y zaF z6t] _) zWU zJF (fun w hw=>hz.call hw ((.cons .h2 .nil):Sel _ [z2Y zaF z6t] _)) ?_
       intro zrc zJI
       let E:Value:=(.slice (some ⟨zJG,0,none⟩) z36.1.length zrb);refine La U (La U (WL.yd2 (fun(zhg:z4N)=>z8m zhg zf7.2) (fun(zhg:z4N)=>[(0,A),(1,(vq zcT)),(16,C),(17,D),(18,(vi z4M)),(27,E),(28,(vi F)),(29,(vi z3u)),(46,(.bool zf7.1))]) (fun(zhg:z4N)=>[z2Y zhg zf7.2,stb zWR 175 [(vi ((nth z36.1 z3u).fN)),(vi ((nth z36.1 z3u).fD))],row E 175 2 (z36.1.flatMap yA)]) 7 ?_ (fun zhg zJJ=>?_)))
       ·rcases Bool.eq_false_or_eq_true (!zaA.1) with hb' | hb'
        ·have zJK:=hb';clear hb'
         have zzT:=yr zJH zJK
         replace zzT:=oJ zzT
         refine WL.pin (i:=39) U zJK<|WL.e U U U<|WL.e U U U<|WL.e U U U<|WL.e U U U<|WL.e U U U<|WL.e U U U<|La U ?_
         subst zzT
         exact WL.y6J zrc zJI (.r9 U U U U U U U U U)<|.a3
        ·have zJL:=hb';clear hb'
         have zcU:=ys zJH zJL
         obtain⟨zJw,zWV,zcU⟩:=za zcU
         obtain⟨zzF,zWW,zcU⟩:=za zcU
         obtain⟨znJ,zWX,zcU⟩:=za zcU
         replace zcU:=oJ zcU
         refine WL.pin (i:=39) U zJL<|La U<|Le 41 (yh zg U (yj .h1) U)<|Lk 42 (zb Tryz.call202<|.cons U .nil) .nil (cc hz .nil fun w pz ho=>ya2 zWV w pz )<|Lk 43 (zb Tryz.call191<|.cons U .nil) .nil (cc hz .nil fun w pz ho=>y3i zWW w pz ) (WL.yield (dd:=44) (x:=zzF) (h:=()) (g:=zrc) (s:=zaA.2) (b:=znJ.1) (s':=znJ.2) znO U U U (.cons U .nil) ((.cons .here .nil):Sel _ [z2Y zrc zaA.2] _) zWX zJI (fun w hw=>hz.call hw ((.cons .here .nil):Sel _ [z2Y zrc zaA.2] _)) fun zWY zWZ=>La U<|La U ?_)
         subst zcU
         exact WL.y6J zWY zWZ (.r9 U U U U U U U U U)<|.a3
       ·skip
        refine WL.nil<|Lb<|WC.cond U (fun zzU=>?_)<|fun zzU=>?_
        ·replace h:=yr h zzU
         refine WC.ret<|Lq<|Lj<|Lj<|Lq<|Lj<|Lq<|Lj<|Lj<|Lq<|Lj ?_
         obtain rfl:=oJ h
         refine Lh Tryz.results201 .nil<|fun w hw=>?_
         exact⟨zhg,y7p,zJJ,hw.sub (.cons .here .nil)⟩
        ·replace h:=ys h zzU
         refine WC.skip<|Lt<|Lb<|Ld<|La U<|La U<|WL.nil ?_
         exact WX.round ⟨zzD,(i64 (z3u+1)),zf7.2,zhg⟩ ⟨h,zJJ⟩ (Nat.lt_succ_self _) (.r8 U U U U U U U U)<|.s2 .h2 .here
      ·replace h:=ys h zzS
       refine WC.exit<|Ln<|Ln<|Lu ?_
       exact Lo ⟨z6t,zaF⟩ ⟨h,zJF⟩ (.r5 U U U U U)<|.cons .h1 .nil
     ·rintro zaC zkj ⟨h,zX0⟩
      replace h:=(zWQ zaC).symm.trans h
      refine Lt ?_
      exact Lo ⟨zaC,zkj⟩ ⟨h,zX0⟩ (.r5 U U U U U)<|.cons .here .nil
    ·rintro zaB zki ⟨h,zX1⟩
     replace h:=(zWL zaB).symm.trans h
     refine Ld<|La U<|La U<|WL.nil ?_
     exact WX.round ⟨zzG,(i64 (z4M+1)),zaB,zki⟩ ⟨h,zX1⟩ (Nat.lt_succ_self _) (.r5 U U U U U)<|.cons .here .nil
   ·replace h:=ys h zzR
    refine WC.exit<|Ln<|Ln<|Lu ?_
    exact Lo ⟨z7w,zfb⟩ ⟨h,zJD⟩ (.r2 U U)<|.cons .here .nil
  ·rintro zaE zkg ⟨h,zX2⟩
   replace h:=(zWK zaE).symm.trans h
   refine WC.b<|Ld<|Le 49 (ya yg1 U U)<|Le 50 (yc z9j U<|y17 hz.pv zJz U)<|Le 51 (yG Tryz.underlying229 U)<|La U<|WL.nil<|Lb ?_
   obtain⟨zcQ,zX3,h⟩:=yZ h
   refine WC.y8W (fun(zcR:zy) (zkl:z4N)=>(zcQ zcR=some r)∧(z8m zkl zcR)) (fun zcR zkl=>[]) (fun zcR zkl=>[z2Y zkl zcR]) ?_ ?_
   ·skip
    let J:Value:=(.slice znM z3v.length znN);let K:Value:=(vi ((z3v.length:Nat):Int));refine WC.block (WC.y5y (fun(zkm:Nat) (z4d:Int) (z6u:zy) (zaG:z4N)=>(y1J zy z3v z2A zcQ zkm z4d z6u=some r)∧(z8m zaG z6u)) (fun zkm z4d z6u zaG=>[(0,A),(50,J),(51,K),(52,(vi z4d))]) (fun zkm z4d z6u zaG=>[z2Y zaG z6u]) (fun zkm z4d z6u zaG=>zkm) ⟨yx,0,zaE,zkg⟩ ⟨h,zX2⟩ (.r4 U U U U) (.cons .here .nil) ?_)
    rintro zkm z4d z6u zaG ⟨h,zJM⟩
    obtain⟨zzI,rfl⟩:=y7O h
    rw[y1J] at h
    refine WC.b<|Ld<|La U<|WL.nil<|Lb<|WC.b<|WC.cond U (fun zzV=>?_)<|fun zzV=>?_
    ·replace h:=yr h zzV
     refine WC.skip<|Lb<|WC.b<|WC.block<|WC.b ?_
     obtain⟨zX4,h⟩:=yl h
     refine Ld<|L0 (dd:=54) U U (Z:=Z) (Pr:=(fun r x=>r=yA x)) z2p U U zWH zX4 ?_
     rintro z18e z18f zX5 z18g rfl
     refine Le 55 (yh zg U (y2d hz.pv zX5) U) (Lg 10 (yv (cs:=[(vi 0),(vi 0)]) zV U) fun zX6 _=>Ll U U (yn zz U U U .here U U U)<|WL.nil<|Lb<|WC.b ?_)
     obtain⟨zJx,zX7,h⟩:=za h
     obtain⟨zzJ,zX8,h⟩:=za h
     obtain⟨zaD,zX9,h⟩:=za h
     obtain⟨zf8,zJN,h⟩:=za h
     refine Ld<|La U<|Le 57 (yh zg U (yj .here) U)<|Lk 58 (zb Tryz.call83<|.cons U .nil) .nil (cc hz .nil fun w pz ho=>y6m zX7 w pz )<|Lk 59 (zb Tryz.call191<|.cons U .nil) .nil (cc hz .nil fun w pz ho=>y3i zX8 w pz ) (WL.yield (dd:=60) (x:=zzJ) (h:=()) (g:=zaG) (s:=z6u) (b:=zaD.1) (s':=zaD.2) znO U U U (.cons U .nil) ((.cons .h1 .nil):Sel _ [z2Y zaG z6u] _) zX9 zJM (fun w hw=>hz.call hw ((.cons .h1 .nil):Sel _ [z2Y zaG z6u] _)) fun zrd zJO=>La U<|La U<|WL.yd2 (fun(zhh:z4N)=>z8m zhh zf8.2) (fun(zhh:z4N)=>[(0,A),(50,J),(51,K),(52,(vi z4d)),(69,(.bool zf8.1))]) (fun(zhh:z4N)=>[z2Y zhh zf8.2,stb zX6 175 [(vi<|(nth z3v z4d).fN),(vi<|(nth z3v z4d).fD)]]) 7 ?_<|fun zhh zJP=>?_)
     ·rcases Bool.eq_false_or_eq_true (!zaD.1) with hb' | hb'
      ·have zJQ:=hb';clear hb'
       have zzW:=yr zJN zJQ
       replace zzW:=oJ zzW
       refine WL.pin (i:=62) U zJQ<|WL.e U U U<|WL.e U U U<|WL.e U U U<|WL.e U U U<|WL.e U U U<|WL.e U U U<|La U ?_
       subst zzW
       exact WL.y6J zrd zJO (.r5 U U U U U)<|.a2
      ·have zJR:=hb';clear hb'
       have zcV:=ys zJN zJR
       obtain⟨zJy,zXa,zcV⟩:=za zcV
       obtain⟨zzK,zXb,zcV⟩:=za zcV
       obtain⟨znK,zXc,zcV⟩:=za zcV
       replace zcV:=oJ zcV
       refine WL.pin (i:=62) U zJR<|La U<|Le 64 (yh zg U (yj .h1) U)<|Lk 65 (zb Tryz.call202<|.cons U .nil) .nil (cc hz .nil fun w pz ho=>ya2 zXa w pz )<|Lk 66 (zb Tryz.call191<|.cons U .nil) .nil (cc hz .nil fun w pz ho=>y3i zXb w pz ) (WL.yield (dd:=67) (x:=zzK) (h:=()) (g:=zrd) (s:=zaD.2) (b:=znK.1) (s':=znK.2) znO U U U (.cons U .nil) ((.cons .here .nil):Sel _ [z2Y zrd zaD.2] _) zXc zJO (fun w hw=>hz.call hw ((.cons .here .nil):Sel _ [z2Y zrd zaD.2] _)) fun zXd zXe=>La U<|La U ?_)
       subst zcV
       exact WL.y6J zXd zXe (.r5 U U U U U)<|.a2
     ·skip
      refine WL.nil<|Lb<|WC.cond U (fun zzX=>?_)<|fun zzX=>?_
      ·replace h:=yr h zzX
       refine WC.ret<|Lq<|Lj<|Lj<|Lq<|Lj ?_
       obtain rfl:=oJ h
       refine Lh Tryz.results201 .nil<|fun w hw=>?_
       exact⟨zhh,y7p,zJP,hw.sub (.cons .here .nil)⟩
      ·replace h:=ys h zzX
       refine WC.skip<|Lt<|Lb<|Ld<|La U<|La U<|WL.nil ?_
       exact WX.round ⟨zzI,(i64 (z4d+1)),zf8.2,zhh⟩ ⟨h,zJP⟩ (Nat.lt_succ_self _) (.r4 U U U U)<|.cons .here .nil
    ·replace h:=ys h zzV
     refine WC.exit<|Ln<|Ln<|Lu ?_
     exact Lo ⟨z6u,zaG⟩ ⟨h,zJM⟩ .nil<|.cons .here .nil
   ·rintro zcR zkl ⟨h,zXf⟩
    replace h:=(zX3 zcR).symm.trans h
    obtain rfl:=oJ h
    refine WX.y5d Tryz.results201 .nil<|fun w hw=>?_
    exact⟨zkl,y7p,zXf,hw.sub (.cons .here .nil)⟩
def y4O(zhi:z1y)(zcW:z2)(znQ:List (List z6))(z73:zSv):Option (z2×z1y):=
 (y3B zhi znQ zcW).bind fun zhj=>(y1u zcW z73.fL).bind fun zJS=>if decide (zJS≤0) then some (zhj.1,zhj.2) else(y1d zhj.2 (fun(y0:z2) (y1:z2)=>y2w y0 y1) zcW z73.fL).bind fun zzY=>(y1d zzY.2 (fun(y0:z2) (y1:z2)=>y3P y0 y1) z73.fRate zzY.1).bind fun zzZ=>(y1d zzZ.2 (fun(y0:z2) (y1:z2)=>y2w y0 y1) zhj.1 zzZ.1).bind fun zA0=>some (zA0.1,zA0.2)
theorem ybO{Z:Zp}{zkn:Nat}{zJT:Addr}{zJU:Option Addr}{zJV:Nat}{zJW:Addr}{zhi:z1y}{zcW:z2}{znQ:List (List z6)}{z73:zSv}{r:z2×z1y}(h:y4O zhi zcW znQ z73=some r)(w₀:World)(hz:PZ (fps [stb zkn 277 [(vi zhi.fE)]]) w₀ Z)(zXg:ZS Z 1 (y26 Z) zJU zJV znQ)(zXh:ZC Z zJT [(.slice zJU znQ.length zJV)])(zA1:ZC Z zJW [(vi z73.fRate.fN),(vi z73.fRate.fD),(vi z73.fL.fN),(vi z73.fL.fD)])(hown:Hp (fps [stb zkn 277 [(vi zhi.fE)]]) w₀ w₀ [stb zkn 277 [(vi zhi.fE)]]):
  Calls Tryz.prog 128 #[(vp zkn),(.agg #[(vi zcW.fN),(vi zcW.fD)]),(vq zJT),(vq zJW)] w₀ fun e w'=>e = .returned (.agg #[(vi r.1.fN),(vi r.1.fD)])∧Hp (fps [stb zkn 277 [(vi zhi.fE)]]) w₀ w' [stb zkn 277 [(vi r.2.fE)]]:=by
 unfold y4O at h
 refine Calls.oh4 Tryz.func128 Tryz.ntmps128 hown ?_
 refine WC.b<|Ld (Lg 5 (yI (cs:=[(vi zcW.fN),(vi zcW.fD)]) U U) fun z18h _=>Lg 6 (yv (cs:=[(vi 0),(vi 0)]) zV U) fun z18i _=>WL.nil<|Lb<|WC.b ?_)
 obtain⟨zhj,zXi,h⟩:=za h
 refine Ld<|La U<|Le 9 (yc z8A U<|y3a hz.pv zXh U)<|Le 10 (yh zg U (yj .h1) U)<|Lk 11 (zb Tryz.call126<|.r3 U U U) (.cons .h2 .nil) (cc hz (.cons .h2 .nil) fun w pz ho=>y8m zXi w pz zXg ho) (Lg 7 (yv (cs:=[(vi 0),(vi 0)]) zV U) fun zXj _=>Ll U U (yn zz U U U .here U U U)<|WL.nil<|Lb<|WC.b<|WC.b ?_)
 obtain⟨zJS,zXk,h⟩:=za h
 let A:List Value:=[(vi z73.fL.fN),(vi z73.fL.fD)];refine Ld (Le 12 (yh zg U (yj .h3) U) (Le 13 (ya y97 U U) (Le 14 (y14 (cs:=A) zg U U (yb7 (off:=2) (s:=2) hz.pv zA1 U)) (Lk 15 (zb Tryz.call129 (.r2 U U)) .nil (cc hz .nil fun w pz ho=>y4Z zXk w pz ) (La U (WL.nil (Lb (WC.cond U (fun zA2=>?_) (fun zA2=>?_)))))))))
 ·replace h:=yr h zA2
  refine WC.b<|Ld<|Le 17 (yh zg U (yj .here) U)<|Ll U U (yn zz U U U .h2 U U U)<|WL.nil<|Lb<|WC.ret<|Lj ?_
  obtain rfl:=oJ h
  refine Lh Tryz.results128 (.agg U zg U (yj .here) .nil)<|fun w hw=>?_
  exact⟨yD U,hw.sub (.cons .h2 .nil)⟩
 ·replace h:=ys h zA2
  refine WC.skip<|Lb<|WC.b ?_
  obtain⟨zzY,zXl,h⟩:=za h
  obtain⟨zzZ,zXm,h⟩:=za h
  obtain⟨zA0,zXn,h⟩:=za h
  refine Lv (fun i=>[9,10,11,12].contains i) [stb zXj 175 [(vi zhj.1.fN),(vi zhj.1.fD)]] U<|Lf 0 18 U (fun _=>q_m U)<|L7 1 19 U (Sin.of<|.cons .here .nil) (yh zg U (yj .here) U)<|Lf 2 20 U (fun _=>q_m U)<|Lf 3 21 U (fun _=>ya y96 U U)<|L7 4 22 U (Sin.of<|.cons .here .nil) (y14 (cs:=[(vi z73.fRate.fN),(vi z73.fRate.fD)]) zg U U<|yb7 (off:=0) (s:=2) hz.pv zA1 U)<|Lf 5 23 U (fun _=>q_m U)<|Li 6 24 U (yh zg U (yj .h3) U)<|Lf 7 25 U (fun _=>ya y97 U U)<|Li 8 26 U (y14 (cs:=A) zg U U<|yb7 (off:=2) (s:=2) hz.pv zA1 U) (Ka (i:=9) (dd:=27) U (by kernel_rfl) U U U (.inl ⟨U,(Sin.of<|.cons .h1 .nil)⟩) (zb Tryz.call123<|.r4 U U U U) (.cons .h1 .nil) (cc hz (.cons .h1 .nil) fun w pz ho=>Calls.mono (y2L _ _ (z7p:=124) (z8O:=[]) _ (z8f:=(fun(y0:z2) (y1:z2)=>y2w y0 y1)) _ _ _ zXl w pz Tryz.call124 (fun w' hz' y0 y1  r  hr=>y9x hr w' hz' ) ho)<|fun _ _ h'=>⟨h'.1,trivial,h'.2⟩) fun _=>Ka (i:=10) (dd:=28) U (by kernel_rfl) U U U (.inl ⟨U,(Sin.of<|.cons .h1 .nil)⟩) (zb Tryz.call123<|.r4 U U U U) (.cons .here .nil) (cc hz (.cons .here .nil) fun w pz ho=>Calls.mono (y2L _ _ (z7p:=120) (z8O:=[]) _ (z8f:=(fun(y0:z2) (y1:z2)=>y3P y0 y1)) _ _ _ zXm w pz Tryz.call120 (fun w' hz' y0 y1  r  hr=>ycG hr w' hz' ) ho)<|fun _ _ h'=>⟨h'.1,trivial,h'.2⟩) fun _=>Ka (i:=11) (dd:=29) U (by kernel_rfl) U U U (.inl ⟨U,(Sin.of<|.cons .h1 .nil)⟩) (zb Tryz.call123<|.r4 U U U U) (.cons .here .nil) (cc hz (.cons .here .nil) fun w pz ho=>Calls.mono (y2L _ _ (z7p:=124) (z8O:=[]) _ (z8f:=(fun(y0:z2) (y1:z2)=>y2w y0 y1)) _ _ _ zXn w pz Tryz.call124 (fun w' hz' y0 y1  r  hr=>y9x hr w' hz' ) ho)<|fun _ _ h'=>⟨h'.1,trivial,h'.2⟩) fun _=>Kd (i:=12) U (by kernel_rfl) U U U (by kernel_rfl) (yn zz U U U .h2 U U U)<|WD.done (by kernel_rfl)<|Lb<|WC.ret ?_)
  obtain rfl:=oJ h
  refine Lh Tryz.results128 (.agg U zg U (yj .here) .nil)<|fun w hw=>?_
  exact⟨yD U,hw.sub (.cons .h1 .nil)⟩
def y2U(z8n:List (List z6))(z74:zSv)(zcX:z2)(z4q:List z2)(zre:Int):Option (Bool×(Nat×List z2×Int)):=
 (y4O (⟨zre⟩:z1y) zcX z8n z74).bind fun z8o=>(if decide (((z4q.length:Nat):Int)=0) then some true else chk ((0:Int)≤0∧0<((z4q.length:Nat):Int)) ((y1u z8o.1 (⟨((nth z4q 0).fN),((nth z4q 0).fD)⟩:z2)).bind fun zJX=>some (decide (zJX>0)))).bind fun zA3=>if zA3 then some (true,(0,([z8o.1]:List z2),z8o.2.fE)) else some (true,(0,z4q,z8o.2.fE))
def y4i(z1h:List (List z6))(zr:zSv)(z8n:List (List z6))(z74:zSv)(z1i:List z2):Option (z2×Int):=
 (y3S z1h zr z8n z74 z1i).bind fun znR=>if decide (znR≠0) then some ((⟨0,0⟩:z2),znR) else jp2 (fun(zaH:Int) (z7x:List z2)=>if decide (zaH≠0) then some ((⟨0,0⟩:z2),zaH) else chk ((0:Int)≤0∧0<((z7x.length:Nat):Int)) (some ((⟨((nth z7x 0).fN),((nth z7x 0).fD)⟩:z2),0))) fun zA4=>(y4B z1h zr z8n z74 z1i).bind fun zC=>(y3d (Nat×List z2×Int) (fun(x:z2) (s:Nat×List z2×Int)=>chk (s.1=0) (y2U z8n z74 x s.2.1 s.2.2)) (0,([]:List z2),0) z1h (⟨(⟨zC.1,zC.2.1⟩:z2),(⟨zC.2.2.1,zC.2.2.2⟩:z2)⟩:zSv) z8n z74 z1i).bind fun z4O=>zA4 z4O.2.2 z4O.2.1
theorem yaY{Z:Zp}{z1E:Option Addr}{z1F:Nat}{z1v:Addr}{zA5:Option Addr}{zA6:Nat}{z1w:Addr}{z1G:Option Addr}{z1H:Nat}{z1h:List (List z6)}{zr:zSv}{z8n:List (List z6)}{z74:zSv}{z1i:List z2}{r:z2×Int}(h:y4i z1h zr z8n z74 z1i=some r)(w₀:World)(hz:PZ [] w₀ Z)(zA7:ZS Z 1 (y26 Z) z1E z1F z1h)(zrf:ZS Z 1 (y26 Z) zA5 zA6 z8n)(zrg:ZC Z z1v [(.slice zA5 z8n.length zA6)])(zrh:ZC Z z1w [(vi z74.fRate.fN),(vi z74.fRate.fD),(vi z74.fL.fN),(vi z74.fL.fD)])(zA8:ZS Z 2 (fun r x=>r=yA x) z1G z1H z1i):
  Calls Tryz.prog 127 #[(.agg #[(.slice z1E z1h.length z1F),(vi zr.fRate.fN),(vi zr.fRate.fD),(vi zr.fL.fN),(vi zr.fL.fD),(.func (.func 128) #[] #[(vq z1v),(vq z1w)]),(.slice z1G z1i.length z1H)])] w₀ fun e w'=>e = .returned (.tuple #[(.agg #[(vi r.1.fN),(vi r.1.fD)]),(vi r.2)])∧Hp [] w₀ w' []:=by
 unfold y4i at h
 let F:Value:=(.func (.func 128) #[] #[(vq z1v),(vq z1w)]);let N:Value:=(.slice z1E z1h.length z1F);let O:Value:=(.slice z1G z1i.length z1H);let H:Value:=(.agg #[N,(vi zr.fRate.fN),(vi zr.fRate.fD),(vi zr.fL.fN),(vi zr.fL.fD),F,O]);refine Calls.y9f (vs:=[H]) (pre:=[]) (env:=[(0,H)]) Tryz.func127 U Tryz.ntmps127 U (Hp.nil w₀ _) U ?_
 let E:List Value:=[N,(vi zr.fRate.fN),(vi zr.fRate.fD),(vi zr.fL.fN),(vi zr.fL.fD),F,O];refine WC.b (Ld (Lg 1 (yI (cs:=E) U U) ?_))
 intro z4e _
 refine Lg 2 (yv (cs:=[(vi 0),(vi 0)]) zV U) fun z4r _=>La U<|WL.nil<|Lb<|WC.b<|WC.b ?_
 obtain⟨znR,zXo,h⟩:=za h
 refine Ld<|Le 9 (yh zhW U (yj .h1) U)<|Lk 10 (zb Tryz.call163<|.cons U .nil) .nil (cc hz .nil fun w pz ho=>yar zXo w pz zA7 zrf zrg zrh zA8)<|La U<|WL.nil<|Lb<|WC.b<|Ld<|La U<|La U<|WL.nil<|Lb<|WC.cond U (fun zA9=>?_)<|fun zA9=>?_
 ·replace h:=yr h zA9
  refine WC.b<|Ld<|Le 13 (yL (v:=(.agg #[(vi 0),(vi 0)])) (Lp (l:=[]) .nil []) (fun _=>by kernel_rfl))<|La U<|Ll U U (yn zz U U U .here U U U)<|La U<|WL.nil<|Lb<|WC.ret<|Lj ?_
  obtain rfl:=oJ h
  refine WX.ycv Tryz.results127 (.agg U zg U (yj .here)<|.tmp U .nil)<|fun w hw=>?_
  exact⟨y1R U U,hw.sub .nil⟩
 ·replace h:=ys h zA9
  refine WC.skip<|Lb<|WC.b<|Ld (Lg 5 (yv (cs:=[(vi 0)]) zp4 U) fun z3w _=>WL.nil<|Lb<|WC.b<|Ld (Lg 6 (yv (cs:=[vn]) zsX U) fun z3P _=>WL.nil<|Lb ?_))
  obtain⟨zA4,zXp,h⟩:=y57 h
  refine WC.yds (fun(znS:Nat) (zaH:Int) (z7x:List z2) (znT:Option Addr) (znU:Nat)=>(zA4 zaH z7x=some r)) (fun(znS:Nat) (zaH:Int) (z7x:List z2) (znT:Option Addr) (znU:Nat)=>[(2,(vp z4r)),(5,(vp z3w)),(6,(vp z3P))]) (fun(znS:Nat) (zaH:Int) (z7x:List z2) (znT:Option Addr) (znU:Nat)=>[stb z4r 175 [(vi 0),(vi 0)],stb z3w 277 [(vi zaH)],stb z3P 229 [(.slice znT z7x.length znU)],row (.slice znT z7x.length znU) 175 2 (z7x.flatMap yA),dfr znS]) ?_ ?_
  ·skip
   refine WC.b ?_
   obtain⟨zC,zXq,h⟩:=za h
   refine Ld<|Le 15 (yh zhW U (yj .h3) U)<|WL.ycp (dd:=16) U U U (zb Tryz.call164<|.cons U .nil) .nil (cc hz .nil fun w pz ho=>ya3 zXq w pz zA7 zrf zrg zrh zA8) ?_
   rintro z5i _
   refine WL.nil<|Lb<|WC.block<|WC.drop (.s5 .h1 .h1 .h1 .h1 .here)<|WC.nilRow 175 2<|WC.rangeFunc (f:=201) (caps:=[(vp z5i)]) U Tryz.call201 ?_
   intro z18j z18k z4P z7y z60 zri zXr zXs w hw
   let Q:Value:=(.slice none (([]:List z2).length) 0);let A:List Asrt:=[stb z3P 229 [Q],row Q 175 2 (([]:List z2).flatMap yA),stb z3w 277 [(vi 0)],stb z4r 175 [(vi 0),(vi 0)],stb z4e 231 E,blk z4P (z60 .ready none)];have hw1:=hw.selAll ((.s6 .h3 .h2 .h2 .h2 .h2 .here):Sel _ A _)
   let C:List Value:=[N,(vi zC.1),(vi zC.2.1),(vi zC.2.2.1),(vi zC.2.2.2),F,O];let K:List Asrt:=[dfr z7y,stb z5i 231 C];have pz:=(hz.call hw1 ((.cons .here .nil):Sel [y1M A,dfr z7y,stb z5i 231 C] [y1M A] K)).lend hw1 ((.cons .here .nil):Sel [y1M A,dfr z7y,stb z5i 231 C] [y1M A] K) (B:=[stb z5i 231 C]) (fun _ hx'=>((.cons .h1 .nil):Sel _ [stb z5i 231 C] _).mem hx')
   obtain⟨z4O,zXt,h⟩:=za h
   refine Calls.mono (y9z (Z:=_) (z9Q:=z4P) (z4N:=(Option Addr×Nat)) (z2Y:=(fun(g:Option Addr×Nat) (s:Nat×List z2×Int)=>y1M ([stb z3P 229 [(.slice g.1 s.2.1.length g.2)],row (.slice g.1 s.2.1.length g.2) 175 2 (s.2.1.flatMap yA),stb z3w 277 [(vi s.2.2)],stb z4r 175 [(vi 0),(vi 0)],stb z4e 231 E]++[blk z4P (z60 (rdy<|pcs [] s.1)<|pcs [] s.1)]))) (z8m:=(fun(g:Option Addr×Nat) (s:Nat×List z2×Int)=>True)) (zcS:=(none,0)) (zcT:=⟨z5i,0,none⟩) (zf9:=z1E) (zfa:=z1F) (zzM:=z1v) (zzN:=zA5) (zzO:=zA6) (zzP:=z1w) (znM:=z1G) (znN:=z1H) (zy:=(Nat×List z2×Int)) (z2A:=(fun(x:z2) (s:Nat×List z2×Int)=>chk (s.1=0)<|y2U z8n z74 x s.2.1 s.2.2)) (s0_56856:=(0,([]:List z2),0)) (z3k:=z1h) (zhd:=(⟨(⟨zC.1,zC.2.1⟩:z2),(⟨zC.2.2.1,zC.2.2.2⟩:z2)⟩:zSv)) (znL:=z8n) (zhe:=z74) (z3v:=z1i) (r:=z4O) w pz ?_ trivial ((zA7.mono<|Zle.left _ _).weak (fun _ _ h=>y3M (Zle.left _ _) h)) ((zrf.mono<|Zle.left _ _).weak (fun _ _ h=>y3M (Zle.left _ _) h)) (zrg.mono<|Zle.left _ _) (zrh.mono<|Zle.left _ _) (zA8.mono<|Zle.left _ _) ((hw1.lent ((.cons .here .nil):Sel [y1M A,dfr z7y,stb z5i 231 C] [y1M A] K) (B:=[stb z5i 231 C]) (fun _ hx'=>((.cons .h1 .nil):Sel _ [stb z5i 231 C] _).mem hx') (.head _) _).stb) zXt<|hw1.owns ((.cons .here .nil):Sel [y1M A,dfr z7y,stb z5i 231 C] [y1M A] K)) ?_
   ·skip
    refine yaO (LI:=(fun(g:Option Addr×Nat) (s:Nat×List z2×Int)=>[stb z3P 229 [(.slice g.1 s.2.1.length g.2)],row (.slice g.1 s.2.1.length g.2) 175 2 (s.2.1.flatMap yA),stb z3w 277 [(vi s.2.2)],stb z4r 175 [(vi 0),(vi 0)],stb z4e 231 E])) (pc:=(fun(s:Nat×List z2×Int)=>pcs [] s.1)) zri zXr zXs (fun _ _=>U) (by decide) ?_
    rintro zcX _ ⟨zko,zkp⟩ ⟨zXu,z4q,zre⟩ zXv zXw Fb wb zJY _ hz
    replace hz:=hz.left
    letI:Rnd:=inR z4P
    obtain⟨hp0,z8p⟩:=yl zJY
    replace hp0:zXu=0:=hp0;subst hp0;clear zJY
    replace z8p:y2U z8n z74 zcX z4q zre=some (zXv,zXw):=z8p
    unfold y2U at z8p
    let I:Value:=(.slice zko z4q.length zkp);let L:Value:=(.agg #[(vi zcX.fN),(vi zcX.fD)]);let R:Value:=(.bool (decide (znR≠0)));refine WC.restr (env':=[(1,(vp z4e)),(12,R),(5,(vp z3w)),(6,(vp z3P)),(17,L)]) (.r5 U U U U U) (WC.eqL (L':=[stb z3P 229 [I],row I 175 2 (z4q.flatMap yA),stb z3w 277 [(vi zre)],stb z4r 175 [(vi 0),(vi 0)],stb z4e 231 E,blk z4P (z60 .ready none)]) U (Ld (Lg 7 (yv (cs:=[(vi 0),(vi 0)]) zV U) ?_)))
    intro zXx _
    refine Ll U U (yn zz U U U .here U U U)<|WL.nil<|WX.ybE zri .h6<|WC.block<|WC.b ?_
    obtain⟨z8o,zXy,z8p⟩:=za z8p
    refine Ld<|Le 18 (ya ybK U U)<|Le 19 (yc zDD U<|yi .h6 U)<|Le 20 (yh zg U (yj .h1) U)<|Lk 21 (y2G (l:=[.tmp 5,.tmp 20]) Tryz.call128 U<|.r2 U U) (.cons .h4 .nil) (cc hz (.cons .h4 .nil) fun w pz ho=>ybO zXy w pz zrf zrg zrh ho) (Lg 8 (yv (cs:=[(vi 0),(vi 0)]) zV U) fun zXz _=>Ll U U (yn zz U U U .here U U U)<|WL.nil<|Lb<|WC.b ?_)
    obtain⟨zA3,zJZ,z8p⟩:=za z8p
    let P:Value:=(.bool (decide (((z4q.length:Nat):Int)=0)));refine Lv (fun i=>[].contains i) [] U (Li 0 22 U (yc z9j U (yi .h4 U)) (Lf 1 23 U (fun _=>yG Tryz.underlying229 U) (Lf 2 24 U (fun _=>y9U U U) (Lf 3 25 U (fun _=>q_m U) (Kb (fuel':=0) [(1,(vp z4e)),(12,R),(5,(vp z3w)),(6,(vp z3P)),(17,L),(7,(vp zXx)),(18,(.pointer (some ⟨z4e,5,none⟩))),(19,F),(20,L),(21,(.agg #[(vi z8o.1.fN),(vi z8o.1.fD)])),(8,(vp zXz)),(22,I),(23,(vi ((z4q.length:Nat):Int))),(24,P),(25,P),(32,(.bool zA3))] (y1U 11 [10,9,8,7,6,5,4,3,2,1,0]) ?_ (fun zK0=>?_))))))
    rotate_left
    ·rcases Bool.eq_false_or_eq_true (decide (((z4q.length:Nat):Int)=0)) with hb' | hb'
     ·have zAa:=hb';clear hb'
      have zAb:=yr zJZ zAa
      replace zAb:=oJ zAb
      refine L2 (i:=25) U zAa<|Lm 4 26 U<|Lm 5 27 U<|Lm 6 28 U<|Lm 7 29 U<|Lm 8 30 U<|Lm 9 31 U<|Lf 10 32 U (fun _=>y3x U U)<|Lw (.a8) ?_ zK0
      exact .r16 U U U U U U U U U U U U U U (zD<|Eq.symm zAa)<|zD zAb
     ·have zAc:=hb';clear hb'
      have zhk:=ys zJZ zAc
      obtain⟨znV,zhk⟩:=yl zhk
      obtain⟨zJX,zXA,zhk⟩:=za zhk
      replace zhk:=oJ zhk
      refine L2 (i:=25) U zAc<|Li 4 26 U (yh zg U (yj .here) U)<|Li 5 27 U (yc z9j U<|yi .h4 U)<|WD.know (fun w hw=>Hp.y2u .h5 hw (by intro hz';have:=znV;rw[hz'] at this;omega)) ?_
      rintro⟨z18l,rfl⟩
      refine Lf 6 28 U (fun _=>yW z2p U U znV.1 znV.2 y30)<|Li 7 29 U (y14 (cs:=(yA<|nth z4q 0)) zg U U<|y4S .h5<|y31 (enc:=yA) (l:=z4q) (i:=0) (sz:=2) (fun _=>U) znV.1 znV.2)<|L4 8 30 U (zb Tryz.call129<|.r2 U U) (cc hz .nil fun w pz ho=>y4Z zXA w pz )<|Lf 9 31 U (fun _=>ye4 U U)<|Lf 10 32 U (fun _=>y3y U U)<|Lw (.a8) ?_ zK0
      exact .r16 U U U U U U U U U U U U U U (zD<|Eq.symm zAc)<|zD zhk
    refine WD.done (by kernel_rfl)<|Lb<|WC.cond U (fun zAd=>?_)<|fun zAd=>?_
    ·replace z8p:=yr z8p zAd
     refine Ld<|Le 33 (yh zg U (yj .here) U) (Lg 34 (yS (cs:=([z8o.1]:List z2).flatMap yA) z2p (Lp (l:=[.tmp 33]) (.cons U .nil) [0]) (fun _=>by kernel_rfl) U (by unfold maxLen;omega)) fun zAe _=>Ll U U (yn zsY U U U .h5 U U U)<|WL.nil<|Lt ?_)
     obtain⟨rfl,rfl⟩:=yah z8p
     let M:Value:=(.slice (some ⟨zAe,0,none⟩) (([z8o.1]:List z2).length) 1);exact WX.y6N zri .h4 (fun w' hw'=>⟨((some ⟨zAe,0,none⟩),1),U,trivial,(hw'.selAll ((.s6 .h1 .h1 .h2 .h4 .h4 .here):Sel _ [stb z3P 229 [M],row M 175 2 (([z8o.1]:List z2).flatMap yA),stb z3w 277 [(vi z8o.2.fE)],stb z4r 175 [(vi 0),(vi 0)],stb z4e 231 E,blk z4P (z60 .ready none)] _)).sub (.cons .here .nil)⟩)
    ·replace z8p:=ys z8p zAd
     refine WC.skip<|Lt ?_
     obtain⟨rfl,rfl⟩:=yah z8p
     exact WX.y6N zri .h2<|fun w' hw'=>⟨(zko,zkp),U,trivial,(hw'.selAll ((.s6 .h4 .h4 .h2 .h3 .h3 .here):Sel _ [stb z3P 229 [I],row I 175 2 (z4q.flatMap yA),stb z3w 277 [(vi z8o.2.fE)],stb z4r 175 [(vi 0),(vi 0)],stb z4e 231 E,blk z4P (z60 .ready none)] _)).sub (.cons .here .nil)⟩
   ·skip
    rintro _ w' ⟨⟨znW,znX⟩,rfl,_,hp⟩
    have hp1:=hw1.call ((.cons .here .nil):Sel [y1M A,dfr z7y,stb z5i 231 C] [y1M A] K) hp
    let J:Value:=(.slice znW z4O.2.1.length znX);have hp2:Hp _ _ w' [stb z3P 229 [J],row J 175 2 (z4O.2.1.flatMap yA),stb z3w 277 [(vi z4O.2.2)],stb z4r 175 [(vi 0),(vi 0)],stb z4e 231 E,blk z4P (z60 (rdy (pcs [] z4O.1)) (pcs [] z4O.1)),dfr z7y,stb z5i 231 C]:=hp1.pickAll .here
    refine⟨_,pcs [] z4O.1,_,U,(hp2.sub ((.s8 .h5 .here .here .here .here .here .here .here):Sel _ [blk z4P (z60 (rdy (pcs [] z4O.1)) (pcs [] z4O.1)),stb z3P 229 [J],row J 175 2 (z4O.2.1.flatMap yA),stb z3w 277 [(vi z4O.2.2)],stb z4r 175 [(vi 0),(vi 0)],stb z4e 231 E,dfr z7y,stb z5i 231 C] _)),?_⟩
    clear hp hp1 hp2 pz hw hw1
    refine wjN ?_
    letI:Rnd:=aft z7y
    refine Lt ?_
    exact WX.midR (D:=fun(g:Nat×Int×List z2×Option Addr×Nat)=>g.1) (G:=Nat×Int×List z2×Option Addr×Nat) ⟨z7y,z4O.2.2,z4O.2.1,znW,znX⟩ h (.r3 U U U)<|.s5 .h3 .h2 .here .here .h1
  ·rintro znS zaH z7x znT znU h
   replace h:=(zXp zaH z7x).symm.trans h
   letI:Rnd:=aft znS
   refine WC.b<|WC.b<|Ld<|Le 35 (ya y5A U U)<|Le 36 (yc y3A U<|yi .h1 U)<|La U<|WL.nil<|Lb<|WC.cond U (fun zAf=>?_)<|fun zAf=>?_
   ·replace h:=yr h zAf
    refine WC.b<|Lv (fun i=>[3].contains i) [y7S z3w 277 [(0,(vi zaH))]] U<|Lf 0 38 U (fun _=>yL (v:=(.agg #[(vi 0),(vi 0)])) (Lp (l:=[]) .nil []) (fun _=>by kernel_rfl))<|Lf 1 39 U (fun _=>ya y5A U U)<|L7 2 40 U (Sin.wk (.cons .h1 .nil)<|.stb (.cons U .nil) .nil) (yc y3A U<|y5Z .here<|.head _)<|WD.forced0 (i:=3) U (by kernel_rfl) U U U (Sin.wk (.cons .h1 .nil)<|.stb (.cons U .nil) .nil) (yn zz U U U .here U U U)<|Lf 4 3 U (fun _=>q_z U)<|WD.done (by kernel_rfl)<|Lb<|WC.ret<|Lj ?_
    obtain rfl:=oJ h
    refine WX.y7s .h4 Tryz.results127 (.agg U zg U (yj .h1)<|.tmp U .nil)<|fun w hw=>?_
    exact⟨y1R U U,hw.sub .nil⟩
   ·replace h:=ys h zAf
    refine WC.skip<|Lb<|WC.b ?_
    obtain⟨znY,h⟩:=yl h
    refine Ld<|Le 41 (yc z9j U<|yi .h2 U)<|Ki (fun w hw=>Hp.y2u .h3 hw (by intro hz';have:=znY;rw[hz'] at this;omega)) ?_
    rintro⟨z18m,rfl⟩
    refine Le 42 (yW z2p U U znY.1 znY.2 y30)<|Le 43 (y14 (cs:=(yA<|nth z7x 0)) zg U U<|y4S .h3<|y31 (enc:=yA) (l:=z7x) (i:=0) (sz:=2) (fun _=>U) znY.1 znY.2)<|Ll U U (yn zz U U U .here U U U)<|La U<|WL.nil<|Lb<|WC.ret ?_
    obtain rfl:=oJ h
    refine WX.y7s .h4 Tryz.results127 (.agg U zg U (yj .h1)<|.tmp U .nil)<|fun w hw=>?_
    exact⟨y1R U U,hw.sub .nil⟩
def y5l(zcY:List (List z6))(z2Z:zSv):Option (z2×Int):=
 (y4i zcY z2Z zcY z2Z ([z2Z.fL]:List z2)).bind fun zAg=>some (zAg.1,zAg.2)
theorem ycL{Z:Zp}{znZ:Option Addr}{zo0:Nat}{zcY:List (List z6)}{z2Z:zSv}{r:z2×Int}(h:y5l zcY z2Z=some r)(w₀:World)(hz:PZ [] w₀ Z)(zK1:ZS Z 1 (y26 Z) znZ zo0 zcY):
  Calls Tryz.prog 82 #[(.slice znZ zcY.length zo0),(.agg #[(vi z2Z.fRate.fN),(vi z2Z.fRate.fD),(vi z2Z.fL.fN),(vi z2Z.fL.fD)])] w₀ fun e w'=>e = .returned (.tuple #[(.agg #[(vi r.1.fN),(vi r.1.fD)]),(vi r.2)])∧Hp [] w₀ w' []:=by
 unfold y5l at h
 refine Lz Tryz.func82 Tryz.ntmps82 ?_
 let C:Value:=(.slice znZ zcY.length zo0);refine WC.b (Ld (Lg 2 (yI (cs:=[C]) U U) ?_))
 intro zXB _
 refine Lg 3 (yI (cs:=[(vi z2Z.fRate.fN),(vi z2Z.fRate.fD),(vi z2Z.fL.fN),(vi z2Z.fL.fD)]) U U) fun zXC _=>Lg 4 (yv (cs:=[(vi 0),(vi 0)]) zV U) fun z18n _=>La U<|WL.nil<|Lb<|WC.b<|Ld<|Le 7 (yc z8A U<|yi .h2 U)<|Le 8 (yh zhV U (yj .h1) U)<|Le 9 (ya y97 U U)<|Le 10 (y14 (cs:=[(vi z2Z.fL.fN),(vi z2Z.fL.fD)]) zg U U<|y3D (s:=2) .h1 U)<|Lg 11 (yS (cs:=([z2Z.fL]:List z2).flatMap yA) z2p (Lp (l:=[.tmp 10]) (.cons U .nil) [0]) (fun _=>by kernel_rfl) U (by unfold maxLen;omega)) ?_
 intro zK2 _
 let A:Value:=(.slice (some ⟨zK2,0,none⟩) (([z2Z.fL]:List z2).length) 1);refine Le 12 (yL (v:=(.agg #[C,(vi z2Z.fRate.fN),(vi z2Z.fRate.fD),(vi z2Z.fL.fN),(vi z2Z.fL.fD),.nilFunc,A])) (Lp (l:=[.tmp 7,.tmp 8,.tmp 11]) (.r3 U U U) [0,1,3]) (fun _=>by kernel_rfl)) (Lg 6 (yv (cs:=[vn,(vi 0),(vi 0),(vi 0),(vi 0),.nilFunc,vn]) zDx U) ?_)
 intro z18o _
 refine Ll U U (yn zDy U U U .here U U U)<|WL.nil<|Lb<|WC.b<|Ld<|Le 13 (y16<|L3 (l:=[.tmp 2,.tmp 3])<|.r2 U U)<|Le 14 (ya ybK U U)<|Ll U U (y4I (ds:=[C,(vi z2Z.fRate.fN),(vi z2Z.fRate.fD),(vi z2Z.fL.fN),(vi z2Z.fL.fD),(.func (.func 128) #[] #[(vp zXB),(vp zXC)]),A]) zDz U U U U U .here U U)<|WL.nil<|Lb<|WC.b ?_
 obtain⟨zAg,zXD,h⟩:=za h
 refine Ld<|Le 15 (yh zhW U (yj .here) U)<|Lk 16 (zb Tryz.call127<|.cons U .nil) .nil (ccl hz .nil (.s3 .h4 .h3 .h1) fun w pz ho la=>yaY zXD w pz ((zK1.mono<|Zle.left _ _).weak (fun _ _ h=>y3M (Zle.left _ _) h)) ((zK1.mono<|Zle.left _ _).weak (fun _ _ h=>y3M (Zle.left _ _) h)) ((la _ (.head _) _).stb) ((la _ (.tail _<|.head _) _).stb)<|ZA.row (la _ (.tail _<|.tail _<|.head _) _) (RR.flat (enc:=yA) (fun _=>U) _) ⟨w,pz.1⟩)<|La U<|La U<|Ll U U (yn zz U U U .h2 U U U)<|La U<|WL.nil<|Lb<|WC.ret ?_
 obtain rfl:=oJ h
 refine Lh Tryz.results82 (.agg U zg U (yj .here)<|.tmp U .nil)<|fun w hw=>?_
 exact⟨y1R U U,hw.sub .nil⟩
def y20(z1V:z2×Int)(z1W:z2×Int)(zcZ:Int→Option (S36×Int×(List (zO×z2))×(List (z8×Int)))):Nat→Int→Int→Option (S36×Int×(List (zO×z2))×(List (z8×Int)))
 | 0,_,_=>none
 | zAh+1,z4s,z75=>if decide (z4s<((([z1V.2,z1W.2]:List Int).length:Nat):Int)) then jp1 (fun(zd0:Int)=>y20 z1V z1W zcZ zAh (i64 (z4s+1)) zd0) fun zrj=>chk ((0:Int)≤z4s∧z4s<((([z1V.2,z1W.2]:List Int).length:Nat):Int)) (jp1 (fun(zaI:Int)=>if decide (z75=0) then zrj zaI else zrj z75) fun zrk=>if decide ((nth ([z1V.2,z1W.2]:List Int) z4s)=6) then zrk 352 else zrk (nth ([z1V.2,z1W.2]:List Int) z4s)) else zcZ z75
theorem ya4{n:Nat}{z1V:z2×Int}{z1W:z2×Int}{zcZ:Int→Option (S36×Int×(List (zO×z2))×(List (z8×Int)))}{z4s:Int}{z75:Int}{r:S36×Int×(List (zO×z2))×(List (z8×Int))}(h:y20 z1V z1W zcZ n z4s z75=some r):∃ m,n=m+1:=by
 cases n with
 | zero=>cases h
 | succ m=>exact⟨m,rfl⟩
def y5G(zm:zs)(z78:List (List ze))(zhl:List (zO×z2))(z79:List (z8×Int))(zhm:Int)(z1N:z8):Option (S36×Int×(List (zO×z2))×(List (z8×Int))):=
 (y53 zm z78 zhl z79 zhm z1N).bind fun z4f=>jp2 (fun(z9R:List (List z6)) (zfc:Int)=>chk ((0:Int)≤z1N.fQ∧z1N.fQ<((zm.fK.length:Nat):Int)) ((y2F zfc).bind fun zo1=>(y5R z9R (⟨(⟨1,((nth zm.fK z1N.fQ).fSlow)⟩:z2),zo1⟩:zSv)).bind fun z1V=>(y5l z9R (⟨(⟨1,((nth zm.fK z1N.fQ).fSlow)⟩:z2),zo1⟩:zSv)).bind fun z1W=>jp1 (fun(zfd:Int)=>(y1Z z1V.1).bind fun zo2=>(y1Z z1W.1).bind fun zAi=>some (({z1N with fDelay:=(yf (yF z79 z1N zo2) z1N 0),fT:=i64 (zAi+z4f.2.1)}:S36),zfd,z4f.2.2.2,(yF z79 z1N zo2))) fun zcZ=>y20 z1V z1W zcZ yx 0 z4f.2.2.1)) fun zrl=>if decide ((i64 (z1N.fNode-((zm.fM.length:Nat):Int)))≥0) then chk ((0:Int)≤(i64 (z1N.fNode-((zm.fM.length:Nat):Int)))∧(i64 (z1N.fNode-((zm.fM.length:Nat):Int)))<((zm.fS.length:Nat):Int)) (zrl z4f.1 ((nth zm.fS (i64 (z1N.fNode-((zm.fM.length:Nat):Int)))).fDelay)) else zrl z4f.1 0
theorem ydo{Z:Zp}{z6v:Nat}{z8X:Option Addr}{z8Y:Nat}{z8Z:Option Addr}{z90:Nat}{z91:Option Addr}{z92:Nat}{z93:Option Addr}{z94:Nat}{z95:Option Addr}{z96:Nat}{z97:Option Addr}{z98:Nat}{z99:Option Addr}{z9a:Nat}{z9b:Option Addr}{z9c:Nat}{z9d:Option Addr}{z9e:Nat}{z4g:Nat}{z4h:Nat}{zm:zs}{z78:List (List ze)}{zhl:List (zO×z2)}{z79:List (z8×Int)}{zhm:Int}{z1N:z8}{r:S36×Int×(List (zO×z2))×(List (z8×Int))}(h:y5G zm z78 zhl z79 zhm z1N=some r)(w₀:World)(hz:PZ (fps [stb z6v 119 [(.slice z8X zm.fM.length z8Y),(.slice z8Z zm.fC0.length z90),(.slice z91 zm.fS.length z92),(.slice z93 zm.fK.length z94),(.slice z95 zm.fVLs.length z96),(.slice z97 zm.fH.length z98),(.slice z99 zm.fU.length z9a),(.slice z9b zm.fV0.length z9c),(.slice z9d z78.length z9e),(.map (some z4g)),(.map (some z4h)),(vi zhm)],ym z4g (fun x=>Value.agg (y2J x).toArray) (fun x=>Value.agg (yA x).toArray) zhl,ym z4h (fun x=>Value.agg (yE x).toArray) (Value.int .i64) z79]) w₀ Z)(zXE:ZS Z 4 (y3L Z) z8X z8Y zm.fM)(zXF:ZS Z 4 (y4n Z) z8Z z90 zm.fC0)(zK3:ZS Z 4 (fun r x=>r=e64 x) z91 z92 zm.fS)(zK4:ZS Z 4 (fun r x=>r=e62 x) z93 z94 zm.fK)(zXG:ZS Z 7 (p69 Z) z95 z96 zm.fVLs)(zXH:ZS Z 5 (fun r x=>r=y4C x) z97 z98 zm.fH)(zXI:ZS Z 3 (y4o Z) z99 z9a zm.fU)(zXJ:ZS Z 4 (fun r x=>r=y4D x) z9b z9c zm.fV0)(zXK:ZS Z 1 (p58 Z) z9d z9e z78)(hown:Hp (fps [stb z6v 119 [(.slice z8X zm.fM.length z8Y),(.slice z8Z zm.fC0.length z90),(.slice z91 zm.fS.length z92),(.slice z93 zm.fK.length z94),(.slice z95 zm.fVLs.length z96),(.slice z97 zm.fH.length z98),(.slice z99 zm.fU.length z9a),(.slice z9b zm.fV0.length z9c),(.slice z9d z78.length z9e),(.map (some z4g)),(.map (some z4h)),(vi zhm)],ym z4g (fun x=>Value.agg (y2J x).toArray) (fun x=>Value.agg (yA x).toArray) zhl,ym z4h (fun x=>Value.agg (yE x).toArray) (Value.int .i64) z79]) w₀ w₀ [stb z6v 119 [(.slice z8X zm.fM.length z8Y),(.slice z8Z zm.fC0.length z90),(.slice z91 zm.fS.length z92),(.slice z93 zm.fK.length z94),(.slice z95 zm.fVLs.length z96),(.slice z97 zm.fH.length z98),(.slice z99 zm.fU.length z9a),(.slice z9b zm.fV0.length z9c),(.slice z9d z78.length z9e),(.map (some z4g)),(.map (some z4h)),(vi zhm)],ym z4g (fun x=>Value.agg (y2J x).toArray) (fun x=>Value.agg (yA x).toArray) zhl,ym z4h (fun x=>Value.agg (yE x).toArray) (Value.int .i64) z79]):
  Calls Tryz.prog 43 #[(vp z6v),(.agg #[(vi z1N.fNode),(vi z1N.fQ)])] w₀ fun e w'=>e = .returned (.agg #[(vi r.1.fNode),(vi r.1.fQ),(vi r.1.fDelay),(vi r.1.fT)])∧Hp (fps [stb z6v 119 [(.slice z8X zm.fM.length z8Y),(.slice z8Z zm.fC0.length z90),(.slice z91 zm.fS.length z92),(.slice z93 zm.fK.length z94),(.slice z95 zm.fVLs.length z96),(.slice z97 zm.fH.length z98),(.slice z99 zm.fU.length z9a),(.slice z9b zm.fV0.length z9c),(.slice z9d z78.length z9e),(.map (some z4g)),(.map (some z4h)),(vi zhm)],ym z4g (fun x=>Value.agg (y2J x).toArray) (fun x=>Value.agg (yA x).toArray) zhl,ym z4h (fun x=>Value.agg (yE x).toArray) (Value.int .i64) z79]) w₀ w' [stb z6v 119 [(.slice z8X zm.fM.length z8Y),(.slice z8Z zm.fC0.length z90),(.slice z91 zm.fS.length z92),(.slice z93 zm.fK.length z94),(.slice z95 zm.fVLs.length z96),(.slice z97 zm.fH.length z98),(.slice z99 zm.fU.length z9a),(.slice z9b zm.fV0.length z9c),(.slice z9d z78.length z9e),(.map (some z4g)),(.map (some z4h)),(vi r.2.1)],ym z4g (fun x=>Value.agg (y2J x).toArray) (fun x=>Value.agg (yA x).toArray) r.2.2.1,ym z4h (fun x=>Value.agg (yE x).toArray) (Value.int .i64) r.2.2.2]:=by
 unfold y5G at h
 refine Kg Tryz.func43 Tryz.ntmps43 hown ?_
 let L:List Value:=[(vi z1N.fNode),(vi z1N.fQ)];refine WC.pool (WC.b (Ld (Lg 3 (yI (cs:=L) U U) ?_)))
 intro zaJ _
 let C:List Value:=[(vi 0),(vi 0),(vi 0),(vi 0)];refine Lg 4 (yv (cs:=C) y88 U) ?_
 intro zaK _
 refine WL.nil<|Lb<|WC.b ?_
 obtain⟨z4f,zXL,h⟩:=za h
 refine Ld<|La U<|Le 18 (yh z5v U (yj .h1) U)<|WL.y8g (dd:=19) U U U (zb Tryz.call79<|.r2 U U) (.s3 .h3 .h3 .h3) (ccz hz (.s3 .h3 .h3 .h3) .h2 fun w pz ho=>yck zXL w pz ((zXE.mono<|Zle.left _ _).weak (fun _ _ h=>y1c (Zle.left _ _) h)) ((zXF.mono<|Zle.left _ _).weak (fun _ _ h=>y1o (Zle.left _ _) h)) (zK3.mono<|Zle.left _ _) (zK4.mono<|Zle.left _ _) ((zXG.mono<|Zle.left _ _).weak (fun _ _ h=>y1e (Zle.left _ _) h)) (zXH.mono<|Zle.left _ _) ((zXI.mono<|Zle.left _ _).weak (fun _ _ h=>y1p (Zle.left _ _) h)) (zXJ.mono<|Zle.left _ _) ((zXK.mono<|Zle.left _ _).weak (fun _ _ h=>y1B (Zle.left _ _) h)) ho) ?_
 rintro zfe zK5 zK6 zK7 zK8
 refine WL.merge .here .h6<|La U<|La U<|La U<|La U<|La U<|WL.nil<|Lb<|WC.b<|Ld<|La U<|WL.nil<|Lb ?_
 obtain⟨zrl,zXM,h⟩:=y57 h
 let D:Value:=(.slice z95 zm.fVLs.length z96);let E:Value:=(.slice z8Z zm.fC0.length z90);let F:Value:=(.slice z9b zm.fV0.length z9c);let G:Value:=(.slice z8X zm.fM.length z8Y);let H:Value:=(.slice z91 zm.fS.length z92);let I:Value:=(.slice z93 zm.fK.length z94);let J:Value:=(.slice z97 zm.fH.length z98);let K:Value:=(.slice z99 zm.fU.length z9a);let M:Value:=(.slice z9d z78.length z9e);refine Kc (fun(z9R:List (List z6)) (zfc:Int) (zo3:List Value)=>(zrl z9R zfc=some r)∧(RR 1 (y26 (Z++([]++zfe))) zo3 z9R)) (fun z9R zfc zo3=>[(0,(vp z6v)),(3,(vp zaJ)),(4,(vp zaK)),(5,(.slice zK5 z9R.length zK6)),(6,(vi z4f.2.1)),(7,(vi zfc))]) (fun z9R zfc zo3=>[fz ([]++zfe),row (.slice zK5 z9R.length zK6) 227 1 zo3,stb z6v 119 [G,E,H,I,D,J,K,F,M,(.map (some z4g)),(.map (some z4h)),(vi z4f.2.2.1)],stb zaJ 121 L,stb zaK 37 C,ym z4g (fun x=>Value.agg (y2J x).toArray) (fun x=>Value.agg (yA x).toArray) z4f.2.2.2,ym z4h (fun x=>Value.agg (yE x).toArray) (Value.int .i64) z79]) ?_ ?_
 ·skip
  refine WC.b<|Lv (fun i=>[].contains i) [] U<|Lf 0 22 U (fun _=>ya y94 U U)<|Li 1 23 U (yc yq U<|yi .h6 U)<|Lf 2 24 U (fun _=>q_m U)<|Lf 3 25 U (fun _=>y1f U)<|Lf 4 26 U (fun _=>ya y6j U U)<|Lf 5 27 U (fun _=>ya y6u U U)<|Li 6 28 U (yc y6v U<|yi .h2 U)<|Lf 7 29 U (fun _=>yG Tryz.underlying22 U)<|Lf 8 30 U (fun _=>y8x U U U)<|Lf 9 8 U (fun _=>q_z U)<|WD.done (by kernel_rfl)<|Lb<|WC.b<|Ld<|La U<|La U<|WL.nil<|Lb<|WC.cond U (fun zAj=>?_)<|fun zAj=>?_
  ·replace h:=yr h zAj
   obtain⟨zXN,h⟩:=yl h
   refine Ld<|La U<|Le 34 (y1f U)<|Le 35 (ya y6j U U)<|Le 36 (ya y92 U U)<|Le 37 (yc y93 U<|yi .h2 U)<|La U<|L0 (dd:=39) U U (Z:=(Z++([]++zfe))) (Pr:=(fun r x=>r=e64 x)) yba U U (zK3.mono<|(Zle.left _ _).trans ((Zle.left _ _).trans (Zle.yN _ _ _))) zXN ?_
   rintro z18p z18q zXO z18r rfl
   refine Le 40 (ya ybb U U)<|Le 41 (yc yq U<|y17 (hz.pv2 .here) zXO U)<|La U<|WL.nil ?_
   exact Lo ⟨z4f.1,((nth zm.fS<|i64 (z1N.fNode-((zm.fM.length:Nat):Int))).fDelay),zK7⟩ ⟨h,(zK8.weak<|fun _ _ h=>y3M (Zle.yN _ _ _) h)⟩ (.r6 U U U U U U)<|.s7 .here .here .here .h3 .h2 .here .here
  ·replace h:=ys h zAj
   refine WC.skip ?_
   exact Lo ⟨z4f.1,0,zK7⟩ ⟨h,(zK8.weak<|fun _ _ h=>y3M (Zle.yN _ _ _) h)⟩ (.r6 U U U U U U)<|.s7 .here .here .here .h3 .h2 .here .here
 ·rintro z9R zfc zo3 ⟨h,zK9⟩
  replace h:=(zXM z9R zfc).symm.trans h
  refine WC.b ?_
  obtain⟨zXP,h⟩:=yl h
  obtain⟨zo1,zXQ,h⟩:=za h
  refine Lv (fun i=>[15].contains i) [] U<|Lf 0 42 U (fun _=>q_m U)<|Lf 1 43 U (fun _=>y1f U)<|Lf 2 44 U (fun _=>ya y6j U U)<|Lf 3 45 U (fun _=>ya y74 U U)<|Li 4 46 U (yc y75 U<|yi .h2 U)<|Lf 5 47 U (fun _=>ya yaj U U)<|Li 6 48 U (yc yq U<|yi .h3 U)<|L5 (j:=7) (dd:=49) (by kernel_rfl) U z1Z z20 U U (Z:=(Z++([]++zfe))) (Pr:=(fun r x=>r=e62 x)) y9p U U (zK4.mono<|(Zle.left _ _).trans ((Zle.left _ _).trans (Zle.yN _ _ _))) zXP ?_
  rintro z18s z18t zXR z18u rfl
  let Q:Value:=(vi ((nth zm.fK z1N.fQ).fSlow));refine Lf 8 50 U (fun _=>ya y8j U U) (Li 9 51 U (yc yq U (y17 (hz.pv2 .here) zXR U)) (Lf 10 52 U (fun _=>yL (v:=(.agg #[(vi 1),Q])) (Lp (l:=[.const (vi 1),.tmp 51]) (.r2 U U) [0,1]) (fun _=>by kernel_rfl)) (Lf 11 53 U (fun _=>q_m U) (L4 12 54 U (zb Tryz.call80 (.cons U .nil)) (ccz hz .nil .here fun w pz ho=>y5C zXQ w pz ) (Lf 13 55 U (fun _=>yL (v:=(.agg #[(vi 1),Q,(vi zo1.fN),(vi zo1.fD)])) (Lp (l:=[.tmp 52,.tmp 54]) (.r2 U U) [0,1]) (fun _=>by kernel_rfl)) (WD.new (i:=14) (dd:=9) U (by kernel_rfl) U U U (yv (cs:=C) zM3 U) (fun h'=>absurd h' (by decide)) ?_))))))
  intro z18v _
  refine Kd (i:=15) U (by kernel_rfl) U U U (by kernel_rfl) (yn zM4 U U U .here U U U)<|WD.done (by kernel_rfl)<|Lb<|WC.b ?_
  obtain⟨z1V,zXS,h⟩:=za h
  refine Ld<|La U<|Le 58 (yh zhV U (yj .here) U)<|Lk 59 (zb Tryz.call81<|.r2 U U) .nil (yai hz .nil .h1 (.cons .h2 .nil) fun w pz ho la=>ydQ zXS w pz<|ZA.row (la _ (.head _) _) (zK9.weak<|fun _ _ h=>y3M (Zle.left _ _) h) ⟨w,pz.1⟩)<|La U<|La U<|La U (Lg 10 (yv (cs:=[(vi 0),(vi 0)]) zV U) fun zff _=>Ll U U (yn zz U U U .here U U U)<|La U<|WL.nil<|Lb<|WC.b ?_)
  obtain⟨z1W,zXT,h⟩:=za h
  refine Ld<|La U<|Le 64 (yh zhV U (yj .h1) U)<|Lk 65 (zb Tryz.call82<|.r2 U U) .nil (yai hz .nil .h2 (.cons .h3 .nil) fun w pz ho la=>ycL zXT w pz<|ZA.row (la _ (.head _) _) (zK9.weak<|fun _ _ h=>y3M (Zle.left _ _) h) ⟨w,pz.1⟩)<|La U<|La U<|La U (Lg 12 (yv (cs:=[(vi 0),(vi 0)]) zV U) fun zfg _=>Ll U U (yn zz U U U .here U U U)<|La U<|WL.nil<|Lb ?_)
  obtain⟨zcZ,zXU,h⟩:=yZ h
  let O:List Value:=[(vi z1V.1.fN),(vi z1V.1.fD)];let P:List Value:=[(vi z1W.1.fN),(vi z1W.1.fD)];refine Kf (fun(zfd:Int)=>(zcZ zfd=some r)) (fun zfd=>[(0,(vp z6v)),(3,(vp zaJ)),(4,(vp zaK)),(6,(vi z4f.2.1)),(10,(vp zff)),(12,(vp zfg))]) (fun zfd=>[fz ([]++zfe),stb z6v 119 [G,E,H,I,D,J,K,F,M,(.map (some z4g)),(.map (some z4h)),(vi zfd)],stb zaJ 121 L,stb zaK 37 C,stb zff 175 O,stb zfg 175 P,ym z4g (fun x=>Value.agg (y2J x).toArray) (fun x=>Value.agg (yA x).toArray) z4f.2.2.2,ym z4h (fun x=>Value.agg (yE x).toArray) (Value.int .i64) z79]) ?_ ?_
  ·skip
   refine WC.b<|Ld<|La U<|La U<|Lg 70 (yS (cs:=([z1V.2,z1W.2]:List Int).flatMap e41) zDE (Lp (l:=[.tmp 68,.tmp 69]) (.r2 U U) [0,1]) (fun _=>by kernel_rfl) U (by unfold maxLen;omega)) ?_
   intro zkq _
   let A:Value:=(.slice (some ⟨zkq,0,none⟩) (([z1V.2,z1W.2]:List Int).length) 2);let N:Value:=(vi ((([z1V.2,z1W.2]:List Int).length:Nat):Int));refine Le 71 (yG Tryz.underlying181 U) (La U (WL.nil (Lb (WC.block (WC.y8S (fun(zkr:Nat) (z4s:Int) (z75:Int)=>(y20 z1V z1W zcZ zkr z4s z75=some r)) (fun zkr z4s z75=>[(0,(vp z6v)),(3,(vp zaJ)),(4,(vp zaK)),(6,(vi z4f.2.1)),(10,(vp zff)),(12,(vp zfg)),(70,A),(71,N),(72,(vi z4s))]) (fun zkr z4s z75=>[fz ([]++zfe),row A 41 1 (([z1V.2,z1W.2]:List Int).flatMap e41),stb z6v 119 [G,E,H,I,D,J,K,F,M,(.map (some z4g)),(.map (some z4h)),(vi z75)],stb zaJ 121 L,stb zaK 37 C,stb zff 175 O,stb zfg 175 P,ym z4g (fun x=>Value.agg (y2J x).toArray) (fun x=>Value.agg (yA x).toArray) z4f.2.2.2,ym z4h (fun x=>Value.agg (yE x).toArray) (Value.int .i64) z79]) (fun zkr z4s z75=>zkr) ⟨yx,0,z4f.2.2.1⟩ h (.r9 U U U U U U U U U) (.s9 .h4 .here .h4 .h4 .h4 .h1 .here .h2 .h2) ?_)))))
   rintro zkr z4s z75 h
   obtain⟨zAh,rfl⟩:=ya4 h
   rw[y20] at h
   refine WC.b<|Ld<|La U<|WL.nil<|Lb<|WC.b<|WC.cond U (fun zAk=>?_)<|fun zAk=>?_
   ·replace h:=yr h zAk
    refine WC.skip<|Lb ?_
    obtain⟨zrj,zXV,h⟩:=yZ h
    refine Kf (fun(zd0:Int)=>(zrj zd0=some r)) (fun zd0=>[(0,(vp z6v)),(3,(vp zaJ)),(4,(vp zaK)),(6,(vi z4f.2.1)),(10,(vp zff)),(12,(vp zfg)),(70,A),(71,N),(72,(vi z4s))]) (fun zd0=>[fz ([]++zfe),row A 41 1 (([z1V.2,z1W.2]:List Int).flatMap e41),stb z6v 119 [G,E,H,I,D,J,K,F,M,(.map<|some z4g),(.map<|some z4h),(vi zd0)],stb zaJ 121 L,stb zaK 37 C,stb zff 175 O,stb zfg 175 P,ym z4g (fun x=>Value.agg (y2J x).toArray) (fun x=>Value.agg (yA x).toArray) z4f.2.2.2,ym z4h (fun x=>Value.agg (yE x).toArray) (Value.int .i64) z79]) ?_ ?_
    ·skip
     refine WC.block<|WC.b ?_
     obtain⟨zrm,h⟩:=yl h
     refine Ld<|Le 74 (yW zDE U U zrm.1 zrm.2 y30)<|Le 75 (yc y3A U<|y63 .h1<|(y31 (enc:=e41) (l:=([z1V.2,z1W.2]:List Int)) (i:=z4s) (sz:=1) (fun _=>U) zrm.1 zrm.2) 0 _ U)<|La U<|WL.nil<|Lb ?_
     obtain⟨zrk,zXW,h⟩:=yZ h
     refine Kf (fun(zaI:Int)=>(zrk zaI=some r)) (fun zaI=>[(0,(vp z6v)),(3,(vp zaJ)),(4,(vp zaK)),(6,(vi z4f.2.1)),(10,(vp zff)),(12,(vp zfg)),(15,(vi zaI)),(70,A),(71,N),(72,(vi z4s))]) (fun zaI=>[fz ([]++zfe),row A 41 1 (([z1V.2,z1W.2]:List Int).flatMap e41),stb z6v 119 [G,E,H,I,D,J,K,F,M,(.map<|some z4g),(.map<|some z4h),(vi z75)],stb zaJ 121 L,stb zaK 37 C,stb zff 175 O,stb zfg 175 P,ym z4g (fun x=>Value.agg (y2J x).toArray) (fun x=>Value.agg (yA x).toArray) z4f.2.2.2,ym z4h (fun x=>Value.agg (yE x).toArray) (Value.int .i64) z79]) ?_ ?_
     ·skip
      refine WC.b<|Ld<|La U<|La U<|WL.nil<|Lb<|WC.cond U (fun zAl=>?_)<|fun zAl=>?_
      ·replace h:=yr h zAl
       refine Ld<|La U<|WL.nil ?_
       exact Lo 352 h (.r10 U U U U U U U U U U)<|.a9
      ·replace h:=ys h zAl
       refine WC.skip ?_
       exact Lo (nth ([z1V.2,z1W.2]:List Int) z4s) h (.r10 U U U U U U U U U U)<|.a9
     ·rintro zaI h
      replace h:=(zXW zaI).symm.trans h
      refine WC.b<|Ld<|La U<|Le 79 (y1f U)<|Le 80 (ya y95 U U)<|Le 81 (yc y3A U<|yi .h2 U)<|La U<|WL.nil<|Lb<|WC.cond U (fun zAm=>?_)<|fun zAm=>?_
      ·replace h:=yr h zAm
       refine Ld<|La U<|La U<|Le 85 (y1f U)<|Le 86 (ya y95 U U)<|Ll U U (y4I (ds:=[G,E,H,I,D,J,K,F,M,(.map<|some z4g),(.map<|some z4h),(vi zaI)]) ybd U U U U U .h2 U U)<|WL.nil<|Lt ?_
       exact Lo zaI h (.r9 U U U U U U U U U)<|.s9 .h1 .h1 .here .here .here .here .here .here .here
      ·replace h:=ys h zAm
       refine WC.skip<|Lt ?_
       exact Lo z75 h (.r9 U U U U U U U U U)<|.a9
    ·rintro zd0 h
     replace h:=(zXV zd0).symm.trans h
     refine Ld<|La U<|La U<|WL.nil ?_
     exact WX.round ⟨zAh,(i64 (z4s+1)),zd0⟩ h (Nat.lt_succ_self _) (.r9 U U U U U U U U U)<|.a9
   ·replace h:=ys h zAk
    refine WC.exit<|Ln<|Ln<|Lu ?_
    exact Lo z75 h (.r6 U U U U U U)<|.s8 .here .h1 .h1 .h1 .h1 .h1 .h1 .h1
  ·rintro zfd h
   replace h:=(zXU zfd).symm.trans h
   refine WC.b ?_
   obtain⟨zo2,zXX,h⟩:=za h
   refine Lv (fun i=>[7].contains i) [] U<|Lf 0 88 U (fun _=>q_m U)<|Lf 1 89 U (fun _=>y1f U)<|Lf 2 90 U (fun _=>ya ydO U U)<|Li 3 91 U (yc zlz U<|yi .h1 U)<|Li 4 92 U (yh z5v U (yj .h2) U)<|Li 5 93 U (yh zg U (yj .h4) U)<|L4 6 94 U (zb Tryz.call83<|.cons U .nil) (ccz hz .nil .here fun w pz ho=>y6m zXX w pz )<|Kd (i:=7) U (by kernel_rfl) U U U (by kernel_rfl) (y3o (k:=z1N) (v:=zo2) zdA Tryz.underlying117 U U U U .h7)<|WD.done (by kernel_rfl)<|Lb<|WC.b ?_
   obtain⟨zAi,zXY,h⟩:=za h
   refine Lv (fun i=>[15].contains i) [] U<|Lf 0 95 U (fun _=>ya y94 U U)<|Li 1 96 U (yc yq U<|yi .h3 U)<|Lf 2 97 U (fun _=>ya yaj U U)<|Li 3 98 U (yc yq U<|yi .h3 U)<|Lf 4 99 U (fun _=>q_m U)<|Lf 5 100 U (fun _=>y1f U)<|Lf 6 101 U (fun _=>ya ydO U U)<|Li 7 102 U (yc zlz U<|yi .h2 U)<|Li 8 103 U (yh z5v U (yj .h3) U)<|Li 9 104 U (y2C (k:=z1N) (dflt:=(0:Int)) zdA Tryz.underlying117 y2v U U U .here)<|Li 10 105 U (yh zg U (yj .h6) U)<|L4 11 106 U (zb Tryz.call83<|.cons U .nil) (ccz hz .nil .h1 fun w pz ho=>y6m zXY w pz )<|Lf 12 107 U (fun _=>q_m U)<|Lf 13 108 U (fun _=>y8w U U U)<|Lf 14 109 U (fun _=>yL (v:=(.agg #[(vi z1N.fNode),(vi z1N.fQ),(vi<|yf (yF z79 z1N zo2) z1N 0),(vi<|i64 (zAi+z4f.2.1))])) (Lp (l:=[.tmp 96,.tmp 98,.tmp 104,.tmp 108]) (.r4 U U U U) [0,1,2,3]) (fun _=>by kernel_rfl))<|Kd (i:=15) U (by kernel_rfl) U U U (by kernel_rfl) (yn y8k U U U .h4 U U U)<|WD.done (by kernel_rfl)<|Lb<|WC.ret ?_
   obtain rfl:=oJ h
   refine Lh Tryz.results43 (.agg U y77 U (yj .here) .nil)<|fun w hw=>?_
   exact⟨yD U,hw.sub (.s3 .h3 .h6 .h1)⟩
def y2f(z7z:S36)(z7A:S36):Option Int:=
 (y1v (⟨z7z.fNode,z7z.fQ⟩:z8) (⟨z7A.fNode,z7A.fQ⟩:z8)).bind fun zKa=>some zKa
theorem ydp{Z:Zp}{z7z:S36}{z7A:S36}{r:Int}(h:y2f z7z z7A=some r)(w₀:World)(hz:PZ [] w₀ Z):
  Calls Tryz.prog 44 #[(.agg #[(vi z7z.fNode),(vi z7z.fQ),(vi z7z.fDelay),(vi z7z.fT)]),(.agg #[(vi z7A.fNode),(vi z7A.fQ),(vi z7A.fDelay),(vi z7A.fT)])] w₀ fun e w'=>e = .returned (vi r)∧Hp [] w₀ w' []:=by
 unfold y2f at h
 refine Lz Tryz.func44 Tryz.ntmps44 ?_
 refine WC.b<|Ld (Lg 2 (yI (cs:=[(vi z7z.fNode),(vi z7z.fQ),(vi z7z.fDelay),(vi z7z.fT)]) U U) fun z18w _=>Lg 3 (yI (cs:=[(vi z7A.fNode),(vi z7A.fQ),(vi z7A.fDelay),(vi z7A.fT)]) U U) fun z18x _=>La U<|WL.nil<|Lb<|WC.b ?_)
 obtain⟨zKa,zXZ,h⟩:=za h
 refine Ld<|Le 5 (ya y78 U U)<|Le 6 (yc yq U<|yi .h1 U)<|Le 7 (ya y8l U U)<|Le 8 (yc yq U<|yi .h1 U)<|Le 9 (yL (v:=(.agg #[(vi z7z.fNode),(vi z7z.fQ)])) (Lp (l:=[.tmp 6,.tmp 8]) (.r2 U U) [0,1]) (fun _=>by kernel_rfl))<|Le 10 (ya y78 U U)<|Le 11 (yc yq U<|yi .here U)<|Le 12 (ya y8l U U)<|Le 13 (yc yq U<|yi .here U)<|Le 14 (yL (v:=(.agg #[(vi z7A.fNode),(vi z7A.fQ)])) (Lp (l:=[.tmp 11,.tmp 13]) (.r2 U U) [0,1]) (fun _=>by kernel_rfl))<|Lk 15 (zb Tryz.call45<|.r2 U U) .nil (cc hz .nil fun w pz ho=>y8G zXZ w pz )<|La U<|WL.nil<|Lb<|WC.ret ?_
 obtain rfl:=oJ h
 refine Lh Tryz.results44 (.tmp U .nil)<|fun w hw=>?_
 exact⟨yD U,hw.sub .nil⟩
theorem srtA_56:∀ w,(isAgg (Tryz.y42.t 24)).run Tryz.prog w = .ok true w:=fun _=>by kernel_rfl
theorem srtZ_56:∀ w,(Go.sizeOf (Tryz.y42.t 24)).run Tryz.prog w = .ok 4 w:=fun _=>by kernel_rfl
def y2A(z61:List S36)(zo4:Int)(zo5:Int)(zks:Int)(zhn:S36→S36→Option Int):Option (List S36):=chk ((zo4=0∧zo5=((z61.length:Nat):Int))∧(0≤zks∧zks<4611686018427387904∧z61.length<4611686018427387904)) (chk (y87 zhn (yX zhn z61)=true) (some (yX zhn z61)))
theorem y7m(Z:Zp)(zho:Option Addr)(zhp:Nat)(zo6:FuncId)(zAn:List Value)(z61:List S36)(zo4:Int)(zo5:Int)(zks:Int)(zhn:S36→S36→Option Int)(r:List S36)(w₀:World)(hz:PZ (fps [row (.slice zho z61.length zhp) 37 4 (z61.flatMap e37)]) w₀ Z)(zY0:∀ args w,(callFunc zo6 args).run Tryz.prog w = .ok (.enter zo6 args) w)(zY1:∀ w:World,PZ [] w Z→∀(x0:S36) (x1:S36) (r:Int),zhn x0 x1=some r→Calls Tryz.prog zo6 (([(.agg #[(vi x0.fNode),(vi x0.fQ),(vi x0.fDelay),(vi x0.fT)]),(.agg #[(vi x1.fNode),(vi x1.fQ),(vi x1.fDelay),(vi x1.fT)])]:List Value)++zAn).toArray w fun e w'=>e = .returned (vi r)∧Hp [] w w' [])(h:y2A z61 zo4 zo5 zks zhn=some r)(hown:Hp (fps [row (.slice zho z61.length zhp) 37 4 (z61.flatMap e37)]) w₀ w₀ [row (.slice zho z61.length zhp) 37 4 (z61.flatMap e37)]):
  Calls Tryz.prog 56 #[(.slice zho z61.length zhp),(vi zo4),(vi zo5),(vi zks),(.func (.func zo6) #[] (zAn).toArray)] w₀ fun e w'=>e = .returned (.tuple #[])∧(r.length=z61.length)∧Hp (fps [row (.slice zho z61.length zhp) 37 4 (z61.flatMap e37)]) w₀ w' [row (.slice zho r.length zhp) 37 4 (r.flatMap e37)]:=by
 obtain⟨h0,h⟩:=yl h
 obtain⟨h1,h⟩:=yl h
 have hr:=(oJ h).symm
 exact y9n (P:=Tryz.prog) (f:=56) (e:=37) (k:=4) (enc:=e37) (fun _=>U) (by decide) yee (fun β _ enc cf g cb hO blk off cap d0 w0 eg hC R=>Tryz.y9o 4 srtA_56 srtZ_56 enc cf g cb hO blk off cap d0 w0 eg hC R) (Tryz.y91 (α:=Unit)) hz zY0 zY1 h0 h1 hr hown
def yQ(z5j:List S36)(zhq:S36→S36→Option Int):Option (List S36):=
 (y4k (u64 ((z5j.length:Nat):Int))).bind fun zrn=>(y2A z5j 0 ((z5j.length:Nat):Int) zrn zhq).bind fun zro=>some zro
theorem y4f(Z:Zp)(zfh:Option Addr)(zfi:Nat)(zhr:FuncId)(zo7:List Value)(z5j:List S36)(zhq:S36→S36→Option Int)(r:List S36)(h:yQ z5j zhq=some r)(w₀:World)(hz:PZ (fps [row (.slice zfh z5j.length zfi) 37 4 (z5j.flatMap e37)]) w₀ Z)(zY2:∀ args w,(callFunc zhr args).run Tryz.prog w = .ok (.enter zhr args) w)(zY3:∀ w:World,PZ [] w Z→∀(x0:S36) (x1:S36) (r:Int),zhq x0 x1=some r→Calls Tryz.prog zhr (([(.agg #[(vi x0.fNode),(vi x0.fQ),(vi x0.fDelay),(vi x0.fT)]),(.agg #[(vi x1.fNode),(vi x1.fQ),(vi x1.fDelay),(vi x1.fT)])]:List Value)++zo7).toArray w fun e w'=>e = .returned (vi r)∧Hp [] w w' [])(hown:Hp (fps [row (.slice zfh z5j.length zfi) 37 4 (z5j.flatMap e37)]) w₀ w₀ [row (.slice zfh z5j.length zfi) 37 4 (z5j.flatMap e37)]):
  Calls Tryz.prog 26 #[(.slice zfh z5j.length zfi),(.func (.func zhr) #[] (zo7).toArray)] w₀ fun e w'=>e = .returned (.tuple #[])∧(r.length=z5j.length)∧Hp (fps [row (.slice zfh z5j.length zfi) 37 4 (z5j.flatMap e37)]) w₀ w' [row (.slice zfh r.length zfi) 37 4 (r.flatMap e37)]:=by
 unfold yQ at h
 refine Kg Tryz.func26 Tryz.ntmps26 hown ?_
 refine WC.b<|Ld<|La U<|Le 6 (yG Tryz.underlying33 U)<|La U<|WL.nil<|Lb ?_
 obtain⟨zrn,zY4,h⟩:=za h
 obtain⟨zro,zY5,h⟩:=za h
 refine Ld<|La U<|La U<|La U<|Le 10 (y8y Tryz.underlying3 Tryz.underlying147 U U)<|Lk 11 (zb Tryz.call57<|.cons U .nil) .nil (cc hz .nil fun w pz ho=>y8H (Z:=_)  (z8F:=(u64 ((z5j.length:Nat):Int))) (r:=zrn) w pz  zY4)<|La U<|WL.y5h (dd:=13) U U U (zb Tryz.call56<|.r5 U U U U U) (.cons .here .nil) (cc hz (.cons .here .nil) fun w pz ho=>y7m (Z:=_) (zho:=zfh) (zhp:=zfi) (zo6:=zhr) (zAn:=zo7) (z61:=z5j) (zo4:=0) (zo5:=((z5j.length:Nat):Int)) (zks:=zrn) (zhn:=zhq) (r:=zro) w pz zY2 zY3 zY5 ho) ?_
 rintro  zKb
 refine Kh (i:=0) U (u:=(.slice zfh zro.length zfi)) (y9I zKb.symm)<|WL.nil ?_
 obtain rfl:=oJ h
 refine WX.y5d Tryz.results26 .nil<|fun w hw=>?_
 exact⟨y7p,(zKb.trans U),hw.sub (.cons .here .nil)⟩
def y4g(z27:List ze)(zd1:Option Bool):Nat→Int→Option Bool
 | 0,_=>none
 | zAo+1,z2i=>if decide (z2i<((z27.length:Nat):Int)) then chk ((0:Int)≤z2i∧z2i<((z27.length:Nat):Int)) (chk ((0:Int)≤0∧(0:Int)≤z2i∧z2i≤((z27.length:Nat):Int)) ((y5P (z27.take (z2i:Int).toNat) ((nth z27 z2i).fNode)).bind fun z4i=>chk ((!z4i.2)=true→((0:Int)≤0∧0<((z27.length:Nat):Int))) (if (!z4i.2)&&(decide (((nth z27 z2i).fNode)≠((nth z27 0).fNode))) then some false else y4g z27 zd1 zAo (i64 (z2i+1))))) else zd1
theorem ybP{n:Nat}{z27:List ze}{zd1:Option Bool}{z2i:Int}{r:Bool}(h:y4g z27 zd1 n z2i=some r):∃ m,n=m+1:=by
 cases n with
 | zero=>cases h
 | succ m=>exact⟨m,rfl⟩
def y7z(z27:List ze):Option Bool:=
 jp0 (some true) fun zd1=>y4g z27 zd1 yx 0
theorem yg4{Z:Zp}{zhs:Option Addr}{zht:Nat}{z27:List ze}{r:Bool}(h:y7z z27=some r)(w₀:World)(hz:PZ [] w₀ Z)(zAp:ZS Z 3 (fun r x=>r=e60 x) zhs zht z27):
  Calls Tryz.prog 59 #[(.slice zhs z27.length zht)] w₀ fun e w'=>e = .returned (.bool r)∧Hp [] w₀ w' []:=by
 unfold y7z at h
 refine L6 Tryz.func59 Tryz.ntmps59 ?_
 refine WC.b<|Ld<|La U<|WL.nil<|Lb ?_
 obtain⟨zd1,zY6,h⟩:=y25 h
 refine L8 ((zd1=some r)) ([]) ([]) ?_ ?_
 ·skip
  let C:Value:=(.slice zhs z27.length zht);let D:Value:=(vi ((z27.length:Nat):Int));refine WC.b (Ld (La U (Le 8 (yG Tryz.underlying58 U) (La U (WL.nil (Lb (WC.block (L9 (fun(zkt:Nat) (z2i:Int)=>(y4g z27 zd1 zkt z2i=some r)) (fun zkt z2i=>[(0,C),(7,C),(8,D),(9,(vi z2i))]) (fun zkt z2i=>[]) (fun zkt z2i=>zkt) ⟨yx,0⟩ h (.r4 U U U U) .nil ?_))))))))
  rintro zkt z2i h
  obtain⟨zAo,rfl⟩:=ybP h
  rw[y4g] at h
  refine WC.b<|Ld<|La U<|WL.nil<|Lb<|WC.b<|WC.cond U (fun zAq=>?_)<|fun zAq=>?_
  ·replace h:=yr h zAq
   refine WC.skip<|Lb<|WC.b<|WC.block<|WC.b ?_
   obtain⟨zY7,h⟩:=yl h
   refine Ld<|La U<|L0 (dd:=12) U U (Z:=Z) (Pr:=(fun r x=>r=e60 x)) y5i U U zAp zY7 ?_
   rintro zY8 z18y zY9 z18z rfl
   refine Le 13 (yh y3z U (y2d hz.pv zY9) U) (Lg 4 (yv (cs:=[(vi 0),(vi 0),(vi 0)]) y5N U) fun zKc _=>La U<|Ll U U (yn y60 U U U .here U U U)<|WL.nil<|Lb<|WC.b ?_)
   obtain⟨zYa,h⟩:=yl h
   obtain⟨z4i,zYb,h⟩:=za h
   refine Lv (fun i=>[10].contains i) [] U<|Lf 0 15 U (fun _=>q_m U)<|Lf 1 16 U (fun _=>q_m U)<|WD.zsub (j:=2) (dd:=17) (by kernel_rfl) U z1Z z20 U U (Z:=Z) (Pr:=(fun r x=>r=e60 x)) y5i U zAp (fun _=>ixn) (fun _=>ixo U) U U zYa (List.drop_zero).symm ?_
   rintro zYc zYd zYe
   refine Lf 3 18 U (fun _=>ya y32 U U)<|Li 4 19 U (yc yq U<|yi .here U)<|L4 5 20 U (zb Tryz.call77<|.r2 U U) (cc hz .nil fun w pz ho=>yak zYb w pz zYe)<|Lf 6 14 U (fun _=>q_m U)<|Lf 7 21 U (fun _=>y8f U U)<|Lf 8 22 U (fun _=>y8f U U) (WD.new (i:=9) (dd:=5) U (by kernel_rfl) U U U (yv (cs:=[(vi 0),(vi 0),(vi 0)]) y5N U) (fun h'=>absurd h' (by decide)) fun zYf _=>WD.forced0 (i:=10) U (by kernel_rfl) U U U (Sin.of .nil) (yn y60 U U U .here U U U)<|Lf 11 6 U (fun _=>q_z U)<|WD.done (by kernel_rfl)<|Lb<|WC.b ?_)
   obtain⟨zYg,h⟩:=yl h
   let A:Value:=(.agg #[(vi z4i.1.fNode),(vi z4i.1.fNext),(vi z4i.1.fQ)]);let E:Value:=(vi ((nth z27 z2i).fNode));refine Lv (fun i=>[].contains i) [] U (Lf 0 23 U (fun _=>q_m U) (Lf 1 24 U (fun _=>q_not U) (Lf 2 25 U (fun _=>q_m U) (Kb (fuel':=0) [(0,C),(7,C),(8,D),(9,(vi z2i)),(10,(.bool (decide (z2i<((z27.length:Nat):Int))))),(11,(vi z2i)),(12,(vq zY8)),(13,(.agg #[E,(vi ((nth z27 z2i).fNext)),(vi ((nth z27 z2i).fQ))])),(4,(vp zKc)),(3,(vi z2i)),(15,C),(16,(vi z2i)),(17,(.slice zYc ((z27.take (z2i:Int).toNat).length) zYd)),(18,(vp zKc)),(19,E),(20,(.tuple #[A,(.bool z4i.2)])),(14,(.tuple #[A,(.bool z4i.2)])),(21,A),(22,(.bool z4i.2)),(5,(vp zYf)),(6,(.bool z4i.2)),(23,(.bool z4i.2)),(24,(.bool (!z4i.2))),(25,(.bool (!z4i.2))),(33,(.bool ((!z4i.2)&&(decide (((nth z27 z2i).fNode)≠((nth z27 0).fNode))))))] (y1U 11 [10,9,8,7,6,5,4,3,2,1,0]) ?_ (fun zKd=>?_)))))
   rotate_left
   ·rcases Bool.eq_false_or_eq_true (!z4i.2) with hb' | hb'
    ·have zrp:=hb';clear hb'
     have zYh:=zYg zrp
     refine L2 (i:=25) U zrp<|Lf 3 26 U (fun _=>ya y32 U U)<|Li 4 27 U (yc yq U<|yi .h1 U)<|Lf 5 28 U (fun _=>q_m U)<|L5 (j:=6) (dd:=29) (by kernel_rfl) U z1Z z20 U U (Z:=Z) (Pr:=(fun r x=>r=e60 x)) y5i U U zAp zYh ?_
     rintro z18A z18B zYi z18C rfl
     refine Lf 7 30 U (fun _=>ya y32 U U)<|Li 8 31 U (yc yq U<|y17 hz.pv zYi U)<|Lf 9 32 U (fun _=>yd1 U U)<|Lf 10 33 U (fun _=>y3x U U)<|Lw (.a2) ?_ zKd
     exact .r25 U U U U U U U U U U U U U U U U U U U U U U U (zD<|Eq.symm zrp)<|zD<|y3X zrp
    ·have zAr:=hb';clear hb'
     refine L2 (i:=25) U zAr<|Lm 3 26 U<|Lm 4 27 U<|Lm 5 28 U<|Lm 6 29 U<|Lm 7 30 U<|Lm 8 31 U<|Lm 9 32 U<|Lf 10 33 U (fun _=>y3y U U)<|Lw (.a2) ?_ zKd
     exact .r25 U U U U U U U U U U U U U U U U U U U U U U U (zD<|Eq.symm zAr)<|zD<|y3W zAr
   refine WD.done (by kernel_rfl)<|Lb<|WC.cond U (fun zAs=>?_)<|fun zAs=>?_
   ·replace h:=yr h zAs
    refine WC.b<|Ld<|La U<|WL.nil<|Lb<|WC.ret<|Lq<|Lj<|Lj<|Lq<|Lj ?_
    obtain rfl:=oJ h
    refine Lh Tryz.results59 (.tmp U .nil)<|fun w hw=>?_
    exact⟨yD U,hw.sub .nil⟩
   ·replace h:=ys h zAs
    refine WC.skip<|Lt<|Lb<|Ld<|La U<|La U<|WL.nil ?_
    exact WX.round ⟨zAo,(i64 (z2i+1))⟩ h (Nat.lt_succ_self _) (.r4 U U U U) .nil
  ·replace h:=ys h zAq
   refine WC.exit<|Ln<|Ln<|Lu ?_
   exact Lo () h .nil .nil
 ·rintro  h
  replace h:=zY6.symm.trans h
  refine WC.b<|Ld<|La U<|WL.nil<|Lb<|WC.ret ?_
  obtain rfl:=oJ h
  refine Lh Tryz.results59 (.tmp U .nil)<|fun w hw=>?_
  exact⟨yD U,hw.sub .nil⟩
def y4u(zo8:List ze):Option Bool:=
 (y7z zo8).bind fun zKe=>some (!zKe)
theorem yf1{Z:Zp}{zKf:Option Addr}{zKg:Nat}{zo8:List ze}{r:Bool}(h:y4u zo8=some r)(w₀:World)(hz:PZ [] w₀ Z)(zYj:ZS Z 3 (fun r x=>r=e60 x) zKf zKg zo8):
  Calls Tryz.prog 58 #[(.slice zKf zo8.length zKg)] w₀ fun e w'=>e = .returned (.bool r)∧Hp [] w₀ w' []:=by
 unfold y4u at h
 refine L6 Tryz.func58 Tryz.ntmps58 ?_
 refine WC.b<|Ld<|La U<|WL.nil<|Lb<|WC.b ?_
 obtain⟨zKe,zYk,h⟩:=za h
 refine Ld<|La U<|Lk 4 (zb Tryz.call59<|.cons U .nil) .nil (cc hz .nil fun w pz ho=>yg4 zYk w pz zYj)<|La U<|La U<|WL.nil<|Lb<|WC.ret ?_
 obtain rfl:=oJ h
 refine Lh Tryz.results58 (.tmp U .nil)<|fun w hw=>?_
 exact⟨yD U,hw.sub .nil⟩
def y3r(zd2:zn)(zd3:zn):Option Int:=
 some (i64 (zd2.fNode-zd3.fNode))
theorem yf2{Z:Zp}{zd2:zn}{zd3:zn}{r:Int}(h:y3r zd2 zd3=some r)(w₀:World)(hz:PZ [] w₀ Z):
  Calls Tryz.prog 62 #[(.agg #[(vi zd2.fVL),(vi zd2.fNode),(vi zd2.fDelay)]),(.agg #[(vi zd3.fVL),(vi zd3.fNode),(vi zd3.fDelay)])] w₀ fun e w'=>e = .returned (vi r)∧Hp [] w₀ w' []:=by
 unfold y3r at h
 refine Lz Tryz.func62 Tryz.ntmps62 ?_
 refine WC.b<|Ld (Lg 2 (yI (cs:=[(vi zd2.fVL),(vi zd2.fNode),(vi zd2.fDelay)]) U U) fun z18D _=>Lg 3 (yI (cs:=[(vi zd3.fVL),(vi zd3.fNode),(vi zd3.fDelay)]) U U) fun z18E _=>La U<|WL.nil<|Lb<|WC.b<|Ld<|Le 5 (ya yhg U U)<|Le 6 (yc yq U<|yi .h1 U)<|Le 7 (ya yhg U U)<|Le 8 (yc yq U<|yi .here U)<|La U<|La U<|WL.nil<|Lb<|WC.ret ?_)
 obtain rfl:=oJ h
 refine Lh Tryz.results62 (.tmp U .nil)<|fun w hw=>?_
 exact⟨yD U,hw.sub .nil⟩
theorem zYl:∀ w,(isAgg (Tryz.y3H.t 24)).run Tryz.prog w = .ok true w:=fun _=>by kernel_rfl
theorem zYm:∀ w,(Go.sizeOf (Tryz.y3H.t 24)).run Tryz.prog w = .ok 3 w:=fun _=>by kernel_rfl
def y4F(z62:List zn)(zo9:Int)(zoa:Int)(zku:Int)(zhu:zn→zn→Option Int):Option (List zn):=chk ((zo9=0∧zoa=((z62.length:Nat):Int))∧(0≤zku∧zku<4611686018427387904∧z62.length<4611686018427387904)) (chk (y87 zhu (yX zhu z62)=true) (some (yX zhu z62)))
theorem y8q(Z:Zp)(zhv:Option Addr)(zhw:Nat)(zob:FuncId)(zAt:List Value)(z62:List zn)(zo9:Int)(zoa:Int)(zku:Int)(zhu:zn→zn→Option Int)(r:List zn)(w₀:World)(hz:PZ (fps [row (.slice zhv z62.length zhw) 53 3 (z62.flatMap e53)]) w₀ Z)(zYn:∀ args w,(callFunc zob args).run Tryz.prog w = .ok (.enter zob args) w)(zYo:∀ w:World,PZ [] w Z→∀(x0:zn) (x1:zn) (r:Int),zhu x0 x1=some r→Calls Tryz.prog zob (([(.agg #[(vi x0.fVL),(vi x0.fNode),(vi x0.fDelay)]),(.agg #[(vi x1.fVL),(vi x1.fNode),(vi x1.fDelay)])]:List Value)++zAt).toArray w fun e w'=>e = .returned (vi r)∧Hp [] w w' [])(h:y4F z62 zo9 zoa zku zhu=some r)(hown:Hp (fps [row (.slice zhv z62.length zhw) 53 3 (z62.flatMap e53)]) w₀ w₀ [row (.slice zhv z62.length zhw) 53 3 (z62.flatMap e53)]):
  Calls Tryz.prog 110 #[(.slice zhv z62.length zhw),(vi zo9),(vi zoa),(vi zku),(.func (.func zob) #[] (zAt).toArray)] w₀ fun e w'=>e = .returned (.tuple #[])∧(r.length=z62.length)∧Hp (fps [row (.slice zhv z62.length zhw) 53 3 (z62.flatMap e53)]) w₀ w' [row (.slice zhv r.length zhw) 53 3 (r.flatMap e53)]:=by
 obtain⟨h0,h⟩:=yl h
 obtain⟨h1,h⟩:=yl h
 have hr:=(oJ h).symm
 exact y9n (P:=Tryz.prog) (f:=110) (e:=53) (k:=3) (enc:=e53) (fun _=>U) (by decide) yg0 (fun β _ enc cf g cb hO blk off cap d0 w0 eg hC R=>Tryz.y8X 3 zYl zYm enc cf g cb hO blk off cap d0 w0 eg hC R) (Tryz.y8L (α:=Unit)) hz zYn zYo h0 h1 hr hown
end Go.Proofs.YthjnhebofpebpaaGreat
