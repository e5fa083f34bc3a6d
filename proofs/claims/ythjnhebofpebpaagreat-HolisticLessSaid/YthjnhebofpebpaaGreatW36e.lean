/- A part of this claim's proof: models of functions, walks, plain laws. No conditions. -/
import Derived.Test.YthjnhebofpebpaaGreatW36d
set_option linter.all false
namespace Go.Proofs.YthjnhebofpebpaaGreat
open Go Go.RowKit Sep
set_option maxRecDepth 30000
set_option maxHeartbeats 4000000
def y38(z8k:List (List z2))(z7k:zSv)(zcN:z1)(z4p:List z1)(zrw:Int):Option (Bool×(Nat×List z1×Int)):=
 (y5l (⟨zrw⟩:z1z) zcN z8k z7k).bind fun z8l=>(if decide (((z4p.length:Nat):Int)=0) then some true else chk ((0:Int)≤0∧0<((z4p.length:Nat):Int)) ((y1v z8l.1 (⟨((nth z4p 0).fN),((nth z4p 0).fD)⟩:z1)).bind fun zJM=>some (decide (zJM>0)))).bind fun zzR=>if zzR then some (true,(0,([z8l.1]:List z1),z8l.2.fE)) else some (true,(0,z4p,z8l.2.fE))
def y4C(z1f:List (List z2))(zs:zSv)(z8k:List (List z2))(z7k:zSv)(z1g:List z1):Option (z1×Int):=
 (y41 z1f zs z8k z7k z1g).bind fun zo0=>if decide (zo0≠0) then some ((⟨0,0⟩:z1),zo0) else jp2 (fun(zaB:Int) (z7K:List z1)=>if decide (zaB≠0) then some ((⟨0,0⟩:z1),zaB) else chk ((0:Int)≤0∧0<((z7K.length:Nat):Int)) (some ((⟨((nth z7K 0).fN),((nth z7K 0).fD)⟩:z1),0))) fun zzS=>(y4U z1f zs z8k z7k z1g).bind fun zC=>(y3n (Nat×List z1×Int) (fun(x:z1) (s:Nat×List z1×Int)=>chk (s.1=0) (y38 z8k z7k x s.2.1 s.2.2)) (0,([]:List z1),0) z1f (⟨(⟨zC.1,zC.2.1⟩:z1),(⟨zC.2.2.1,zC.2.2.2⟩:z1)⟩:zSv) z8k z7k z1g).bind fun z4M=>zzS z4M.2.2 z4M.2.1
theorem ybo{Z:Zp}{z1B:Option Addr}{z1C:Nat}{z1t:Addr}{zzT:Option Addr}{zzU:Nat}{z1u:Addr}{z1D:Option Addr}{z1E:Nat}{z1f:List (List z2)}{zs:zSv}{z8k:List (List z2)}{z7k:zSv}{z1g:List z1}{r:z1×Int}(h:y4C z1f zs z8k z7k z1g=some r)(w₀:World)(hz:PZ [] w₀ Z)(zzV:ZS Z 1 (y27 Z) z1B z1C z1f)(zrx:ZS Z 1 (y27 Z) zzT zzU z8k)(zry:ZC Z z1t [(.slice zzT z8k.length zzU)])(zrz:ZC Z z1u [(vi z7k.fRate.fN),(vi z7k.fRate.fD),(vi z7k.fL.fN),(vi z7k.fL.fD)])(zzW:ZS Z 2 (fun r x=>r=yA x) z1D z1E z1g):
  Calls Tryz.prog 127 #[(.agg #[(.slice z1B z1f.length z1C),(vi zs.fRate.fN),(vi zs.fRate.fD),(vi zs.fL.fN),(vi zs.fL.fD),(.func (.func 122) #[] #[(vq z1t),(vq z1u)]),(.slice z1D z1g.length z1E)])] w₀ fun e w'=>e = .returned (.tuple #[(.agg #[(vi r.1.fN),(vi r.1.fD)]),(vi r.2)])∧Hp [] w₀ w' []:=by
 unfold y4C at h
 let F:Value:=(.func (.func 122) #[] #[(vq z1t),(vq z1u)]);let N:Value:=(.slice z1B z1f.length z1C);let O:Value:=(.slice z1D z1g.length z1E);let H:Value:=(.agg #[N,(vi zs.fRate.fN),(vi zs.fRate.fD),(vi zs.fL.fN),(vi zs.fL.fD),F,O]);refine Calls.y9t (vs:=[H]) (pre:=[]) (env:=[(0,H)]) Tryz.func127 U Tryz.ntmps127 U (Hp.nil w₀ _) U ?_
 let E:List Value:=[N,(vi zs.fRate.fN),(vi zs.fRate.fD),(vi zs.fL.fN),(vi zs.fL.fD),F,O];refine WC.b (Ld (Lg 1 (yH (cs:=E) U U) ?_))
 intro z4d _
 refine Lg 2 (yv (cs:=[(vi 0),(vi 0)]) zW U) fun z4q _=>La U<|WL.nil<|Lb<|WC.b<|WC.b ?_
 obtain⟨zo0,zX0,h⟩:=za h
 refine Ld<|Le 9 (yi zik U (yk .h1) U)<|Ll 10 (zb Tryz.call163<|.cons U .nil) .nil (cc hz .nil fun w pz ho=>yaP zX0 w pz zzV zrx zry zrz zzW)<|La U<|WL.nil<|Lb<|WC.b<|Ld<|La U<|La U<|WL.nil<|Lb<|WC.cond U (fun zzX=>?_)<|fun zzX=>?_
 ·replace h:=yq h zzX
  refine WC.b<|Ld<|Le 13 (yL (v:=(.agg #[(vi 0),(vi 0)])) (Lo (l:=[]) .nil []) (fun _=>by kernel_rfl))<|La U<|Lk U U (yl zA U U U .here U U U)<|La U<|WL.nil<|Lb<|WC.ret<|Li ?_
  obtain rfl:=oJ h
  refine WX.ycz Tryz.results127 (.agg U zg U (yk .here)<|.tmp U .nil)<|fun w hw=>?_
  exact⟨y1R U U,hw.sub .nil⟩
 ·replace h:=yr h zzX
  refine WC.skip<|Lb<|WC.b<|Ld (Lg 5 (yv (cs:=[(vi 0)]) zpF U) fun z3y _=>WL.nil<|Lb<|WC.b<|Ld (Lg 6 (yv (cs:=[vn]) zty U) fun z3R _=>WL.nil<|Lb ?_))
  obtain⟨zzS,zX1,h⟩:=y59 h
  refine WC.ydB (fun(zo1:Nat) (zaB:Int) (z7K:List z1) (zo2:Option Addr) (zo3:Nat)=>(zzS zaB z7K=some r)) (fun(zo1:Nat) (zaB:Int) (z7K:List z1) (zo2:Option Addr) (zo3:Nat)=>[(2,(vp z4q)),(5,(vp z3y)),(6,(vp z3R))]) (fun(zo1:Nat) (zaB:Int) (z7K:List z1) (zo2:Option Addr) (zo3:Nat)=>[stb z4q 175 [(vi 0),(vi 0)],stb z3y 277 [(vi zaB)],stb z3R 229 [(.slice zo2 z7K.length zo3)],row (.slice zo2 z7K.length zo3) 175 2 (z7K.flatMap yA),dfr zo1]) ?_ ?_
  ·skip
   refine WC.b ?_
   obtain⟨zC,zX2,h⟩:=za h
   refine Ld<|Le 15 (yi zik U (yk .h3) U)<|WL.ycu (dd:=16) U U U (zb Tryz.call164<|.cons U .nil) .nil (cc hz .nil fun w pz ho=>yaz zX2 w pz zzV zrx zry zrz zzW) ?_
   rintro z5h _
   refine WL.nil<|Lb<|WC.block<|WC.drop (.s5 .h1 .h1 .h1 .h1 .here)<|WC.nilRow 175 2<|WC.rangeFunc (f:=201) (caps:=[(vp z5h)]) U Tryz.call201 ?_
   intro z18z z18A z4N z7L z5Z zrA zX3 zX4 w hw
   let Q:Value:=(.slice none (([]:List z1).length) 0);let A:List Asrt:=[stb z3R 229 [Q],row Q 175 2 (([]:List z1).flatMap yA),stb z3y 277 [(vi 0)],stb z4q 175 [(vi 0),(vi 0)],stb z4d 231 E,blk z4N (z5Z .ready none)];have hw1:=hw.selAll ((.s6 .h3 .h2 .h2 .h2 .h2 .here):Sel _ A _)
   let C:List Value:=[N,(vi zC.1),(vi zC.2.1),(vi zC.2.2.1),(vi zC.2.2.2),F,O];let K:List Asrt:=[dfr z7L,stb z5h 231 C];have pz:=(hz.call hw1 ((.cons .here .nil):Sel [y1L A,dfr z7L,stb z5h 231 C] [y1L A] K)).lend hw1 ((.cons .here .nil):Sel [y1L A,dfr z7L,stb z5h 231 C] [y1L A] K) (B:=[stb z5h 231 C]) (fun _ hx'=>((.cons .h1 .nil):Sel _ [stb z5h 231 C] _).mem hx')
   obtain⟨z4M,zX5,h⟩:=za h
   refine Calls.mono (y9T (Z:=_) (z9M:=z4N) (z4K:=(Option Addr×Nat)) (z2X:=(fun(g:Option Addr×Nat) (s:Nat×List z1×Int)=>y1L ([stb z3R 229 [(.slice g.1 s.2.1.length g.2)],row (.slice g.1 s.2.1.length g.2) 175 2 (s.2.1.flatMap yA),stb z3y 277 [(vi s.2.2)],stb z4q 175 [(vi 0),(vi 0)],stb z4d 231 E]++[blk z4N (z5Z (rdy<|pcs [] s.1)<|pcs [] s.1)]))) (z8h:=(fun(g:Option Addr×Nat) (s:Nat×List z1×Int)=>True)) (zcD:=(none,0)) (zcE:=⟨z5h,0,none⟩) (zf1:=z1B) (zf2:=z1C) (zzj:=z1t) (zzk:=zzT) (zzl:=zzU) (zzm:=z1u) (znQ:=z1D) (znR:=z1E) (zy:=(Nat×List z1×Int)) (z2C:=(fun(x:z1) (s:Nat×List z1×Int)=>chk (s.1=0)<|y38 z8k z7k x s.2.1 s.2.2)) (s0_44460:=(0,([]:List z1),0)) (z3k:=z1f) (zhf:=(⟨(⟨zC.1,zC.2.1⟩:z1),(⟨zC.2.2.1,zC.2.2.2⟩:z1)⟩:zSv)) (znP:=z8k) (zhg:=z7k) (z3x:=z1g) (r:=z4M) w pz ?_ trivial ((zzV.mono<|Zle.left _ _).weak (fun _ _ h=>y3L (Zle.left _ _) h)) ((zrx.mono<|Zle.left _ _).weak (fun _ _ h=>y3L (Zle.left _ _) h)) (zry.mono<|Zle.left _ _) (zrz.mono<|Zle.left _ _) (zzW.mono<|Zle.left _ _) ((hw1.lent ((.cons .here .nil):Sel [y1L A,dfr z7L,stb z5h 231 C] [y1L A] K) (B:=[stb z5h 231 C]) (fun _ hx'=>((.cons .h1 .nil):Sel _ [stb z5h 231 C] _).mem hx') (.head _) _).stb) zX5<|hw1.owns ((.cons .here .nil):Sel [y1L A,dfr z7L,stb z5h 231 C] [y1L A] K)) ?_
   ·skip
    refine yaW (LI:=(fun(g:Option Addr×Nat) (s:Nat×List z1×Int)=>[stb z3R 229 [(.slice g.1 s.2.1.length g.2)],row (.slice g.1 s.2.1.length g.2) 175 2 (s.2.1.flatMap yA),stb z3y 277 [(vi s.2.2)],stb z4q 175 [(vi 0),(vi 0)],stb z4d 231 E])) (pc:=(fun(s:Nat×List z1×Int)=>pcs [] s.1)) zrA zX3 zX4 (fun _ _=>U) (by decide) ?_
    rintro zcN _ ⟨zkv,zkw⟩ ⟨zX6,z4p,zrw⟩ zX7 zX8 Fb wb zJN _ hz
    replace hz:=hz.left
    letI:Rnd:=inR z4N
    obtain⟨hp0,z8m⟩:=yn zJN
    replace hp0:zX6=0:=hp0;subst hp0;clear zJN
    replace z8m:y38 z8k z7k zcN z4p zrw=some (zX7,zX8):=z8m
    unfold y38 at z8m
    let I:Value:=(.slice zkv z4p.length zkw);let L:Value:=(.agg #[(vi zcN.fN),(vi zcN.fD)]);let R:Value:=(.bool (decide (zo0≠0)));refine WC.restr (env':=[(1,(vp z4d)),(12,R),(5,(vp z3y)),(6,(vp z3R)),(17,L)]) (.r5 U U U U U) (WC.eqL (L':=[stb z3R 229 [I],row I 175 2 (z4p.flatMap yA),stb z3y 277 [(vi zrw)],stb z4q 175 [(vi 0),(vi 0)],stb z4d 231 E,blk z4N (z5Z .ready none)]) U (Ld (Lg 7 (yv (cs:=[(vi 0),(vi 0)]) zW U) ?_)))
    intro zX9 _
    refine Lk U U (yl zA U U U .here U U U)<|WL.nil<|WX.ybH zrA .h6<|WC.block<|WC.b ?_
    obtain⟨z8l,zXa,z8m⟩:=za z8m
    refine Ld<|Le 18 (ya ybN U U)<|Le 19 (yc zEd U<|yh .h6 U)<|Le 20 (yi zg U (yk .h1) U)<|Ll 21 (y2J (l:=[.tmp 5,.tmp 20]) Tryz.call122 U<|.r2 U U) (.cons .h4 .nil) (cc hz (.cons .h4 .nil) fun w pz ho=>ycQ zXa w pz zrx zry zrz ho) (Lg 8 (yv (cs:=[(vi 0),(vi 0)]) zW U) fun zXb _=>Lk U U (yl zA U U U .here U U U)<|WL.nil<|Lb<|WC.b ?_)
    obtain⟨zzR,zJO,z8m⟩:=za z8m
    let P:Value:=(.bool (decide (((z4p.length:Nat):Int)=0)));refine Lx (fun i=>[].contains i) [] U (Lj 0 22 U (yc z9i U (yh .h4 U)) (Lf 1 23 U (fun _=>yI Tryz.underlying229 U) (Lf 2 24 U (fun _=>ybz U U) (Lf 3 25 U (fun _=>q_m U) (Kg (fuel':=0) [(1,(vp z4d)),(12,R),(5,(vp z3y)),(6,(vp z3R)),(17,L),(7,(vp zX9)),(18,(.pointer (some ⟨z4d,5,none⟩))),(19,F),(20,L),(21,(.agg #[(vi z8l.1.fN),(vi z8l.1.fD)])),(8,(vp zXb)),(22,I),(23,(vi ((z4p.length:Nat):Int))),(24,P),(25,P),(32,(.bool zzR))] (y2d 11 [10,9,8,7,6,5,4,3,2,1,0]) ?_ (fun zJP=>?_))))))
    rotate_left
    ·rcases Bool.eq_false_or_eq_true (decide (((z4p.length:Nat):Int)=0)) with hb' | hb'
     ·have zzY:=hb';clear hb'
      have zzZ:=yq zJO zzY
      replace zzZ:=oJ zzZ
      refine L3 (i:=25) U zzY<|Lp 4 26 U<|Lp 5 27 U<|Lp 6 28 U<|Lp 7 29 U<|Lp 8 30 U<|Lp 9 31 U<|Lf 10 32 U (fun _=>y4w U U)<|Ly (.a8) ?_ zJP
      exact .r16 U U U U U U U U U U U U U U (zO<|Eq.symm zzY)<|zO zzZ
     ·have zA0:=hb';clear hb'
      have zhq:=yr zJO zA0
      obtain⟨zo4,zhq⟩:=yn zhq
      obtain⟨zJM,zXc,zhq⟩:=za zhq
      replace zhq:=oJ zhq
      refine L3 (i:=25) U zA0<|Lj 4 26 U (yi zg U (yk .here) U)<|Lj 5 27 U (yc z9i U<|yh .h4 U)<|WD.know (fun w hw=>Hp.y1T .h5 hw (by intro hz';have:=zo4;rw[hz'] at this;omega)) ?_
      rintro⟨z18B,rfl⟩
      refine Lf 6 28 U (fun _=>yS z2q U U zo4.1 zo4.2 y2L)<|Lj 7 29 U (yU (cs:=(yA<|nth z4p 0)) zg U U<|y3z .h5<|y2x (enc:=yA) (l:=z4p) (i:=0) (sz:=2) (fun _=>U) zo4.1 zo4.2)<|L4 8 30 U (zb Tryz.call129<|.r2 U U) (cc hz .nil fun w pz ho=>y55 zXc w pz )<|Lf 9 31 U (fun _=>yec U U)<|Lf 10 32 U (fun _=>y4x U U)<|Ly (.a8) ?_ zJP
      exact .r16 U U U U U U U U U U U U U U (zO<|Eq.symm zA0)<|zO zhq
    refine WD.done (by kernel_rfl)<|Lb<|WC.cond U (fun zA1=>?_)<|fun zA1=>?_
    ·replace z8m:=yq z8m zA1
     refine Ld<|Le 33 (yi zg U (yk .here) U) (Lg 34 (yM (cs:=([z8l.1]:List z1).flatMap yA) z2q (Lo (l:=[.tmp 33]) (.cons U .nil) [0]) (fun _=>by kernel_rfl) U (by unfold maxLen;omega)) fun zA2 _=>Lk U U (yl ztz U U U .h5 U U U)<|WL.nil<|Lt ?_)
     obtain⟨rfl,rfl⟩:=yao z8m
     let M:Value:=(.slice (some ⟨zA2,0,none⟩) (([z8l.1]:List z1).length) 1);exact WX.y6O zrA .h4 (fun w' hw'=>⟨((some ⟨zA2,0,none⟩),1),U,trivial,(hw'.selAll ((.s6 .h1 .h1 .h2 .h4 .h4 .here):Sel _ [stb z3R 229 [M],row M 175 2 (([z8l.1]:List z1).flatMap yA),stb z3y 277 [(vi z8l.2.fE)],stb z4q 175 [(vi 0),(vi 0)],stb z4d 231 E,blk z4N (z5Z .ready none)] _)).sub (.cons .here .nil)⟩)
    ·replace z8m:=yr z8m zA1
     refine WC.skip<|Lt ?_
     obtain⟨rfl,rfl⟩:=yao z8m
     exact WX.y6O zrA .h2<|fun w' hw'=>⟨(zkv,zkw),U,trivial,(hw'.selAll ((.s6 .h4 .h4 .h2 .h3 .h3 .here):Sel _ [stb z3R 229 [I],row I 175 2 (z4p.flatMap yA),stb z3y 277 [(vi z8l.2.fE)],stb z4q 175 [(vi 0),(vi 0)],stb z4d 231 E,blk z4N (z5Z .ready none)] _)).sub (.cons .here .nil)⟩
   ·skip
    rintro _ w' ⟨⟨zo5,zo6⟩,rfl,_,hp⟩
    have hp1:=hw1.call ((.cons .here .nil):Sel [y1L A,dfr z7L,stb z5h 231 C] [y1L A] K) hp
    let J:Value:=(.slice zo5 z4M.2.1.length zo6);have hp2:Hp _ _ w' [stb z3R 229 [J],row J 175 2 (z4M.2.1.flatMap yA),stb z3y 277 [(vi z4M.2.2)],stb z4q 175 [(vi 0),(vi 0)],stb z4d 231 E,blk z4N (z5Z (rdy (pcs [] z4M.1)) (pcs [] z4M.1)),dfr z7L,stb z5h 231 C]:=hp1.pickAll .here
    refine⟨_,pcs [] z4M.1,_,U,(hp2.sub ((.s8 .h5 .here .here .here .here .here .here .here):Sel _ [blk z4N (z5Z (rdy (pcs [] z4M.1)) (pcs [] z4M.1)),stb z3R 229 [J],row J 175 2 (z4M.2.1.flatMap yA),stb z3y 277 [(vi z4M.2.2)],stb z4q 175 [(vi 0),(vi 0)],stb z4d 231 E,dfr z7L,stb z5h 231 C] _)),?_⟩
    clear hp hp1 hp2 pz hw hw1
    refine wjN ?_
    letI:Rnd:=aft z7L
    refine Lt ?_
    exact WX.midR (D:=fun(g:Nat×Int×List z1×Option Addr×Nat)=>g.1) (G:=Nat×Int×List z1×Option Addr×Nat) ⟨z7L,z4M.2.2,z4M.2.1,zo5,zo6⟩ h (.r3 U U U)<|.s5 .h3 .h2 .here .here .h1
  ·rintro zo1 zaB z7K zo2 zo3 h
   replace h:=(zX1 zaB z7K).symm.trans h
   letI:Rnd:=aft zo1
   refine WC.b<|WC.b<|Ld<|Le 35 (ya y5w U U)<|Le 36 (yc y3A U<|yh .h1 U)<|La U<|WL.nil<|Lb<|WC.cond U (fun zA3=>?_)<|fun zA3=>?_
   ·replace h:=yq h zA3
    refine WC.b<|Lx (fun i=>[3].contains i) [y85 z3y 277 [(0,(vi zaB))]] U<|Lf 0 38 U (fun _=>yL (v:=(.agg #[(vi 0),(vi 0)])) (Lo (l:=[]) .nil []) (fun _=>by kernel_rfl))<|Lf 1 39 U (fun _=>ya y5w U U)<|L6 2 40 U (Sin.wk (.cons .h1 .nil)<|.stb (.cons U .nil) .nil) (yc y3A U<|y5Z .here<|.head _)<|WD.forced0 (i:=3) U (by kernel_rfl) U U U (Sin.wk (.cons .h1 .nil)<|.stb (.cons U .nil) .nil) (yl zA U U U .here U U U)<|Lf 4 3 U (fun _=>q_z U)<|WD.done (by kernel_rfl)<|Lb<|WC.ret<|Li ?_
    obtain rfl:=oJ h
    refine WX.y7A .h4 Tryz.results127 (.agg U zg U (yk .h1)<|.tmp U .nil)<|fun w hw=>?_
    exact⟨y1R U U,hw.sub .nil⟩
   ·replace h:=yr h zA3
    refine WC.skip<|Lb<|WC.b ?_
    obtain⟨zo7,h⟩:=yn h
    refine Ld<|Le 41 (yc z9i U<|yh .h2 U)<|Kd (fun w hw=>Hp.y1T .h3 hw (by intro hz';have:=zo7;rw[hz'] at this;omega)) ?_
    rintro⟨z18C,rfl⟩
    refine Le 42 (yS z2q U U zo7.1 zo7.2 y2L)<|Le 43 (yU (cs:=(yA<|nth z7K 0)) zg U U<|y3z .h3<|y2x (enc:=yA) (l:=z7K) (i:=0) (sz:=2) (fun _=>U) zo7.1 zo7.2)<|Lk U U (yl zA U U U .here U U U)<|La U<|WL.nil<|Lb<|WC.ret ?_
    obtain rfl:=oJ h
    refine WX.y7A .h4 Tryz.results127 (.agg U zg U (yk .h1)<|.tmp U .nil)<|fun w hw=>?_
    exact⟨y1R U U,hw.sub .nil⟩
def y5P(zcO:List (List z2))(z4r:zSv):Option (z1×Int):=
 (y4C zcO z4r zcO z4r []).bind fun zA4=>some (zA4.1,zA4.2)
theorem ydY{Z:Zp}{zo8:Option Addr}{zo9:Nat}{zcO:List (List z2)}{z4r:zSv}{r:z1×Int}(h:y5P zcO z4r=some r)(w₀:World)(hz:PZ [] w₀ Z)(zJQ:ZS Z 1 (y27 Z) zo8 zo9 zcO):
  Calls Tryz.prog 81 #[(.slice zo8 zcO.length zo9),(.agg #[(vi z4r.fRate.fN),(vi z4r.fRate.fD),(vi z4r.fL.fN),(vi z4r.fL.fD)])] w₀ fun e w'=>e = .returned (.tuple #[(.agg #[(vi r.1.fN),(vi r.1.fD)]),(vi r.2)])∧Hp [] w₀ w' []:=by
 unfold y5P at h
 refine Lz Tryz.func81 Tryz.ntmps81 ?_
 let A:Value:=(.slice zo8 zcO.length zo9);refine WC.b (Ld (Lg 2 (yH (cs:=[A]) U U) ?_))
 intro zXd _
 refine Lg 3 (yH (cs:=[(vi z4r.fRate.fN),(vi z4r.fRate.fD),(vi z4r.fL.fN),(vi z4r.fL.fD)]) U U) fun zXe _=>Lg 4 (yv (cs:=[(vi 0),(vi 0)]) zW U) fun z18D _=>La U<|WL.nil<|Lb<|WC.b<|Ld<|Le 7 (yc z8z U<|yh .h2 U)<|Le 8 (yi zij U (yk .h1) U)<|Le 9 (yL (v:=(.agg #[A,(vi z4r.fRate.fN),(vi z4r.fRate.fD),(vi z4r.fL.fN),(vi z4r.fL.fD),.nilFunc,vn])) (Lo (l:=[.tmp 7,.tmp 8]) (.r2 U U) [0,1]) (fun _=>by kernel_rfl)) (Lg 6 (yv (cs:=[vn,(vi 0),(vi 0),(vi 0),(vi 0),.nilFunc,vn]) zE7 U) fun z18E _=>Lk U U (yl zE8 U U U .here U U U)<|WL.nil<|Lb<|WC.b<|Ld<|Le 10 (y14<|L2 (l:=[.tmp 2,.tmp 3])<|.r2 U U)<|Le 11 (ya ybN U U)<|Lk U U (y4r (ds:=[A,(vi z4r.fRate.fN),(vi z4r.fRate.fD),(vi z4r.fL.fN),(vi z4r.fL.fD),(.func (.func 122) #[] #[(vp zXd),(vp zXe)]),vn]) zE9 U U U U U .here U U)<|WL.nil<|Lb<|WC.b ?_)
 obtain⟨zA4,zXf,h⟩:=za h
 refine Ld<|Le 12 (yi zik U (yk .here) U)<|Ll 13 (zb Tryz.call127<|.cons U .nil) .nil (ccl hz .nil (.s2 .h3 .h2) fun w pz ho la=>ybo zXf w pz ((zJQ.mono<|Zle.left _ _).weak (fun _ _ h=>y3L (Zle.left _ _) h)) ((zJQ.mono<|Zle.left _ _).weak (fun _ _ h=>y3L (Zle.left _ _) h)) ((la _ (.head _) _).stb) ((la _ (.tail _<|.head _) _).stb)<|ZS.nil _ _ _)<|La U<|La U<|Lk U U (yl zA U U U .h1 U U U)<|La U<|WL.nil<|Lb<|WC.ret ?_
 obtain rfl:=oJ h
 refine Lh Tryz.results81 (.agg U zg U (yk .here)<|.tmp U .nil)<|fun w hw=>?_
 exact⟨y1R U U,hw.sub .nil⟩
def y21(z4e:List (List z2))(zcP:Int→Int→Int→Option Int):Nat→Int→Int→Int→Int→Option Int
 | 0,_,_,_,_=>none
 | zA5+1,z6u,z8T,z8U,z8V=>if decide (z6u<((z4e.length:Nat):Int)) then chk ((0:Int)≤z6u∧z6u<((z4e.length:Nat):Int)) ((y24 (nth z4e z6u)).bind fun zA6=>if decide (zA6.2≠0) then some zA6.2 else(y5k (nth z4e z6u)).bind fun zJR=>(y1d (⟨z8T⟩:z1z) (fun(y0:z1) (y1:z1)=>y1q y0 y1) (⟨z8U,z8V⟩:z1) zJR.1).bind fun zhr=>y21 z4e zcP zA5 (i64 (z6u+1)) zhr.2.fE zhr.1.fN zhr.1.fD) else zcP z8T z8U z8V
theorem y8s{n:Nat}{z4e:List (List z2)}{zcP:Int→Int→Int→Option Int}{z6u:Int}{z8T:Int}{z8U:Int}{z8V:Int}{r:Int}(h:y21 z4e zcP n z6u z8T z8U z8V=some r):∃ m,n=m+1:=by
 cases n with
 | zero=>cases h
 | succ m=>exact⟨m,rfl⟩
def y3R(z4e:List (List z2))(z2Y:zSv)(zrB:List (List z2))(zkx:zSv)(zhs:List z1):Option Int:=
 (if decide (((z4e.length:Nat):Int)>32) then some true else(y1k z4e (fun(y0:List z2)=>y1B y0)).bind fun zJS=>some zJS).bind fun zA7=>(if zA7 then some true else(y5e z2Y).bind fun zJT=>some (!zJT)).bind fun zA8=>if zA8 then some 2 else(y3d).bind fun zoa=>jp3 (fun(zcQ:Int) (zfc:Int) (zfd:Int)=>(if decide (zcQ=0) then(y1v (⟨zfc,zfd⟩:z1) z2Y.fRate).bind fun zJU=>some (decide (zJU>0)) else some false).bind fun zA9=>if zA9 then some 6 else some zcQ) fun zcP=>y21 z4e zcP yx 0 0 zoa.fN zoa.fD
theorem yaA{Z:Zp}{zky:Option Addr}{zkz:Nat}{zob:Addr}{zJV:Option Addr}{zJW:Nat}{zoc:Addr}{zod:Option Addr}{zoe:Nat}{z4e:List (List z2)}{z2Y:zSv}{zrB:List (List z2)}{zkx:zSv}{zhs:List z1}{r:Int}(h:y3R z4e z2Y zrB zkx zhs=some r)(w₀:World)(hz:PZ [] w₀ Z)(zJX:ZS Z 1 (y27 Z) zky zkz z4e)(z18F:ZS Z 1 (y27 Z) zJV zJW zrB)(z18G:ZC Z zob [(.slice zJV zrB.length zJW)])(z18H:ZC Z zoc [(vi zkx.fRate.fN),(vi zkx.fRate.fD),(vi zkx.fL.fN),(vi zkx.fL.fD)])(z18I:ZS Z 2 (fun r x=>r=yA x) zod zoe zhs):
  Calls Tryz.prog 163 #[(.agg #[(.slice zky z4e.length zkz),(vi z2Y.fRate.fN),(vi z2Y.fRate.fD),(vi z2Y.fL.fN),(vi z2Y.fL.fD),(.func (.func 128) #[] #[(vq zob),(vq zoc)]),(.slice zod zhs.length zoe)])] w₀ fun e w'=>e = .returned (vi r)∧Hp [] w₀ w' []:=by
 unfold y3R at h
 refine L5 Tryz.func163 Tryz.ntmps163 ?_
 let C:Value:=(.slice zky z4e.length zkz);let A:List Value:=[C,(vi z2Y.fRate.fN),(vi z2Y.fRate.fD),(vi z2Y.fL.fN),(vi z2Y.fL.fD),(.func (.func 128) #[] #[(vq zob),(vq zoc)]),(.slice zod zhs.length zoe)];refine WC.b (Ld (Lg 1 (yH (cs:=A) U U) ?_))
 intro zrC _
 refine La U<|WL.nil<|Lb<|WC.b<|WC.b ?_
 obtain⟨zA7,zJY,h⟩:=za h
 obtain⟨zA8,zJZ,h⟩:=za h
 refine Ld<|Le 11 (ya y7E U U)<|Le 12 (yc z8z U<|yh .here U)<|Le 13 (yI Tryz.underlying171 U)<|La U<|La U<|Lv false 3 15 (B:=zA7) U U U U U U (fun h=>(oJ<|yq zJY h).symm) (fun _ zXg=>?_) ?_
 ·skip
  have zof:=yr zJY zXg
  obtain⟨zJS,zXh,zof⟩:=za zof
  replace zof:=oJ zof
  refine Le 16 (ya y7E U U)<|Le 17 (yc z8z U<|yh .here U)<|Ll 18 (zb Tryz.call196<|.r2 U U) .nil (cc hz .nil fun w pz ho=>y4O _ _ _ (zgQ:=197) (zng:=[]) _ (zgP:=(fun(y0:List z2)=>y1B y0)) _ zXh w pz zJX Tryz.call197<|fun w' hz' y0 ga0 gc0 r gh0 hr=>y7o hr w' hz' gh0)<|La U ?_
  exact Lw zof U U .all
 refine La U<|Lv false 4 20 (B:=zA8) U U U U U U (fun h=>(oJ<|yq zJZ h).symm) (fun _ zXi=>?_) ?_
 ·skip
  have zog:=yr zJZ zXi
  obtain⟨zJT,zXj,zog⟩:=za zog
  replace zog:=oJ zog
  refine Le 21 (ya ybO U U)<|Le 22 (yU (cs:=[(vi z2Y.fRate.fN),(vi z2Y.fRate.fD),(vi z2Y.fL.fN),(vi z2Y.fL.fD)]) zij U U<|y3w (s:=4) .here U)<|Ll 23 (zb Tryz.call198<|.cons U .nil) .nil (cc hz .nil fun w pz ho=>yay zXj w pz )<|La U<|La U ?_
  exact Lw zog U U .all
 refine WL.nil<|Lb<|WC.cond U (fun zAa=>?_)<|fun zAa=>?_
 ·replace h:=yq h zAa
  refine WC.b<|Ld<|La U<|WL.nil<|Lb<|WC.ret<|Li ?_
  obtain rfl:=oJ h
  refine Lh Tryz.results163 (.tmp U .nil)<|fun w hw=>?_
  exact⟨yC U,hw.sub .nil⟩
 ·replace h:=yr h zAa
  refine WC.skip<|Lb<|WC.b<|Ld (Lg 3 (yv (cs:=[(vi 0)]) zpF U) fun zrD _=>WL.nil<|Lb<|WC.b ?_)
  obtain⟨zoa,zXk,h⟩:=za h
  refine Ld<|Ll 26 (zb Tryz.call161 .nil) .nil (cc hz .nil fun w pz ho=>y4S zXk w pz ) (Lg 4 (yv (cs:=[(vi 0),(vi 0)]) zW U) fun zrE _=>Lk U U (yl zA U U U .here U U U)<|WL.nil<|Lb ?_)
  obtain⟨zcP,zXl,h⟩:=y95 h
  refine Kc (fun(zcQ:Int) (zfc:Int) (zfd:Int)=>(zcP zcQ zfc zfd=some r)) (fun zcQ zfc zfd=>[(1,(vp zrC)),(3,(vp zrD)),(4,(vp zrE))]) (fun zcQ zfc zfd=>[stb zrC 231 A,stb zrD 277 [(vi zcQ)],stb zrE 175 [(vi zfc),(vi zfd)]]) ?_ ?_
  ·skip
   refine WC.b<|Ld<|Le 27 (ya y7E U U)<|Le 28 (yc z8z U<|yh .h2 U)<|Le 29 (yI Tryz.underlying171 U)<|La U<|WL.nil<|Lb<|WC.block<|WC.y7y (fun(zkA:Nat) (z6u:Int) (z8T:Int) (z8U:Int) (z8V:Int)=>(y21 z4e zcP zkA z6u z8T z8U z8V=some r)) (fun zkA z6u z8T z8U z8V=>[(1,(vp zrC)),(3,(vp zrD)),(4,(vp zrE)),(28,C),(29,(vi ((z4e.length:Nat):Int))),(30,(vi z6u))]) (fun zkA z6u z8T z8U z8V=>[stb zrC 231 A,stb zrD 277 [(vi z8T)],stb zrE 175 [(vi z8U),(vi z8V)]]) (fun zkA z6u z8T z8U z8V=>zkA) ⟨yx,0,0,zoa.fN,zoa.fD⟩ h (.r6 U U U U U U) (.s3 .h2 .h1 .here) ?_
   rintro zkA z6u z8T z8U z8V h
   obtain⟨zA5,rfl⟩:=y8s h
   rw[y21] at h
   refine WC.b<|Ld<|La U<|WL.nil<|Lb<|WC.b<|WC.cond U (fun zAb=>?_)<|fun zAb=>?_
   ·replace h:=yq h zAb
    refine WC.skip<|Lb<|WC.b<|WC.block<|WC.b ?_
    obtain⟨zXm,h⟩:=yn h
    refine Ld<|L0 (dd:=32) U U (Z:=Z) (Pr:=(y27 Z)) z9h U U zJX zXm ?_
    rintro z18J z18K zXn z18L ⟨z18M,z18N,rfl,zK0⟩
    refine Le 33 (yc zdI U<|y3C hz.pv zXn U)<|La U<|WL.nil<|Lb<|WC.b<|WC.b ?_
    obtain⟨zA6,zXo,h⟩:=za h
    refine Ld<|La U<|WL.y49 (dd:=36) U U U (zb Tryz.call199<|.cons U .nil) .nil (cc hz .nil fun w pz ho=>y7Z zXo w pz zK0) ?_
    rintro z18O z18P _
    refine La U<|La U<|La U<|La U<|La U<|WL.nil<|Lb<|WC.b<|Ld<|La U<|La U<|WL.nil<|Lb<|WC.cond U (fun zAc=>?_)<|fun zAc=>?_
    ·replace h:=yq h zAc
     refine WC.b<|Ld<|La U<|La U<|WL.nil<|Lb<|WC.ret<|Li<|Lq<|Li<|Li<|Lq<|Li ?_
     obtain rfl:=oJ h
     refine Lh Tryz.results163 (.tmp U .nil)<|fun w hw=>?_
     exact⟨yC U,hw.sub .nil⟩
    ·replace h:=yr h zAc
     refine WC.skip<|Lb<|WC.b ?_
     obtain⟨zJR,zXp,h⟩:=za h
     refine Ld<|La U<|Ll 44 (zb Tryz.call200<|.cons U .nil) .nil (cc hz .nil fun w pz ho=>ycN zXp w pz zK0)<|La U<|La U<|La U (Lg 9 (yv (cs:=[(vi 0),(vi 0)]) zW U) fun z18Q _=>Lk U U (yl zA U U U .here U U U)<|La U<|WL.nil<|Lb ?_)
     obtain⟨zhr,zXq,h⟩:=za h
     refine Ld<|Le 47 (yi zg U (yk .h4) U)<|Le 48 (yi zg U (yk .here) U)<|Ll 49 (zb Tryz.call123<|.r4 U U U U) (.cons .h3 .nil) (cc hz (.cons .h3 .nil) fun w pz ho=>y2P _ _ (z7G:=119) (z8N:=[]) _ (z8g:=(fun(y0:z1) (y1:z1)=>y1q y0 y1)) _ _ _ zXq w pz Tryz.call119 (fun w' hz' y0 y1  r  hr=>y6N hr w' hz' ) ho)<|Lk U U (yl zA U U U .h4 U U U)<|WL.nil<|Lt<|Lb<|Ld<|La U<|La U<|WL.nil ?_
     exact WX.round ⟨zA5,(i64 (z6u+1)),zhr.2.fE,zhr.1.fN,zhr.1.fD⟩ h (Nat.lt_succ_self _) (.r6 U U U U U U)<|.s3 .h4 .h1 .here
   ·replace h:=yr h zAb
    refine WC.exit<|Lm<|Lm<|Lu ?_
    exact Ln ⟨z8T,z8U,z8V⟩ h (.r3 U U U)<|.a3
  ·rintro zcQ zfc zfd h
   replace h:=(zXl zcQ zfc zfd).symm.trans h
   refine WC.b<|WC.b ?_
   obtain⟨zA9,zK1,h⟩:=za h
   refine Ld<|Le 51 (ya y5w U U)<|Le 52 (yc y3A U<|yh .h1 U)<|La U<|La U<|Lv true 6 54 (B:=zA9) U U U U U U (fun h=>(oJ<|yr zK1 h).symm) (fun _ zXr=>?_) ?_
   ·skip
    have zoh:=yq zK1 zXr
    obtain⟨zJU,zXs,zoh⟩:=za zoh
    replace zoh:=oJ zoh
    refine Le 55 (yi zg U (yk .h2) U)<|Le 56 (ya ybO U U)<|Le 57 (ya y9f U U)<|Le 58 (yU (cs:=[(vi z2Y.fRate.fN),(vi z2Y.fRate.fD)]) zg U U<|y3w (s:=2) .here U)<|Ll 59 (zb Tryz.call129<|.r2 U U) .nil (cc hz .nil fun w pz ho=>y55 zXs w pz )<|La U<|La U ?_
    exact Lw zoh U U .all
   refine WL.nil<|Lb<|WC.cond U (fun zAd=>?_)<|fun zAd=>?_
   ·replace h:=yq h zAd
    refine WC.b<|Ld<|La U<|WL.nil<|Lb<|WC.ret<|Li ?_
    obtain rfl:=oJ h
    refine Lh Tryz.results163 (.tmp U .nil)<|fun w hw=>?_
    exact⟨yC U,hw.sub .nil⟩
   ·replace h:=yr h zAd
    refine WC.skip<|Lb<|WC.b<|Ld<|Le 62 (ya y5w U U)<|Le 63 (yc y3A U<|yh .h1 U)<|La U<|WL.nil<|Lb<|WC.ret ?_
    obtain rfl:=oJ h
    refine Lh Tryz.results163 (.tmp U .nil)<|fun w hw=>?_
    exact⟨yC U,hw.sub .nil⟩
def y4K(zkB:List (List z2))(z7M:zSv)(zrF:List (List z2))(zkC:zSv)(zkD:List z1):Option (Int×Int×Int×Int):=
 some (z7M.fRate.fN,z7M.fRate.fD,z7M.fL.fN,z7M.fL.fD)
theorem yaa{Z:Zp}{zrG:Option Addr}{zrH:Nat}{zrI:Addr}{zK2:Option Addr}{zK3:Nat}{zrJ:Addr}{zrK:Option Addr}{zrL:Nat}{zkB:List (List z2)}{z7M:zSv}{zrF:List (List z2)}{zkC:zSv}{zkD:List z1}{r:Int×Int×Int×Int}(h:y4K zkB z7M zrF zkC zkD=some r)(w₀:World)(hz:PZ [] w₀ Z)(z18R:ZS Z 1 (y27 Z) zrG zrH zkB)(z18S:ZS Z 1 (y27 Z) zK2 zK3 zrF)(z18T:ZC Z zrI [(.slice zK2 zrF.length zK3)])(z18U:ZC Z zrJ [(vi zkC.fRate.fN),(vi zkC.fRate.fD),(vi zkC.fL.fN),(vi zkC.fL.fD)])(z18V:ZS Z 2 (fun r x=>r=yA x) zrK zrL zkD):
  Calls Tryz.prog 164 #[(.agg #[(.slice zrG zkB.length zrH),(vi z7M.fRate.fN),(vi z7M.fRate.fD),(vi z7M.fL.fN),(vi z7M.fL.fD),(.func (.func 128) #[] #[(vq zrI),(vq zrJ)]),(.slice zrK zkD.length zrL)])] w₀ fun e w'=>∃ zK4:Nat,e = .returned (.func (.func 201) #[] #[(vp zK4)])∧True∧Hp [] w₀ w' [stb zK4 231 [(.slice zrG zkB.length zrH),(vi r.1),(vi r.2.1),(vi r.2.2.1),(vi r.2.2.2),(.func (.func 128) #[] #[(vq zrI),(vq zrJ)]),(.slice zrK zkD.length zrL)]]:=by
 unfold y4K at h
 refine L5 Tryz.func164 Tryz.ntmps164 ?_
 refine WC.b<|Ld (Lg 1 (yH (cs:=[(.slice zrG zkB.length zrH),(vi z7M.fRate.fN),(vi z7M.fRate.fD),(vi z7M.fL.fN),(vi z7M.fL.fD),(.func (.func 128) #[] #[(vq zrI),(vq zrJ)]),(.slice zrK zkD.length zrL)]) U U) fun zXt _=>La U<|WL.nil<|Lb<|WC.b<|Ld<|Le 3 (y14<|L2 (l:=[.tmp 1])<|.cons U .nil)<|La U<|WL.nil<|Lb<|WC.ret ?_)
 obtain rfl:=oJ h
 refine Lh Tryz.results164 (.tmp U .nil)<|fun w hw=>?_
 exact⟨zXt,yC U,trivial,hw.sub (.cons .here .nil)⟩
def y1H(zz:Type)(z37:List z1×Int)(z2D:z1→zz→Option (Bool×zz))(zcR:zz→Option zz):Nat→Int→zz→Option zz
 | 0,_,_=>none
 | zAe+1,z3z,z6v=>if decide (z3z<((z37.1.length:Nat):Int)) then chk ((0:Int)≤z3z∧z3z<((z37.1.length:Nat):Int)) ((y1Z (⟨((nth z37.1 z3z).fN),((nth z37.1 z3z).fD)⟩:z1)).bind fun zK5=>(y1x zK5).bind fun zAf=>(z2D zAf z6v).bind fun zaC=>(if !zaC.1 then some (true,zaC.2) else(y35 (⟨((nth z37.1 z3z).fN),((nth z37.1 z3z).fD)⟩:z1)).bind fun zK6=>(y1x zK6).bind fun zAg=>(z2D zAg zaC.2).bind fun zoi=>some (!zoi.1,zoi.2)).bind fun zfe=>if zfe.1 then some zfe.2 else y1H zz z37 z2D zcR zAe (i64 (z3z+1)) zfe.2) else zcR z6v
theorem y80{n:Nat}{zz:Type}{z37:List z1×Int}{z2D:z1→zz→Option (Bool×zz)}{zcR:zz→Option zz}{z3z:Int}{z6v:zz}{r:zz}(h:y1H zz z37 z2D zcR n z3z z6v=some r):∃ m,n=m+1:=by
 cases n with
 | zero=>cases h
 | succ m=>exact⟨m,rfl⟩
def y1I(zz:Type)(z3l:List (List z2))(z2D:z1→zz→Option (Bool×zz))(zcS:zz→Option zz):Nat→Int→zz→Option zz
 | 0,_,_=>none
 | zAh+1,z4O,z7N=>if decide (z4O<((z3l.length:Nat):Int)) then jp1 (fun(zaD:zz)=>y1I zz z3l z2D zcS zAh (i64 (z4O+1)) zaD) fun zAi=>chk ((0:Int)≤z4O∧z4O<((z3l.length:Nat):Int)) ((y24 (nth z3l z4O)).bind fun z37=>jp1 (fun(zaE:zz)=>zAi zaE) fun zcR=>y1H zz z37 z2D zcR yx 0 z7N) else zcS z7N
theorem y81{n:Nat}{zz:Type}{z3l:List (List z2)}{z2D:z1→zz→Option (Bool×zz)}{zcS:zz→Option zz}{z4O:Int}{z7N:zz}{r:zz}(h:y1I zz z3l z2D zcS n z4O z7N=some r):∃ m,n=m+1:=by
 cases n with
 | zero=>cases h
 | succ m=>exact⟨m,rfl⟩
def y1J(zz:Type)(z3A:List z1)(z2D:z1→zz→Option (Bool×zz))(zcT:zz→Option zz):Nat→Int→zz→Option zz
 | 0,_,_=>none
 | zAj+1,z4f,z6w=>if decide (z4f<((z3A.length:Nat):Int)) then chk ((0:Int)≤z4f∧z4f<((z3A.length:Nat):Int)) ((y1Z (⟨((nth z3A z4f).fN),((nth z3A z4f).fD)⟩:z1)).bind fun zK7=>(y1x zK7).bind fun zAk=>(z2D zAk z6w).bind fun zaF=>(if !zaF.1 then some (true,zaF.2) else(y35 (⟨((nth z3A z4f).fN),((nth z3A z4f).fD)⟩:z1)).bind fun zK8=>(y1x zK8).bind fun zAl=>(z2D zAl zaF.2).bind fun zoj=>some (!zoj.1,zoj.2)).bind fun zff=>if zff.1 then some zff.2 else y1J zz z3A z2D zcT zAj (i64 (z4f+1)) zff.2) else zcT z6w
theorem y82{n:Nat}{zz:Type}{z3A:List z1}{z2D:z1→zz→Option (Bool×zz)}{zcT:zz→Option zz}{z4f:Int}{z6w:zz}{r:zz}(h:y1J zz z3A z2D zcT n z4f z6w=some r):∃ m,n=m+1:=by
 cases n with
 | zero=>cases h
 | succ m=>exact⟨m,rfl⟩
def y3f(zz:Type)(z2D:z1→zz→Option (Bool×zz))(s0_56856:zz)(z3l:List (List z2))(zht:zSv)(zol:List (List z2))(zhu:zSv)(z3A:List z1):Option zz:=
 (y3d).bind fun zAm=>(z2D zAm s0_56856).bind fun zhv=>if !zhv.1 then some zhv.2 else jp1 (fun(zaG:zz)=>jp1 (fun(zcU:zz)=>some zcU) fun zcT=>y1J zz z3A z2D zcT yx 0 zaG) fun zcS=>y1I zz z3l z2D zcS yx 0 zhv.2
theorem y9M(Z:Zp)(zz:Type)(z9P:Nat)(z4P:Type)(z2Z:z4P→zz→Asrt)(z8n:z4P→zz→Prop)(zcV:z4P)(zcW:Addr)(zfg:Option Addr)(zfh:Nat)(zAn:Addr)(zAo:Option Addr)(zAp:Nat)(zAq:Addr)(zom:Option Addr)(zon:Nat)(z2D:z1→zz→Option (Bool×zz))(s0_56856:zz)(z3l:List (List z2))(zht:zSv)(zol:List (List z2))(zhu:zSv)(z3A:List z1)(r:zz)(w₀:World)(hz:PZ (fps [z2Z zcV s0_56856]) w₀ Z)(zoo:ybf Tryz.prog Z z9P (α:=z1) (σ:=zz) (G:=z4P) (H:=Unit) (fun h x=>[(.agg #[(vi x.fN),(vi x.fD)])]) (fun h x=>[]) z2D z2Z z8n)(zXu:z8n zcV s0_56856)(zXv:ZS Z 1 (y27 Z) zfg zfh z3l)(z18W:ZS Z 1 (y27 Z) zAo zAp zol)(z18X:ZC Z zAn [(.slice zAo zol.length zAp)])(z18Y:ZC Z zAq [(vi zhu.fRate.fN),(vi zhu.fRate.fD),(vi zhu.fL.fN),(vi zhu.fL.fD)])(zXw:ZS Z 2 (fun r x=>r=yA x) zom zon z3A)(zK9:ZC Z zcW [(.slice zfg z3l.length zfh),(vi zht.fRate.fN),(vi zht.fRate.fD),(vi zht.fL.fN),(vi zht.fL.fD),(.func (.func 128) #[] #[(vq zAn),(vq zAq)]),(.slice zom z3A.length zon)])(h:y3f zz z2D s0_56856 z3l zht zol zhu z3A=some r)(hown:Hp (fps [z2Z zcV s0_56856]) w₀ w₀ [z2Z zcV s0_56856]):
  Calls Tryz.prog 201 #[(.func (.yield z9P) #[] #[]),(vq zcW)] w₀ fun e w'=>∃ zKa:z4P,e = .returned (.tuple #[])∧(z8n zKa r)∧Hp (fps [z2Z zcV s0_56856]) w₀ w' [z2Z zKa r]:=by
 unfold y3f at h
 refine Kh Tryz.func201 Tryz.ntmps201 hown ?_
 refine WC.b<|WC.b ?_
 obtain⟨zAm,zXx,h⟩:=za h
 obtain⟨zhv,zXy,h⟩:=za h
 refine Ld<|La U<|Ll 12 (zb Tryz.call161 .nil) .nil (cc hz .nil fun w pz ho=>y4S zXx w pz ) (WL.yield (dd:=13) (x:=zAm) (h:=()) (g:=zcV) (s:=s0_56856) (b:=zhv.1) (s':=zhv.2) zoo U U U (.cons U .nil) ((.cons .here .nil):Sel _ [z2Z zcV s0_56856] _) zXy zXu (fun w hw=>hz.call hw ((.cons .here .nil):Sel _ [z2Z zcV s0_56856] _)) fun zKb zKc=>La U<|WL.nil<|Lb<|WC.cond U (fun zAr=>?_)<|fun zAr=>?_)
 ·replace h:=yq h zAr
  refine WC.ret<|Li ?_
  obtain rfl:=oJ h
  refine Lh Tryz.results201 .nil<|fun w hw=>?_
  exact⟨zKb,y7v,zKc,hw.sub (.cons .here .nil)⟩
 ·replace h:=yr h zAr
  refine WC.skip<|Lb ?_
  obtain⟨zcS,zXz,h⟩:=y12 h
  let A:Value:=(.func (.yield z9P) #[] #[]);refine WC.y5g (fun(zaG:zz) (zkE:z4P)=>(zcS zaG=some r)∧(z8n zkE zaG)) (fun zaG zkE=>[(0,A),(1,(vq zcW))]) (fun zaG zkE=>[z2Z zkE zaG]) ?_ ?_
  ·skip
   let C:Value:=(.slice zfg z3l.length zfh);let D:Value:=(vi ((z3l.length:Nat):Int));refine WC.b (Ld (Le 15 (ya y7E U U) (Le 16 (yc z8z U (y1c hz.pv zK9 U)) (Le 17 (yI Tryz.underlying171 U) (La U (WL.nil (Lb (WC.block (WC.y4P (fun(zkF:Nat) (z4O:Int) (z7N:zz) (zfi:z4P)=>(y1I zz z3l z2D zcS zkF z4O z7N=some r)∧(z8n zfi z7N)) (fun zkF z4O z7N zfi=>[(0,A),(1,(vq zcW)),(16,C),(17,D),(18,(vi z4O))]) (fun zkF z4O z7N zfi=>[z2Z zfi z7N]) (fun zkF z4O z7N zfi=>zkF) ⟨yx,0,zhv.2,zKb⟩ ⟨h,zKc⟩ (.r5 U U U U U) (.cons .here .nil) ?_)))))))))
   rintro zkF z4O z7N zfi ⟨h,zKd⟩
   obtain⟨zAh,rfl⟩:=y81 h
   rw[y1I] at h
   refine WC.b<|Ld<|La U<|WL.nil<|Lb<|WC.b<|WC.cond U (fun zAs=>?_)<|fun zAs=>?_
   ·replace h:=yq h zAs
    refine WC.skip<|Lb ?_
    obtain⟨zAi,zXA,h⟩:=y12 h
    refine WC.y5g (fun(zaD:zz) (zkG:z4P)=>(zAi zaD=some r)∧(z8n zkG zaD)) (fun zaD zkG=>[(0,A),(1,(vq zcW)),(16,C),(17,D),(18,(vi z4O))]) (fun zaD zkG=>[z2Z zkG zaD]) ?_ ?_
    ·skip
     refine WC.block<|WC.b ?_
     obtain⟨zXB,h⟩:=yn h
     refine Ld<|L0 (dd:=20) U U (Z:=Z) (Pr:=(y27 Z)) z9h U U zXv zXB ?_
     rintro z18Z z190 zXC z191 ⟨z192,z193,rfl,zXD⟩
     refine Le 21 (yc zdI U<|y3C hz.pv zXC U)<|La U<|WL.nil<|Lb<|WC.b ?_
     obtain⟨z37,zXE,h⟩:=za h
     refine Ld<|La U<|WL.y49 (dd:=24) U U U (zb Tryz.call199<|.cons U .nil) .nil (cc hz .nil fun w pz ho=>y7Z zXE w pz zXD) ?_
     rintro zKe zrM _
     refine La U<|La U<|La U<|La U<|La U<|WL.nil<|Lb<|WC.b<|Ld<|La U<|Le 28 (yI Tryz.underlying229 U)<|La U<|WL.nil<|Lb ?_
     obtain⟨zcR,zXF,h⟩:=y12 h
     refine WC.y78 (fun(zaE:zz) (zkH:z4P)=>(zcR zaE=some r)∧(z8n zkH zaE)) (fun zaE zkH=>[(0,A),(1,(vq zcW)),(16,C),(17,D),(18,(vi z4O))]) (fun zaE zkH=>[z2Z zkH zaE]) ?_ ?_
     ·skip
      let F:=((z37.1.length:Nat):Int);let I:Value:=(.slice zKe z37.1.length zrM);refine WC.block (WC.y4P (fun(zkI:Nat) (z3z:Int) (z6v:zz) (zaH:z4P)=>(y1H zz z37 z2D zcR zkI z3z z6v=some r)∧(z8n zaH z6v)) (fun zkI z3z z6v zaH=>[(0,A),(1,(vq zcW)),(16,C),(17,D),(18,(vi z4O)),(27,I),(28,(vi F)),(29,(vi z3z))]) (fun zkI z3z z6v zaH=>[row I 175 2 (z37.1.flatMap yA),z2Z zaH z6v]) (fun zkI z3z z6v zaH=>zkI) ⟨yx,0,z7N,zfi⟩ ⟨h,zKd⟩ (.r8 U U U U U U U U) (.a2) ?_)
      rintro zkI z3z z6v zaH ⟨h,zKf⟩
      obtain⟨zAe,rfl⟩:=y80 h
      rw[y1H] at h
      refine WC.b<|Ld<|La U<|WL.nil<|Lb<|WC.b<|WC.cond U (fun zAt=>?_)<|fun zAt=>?_
      ·replace h:=yq h zAt
       refine WC.skip<|Lb<|WC.b<|WC.block<|WC.b ?_
       obtain⟨zop,h⟩:=yn h
       refine Ld<|Kd (fun w hw=>Hp.y1T .here hw (by intro hz';have:=zop;rw[hz'] at this;omega)) ?_
       rintro⟨zKg,rfl⟩
       refine Le 31 (yS z2q U U zop.1 zop.2 y2L)<|Le 32 (yU (cs:=(yA<|nth z37.1 z3z)) zg U U<|y3z .here<|y2x (enc:=yA) (l:=z37.1) (i:=z3z) (sz:=2) (fun _=>U) zop.1 zop.2) (Lg 8 (yv (cs:=[(vi 0),(vi 0)]) zW U) fun zXG _=>Lk U U (yl zA U U U .here U U U)<|WL.nil<|Lb<|WC.b ?_)
       obtain⟨zK5,zXH,h⟩:=za h
       obtain⟨zAf,zXI,h⟩:=za h
       obtain⟨zaC,zXJ,h⟩:=za h
       obtain⟨zfe,zKh,h⟩:=za h
       refine Ld<|La U<|Le 34 (yi zg U (yk .here) U)<|Ll 35 (zb Tryz.call83<|.cons U .nil) .nil (cc hz .nil fun w pz ho=>y6o zXH w pz )<|Ll 36 (zb Tryz.call191<|.cons U .nil) .nil (cc hz .nil fun w pz ho=>y3k zXI w pz )<|WL.yield (dd:=37) (x:=zAf) (h:=()) (g:=zaH) (s:=z6v) (b:=zaC.1) (s':=zaC.2) zoo U U U (.cons U .nil) ((.cons .h2 .nil):Sel _ [z2Z zaH z6v] _) zXJ zKf (fun w hw=>hz.call hw ((.cons .h2 .nil):Sel _ [z2Z zaH z6v] _)) ?_
       intro zrN zKi
       let E:Value:=(.slice (some ⟨zKg,0,none⟩) z37.1.length zrM);refine La U (La U (WL.yd8 (fun(zhw:z4P)=>z8n zhw zfe.2) (fun(zhw:z4P)=>[(0,A),(1,(vq zcW)),(16,C),(17,D),(18,(vi z4O)),(27,E),(28,(vi F)),(29,(vi z3z)),(46,(.bool zfe.1))]) (fun(zhw:z4P)=>[z2Z zhw zfe.2,stb zXG 175 [(vi ((nth z37.1 z3z).fN)),(vi ((nth z37.1 z3z).fD))],row E 175 2 (z37.1.flatMap yA)]) 7 ?_ (fun zhw zKj=>?_)))
       ·rcases Bool.eq_false_or_eq_true (!zaC.1) with hb' | hb'
        ·have zKk:=hb';clear hb'
         have zAu:=yq zKh zKk
         replace zAu:=oJ zAu
         refine WL.pin (i:=39) U zKk<|WL.e U U U<|WL.e U U U<|WL.e U U U<|WL.e U U U<|WL.e U U U<|WL.e U U U<|La U ?_
         subst zAu
         exact WL.y6K zrN zKi (.r9 U U U U U U U U U)<|.a3
        ·have zKl:=hb';clear hb'
         have zcX:=yr zKh zKl
         obtain⟨zK6,zXK,zcX⟩:=za zcX
         obtain⟨zAg,zXL,zcX⟩:=za zcX
         obtain⟨zoi,zXM,zcX⟩:=za zcX
         replace zcX:=oJ zcX
         refine WL.pin (i:=39) U zKl<|La U<|Le 41 (yi zg U (yk .h1) U)<|Ll 42 (zb Tryz.call202<|.cons U .nil) .nil (cc hz .nil fun w pz ho=>ya9 zXK w pz )<|Ll 43 (zb Tryz.call191<|.cons U .nil) .nil (cc hz .nil fun w pz ho=>y3k zXL w pz ) (WL.yield (dd:=44) (x:=zAg) (h:=()) (g:=zrN) (s:=zaC.2) (b:=zoi.1) (s':=zoi.2) zoo U U U (.cons U .nil) ((.cons .here .nil):Sel _ [z2Z zrN zaC.2] _) zXM zKi (fun w hw=>hz.call hw ((.cons .here .nil):Sel _ [z2Z zrN zaC.2] _)) fun zXN zXO=>La U<|La U ?_)
         subst zcX
         exact WL.y6K zXN zXO (.r9 U U U U U U U U U)<|.a3
       ·skip
        refine WL.nil<|Lb<|WC.cond U (fun zAv=>?_)<|fun zAv=>?_
        ·replace h:=yq h zAv
         refine WC.ret<|Lq<|Li<|Li<|Lq<|Li<|Lq<|Li<|Li<|Lq<|Li ?_
         obtain rfl:=oJ h
         refine Lh Tryz.results201 .nil<|fun w hw=>?_
         exact⟨zhw,y7v,zKj,hw.sub (.cons .here .nil)⟩
        ·replace h:=yr h zAv
         refine WC.skip<|Lt<|Lb<|Ld<|La U<|La U<|WL.nil ?_
         exact WX.round ⟨zAe,(i64 (z3z+1)),zfe.2,zhw⟩ ⟨h,zKj⟩ (Nat.lt_succ_self _) (.r8 U U U U U U U U)<|.s2 .h2 .here
      ·replace h:=yr h zAt
       refine WC.exit<|Lm<|Lm<|Lu ?_
       exact Ln ⟨z6v,zaH⟩ ⟨h,zKf⟩ (.r5 U U U U U)<|.cons .h1 .nil
     ·rintro zaE zkH ⟨h,zXP⟩
      replace h:=(zXF zaE).symm.trans h
      refine Lt ?_
      exact Ln ⟨zaE,zkH⟩ ⟨h,zXP⟩ (.r5 U U U U U)<|.cons .here .nil
    ·rintro zaD zkG ⟨h,zXQ⟩
     replace h:=(zXA zaD).symm.trans h
     refine Ld<|La U<|La U<|WL.nil ?_
     exact WX.round ⟨zAh,(i64 (z4O+1)),zaD,zkG⟩ ⟨h,zXQ⟩ (Nat.lt_succ_self _) (.r5 U U U U U)<|.cons .here .nil
   ·replace h:=yr h zAs
    refine WC.exit<|Lm<|Lm<|Lu ?_
    exact Ln ⟨z7N,zfi⟩ ⟨h,zKd⟩ (.r2 U U)<|.cons .here .nil
  ·rintro zaG zkE ⟨h,zXR⟩
   replace h:=(zXz zaG).symm.trans h
   refine WC.b<|Ld<|Le 49 (ya yga U U)<|Le 50 (yc z9i U<|y1c hz.pv zK9 U)<|Le 51 (yI Tryz.underlying229 U)<|La U<|WL.nil<|Lb ?_
   obtain⟨zcT,zXS,h⟩:=y12 h
   refine WC.y78 (fun(zcU:zz) (zkJ:z4P)=>(zcT zcU=some r)∧(z8n zkJ zcU)) (fun zcU zkJ=>[]) (fun zcU zkJ=>[z2Z zkJ zcU]) ?_ ?_
   ·skip
    let J:Value:=(.slice zom z3A.length zon);let K:Value:=(vi ((z3A.length:Nat):Int));refine WC.block (WC.y4P (fun(zkK:Nat) (z4f:Int) (z6w:zz) (zaI:z4P)=>(y1J zz z3A z2D zcT zkK z4f z6w=some r)∧(z8n zaI z6w)) (fun zkK z4f z6w zaI=>[(0,A),(50,J),(51,K),(52,(vi z4f))]) (fun zkK z4f z6w zaI=>[z2Z zaI z6w]) (fun zkK z4f z6w zaI=>zkK) ⟨yx,0,zaG,zkE⟩ ⟨h,zXR⟩ (.r4 U U U U) (.cons .here .nil) ?_)
    rintro zkK z4f z6w zaI ⟨h,zKm⟩
    obtain⟨zAj,rfl⟩:=y82 h
    rw[y1J] at h
    refine WC.b<|Ld<|La U<|WL.nil<|Lb<|WC.b<|WC.cond U (fun zAw=>?_)<|fun zAw=>?_
    ·replace h:=yq h zAw
     refine WC.skip<|Lb<|WC.b<|WC.block<|WC.b ?_
     obtain⟨zXT,h⟩:=yn h
     refine Ld<|L0 (dd:=54) U U (Z:=Z) (Pr:=(fun r x=>r=yA x)) z2q U U zXw zXT ?_
     rintro z194 z195 zXU z196 rfl
     refine Le 55 (yi zg U (y2l hz.pv zXU) U) (Lg 10 (yv (cs:=[(vi 0),(vi 0)]) zW U) fun zXV _=>Lk U U (yl zA U U U .here U U U)<|WL.nil<|Lb<|WC.b ?_)
     obtain⟨zK7,zXW,h⟩:=za h
     obtain⟨zAk,zXX,h⟩:=za h
     obtain⟨zaF,zXY,h⟩:=za h
     obtain⟨zff,zKn,h⟩:=za h
     refine Ld<|La U<|Le 57 (yi zg U (yk .here) U)<|Ll 58 (zb Tryz.call83<|.cons U .nil) .nil (cc hz .nil fun w pz ho=>y6o zXW w pz )<|Ll 59 (zb Tryz.call191<|.cons U .nil) .nil (cc hz .nil fun w pz ho=>y3k zXX w pz ) (WL.yield (dd:=60) (x:=zAk) (h:=()) (g:=zaI) (s:=z6w) (b:=zaF.1) (s':=zaF.2) zoo U U U (.cons U .nil) ((.cons .h1 .nil):Sel _ [z2Z zaI z6w] _) zXY zKm (fun w hw=>hz.call hw ((.cons .h1 .nil):Sel _ [z2Z zaI z6w] _)) fun zrO zKo=>La U<|La U<|WL.yd8 (fun(zhx:z4P)=>z8n zhx zff.2) (fun(zhx:z4P)=>[(0,A),(50,J),(51,K),(52,(vi z4f)),(69,(.bool zff.1))]) (fun(zhx:z4P)=>[z2Z zhx zff.2,stb zXV 175 [(vi<|(nth z3A z4f).fN),(vi<|(nth z3A z4f).fD)]]) 7 ?_<|fun zhx zKp=>?_)
     ·rcases Bool.eq_false_or_eq_true (!zaF.1) with hb' | hb'
      ·have zKq:=hb';clear hb'
       have zAx:=yq zKn zKq
       replace zAx:=oJ zAx
       refine WL.pin (i:=62) U zKq<|WL.e U U U<|WL.e U U U<|WL.e U U U<|WL.e U U U<|WL.e U U U<|WL.e U U U<|La U ?_
       subst zAx
       exact WL.y6K zrO zKo (.r5 U U U U U)<|.a2
      ·have zKr:=hb';clear hb'
       have zcY:=yr zKn zKr
       obtain⟨zK8,zXZ,zcY⟩:=za zcY
       obtain⟨zAl,zY0,zcY⟩:=za zcY
       obtain⟨zoj,zY1,zcY⟩:=za zcY
       replace zcY:=oJ zcY
       refine WL.pin (i:=62) U zKr<|La U<|Le 64 (yi zg U (yk .h1) U)<|Ll 65 (zb Tryz.call202<|.cons U .nil) .nil (cc hz .nil fun w pz ho=>ya9 zXZ w pz )<|Ll 66 (zb Tryz.call191<|.cons U .nil) .nil (cc hz .nil fun w pz ho=>y3k zY0 w pz ) (WL.yield (dd:=67) (x:=zAl) (h:=()) (g:=zrO) (s:=zaF.2) (b:=zoj.1) (s':=zoj.2) zoo U U U (.cons U .nil) ((.cons .here .nil):Sel _ [z2Z zrO zaF.2] _) zY1 zKo (fun w hw=>hz.call hw ((.cons .here .nil):Sel _ [z2Z zrO zaF.2] _)) fun zY2 zY3=>La U<|La U ?_)
       subst zcY
       exact WL.y6K zY2 zY3 (.r5 U U U U U)<|.a2
     ·skip
      refine WL.nil<|Lb<|WC.cond U (fun zAy=>?_)<|fun zAy=>?_
      ·replace h:=yq h zAy
       refine WC.ret<|Lq<|Li<|Li<|Lq<|Li ?_
       obtain rfl:=oJ h
       refine Lh Tryz.results201 .nil<|fun w hw=>?_
       exact⟨zhx,y7v,zKp,hw.sub (.cons .here .nil)⟩
      ·replace h:=yr h zAy
       refine WC.skip<|Lt<|Lb<|Ld<|La U<|La U<|WL.nil ?_
       exact WX.round ⟨zAj,(i64 (z4f+1)),zff.2,zhx⟩ ⟨h,zKp⟩ (Nat.lt_succ_self _) (.r4 U U U U)<|.cons .here .nil
    ·replace h:=yr h zAw
     refine WC.exit<|Lm<|Lm<|Lu ?_
     exact Ln ⟨z6w,zaI⟩ ⟨h,zKm⟩ .nil<|.cons .here .nil
   ·rintro zcU zkJ ⟨h,zY4⟩
    replace h:=(zXS zcU).symm.trans h
    obtain rfl:=oJ h
    refine WX.y5f Tryz.results201 .nil<|fun w hw=>?_
    exact⟨zkJ,y7v,zY4,hw.sub (.cons .here .nil)⟩
def y4V(zhy:z1z)(zcZ:z1)(zoq:List (List z2))(z7l:zSv):Option (z1×z1z):=
 (y3B zhy zoq zcZ).bind fun zhz=>(y1v zcZ z7l.fL).bind fun zKs=>if decide (zKs≤0) then some (zhz.1,zhz.2) else(y1d zhz.2 (fun(y0:z1) (y1:z1)=>y2y y0 y1) zcZ z7l.fL).bind fun zAz=>(y1d zAz.2 (fun(y0:z1) (y1:z1)=>y3O y0 y1) z7l.fRate zAz.1).bind fun zAA=>(y1d zAA.2 (fun(y0:z1) (y1:z1)=>y2y y0 y1) zhz.1 zAA.1).bind fun zAB=>some (zAB.1,zAB.2)
theorem ybR{Z:Zp}{zkL:Nat}{zKt:Addr}{zKu:Option Addr}{zKv:Nat}{zKw:Addr}{zhy:z1z}{zcZ:z1}{zoq:List (List z2)}{z7l:zSv}{r:z1×z1z}(h:y4V zhy zcZ zoq z7l=some r)(w₀:World)(hz:PZ (fps [stb zkL 277 [(vi zhy.fE)]]) w₀ Z)(zY5:ZS Z 1 (y27 Z) zKu zKv zoq)(zY6:ZC Z zKt [(.slice zKu zoq.length zKv)])(zAC:ZC Z zKw [(vi z7l.fRate.fN),(vi z7l.fRate.fD),(vi z7l.fL.fN),(vi z7l.fL.fD)])(hown:Hp (fps [stb zkL 277 [(vi zhy.fE)]]) w₀ w₀ [stb zkL 277 [(vi zhy.fE)]]):
  Calls Tryz.prog 128 #[(vp zkL),(.agg #[(vi zcZ.fN),(vi zcZ.fD)]),(vq zKt),(vq zKw)] w₀ fun e w'=>e = .returned (.agg #[(vi r.1.fN),(vi r.1.fD)])∧Hp (fps [stb zkL 277 [(vi zhy.fE)]]) w₀ w' [stb zkL 277 [(vi r.2.fE)]]:=by
 unfold y4V at h
 refine Calls.oh4 Tryz.func128 Tryz.ntmps128 hown ?_
 refine WC.b<|Ld (Lg 5 (yH (cs:=[(vi zcZ.fN),(vi zcZ.fD)]) U U) fun z197 _=>Lg 6 (yv (cs:=[(vi 0),(vi 0)]) zW U) fun z198 _=>WL.nil<|Lb<|WC.b ?_)
 obtain⟨zhz,zY7,h⟩:=za h
 refine Ld<|La U<|Le 9 (yc z8z U<|y3C hz.pv zY6 U)<|Le 10 (yi zg U (yk .h1) U)<|Ll 11 (zb Tryz.call126<|.r3 U U U) (.cons .h2 .nil) (cc hz (.cons .h2 .nil) fun w pz ho=>y8C zY7 w pz zY5 ho) (Lg 7 (yv (cs:=[(vi 0),(vi 0)]) zW U) fun zY8 _=>Lk U U (yl zA U U U .here U U U)<|WL.nil<|Lb<|WC.b<|WC.b ?_)
 obtain⟨zKs,zY9,h⟩:=za h
 let A:List Value:=[(vi z7l.fL.fN),(vi z7l.fL.fD)];refine Ld (Le 12 (yi zg U (yk .h3) U) (Le 13 (ya y9g U U) (Le 14 (yU (cs:=A) zg U U (ybe (off:=2) (s:=2) hz.pv zAC U)) (Ll 15 (zb Tryz.call129 (.r2 U U)) .nil (cc hz .nil fun w pz ho=>y55 zY9 w pz ) (La U (WL.nil (Lb (WC.cond U (fun zAD=>?_) (fun zAD=>?_)))))))))
 ·replace h:=yq h zAD
  refine WC.b<|Ld<|Le 17 (yi zg U (yk .here) U)<|Lk U U (yl zA U U U .h2 U U U)<|WL.nil<|Lb<|WC.ret<|Li ?_
  obtain rfl:=oJ h
  refine Lh Tryz.results128 (.agg U zg U (yk .here) .nil)<|fun w hw=>?_
  exact⟨yC U,hw.sub (.cons .h2 .nil)⟩
 ·replace h:=yr h zAD
  refine WC.skip<|Lb<|WC.b ?_
  obtain⟨zAz,zYa,h⟩:=za h
  obtain⟨zAA,zYb,h⟩:=za h
  obtain⟨zAB,zYc,h⟩:=za h
  refine Lx (fun i=>[9,10,11,12].contains i) [stb zY8 175 [(vi zhz.1.fN),(vi zhz.1.fD)]] U<|Lf 0 18 U (fun _=>q_m U)<|L6 1 19 U (Sin.of<|.cons .here .nil) (yi zg U (yk .here) U)<|Lf 2 20 U (fun _=>q_m U)<|Lf 3 21 U (fun _=>ya y9f U U)<|L6 4 22 U (Sin.of<|.cons .here .nil) (yU (cs:=[(vi z7l.fRate.fN),(vi z7l.fRate.fD)]) zg U U<|ybe (off:=0) (s:=2) hz.pv zAC U)<|Lf 5 23 U (fun _=>q_m U)<|Lj 6 24 U (yi zg U (yk .h3) U)<|Lf 7 25 U (fun _=>ya y9g U U)<|Lj 8 26 U (yU (cs:=A) zg U U<|ybe (off:=2) (s:=2) hz.pv zAC U) (Ka (i:=9) (dd:=27) U (by kernel_rfl) U U U (.inl ⟨U,(Sin.of<|.cons .h1 .nil)⟩) (zb Tryz.call123<|.r4 U U U U) (.cons .h1 .nil) (cc hz (.cons .h1 .nil) fun w pz ho=>Calls.mono (y2P _ _ (z7G:=124) (z8N:=[]) _ (z8g:=(fun(y0:z1) (y1:z1)=>y2y y0 y1)) _ _ _ zYa w pz Tryz.call124 (fun w' hz' y0 y1  r  hr=>y9K hr w' hz' ) ho)<|fun _ _ h'=>⟨h'.1,trivial,h'.2⟩) fun _=>Ka (i:=10) (dd:=28) U (by kernel_rfl) U U U (.inl ⟨U,(Sin.of<|.cons .h1 .nil)⟩) (zb Tryz.call123<|.r4 U U U U) (.cons .here .nil) (cc hz (.cons .here .nil) fun w pz ho=>Calls.mono (y2P _ _ (z7G:=120) (z8N:=[]) _ (z8g:=(fun(y0:z1) (y1:z1)=>y3O y0 y1)) _ _ _ zYb w pz Tryz.call120 (fun w' hz' y0 y1  r  hr=>ycM hr w' hz' ) ho)<|fun _ _ h'=>⟨h'.1,trivial,h'.2⟩) fun _=>Ka (i:=11) (dd:=29) U (by kernel_rfl) U U U (.inl ⟨U,(Sin.of<|.cons .h1 .nil)⟩) (zb Tryz.call123<|.r4 U U U U) (.cons .here .nil) (cc hz (.cons .here .nil) fun w pz ho=>Calls.mono (y2P _ _ (z7G:=124) (z8N:=[]) _ (z8g:=(fun(y0:z1) (y1:z1)=>y2y y0 y1)) _ _ _ zYc w pz Tryz.call124 (fun w' hz' y0 y1  r  hr=>y9K hr w' hz' ) ho)<|fun _ _ h'=>⟨h'.1,trivial,h'.2⟩) fun _=>Kb (i:=12) U (by kernel_rfl) U U U (by kernel_rfl) (yl zA U U U .h2 U U U)<|WD.done (by kernel_rfl)<|Lb<|WC.ret ?_)
  obtain rfl:=oJ h
  refine Lh Tryz.results128 (.agg U zg U (yk .here) .nil)<|fun w hw=>?_
  exact⟨yC U,hw.sub (.cons .h1 .nil)⟩
def y30(z8o:List (List z2))(z7m:zSv)(zd0:z1)(z4s:List z1)(zrP:Int):Option (Bool×(Nat×List z1×Int)):=
 (y4V (⟨zrP⟩:z1z) zd0 z8o z7m).bind fun z8p=>(if decide (((z4s.length:Nat):Int)=0) then some true else chk ((0:Int)≤0∧0<((z4s.length:Nat):Int)) ((y1v z8p.1 (⟨((nth z4s 0).fN),((nth z4s 0).fD)⟩:z1)).bind fun zKx=>some (decide (zKx>0)))).bind fun zAE=>if zAE then some (true,(0,([z8p.1]:List z1),z8p.2.fE)) else some (true,(0,z4s,z8p.2.fE))
def y4m(z1h:List (List z2))(zt:zSv)(z8o:List (List z2))(z7m:zSv)(z1i:List z1):Option (z1×Int):=
 (y3R z1h zt z8o z7m z1i).bind fun zor=>if decide (zor≠0) then some ((⟨0,0⟩:z1),zor) else jp2 (fun(zaJ:Int) (z7O:List z1)=>if decide (zaJ≠0) then some ((⟨0,0⟩:z1),zaJ) else chk ((0:Int)≤0∧0<((z7O.length:Nat):Int)) (some ((⟨((nth z7O 0).fN),((nth z7O 0).fD)⟩:z1),0))) fun zAF=>(y4K z1h zt z8o z7m z1i).bind fun zD=>(y3f (Nat×List z1×Int) (fun(x:z1) (s:Nat×List z1×Int)=>chk (s.1=0) (y30 z8o z7m x s.2.1 s.2.2)) (0,([]:List z1),0) z1h (⟨(⟨zD.1,zD.2.1⟩:z1),(⟨zD.2.2.1,zD.2.2.2⟩:z1)⟩:zSv) z8o z7m z1i).bind fun z4Q=>zAF z4Q.2.2 z4Q.2.1
theorem yb7{Z:Zp}{z1F:Option Addr}{z1G:Nat}{z1v:Addr}{zAG:Option Addr}{zAH:Nat}{z1w:Addr}{z1H:Option Addr}{z1I:Nat}{z1h:List (List z2)}{zt:zSv}{z8o:List (List z2)}{z7m:zSv}{z1i:List z1}{r:z1×Int}(h:y4m z1h zt z8o z7m z1i=some r)(w₀:World)(hz:PZ [] w₀ Z)(zAI:ZS Z 1 (y27 Z) z1F z1G z1h)(zrQ:ZS Z 1 (y27 Z) zAG zAH z8o)(zrR:ZC Z z1v [(.slice zAG z8o.length zAH)])(zrS:ZC Z z1w [(vi z7m.fRate.fN),(vi z7m.fRate.fD),(vi z7m.fL.fN),(vi z7m.fL.fD)])(zAJ:ZS Z 2 (fun r x=>r=yA x) z1H z1I z1i):
  Calls Tryz.prog 127 #[(.agg #[(.slice z1F z1h.length z1G),(vi zt.fRate.fN),(vi zt.fRate.fD),(vi zt.fL.fN),(vi zt.fL.fD),(.func (.func 128) #[] #[(vq z1v),(vq z1w)]),(.slice z1H z1i.length z1I)])] w₀ fun e w'=>e = .returned (.tuple #[(.agg #[(vi r.1.fN),(vi r.1.fD)]),(vi r.2)])∧Hp [] w₀ w' []:=by
 unfold y4m at h
 let F:Value:=(.func (.func 128) #[] #[(vq z1v),(vq z1w)]);let N:Value:=(.slice z1F z1h.length z1G);let O:Value:=(.slice z1H z1i.length z1I);let H:Value:=(.agg #[N,(vi zt.fRate.fN),(vi zt.fRate.fD),(vi zt.fL.fN),(vi zt.fL.fD),F,O]);refine Calls.y9t (vs:=[H]) (pre:=[]) (env:=[(0,H)]) Tryz.func127 U Tryz.ntmps127 U (Hp.nil w₀ _) U ?_
 let E:List Value:=[N,(vi zt.fRate.fN),(vi zt.fRate.fD),(vi zt.fL.fN),(vi zt.fL.fD),F,O];refine WC.b (Ld (Lg 1 (yH (cs:=E) U U) ?_))
 intro z4g _
 refine Lg 2 (yv (cs:=[(vi 0),(vi 0)]) zW U) fun z4t _=>La U<|WL.nil<|Lb<|WC.b<|WC.b ?_
 obtain⟨zor,zYd,h⟩:=za h
 refine Ld<|Le 9 (yi zik U (yk .h1) U)<|Ll 10 (zb Tryz.call163<|.cons U .nil) .nil (cc hz .nil fun w pz ho=>yaA zYd w pz zAI zrQ zrR zrS zAJ)<|La U<|WL.nil<|Lb<|WC.b<|Ld<|La U<|La U<|WL.nil<|Lb<|WC.cond U (fun zAK=>?_)<|fun zAK=>?_
 ·replace h:=yq h zAK
  refine WC.b<|Ld<|Le 13 (yL (v:=(.agg #[(vi 0),(vi 0)])) (Lo (l:=[]) .nil []) (fun _=>by kernel_rfl))<|La U<|Lk U U (yl zA U U U .here U U U)<|La U<|WL.nil<|Lb<|WC.ret<|Li ?_
  obtain rfl:=oJ h
  refine WX.ycz Tryz.results127 (.agg U zg U (yk .here)<|.tmp U .nil)<|fun w hw=>?_
  exact⟨y1R U U,hw.sub .nil⟩
 ·replace h:=yr h zAK
  refine WC.skip<|Lb<|WC.b<|Ld (Lg 5 (yv (cs:=[(vi 0)]) zpF U) fun z3B _=>WL.nil<|Lb<|WC.b<|Ld (Lg 6 (yv (cs:=[vn]) zty U) fun z3S _=>WL.nil<|Lb ?_))
  obtain⟨zAF,zYe,h⟩:=y59 h
  refine WC.ydB (fun(zos:Nat) (zaJ:Int) (z7O:List z1) (zot:Option Addr) (zou:Nat)=>(zAF zaJ z7O=some r)) (fun(zos:Nat) (zaJ:Int) (z7O:List z1) (zot:Option Addr) (zou:Nat)=>[(2,(vp z4t)),(5,(vp z3B)),(6,(vp z3S))]) (fun(zos:Nat) (zaJ:Int) (z7O:List z1) (zot:Option Addr) (zou:Nat)=>[stb z4t 175 [(vi 0),(vi 0)],stb z3B 277 [(vi zaJ)],stb z3S 229 [(.slice zot z7O.length zou)],row (.slice zot z7O.length zou) 175 2 (z7O.flatMap yA),dfr zos]) ?_ ?_
  ·skip
   refine WC.b ?_
   obtain⟨zD,zYf,h⟩:=za h
   refine Ld<|Le 15 (yi zik U (yk .h3) U)<|WL.ycu (dd:=16) U U U (zb Tryz.call164<|.cons U .nil) .nil (cc hz .nil fun w pz ho=>yaa zYf w pz zAI zrQ zrR zrS zAJ) ?_
   rintro z5i _
   refine WL.nil<|Lb<|WC.block<|WC.drop (.s5 .h1 .h1 .h1 .h1 .here)<|WC.nilRow 175 2<|WC.rangeFunc (f:=201) (caps:=[(vp z5i)]) U Tryz.call201 ?_
   intro z199 z19a z4R z7P z60 zrT zYg zYh w hw
   let Q:Value:=(.slice none (([]:List z1).length) 0);let A:List Asrt:=[stb z3S 229 [Q],row Q 175 2 (([]:List z1).flatMap yA),stb z3B 277 [(vi 0)],stb z4t 175 [(vi 0),(vi 0)],stb z4g 231 E,blk z4R (z60 .ready none)];have hw1:=hw.selAll ((.s6 .h3 .h2 .h2 .h2 .h2 .here):Sel _ A _)
   let C:List Value:=[N,(vi zD.1),(vi zD.2.1),(vi zD.2.2.1),(vi zD.2.2.2),F,O];let K:List Asrt:=[dfr z7P,stb z5i 231 C];have pz:=(hz.call hw1 ((.cons .here .nil):Sel [y1L A,dfr z7P,stb z5i 231 C] [y1L A] K)).lend hw1 ((.cons .here .nil):Sel [y1L A,dfr z7P,stb z5i 231 C] [y1L A] K) (B:=[stb z5i 231 C]) (fun _ hx'=>((.cons .h1 .nil):Sel _ [stb z5i 231 C] _).mem hx')
   obtain⟨z4Q,zYi,h⟩:=za h
   refine Calls.mono (y9M (Z:=_) (z9P:=z4R) (z4P:=(Option Addr×Nat)) (z2Z:=(fun(g:Option Addr×Nat) (s:Nat×List z1×Int)=>y1L ([stb z3S 229 [(.slice g.1 s.2.1.length g.2)],row (.slice g.1 s.2.1.length g.2) 175 2 (s.2.1.flatMap yA),stb z3B 277 [(vi s.2.2)],stb z4t 175 [(vi 0),(vi 0)],stb z4g 231 E]++[blk z4R (z60 (rdy<|pcs [] s.1)<|pcs [] s.1)]))) (z8n:=(fun(g:Option Addr×Nat) (s:Nat×List z1×Int)=>True)) (zcV:=(none,0)) (zcW:=⟨z5i,0,none⟩) (zfg:=z1F) (zfh:=z1G) (zAn:=z1v) (zAo:=zAG) (zAp:=zAH) (zAq:=z1w) (zom:=z1H) (zon:=z1I) (zz:=(Nat×List z1×Int)) (z2D:=(fun(x:z1) (s:Nat×List z1×Int)=>chk (s.1=0)<|y30 z8o z7m x s.2.1 s.2.2)) (s0_56856:=(0,([]:List z1),0)) (z3l:=z1h) (zht:=(⟨(⟨zD.1,zD.2.1⟩:z1),(⟨zD.2.2.1,zD.2.2.2⟩:z1)⟩:zSv)) (zol:=z8o) (zhu:=z7m) (z3A:=z1i) (r:=z4Q) w pz ?_ trivial ((zAI.mono<|Zle.left _ _).weak (fun _ _ h=>y3L (Zle.left _ _) h)) ((zrQ.mono<|Zle.left _ _).weak (fun _ _ h=>y3L (Zle.left _ _) h)) (zrR.mono<|Zle.left _ _) (zrS.mono<|Zle.left _ _) (zAJ.mono<|Zle.left _ _) ((hw1.lent ((.cons .here .nil):Sel [y1L A,dfr z7P,stb z5i 231 C] [y1L A] K) (B:=[stb z5i 231 C]) (fun _ hx'=>((.cons .h1 .nil):Sel _ [stb z5i 231 C] _).mem hx') (.head _) _).stb) zYi<|hw1.owns ((.cons .here .nil):Sel [y1L A,dfr z7P,stb z5i 231 C] [y1L A] K)) ?_
   ·skip
    refine yaW (LI:=(fun(g:Option Addr×Nat) (s:Nat×List z1×Int)=>[stb z3S 229 [(.slice g.1 s.2.1.length g.2)],row (.slice g.1 s.2.1.length g.2) 175 2 (s.2.1.flatMap yA),stb z3B 277 [(vi s.2.2)],stb z4t 175 [(vi 0),(vi 0)],stb z4g 231 E])) (pc:=(fun(s:Nat×List z1×Int)=>pcs [] s.1)) zrT zYg zYh (fun _ _=>U) (by decide) ?_
    rintro zd0 _ ⟨zkM,zkN⟩ ⟨zYj,z4s,zrP⟩ zYk zYl Fb wb zKy _ hz
    replace hz:=hz.left
    letI:Rnd:=inR z4R
    obtain⟨hp0,z8q⟩:=yn zKy
    replace hp0:zYj=0:=hp0;subst hp0;clear zKy
    replace z8q:y30 z8o z7m zd0 z4s zrP=some (zYk,zYl):=z8q
    unfold y30 at z8q
    let I:Value:=(.slice zkM z4s.length zkN);let L:Value:=(.agg #[(vi zd0.fN),(vi zd0.fD)]);let R:Value:=(.bool (decide (zor≠0)));refine WC.restr (env':=[(1,(vp z4g)),(12,R),(5,(vp z3B)),(6,(vp z3S)),(17,L)]) (.r5 U U U U U) (WC.eqL (L':=[stb z3S 229 [I],row I 175 2 (z4s.flatMap yA),stb z3B 277 [(vi zrP)],stb z4t 175 [(vi 0),(vi 0)],stb z4g 231 E,blk z4R (z60 .ready none)]) U (Ld (Lg 7 (yv (cs:=[(vi 0),(vi 0)]) zW U) ?_)))
    intro zYm _
    refine Lk U U (yl zA U U U .here U U U)<|WL.nil<|WX.ybH zrT .h6<|WC.block<|WC.b ?_
    obtain⟨z8p,zYn,z8q⟩:=za z8q
    refine Ld<|Le 18 (ya ybN U U)<|Le 19 (yc zEd U<|yh .h6 U)<|Le 20 (yi zg U (yk .h1) U)<|Ll 21 (y2J (l:=[.tmp 5,.tmp 20]) Tryz.call128 U<|.r2 U U) (.cons .h4 .nil) (cc hz (.cons .h4 .nil) fun w pz ho=>ybR zYn w pz zrQ zrR zrS ho) (Lg 8 (yv (cs:=[(vi 0),(vi 0)]) zW U) fun zYo _=>Lk U U (yl zA U U U .here U U U)<|WL.nil<|Lb<|WC.b ?_)
    obtain⟨zAE,zKz,z8q⟩:=za z8q
    let P:Value:=(.bool (decide (((z4s.length:Nat):Int)=0)));refine Lx (fun i=>[].contains i) [] U (Lj 0 22 U (yc z9i U (yh .h4 U)) (Lf 1 23 U (fun _=>yI Tryz.underlying229 U) (Lf 2 24 U (fun _=>ybz U U) (Lf 3 25 U (fun _=>q_m U) (Kg (fuel':=0) [(1,(vp z4g)),(12,R),(5,(vp z3B)),(6,(vp z3S)),(17,L),(7,(vp zYm)),(18,(.pointer (some ⟨z4g,5,none⟩))),(19,F),(20,L),(21,(.agg #[(vi z8p.1.fN),(vi z8p.1.fD)])),(8,(vp zYo)),(22,I),(23,(vi ((z4s.length:Nat):Int))),(24,P),(25,P),(32,(.bool zAE))] (y2d 11 [10,9,8,7,6,5,4,3,2,1,0]) ?_ (fun zKA=>?_))))))
    rotate_left
    ·rcases Bool.eq_false_or_eq_true (decide (((z4s.length:Nat):Int)=0)) with hb' | hb'
     ·have zAL:=hb';clear hb'
      have zAM:=yq zKz zAL
      replace zAM:=oJ zAM
      refine L3 (i:=25) U zAL<|Lp 4 26 U<|Lp 5 27 U<|Lp 6 28 U<|Lp 7 29 U<|Lp 8 30 U<|Lp 9 31 U<|Lf 10 32 U (fun _=>y4w U U)<|Ly (.a8) ?_ zKA
      exact .r16 U U U U U U U U U U U U U U (zO<|Eq.symm zAL)<|zO zAM
     ·have zAN:=hb';clear hb'
      have zhA:=yr zKz zAN
      obtain⟨zov,zhA⟩:=yn zhA
      obtain⟨zKx,zYp,zhA⟩:=za zhA
      replace zhA:=oJ zhA
      refine L3 (i:=25) U zAN<|Lj 4 26 U (yi zg U (yk .here) U)<|Lj 5 27 U (yc z9i U<|yh .h4 U)<|WD.know (fun w hw=>Hp.y1T .h5 hw (by intro hz';have:=zov;rw[hz'] at this;omega)) ?_
      rintro⟨z19b,rfl⟩
      refine Lf 6 28 U (fun _=>yS z2q U U zov.1 zov.2 y2L)<|Lj 7 29 U (yU (cs:=(yA<|nth z4s 0)) zg U U<|y3z .h5<|y2x (enc:=yA) (l:=z4s) (i:=0) (sz:=2) (fun _=>U) zov.1 zov.2)<|L4 8 30 U (zb Tryz.call129<|.r2 U U) (cc hz .nil fun w pz ho=>y55 zYp w pz )<|Lf 9 31 U (fun _=>yec U U)<|Lf 10 32 U (fun _=>y4x U U)<|Ly (.a8) ?_ zKA
      exact .r16 U U U U U U U U U U U U U U (zO<|Eq.symm zAN)<|zO zhA
    refine WD.done (by kernel_rfl)<|Lb<|WC.cond U (fun zAO=>?_)<|fun zAO=>?_
    ·replace z8q:=yq z8q zAO
     refine Ld<|Le 33 (yi zg U (yk .here) U) (Lg 34 (yM (cs:=([z8p.1]:List z1).flatMap yA) z2q (Lo (l:=[.tmp 33]) (.cons U .nil) [0]) (fun _=>by kernel_rfl) U (by unfold maxLen;omega)) fun zAP _=>Lk U U (yl ztz U U U .h5 U U U)<|WL.nil<|Lt ?_)
     obtain⟨rfl,rfl⟩:=yao z8q
     let M:Value:=(.slice (some ⟨zAP,0,none⟩) (([z8p.1]:List z1).length) 1);exact WX.y6O zrT .h4 (fun w' hw'=>⟨((some ⟨zAP,0,none⟩),1),U,trivial,(hw'.selAll ((.s6 .h1 .h1 .h2 .h4 .h4 .here):Sel _ [stb z3S 229 [M],row M 175 2 (([z8p.1]:List z1).flatMap yA),stb z3B 277 [(vi z8p.2.fE)],stb z4t 175 [(vi 0),(vi 0)],stb z4g 231 E,blk z4R (z60 .ready none)] _)).sub (.cons .here .nil)⟩)
    ·replace z8q:=yr z8q zAO
     refine WC.skip<|Lt ?_
     obtain⟨rfl,rfl⟩:=yao z8q
     exact WX.y6O zrT .h2<|fun w' hw'=>⟨(zkM,zkN),U,trivial,(hw'.selAll ((.s6 .h4 .h4 .h2 .h3 .h3 .here):Sel _ [stb z3S 229 [I],row I 175 2 (z4s.flatMap yA),stb z3B 277 [(vi z8p.2.fE)],stb z4t 175 [(vi 0),(vi 0)],stb z4g 231 E,blk z4R (z60 .ready none)] _)).sub (.cons .here .nil)⟩
   ·skip
    rintro _ w' ⟨⟨zow,zox⟩,rfl,_,hp⟩
    have hp1:=hw1.call ((.cons .here .nil):Sel [y1L A,dfr z7P,stb z5i 231 C] [y1L A] K) hp
    let J:Value:=(.slice zow z4Q.2.1.length zox);have hp2:Hp _ _ w' [stb z3S 229 [J],row J 175 2 (z4Q.2.1.flatMap yA),stb z3B 277 [(vi z4Q.2.2)],stb z4t 175 [(vi 0),(vi 0)],stb z4g 231 E,blk z4R (z60 (rdy (pcs [] z4Q.1)) (pcs [] z4Q.1)),dfr z7P,stb z5i 231 C]:=hp1.pickAll .here
    refine⟨_,pcs [] z4Q.1,_,U,(hp2.sub ((.s8 .h5 .here .here .here .here .here .here .here):Sel _ [blk z4R (z60 (rdy (pcs [] z4Q.1)) (pcs [] z4Q.1)),stb z3S 229 [J],row J 175 2 (z4Q.2.1.flatMap yA),stb z3B 277 [(vi z4Q.2.2)],stb z4t 175 [(vi 0),(vi 0)],stb z4g 231 E,dfr z7P,stb z5i 231 C] _)),?_⟩
    clear hp hp1 hp2 pz hw hw1
    refine wjN ?_
    letI:Rnd:=aft z7P
    refine Lt ?_
    exact WX.midR (D:=fun(g:Nat×Int×List z1×Option Addr×Nat)=>g.1) (G:=Nat×Int×List z1×Option Addr×Nat) ⟨z7P,z4Q.2.2,z4Q.2.1,zow,zox⟩ h (.r3 U U U)<|.s5 .h3 .h2 .here .here .h1
  ·rintro zos zaJ z7O zot zou h
   replace h:=(zYe zaJ z7O).symm.trans h
   letI:Rnd:=aft zos
   refine WC.b<|WC.b<|Ld<|Le 35 (ya y5w U U)<|Le 36 (yc y3A U<|yh .h1 U)<|La U<|WL.nil<|Lb<|WC.cond U (fun zAQ=>?_)<|fun zAQ=>?_
   ·replace h:=yq h zAQ
    refine WC.b<|Lx (fun i=>[3].contains i) [y85 z3B 277 [(0,(vi zaJ))]] U<|Lf 0 38 U (fun _=>yL (v:=(.agg #[(vi 0),(vi 0)])) (Lo (l:=[]) .nil []) (fun _=>by kernel_rfl))<|Lf 1 39 U (fun _=>ya y5w U U)<|L6 2 40 U (Sin.wk (.cons .h1 .nil)<|.stb (.cons U .nil) .nil) (yc y3A U<|y5Z .here<|.head _)<|WD.forced0 (i:=3) U (by kernel_rfl) U U U (Sin.wk (.cons .h1 .nil)<|.stb (.cons U .nil) .nil) (yl zA U U U .here U U U)<|Lf 4 3 U (fun _=>q_z U)<|WD.done (by kernel_rfl)<|Lb<|WC.ret<|Li ?_
    obtain rfl:=oJ h
    refine WX.y7A .h4 Tryz.results127 (.agg U zg U (yk .h1)<|.tmp U .nil)<|fun w hw=>?_
    exact⟨y1R U U,hw.sub .nil⟩
   ·replace h:=yr h zAQ
    refine WC.skip<|Lb<|WC.b ?_
    obtain⟨zoy,h⟩:=yn h
    refine Ld<|Le 41 (yc z9i U<|yh .h2 U)<|Kd (fun w hw=>Hp.y1T .h3 hw (by intro hz';have:=zoy;rw[hz'] at this;omega)) ?_
    rintro⟨z19c,rfl⟩
    refine Le 42 (yS z2q U U zoy.1 zoy.2 y2L)<|Le 43 (yU (cs:=(yA<|nth z7O 0)) zg U U<|y3z .h3<|y2x (enc:=yA) (l:=z7O) (i:=0) (sz:=2) (fun _=>U) zoy.1 zoy.2)<|Lk U U (yl zA U U U .here U U U)<|La U<|WL.nil<|Lb<|WC.ret ?_
    obtain rfl:=oJ h
    refine WX.y7A .h4 Tryz.results127 (.agg U zg U (yk .h1)<|.tmp U .nil)<|fun w hw=>?_
    exact⟨y1R U U,hw.sub .nil⟩
def y5m(zd1:List (List z2))(z30:zSv):Option (z1×Int):=
 (y4m zd1 z30 zd1 z30 ([z30.fL]:List z1)).bind fun zAR=>some (zAR.1,zAR.2)
theorem ycR{Z:Zp}{zoz:Option Addr}{zoA:Nat}{zd1:List (List z2)}{z30:zSv}{r:z1×Int}(h:y5m zd1 z30=some r)(w₀:World)(hz:PZ [] w₀ Z)(zKB:ZS Z 1 (y27 Z) zoz zoA zd1):
  Calls Tryz.prog 82 #[(.slice zoz zd1.length zoA),(.agg #[(vi z30.fRate.fN),(vi z30.fRate.fD),(vi z30.fL.fN),(vi z30.fL.fD)])] w₀ fun e w'=>e = .returned (.tuple #[(.agg #[(vi r.1.fN),(vi r.1.fD)]),(vi r.2)])∧Hp [] w₀ w' []:=by
 unfold y5m at h
 refine Lz Tryz.func82 Tryz.ntmps82 ?_
 let C:Value:=(.slice zoz zd1.length zoA);refine WC.b (Ld (Lg 2 (yH (cs:=[C]) U U) ?_))
 intro zYq _
 refine Lg 3 (yH (cs:=[(vi z30.fRate.fN),(vi z30.fRate.fD),(vi z30.fL.fN),(vi z30.fL.fD)]) U U) fun zYr _=>Lg 4 (yv (cs:=[(vi 0),(vi 0)]) zW U) fun z19d _=>La U<|WL.nil<|Lb<|WC.b<|Ld<|Le 7 (yc z8z U<|yh .h2 U)<|Le 8 (yi zij U (yk .h1) U)<|Le 9 (ya y9g U U)<|Le 10 (yU (cs:=[(vi z30.fL.fN),(vi z30.fL.fD)]) zg U U<|y3w (s:=2) .h1 U)<|Lg 11 (yM (cs:=([z30.fL]:List z1).flatMap yA) z2q (Lo (l:=[.tmp 10]) (.cons U .nil) [0]) (fun _=>by kernel_rfl) U (by unfold maxLen;omega)) ?_
 intro zKC _
 let A:Value:=(.slice (some ⟨zKC,0,none⟩) (([z30.fL]:List z1).length) 1);refine Le 12 (yL (v:=(.agg #[C,(vi z30.fRate.fN),(vi z30.fRate.fD),(vi z30.fL.fN),(vi z30.fL.fD),.nilFunc,A])) (Lo (l:=[.tmp 7,.tmp 8,.tmp 11]) (.r3 U U U) [0,1,3]) (fun _=>by kernel_rfl)) (Lg 6 (yv (cs:=[vn,(vi 0),(vi 0),(vi 0),(vi 0),.nilFunc,vn]) zE7 U) ?_)
 intro z19e _
 refine Lk U U (yl zE8 U U U .here U U U)<|WL.nil<|Lb<|WC.b<|Ld<|Le 13 (y14<|L2 (l:=[.tmp 2,.tmp 3])<|.r2 U U)<|Le 14 (ya ybN U U)<|Lk U U (y4r (ds:=[C,(vi z30.fRate.fN),(vi z30.fRate.fD),(vi z30.fL.fN),(vi z30.fL.fD),(.func (.func 128) #[] #[(vp zYq),(vp zYr)]),A]) zE9 U U U U U .here U U)<|WL.nil<|Lb<|WC.b ?_
 obtain⟨zAR,zYs,h⟩:=za h
 refine Ld<|Le 15 (yi zik U (yk .here) U)<|Ll 16 (zb Tryz.call127<|.cons U .nil) .nil (ccl hz .nil (.s3 .h4 .h3 .h1) fun w pz ho la=>yb7 zYs w pz ((zKB.mono<|Zle.left _ _).weak (fun _ _ h=>y3L (Zle.left _ _) h)) ((zKB.mono<|Zle.left _ _).weak (fun _ _ h=>y3L (Zle.left _ _) h)) ((la _ (.head _) _).stb) ((la _ (.tail _<|.head _) _).stb)<|ZA.row (la _ (.tail _<|.tail _<|.head _) _) (RR.flat (enc:=yA) (fun _=>U) _) ⟨w,pz.1⟩)<|La U<|La U<|Lk U U (yl zA U U U .h2 U U U)<|La U<|WL.nil<|Lb<|WC.ret ?_
 obtain rfl:=oJ h
 refine Lh Tryz.results82 (.agg U zg U (yk .here)<|.tmp U .nil)<|fun w hw=>?_
 exact⟨y1R U U,hw.sub .nil⟩
def y20(z1X:z1×Int)(z1Y:z1×Int)(zd2:Int→Option (S36×Int×(List (zP×z1))×(List (z8×Int)))):Nat→Int→Int→Option (S36×Int×(List (zP×z1))×(List (z8×Int)))
 | 0,_,_=>none
 | zAS+1,z4u,z7n=>if decide (z4u<((([z1X.2,z1Y.2]:List Int).length:Nat):Int)) then jp1 (fun(zd3:Int)=>y20 z1X z1Y zd2 zAS (i64 (z4u+1)) zd3) fun zrU=>chk ((0:Int)≤z4u∧z4u<((([z1X.2,z1Y.2]:List Int).length:Nat):Int)) (jp1 (fun(zaK:Int)=>if decide (z7n=0) then zrU zaK else zrU z7n) fun zrV=>if decide ((nth ([z1X.2,z1Y.2]:List Int) z4u)=6) then zrV 352 else zrV (nth ([z1X.2,z1Y.2]:List Int) z4u)) else zd2 z7n
theorem yab{n:Nat}{z1X:z1×Int}{z1Y:z1×Int}{zd2:Int→Option (S36×Int×(List (zP×z1))×(List (z8×Int)))}{z4u:Int}{z7n:Int}{r:S36×Int×(List (zP×z1))×(List (z8×Int))}(h:y20 z1X z1Y zd2 n z4u z7n=some r):∃ m,n=m+1:=by
 cases n with
 | zero=>cases h
 | succ m=>exact⟨m,rfl⟩
def y5D(zo:zp)(z7o:List (List zd))(zhB:List (zP×z1))(z7p:List (z8×Int))(zhC:Int)(z1N:z8):Option (S36×Int×(List (zP×z1))×(List (z8×Int))):=
 (y56 zo z7o zhB z7p zhC z1N).bind fun z4h=>jp2 (fun(z9Q:List (List z2)) (zfj:Int)=>chk ((0:Int)≤z1N.fQ∧z1N.fQ<((zo.fK.length:Nat):Int)) ((y2I zfj).bind fun zoB=>(y5P z9Q (⟨(⟨1,((nth zo.fK z1N.fQ).fSlow)⟩:z1),zoB⟩:zSv)).bind fun z1X=>(y5m z9Q (⟨(⟨1,((nth zo.fK z1N.fQ).fSlow)⟩:z1),zoB⟩:zSv)).bind fun z1Y=>jp1 (fun(zfk:Int)=>(y1Z z1X.1).bind fun zoC=>(y1Z z1Y.1).bind fun zAT=>some (({z1N with fDelay:=(yg (yF z7p z1N zoC) z1N 0),fT:=i64 (zAT+z4h.2.1)}:S36),zfk,z4h.2.2.2,(yF z7p z1N zoC))) fun zd2=>y20 z1X z1Y zd2 yx 0 z4h.2.2.1)) fun zrW=>if decide ((i64 (z1N.fNode-((zo.fM.length:Nat):Int)))≥0) then chk ((0:Int)≤(i64 (z1N.fNode-((zo.fM.length:Nat):Int)))∧(i64 (z1N.fNode-((zo.fM.length:Nat):Int)))<((zo.fS.length:Nat):Int)) (zrW z4h.1 ((nth zo.fS (i64 (z1N.fNode-((zo.fM.length:Nat):Int)))).fDelay)) else zrW z4h.1 0
theorem ydx{Z:Zp}{z6x:Nat}{z8W:Option Addr}{z8X:Nat}{z8Y:Option Addr}{z8Z:Nat}{z90:Option Addr}{z91:Nat}{z92:Option Addr}{z93:Nat}{z94:Option Addr}{z95:Nat}{z96:Option Addr}{z97:Nat}{z98:Option Addr}{z99:Nat}{z9a:Option Addr}{z9b:Nat}{z9c:Option Addr}{z9d:Nat}{z4i:Nat}{z4j:Nat}{zo:zp}{z7o:List (List zd)}{zhB:List (zP×z1)}{z7p:List (z8×Int)}{zhC:Int}{z1N:z8}{r:S36×Int×(List (zP×z1))×(List (z8×Int))}(h:y5D zo z7o zhB z7p zhC z1N=some r)(w₀:World)(hz:PZ (fps [stb z6x 119 [(.slice z8W zo.fM.length z8X),(.slice z8Y zo.fC0.length z8Z),(.slice z90 zo.fS.length z91),(.slice z92 zo.fK.length z93),(.slice z94 zo.fVLs.length z95),(.slice z96 zo.fH.length z97),(.slice z98 zo.fU.length z99),(.slice z9a zo.fV0.length z9b),(.slice z9c z7o.length z9d),(.map (some z4i)),(.map (some z4j)),(vi zhC)],yp z4i (fun x=>Value.agg (y2N x).toArray) (fun x=>Value.agg (yA x).toArray) zhB,yp z4j (fun x=>Value.agg (yD x).toArray) (Value.int .i64) z7p]) w₀ Z)(zYt:ZS Z 4 (y3y Z) z8W z8X zo.fM)(zYu:ZS Z 4 (y4k Z) z8Y z8Z zo.fC0)(zKD:ZS Z 4 (fun r x=>r=e64 x) z90 z91 zo.fS)(zKE:ZS Z 4 (fun r x=>r=e62 x) z92 z93 zo.fK)(zYv:ZS Z 7 (p69 Z) z94 z95 zo.fVLs)(zYw:ZS Z 5 (fun r x=>r=y4t x) z96 z97 zo.fH)(zYx:ZS Z 3 (y4l Z) z98 z99 zo.fU)(zYy:ZS Z 4 (fun r x=>r=y4u x) z9a z9b zo.fV0)(zYz:ZS Z 1 (p58 Z) z9c z9d z7o)(hown:Hp (fps [stb z6x 119 [(.slice z8W zo.fM.length z8X),(.slice z8Y zo.fC0.length z8Z),(.slice z90 zo.fS.length z91),(.slice z92 zo.fK.length z93),(.slice z94 zo.fVLs.length z95),(.slice z96 zo.fH.length z97),(.slice z98 zo.fU.length z99),(.slice z9a zo.fV0.length z9b),(.slice z9c z7o.length z9d),(.map (some z4i)),(.map (some z4j)),(vi zhC)],yp z4i (fun x=>Value.agg (y2N x).toArray) (fun x=>Value.agg (yA x).toArray) zhB,yp z4j (fun x=>Value.agg (yD x).toArray) (Value.int .i64) z7p]) w₀ w₀ [stb z6x 119 [(.slice z8W zo.fM.length z8X),(.slice z8Y zo.fC0.length z8Z),(.slice z90 zo.fS.length z91),(.slice z92 zo.fK.length z93),(.slice z94 zo.fVLs.length z95),(.slice z96 zo.fH.length z97),(.slice z98 zo.fU.length z99),(.slice z9a zo.fV0.length z9b),(.slice z9c z7o.length z9d),(.map (some z4i)),(.map (some z4j)),(vi zhC)],yp z4i (fun x=>Value.agg (y2N x).toArray) (fun x=>Value.agg (yA x).toArray) zhB,yp z4j (fun x=>Value.agg (yD x).toArray) (Value.int .i64) z7p]):
  Calls Tryz.prog 43 #[(vp z6x),(.agg #[(vi z1N.fNode),(vi z1N.fQ)])] w₀ fun e w'=>e = .returned (.agg #[(vi r.1.fNode),(vi r.1.fQ),(vi r.1.fDelay),(vi r.1.fT)])∧Hp (fps [stb z6x 119 [(.slice z8W zo.fM.length z8X),(.slice z8Y zo.fC0.length z8Z),(.slice z90 zo.fS.length z91),(.slice z92 zo.fK.length z93),(.slice z94 zo.fVLs.length z95),(.slice z96 zo.fH.length z97),(.slice z98 zo.fU.length z99),(.slice z9a zo.fV0.length z9b),(.slice z9c z7o.length z9d),(.map (some z4i)),(.map (some z4j)),(vi zhC)],yp z4i (fun x=>Value.agg (y2N x).toArray) (fun x=>Value.agg (yA x).toArray) zhB,yp z4j (fun x=>Value.agg (yD x).toArray) (Value.int .i64) z7p]) w₀ w' [stb z6x 119 [(.slice z8W zo.fM.length z8X),(.slice z8Y zo.fC0.length z8Z),(.slice z90 zo.fS.length z91),(.slice z92 zo.fK.length z93),(.slice z94 zo.fVLs.length z95),(.slice z96 zo.fH.length z97),(.slice z98 zo.fU.length z99),(.slice z9a zo.fV0.length z9b),(.slice z9c z7o.length z9d),(.map (some z4i)),(.map (some z4j)),(vi r.2.1)],yp z4i (fun x=>Value.agg (y2N x).toArray) (fun x=>Value.agg (yA x).toArray) r.2.2.1,yp z4j (fun x=>Value.agg (yD x).toArray) (Value.int .i64) r.2.2.2]:=by
 unfold y5D at h
 refine Kh Tryz.func43 Tryz.ntmps43 hown ?_
 let L:List Value:=[(vi z1N.fNode),(vi z1N.fQ)];refine WC.pool (WC.b (Ld (Lg 3 (yH (cs:=L) U U) ?_)))
 intro zaL _
 let C:List Value:=[(vi 0),(vi 0),(vi 0),(vi 0)];refine Lg 4 (yv (cs:=C) y7D U) ?_
 intro zaM _
 refine WL.nil<|Lb<|WC.b ?_
 obtain⟨z4h,zYA,h⟩:=za h
 refine Ld<|La U<|Le 18 (yi z5v U (yk .h1) U)<|WL.y8z (dd:=19) U U U (zb Tryz.call79<|.r2 U U) (.s3 .h3 .h3 .h3) (ccz hz (.s3 .h3 .h3 .h3) .h2 fun w pz ho=>ycp zYA w pz ((zYt.mono<|Zle.left _ _).weak (fun _ _ h=>y1a (Zle.left _ _) h)) ((zYu.mono<|Zle.left _ _).weak (fun _ _ h=>y1i (Zle.left _ _) h)) (zKD.mono<|Zle.left _ _) (zKE.mono<|Zle.left _ _) ((zYv.mono<|Zle.left _ _).weak (fun _ _ h=>y15 (Zle.left _ _) h)) (zYw.mono<|Zle.left _ _) ((zYx.mono<|Zle.left _ _).weak (fun _ _ h=>y1j (Zle.left _ _) h)) (zYy.mono<|Zle.left _ _) ((zYz.mono<|Zle.left _ _).weak (fun _ _ h=>y1t (Zle.left _ _) h)) ho) ?_
 rintro zfl zKF zKG zKH zKI
 refine WL.merge .here .h6<|La U<|La U<|La U<|La U<|La U<|WL.nil<|Lb<|WC.b<|Ld<|La U<|WL.nil<|Lb ?_
 obtain⟨zrW,zYB,h⟩:=y59 h
 let D:Value:=(.slice z94 zo.fVLs.length z95);let E:Value:=(.slice z8Y zo.fC0.length z8Z);let F:Value:=(.slice z9a zo.fV0.length z9b);let G:Value:=(.slice z8W zo.fM.length z8X);let H:Value:=(.slice z90 zo.fS.length z91);let I:Value:=(.slice z92 zo.fK.length z93);let J:Value:=(.slice z96 zo.fH.length z97);let K:Value:=(.slice z98 zo.fU.length z99);let M:Value:=(.slice z9c z7o.length z9d);refine Kc (fun(z9Q:List (List z2)) (zfj:Int) (zoD:List Value)=>(zrW z9Q zfj=some r)∧(RR 1 (y27 (Z++([]++zfl))) zoD z9Q)) (fun z9Q zfj zoD=>[(0,(vp z6x)),(3,(vp zaL)),(4,(vp zaM)),(5,(.slice zKF z9Q.length zKG)),(6,(vi z4h.2.1)),(7,(vi zfj))]) (fun z9Q zfj zoD=>[fz ([]++zfl),row (.slice zKF z9Q.length zKG) 227 1 zoD,stb z6x 119 [G,E,H,I,D,J,K,F,M,(.map (some z4i)),(.map (some z4j)),(vi z4h.2.2.1)],stb zaL 121 L,stb zaM 37 C,yp z4i (fun x=>Value.agg (y2N x).toArray) (fun x=>Value.agg (yA x).toArray) z4h.2.2.2,yp z4j (fun x=>Value.agg (yD x).toArray) (Value.int .i64) z7p]) ?_ ?_
 ·skip
  refine WC.b<|Lx (fun i=>[].contains i) [] U<|Lf 0 22 U (fun _=>ya y9d U U)<|Lj 1 23 U (yc ys U<|yh .h6 U)<|Lf 2 24 U (fun _=>q_m U)<|Lf 3 25 U (fun _=>y1e U)<|Lf 4 26 U (fun _=>ya y6l U U)<|Lf 5 27 U (fun _=>ya y7a U U)<|Lj 6 28 U (yc y7b U<|yh .h2 U)<|Lf 7 29 U (fun _=>yI Tryz.underlying22 U)<|Lf 8 30 U (fun _=>y8H U U U)<|Lf 9 8 U (fun _=>q_z U)<|WD.done (by kernel_rfl)<|Lb<|WC.b<|Ld<|La U<|La U<|WL.nil<|Lb<|WC.cond U (fun zAU=>?_)<|fun zAU=>?_
  ·replace h:=yq h zAU
   obtain⟨zYC,h⟩:=yn h
   refine Ld<|La U<|Le 34 (y1e U)<|Le 35 (ya y6l U U)<|Le 36 (ya yag U U)<|Le 37 (yc yah U<|yh .h2 U)<|La U<|L0 (dd:=39) U U (Z:=(Z++([]++zfl))) (Pr:=(fun r x=>r=e64 x)) ycL U U (zKD.mono<|(Zle.left _ _).trans ((Zle.left _ _).trans (Zle.yT _ _ _))) zYC ?_
   rintro z19f z19g zYD z19h rfl
   refine Le 40 (ya yde U U)<|Le 41 (yc ys U<|y1c (hz.pv2 .here) zYD U)<|La U<|WL.nil ?_
   exact Ln ⟨z4h.1,((nth zo.fS<|i64 (z1N.fNode-((zo.fM.length:Nat):Int))).fDelay),zKH⟩ ⟨h,(zKI.weak<|fun _ _ h=>y3L (Zle.yT _ _ _) h)⟩ (.r6 U U U U U U)<|.s7 .here .here .here .h3 .h2 .here .here
  ·replace h:=yr h zAU
   refine WC.skip ?_
   exact Ln ⟨z4h.1,0,zKH⟩ ⟨h,(zKI.weak<|fun _ _ h=>y3L (Zle.yT _ _ _) h)⟩ (.r6 U U U U U U)<|.s7 .here .here .here .h3 .h2 .here .here
 ·rintro z9Q zfj zoD ⟨h,zKJ⟩
  replace h:=(zYB z9Q zfj).symm.trans h
  refine WC.b ?_
  obtain⟨zYE,h⟩:=yn h
  obtain⟨zoB,zYF,h⟩:=za h
  refine Lx (fun i=>[15].contains i) [] U<|Lf 0 42 U (fun _=>q_m U)<|Lf 1 43 U (fun _=>y1e U)<|Lf 2 44 U (fun _=>ya y6l U U)<|Lf 3 45 U (fun _=>ya y7R U U)<|Lj 4 46 U (yc y7S U<|yh .h2 U)<|Lf 5 47 U (fun _=>ya yar U U)<|Lj 6 48 U (yc ys U<|yh .h3 U)<|L7 (j:=7) (dd:=49) (by kernel_rfl) U z2j z2k U U (Z:=(Z++([]++zfl))) (Pr:=(fun r x=>r=e62 x)) yaq U U (zKE.mono<|(Zle.left _ _).trans ((Zle.left _ _).trans (Zle.yT _ _ _))) zYE ?_
  rintro z19i z19j zYG z19k rfl
  let Q:Value:=(vi ((nth zo.fK z1N.fQ).fSlow));refine Lf 8 50 U (fun _=>ya y9c U U) (Lj 9 51 U (yc ys U (y1c (hz.pv2 .here) zYG U)) (Lf 10 52 U (fun _=>yL (v:=(.agg #[(vi 1),Q])) (Lo (l:=[.const (vi 1),.tmp 51]) (.r2 U U) [0,1]) (fun _=>by kernel_rfl)) (Lf 11 53 U (fun _=>q_m U) (L4 12 54 U (zb Tryz.call80 (.cons U .nil)) (ccz hz .nil .here fun w pz ho=>y5y zYF w pz ) (Lf 13 55 U (fun _=>yL (v:=(.agg #[(vi 1),Q,(vi zoB.fN),(vi zoB.fD)])) (Lo (l:=[.tmp 52,.tmp 54]) (.r2 U U) [0,1]) (fun _=>by kernel_rfl)) (WD.new (i:=14) (dd:=9) U (by kernel_rfl) U U U (yv (cs:=C) zMS U) (fun h'=>absurd h' (by decide)) ?_))))))
  intro z19l _
  refine Kb (i:=15) U (by kernel_rfl) U U U (by kernel_rfl) (yl zMT U U U .here U U U)<|WD.done (by kernel_rfl)<|Lb<|WC.b ?_
  obtain⟨z1X,zYH,h⟩:=za h
  refine Ld<|La U<|Le 58 (yi zij U (yk .here) U)<|Ll 59 (zb Tryz.call81<|.r2 U U) .nil (yap hz .nil .h1 (.cons .h2 .nil) fun w pz ho la=>ydY zYH w pz<|ZA.row (la _ (.head _) _) (zKJ.weak<|fun _ _ h=>y3L (Zle.left _ _) h) ⟨w,pz.1⟩)<|La U<|La U<|La U (Lg 10 (yv (cs:=[(vi 0),(vi 0)]) zW U) fun zfm _=>Lk U U (yl zA U U U .here U U U)<|La U<|WL.nil<|Lb<|WC.b ?_)
  obtain⟨z1Y,zYI,h⟩:=za h
  refine Ld<|La U<|Le 64 (yi zij U (yk .h1) U)<|Ll 65 (zb Tryz.call82<|.r2 U U) .nil (yap hz .nil .h2 (.cons .h3 .nil) fun w pz ho la=>ycR zYI w pz<|ZA.row (la _ (.head _) _) (zKJ.weak<|fun _ _ h=>y3L (Zle.left _ _) h) ⟨w,pz.1⟩)<|La U<|La U<|La U (Lg 12 (yv (cs:=[(vi 0),(vi 0)]) zW U) fun zfn _=>Lk U U (yl zA U U U .here U U U)<|La U<|WL.nil<|Lb ?_)
  obtain⟨zd2,zYJ,h⟩:=y12 h
  let O:List Value:=[(vi z1X.1.fN),(vi z1X.1.fD)];let P:List Value:=[(vi z1Y.1.fN),(vi z1Y.1.fD)];refine Kf (fun(zfk:Int)=>(zd2 zfk=some r)) (fun zfk=>[(0,(vp z6x)),(3,(vp zaL)),(4,(vp zaM)),(6,(vi z4h.2.1)),(10,(vp zfm)),(12,(vp zfn))]) (fun zfk=>[fz ([]++zfl),stb z6x 119 [G,E,H,I,D,J,K,F,M,(.map (some z4i)),(.map (some z4j)),(vi zfk)],stb zaL 121 L,stb zaM 37 C,stb zfm 175 O,stb zfn 175 P,yp z4i (fun x=>Value.agg (y2N x).toArray) (fun x=>Value.agg (yA x).toArray) z4h.2.2.2,yp z4j (fun x=>Value.agg (yD x).toArray) (Value.int .i64) z7p]) ?_ ?_
  ·skip
   refine WC.b<|Ld<|La U<|La U<|Lg 70 (yM (cs:=([z1X.2,z1Y.2]:List Int).flatMap e41) zEe (Lo (l:=[.tmp 68,.tmp 69]) (.r2 U U) [0,1]) (fun _=>by kernel_rfl) U (by unfold maxLen;omega)) ?_
   intro zkO _
   let A:Value:=(.slice (some ⟨zkO,0,none⟩) (([z1X.2,z1Y.2]:List Int).length) 2);let N:Value:=(vi ((([z1X.2,z1Y.2]:List Int).length:Nat):Int));refine Le 71 (yI Tryz.underlying181 U) (La U (WL.nil (Lb (WC.block (WC.yam (fun(zkP:Nat) (z4u:Int) (z7n:Int)=>(y20 z1X z1Y zd2 zkP z4u z7n=some r)) (fun zkP z4u z7n=>[(0,(vp z6x)),(3,(vp zaL)),(4,(vp zaM)),(6,(vi z4h.2.1)),(10,(vp zfm)),(12,(vp zfn)),(70,A),(71,N),(72,(vi z4u))]) (fun zkP z4u z7n=>[fz ([]++zfl),row A 41 1 (([z1X.2,z1Y.2]:List Int).flatMap e41),stb z6x 119 [G,E,H,I,D,J,K,F,M,(.map (some z4i)),(.map (some z4j)),(vi z7n)],stb zaL 121 L,stb zaM 37 C,stb zfm 175 O,stb zfn 175 P,yp z4i (fun x=>Value.agg (y2N x).toArray) (fun x=>Value.agg (yA x).toArray) z4h.2.2.2,yp z4j (fun x=>Value.agg (yD x).toArray) (Value.int .i64) z7p]) (fun zkP z4u z7n=>zkP) ⟨yx,0,z4h.2.2.1⟩ h (.r9 U U U U U U U U U) (.s9 .h4 .here .h4 .h4 .h4 .h1 .here .h2 .h2) ?_)))))
   rintro zkP z4u z7n h
   obtain⟨zAS,rfl⟩:=yab h
   rw[y20] at h
   refine WC.b<|Ld<|La U<|WL.nil<|Lb<|WC.b<|WC.cond U (fun zAV=>?_)<|fun zAV=>?_
   ·replace h:=yq h zAV
    refine WC.skip<|Lb ?_
    obtain⟨zrU,zYK,h⟩:=y12 h
    refine Kf (fun(zd3:Int)=>(zrU zd3=some r)) (fun zd3=>[(0,(vp z6x)),(3,(vp zaL)),(4,(vp zaM)),(6,(vi z4h.2.1)),(10,(vp zfm)),(12,(vp zfn)),(70,A),(71,N),(72,(vi z4u))]) (fun zd3=>[fz ([]++zfl),row A 41 1 (([z1X.2,z1Y.2]:List Int).flatMap e41),stb z6x 119 [G,E,H,I,D,J,K,F,M,(.map<|some z4i),(.map<|some z4j),(vi zd3)],stb zaL 121 L,stb zaM 37 C,stb zfm 175 O,stb zfn 175 P,yp z4i (fun x=>Value.agg (y2N x).toArray) (fun x=>Value.agg (yA x).toArray) z4h.2.2.2,yp z4j (fun x=>Value.agg (yD x).toArray) (Value.int .i64) z7p]) ?_ ?_
    ·skip
     refine WC.block<|WC.b ?_
     obtain⟨zrX,h⟩:=yn h
     refine Ld<|Le 74 (yS zEe U U zrX.1 zrX.2 y2L)<|Le 75 (yc y3A U<|y8e .h1<|(y2x (enc:=e41) (l:=([z1X.2,z1Y.2]:List Int)) (i:=z4u) (sz:=1) (fun _=>U) zrX.1 zrX.2) 0 _ U)<|La U<|WL.nil<|Lb ?_
     obtain⟨zrV,zYL,h⟩:=y12 h
     refine Kf (fun(zaK:Int)=>(zrV zaK=some r)) (fun zaK=>[(0,(vp z6x)),(3,(vp zaL)),(4,(vp zaM)),(6,(vi z4h.2.1)),(10,(vp zfm)),(12,(vp zfn)),(15,(vi zaK)),(70,A),(71,N),(72,(vi z4u))]) (fun zaK=>[fz ([]++zfl),row A 41 1 (([z1X.2,z1Y.2]:List Int).flatMap e41),stb z6x 119 [G,E,H,I,D,J,K,F,M,(.map<|some z4i),(.map<|some z4j),(vi z7n)],stb zaL 121 L,stb zaM 37 C,stb zfm 175 O,stb zfn 175 P,yp z4i (fun x=>Value.agg (y2N x).toArray) (fun x=>Value.agg (yA x).toArray) z4h.2.2.2,yp z4j (fun x=>Value.agg (yD x).toArray) (Value.int .i64) z7p]) ?_ ?_
     ·skip
      refine WC.b<|Ld<|La U<|La U<|WL.nil<|Lb<|WC.cond U (fun zAW=>?_)<|fun zAW=>?_
      ·replace h:=yq h zAW
       refine Ld<|La U<|WL.nil ?_
       exact Ln 352 h (.r10 U U U U U U U U U U)<|.a9
      ·replace h:=yr h zAW
       refine WC.skip ?_
       exact Ln (nth ([z1X.2,z1Y.2]:List Int) z4u) h (.r10 U U U U U U U U U U)<|.a9
     ·rintro zaK h
      replace h:=(zYL zaK).symm.trans h
      refine WC.b<|Ld<|La U<|Le 79 (y1e U)<|Le 80 (ya y9e U U)<|Le 81 (yc y3A U<|yh .h2 U)<|La U<|WL.nil<|Lb<|WC.cond U (fun zAX=>?_)<|fun zAX=>?_
      ·replace h:=yq h zAX
       refine Ld<|La U<|La U<|Le 85 (y1e U)<|Le 86 (ya y9e U U)<|Lk U U (y4r (ds:=[G,E,H,I,D,J,K,F,M,(.map<|some z4i),(.map<|some z4j),(vi zaK)]) ybh U U U U U .h2 U U)<|WL.nil<|Lt ?_
       exact Ln zaK h (.r9 U U U U U U U U U)<|.s9 .h1 .h1 .here .here .here .here .here .here .here
      ·replace h:=yr h zAX
       refine WC.skip<|Lt ?_
       exact Ln z7n h (.r9 U U U U U U U U U)<|.a9
    ·rintro zd3 h
     replace h:=(zYK zd3).symm.trans h
     refine Ld<|La U<|La U<|WL.nil ?_
     exact WX.round ⟨zAS,(i64 (z4u+1)),zd3⟩ h (Nat.lt_succ_self _) (.r9 U U U U U U U U U)<|.a9
   ·replace h:=yr h zAV
    refine WC.exit<|Lm<|Lm<|Lu ?_
    exact Ln z7n h (.r6 U U U U U U)<|.s8 .here .h1 .h1 .h1 .h1 .h1 .h1 .h1
  ·rintro zfk h
   replace h:=(zYJ zfk).symm.trans h
   refine WC.b ?_
   obtain⟨zoC,zYM,h⟩:=za h
   refine Lx (fun i=>[7].contains i) [] U<|Lf 0 88 U (fun _=>q_m U)<|Lf 1 89 U (fun _=>y1e U)<|Lf 2 90 U (fun _=>ya ydW U U)<|Lj 3 91 U (yc zm8 U<|yh .h1 U)<|Lj 4 92 U (yi z5v U (yk .h2) U)<|Lj 5 93 U (yi zg U (yk .h4) U)<|L4 6 94 U (zb Tryz.call83<|.cons U .nil) (ccz hz .nil .here fun w pz ho=>y6o zYM w pz )<|Kb (i:=7) U (by kernel_rfl) U U U (by kernel_rfl) (y3U (k:=z1N) (v:=zoC) zdH Tryz.underlying117 U U U U .h7)<|WD.done (by kernel_rfl)<|Lb<|WC.b ?_
   obtain⟨zAT,zYN,h⟩:=za h
   refine Lx (fun i=>[15].contains i) [] U<|Lf 0 95 U (fun _=>ya y9d U U)<|Lj 1 96 U (yc ys U<|yh .h3 U)<|Lf 2 97 U (fun _=>ya yar U U)<|Lj 3 98 U (yc ys U<|yh .h3 U)<|Lf 4 99 U (fun _=>q_m U)<|Lf 5 100 U (fun _=>y1e U)<|Lf 6 101 U (fun _=>ya ydW U U)<|Lj 7 102 U (yc zm8 U<|yh .h2 U)<|Lj 8 103 U (yi z5v U (yk .h3) U)<|Lj 9 104 U (y2S (k:=z1N) (dflt:=(0:Int)) zdH Tryz.underlying117 y2H U U U .here)<|Lj 10 105 U (yi zg U (yk .h6) U)<|L4 11 106 U (zb Tryz.call83<|.cons U .nil) (ccz hz .nil .h1 fun w pz ho=>y6o zYN w pz )<|Lf 12 107 U (fun _=>q_m U)<|Lf 13 108 U (fun _=>y9s U U U)<|Lf 14 109 U (fun _=>yL (v:=(.agg #[(vi z1N.fNode),(vi z1N.fQ),(vi<|yg (yF z7p z1N zoC) z1N 0),(vi<|i64 (zAT+z4h.2.1))])) (Lo (l:=[.tmp 96,.tmp 98,.tmp 104,.tmp 108]) (.r4 U U U U) [0,1,2,3]) (fun _=>by kernel_rfl))<|Kb (i:=15) U (by kernel_rfl) U U U (by kernel_rfl) (yl y7T U U U .h4 U U U)<|WD.done (by kernel_rfl)<|Lb<|WC.ret ?_
   obtain rfl:=oJ h
   refine Lh Tryz.results43 (.agg U y6y U (yk .here) .nil)<|fun w hw=>?_
   exact⟨yC U,hw.sub (.s3 .h3 .h6 .h1)⟩
def y2b(z7Q:S36)(z7R:S36):Option Int:=
 (y1w (⟨z7Q.fNode,z7Q.fQ⟩:z8) (⟨z7R.fNode,z7R.fQ⟩:z8)).bind fun zKK=>some zKK
theorem ydy{Z:Zp}{z7Q:S36}{z7R:S36}{r:Int}(h:y2b z7Q z7R=some r)(w₀:World)(hz:PZ [] w₀ Z):
  Calls Tryz.prog 44 #[(.agg #[(vi z7Q.fNode),(vi z7Q.fQ),(vi z7Q.fDelay),(vi z7Q.fT)]),(.agg #[(vi z7R.fNode),(vi z7R.fQ),(vi z7R.fDelay),(vi z7R.fT)])] w₀ fun e w'=>e = .returned (vi r)∧Hp [] w₀ w' []:=by
 unfold y2b at h
 refine Lz Tryz.func44 Tryz.ntmps44 ?_
 refine WC.b<|Ld (Lg 2 (yH (cs:=[(vi z7Q.fNode),(vi z7Q.fQ),(vi z7Q.fDelay),(vi z7Q.fT)]) U U) fun z19m _=>Lg 3 (yH (cs:=[(vi z7R.fNode),(vi z7R.fQ),(vi z7R.fDelay),(vi z7R.fT)]) U U) fun z19n _=>La U<|WL.nil<|Lb<|WC.b ?_)
 obtain⟨zKK,zYO,h⟩:=za h
 refine Ld<|Le 5 (ya y6z U U)<|Le 6 (yc ys U<|yh .h1 U)<|Le 7 (ya y7U U U)<|Le 8 (yc ys U<|yh .h1 U)<|Le 9 (yL (v:=(.agg #[(vi z7Q.fNode),(vi z7Q.fQ)])) (Lo (l:=[.tmp 6,.tmp 8]) (.r2 U U) [0,1]) (fun _=>by kernel_rfl))<|Le 10 (ya y6z U U)<|Le 11 (yc ys U<|yh .here U)<|Le 12 (ya y7U U U)<|Le 13 (yc ys U<|yh .here U)<|Le 14 (yL (v:=(.agg #[(vi z7R.fNode),(vi z7R.fQ)])) (Lo (l:=[.tmp 11,.tmp 13]) (.r2 U U) [0,1]) (fun _=>by kernel_rfl))<|Ll 15 (zb Tryz.call45<|.r2 U U) .nil (cc hz .nil fun w pz ho=>y8O zYO w pz )<|La U<|WL.nil<|Lb<|WC.ret ?_
 obtain rfl:=oJ h
 refine Lh Tryz.results44 (.tmp U .nil)<|fun w hw=>?_
 exact⟨yC U,hw.sub .nil⟩
theorem srtA_56:∀ w,(isAgg (Tryz.y3Z.t 24)).run Tryz.prog w = .ok true w:=fun _=>by kernel_rfl
theorem srtZ_56:∀ w,(Go.sizeOf (Tryz.y3Z.t 24)).run Tryz.prog w = .ok 4 w:=fun _=>by kernel_rfl
def y2B(z61:List S36)(zoE:Int)(zoF:Int)(zkQ:Int)(zhD:S36→S36→Option Int):Option (List S36):=chk ((zoE=0∧zoF=((z61.length:Nat):Int))∧(0≤zkQ∧zkQ<4611686018427387904∧z61.length<4611686018427387904)) (chk (y8o zhD (yV zhD z61)=true) (some (yV zhD z61)))
theorem y7r(Z:Zp)(zhE:Option Addr)(zhF:Nat)(zoG:FuncId)(zAY:List Value)(z61:List S36)(zoE:Int)(zoF:Int)(zkQ:Int)(zhD:S36→S36→Option Int)(r:List S36)(w₀:World)(hz:PZ (fps [row (.slice zhE z61.length zhF) 37 4 (z61.flatMap e37)]) w₀ Z)(zYP:∀ args w,(callFunc zoG args).run Tryz.prog w = .ok (.enter zoG args) w)(zYQ:∀ w:World,PZ [] w Z→∀(x0:S36) (x1:S36) (r:Int),zhD x0 x1=some r→Calls Tryz.prog zoG (([(.agg #[(vi x0.fNode),(vi x0.fQ),(vi x0.fDelay),(vi x0.fT)]),(.agg #[(vi x1.fNode),(vi x1.fQ),(vi x1.fDelay),(vi x1.fT)])]:List Value)++zAY).toArray w fun e w'=>e = .returned (vi r)∧Hp [] w w' [])(h:y2B z61 zoE zoF zkQ zhD=some r)(hown:Hp (fps [row (.slice zhE z61.length zhF) 37 4 (z61.flatMap e37)]) w₀ w₀ [row (.slice zhE z61.length zhF) 37 4 (z61.flatMap e37)]):
  Calls Tryz.prog 56 #[(.slice zhE z61.length zhF),(vi zoE),(vi zoF),(vi zkQ),(.func (.func zoG) #[] (zAY).toArray)] w₀ fun e w'=>e = .returned (.tuple #[])∧(r.length=z61.length)∧Hp (fps [row (.slice zhE z61.length zhF) 37 4 (z61.flatMap e37)]) w₀ w' [row (.slice zhE r.length zhF) 37 4 (r.flatMap e37)]:=by
 obtain⟨h0,h⟩:=yn h
 obtain⟨h1,h⟩:=yn h
 have hr:=(oJ h).symm
 exact y9C (P:=Tryz.prog) (f:=56) (e:=37) (k:=4) (enc:=e37) (fun _=>U) (by decide) yem (fun β _ enc cf g cb hO blk off cap d0 w0 eg hC R=>Tryz.y9D 4 srtA_56 srtZ_56 enc cf g cb hO blk off cap d0 w0 eg hC R) (Tryz.y9b (α:=Unit)) hz zYP zYQ h0 h1 hr hown
def yQ(z5j:List S36)(zhG:S36→S36→Option Int):Option (List S36):=
 (y4p (u64 ((z5j.length:Nat):Int))).bind fun zrY=>(y2B z5j 0 ((z5j.length:Nat):Int) zrY zhG).bind fun zrZ=>some zrZ
theorem y4e(Z:Zp)(zfo:Option Addr)(zfp:Nat)(zhH:FuncId)(zoH:List Value)(z5j:List S36)(zhG:S36→S36→Option Int)(r:List S36)(h:yQ z5j zhG=some r)(w₀:World)(hz:PZ (fps [row (.slice zfo z5j.length zfp) 37 4 (z5j.flatMap e37)]) w₀ Z)(zYR:∀ args w,(callFunc zhH args).run Tryz.prog w = .ok (.enter zhH args) w)(zYS:∀ w:World,PZ [] w Z→∀(x0:S36) (x1:S36) (r:Int),zhG x0 x1=some r→Calls Tryz.prog zhH (([(.agg #[(vi x0.fNode),(vi x0.fQ),(vi x0.fDelay),(vi x0.fT)]),(.agg #[(vi x1.fNode),(vi x1.fQ),(vi x1.fDelay),(vi x1.fT)])]:List Value)++zoH).toArray w fun e w'=>e = .returned (vi r)∧Hp [] w w' [])(hown:Hp (fps [row (.slice zfo z5j.length zfp) 37 4 (z5j.flatMap e37)]) w₀ w₀ [row (.slice zfo z5j.length zfp) 37 4 (z5j.flatMap e37)]):
  Calls Tryz.prog 26 #[(.slice zfo z5j.length zfp),(.func (.func zhH) #[] (zoH).toArray)] w₀ fun e w'=>e = .returned (.tuple #[])∧(r.length=z5j.length)∧Hp (fps [row (.slice zfo z5j.length zfp) 37 4 (z5j.flatMap e37)]) w₀ w' [row (.slice zfo r.length zfp) 37 4 (r.flatMap e37)]:=by
 unfold yQ at h
 refine Kh Tryz.func26 Tryz.ntmps26 hown ?_
 refine WC.b<|Ld<|La U<|Le 6 (yI Tryz.underlying33 U)<|La U<|WL.nil<|Lb ?_
 obtain⟨zrY,zYT,h⟩:=za h
 obtain⟨zrZ,zYU,h⟩:=za h
 refine Ld<|La U<|La U<|La U<|Le 10 (y7t Tryz.underlying3 Tryz.underlying147 U U)<|Ll 11 (zb Tryz.call57<|.cons U .nil) .nil (cc hz .nil fun w pz ho=>y8P (Z:=_)  (z8E:=(u64 ((z5j.length:Nat):Int))) (r:=zrY) w pz  zYT)<|La U<|WL.y5j (dd:=13) U U U (zb Tryz.call56<|.r5 U U U U U) (.cons .here .nil) (cc hz (.cons .here .nil) fun w pz ho=>y7r (Z:=_) (zhE:=zfo) (zhF:=zfp) (zoG:=zhH) (zAY:=zoH) (z61:=z5j) (zoE:=0) (zoF:=((z5j.length:Nat):Int)) (zkQ:=zrY) (zhD:=zhG) (r:=zrZ) w pz zYR zYS zYU ho) ?_
 rintro  zKL
 refine Ki (i:=0) U (u:=(.slice zfo zrZ.length zfp)) (y8n zKL.symm)<|WL.nil ?_
 obtain rfl:=oJ h
 refine WX.y5f Tryz.results26 .nil<|fun w hw=>?_
 exact⟨y7v,(zKL.trans U),hw.sub (.cons .here .nil)⟩
def y4f(z26:List zd)(zd4:Option Bool):Nat→Int→Option Bool
 | 0,_=>none
 | zAZ+1,z2h=>if decide (z2h<((z26.length:Nat):Int)) then chk ((0:Int)≤z2h∧z2h<((z26.length:Nat):Int)) (chk ((0:Int)≤0∧(0:Int)≤z2h∧z2h≤((z26.length:Nat):Int)) ((y5N (z26.take (z2h:Int).toNat) ((nth z26 z2h).fNode)).bind fun z4k=>chk ((!z4k.2)=true→((0:Int)≤0∧0<((z26.length:Nat):Int))) (if (!z4k.2)&&(decide (((nth z26 z2h).fNode)≠((nth z26 0).fNode))) then some false else y4f z26 zd4 zAZ (i64 (z2h+1))))) else zd4
theorem ybS{n:Nat}{z26:List zd}{zd4:Option Bool}{z2h:Int}{r:Bool}(h:y4f z26 zd4 n z2h=some r):∃ m,n=m+1:=by
 cases n with
 | zero=>cases h
 | succ m=>exact⟨m,rfl⟩
def y7H(z26:List zd):Option Bool:=
 jp0 (some true) fun zd4=>y4f z26 zd4 yx 0
theorem ygf{Z:Zp}{zhI:Option Addr}{zhJ:Nat}{z26:List zd}{r:Bool}(h:y7H z26=some r)(w₀:World)(hz:PZ [] w₀ Z)(zB0:ZS Z 3 (fun r x=>r=e60 x) zhI zhJ z26):
  Calls Tryz.prog 59 #[(.slice zhI z26.length zhJ)] w₀ fun e w'=>e = .returned (.bool r)∧Hp [] w₀ w' []:=by
 unfold y7H at h
 refine L5 Tryz.func59 Tryz.ntmps59 ?_
 refine WC.b<|Ld<|La U<|WL.nil<|Lb ?_
 obtain⟨zd4,zYV,h⟩:=y1G h
 refine L8 ((zd4=some r)) ([]) ([]) ?_ ?_
 ·skip
  let C:Value:=(.slice zhI z26.length zhJ);let D:Value:=(vi ((z26.length:Nat):Int));refine WC.b (Ld (La U (Le 8 (yI Tryz.underlying58 U) (La U (WL.nil (Lb (WC.block (L9 (fun(zkR:Nat) (z2h:Int)=>(y4f z26 zd4 zkR z2h=some r)) (fun zkR z2h=>[(0,C),(7,C),(8,D),(9,(vi z2h))]) (fun zkR z2h=>[]) (fun zkR z2h=>zkR) ⟨yx,0⟩ h (.r4 U U U U) .nil ?_))))))))
  rintro zkR z2h h
  obtain⟨zAZ,rfl⟩:=ybS h
  rw[y4f] at h
  refine WC.b<|Ld<|La U<|WL.nil<|Lb<|WC.b<|WC.cond U (fun zB1=>?_)<|fun zB1=>?_
  ·replace h:=yq h zB1
   refine WC.skip<|Lb<|WC.b<|WC.block<|WC.b ?_
   obtain⟨zYW,h⟩:=yn h
   refine Ld<|La U<|L0 (dd:=12) U U (Z:=Z) (Pr:=(fun r x=>r=e60 x)) y65 U U zB0 zYW ?_
   rintro zYX z19o zYY z19p rfl
   refine Le 13 (yi y4g U (y2l hz.pv zYY) U) (Lg 4 (yv (cs:=[(vi 0),(vi 0),(vi 0)]) y6Q U) fun zKM _=>La U<|Lk U U (yl y7d U U U .here U U U)<|WL.nil<|Lb<|WC.b ?_)
   obtain⟨zYZ,h⟩:=yn h
   obtain⟨z4k,zZ0,h⟩:=za h
   refine Lx (fun i=>[10].contains i) [] U<|Lf 0 15 U (fun _=>q_m U)<|Lf 1 16 U (fun _=>q_m U)<|WD.zsub (j:=2) (dd:=17) (by kernel_rfl) U z2j z2k U U (Z:=Z) (Pr:=(fun r x=>r=e60 x)) y65 U zB0 (fun _=>ixn) (fun _=>ixo U) U U zYZ (List.drop_zero).symm ?_
   rintro zZ1 zZ2 zZ3
   refine Lf 3 18 U (fun _=>ya y4h U U)<|Lj 4 19 U (yc ys U<|yh .here U)<|L4 5 20 U (zb Tryz.call77<|.r2 U U) (cc hz .nil fun w pz ho=>yat zZ0 w pz zZ3)<|Lf 6 14 U (fun _=>q_m U)<|Lf 7 21 U (fun _=>y8y U U)<|Lf 8 22 U (fun _=>y8y U U) (WD.new (i:=9) (dd:=5) U (by kernel_rfl) U U U (yv (cs:=[(vi 0),(vi 0),(vi 0)]) y6Q U) (fun h'=>absurd h' (by decide)) fun zZ4 _=>WD.forced0 (i:=10) U (by kernel_rfl) U U U (Sin.of .nil) (yl y7d U U U .here U U U)<|Lf 11 6 U (fun _=>q_z U)<|WD.done (by kernel_rfl)<|Lb<|WC.b ?_)
   obtain⟨zZ5,h⟩:=yn h
   let A:Value:=(.agg #[(vi z4k.1.fNode),(vi z4k.1.fNext),(vi z4k.1.fQ)]);let E:Value:=(vi ((nth z26 z2h).fNode));refine Lx (fun i=>[].contains i) [] U (Lf 0 23 U (fun _=>q_m U) (Lf 1 24 U (fun _=>q_not U) (Lf 2 25 U (fun _=>q_m U) (Kg (fuel':=0) [(0,C),(7,C),(8,D),(9,(vi z2h)),(10,(.bool (decide (z2h<((z26.length:Nat):Int))))),(11,(vi z2h)),(12,(vq zYX)),(13,(.agg #[E,(vi ((nth z26 z2h).fNext)),(vi ((nth z26 z2h).fQ))])),(4,(vp zKM)),(3,(vi z2h)),(15,C),(16,(vi z2h)),(17,(.slice zZ1 ((z26.take (z2h:Int).toNat).length) zZ2)),(18,(vp zKM)),(19,E),(20,(.tuple #[A,(.bool z4k.2)])),(14,(.tuple #[A,(.bool z4k.2)])),(21,A),(22,(.bool z4k.2)),(5,(vp zZ4)),(6,(.bool z4k.2)),(23,(.bool z4k.2)),(24,(.bool (!z4k.2))),(25,(.bool (!z4k.2))),(33,(.bool ((!z4k.2)&&(decide (((nth z26 z2h).fNode)≠((nth z26 0).fNode))))))] (y2d 11 [10,9,8,7,6,5,4,3,2,1,0]) ?_ (fun zKN=>?_)))))
   rotate_left
   ·rcases Bool.eq_false_or_eq_true (!z4k.2) with hb' | hb'
    ·have zs0:=hb';clear hb'
     have zZ6:=zZ5 zs0
     refine L3 (i:=25) U zs0<|Lf 3 26 U (fun _=>ya y4h U U)<|Lj 4 27 U (yc ys U<|yh .h1 U)<|Lf 5 28 U (fun _=>q_m U)<|L7 (j:=6) (dd:=29) (by kernel_rfl) U z2j z2k U U (Z:=Z) (Pr:=(fun r x=>r=e60 x)) y65 U U zB0 zZ6 ?_
     rintro z19q z19r zZ7 z19s rfl
     refine Lf 7 30 U (fun _=>ya y4h U U)<|Lj 8 31 U (yc ys U<|y1c hz.pv zZ7 U)<|Lf 9 32 U (fun _=>q_neq U U)<|Lf 10 33 U (fun _=>y4w U U)<|Ly (.a2) ?_ zKN
     exact .r25 U U U U U U U U U U U U U U U U U U U U U U U (zO<|Eq.symm zs0)<|zO<|y3v zs0
    ·have zB2:=hb';clear hb'
     refine L3 (i:=25) U zB2<|Lp 3 26 U<|Lp 4 27 U<|Lp 5 28 U<|Lp 6 29 U<|Lp 7 30 U<|Lp 8 31 U<|Lp 9 32 U<|Lf 10 33 U (fun _=>y4x U U)<|Ly (.a2) ?_ zKN
     exact .r25 U U U U U U U U U U U U U U U U U U U U U U U (zO<|Eq.symm zB2)<|zO<|y3u zB2
   refine WD.done (by kernel_rfl)<|Lb<|WC.cond U (fun zB3=>?_)<|fun zB3=>?_
   ·replace h:=yq h zB3
    refine WC.b<|Ld<|La U<|WL.nil<|Lb<|WC.ret<|Lq<|Li<|Li<|Lq<|Li ?_
    obtain rfl:=oJ h
    refine Lh Tryz.results59 (.tmp U .nil)<|fun w hw=>?_
    exact⟨yC U,hw.sub .nil⟩
   ·replace h:=yr h zB3
    refine WC.skip<|Lt<|Lb<|Ld<|La U<|La U<|WL.nil ?_
    exact WX.round ⟨zAZ,(i64 (z2h+1))⟩ h (Nat.lt_succ_self _) (.r4 U U U U) .nil
  ·replace h:=yr h zB1
   refine WC.exit<|Lm<|Lm<|Lu ?_
   exact Ln () h .nil .nil
 ·rintro  h
  replace h:=zYV.symm.trans h
  refine WC.b<|Ld<|La U<|WL.nil<|Lb<|WC.ret ?_
  obtain rfl:=oJ h
  refine Lh Tryz.results59 (.tmp U .nil)<|fun w hw=>?_
  exact⟨yC U,hw.sub .nil⟩
def y4D(zoI:List zd):Option Bool:=
 (y7H zoI).bind fun zKO=>some (!zKO)
theorem yfa{Z:Zp}{zKP:Option Addr}{zKQ:Nat}{zoI:List zd}{r:Bool}(h:y4D zoI=some r)(w₀:World)(hz:PZ [] w₀ Z)(zZ8:ZS Z 3 (fun r x=>r=e60 x) zKP zKQ zoI):
  Calls Tryz.prog 58 #[(.slice zKP zoI.length zKQ)] w₀ fun e w'=>e = .returned (.bool r)∧Hp [] w₀ w' []:=by
 unfold y4D at h
 refine L5 Tryz.func58 Tryz.ntmps58 ?_
 refine WC.b<|Ld<|La U<|WL.nil<|Lb<|WC.b ?_
 obtain⟨zKO,zZ9,h⟩:=za h
 refine Ld<|La U<|Ll 4 (zb Tryz.call59<|.cons U .nil) .nil (cc hz .nil fun w pz ho=>ygf zZ9 w pz zZ8)<|La U<|La U<|WL.nil<|Lb<|WC.ret ?_
 obtain rfl:=oJ h
 refine Lh Tryz.results58 (.tmp U .nil)<|fun w hw=>?_
 exact⟨yC U,hw.sub .nil⟩
def y39(zd5:zn)(zd6:zn):Option Int:=
 some (i64 (zd5.fNode-zd6.fNode))
theorem yfb{Z:Zp}{zd5:zn}{zd6:zn}{r:Int}(h:y39 zd5 zd6=some r)(w₀:World)(hz:PZ [] w₀ Z):
  Calls Tryz.prog 62 #[(.agg #[(vi zd5.fVL),(vi zd5.fNode),(vi zd5.fDelay)]),(.agg #[(vi zd6.fVL),(vi zd6.fNode),(vi zd6.fDelay)])] w₀ fun e w'=>e = .returned (vi r)∧Hp [] w₀ w' []:=by
 unfold y39 at h
 refine Lz Tryz.func62 Tryz.ntmps62 ?_
 refine WC.b<|Ld (Lg 2 (yH (cs:=[(vi zd5.fVL),(vi zd5.fNode),(vi zd5.fDelay)]) U U) fun z19t _=>Lg 3 (yH (cs:=[(vi zd6.fVL),(vi zd6.fNode),(vi zd6.fDelay)]) U U) fun z19u _=>La U<|WL.nil<|Lb<|WC.b<|Ld<|Le 5 (ya ydf U U)<|Le 6 (yc ys U<|yh .h1 U)<|Le 7 (ya ydf U U)<|Le 8 (yc ys U<|yh .here U)<|La U<|La U<|WL.nil<|Lb<|WC.ret ?_)
 obtain rfl:=oJ h
 refine Lh Tryz.results62 (.tmp U .nil)<|fun w hw=>?_
 exact⟨yC U,hw.sub .nil⟩
theorem zZa:∀ w,(isAgg (Tryz.y3H.t 24)).run Tryz.prog w = .ok true w:=fun _=>by kernel_rfl
theorem zZb:∀ w,(Go.sizeOf (Tryz.y3H.t 24)).run Tryz.prog w = .ok 3 w:=fun _=>by kernel_rfl
def y4M(z62:List zn)(zoJ:Int)(zoK:Int)(zkS:Int)(zhK:zn→zn→Option Int):Option (List zn):=chk ((zoJ=0∧zoK=((z62.length:Nat):Int))∧(0≤zkS∧zkS<4611686018427387904∧z62.length<4611686018427387904)) (chk (y8o zhK (yV zhK z62)=true) (some (yV zhK z62)))
theorem y8F(Z:Zp)(zhL:Option Addr)(zhM:Nat)(zoL:FuncId)(zB4:List Value)(z62:List zn)(zoJ:Int)(zoK:Int)(zkS:Int)(zhK:zn→zn→Option Int)(r:List zn)(w₀:World)(hz:PZ (fps [row (.slice zhL z62.length zhM) 53 3 (z62.flatMap e53)]) w₀ Z)(zZc:∀ args w,(callFunc zoL args).run Tryz.prog w = .ok (.enter zoL args) w)(zZd:∀ w:World,PZ [] w Z→∀(x0:zn) (x1:zn) (r:Int),zhK x0 x1=some r→Calls Tryz.prog zoL (([(.agg #[(vi x0.fVL),(vi x0.fNode),(vi x0.fDelay)]),(.agg #[(vi x1.fVL),(vi x1.fNode),(vi x1.fDelay)])]:List Value)++zB4).toArray w fun e w'=>e = .returned (vi r)∧Hp [] w w' [])(h:y4M z62 zoJ zoK zkS zhK=some r)(hown:Hp (fps [row (.slice zhL z62.length zhM) 53 3 (z62.flatMap e53)]) w₀ w₀ [row (.slice zhL z62.length zhM) 53 3 (z62.flatMap e53)]):
  Calls Tryz.prog 110 #[(.slice zhL z62.length zhM),(vi zoJ),(vi zoK),(vi zkS),(.func (.func zoL) #[] (zB4).toArray)] w₀ fun e w'=>e = .returned (.tuple #[])∧(r.length=z62.length)∧Hp (fps [row (.slice zhL z62.length zhM) 53 3 (z62.flatMap e53)]) w₀ w' [row (.slice zhL r.length zhM) 53 3 (r.flatMap e53)]:=by
 obtain⟨h0,h⟩:=yn h
 obtain⟨h1,h⟩:=yn h
 have hr:=(oJ h).symm
 exact y9C (P:=Tryz.prog) (f:=110) (e:=53) (k:=3) (enc:=e53) (fun _=>U) (by decide) yg8 (fun β _ enc cf g cb hO blk off cap d0 w0 eg hC R=>Tryz.y97 3 zZa zZb enc cf g cb hO blk off cap d0 w0 eg hC R) (Tryz.y8V (α:=Unit)) hz zZc zZd h0 h1 hr hown
end Go.Proofs.YthjnhebofpebpaaGreat
