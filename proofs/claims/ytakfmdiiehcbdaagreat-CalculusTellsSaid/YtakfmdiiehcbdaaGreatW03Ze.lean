/- A part of this claim's proof: models of functions, walks, plain laws. No conditions. -/
import Derived.Test.YtakfmdiiehcbdaaGreatW03Zd
namespace Go.Proofs.YtakfmdiiehcbdaaGreat
open Go Go.RowKit Sep
set_option linter.all false
set_option maxRecDepth 30000
set_option maxHeartbeats 4000000
def y3m (z1P : S41) : Option Bool :=
 (y1R z1P.fR).bind fun zo2=>(if zo2 && (decide (z1P.fR.fN > 0)) then (y2G z1P.fL).bind fun zu8=>some zu8 else some false).bind fun zo3=>some zo3
set_option maxRecDepth 20000 in
theorem y5z (Z : Zp)  (z1P : S41) (r : Bool)
  (h : y3m z1P = some r) (w₀ : World) (hz : PZ [] w₀ Z) :
  Calls Tryz.prog 18 #[(.agg #[(.int .i64 z1P.fR.fN),(.int .i64 z1P.fR.fD),(.int .i64 z1P.fL.fN),(.int .i64 z1P.fL.fD)])] w₀ fun e w'=>e = .returned (.bool r) ∧ Hp [] w₀ w' []:=by
 unfold y3m at h
 refine Calls.yg (vs:=[(.agg #[(.int .i64 z1P.fR.fN),(.int .i64 z1P.fR.fD),(.int .i64 z1P.fL.fN),(.int .i64 z1P.fL.fD)])]) (pre:=[]) (env:=[(0,(.agg #[(.int .i64 z1P.fR.fN),(.int .i64 z1P.fR.fD),(.int .i64 z1P.fL.fN),(.int .i64 z1P.fL.fD)]))]) Tryz.func18 rfl Tryz.ntmps18 rfl (Hp.nil w₀ _) rfl ?_
 refine WC.b (WC.a ?_)
 refine WL.new (dd:=1) rfl rfl rfl (yx (cs:=[(.int .i64 z1P.fR.fN),(.int .i64 z1P.fR.fD),(.int .i64 z1P.fL.fN),(.int .i64 z1P.fL.fD)]) rfl rfl) ?_
 intro zKI _
 refine WL.pu rfl (WL.nil (WX.a (WC.b ?_)))
 obtain ⟨zo2,zDY,h⟩:=z8 h
 obtain ⟨zo3,zu9,h⟩:=z8 h
 refine WC.a ?_
 refine WL.a (d:=3) rfl rfl rfl (y4 y2U rfl rfl) ?_
 refine WL.a (d:=4) rfl rfl rfl (ys (cs:=[(.int .i64 z1P.fR.fN),(.int .i64 z1P.fR.fD)]) y5 rfl rfl (yW (s:=2) .here rfl)) ?_
 refine WL.b (dd:=5) rfl rfl rfl (za (l:=[.tmp 4]) Tryz.call45 (.cons rfl .nil)) .nil (cc hz .nil fun w pz ho=>y3j _ _ _ zDY w pz ) ?_
 refine WL.pu rfl ?_
 refine WL.seg true 4 6 (B:=zo2 && (decide (z1P.fR.fN > 0))) rfl rfl rfl rfl rfl rfl (fun h=>(y30 h).symm) (fun _ zDZ=>?_) ?_
 ·skip
  refine WL.a (d:=7) rfl rfl rfl (y4 y2U rfl rfl) ?_
  refine WL.a (d:=8) rfl rfl rfl (y4 yL rfl rfl) ?_
  refine WL.a (d:=9) rfl rfl rfl (yc yr rfl (yp .here rfl)) ?_
  refine WL.pu rfl (WL.pu rfl ?_)
  exact WL.yw (y31 zDZ) rfl rfl .all
 refine WL.pu rfl ?_
 refine WL.seg true 3 12 (B:=zo3) rfl rfl rfl rfl rfl rfl (fun h=>(Option.some.inj (ye zu9 h)).symm) (fun _ zE0=>?_) ?_
 ·skip
  have zgh:=yd zu9 zE0
  obtain ⟨zu8,zE1,zgh⟩:=z8 zgh
  replace zgh:=Option.some.inj zgh
  refine WL.a (d:=13) rfl rfl rfl (y4 y3r rfl rfl) ?_
  refine WL.a (d:=14) rfl rfl rfl (ys (cs:=[(.int .i64 z1P.fL.fN),(.int .i64 z1P.fL.fD)]) y5 rfl rfl (yW (s:=2) .here rfl)) ?_
  refine WL.b (dd:=15) rfl rfl rfl (za (l:=[.tmp 14]) Tryz.call46 (.cons rfl .nil)) .nil (cc hz .nil fun w pz ho=>y65 _ _ _ zE1 w pz ) ?_
  refine WL.pu rfl ?_
  exact WL.yw zgh rfl rfl .all
 refine WL.pu rfl (WL.nil (WX.a (WC.ret ?_)))
 obtain rfl:=Option.some.inj h
 refine WX.y8 Tryz.results18 (.tmp rfl .nil) (fun w hw=>?_)
 exact ⟨yD rfl,hw.sub .nil⟩
def y20 (zy : List z2) (z1a : Int) (z8q : Option Bool) : Nat → Int → Option Bool
 | 0,_=>none
 | zo4 + 1,z1b=>if decide (z1b < ((zy.length : Nat) : Int)) then jp0 (y20 zy z1a z8q zo4 (i64 (z1b + 1))) fun zij=>chk ((0 : Int) ≤ z1b ∧ z1b < ((zy.length : Nat) : Int)) (chk ((0 : Int) ≤ z1a ∧ z1a < ((zy.length : Nat) : Int)) (if decide ((⟨(⟨(((nth zy z1b).fB).fN),(((nth zy z1b).fB).fD)⟩ : z1),(⟨(((nth zy z1b).fR).fN),(((nth zy z1b).fR).fD)⟩ : z1)⟩ : z2) = (⟨(⟨(((nth zy z1a).fB).fN),(((nth zy z1a).fB).fD)⟩ : z1),(⟨(((nth zy z1a).fR).fN),(((nth zy z1a).fR).fD)⟩ : z1)⟩ : z2)) then if decide (z1b < z1a) then some true else zij else chk ((0 : Int) ≤ z1b ∧ z1b < ((zy.length : Nat) : Int)) (chk ((0 : Int) ≤ z1a ∧ z1a < ((zy.length : Nat) : Int)) ((yE (⟨(((nth zy z1b).fB).fN),(((nth zy z1b).fB).fD)⟩ : z1) (⟨(((nth zy z1a).fB).fN),(((nth zy z1a).fB).fD)⟩ : z1)).bind fun zik=>(if decide (zik ≤ 0) then chk ((0 : Int) ≤ z1b ∧ z1b < ((zy.length : Nat) : Int)) (chk ((0 : Int) ≤ z1a ∧ z1a < ((zy.length : Nat) : Int)) ((yE (⟨(((nth zy z1b).fR).fN),(((nth zy z1b).fR).fD)⟩ : z1) (⟨(((nth zy z1a).fR).fN),(((nth zy z1a).fR).fD)⟩ : z1)).bind fun zua=>some (decide (zua ≤ 0)))) else some false).bind fun zo5=>if zo5 then some true else zij)))) else z8q
theorem y6T {n : Nat} {zy : List z2} {z1a : Int} {z8q : Option Bool} {z1b : Int} {r : Bool} (h : y20 zy z1a z8q n z1b = some r) : ∃ m,n = m + 1:=by
 cases n with
 | zero=>cases h
 | succ m=>exact ⟨m,rfl⟩
def y3N (zy : List z2) (z1a : Int) : Option Bool :=
 jp0 (some false) fun z8q=>y20 zy z1a z8q yu 0
set_option maxRecDepth 20000 in
theorem y94 (Z : Zp) (zbA : Option Addr) (zbB : Nat) (zy : List z2) (z1a : Int) (r : Bool)
  (h : y3N zy z1a = some r) (w₀ : World) (hz : PZ [] w₀ Z)
  (zdB : ZS Z 4 (fun r x=>r = e54 x) zbA zbB zy) :
  Calls Tryz.prog 90 #[(.slice zbA zy.length zbB),(.int .i64 z1a)] w₀ fun e w'=>e = .returned (.bool r) ∧ Hp [] w₀ w' []:=by
 unfold y3N at h
 refine Calls.yg (vs:=[(.slice zbA zy.length zbB),(.int .i64 z1a)]) (pre:=[]) (env:=[(0,(.slice zbA zy.length zbB)),(1,(.int .i64 z1a))]) Tryz.func90 rfl Tryz.ntmps90 rfl (Hp.nil w₀ _) rfl ?_
 refine WC.b (WC.a (WL.pu rfl (WL.nil (WX.a ?_))))
 obtain ⟨z8q,zE2,h⟩:=y3H h
 refine WC.y2J ((z8q = some r)) ([]) ([]) ?_ ?_
 ·skip
  refine WC.b (WC.a (WL.pu rfl (WL.nil (WX.a (WC.block ?_)))))
  refine WC.y35 (fun (zdC : Nat) (z1b : Int)=>(y20 zy z1a z8q zdC z1b = some r)) (fun (zdC : Nat) (z1b : Int)=>[(0,(.slice zbA zy.length zbB)),(1,(.int .i64 z1a)),(5,(.int .i64 z1b))]) (fun (zdC : Nat) (z1b : Int)=>[]) (fun (zdC : Nat) (z1b : Int)=>zdC) ⟨yu,0⟩ h (.cons rfl (.cons rfl (.cons rfl .nil))) .nil ?_
  rintro zdC z1b h
  obtain ⟨zo4,rfl⟩:=y6T h
  rw [y20] at h
  refine WC.b (WC.b (WC.a (WL.pu rfl (WL.pu rfl ?_))))
  refine WL.a (d:=8) rfl rfl rfl (yP Tryz.underlying23 rfl) ?_
  refine WL.pu rfl (WL.nil (WX.a ?_))
  refine WC.cond rfl (fun zo6=>?_) (fun zo6=>?_)
  ·replace h:=yd h zo6
   refine WC.skip (WX.a ?_)
   obtain ⟨zij,zE3,h⟩:=y3H h
   refine WC.y2J ((zij = some r)) ([(0,(.slice zbA zy.length zbB)),(1,(.int .i64 z1a)),(5,(.int .i64 z1b))]) ([]) ?_ ?_
   ·skip
    refine WC.block (WC.b (WC.b ?_))
    obtain ⟨zE4,h⟩:=yj h
    obtain ⟨zE5,h⟩:=yj h
    refine WC.yH (fun i=>[].contains i) [] rfl ?_
    refine WD.a (i:=0) (d:=12) (by kernel_rfl) rfl z6 z7 rfl rfl rfl (fun _=>q_m rfl) ?_
    refine WD.a (i:=1) (d:=13) (by kernel_rfl) rfl z6 z7 rfl rfl rfl (fun _=>q_m rfl) ?_
    refine WD.znth (j:=2) (dd:=14) (by kernel_rfl) rfl z6 z7 rfl rfl (Z:=Z) (Pr:=(fun r x=>r = e54 x)) yS rfl rfl zdB zE4 ?_
    rintro zKJ zKK zE6 zKL rfl
    refine WD.e (i:=3) (d:=15) (by kernel_rfl) rfl z6 z7 rfl rfl rfl (y9 y1q rfl (y2k hz.pv zE6) rfl) ?_
    refine WD.a (i:=4) (d:=16) (by kernel_rfl) rfl z6 z7 rfl rfl rfl (fun _=>q_m rfl) ?_
    refine WD.a (i:=5) (d:=17) (by kernel_rfl) rfl z6 z7 rfl rfl rfl (fun _=>q_m rfl) ?_
    refine WD.znth (j:=6) (dd:=18) (by kernel_rfl) rfl z6 z7 rfl rfl (Z:=Z) (Pr:=(fun r x=>r = e54 x)) yS rfl rfl zdB zE5 ?_
    rintro zKM zKN zE7 zKO rfl
    refine WD.e (i:=7) (d:=19) (by kernel_rfl) rfl z6 z7 rfl rfl rfl (y9 y1q rfl (y2k hz.pv zE7) rfl) ?_
    refine WD.a (i:=8) (d:=20) (by kernel_rfl) rfl z6 z7 rfl rfl rfl (fun _=>y4j (enc:=e54) (a:=(⟨(⟨(((nth zy z1b).fB).fN),(((nth zy z1b).fB).fD)⟩ : z1),(⟨(((nth zy z1b).fR).fN),(((nth zy z1b).fR).fD)⟩ : z1)⟩ : z2)) (b:=(⟨(⟨(((nth zy z1a).fB).fN),(((nth zy z1a).fB).fD)⟩ : z1),(⟨(((nth zy z1a).fR).fN),(((nth zy z1a).fR).fD)⟩ : z1)⟩ : z2)) yaW rfl rfl) ?_
    refine WD.done (by kernel_rfl) ?_
    refine WX.a ?_
    refine WC.cond rfl (fun zo7=>?_) (fun zo7=>?_)
    ·replace h:=yd h zo7
     refine WC.b (WC.b (WC.a (WL.pu rfl (WL.pu rfl (WL.pu rfl (WL.nil (WX.a ?_)))))))
     refine WC.cond rfl (fun zo8=>?_) (fun zo8=>?_)
     ·replace h:=yd h zo8
      refine WC.b (WC.a (WL.pu rfl (WL.nil (WX.a (WC.ret (WX.y6 (WX.y6 (WX.yl (WX.y6 (WX.y6 (WX.yl (WX.y6 ?_))))))))))))
      obtain rfl:=Option.some.inj h
      refine WX.y8 Tryz.results90 (.tmp rfl .nil) (fun w hw=>?_)
      exact ⟨yD rfl,hw.sub .nil⟩
     ·replace h:=ye h zo8
      refine WC.skip (WX.a (WC.exit (WX.yf (WX.yv ?_))))
      exact WX.mid (G:=Unit) () h (.cons rfl (.cons rfl (.cons rfl .nil))) .nil
    ·replace h:=ye h zo7
     refine WC.skip (WX.a (WC.b ?_))
     obtain ⟨zE8,h⟩:=yj h
     obtain ⟨zE9,h⟩:=yj h
     obtain ⟨zik,zEa,h⟩:=z8 h
     obtain ⟨zo5,zub,h⟩:=z8 h
     refine WC.yH (fun i=>[].contains i) [] rfl ?_
     refine WD.a (i:=0) (d:=24) (by kernel_rfl) rfl z6 z7 rfl rfl rfl (fun _=>q_m rfl) ?_
     refine WD.a (i:=1) (d:=25) (by kernel_rfl) rfl z6 z7 rfl rfl rfl (fun _=>q_m rfl) ?_
     refine WD.znth (j:=2) (dd:=26) (by kernel_rfl) rfl z6 z7 rfl rfl (Z:=Z) (Pr:=(fun r x=>r = e54 x)) yS rfl rfl zdB zE8 ?_
     rintro zKP zKQ zEb zKR rfl
     refine WD.a (i:=3) (d:=27) (by kernel_rfl) rfl z6 z7 rfl rfl rfl (fun _=>y4 y2B rfl rfl) ?_
     refine WD.e (i:=4) (d:=28) (by kernel_rfl) rfl z6 z7 rfl rfl rfl (ys (cs:=[(.int .i64 (((nth zy z1b).fB).fN)),(.int .i64 (((nth zy z1b).fB).fD))]) y5 rfl rfl (y3q (off:=0) (s:=2) hz.pv zEb rfl)) ?_
     refine WD.a (i:=5) (d:=29) (by kernel_rfl) rfl z6 z7 rfl rfl rfl (fun _=>q_m rfl) ?_
     refine WD.a (i:=6) (d:=30) (by kernel_rfl) rfl z6 z7 rfl rfl rfl (fun _=>q_m rfl) ?_
     refine WD.znth (j:=7) (dd:=31) (by kernel_rfl) rfl z6 z7 rfl rfl (Z:=Z) (Pr:=(fun r x=>r = e54 x)) yS rfl rfl zdB zE9 ?_
     rintro zKS zKT zEc zKU rfl
     refine WD.a (i:=8) (d:=32) (by kernel_rfl) rfl z6 z7 rfl rfl rfl (fun _=>y4 y2B rfl rfl) ?_
     refine WD.e (i:=9) (d:=33) (by kernel_rfl) rfl z6 z7 rfl rfl rfl (ys (cs:=[(.int .i64 (((nth zy z1a).fB).fN)),(.int .i64 (((nth zy z1a).fB).fD))]) y5 rfl rfl (y3q (off:=0) (s:=2) hz.pv zEc rfl)) ?_
     refine WD.c (i:=10) (d:=34) (by kernel_rfl) rfl z6 z7 rfl rfl rfl (za (l:=[.tmp 28,.tmp 33]) Tryz.call28 (.cons rfl (.cons rfl .nil))) (cc hz .nil fun w pz ho=>y2H _ _ _ _ zEa w pz ) ?_
     refine WD.a (i:=11) (d:=35) (by kernel_rfl) rfl z6 z7 rfl rfl rfl (fun _=>y82 rfl rfl) ?_
     refine WD.a (i:=12) (d:=36) (by kernel_rfl) rfl z6 z7 rfl rfl rfl (fun _=>q_m rfl) ?_
     refine WD.mid (fuel':=0) [(0,(.slice zbA zy.length zbB)),(1,(.int .i64 z1a)),(5,(.int .i64 z1b)),(36,(.bool (decide (zik ≤ 0)))),(49,(.bool zo5))] (yC 26 [25,24,23,22,21,20,19,18,17,16,15,14,13,12,11,10,9,8,7,6,5,4,3,2,1,0]) ?_ (fun zuc=>?_)
     rotate_left
     ·rcases Bool.eq_false_or_eq_true (decide (zik ≤ 0)) with hb' | hb'
      ·have zo9:=hb'; clear hb'
       have z8r:=yd zub zo9
       obtain ⟨zEd,z8r⟩:=yj z8r
       obtain ⟨zEe,z8r⟩:=yj z8r
       obtain ⟨zua,zEf,z8r⟩:=z8 z8r
       replace z8r:=Option.some.inj z8r
       refine WD.pin (i:=36) rfl zo9 ?_
       refine WD.a (i:=13) (d:=37) (by kernel_rfl) rfl z6 z7 rfl rfl rfl (fun _=>q_m rfl) ?_
       refine WD.a (i:=14) (d:=38) (by kernel_rfl) rfl z6 z7 rfl rfl rfl (fun _=>q_m rfl) ?_
       refine WD.znth (j:=15) (dd:=39) (by kernel_rfl) rfl z6 z7 rfl rfl (Z:=Z) (Pr:=(fun r x=>r = e54 x)) yS rfl rfl zdB zEd ?_
       rintro zKV zKW zEg zKX rfl
       refine WD.a (i:=16) (d:=40) (by kernel_rfl) rfl z6 z7 rfl rfl rfl (fun _=>y4 y2T rfl rfl) ?_
       refine WD.e (i:=17) (d:=41) (by kernel_rfl) rfl z6 z7 rfl rfl rfl (ys (cs:=[(.int .i64 (((nth zy z1b).fR).fN)),(.int .i64 (((nth zy z1b).fR).fD))]) y5 rfl rfl (y3q (off:=2) (s:=2) hz.pv zEg rfl)) ?_
       refine WD.a (i:=18) (d:=42) (by kernel_rfl) rfl z6 z7 rfl rfl rfl (fun _=>q_m rfl) ?_
       refine WD.a (i:=19) (d:=43) (by kernel_rfl) rfl z6 z7 rfl rfl rfl (fun _=>q_m rfl) ?_
       refine WD.znth (j:=20) (dd:=44) (by kernel_rfl) rfl z6 z7 rfl rfl (Z:=Z) (Pr:=(fun r x=>r = e54 x)) yS rfl rfl zdB zEe ?_
       rintro zKY zKZ zEh zL0 rfl
       refine WD.a (i:=21) (d:=45) (by kernel_rfl) rfl z6 z7 rfl rfl rfl (fun _=>y4 y2T rfl rfl) ?_
       refine WD.e (i:=22) (d:=46) (by kernel_rfl) rfl z6 z7 rfl rfl rfl (ys (cs:=[(.int .i64 (((nth zy z1a).fR).fN)),(.int .i64 (((nth zy z1a).fR).fD))]) y5 rfl rfl (y3q (off:=2) (s:=2) hz.pv zEh rfl)) ?_
       refine WD.c (i:=23) (d:=47) (by kernel_rfl) rfl z6 z7 rfl rfl rfl (za (l:=[.tmp 41,.tmp 46]) Tryz.call28 (.cons rfl (.cons rfl .nil))) (cc hz .nil fun w pz ho=>y2H _ _ _ _ zEf w pz ) ?_
       refine WD.a (i:=24) (d:=48) (by kernel_rfl) rfl z6 z7 rfl rfl rfl (fun _=>y82 rfl rfl) ?_
       refine WD.a (i:=25) (d:=49) (by kernel_rfl) rfl z6 z7 rfl rfl rfl (fun _=>y18 rfl rfl) ?_
       refine WD.yt .nil ?_ zuc
       exact (.cons rfl (.cons rfl (.cons rfl (.cons (zf (Eq.symm zo9)) (.cons (zf z8r) .nil)))))
      ·have zoa:=hb'; clear hb'
       have zob:=ye zub zoa
       replace zob:=Option.some.inj zob
       refine WD.pin (i:=36) rfl zoa ?_
       refine WD.b (i:=13) (d:=37) (by kernel_rfl) rfl z6 z7 rfl rfl rfl ?_
       refine WD.b (i:=14) (d:=38) (by kernel_rfl) rfl z6 z7 rfl rfl rfl ?_
       refine WD.b (i:=15) (d:=39) (by kernel_rfl) rfl z6 z7 rfl rfl rfl ?_
       refine WD.b (i:=16) (d:=40) (by kernel_rfl) rfl z6 z7 rfl rfl rfl ?_
       refine WD.b (i:=17) (d:=41) (by kernel_rfl) rfl z6 z7 rfl rfl rfl ?_
       refine WD.b (i:=18) (d:=42) (by kernel_rfl) rfl z6 z7 rfl rfl rfl ?_
       refine WD.b (i:=19) (d:=43) (by kernel_rfl) rfl z6 z7 rfl rfl rfl ?_
       refine WD.b (i:=20) (d:=44) (by kernel_rfl) rfl z6 z7 rfl rfl rfl ?_
       refine WD.b (i:=21) (d:=45) (by kernel_rfl) rfl z6 z7 rfl rfl rfl ?_
       refine WD.b (i:=22) (d:=46) (by kernel_rfl) rfl z6 z7 rfl rfl rfl ?_
       refine WD.b (i:=23) (d:=47) (by kernel_rfl) rfl z6 z7 rfl rfl rfl ?_
       refine WD.b (i:=24) (d:=48) (by kernel_rfl) rfl z6 z7 rfl rfl rfl ?_
       refine WD.a (i:=25) (d:=49) (by kernel_rfl) rfl z6 z7 rfl rfl rfl (fun _=>y19 rfl rfl) ?_
       refine WD.yt .nil ?_ zuc
       exact (.cons rfl (.cons rfl (.cons rfl (.cons (zf (Eq.symm zoa)) (.cons (zf zob) .nil)))))
     refine WD.d #[true,true,true,true,true,true,true,true,true,true,true,true,true,true,true,true,true,true,true,true,true,true,true,true,true,true] (by kernel_rfl) ?_
     refine WD.done (by kernel_rfl) ?_
     refine WX.a ?_
     refine WC.cond rfl (fun zoc=>?_) (fun zoc=>?_)
     ·replace h:=yd h zoc
      refine WC.b (WC.a (WL.pu rfl (WL.nil (WX.a (WC.ret (WX.yl (WX.y6 (WX.y6 (WX.yl (WX.y6 ?_))))))))))
      obtain rfl:=Option.some.inj h
      refine WX.y8 Tryz.results90 (.tmp rfl .nil) (fun w hw=>?_)
      exact ⟨yD rfl,hw.sub .nil⟩
     ·replace h:=ye h zoc
      refine WC.skip (WX.yi ?_)
      exact WX.mid (G:=Unit) () h (.cons rfl (.cons rfl (.cons rfl .nil))) .nil
   ·rintro  h
    replace h:=zE3.symm.trans h
    refine WC.a (WL.pu rfl (WL.pu rfl (WL.pu rfl (WL.nil ?_))))
    exact WX.round (G:=Nat × Int) ⟨zo4,(i64 (z1b + 1))⟩ h (Nat.lt_succ_self _) (.cons rfl (.cons rfl (.cons rfl .nil))) .nil
  ·replace h:=ye h zo6
   refine WC.exit (WX.yf (WX.yf (WX.yv ?_)))
   exact WX.mid (G:=Unit) () h .nil .nil
 ·rintro  h
  replace h:=zE2.symm.trans h
  refine WC.b (WC.a (WL.pu rfl (WL.nil (WX.a (WC.ret ?_)))))
  obtain rfl:=Option.some.inj h
  refine WX.y8 Tryz.results90 (.tmp rfl .nil) (fun w hw=>?_)
  exact ⟨yD rfl,hw.sub .nil⟩
def y2y (zk : List z2) (zd : Int) (ze : List z2) (z8s : Int → Option (List z2)) : Nat → Int → Option (List z2)
 | 0,_=>none
 | zod + 1,z1Q=>(if decide (z1Q > 0) then chk ((0 : Int) ≤ (i64 (z1Q - 1)) ∧ (i64 (z1Q - 1)) < ((zk.length : Nat) : Int)) (chk ((0 : Int) ≤ zd ∧ zd < ((ze.length : Nat) : Int)) ((yE (⟨(((nth zk (i64 (z1Q - 1))).fB).fN),(((nth zk (i64 (z1Q - 1))).fB).fD)⟩ : z1) (⟨(((nth ze zd).fB).fN),(((nth ze zd).fB).fD)⟩ : z1)).bind fun zud=>some (decide (zud > 0)))) else some false).bind fun zoe=>if zoe then y2y zk zd ze z8s zod (i64 (z1Q - 1)) else z8s z1Q
theorem y8b {n : Nat} {zk : List z2} {zd : Int} {ze : List z2} {z8s : Int → Option (List z2)} {z1Q : Int} {r : List z2} (h : y2y zk zd ze z8s n z1Q = some r) : ∃ m,n = m + 1:=by
 cases n with
 | zero=>cases h
 | succ m=>exact ⟨m,rfl⟩
def y2z (ze : List z2) (z8t : (List z2) → Option (List z2)) : Nat → (List z2) → Int → Option (List z2)
 | 0,_,_=>none
 | zof + 1,zk,zd=>if decide (zd < ((ze.length : Nat) : Int)) then jp1 (fun (z6w : List z2)=>y2z ze z8t zof z6w (i64 (zd + 1))) fun zil=>(y3N ze zd).bind fun zue=>if zue then zil zk else jp1 (fun (zz : Int)=>chk ((0 : Int) ≤ 0 ∧ (0 : Int) ≤ zz ∧ zz ≤ ((zk.length : Nat) : Int)) (chk ((((([] : List z2) ++ (zk.take (zz : Int).toNat)).length : Nat) : Int) * 32 ≤ 140737488355328 ∧ (((([] : List z2) ++ (zk.take (zz : Int).toNat)).length : Nat) : Int) ≤ 4611686018427387904) (chk ((0 : Int) ≤ zd ∧ zd < ((ze.length : Nat) : Int)) (chk (((((([] : List z2) ++ (zk.take (zz : Int).toNat)) ++ ([(⟨(⟨(((nth ze zd).fB).fN),(((nth ze zd).fB).fD)⟩ : z1),(⟨(((nth ze zd).fR).fN),(((nth ze zd).fR).fD)⟩ : z1)⟩ : z2)] : List z2)).length : Nat) : Int) * 32 ≤ 140737488355328 ∧ ((((([] : List z2) ++ (zk.take (zz : Int).toNat)) ++ ([(⟨(⟨(((nth ze zd).fB).fN),(((nth ze zd).fB).fD)⟩ : z1),(⟨(((nth ze zd).fR).fN),(((nth ze zd).fR).fD)⟩ : z1)⟩ : z2)] : List z2)).length : Nat) : Int) ≤ 4611686018427387904) (chk ((0 : Int) ≤ zz ∧ (zz : Int) ≤ (zk.length : Int) ∧ (zk.length : Int) ≤ ((zk.length : Nat) : Int)) (chk ((((((([] : List z2) ++ (zk.take (zz : Int).toNat)) ++ ([(⟨(⟨(((nth ze zd).fB).fN),(((nth ze zd).fB).fD)⟩ : z1),(⟨(((nth ze zd).fR).fN),(((nth ze zd).fR).fD)⟩ : z1)⟩ : z2)] : List z2)) ++ (zk.drop (zz : Int).toNat)).length : Nat) : Int) * 32 ≤ 140737488355328 ∧ (((((([] : List z2) ++ (zk.take (zz : Int).toNat)) ++ ([(⟨(⟨(((nth ze zd).fB).fN),(((nth ze zd).fB).fD)⟩ : z1),(⟨(((nth ze zd).fR).fN),(((nth ze zd).fR).fD)⟩ : z1)⟩ : z2)] : List z2)) ++ (zk.drop (zz : Int).toNat)).length : Nat) : Int) ≤ 4611686018427387904) (zil (((([] : List z2) ++ (zk.take (zz : Int).toNat)) ++ ([(⟨(⟨(((nth ze zd).fB).fN),(((nth ze zd).fB).fD)⟩ : z1),(⟨(((nth ze zd).fR).fN),(((nth ze zd).fR).fD)⟩ : z1)⟩ : z2)] : List z2)) ++ (zk.drop (zz : Int).toNat))))))))) fun z8s=>y2y zk zd ze z8s yu ((zk.length : Nat) : Int) else z8t zk
theorem y8c {n : Nat} {ze : List z2} {z8t : (List z2) → Option (List z2)} {zk : List z2} {zd : Int} {r : List z2} (h : y2z ze z8t n zk zd = some r) : ∃ m,n = m + 1:=by
 cases n with
 | zero=>cases h
 | succ m=>exact ⟨m,rfl⟩
def y53 (ze : List z2) : Option (List z2) :=
 jp1 (fun (z73 : List z2)=>some z73) fun z8t=>y2z ze z8t yu ([] : List z2) 0
set_option maxRecDepth 20000 in
theorem yaZ (Z : Zp) (z49 : Option Addr) (z4a : Nat) (ze : List z2) (r : List z2)
  (h : y53 ze = some r) (w₀ : World) (hz : PZ [] w₀ Z)
  (zog : ZS Z 4 (fun r x=>r = e54 x) z49 z4a ze) :
  Calls Tryz.prog 81 #[(.slice z49 ze.length z4a)] w₀ fun e w'=>∃ Zn : Zp,∃ zuf : Option Addr,∃ zug : Nat,e = .returned (.slice zuf r.length zug) ∧ True ∧ Hp [] w₀ w' [fz Zn,row (.slice zuf r.length zug) 54 4 (r.flatMap e54)]:=by
 unfold y53 at h
 refine Calls.yg (vs:=[(.slice z49 ze.length z4a)]) (pre:=[]) (env:=[(0,(.slice z49 ze.length z4a))]) Tryz.func81 rfl Tryz.ntmps81 rfl (Hp.nil w₀ _) rfl ?_
 refine WC.pool (WC.b (WC.a (WL.pu rfl (WL.nil (WX.a (WC.b (WC.a (WL.pu rfl (WL.nil (WX.a ?_))))))))))
 obtain ⟨z8t,zEi,h⟩:=y12 h
 refine WC.y3P (fun (z73 : List z2) (zdD : Zp) (zdE : Option Addr) (zdF : Nat)=>(z8t z73 = some r) ∧ (Zle (Z ++ []) (Z ++ zdD))) (fun (z73 : List z2) (zdD : Zp) (zdE : Option Addr) (zdF : Nat)=>[(3,(.slice zdE z73.length zdF))]) (fun (z73 : List z2) (zdD : Zp) (zdE : Option Addr) (zdF : Nat)=>[fz zdD,row (.slice zdE z73.length zdF) 54 4 (z73.flatMap e54)]) ?_ ?_
 ·skip
  refine WC.b (WC.a (WL.pu rfl (WL.nil (WX.a (WC.block ?_)))))
  refine WC.nilRow 54 4 ?_
  refine WC.y4V (fun (zdG : Nat) (zk : List z2) (zd : Int) (z5U : Zp) (z3r : Option Addr) (z3s : Nat)=>(y2z ze z8t zdG zk zd = some r) ∧ (Zle (Z ++ []) (Z ++ z5U))) (fun (zdG : Nat) (zk : List z2) (zd : Int) (z5U : Zp) (z3r : Option Addr) (z3s : Nat)=>[(0,(.slice z49 ze.length z4a)),(3,(.slice z3r zk.length z3s)),(4,(.int .i64 zd))]) (fun (zdG : Nat) (zk : List z2) (zd : Int) (z5U : Zp) (z3r : Option Addr) (z3s : Nat)=>[fz z5U,row (.slice z3r zk.length z3s) 54 4 (zk.flatMap e54)]) (fun (zdG : Nat) (zk : List z2) (zd : Int) (z5U : Zp) (z3r : Option Addr) (z3s : Nat)=>zdG) ⟨yu,([] : List z2),0,[],none,0⟩ ⟨h,(Zle.refl _)⟩ (.cons rfl (.cons rfl (.cons rfl .nil))) (.cons .h1 (.cons .here .nil)) ?_
  rintro zdG zk zd z5U z3r z3s ⟨h,zgi⟩
  obtain ⟨zof,rfl⟩:=y8c h
  rw [y2z] at h
  refine WC.b (WC.b (WC.a (WL.pu rfl (WL.pu rfl ?_))))
  refine WL.a (d:=8) rfl rfl rfl (yP Tryz.underlying23 rfl) ?_
  refine WL.pu rfl (WL.nil (WX.a ?_))
  refine WC.cond rfl (fun zoh=>?_) (fun zoh=>?_)
  ·replace h:=yd h zoh
   refine WC.skip (WX.a ?_)
   obtain ⟨zil,zEj,h⟩:=y12 h
   refine WC.y3P (fun (z6w : List z2) (zdH : Zp) (zdI : Option Addr) (zdJ : Nat)=>(zil z6w = some r) ∧ (Zle (Z ++ z5U) (Z ++ zdH))) (fun (z6w : List z2) (zdH : Zp) (zdI : Option Addr) (zdJ : Nat)=>[(0,(.slice z49 ze.length z4a)),(3,(.slice zdI z6w.length zdJ)),(4,(.int .i64 zd))]) (fun (z6w : List z2) (zdH : Zp) (zdI : Option Addr) (zdJ : Nat)=>[fz zdH,row (.slice zdI z6w.length zdJ) 54 4 (z6w.flatMap e54)]) ?_ ?_
   ·skip
    refine WC.block (WC.b (WC.b ?_))
    obtain ⟨zue,zEk,h⟩:=z8 h
    refine WC.a (WL.pu rfl (WL.pu rfl ?_))
    refine WL.b (dd:=14) rfl rfl rfl (za (l:=[.tmp 12,.tmp 13]) Tryz.call90 (.cons rfl (.cons rfl .nil))) .nil (ccz hz .nil .here fun w pz ho=>y94 _ _ _ _ _ _ zEk w pz (zog.mono ((Zle.left _ _).trans zgi))) ?_
    refine WL.nil (WX.a ?_)
    refine WC.cond rfl (fun zoi=>?_) (fun zoi=>?_)
    ·replace h:=yd h zoi
     refine WC.exit (WX.yf (WX.yv ?_))
     exact WX.mid (G:=List z2 × Zp × Option Addr × Nat) ⟨zk,z5U,z3r,z3s⟩ ⟨h,(Zle.refl _)⟩ (.cons rfl (.cons rfl (.cons rfl .nil))) (.cons .here (.cons .here .nil))
    ·replace h:=ye h zoi
     refine WC.skip (WX.a (WC.b (WC.a (WL.pu rfl ?_))))
     refine WL.a (d:=16) rfl rfl rfl (yP Tryz.underlying23 rfl) ?_
     refine WL.pu rfl (WL.nil (WX.a ?_))
     obtain ⟨z8s,zEl,h⟩:=y12 h
     refine WC.y3w (fun (zz : Int)=>(z8s zz = some r)) (fun (zz : Int)=>[(0,(.slice z49 ze.length z4a)),(3,(.slice z3r zk.length z3s)),(4,(.int .i64 zd)),(5,(.int .i64 zz))]) (fun (zz : Int)=>[fz z5U,row (.slice z3r zk.length z3s) 54 4 (zk.flatMap e54)]) ?_ ?_
     ·skip
      refine WC.block ?_
      refine WC.y35 (fun (zdK : Nat) (z1Q : Int)=>(y2y zk zd ze z8s zdK z1Q = some r)) (fun (zdK : Nat) (z1Q : Int)=>[(0,(.slice z49 ze.length z4a)),(3,(.slice z3r zk.length z3s)),(4,(.int .i64 zd)),(5,(.int .i64 z1Q))]) (fun (zdK : Nat) (z1Q : Int)=>[fz z5U,row (.slice z3r zk.length z3s) 54 4 (zk.flatMap e54)]) (fun (zdK : Nat) (z1Q : Int)=>zdK) ⟨yu,((zk.length : Nat) : Int)⟩ h (.cons rfl (.cons rfl (.cons rfl (.cons rfl .nil)))) (.cons .here (.cons .here .nil)) ?_
      rintro zdK z1Q h
      obtain ⟨zod,rfl⟩:=y8b h
      rw [y2y] at h
      refine WC.b (WC.b ?_)
      obtain ⟨zoe,zuh,h⟩:=z8 h
      refine WC.yH (fun i=>[].contains i) [] rfl ?_
      refine WD.a (i:=0) (d:=17) (by kernel_rfl) rfl z6 z7 rfl rfl rfl (fun _=>q_m rfl) ?_
      refine WD.a (i:=1) (d:=18) (by kernel_rfl) rfl z6 z7 rfl rfl rfl (fun _=>y5x rfl rfl) ?_
      refine WD.a (i:=2) (d:=19) (by kernel_rfl) rfl z6 z7 rfl rfl rfl (fun _=>q_m rfl) ?_
      refine WD.mid (fuel':=0) [(0,(.slice z49 ze.length z4a)),(3,(.slice z3r zk.length z3s)),(4,(.int .i64 zd)),(5,(.int .i64 z1Q)),(17,(.int .i64 z1Q)),(18,(.bool (decide (z1Q > 0)))),(19,(.bool (decide (z1Q > 0)))),(33,(.bool zoe))] (yC 17 [16,15,14,13,12,11,10,9,8,7,6,5,4,3,2,1,0]) ?_ (fun zui=>?_)
      rotate_left
      ·rcases Bool.eq_false_or_eq_true (decide (z1Q > 0)) with hb' | hb'
       ·have zoj:=hb'; clear hb'
        have z8u:=yd zuh zoj
        obtain ⟨zgj,z8u⟩:=yj z8u
        obtain ⟨zEm,z8u⟩:=yj z8u
        obtain ⟨zud,zEn,z8u⟩:=z8 z8u
        replace z8u:=Option.some.inj z8u
        refine WD.pin (i:=19) rfl zoj ?_
        refine WD.a (i:=3) (d:=20) (by kernel_rfl) rfl z6 z7 rfl rfl rfl (fun _=>q_m rfl) ?_
        refine WD.a (i:=4) (d:=21) (by kernel_rfl) rfl z6 z7 rfl rfl rfl (fun _=>q_m rfl) ?_
        refine WD.a (i:=5) (d:=22) (by kernel_rfl) rfl z6 z7 rfl rfl rfl (fun _=>y6L rfl rfl rfl) ?_
        refine WD.know (fun w hw=>Hp.y3y .h1 hw (by intro hz'; have:=zgj; rw [hz'] at this; omega)) ?_
        rintro ⟨zL1,rfl⟩
        refine WD.a (i:=6) (d:=23) (by kernel_rfl) rfl z6 z7 rfl rfl rfl (fun _=>y11 yS rfl rfl zgj.1 zgj.2 y3x) ?_
        refine WD.a (i:=7) (d:=24) (by kernel_rfl) rfl z6 z7 rfl rfl rfl (fun _=>y4 y2B rfl (Addr.add_lit _ _ _)) ?_
        refine WD.e (i:=8) (d:=25) (by kernel_rfl) rfl z6 z7 rfl rfl rfl (ys (cs:=[(.int .i64 (((nth zk (i64 (z1Q - 1))).fB).fN)),(.int .i64 (((nth zk (i64 (z1Q - 1))).fB).fD))]) y5 rfl rfl (y7J (k:=0) .h1 (y2A (enc:=e54) (l:=zk) (i:=i64 (z1Q - 1)) (sz:=4) (fun _=>rfl) zgj.1 zgj.2) (s:=2) rfl)) ?_
        refine WD.a (i:=9) (d:=26) (by kernel_rfl) rfl z6 z7 rfl rfl rfl (fun _=>q_m rfl) ?_
        refine WD.a (i:=10) (d:=27) (by kernel_rfl) rfl z6 z7 rfl rfl rfl (fun _=>q_m rfl) ?_
        refine WD.znth (j:=11) (dd:=28) (by kernel_rfl) rfl z6 z7 rfl rfl (Z:=(Z ++ z5U)) (Pr:=(fun r x=>r = e54 x)) yS rfl rfl (zog.mono ((Zle.left _ _).trans zgi)) zEm ?_
        rintro zL2 zL3 zEo zL4 rfl
        refine WD.a (i:=12) (d:=29) (by kernel_rfl) rfl z6 z7 rfl rfl rfl (fun _=>y4 y2B rfl rfl) ?_
        refine WD.e (i:=13) (d:=30) (by kernel_rfl) rfl z6 z7 rfl rfl rfl (ys (cs:=[(.int .i64 (((nth ze zd).fB).fN)),(.int .i64 (((nth ze zd).fB).fD))]) y5 rfl rfl (y3q (off:=0) (s:=2) (hz.pv2 .here) zEo rfl)) ?_
        refine WD.c (i:=14) (d:=31) (by kernel_rfl) rfl z6 z7 rfl rfl rfl (za (l:=[.tmp 25,.tmp 30]) Tryz.call28 (.cons rfl (.cons rfl .nil))) (ccz hz .nil .here fun w pz ho=>y2H _ _ _ _ zEn w pz ) ?_
        refine WD.a (i:=15) (d:=32) (by kernel_rfl) rfl z6 z7 rfl rfl rfl (fun _=>y5x rfl rfl) ?_
        refine WD.a (i:=16) (d:=33) (by kernel_rfl) rfl z6 z7 rfl rfl rfl (fun _=>y18 rfl rfl) ?_
        refine WD.yt (.cons .here (.cons .here .nil)) ?_ zui
        exact (.cons rfl (.cons rfl (.cons rfl (.cons rfl (.cons rfl (.cons rfl (.cons (zf (Eq.symm zoj)) (.cons (zf z8u) .nil))))))))
       ·have zol:=hb'; clear hb'
        have zom:=ye zuh zol
        replace zom:=Option.some.inj zom
        refine WD.pin (i:=19) rfl zol ?_
        refine WD.b (i:=3) (d:=20) (by kernel_rfl) rfl z6 z7 rfl rfl rfl ?_
        refine WD.b (i:=4) (d:=21) (by kernel_rfl) rfl z6 z7 rfl rfl rfl ?_
        refine WD.b (i:=5) (d:=22) (by kernel_rfl) rfl z6 z7 rfl rfl rfl ?_
        refine WD.b (i:=6) (d:=23) (by kernel_rfl) rfl z6 z7 rfl rfl rfl ?_
        refine WD.b (i:=7) (d:=24) (by kernel_rfl) rfl z6 z7 rfl rfl rfl ?_
        refine WD.b (i:=8) (d:=25) (by kernel_rfl) rfl z6 z7 rfl rfl rfl ?_
        refine WD.b (i:=9) (d:=26) (by kernel_rfl) rfl z6 z7 rfl rfl rfl ?_
        refine WD.b (i:=10) (d:=27) (by kernel_rfl) rfl z6 z7 rfl rfl rfl ?_
        refine WD.b (i:=11) (d:=28) (by kernel_rfl) rfl z6 z7 rfl rfl rfl ?_
        refine WD.b (i:=12) (d:=29) (by kernel_rfl) rfl z6 z7 rfl rfl rfl ?_
        refine WD.b (i:=13) (d:=30) (by kernel_rfl) rfl z6 z7 rfl rfl rfl ?_
        refine WD.b (i:=14) (d:=31) (by kernel_rfl) rfl z6 z7 rfl rfl rfl ?_
        refine WD.b (i:=15) (d:=32) (by kernel_rfl) rfl z6 z7 rfl rfl rfl ?_
        refine WD.a (i:=16) (d:=33) (by kernel_rfl) rfl z6 z7 rfl rfl rfl (fun _=>y19 rfl rfl) ?_
        refine WD.yt (.cons .here (.cons .here .nil)) ?_ zui
        exact (.cons rfl (.cons rfl (.cons rfl (.cons rfl (.cons rfl (.cons rfl (.cons (zf (Eq.symm zol)) (.cons (zf zom) .nil))))))))
      refine WD.done (by kernel_rfl) ?_
      refine WX.a ?_
      refine WC.cond rfl (fun zon=>?_) (fun zon=>?_)
      ·replace h:=yd h zon
       refine WC.skip (WX.a (WC.block (WC.a (WL.pu rfl (WL.pu rfl (WL.pu rfl (WL.nil (WX.yi ?_))))))))
       exact WX.round (G:=Nat × Int) ⟨zod,(i64 (z1Q - 1))⟩ h (Nat.lt_succ_self _) (.cons rfl (.cons rfl (.cons rfl (.cons rfl .nil)))) (.cons .here (.cons .here .nil))
      ·replace h:=ye h zon
       refine WC.exit (WX.yf (WX.yf (WX.yv ?_)))
       exact WX.mid (G:=Int) z1Q h (.cons rfl (.cons rfl (.cons rfl (.cons rfl .nil)))) (.cons .here (.cons .here .nil))
     ·rintro zz h
      replace h:=(zEl zz).symm.trans h
      refine WC.freezeS (ls:=zk) .h1 .here hz (RR.flat (enc:=e54) (fun _=>rfl) _) ?_
      intro z5V zuj zuk
      obtain ⟨zEp,h⟩:=yj h
      obtain ⟨zul,h⟩:=yj h
      obtain ⟨zEq,h⟩:=yj h
      obtain ⟨zEr,h⟩:=yj h
      obtain ⟨zEs,h⟩:=yj h
      obtain ⟨zEt,h⟩:=yj h
      refine WC.yH (fun i=>[4,10,14].contains i) [fz z5V] rfl ?_
      refine WD.a (i:=1) (d:=37) (by kernel_rfl) rfl z6 z7 rfl rfl rfl (fun _=>q_m rfl) ?_
      refine WD.a (i:=2) (d:=38) (by kernel_rfl) rfl z6 z7 rfl rfl rfl (fun _=>q_m rfl) ?_
      refine WD.zsub (j:=3) (dd:=39) (by kernel_rfl) rfl z6 z7 rfl rfl (Z:=(Z ++ z5V)) (Pr:=(fun r x=>r = e54 x)) yS rfl zuk (fun _=>ixn) (fun _=>ixo rfl) rfl rfl zEp (List.drop_zero).symm ?_
      rintro zoo zop zum
      refine WD.a (i:=5) (d:=41) (by kernel_rfl) rfl z6 z7 rfl rfl rfl (fun _=>q_m rfl) ?_
      refine WD.a (i:=6) (d:=42) (by kernel_rfl) rfl z6 z7 rfl rfl rfl (fun _=>q_m rfl) ?_
      refine WD.znth (j:=7) (dd:=43) (by kernel_rfl) rfl z6 z7 rfl rfl (Z:=(Z ++ z5V)) (Pr:=(fun r x=>r = e54 x)) yS rfl rfl (zog.mono ((Zle.left _ _).trans (zgi.trans zuj))) zEq ?_
      rintro zL5 zL6 zEu zL7 rfl
      refine WD.y2u (i:=8) (d:=44) (by kernel_rfl) rfl z6 z7 rfl rfl rfl (Sin.of (.cons .here .nil)) (y9 y1q rfl (y2k (hz.pv2 .here) zEu) rfl) ?_
      refine WD.a (i:=11) (d:=47) (by kernel_rfl) rfl z6 z7 rfl rfl rfl (fun _=>q_m rfl) ?_
      refine WD.a (i:=12) (d:=48) (by kernel_rfl) rfl z6 z7 rfl rfl rfl (fun _=>q_m rfl) ?_
      refine WD.zsub (j:=13) (dd:=49) (by kernel_rfl) rfl z6 z7 rfl rfl (Z:=(Z ++ z5V)) (Pr:=(fun r x=>r = e54 x)) yS rfl zuk (fun _=>ixo rfl) (fun _=>ixn) rfl rfl zEs (by rw [Int.toNat_natCast,List.take_length]) ?_
      rintro zdL zdM zEv
      refine WD.yaL (fuel':=0) (fun (b0o1_69552 : Nat) (ao4o1_69552 : Option Addr) (cap4o2_69552 : Nat) (b9o1_69552 : Nat) (ao10o1_69552 : Option Addr) (cap10o2_69552 : Nat) (ao14o1_69552 : Option Addr) (cap14o2_69552 : Nat)=>[(0,(.slice z49 ze.length z4a)),(3,(.slice ao14o1_69552 ((((([] : List z2) ++ (zk.take (zz : Int).toNat)) ++ ([(⟨(⟨(((nth ze zd).fB).fN),(((nth ze zd).fB).fD)⟩ : z1),(⟨(((nth ze zd).fR).fN),(((nth ze zd).fR).fD)⟩ : z1)⟩ : z2)] : List z2)) ++ (zk.drop (zz : Int).toNat)).length) cap14o2_69552)),(4,(.int .i64 zd))]) (fun (b0o1_69552 : Nat) (ao4o1_69552 : Option Addr) (cap4o2_69552 : Nat) (b9o1_69552 : Nat) (ao10o1_69552 : Option Addr) (cap10o2_69552 : Nat) (ao14o1_69552 : Option Addr) (cap14o2_69552 : Nat)=>[row (.slice ao14o1_69552 ((((([] : List z2) ++ (zk.take (zz : Int).toNat)) ++ ([(⟨(⟨(((nth ze zd).fB).fN),(((nth ze zd).fB).fD)⟩ : z1),(⟨(((nth ze zd).fR).fN),(((nth ze zd).fR).fD)⟩ : z1)⟩ : z2)] : List z2)) ++ (zk.drop (zz : Int).toNat)).length) cap14o2_69552) 54 4 ((((([] : List z2) ++ (zk.take (zz : Int).toNat)) ++ ([(⟨(⟨(((nth ze zd).fB).fN),(((nth ze zd).fB).fD)⟩ : z1),(⟨(((nth ze zd).fR).fN),(((nth ze zd).fR).fD)⟩ : z1)⟩ : z2)] : List z2)) ++ (zk.drop (zz : Int).toNat)).flatMap e54),row (.slice (some ⟨b9o1_69552,0,none⟩) (([(⟨(⟨(((nth ze zd).fB).fN),(((nth ze zd).fB).fD)⟩ : z1),(⟨(((nth ze zd).fR).fN),(((nth ze zd).fR).fD)⟩ : z1)⟩ : z2)] : List z2).length) 1) 54 4 (([(⟨(⟨(((nth ze zd).fB).fN),(((nth ze zd).fB).fD)⟩ : z1),(⟨(((nth ze zd).fR).fN),(((nth ze zd).fR).fD)⟩ : z1)⟩ : z2)] : List z2).flatMap e54),fz z5V]) (fun (b0o1_69552 : Nat) (ao4o1_69552 : Option Addr) (cap4o2_69552 : Nat) (b9o1_69552 : Nat) (ao10o1_69552 : Option Addr) (cap10o2_69552 : Nat) (ao14o1_69552 : Option Addr) (cap14o2_69552 : Nat)=>True) (yC 16 [15,14,10,9,4,0,13,12,11,8,7,6,5,3,2,1]) ?_ (fun K0o4o9o10o14o15_69552=>?_)
      ·skip
       rintro b0o1_69552 ao4o1_69552 cap4o2_69552 b9o1_69552 ao10o1_69552 cap10o2_69552 ao14o1_69552 cap14o2_69552 _
       refine WD.done (by kernel_rfl) ?_
       refine WX.yi ?_
       exact WX.mid (G:=List z2 × Zp × Option Addr × Nat) ⟨(((([] : List z2) ++ (zk.take (zz : Int).toNat)) ++ ([(⟨(⟨(((nth ze zd).fB).fN),(((nth ze zd).fB).fD)⟩ : z1),(⟨(((nth ze zd).fR).fN),(((nth ze zd).fR).fD)⟩ : z1)⟩ : z2)] : List z2)) ++ (zk.drop (zz : Int).toNat)),z5V,ao14o1_69552,cap14o2_69552⟩ ⟨h,zuj⟩ (.cons rfl (.cons rfl (.cons rfl .nil))) (.cons .h2 (.cons .here .nil))
      refine WD.y83 (fuel':=2) (fun (b0o1_69552 : Nat) (ao4o1_69552 : Option Addr) (cap4o2_69552 : Nat) (b9o1_69552 : Nat) (ao10o1_69552 : Option Addr) (cap10o2_69552 : Nat)=>[(0,(.slice z49 ze.length z4a)),(3,(.slice z3r zk.length z3s)),(4,(.int .i64 zd)),(49,(.slice zdL ((zk.drop (zz : Int).toNat).length) zdM)),(46,(.slice ao10o1_69552 (((([] : List z2) ++ (zk.take (zz : Int).toNat)) ++ ([(⟨(⟨(((nth ze zd).fB).fN),(((nth ze zd).fB).fD)⟩ : z1),(⟨(((nth ze zd).fR).fN),(((nth ze zd).fR).fD)⟩ : z1)⟩ : z2)] : List z2)).length) cap10o2_69552))]) (fun (b0o1_69552 : Nat) (ao4o1_69552 : Option Addr) (cap4o2_69552 : Nat) (b9o1_69552 : Nat) (ao10o1_69552 : Option Addr) (cap10o2_69552 : Nat)=>[row (.slice ao10o1_69552 (((([] : List z2) ++ (zk.take (zz : Int).toNat)) ++ ([(⟨(⟨(((nth ze zd).fB).fN),(((nth ze zd).fB).fD)⟩ : z1),(⟨(((nth ze zd).fR).fN),(((nth ze zd).fR).fD)⟩ : z1)⟩ : z2)] : List z2)).length) cap10o2_69552) 54 4 (((([] : List z2) ++ (zk.take (zz : Int).toNat)) ++ ([(⟨(⟨(((nth ze zd).fB).fN),(((nth ze zd).fB).fD)⟩ : z1),(⟨(((nth ze zd).fR).fN),(((nth ze zd).fR).fD)⟩ : z1)⟩ : z2)] : List z2)).flatMap e54),row (.slice (some ⟨b9o1_69552,0,none⟩) (([(⟨(⟨(((nth ze zd).fB).fN),(((nth ze zd).fB).fD)⟩ : z1),(⟨(((nth ze zd).fR).fN),(((nth ze zd).fR).fD)⟩ : z1)⟩ : z2)] : List z2).length) 1) 54 4 (([(⟨(⟨(((nth ze zd).fB).fN),(((nth ze zd).fB).fD)⟩ : z1),(⟨(((nth ze zd).fR).fN),(((nth ze zd).fR).fD)⟩ : z1)⟩ : z2)] : List z2).flatMap e54),fz z5V]) (fun (b0o1_69552 : Nat) (ao4o1_69552 : Option Addr) (cap4o2_69552 : Nat) (b9o1_69552 : Nat) (ao10o1_69552 : Option Addr) (cap10o2_69552 : Nat)=>True) (yC 16 [10,9,4,0,13,12,11,8,7,6,5,3,2,1]) ?_ (fun K0o4o9o10_69552=>?_)
      ·skip
       rintro b0o1_69552 ao4o1_69552 cap4o2_69552 b9o1_69552 ao10o1_69552 cap10o2_69552 _
       refine WD.old (i:=14) (dd:=50) rfl (by kernel_rfl) rfl rfl rfl rfl (fun _=>(Sin.of (.cons .h2 .nil))) (y2c (enc:=e54) (l1:=(([] : List z2) ++ (zk.take (zz : Int).toNat)) ++ ([(⟨(⟨(((nth ze zd).fB).fN),(((nth ze zd).fB).fD)⟩ : z1),(⟨(((nth ze zd).fR).fN),(((nth ze zd).fR).fD)⟩ : z1)⟩ : z2)] : List z2)) (l2:=zk.drop (zz : Int).toNat) yS rfl rfl .here (fun _=>rfl) rfl rfl (y7H (hz.pv2 .h2) zEv) (y3g y7K _) zEt) ?_
       rintro ⟨ao14o1_69552,cap14o2_69552⟩ _
       refine WD.a (i:=15) (d:=3) (by kernel_rfl) rfl z6 z7 rfl rfl rfl (fun _=>q_z rfl) ?_
       exact WD.yt (.cons .here (.cons .here (.cons .here .nil))) (.cons rfl (.cons rfl (.cons rfl .nil))) (K0o4o9o10o14o15_69552 b0o1_69552 ao4o1_69552 cap4o2_69552 b9o1_69552 ao10o1_69552 cap10o2_69552 ao14o1_69552 cap14o2_69552 trivial)
      refine WD.y9g (fuel':=3) (fun (b0o1_69552 : Nat) (ao4o1_69552 : Option Addr) (cap4o2_69552 : Nat) (b9o1_69552 : Nat)=>[(0,(.slice z49 ze.length z4a)),(3,(.slice z3r zk.length z3s)),(4,(.int .i64 zd)),(49,(.slice zdL ((zk.drop (zz : Int).toNat).length) zdM)),(40,(.slice ao4o1_69552 ((([] : List z2) ++ (zk.take (zz : Int).toNat)).length) cap4o2_69552)),(45,(.slice (some ⟨b9o1_69552,0,none⟩) (([(⟨(⟨(((nth ze zd).fB).fN),(((nth ze zd).fB).fD)⟩ : z1),(⟨(((nth ze zd).fR).fN),(((nth ze zd).fR).fD)⟩ : z1)⟩ : z2)] : List z2).length) 1))]) (fun (b0o1_69552 : Nat) (ao4o1_69552 : Option Addr) (cap4o2_69552 : Nat) (b9o1_69552 : Nat)=>[row (.slice (some ⟨b9o1_69552,0,none⟩) (([(⟨(⟨(((nth ze zd).fB).fN),(((nth ze zd).fB).fD)⟩ : z1),(⟨(((nth ze zd).fR).fN),(((nth ze zd).fR).fD)⟩ : z1)⟩ : z2)] : List z2).length) 1) 54 4 (([(⟨(⟨(((nth ze zd).fB).fN),(((nth ze zd).fB).fD)⟩ : z1),(⟨(((nth ze zd).fR).fN),(((nth ze zd).fR).fD)⟩ : z1)⟩ : z2)] : List z2).flatMap e54),row (.slice ao4o1_69552 ((([] : List z2) ++ (zk.take (zz : Int).toNat)).length) cap4o2_69552) 54 4 ((([] : List z2) ++ (zk.take (zz : Int).toNat)).flatMap e54),fz z5V]) (fun (b0o1_69552 : Nat) (ao4o1_69552 : Option Addr) (cap4o2_69552 : Nat) (b9o1_69552 : Nat)=>True) (yC 16 [9,4,0,13,12,11,8,7,6,5,3,2,1]) ?_ (fun K0o4o9_69552=>?_)
      ·skip
       rintro b0o1_69552 ao4o1_69552 cap4o2_69552 b9o1_69552 _
       refine WD.old (i:=10) (dd:=46) rfl (by kernel_rfl) rfl rfl rfl rfl (fun _=>(Sin.of (.cons .h2 .nil))) (y2c (enc:=e54) (l1:=([] : List z2) ++ (zk.take (zz : Int).toNat)) (l2:=([(⟨(⟨(((nth ze zd).fB).fN),(((nth ze zd).fB).fD)⟩ : z1),(⟨(((nth ze zd).fR).fN),(((nth ze zd).fR).fD)⟩ : z1)⟩ : z2)] : List z2)) yS rfl rfl .h1 (fun _=>rfl) rfl rfl (y4z .here) (y3g y7K _) zEr) ?_
       rintro ⟨ao10o1_69552,cap10o2_69552⟩ _
       exact WD.yt (.cons .here (.cons .here (.cons .here .nil))) (.cons rfl (.cons rfl (.cons rfl (.cons rfl (.cons rfl .nil))))) (K0o4o9o10_69552 b0o1_69552 ao4o1_69552 cap4o2_69552 b9o1_69552 ao10o1_69552 cap10o2_69552 trivial)
      refine WD.y9f (fuel':=4) (fun (b0o1_69552 : Nat) (ao4o1_69552 : Option Addr) (cap4o2_69552 : Nat)=>[(0,(.slice z49 ze.length z4a)),(3,(.slice z3r zk.length z3s)),(4,(.int .i64 zd)),(44,(.agg #[(.int .i64 (((nth ze zd).fB).fN)),(.int .i64 (((nth ze zd).fB).fD)),(.int .i64 (((nth ze zd).fR).fN)),(.int .i64 (((nth ze zd).fR).fD))])),(49,(.slice zdL ((zk.drop (zz : Int).toNat).length) zdM)),(40,(.slice ao4o1_69552 ((([] : List z2) ++ (zk.take (zz : Int).toNat)).length) cap4o2_69552))]) (fun (b0o1_69552 : Nat) (ao4o1_69552 : Option Addr) (cap4o2_69552 : Nat)=>[row (.slice ao4o1_69552 ((([] : List z2) ++ (zk.take (zz : Int).toNat)).length) cap4o2_69552) 54 4 ((([] : List z2) ++ (zk.take (zz : Int).toNat)).flatMap e54),fz z5V]) (fun (b0o1_69552 : Nat) (ao4o1_69552 : Option Addr) (cap4o2_69552 : Nat)=>True) (yC 16 [4,0,13,12,11,8,7,6,5,3,2,1]) ?_ (fun K0o4_69552=>?_)
      ·skip
       rintro b0o1_69552 ao4o1_69552 cap4o2_69552 _
       refine WD.new (i:=9) (dd:=45) rfl (by kernel_rfl) rfl rfl rfl (yA (cs:=([(⟨(⟨(((nth ze zd).fB).fN),(((nth ze zd).fB).fD)⟩ : z1),(⟨(((nth ze zd).fR).fN),(((nth ze zd).fR).fD)⟩ : z1)⟩ : z2)] : List z2).flatMap e54) yS (Eos.parts (l:=[.tmp 44]) (.cons rfl .nil) [0]) (fun _=>by kernel_rfl) rfl (by unfold maxLen; omega)) (fun h'=>absurd h' (by decide)) ?_
       intro b9o1_69552 _
       exact WD.yt (.cons .here (.cons .here (.cons .here .nil))) (.cons rfl (.cons rfl (.cons rfl (.cons rfl (.cons rfl (.cons rfl .nil)))))) (K0o4o9_69552 b0o1_69552 ao4o1_69552 cap4o2_69552 b9o1_69552 trivial)
      refine WD.y9e (fuel':=4) (fun (b0o1_69552 : Nat) (b9o1_69552 : Nat)=>[(0,(.slice z49 ze.length z4a)),(3,(.slice z3r zk.length z3s)),(4,(.int .i64 zd)),(39,(.slice zoo ((zk.take (zz : Int).toNat).length) zop)),(49,(.slice zdL ((zk.drop (zz : Int).toNat).length) zdM)),(36,(.slice (some ⟨b0o1_69552,0,none⟩) (([] : List z2).length) 0)),(45,(.slice (some ⟨b9o1_69552,0,none⟩) (([(⟨(⟨(((nth ze zd).fB).fN),(((nth ze zd).fB).fD)⟩ : z1),(⟨(((nth ze zd).fR).fN),(((nth ze zd).fR).fD)⟩ : z1)⟩ : z2)] : List z2).length) 1))]) (fun (b0o1_69552 : Nat) (b9o1_69552 : Nat)=>[row (.slice (some ⟨b9o1_69552,0,none⟩) (([(⟨(⟨(((nth ze zd).fB).fN),(((nth ze zd).fB).fD)⟩ : z1),(⟨(((nth ze zd).fR).fN),(((nth ze zd).fR).fD)⟩ : z1)⟩ : z2)] : List z2).length) 1) 54 4 (([(⟨(⟨(((nth ze zd).fB).fN),(((nth ze zd).fB).fD)⟩ : z1),(⟨(((nth ze zd).fR).fN),(((nth ze zd).fR).fD)⟩ : z1)⟩ : z2)] : List z2).flatMap e54),row (.slice (some ⟨b0o1_69552,0,none⟩) (([] : List z2).length) 0) 54 4 (([] : List z2).flatMap e54),fz z5V]) (fun (b0o1_69552 : Nat) (b9o1_69552 : Nat)=>True) (yC 16 [9,0,13,12,11,8,7,6,5,3,2,1]) ?_ (fun K0o9_69552=>?_)
      ·skip
       rintro b0o1_69552 b9o1_69552 _
       refine WD.old (i:=4) (dd:=40) rfl (by kernel_rfl) rfl rfl rfl rfl (fun _=>(Sin.of (.cons .h2 .nil))) (y2c (enc:=e54) (l1:=([] : List z2)) (l2:=zk.take (zz : Int).toNat) yS rfl rfl .h1 (fun _=>rfl) rfl rfl (y7H (hz.pv2 .h2) zum) (y3g y7K _) zul) ?_
       rintro ⟨ao4o1_69552,cap4o2_69552⟩ _
       exact WD.yt (.cons .h1 (.cons .here (.cons .here .nil))) (.cons rfl (.cons rfl (.cons rfl (.cons rfl (.cons rfl (.cons rfl .nil)))))) (K0o4o9_69552 b0o1_69552 ao4o1_69552 cap4o2_69552 b9o1_69552 trivial)
      refine WD.y5C (fuel':=5) (fun (b0o1_69552 : Nat)=>[(0,(.slice z49 ze.length z4a)),(3,(.slice z3r zk.length z3s)),(4,(.int .i64 zd)),(39,(.slice zoo ((zk.take (zz : Int).toNat).length) zop)),(44,(.agg #[(.int .i64 (((nth ze zd).fB).fN)),(.int .i64 (((nth ze zd).fB).fD)),(.int .i64 (((nth ze zd).fR).fN)),(.int .i64 (((nth ze zd).fR).fD))])),(49,(.slice zdL ((zk.drop (zz : Int).toNat).length) zdM)),(36,(.slice (some ⟨b0o1_69552,0,none⟩) (([] : List z2).length) 0))]) (fun (b0o1_69552 : Nat)=>[row (.slice (some ⟨b0o1_69552,0,none⟩) (([] : List z2).length) 0) 54 4 (([] : List z2).flatMap e54),fz z5V]) (fun (b0o1_69552 : Nat)=>True) (yC 16 [0,13,12,11,8,7,6,5,3,2,1]) ?_ (fun K0_69552=>?_)
      ·skip
       rintro b0o1_69552 _
       refine WD.choose [4,9] (by kernel_rfl) rfl ?_
       refine WDo.cons ?_ (WDo.cons ?_ (WDo.nil))
       ·refine WDo.old (i:=4) (dd:=40) rfl rfl rfl rfl rfl (fun _=>(Sin.of (.cons .h1 .nil))) (y2c (enc:=e54) (l1:=([] : List z2)) (l2:=zk.take (zz : Int).toNat) yS rfl rfl .here (fun _=>rfl) rfl rfl (y7H (hz.pv2 .h1) zum) (y3g y7K _) zul) ?_
        rintro ⟨ao4o1_69552,cap4o2_69552⟩ _
        exact WD.yt (.cons .here (.cons .here .nil)) (.cons rfl (.cons rfl (.cons rfl (.cons rfl (.cons rfl (.cons rfl .nil)))))) (K0o4_69552 b0o1_69552 ao4o1_69552 cap4o2_69552 trivial)
       ·refine WDo.new (i:=9) (dd:=45) rfl rfl rfl rfl (yA (cs:=([(⟨(⟨(((nth ze zd).fB).fN),(((nth ze zd).fB).fD)⟩ : z1),(⟨(((nth ze zd).fR).fN),(((nth ze zd).fR).fD)⟩ : z1)⟩ : z2)] : List z2).flatMap e54) yS (Eos.parts (l:=[.tmp 44]) (.cons rfl .nil) [0]) (fun _=>by kernel_rfl) rfl (by unfold maxLen; omega)) (fun h'=>absurd h' (by decide)) ?_
        intro b9o1_69552 _
        exact WD.yt (.cons .here (.cons .here (.cons .here .nil))) (.cons rfl (.cons rfl (.cons rfl (.cons rfl (.cons rfl (.cons rfl (.cons rfl .nil))))))) (K0o9_69552 b0o1_69552 b9o1_69552 trivial)
      refine WD.y5C (fuel':=5) (fun (b9o1_69552 : Nat)=>[(0,(.slice z49 ze.length z4a)),(3,(.slice z3r zk.length z3s)),(4,(.int .i64 zd)),(39,(.slice zoo ((zk.take (zz : Int).toNat).length) zop)),(49,(.slice zdL ((zk.drop (zz : Int).toNat).length) zdM)),(45,(.slice (some ⟨b9o1_69552,0,none⟩) (([(⟨(⟨(((nth ze zd).fB).fN),(((nth ze zd).fB).fD)⟩ : z1),(⟨(((nth ze zd).fR).fN),(((nth ze zd).fR).fD)⟩ : z1)⟩ : z2)] : List z2).length) 1))]) (fun (b9o1_69552 : Nat)=>[row (.slice (some ⟨b9o1_69552,0,none⟩) (([(⟨(⟨(((nth ze zd).fB).fN),(((nth ze zd).fB).fD)⟩ : z1),(⟨(((nth ze zd).fR).fN),(((nth ze zd).fR).fD)⟩ : z1)⟩ : z2)] : List z2).length) 1) 54 4 (([(⟨(⟨(((nth ze zd).fB).fN),(((nth ze zd).fB).fD)⟩ : z1),(⟨(((nth ze zd).fR).fN),(((nth ze zd).fR).fD)⟩ : z1)⟩ : z2)] : List z2).flatMap e54),fz z5V]) (fun (b9o1_69552 : Nat)=>True) (yC 16 [9,13,12,11,8,7,6,5,3,2,1]) ?_ (fun K9_69552=>?_)
      ·skip
       rintro b9o1_69552 _
       refine WD.new (i:=0) (dd:=36) rfl (by kernel_rfl) rfl rfl rfl (yA (cs:=([] : List z2).flatMap e54) yS (Eos.parts (l:=[]) .nil []) (fun _=>by kernel_rfl) rfl (by unfold maxLen; omega)) (fun h'=>absurd h' (by decide)) ?_
       intro b0o1_69552 _
       exact WD.yt (.cons .h1 (.cons .here (.cons .here .nil))) (.cons rfl (.cons rfl (.cons rfl (.cons rfl (.cons rfl (.cons rfl (.cons rfl .nil))))))) (K0o9_69552 b0o1_69552 b9o1_69552 trivial)
      refine WD.choose [0,9] (by kernel_rfl) rfl ?_
      refine WDo.cons ?_ (WDo.cons ?_ (WDo.nil))
      ·refine WDo.new (i:=0) (dd:=36) rfl rfl rfl rfl (yA (cs:=([] : List z2).flatMap e54) yS (Eos.parts (l:=[]) .nil []) (fun _=>by kernel_rfl) rfl (by unfold maxLen; omega)) (fun h'=>absurd h' (by decide)) ?_
       intro b0o1_69552 _
       exact WD.yt (.cons .here (.cons .here .nil)) (.cons rfl (.cons rfl (.cons rfl (.cons rfl (.cons rfl (.cons rfl (.cons rfl .nil))))))) (K0_69552 b0o1_69552 trivial)
      ·refine WDo.new (i:=9) (dd:=45) rfl rfl rfl rfl (yA (cs:=([(⟨(⟨(((nth ze zd).fB).fN),(((nth ze zd).fB).fD)⟩ : z1),(⟨(((nth ze zd).fR).fN),(((nth ze zd).fR).fD)⟩ : z1)⟩ : z2)] : List z2).flatMap e54) yS (Eos.parts (l:=[.tmp 44]) (.cons rfl .nil) [0]) (fun _=>by kernel_rfl) rfl (by unfold maxLen; omega)) (fun h'=>absurd h' (by decide)) ?_
       intro b9o1_69552 _
       exact WD.yt (.cons .here (.cons .here .nil)) (.cons rfl (.cons rfl (.cons rfl (.cons rfl (.cons rfl (.cons rfl .nil)))))) (K9_69552 b9o1_69552 trivial)
   ·rintro z6w zdH zdI zdJ ⟨h,zEw⟩
    replace h:=(zEj z6w).symm.trans h
    refine WC.a (WL.pu rfl (WL.pu rfl (WL.pu rfl (WL.nil ?_))))
    exact WX.round (G:=Nat × List z2 × Int × Zp × Option Addr × Nat) ⟨zof,z6w,(i64 (zd + 1)),zdH,zdI,zdJ⟩ ⟨h,(zgi.trans zEw)⟩ (Nat.lt_succ_self _) (.cons rfl (.cons rfl (.cons rfl .nil))) (.cons .here (.cons .here .nil))
  ·replace h:=ye h zoh
   refine WC.exit (WX.yf (WX.yf (WX.yv ?_)))
   exact WX.mid (G:=List z2 × Zp × Option Addr × Nat) ⟨zk,z5U,z3r,z3s⟩ ⟨h,zgi⟩ (.cons rfl .nil) (.cons .here (.cons .here .nil))
 ·rintro z73 zdD zdE zdF ⟨h,zL8⟩
  replace h:=(zEi z73).symm.trans h
  refine WC.b (WC.a (WL.pu rfl (WL.pu rfl (WL.nil (WX.a (WC.ret ?_))))))
  obtain rfl:=Option.some.inj h
  refine WX.y8 Tryz.results81 (.tmp rfl .nil) (fun w hw=>?_)
  exact ⟨zdD,zdE,zdF,yD rfl,trivial,hw.sub (.cons .here (.cons .here .nil))⟩
def y26 (zp : List z1) (zq : z1) (z8v : Int → Option (List z1)) : Nat → Int → Option (List z1)
 | 0,_=>none
 | zoq + 1,z2r=>(if decide (z2r > 0) then chk ((0 : Int) ≤ (i64 (z2r - 1)) ∧ (i64 (z2r - 1)) < ((zp.length : Nat) : Int)) ((yE (⟨((nth zp (i64 (z2r - 1))).fN),((nth zp (i64 (z2r - 1))).fD)⟩ : z1) zq).bind fun zun=>some (decide (zun > 0))) else some false).bind fun zor=>if zor then y26 zp zq z8v zoq (i64 (z2r - 1)) else z8v z2r
theorem y7w {n : Nat} {zp : List z1} {zq : z1} {z8v : Int → Option (List z1)} {z2r : Int} {r : List z1} (h : y26 zp zq z8v n z2r = some r) : ∃ m,n = m + 1:=by
 cases n with
 | zero=>cases h
 | succ m=>exact ⟨m,rfl⟩
def y3v (zp : List z1) (zq : z1) : Option (List z1) :=
 jp1 (fun (zt : Int)=>chk ((decide (zt > 0)) = true → ((0 : Int) ≤ (i64 (zt - 1)) ∧ (i64 (zt - 1)) < ((zp.length : Nat) : Int))) (if (decide (zt > 0)) && (decide ((⟨((nth zp (i64 (zt - 1))).fN),((nth zp (i64 (zt - 1))).fD)⟩ : z1) = zq)) then some zp else chk ((0 : Int) ≤ 0 ∧ (0 : Int) ≤ zt ∧ zt ≤ ((zp.length : Nat) : Int)) (chk ((((([] : List z1) ++ (zp.take (zt : Int).toNat)).length : Nat) : Int) * 16 ≤ 140737488355328 ∧ (((([] : List z1) ++ (zp.take (zt : Int).toNat)).length : Nat) : Int) ≤ 4611686018427387904) (chk (((((([] : List z1) ++ (zp.take (zt : Int).toNat)) ++ ([zq] : List z1)).length : Nat) : Int) * 16 ≤ 140737488355328 ∧ ((((([] : List z1) ++ (zp.take (zt : Int).toNat)) ++ ([zq] : List z1)).length : Nat) : Int) ≤ 4611686018427387904) (chk ((0 : Int) ≤ zt ∧ (zt : Int) ≤ (zp.length : Int) ∧ (zp.length : Int) ≤ ((zp.length : Nat) : Int)) (chk ((((((([] : List z1) ++ (zp.take (zt : Int).toNat)) ++ ([zq] : List z1)) ++ (zp.drop (zt : Int).toNat)).length : Nat) : Int) * 16 ≤ 140737488355328 ∧ (((((([] : List z1) ++ (zp.take (zt : Int).toNat)) ++ ([zq] : List z1)) ++ (zp.drop (zt : Int).toNat)).length : Nat) : Int) ≤ 4611686018427387904) (some (((([] : List z1) ++ (zp.take (zt : Int).toNat)) ++ ([zq] : List z1)) ++ (zp.drop (zt : Int).toNat))))))))) fun z8v=>y26 zp zq z8v yu ((zp.length : Nat) : Int)
set_option maxRecDepth 20000 in
theorem ya8 (Z : Zp) (z8w : Option Addr) (z8x : Nat) (zp : List z1) (zq : z1) (r : List z1)
  (h : y3v zp zq = some r) (w₀ : World) (hz : PZ [] w₀ Z)
  (zgk : ZS Z 2 (fun r x=>r = e40 x) z8w z8x zp) :
  Calls Tryz.prog 82 #[(.slice z8w zp.length z8x),(.agg #[(.int .i64 zq.fN),(.int .i64 zq.fD)])] w₀ fun e w'=>∃ Zn : Zp,∃ zuo : Option Addr,∃ zup : Nat,e = .returned (.slice zuo r.length zup) ∧ (ZS (Z ++ Zn) 2 (fun r x=>r = e40 x) zuo zup r) ∧ Hp [] w₀ w' [fz Zn]:=by
 unfold y3v at h
 refine Calls.yg (vs:=[(.slice z8w zp.length z8x),(.agg #[(.int .i64 zq.fN),(.int .i64 zq.fD)])]) (pre:=[]) (env:=[(0,(.slice z8w zp.length z8x)),(1,(.agg #[(.int .i64 zq.fN),(.int .i64 zq.fD)]))]) Tryz.func82 rfl Tryz.ntmps82 rfl (Hp.nil w₀ _) rfl ?_
 refine WC.pool (WC.b (WC.a ?_))
 refine WL.new (dd:=3) rfl rfl rfl (yx (cs:=[(.int .i64 zq.fN),(.int .i64 zq.fD)]) rfl rfl) ?_
 intro z4S _
 refine WL.pu rfl (WL.nil (WX.a (WC.b (WC.a (WL.pu rfl ?_)))))
 refine WL.a (d:=7) rfl rfl rfl (yP Tryz.underlying65 rfl) ?_
 refine WL.pu rfl (WL.nil (WX.a ?_))
 obtain ⟨z8v,zEx,h⟩:=y12 h
 refine WC.y3w (fun (zt : Int)=>(z8v zt = some r)) (fun (zt : Int)=>[(0,(.slice z8w zp.length z8x)),(3,(.pointer (some ⟨z4S,0,none⟩))),(5,(.int .i64 zt))]) (fun (zt : Int)=>[fz [],stb z4S 40 [(.int .i64 zq.fN),(.int .i64 zq.fD)]]) ?_ ?_
 ·skip
  refine WC.block ?_
  refine WC.y35 (fun (zdN : Nat) (z2r : Int)=>(y26 zp zq z8v zdN z2r = some r)) (fun (zdN : Nat) (z2r : Int)=>[(0,(.slice z8w zp.length z8x)),(3,(.pointer (some ⟨z4S,0,none⟩))),(5,(.int .i64 z2r))]) (fun (zdN : Nat) (z2r : Int)=>[fz [],stb z4S 40 [(.int .i64 zq.fN),(.int .i64 zq.fD)]]) (fun (zdN : Nat) (z2r : Int)=>zdN) ⟨yu,((zp.length : Nat) : Int)⟩ h (.cons rfl (.cons rfl (.cons rfl .nil))) (.cons .h1 (.cons .here .nil)) ?_
  rintro zdN z2r h
  obtain ⟨zoq,rfl⟩:=y7w h
  rw [y26] at h
  refine WC.b (WC.b ?_)
  obtain ⟨zor,zuq,h⟩:=z8 h
  refine WC.yH (fun i=>[].contains i) [] rfl ?_
  refine WD.a (i:=0) (d:=8) (by kernel_rfl) rfl z6 z7 rfl rfl rfl (fun _=>q_m rfl) ?_
  refine WD.a (i:=1) (d:=9) (by kernel_rfl) rfl z6 z7 rfl rfl rfl (fun _=>y5x rfl rfl) ?_
  refine WD.a (i:=2) (d:=10) (by kernel_rfl) rfl z6 z7 rfl rfl rfl (fun _=>q_m rfl) ?_
  refine WD.mid (fuel':=0) [(0,(.slice z8w zp.length z8x)),(3,(.pointer (some ⟨z4S,0,none⟩))),(5,(.int .i64 z2r)),(8,(.int .i64 z2r)),(9,(.bool (decide (z2r > 0)))),(10,(.bool (decide (z2r > 0)))),(19,(.bool zor))] (yC 12 [11,10,9,8,7,6,5,4,3,2,1,0]) ?_ (fun zur=>?_)
  rotate_left
  ·rcases Bool.eq_false_or_eq_true (decide (z2r > 0)) with hb' | hb'
   ·have zos:=hb'; clear hb'
    have zbC:=yd zuq zos
    obtain ⟨zEy,zbC⟩:=yj zbC
    obtain ⟨zun,zEz,zbC⟩:=z8 zbC
    replace zbC:=Option.some.inj zbC
    refine WD.pin (i:=10) rfl zos ?_
    refine WD.a (i:=3) (d:=11) (by kernel_rfl) rfl z6 z7 rfl rfl rfl (fun _=>q_m rfl) ?_
    refine WD.a (i:=4) (d:=12) (by kernel_rfl) rfl z6 z7 rfl rfl rfl (fun _=>q_m rfl) ?_
    refine WD.a (i:=5) (d:=13) (by kernel_rfl) rfl z6 z7 rfl rfl rfl (fun _=>y6L rfl rfl rfl) ?_
    refine WD.znth (j:=6) (dd:=14) (by kernel_rfl) rfl z6 z7 rfl rfl (Z:=(Z ++ [])) (Pr:=(fun r x=>r = e40 x)) yK rfl rfl (zgk.mono (Zle.left _ _)) zEy ?_
    rintro zL9 zLa zEA zLb rfl
    refine WD.e (i:=7) (d:=15) (by kernel_rfl) rfl z6 z7 rfl rfl rfl (y9 y5 rfl (y2k (hz.pv2 .here) zEA) rfl) ?_
    refine WD.e (i:=8) (d:=16) (by kernel_rfl) rfl z6 z7 rfl rfl rfl (y9 y5 rfl (y7 .h1) rfl) ?_
    refine WD.c (i:=9) (d:=17) (by kernel_rfl) rfl z6 z7 rfl rfl rfl (za (l:=[.tmp 15,.tmp 16]) Tryz.call28 (.cons rfl (.cons rfl .nil))) (ccz hz .nil .here fun w pz ho=>y2H _ _ _ _ zEz w pz ) ?_
    refine WD.a (i:=10) (d:=18) (by kernel_rfl) rfl z6 z7 rfl rfl rfl (fun _=>y5x rfl rfl) ?_
    refine WD.a (i:=11) (d:=19) (by kernel_rfl) rfl z6 z7 rfl rfl rfl (fun _=>y18 rfl rfl) ?_
    refine WD.yt (.cons .here (.cons .here .nil)) ?_ zur
    exact (.cons rfl (.cons rfl (.cons rfl (.cons rfl (.cons rfl (.cons (zf (Eq.symm zos)) (.cons (zf zbC) .nil)))))))
   ·have zot:=hb'; clear hb'
    have zou:=ye zuq zot
    replace zou:=Option.some.inj zou
    refine WD.pin (i:=10) rfl zot ?_
    refine WD.b (i:=3) (d:=11) (by kernel_rfl) rfl z6 z7 rfl rfl rfl ?_
    refine WD.b (i:=4) (d:=12) (by kernel_rfl) rfl z6 z7 rfl rfl rfl ?_
    refine WD.b (i:=5) (d:=13) (by kernel_rfl) rfl z6 z7 rfl rfl rfl ?_
    refine WD.b (i:=6) (d:=14) (by kernel_rfl) rfl z6 z7 rfl rfl rfl ?_
    refine WD.b (i:=7) (d:=15) (by kernel_rfl) rfl z6 z7 rfl rfl rfl ?_
    refine WD.b (i:=8) (d:=16) (by kernel_rfl) rfl z6 z7 rfl rfl rfl ?_
    refine WD.b (i:=9) (d:=17) (by kernel_rfl) rfl z6 z7 rfl rfl rfl ?_
    refine WD.b (i:=10) (d:=18) (by kernel_rfl) rfl z6 z7 rfl rfl rfl ?_
    refine WD.a (i:=11) (d:=19) (by kernel_rfl) rfl z6 z7 rfl rfl rfl (fun _=>y19 rfl rfl) ?_
    refine WD.yt (.cons .here (.cons .here .nil)) ?_ zur
    exact (.cons rfl (.cons rfl (.cons rfl (.cons rfl (.cons rfl (.cons (zf (Eq.symm zot)) (.cons (zf zou) .nil)))))))
  refine WD.done (by kernel_rfl) ?_
  refine WX.a ?_
  refine WC.cond rfl (fun zov=>?_) (fun zov=>?_)
  ·replace h:=yd h zov
   refine WC.skip (WX.a (WC.block (WC.a (WL.pu rfl (WL.pu rfl (WL.pu rfl (WL.nil (WX.yi ?_))))))))
   exact WX.round (G:=Nat × Int) ⟨zoq,(i64 (z2r - 1))⟩ h (Nat.lt_succ_self _) (.cons rfl (.cons rfl (.cons rfl .nil))) (.cons .here (.cons .here .nil))
  ·replace h:=ye h zov
   refine WC.exit (WX.yf (WX.yf (WX.yv ?_)))
   exact WX.mid (G:=Int) z2r h (.cons rfl (.cons rfl (.cons rfl .nil))) (.cons .here (.cons .here .nil))
 ·rintro zt h
  replace h:=(zEx zt).symm.trans h
  refine WC.b (WC.b ?_)
  obtain ⟨zEB,h⟩:=yj h
  refine WC.yH (fun i=>[].contains i) [] rfl ?_
  refine WD.a (i:=0) (d:=22) (by kernel_rfl) rfl z6 z7 rfl rfl rfl (fun _=>q_m rfl) ?_
  refine WD.a (i:=1) (d:=23) (by kernel_rfl) rfl z6 z7 rfl rfl rfl (fun _=>y5x rfl rfl) ?_
  refine WD.a (i:=2) (d:=24) (by kernel_rfl) rfl z6 z7 rfl rfl rfl (fun _=>q_m rfl) ?_
  refine WD.mid (fuel':=0) [(0,(.slice z8w zp.length z8x)),(3,(.pointer (some ⟨z4S,0,none⟩))),(5,(.int .i64 zt)),(22,(.int .i64 zt)),(23,(.bool (decide (zt > 0)))),(24,(.bool (decide (zt > 0)))),(32,(.bool ((decide (zt > 0)) && (decide ((⟨((nth zp (i64 (zt - 1))).fN),((nth zp (i64 (zt - 1))).fD)⟩ : z1) = zq)))))] (yC 11 [10,9,8,7,6,5,4,3,2,1,0]) ?_ (fun zus=>?_)
  rotate_left
  ·rcases Bool.eq_false_or_eq_true (decide (zt > 0)) with hb' | hb'
   ·have zim:=hb'; clear hb'
    have zEC:=zEB zim
    refine WD.pin (i:=24) rfl zim ?_
    refine WD.a (i:=3) (d:=25) (by kernel_rfl) rfl z6 z7 rfl rfl rfl (fun _=>q_m rfl) ?_
    refine WD.a (i:=4) (d:=26) (by kernel_rfl) rfl z6 z7 rfl rfl rfl (fun _=>q_m rfl) ?_
    refine WD.a (i:=5) (d:=27) (by kernel_rfl) rfl z6 z7 rfl rfl rfl (fun _=>y6L rfl rfl rfl) ?_
    refine WD.znth (j:=6) (dd:=28) (by kernel_rfl) rfl z6 z7 rfl rfl (Z:=(Z ++ [])) (Pr:=(fun r x=>r = e40 x)) yK rfl rfl (zgk.mono (Zle.left _ _)) zEC ?_
    rintro zLc zLd zED zLe rfl
    refine WD.e (i:=7) (d:=29) (by kernel_rfl) rfl z6 z7 rfl rfl rfl (y9 y5 rfl (y2k (hz.pv2 .here) zED) rfl) ?_
    refine WD.e (i:=8) (d:=30) (by kernel_rfl) rfl z6 z7 rfl rfl rfl (y9 y5 rfl (y7 .h1) rfl) ?_
    refine WD.a (i:=9) (d:=31) (by kernel_rfl) rfl z6 z7 rfl rfl rfl (fun _=>y4j (enc:=e40) (a:=(⟨((nth zp (i64 (zt - 1))).fN),((nth zp (i64 (zt - 1))).fD)⟩ : z1)) (b:=zq) y6v rfl rfl) ?_
    refine WD.a (i:=10) (d:=32) (by kernel_rfl) rfl z6 z7 rfl rfl rfl (fun _=>y18 rfl rfl) ?_
    refine WD.yt (.cons .here (.cons .here .nil)) ?_ zus
    exact (.cons rfl (.cons rfl (.cons rfl (.cons rfl (.cons rfl (.cons (zf (Eq.symm zim)) (.cons (zf (y31 zim)) .nil)))))))
   ·have zow:=hb'; clear hb'
    refine WD.pin (i:=24) rfl zow ?_
    refine WD.b (i:=3) (d:=25) (by kernel_rfl) rfl z6 z7 rfl rfl rfl ?_
    refine WD.b (i:=4) (d:=26) (by kernel_rfl) rfl z6 z7 rfl rfl rfl ?_
    refine WD.b (i:=5) (d:=27) (by kernel_rfl) rfl z6 z7 rfl rfl rfl ?_
    refine WD.b (i:=6) (d:=28) (by kernel_rfl) rfl z6 z7 rfl rfl rfl ?_
    refine WD.b (i:=7) (d:=29) (by kernel_rfl) rfl z6 z7 rfl rfl rfl ?_
    refine WD.b (i:=8) (d:=30) (by kernel_rfl) rfl z6 z7 rfl rfl rfl ?_
    refine WD.b (i:=9) (d:=31) (by kernel_rfl) rfl z6 z7 rfl rfl rfl ?_
    refine WD.a (i:=10) (d:=32) (by kernel_rfl) rfl z6 z7 rfl rfl rfl (fun _=>y19 rfl rfl) ?_
    refine WD.yt (.cons .here (.cons .here .nil)) ?_ zus
    exact (.cons rfl (.cons rfl (.cons rfl (.cons rfl (.cons rfl (.cons (zf (Eq.symm zow)) (.cons (zf (y30 zow)) .nil)))))))
  refine WD.done (by kernel_rfl) ?_
  refine WX.a ?_
  refine WC.cond rfl (fun zox=>?_) (fun zox=>?_)
  ·replace h:=yd h zox
   refine WC.b (WC.a (WL.pu rfl (WL.pu rfl (WL.nil (WX.a (WC.ret (WX.y6 ?_)))))))
   obtain rfl:=Option.some.inj h
   refine WX.y8 Tryz.results82 (.tmp rfl .nil) (fun w hw=>?_)
   exact ⟨[],z8w,z8x,yD rfl,(zgk.mono (Zle.left _ _)),hw.sub (.cons .here .nil)⟩
  ·replace h:=ye h zox
   refine WC.skip (WX.a (WC.b ?_))
   obtain ⟨zEE,h⟩:=yj h
   obtain ⟨zut,h⟩:=yj h
   obtain ⟨zEF,h⟩:=yj h
   obtain ⟨zEG,h⟩:=yj h
   obtain ⟨zEH,h⟩:=yj h
   refine WC.yH (fun i=>[4,7,11].contains i) [stb z4S 40 [(.int .i64 zq.fN),(.int .i64 zq.fD)]] rfl ?_
   refine WD.a (i:=1) (d:=35) (by kernel_rfl) rfl z6 z7 rfl rfl rfl (fun _=>q_m rfl) ?_
   refine WD.a (i:=2) (d:=36) (by kernel_rfl) rfl z6 z7 rfl rfl rfl (fun _=>q_m rfl) ?_
   refine WD.zsub (j:=3) (dd:=37) (by kernel_rfl) rfl z6 z7 rfl rfl (Z:=(Z ++ [])) (Pr:=(fun r x=>r = e40 x)) yK rfl (zgk.mono (Zle.left _ _)) (fun _=>ixn) (fun _=>ixo rfl) rfl rfl zEE (List.drop_zero).symm ?_
   rintro zoy zoz zuu
   refine WD.y2u (i:=5) (d:=39) (by kernel_rfl) rfl z6 z7 rfl rfl rfl (Sin.of (.cons .h1 .nil)) (y9 y5 rfl (y7 .here) rfl) ?_
   refine WD.a (i:=8) (d:=42) (by kernel_rfl) rfl z6 z7 rfl rfl rfl (fun _=>q_m rfl) ?_
   refine WD.a (i:=9) (d:=43) (by kernel_rfl) rfl z6 z7 rfl rfl rfl (fun _=>q_m rfl) ?_
   refine WD.zsub (j:=10) (dd:=44) (by kernel_rfl) rfl z6 z7 rfl rfl (Z:=(Z ++ [])) (Pr:=(fun r x=>r = e40 x)) yK rfl (zgk.mono (Zle.left _ _)) (fun _=>ixo rfl) (fun _=>ixn) rfl rfl zEG (by rw [Int.toNat_natCast,List.take_length]) ?_
   rintro zdO zdP zEI
   refine WD.yaL (fuel':=0) (fun (b0o1_70555 : Nat) (ao4o1_70555 : Option Addr) (cap4o2_70555 : Nat) (b6o1_70555 : Nat) (ao7o1_70555 : Option Addr) (cap7o2_70555 : Nat) (ao11o1_70555 : Option Addr) (cap11o2_70555 : Nat)=>[(4,(.slice ao11o1_70555 ((((([] : List z1) ++ (zp.take (zt : Int).toNat)) ++ ([zq] : List z1)) ++ (zp.drop (zt : Int).toNat)).length) cap11o2_70555))]) (fun (b0o1_70555 : Nat) (ao4o1_70555 : Option Addr) (cap4o2_70555 : Nat) (b6o1_70555 : Nat) (ao7o1_70555 : Option Addr) (cap7o2_70555 : Nat) (ao11o1_70555 : Option Addr) (cap11o2_70555 : Nat)=>[row (.slice ao11o1_70555 ((((([] : List z1) ++ (zp.take (zt : Int).toNat)) ++ ([zq] : List z1)) ++ (zp.drop (zt : Int).toNat)).length) cap11o2_70555) 40 2 ((((([] : List z1) ++ (zp.take (zt : Int).toNat)) ++ ([zq] : List z1)) ++ (zp.drop (zt : Int).toNat)).flatMap e40),row (.slice (some ⟨b6o1_70555,0,none⟩) (([zq] : List z1).length) 1) 40 2 (([zq] : List z1).flatMap e40),fz [],stb z4S 40 [(.int .i64 zq.fN),(.int .i64 zq.fD)]]) (fun (b0o1_70555 : Nat) (ao4o1_70555 : Option Addr) (cap4o2_70555 : Nat) (b6o1_70555 : Nat) (ao7o1_70555 : Option Addr) (cap7o2_70555 : Nat) (ao11o1_70555 : Option Addr) (cap11o2_70555 : Nat)=>True) (yC 13 [12,11,7,6,4,0,10,9,8,5,3,2,1]) ?_ (fun K0o4o6o7o11o12_70555=>?_)
   ·skip
    rintro b0o1_70555 ao4o1_70555 cap4o2_70555 b6o1_70555 ao7o1_70555 cap7o2_70555 ao11o1_70555 cap11o2_70555 _
    refine WD.done (by kernel_rfl) ?_
    refine WX.a (WC.ret ?_)
    refine WX.freezeS (ls:=((([] : List z1) ++ (zp.take (zt : Int).toNat)) ++ ([zq] : List z1)) ++ (zp.drop (zt : Int).toNat)) .here .h1 hz (RR.flat (enc:=e40) (fun _=>rfl) _) ?_
    intro zEJ zLf zEK
    obtain rfl:=Option.some.inj h
    refine WX.y8 Tryz.results82 (.tmp rfl .nil) (fun w hw=>?_)
    exact ⟨zEJ,ao11o1_70555,cap11o2_70555,yD rfl,zEK,hw.sub (.cons .here .nil)⟩
   refine WD.y83 (fuel':=2) (fun (b0o1_70555 : Nat) (ao4o1_70555 : Option Addr) (cap4o2_70555 : Nat) (b6o1_70555 : Nat) (ao7o1_70555 : Option Addr) (cap7o2_70555 : Nat)=>[(44,(.slice zdO ((zp.drop (zt : Int).toNat).length) zdP)),(41,(.slice ao7o1_70555 (((([] : List z1) ++ (zp.take (zt : Int).toNat)) ++ ([zq] : List z1)).length) cap7o2_70555))]) (fun (b0o1_70555 : Nat) (ao4o1_70555 : Option Addr) (cap4o2_70555 : Nat) (b6o1_70555 : Nat) (ao7o1_70555 : Option Addr) (cap7o2_70555 : Nat)=>[row (.slice ao7o1_70555 (((([] : List z1) ++ (zp.take (zt : Int).toNat)) ++ ([zq] : List z1)).length) cap7o2_70555) 40 2 (((([] : List z1) ++ (zp.take (zt : Int).toNat)) ++ ([zq] : List z1)).flatMap e40),row (.slice (some ⟨b6o1_70555,0,none⟩) (([zq] : List z1).length) 1) 40 2 (([zq] : List z1).flatMap e40),fz [],stb z4S 40 [(.int .i64 zq.fN),(.int .i64 zq.fD)]]) (fun (b0o1_70555 : Nat) (ao4o1_70555 : Option Addr) (cap4o2_70555 : Nat) (b6o1_70555 : Nat) (ao7o1_70555 : Option Addr) (cap7o2_70555 : Nat)=>True) (yC 13 [7,6,4,0,10,9,8,5,3,2,1]) ?_ (fun K0o4o6o7_70555=>?_)
   ·skip
    rintro b0o1_70555 ao4o1_70555 cap4o2_70555 b6o1_70555 ao7o1_70555 cap7o2_70555 _
    refine WD.old (i:=11) (dd:=45) rfl (by kernel_rfl) rfl rfl rfl rfl (fun _=>(Sin.of (.cons .h3 .nil))) (y2c (enc:=e40) (l1:=(([] : List z1) ++ (zp.take (zt : Int).toNat)) ++ ([zq] : List z1)) (l2:=zp.drop (zt : Int).toNat) yK rfl rfl .here (fun _=>rfl) rfl rfl (y7H (hz.pv2 .h2) zEI) (y3g y50 _) zEH) ?_
    rintro ⟨ao11o1_70555,cap11o2_70555⟩ _
    refine WD.a (i:=12) (d:=4) (by kernel_rfl) rfl z6 z7 rfl rfl rfl (fun _=>q_z rfl) ?_
    exact WD.yt (.cons .here (.cons .here (.cons .here (.cons .here .nil)))) (.cons rfl .nil) (K0o4o6o7o11o12_70555 b0o1_70555 ao4o1_70555 cap4o2_70555 b6o1_70555 ao7o1_70555 cap7o2_70555 ao11o1_70555 cap11o2_70555 trivial)
   refine WD.y9g (fuel':=3) (fun (b0o1_70555 : Nat) (ao4o1_70555 : Option Addr) (cap4o2_70555 : Nat) (b6o1_70555 : Nat)=>[(44,(.slice zdO ((zp.drop (zt : Int).toNat).length) zdP)),(38,(.slice ao4o1_70555 ((([] : List z1) ++ (zp.take (zt : Int).toNat)).length) cap4o2_70555)),(40,(.slice (some ⟨b6o1_70555,0,none⟩) (([zq] : List z1).length) 1))]) (fun (b0o1_70555 : Nat) (ao4o1_70555 : Option Addr) (cap4o2_70555 : Nat) (b6o1_70555 : Nat)=>[row (.slice (some ⟨b6o1_70555,0,none⟩) (([zq] : List z1).length) 1) 40 2 (([zq] : List z1).flatMap e40),row (.slice ao4o1_70555 ((([] : List z1) ++ (zp.take (zt : Int).toNat)).length) cap4o2_70555) 40 2 ((([] : List z1) ++ (zp.take (zt : Int).toNat)).flatMap e40),fz [],stb z4S 40 [(.int .i64 zq.fN),(.int .i64 zq.fD)]]) (fun (b0o1_70555 : Nat) (ao4o1_70555 : Option Addr) (cap4o2_70555 : Nat) (b6o1_70555 : Nat)=>True) (yC 13 [6,4,0,10,9,8,5,3,2,1]) ?_ (fun K0o4o6_70555=>?_)
   ·skip
    rintro b0o1_70555 ao4o1_70555 cap4o2_70555 b6o1_70555 _
    refine WD.old (i:=7) (dd:=41) rfl (by kernel_rfl) rfl rfl rfl rfl (fun _=>(Sin.of (.cons .h3 .nil))) (y2c (enc:=e40) (l1:=([] : List z1) ++ (zp.take (zt : Int).toNat)) (l2:=([zq] : List z1)) yK rfl rfl .h1 (fun _=>rfl) rfl rfl (y4z .here) (y3g y50 _) zEF) ?_
    rintro ⟨ao7o1_70555,cap7o2_70555⟩ _
    exact WD.yt (.cons .here (.cons .here (.cons .here (.cons .here .nil)))) (.cons rfl (.cons rfl .nil)) (K0o4o6o7_70555 b0o1_70555 ao4o1_70555 cap4o2_70555 b6o1_70555 ao7o1_70555 cap7o2_70555 trivial)
   refine WD.y9f (fuel':=4) (fun (b0o1_70555 : Nat) (ao4o1_70555 : Option Addr) (cap4o2_70555 : Nat)=>[(39,(.agg #[(.int .i64 zq.fN),(.int .i64 zq.fD)])),(44,(.slice zdO ((zp.drop (zt : Int).toNat).length) zdP)),(38,(.slice ao4o1_70555 ((([] : List z1) ++ (zp.take (zt : Int).toNat)).length) cap4o2_70555))]) (fun (b0o1_70555 : Nat) (ao4o1_70555 : Option Addr) (cap4o2_70555 : Nat)=>[row (.slice ao4o1_70555 ((([] : List z1) ++ (zp.take (zt : Int).toNat)).length) cap4o2_70555) 40 2 ((([] : List z1) ++ (zp.take (zt : Int).toNat)).flatMap e40),fz [],stb z4S 40 [(.int .i64 zq.fN),(.int .i64 zq.fD)]]) (fun (b0o1_70555 : Nat) (ao4o1_70555 : Option Addr) (cap4o2_70555 : Nat)=>True) (yC 13 [4,0,10,9,8,5,3,2,1]) ?_ (fun K0o4_70555=>?_)
   ·skip
    rintro b0o1_70555 ao4o1_70555 cap4o2_70555 _
    refine WD.new (i:=6) (dd:=40) rfl (by kernel_rfl) rfl rfl rfl (yA (cs:=([zq] : List z1).flatMap e40) yK (Eos.parts (l:=[.tmp 39]) (.cons rfl .nil) [0]) (fun _=>by kernel_rfl) rfl (by unfold maxLen; omega)) (fun h'=>absurd h' (by decide)) ?_
    intro b6o1_70555 _
    exact WD.yt (.cons .here (.cons .here (.cons .here (.cons .here .nil)))) (.cons rfl (.cons rfl (.cons rfl .nil))) (K0o4o6_70555 b0o1_70555 ao4o1_70555 cap4o2_70555 b6o1_70555 trivial)
   refine WD.y9e (fuel':=4) (fun (b0o1_70555 : Nat) (b6o1_70555 : Nat)=>[(37,(.slice zoy ((zp.take (zt : Int).toNat).length) zoz)),(44,(.slice zdO ((zp.drop (zt : Int).toNat).length) zdP)),(34,(.slice (some ⟨b0o1_70555,0,none⟩) (([] : List z1).length) 0)),(40,(.slice (some ⟨b6o1_70555,0,none⟩) (([zq] : List z1).length) 1))]) (fun (b0o1_70555 : Nat) (b6o1_70555 : Nat)=>[row (.slice (some ⟨b6o1_70555,0,none⟩) (([zq] : List z1).length) 1) 40 2 (([zq] : List z1).flatMap e40),row (.slice (some ⟨b0o1_70555,0,none⟩) (([] : List z1).length) 0) 40 2 (([] : List z1).flatMap e40),fz [],stb z4S 40 [(.int .i64 zq.fN),(.int .i64 zq.fD)]]) (fun (b0o1_70555 : Nat) (b6o1_70555 : Nat)=>True) (yC 13 [6,0,10,9,8,5,3,2,1]) ?_ (fun K0o6_70555=>?_)
   ·skip
    rintro b0o1_70555 b6o1_70555 _
    refine WD.old (i:=4) (dd:=38) rfl (by kernel_rfl) rfl rfl rfl rfl (fun _=>(Sin.of (.cons .h3 .nil))) (y2c (enc:=e40) (l1:=([] : List z1)) (l2:=zp.take (zt : Int).toNat) yK rfl rfl .h1 (fun _=>rfl) rfl rfl (y7H (hz.pv2 .h2) zuu) (y3g y50 _) zut) ?_
    rintro ⟨ao4o1_70555,cap4o2_70555⟩ _
    exact WD.yt (.cons .h1 (.cons .here (.cons .here (.cons .here .nil)))) (.cons rfl (.cons rfl (.cons rfl .nil))) (K0o4o6_70555 b0o1_70555 ao4o1_70555 cap4o2_70555 b6o1_70555 trivial)
   refine WD.y5C (fuel':=5) (fun (b0o1_70555 : Nat)=>[(37,(.slice zoy ((zp.take (zt : Int).toNat).length) zoz)),(39,(.agg #[(.int .i64 zq.fN),(.int .i64 zq.fD)])),(44,(.slice zdO ((zp.drop (zt : Int).toNat).length) zdP)),(34,(.slice (some ⟨b0o1_70555,0,none⟩) (([] : List z1).length) 0))]) (fun (b0o1_70555 : Nat)=>[row (.slice (some ⟨b0o1_70555,0,none⟩) (([] : List z1).length) 0) 40 2 (([] : List z1).flatMap e40),fz [],stb z4S 40 [(.int .i64 zq.fN),(.int .i64 zq.fD)]]) (fun (b0o1_70555 : Nat)=>True) (yC 13 [0,10,9,8,5,3,2,1]) ?_ (fun K0_70555=>?_)
   ·skip
    rintro b0o1_70555 _
    refine WD.choose [4,6] (by kernel_rfl) rfl ?_
    refine WDo.cons ?_ (WDo.cons ?_ (WDo.nil))
    ·refine WDo.old (i:=4) (dd:=38) rfl rfl rfl rfl rfl (fun _=>(Sin.of (.cons .h2 .nil))) (y2c (enc:=e40) (l1:=([] : List z1)) (l2:=zp.take (zt : Int).toNat) yK rfl rfl .here (fun _=>rfl) rfl rfl (y7H (hz.pv2 .h1) zuu) (y3g y50 _) zut) ?_
     rintro ⟨ao4o1_70555,cap4o2_70555⟩ _
     exact WD.yt (.cons .here (.cons .here (.cons .here .nil))) (.cons rfl (.cons rfl (.cons rfl .nil))) (K0o4_70555 b0o1_70555 ao4o1_70555 cap4o2_70555 trivial)
    ·refine WDo.new (i:=6) (dd:=40) rfl rfl rfl rfl (yA (cs:=([zq] : List z1).flatMap e40) yK (Eos.parts (l:=[.tmp 39]) (.cons rfl .nil) [0]) (fun _=>by kernel_rfl) rfl (by unfold maxLen; omega)) (fun h'=>absurd h' (by decide)) ?_
     intro b6o1_70555 _
     exact WD.yt (.cons .here (.cons .here (.cons .here (.cons .here .nil)))) (.cons rfl (.cons rfl (.cons rfl (.cons rfl .nil)))) (K0o6_70555 b0o1_70555 b6o1_70555 trivial)
   refine WD.y5C (fuel':=5) (fun (b6o1_70555 : Nat)=>[(37,(.slice zoy ((zp.take (zt : Int).toNat).length) zoz)),(44,(.slice zdO ((zp.drop (zt : Int).toNat).length) zdP)),(40,(.slice (some ⟨b6o1_70555,0,none⟩) (([zq] : List z1).length) 1))]) (fun (b6o1_70555 : Nat)=>[row (.slice (some ⟨b6o1_70555,0,none⟩) (([zq] : List z1).length) 1) 40 2 (([zq] : List z1).flatMap e40),fz [],stb z4S 40 [(.int .i64 zq.fN),(.int .i64 zq.fD)]]) (fun (b6o1_70555 : Nat)=>True) (yC 13 [6,10,9,8,5,3,2,1]) ?_ (fun K6_70555=>?_)
   ·skip
    rintro b6o1_70555 _
    refine WD.new (i:=0) (dd:=34) rfl (by kernel_rfl) rfl rfl rfl (yA (cs:=([] : List z1).flatMap e40) yK (Eos.parts (l:=[]) .nil []) (fun _=>by kernel_rfl) rfl (by unfold maxLen; omega)) (fun h'=>absurd h' (by decide)) ?_
    intro b0o1_70555 _
    exact WD.yt (.cons .h1 (.cons .here (.cons .here (.cons .here .nil)))) (.cons rfl (.cons rfl (.cons rfl (.cons rfl .nil)))) (K0o6_70555 b0o1_70555 b6o1_70555 trivial)
   refine WD.choose [0,6] (by kernel_rfl) rfl ?_
   refine WDo.cons ?_ (WDo.cons ?_ (WDo.nil))
   ·refine WDo.new (i:=0) (dd:=34) rfl rfl rfl rfl (yA (cs:=([] : List z1).flatMap e40) yK (Eos.parts (l:=[]) .nil []) (fun _=>by kernel_rfl) rfl (by unfold maxLen; omega)) (fun h'=>absurd h' (by decide)) ?_
    intro b0o1_70555 _
    exact WD.yt (.cons .here (.cons .here (.cons .here .nil))) (.cons rfl (.cons rfl (.cons rfl (.cons rfl .nil)))) (K0_70555 b0o1_70555 trivial)
   ·refine WDo.new (i:=6) (dd:=40) rfl rfl rfl rfl (yA (cs:=([zq] : List z1).flatMap e40) yK (Eos.parts (l:=[.tmp 39]) (.cons rfl .nil) [0]) (fun _=>by kernel_rfl) rfl (by unfold maxLen; omega)) (fun h'=>absurd h' (by decide)) ?_
    intro b6o1_70555 _
    exact WD.yt (.cons .here (.cons .here (.cons .here .nil))) (.cons rfl (.cons rfl (.cons rfl .nil))) (K6_70555 b6o1_70555 trivial)
def y1H (zB : List z2) (z1c : Int) (z8y : (List z1) → Option (List z1 × Int)) : Nat → (List z1) → Int → Option (List z1 × Int)
 | 0,_,_=>none
 | zoA + 1,z5u,z1R=>if decide (z1R < ((zB.length : Nat) : Int)) then chk ((0 : Int) ≤ z1R ∧ z1R < ((zB.length : Nat) : Int)) (chk ((0 : Int) ≤ z1c ∧ z1c < ((zB.length : Nat) : Int)) ((yB 1 (⟨(((nth zB z1R).fB).fN),(((nth zB z1R).fB).fD)⟩ : z1) (⟨(((nth zB z1c).fB).fN),(((nth zB z1c).fB).fD)⟩ : z1)).bind fun zin=>chk ((0 : Int) ≤ z1c ∧ z1c < ((zB.length : Nat) : Int)) (chk ((0 : Int) ≤ z1R ∧ z1R < ((zB.length : Nat) : Int)) ((yB 1 (⟨(((nth zB z1c).fR).fN),(((nth zB z1c).fR).fD)⟩ : z1) (⟨(((nth zB z1R).fR).fN),(((nth zB z1R).fR).fD)⟩ : z1)).bind fun zio=>if (decide (zin.2 ≠ 0)) || (decide (zio.2 ≠ 0)) then some ([],3) else (yB 3 zin.1 zio.1).bind fun zoB=>if decide (zoB.2 ≠ 0) then some ([],3) else (y3v z5u zoB.1).bind fun zoC=>y1H zB z1c z8y zoA zoC (i64 (z1R + 1)))))) else z8y z5u
theorem y7x {n : Nat} {zB : List z2} {z1c : Int} {z8y : (List z1) → Option (List z1 × Int)} {z5u : List z1} {z1R : Int} {r : List z1 × Int} (h : y1H zB z1c z8y n z5u z1R = some r) : ∃ m,n = m + 1:=by
 cases n with
 | zero=>cases h
 | succ m=>exact ⟨m,rfl⟩
def y27 (zB : List z2) (z8z : (List z1) → Option (List z1 × Int)) : Nat → (List z1) → Int → Option (List z1 × Int)
 | 0,_,_=>none
 | zoD + 1,z4T,z1c=>if decide (z1c < ((zB.length : Nat) : Int)) then jp1 (fun (z74 : List z1)=>y27 zB z8z zoD z74 (i64 (z1c + 1))) fun zoE=>jp1 (fun (z75 : List z1)=>zoE z75) fun z8y=>y1H zB z1c z8y yu z4T (i64 (z1c + 1)) else z8z z4T
theorem y7y {n : Nat} {zB : List z2} {z8z : (List z1) → Option (List z1 × Int)} {z4T : List z1} {z1c : Int} {r : List z1 × Int} (h : y27 zB z8z n z4T z1c = some r) : ∃ m,n = m + 1:=by
 cases n with
 | zero=>cases h
 | succ m=>exact ⟨m,rfl⟩
def y3U (z9Y : List z2) : Option (List z1 × Int) :=
 (y3k z9Y).bind fun zuv=>if !zuv then some ([],2) else (y53 z9Y).bind fun zB=>jp1 (fun (z8A : List z1)=>some (z8A,0)) fun z8z=>y27 zB z8z yu [] 0
set_option maxRecDepth 20000 in
theorem ya9 (Z : Zp) (ziq : Option Addr) (zir : Nat) (z9Y : List z2) (r : List z1 × Int)
  (h : y3U z9Y = some r) (w₀ : World) (hz : PZ [] w₀ Z)
  (zuw : ZS Z 4 (fun r x=>r = e54 x) ziq zir z9Y) :
  Calls Tryz.prog 56 #[(.slice ziq z9Y.length zir)] w₀ fun e w'=>∃ Zn : Zp,∃ zux : Option Addr,∃ zuy : Nat,e = .returned (.tuple #[(.slice zux r.1.length zuy),(.int .i64 r.2)]) ∧ (ZS (Z ++ Zn) 2 (fun r x=>r = e40 x) zux zuy r.1) ∧ Hp [] w₀ w' [fz Zn]:=by
 unfold y3U at h
 refine Calls.yg (vs:=[(.slice ziq z9Y.length zir)]) (pre:=[]) (env:=[(0,(.slice ziq z9Y.length zir))]) Tryz.func56 rfl Tryz.ntmps56 rfl (Hp.nil w₀ _) rfl ?_
 refine WC.pool (WC.b (WC.a (WL.pu rfl (WL.pu rfl (WL.nil (WX.a (WC.b (WC.b ?_))))))))
 obtain ⟨zuv,zEL,h⟩:=z8 h
 refine WC.a (WL.pu rfl ?_)
 refine WL.b (dd:=15) rfl rfl rfl (za (l:=[.tmp 14]) Tryz.call25 (.cons rfl .nil)) .nil (ccz hz .nil .here fun w pz ho=>y5y _ _ _ _ _ zEL w pz (zuw.mono (Zle.left _ _))) ?_
 refine WL.pu rfl (WL.nil (WX.a ?_))
 refine WC.cond rfl (fun zoF=>?_) (fun zoF=>?_)
 ·replace h:=yd h zoF
  refine WC.b (WC.a (WL.pu rfl (WL.pu rfl (WL.nil (WX.a (WC.ret (WX.y6 ?_)))))))
  obtain rfl:=Option.some.inj h
  refine WX.y8 Tryz.results56 (.tmp rfl (.tmp rfl .nil)) (fun w hw=>?_)
  exact ⟨[],none,0,yF rfl rfl,(ZS.nil _ _ _),hw.sub (.cons .here .nil)⟩
 ·replace h:=ye h zoF
  refine WC.skip (WX.a (WC.b ?_))
  obtain ⟨zB,zEM,h⟩:=z8 h
  refine WC.a (WL.pu rfl ?_)
  refine WL.y4e (dd:=18) rfl rfl rfl (za (l:=[.tmp 17]) Tryz.call81 (.cons rfl .nil)) .nil (ccz hz .nil .here fun w pz ho=>yaZ _ _ _ _ _ zEM w pz (zuw.mono (Zle.left _ _))) ?_
  rintro zoG z9Z za0 _
  refine WL.merge .here .h1 ?_
  refine WL.pu rfl (WL.nil (WX.a (WC.b (WC.a (WL.pu rfl (WL.nil (WX.a ?_)))))))
  obtain ⟨z8z,zEN,h⟩:=y12 h
  refine WC.y3P (fun (z8A : List z1) (zbD : Zp) (zdQ : Option Addr) (zdR : Nat)=>(z8z z8A = some r) ∧ (Zle (Z ++ ([] ++ zoG)) (Z ++ zbD)) ∧ (ZS (Z ++ zbD) 2 (fun r x=>r = e40 x) zdQ zdR z8A)) (fun (z8A : List z1) (zbD : Zp) (zdQ : Option Addr) (zdR : Nat)=>[(5,(.slice zdQ z8A.length zdR))]) (fun (z8A : List z1) (zbD : Zp) (zdQ : Option Addr) (zdR : Nat)=>[fz zbD]) ?_ ?_
  ·skip
   refine WC.b (WC.a (WL.pu rfl (WL.nil (WX.a (WC.block ?_)))))
   refine WC.y4V (fun (zdS : Nat) (z4T : List z1) (z1c : Int) (z5W : Zp) (za1 : Option Addr) (za2 : Nat)=>(y27 zB z8z zdS z4T z1c = some r) ∧ (Zle (Z ++ ([] ++ zoG)) (Z ++ z5W)) ∧ (ZS (Z ++ z5W) 2 (fun r x=>r = e40 x) za1 za2 z4T)) (fun (zdS : Nat) (z4T : List z1) (z1c : Int) (z5W : Zp) (za1 : Option Addr) (za2 : Nat)=>[(4,(.slice z9Z zB.length za0)),(5,(.slice za1 z4T.length za2)),(6,(.int .i64 z1c))]) (fun (zdS : Nat) (z4T : List z1) (z1c : Int) (z5W : Zp) (za1 : Option Addr) (za2 : Nat)=>[fz z5W,row (.slice z9Z zB.length za0) 54 4 (zB.flatMap e54)]) (fun (zdS : Nat) (z4T : List z1) (z1c : Int) (z5W : Zp) (za1 : Option Addr) (za2 : Nat)=>zdS) ⟨yu,[],0,([] ++ zoG),none,0⟩ ⟨h,(Zle.refl _),(ZS.nil _ _ _)⟩ (.cons rfl (.cons rfl (.cons rfl .nil))) (.cons .here (.cons .here .nil)) ?_
   rintro zdS z4T z1c z5W za1 za2 ⟨h,zuz,zuA⟩
   obtain ⟨zoD,rfl⟩:=y7y h
   rw [y27] at h
   refine WC.b (WC.b (WC.a (WL.pu rfl (WL.pu rfl ?_))))
   refine WL.a (d:=21) rfl rfl rfl (yP Tryz.underlying23 rfl) ?_
   refine WL.pu rfl (WL.nil (WX.a ?_))
   refine WC.cond rfl (fun zoH=>?_) (fun zoH=>?_)
   ·replace h:=yd h zoH
    refine WC.skip (WX.a ?_)
    obtain ⟨zoE,zEO,h⟩:=y12 h
    refine WC.y3P (fun (z74 : List z1) (zbE : Zp) (zdT : Option Addr) (zdU : Nat)=>(zoE z74 = some r) ∧ (Zle (Z ++ z5W) (Z ++ zbE)) ∧ (ZS (Z ++ zbE) 2 (fun r x=>r = e40 x) zdT zdU z74)) (fun (z74 : List z1) (zbE : Zp) (zdT : Option Addr) (zdU : Nat)=>[(4,(.slice z9Z zB.length za0)),(5,(.slice zdT z74.length zdU)),(6,(.int .i64 z1c))]) (fun (z74 : List z1) (zbE : Zp) (zdT : Option Addr) (zdU : Nat)=>[fz zbE,row (.slice z9Z zB.length za0) 54 4 (zB.flatMap e54)]) ?_ ?_
    ·skip
     refine WC.block (WC.b (WC.a (WL.pu rfl (WL.pu rfl (WL.pu rfl (WL.nil (WX.a ?_)))))))
     obtain ⟨z8y,zEP,h⟩:=y12 h
     refine WC.mid4 (fun (z75 : List z1) (zbF : Zp) (zdV : Option Addr) (zdW : Nat)=>(z8y z75 = some r) ∧ (Zle (Z ++ z5W) (Z ++ zbF)) ∧ (ZS (Z ++ zbF) 2 (fun r x=>r = e40 x) zdV zdW z75)) (fun (z75 : List z1) (zbF : Zp) (zdV : Option Addr) (zdW : Nat)=>[(4,(.slice z9Z zB.length za0)),(5,(.slice zdV z75.length zdW)),(6,(.int .i64 z1c))]) (fun (z75 : List z1) (zbF : Zp) (zdV : Option Addr) (zdW : Nat)=>[fz zbF,row (.slice z9Z zB.length za0) 54 4 (zB.flatMap e54)]) ?_ ?_
     ·skip
      refine WC.block ?_
      refine WC.y4V (fun (zdX : Nat) (z5u : List z1) (z1R : Int) (z6x : Zp) (zbG : Option Addr) (zbH : Nat)=>(y1H zB z1c z8y zdX z5u z1R = some r) ∧ (Zle (Z ++ z5W) (Z ++ z6x)) ∧ (ZS (Z ++ z6x) 2 (fun r x=>r = e40 x) zbG zbH z5u)) (fun (zdX : Nat) (z5u : List z1) (z1R : Int) (z6x : Zp) (zbG : Option Addr) (zbH : Nat)=>[(4,(.slice z9Z zB.length za0)),(5,(.slice zbG z5u.length zbH)),(6,(.int .i64 z1c)),(7,(.int .i64 z1R))]) (fun (zdX : Nat) (z5u : List z1) (z1R : Int) (z6x : Zp) (zbG : Option Addr) (zbH : Nat)=>[fz z6x,row (.slice z9Z zB.length za0) 54 4 (zB.flatMap e54)]) (fun (zdX : Nat) (z5u : List z1) (z1R : Int) (z6x : Zp) (zbG : Option Addr) (zbH : Nat)=>zdX) ⟨yu,z4T,(i64 (z1c + 1)),z5W,za1,za2⟩ ⟨h,(Zle.refl _),zuA⟩ (.cons rfl (.cons rfl (.cons rfl (.cons rfl .nil)))) (.cons .here (.cons .here .nil)) ?_
      rintro zdX z5u z1R z6x zbG zbH ⟨h,zuB,zuC⟩
      obtain ⟨zoA,rfl⟩:=y7x h
      rw [y1H] at h
      refine WC.b (WC.b (WC.a (WL.pu rfl (WL.pu rfl ?_))))
      refine WL.a (d:=29) rfl rfl rfl (yP Tryz.underlying23 rfl) ?_
      refine WL.pu rfl (WL.nil (WX.a ?_))
      refine WC.cond rfl (fun zoI=>?_) (fun zoI=>?_)
      ·replace h:=yd h zoI
       refine WC.skip (WX.a (WC.b (WC.block (WC.b ?_))))
       obtain ⟨zgl,h⟩:=yj h
       obtain ⟨zis,h⟩:=yj h
       obtain ⟨zin,zEQ,h⟩:=z8 h
       refine WC.yH (fun i=>[15].contains i) [] rfl ?_
       refine WD.a (i:=0) (d:=34) (by kernel_rfl) rfl z6 z7 rfl rfl rfl (fun _=>q_m rfl) ?_
       refine WD.a (i:=1) (d:=35) (by kernel_rfl) rfl z6 z7 rfl rfl rfl (fun _=>q_m rfl) ?_
       refine WD.know (fun w hw=>Hp.y3y .h1 hw (by intro hz'; have:=zgl; rw [hz'] at this; omega)) ?_
       rintro ⟨zLg,rfl⟩
       refine WD.a (i:=2) (d:=36) (by kernel_rfl) rfl z6 z7 rfl rfl rfl (fun _=>y11 yS rfl rfl zgl.1 zgl.2 y3x) ?_
       refine WD.a (i:=3) (d:=37) (by kernel_rfl) rfl z6 z7 rfl rfl rfl (fun _=>y4 y2B rfl (Addr.add_lit _ _ _)) ?_
       refine WD.e (i:=4) (d:=38) (by kernel_rfl) rfl z6 z7 rfl rfl rfl (ys (cs:=[(.int .i64 (((nth zB z1R).fB).fN)),(.int .i64 (((nth zB z1R).fB).fD))]) y5 rfl rfl (y7J (k:=0) .h1 (y2A (enc:=e54) (l:=zB) (i:=z1R) (sz:=4) (fun _=>rfl) zgl.1 zgl.2) (s:=2) rfl)) ?_
       refine WD.a (i:=5) (d:=39) (by kernel_rfl) rfl z6 z7 rfl rfl rfl (fun _=>q_m rfl) ?_
       refine WD.a (i:=6) (d:=40) (by kernel_rfl) rfl z6 z7 rfl rfl rfl (fun _=>q_m rfl) ?_
       refine WD.a (i:=7) (d:=41) (by kernel_rfl) rfl z6 z7 rfl rfl rfl (fun _=>y11 yS rfl rfl zis.1 zis.2 y3x) ?_
       refine WD.a (i:=8) (d:=42) (by kernel_rfl) rfl z6 z7 rfl rfl rfl (fun _=>y4 y2B rfl (Addr.add_lit _ _ _)) ?_
       refine WD.e (i:=9) (d:=43) (by kernel_rfl) rfl z6 z7 rfl rfl rfl (ys (cs:=[(.int .i64 (((nth zB z1c).fB).fN)),(.int .i64 (((nth zB z1c).fB).fD))]) y5 rfl rfl (y7J (k:=0) .h1 (y2A (enc:=e54) (l:=zB) (i:=z1c) (sz:=4) (fun _=>rfl) zis.1 zis.2) (s:=2) rfl)) ?_
       refine WD.c (i:=10) (d:=44) (by kernel_rfl) rfl z6 z7 rfl rfl rfl (za (l:=[.const (.int .i64 1),.tmp 38,.tmp 43]) Tryz.call43 (.cons rfl (.cons rfl (.cons rfl .nil)))) (ccz hz .nil .here fun w pz ho=>y29 _ _ _ _ _ zEQ w pz ) ?_
       refine WD.a (i:=11) (d:=33) (by kernel_rfl) rfl z6 z7 rfl rfl rfl (fun _=>q_m rfl) ?_
       refine WD.a (i:=12) (d:=45) (by kernel_rfl) rfl z6 z7 rfl rfl rfl (fun _=>y1L rfl rfl) ?_
       refine WD.a (i:=13) (d:=46) (by kernel_rfl) rfl z6 z7 rfl rfl rfl (fun _=>y1L rfl rfl) ?_
       refine WD.new (i:=14) (dd:=8) rfl (by kernel_rfl) rfl rfl rfl (yk (cs:=[(.int .i64 0),(.int .i64 0)]) yo rfl) (fun h'=>absurd h' (by decide)) ?_
       intro zLh _
       refine WD.forced0 (i:=15) rfl (by kernel_rfl) rfl rfl rfl (Sin.of .nil) (ya yh rfl rfl rfl .here rfl rfl rfl) ?_
       refine WD.a (i:=16) (d:=9) (by kernel_rfl) rfl z6 z7 rfl rfl rfl (fun _=>q_z rfl) ?_
       refine WD.done (by kernel_rfl) ?_
       refine WX.a (WC.b ?_)
       obtain ⟨zit,h⟩:=yj h
       obtain ⟨ziu,h⟩:=yj h
       obtain ⟨zio,zER,h⟩:=z8 h
       refine WC.yH (fun i=>[15].contains i) [] rfl ?_
       refine WD.a (i:=0) (d:=48) (by kernel_rfl) rfl z6 z7 rfl rfl rfl (fun _=>q_m rfl) ?_
       refine WD.a (i:=1) (d:=49) (by kernel_rfl) rfl z6 z7 rfl rfl rfl (fun _=>q_m rfl) ?_
       refine WD.a (i:=2) (d:=50) (by kernel_rfl) rfl z6 z7 rfl rfl rfl (fun _=>y11 yS rfl rfl zit.1 zit.2 y3x) ?_
       refine WD.a (i:=3) (d:=51) (by kernel_rfl) rfl z6 z7 rfl rfl rfl (fun _=>y4 y2T rfl (Addr.add_lit _ _ _)) ?_
       refine WD.e (i:=4) (d:=52) (by kernel_rfl) rfl z6 z7 rfl rfl rfl (ys (cs:=[(.int .i64 (((nth zB z1c).fR).fN)),(.int .i64 (((nth zB z1c).fR).fD))]) y5 rfl rfl (y7J (k:=2) .h2 (y2A (enc:=e54) (l:=zB) (i:=z1c) (sz:=4) (fun _=>rfl) zit.1 zit.2) (s:=2) rfl)) ?_
       refine WD.a (i:=5) (d:=53) (by kernel_rfl) rfl z6 z7 rfl rfl rfl (fun _=>q_m rfl) ?_
       refine WD.a (i:=6) (d:=54) (by kernel_rfl) rfl z6 z7 rfl rfl rfl (fun _=>q_m rfl) ?_
       refine WD.a (i:=7) (d:=55) (by kernel_rfl) rfl z6 z7 rfl rfl rfl (fun _=>y11 yS rfl rfl ziu.1 ziu.2 y3x) ?_
       refine WD.a (i:=8) (d:=56) (by kernel_rfl) rfl z6 z7 rfl rfl rfl (fun _=>y4 y2T rfl (Addr.add_lit _ _ _)) ?_
       refine WD.e (i:=9) (d:=57) (by kernel_rfl) rfl z6 z7 rfl rfl rfl (ys (cs:=[(.int .i64 (((nth zB z1R).fR).fN)),(.int .i64 (((nth zB z1R).fR).fD))]) y5 rfl rfl (y7J (k:=2) .h2 (y2A (enc:=e54) (l:=zB) (i:=z1R) (sz:=4) (fun _=>rfl) ziu.1 ziu.2) (s:=2) rfl)) ?_
       refine WD.c (i:=10) (d:=58) (by kernel_rfl) rfl z6 z7 rfl rfl rfl (za (l:=[.const (.int .i64 1),.tmp 52,.tmp 57]) Tryz.call43 (.cons rfl (.cons rfl (.cons rfl .nil)))) (ccz hz .nil .h1 fun w pz ho=>y29 _ _ _ _ _ zER w pz ) ?_
       refine WD.a (i:=11) (d:=47) (by kernel_rfl) rfl z6 z7 rfl rfl rfl (fun _=>q_m rfl) ?_
       refine WD.a (i:=12) (d:=59) (by kernel_rfl) rfl z6 z7 rfl rfl rfl (fun _=>y1L rfl rfl) ?_
       refine WD.a (i:=13) (d:=60) (by kernel_rfl) rfl z6 z7 rfl rfl rfl (fun _=>y1L rfl rfl) ?_
       refine WD.new (i:=14) (dd:=10) rfl (by kernel_rfl) rfl rfl rfl (yk (cs:=[(.int .i64 0),(.int .i64 0)]) yo rfl) (fun h'=>absurd h' (by decide)) ?_
       intro zLi _
       refine WD.forced0 (i:=15) rfl (by kernel_rfl) rfl rfl rfl (Sin.of .nil) (ya yh rfl rfl rfl .here rfl rfl rfl) ?_
       refine WD.a (i:=16) (d:=11) (by kernel_rfl) rfl z6 z7 rfl rfl rfl (fun _=>q_z rfl) ?_
       refine WD.done (by kernel_rfl) ?_
       refine WX.a (WC.b (WC.b (WC.a (WL.pu rfl (WL.pu rfl (WL.pu rfl ?_))))))
       refine WL.seg false 2 63 (B:=(decide (zin.2 ≠ 0)) || (decide (zio.2 ≠ 0))) rfl rfl rfl rfl rfl rfl (fun h=>(y5m h).symm) (fun _ zES=>?_) ?_
       ·skip
        refine WL.pu rfl (WL.pu rfl (WL.pu rfl ?_))
        exact WL.yw (y5n zES) rfl rfl .all
       refine WL.nil (WX.a ?_)
       refine WC.cond rfl (fun zoJ=>?_) (fun zoJ=>?_)
       ·replace h:=yd h zoJ
        refine WC.b (WC.a (WL.pu rfl (WL.pu rfl (WL.nil (WX.a (WC.ret (WX.y6 (WX.yl (WX.y6 (WX.y6 (WX.yl (WX.y6 (WX.yl (WX.y6 (WX.y6 ?_)))))))))))))))
        refine WX.yl (WX.y6 ?_)
        obtain rfl:=Option.some.inj h
        refine WX.y8 Tryz.results56 (.tmp rfl (.tmp rfl .nil)) (fun w hw=>?_)
        exact ⟨z6x,none,0,yF rfl rfl,(ZS.nil _ _ _),hw.sub (.cons .h2 .nil)⟩
       ·replace h:=ye h zoJ
        refine WC.skip (WX.a (WC.b ?_))
        obtain ⟨zoB,zET,h⟩:=z8 h
        refine WC.a ?_
        refine WL.a (d:=68) rfl rfl rfl (y9 y5 rfl (y7 .h1) rfl) ?_
        refine WL.a (d:=69) rfl rfl rfl (y9 y5 rfl (y7 .here) rfl) ?_
        refine WL.b (dd:=70) rfl rfl rfl (za (l:=[.const (.int .i64 3),.tmp 68,.tmp 69]) Tryz.call43 (.cons rfl (.cons rfl (.cons rfl .nil)))) .nil (ccz hz .nil .h2 fun w pz ho=>y29 _ _ _ _ _ zET w pz ) ?_
        refine WL.pu rfl (WL.pu rfl (WL.pu rfl ?_))
        refine WL.new (dd:=12) rfl rfl rfl (yk (cs:=[(.int .i64 0),(.int .i64 0)]) yo rfl) ?_
        intro zLj _
        refine WL.yb rfl rfl (ya yh rfl rfl rfl .here rfl rfl rfl) ?_
        refine WL.pu rfl (WL.nil (WX.a (WC.b (WC.b (WC.a (WL.pu rfl (WL.pu rfl (WL.nil (WX.a ?_)))))))))
        refine WC.cond rfl (fun zoK=>?_) (fun zoK=>?_)
        ·replace h:=yd h zoK
         refine WC.b (WC.a (WL.pu rfl (WL.pu rfl (WL.nil (WX.a (WC.ret (WX.y6 (WX.yl (WX.y6 (WX.y6 (WX.yl (WX.y6 (WX.yl (WX.y6 (WX.y6 ?_)))))))))))))))
         refine WX.yl (WX.y6 ?_)
         obtain rfl:=Option.some.inj h
         refine WX.y8 Tryz.results56 (.tmp rfl (.tmp rfl .nil)) (fun w hw=>?_)
         exact ⟨z6x,none,0,yF rfl rfl,(ZS.nil _ _ _),hw.sub (.cons .h3 .nil)⟩
        ·replace h:=ye h zoK
         refine WC.skip (WX.a ?_)
         obtain ⟨zoC,zEU,h⟩:=z8 h
         refine WC.a (WL.pu rfl ?_)
         refine WL.a (d:=76) rfl rfl rfl (y9 y5 rfl (y7 .here) rfl) ?_
         refine WL.y4e (dd:=77) rfl rfl rfl (za (l:=[.tmp 75,.tmp 76]) Tryz.call82 (.cons rfl (.cons rfl .nil))) .nil (ccz hz .nil .h3 fun w pz ho=>ya8 _ _ _ _ _ _ zEU w pz zuC) ?_
         rintro zEV zEW zEX zEY
         refine WL.merge .here .h3 ?_
         refine WL.pu rfl (WL.nil (WX.yi (WX.a (WC.a (WL.pu rfl (WL.pu rfl (WL.pu rfl (WL.nil ?_))))))))
         exact WX.round (G:=Nat × List z1 × Int × Zp × Option Addr × Nat) ⟨zoA,zoC,(i64 (z1R + 1)),(z6x ++ zEV),zEW,zEX⟩ ⟨h,(zuB.trans ((Zle.left _ _).trans (Zle.yn _ _ _))),(zEY.mono (Zle.yn _ _ _))⟩ (Nat.lt_succ_self _) (.cons rfl (.cons rfl (.cons rfl (.cons rfl .nil)))) (.cons .here (.cons .h3 .nil))
      ·replace h:=ye h zoI
       refine WC.exit (WX.yf (WX.yf (WX.yv ?_)))
       exact WX.mid (G:=List z1 × Zp × Option Addr × Nat) ⟨z5u,z6x,zbG,zbH⟩ ⟨h,zuB,zuC⟩ (.cons rfl (.cons rfl (.cons rfl .nil))) (.cons .here (.cons .here .nil))
     ·rintro z75 zbF zdV zdW ⟨h,zEZ,zF0⟩
      replace h:=(zEP z75).symm.trans h
      refine WX.yi ?_
      exact WX.mid (G:=List z1 × Zp × Option Addr × Nat) ⟨z75,zbF,zdV,zdW⟩ ⟨h,zEZ,zF0⟩ (.cons rfl (.cons rfl (.cons rfl .nil))) (.cons .here (.cons .here .nil))
    ·rintro z74 zbE zdT zdU ⟨h,zF1,zF2⟩
     replace h:=(zEO z74).symm.trans h
     refine WC.a (WL.pu rfl (WL.pu rfl (WL.pu rfl (WL.nil ?_))))
     exact WX.round (G:=Nat × List z1 × Int × Zp × Option Addr × Nat) ⟨zoD,z74,(i64 (z1c + 1)),zbE,zdT,zdU⟩ ⟨h,(zuz.trans zF1),zF2⟩ (Nat.lt_succ_self _) (.cons rfl (.cons rfl (.cons rfl .nil))) (.cons .here (.cons .here .nil))
   ·replace h:=ye h zoH
    refine WC.exit (WX.yf (WX.yf (WX.yv ?_)))
    exact WX.mid (G:=List z1 × Zp × Option Addr × Nat) ⟨z4T,z5W,za1,za2⟩ ⟨h,zuz,zuA⟩ (.cons rfl .nil) (.cons .here .nil)
  ·rintro z8A zbD zdQ zdR ⟨h,zLk,zF3⟩
   replace h:=(zEN z8A).symm.trans h
   refine WC.b (WC.a (WL.pu rfl (WL.pu rfl (WL.pu rfl (WL.nil (WX.a (WC.ret ?_)))))))
   obtain rfl:=Option.some.inj h
   refine WX.y8 Tryz.results56 (.tmp rfl (.tmp rfl .nil)) (fun w hw=>?_)
   exact ⟨zbD,zdQ,zdR,yF rfl rfl,zF3,hw.sub (.cons .here .nil)⟩
def y2Q (z1S : z1) (z8B : Int → Option Int) : Nat → Int → Option Int
 | 0,_=>none
 | zoL + 1,z4U=>if decide ((i64 (z4U * z1S.fD)) > z1S.fN) then y2Q z1S z8B zoL (i64 (z4U - 1)) else z8B z4U
theorem y7N {n : Nat} {z1S : z1} {z8B : Int → Option Int} {z4U : Int} {r : Int} (h : y2Q z1S z8B n z4U = some r) : ∃ m,n = m + 1:=by
 cases n with
 | zero=>cases h
 | succ m=>exact ⟨m,rfl⟩
def y2M (z1S : z1) : Option Int :=
 (y1R z1S).bind fun zuD=>if !zuD then some 0 else chk ((z1S.fD : Int) ≠ 0) (jp1 (fun (za3 : Int)=>some za3) fun z8B=>y2Q z1S z8B yu (i64 (Int.tdiv z1S.fN z1S.fD)))
set_option maxRecDepth 20000 in
theorem yaD (Z : Zp)  (z1S : z1) (r : Int)
  (h : y2M z1S = some r) (w₀ : World) (hz : PZ [] w₀ Z) :
  Calls Tryz.prog 59 #[(.agg #[(.int .i64 z1S.fN),(.int .i64 z1S.fD)])] w₀ fun e w'=>e = .returned (.int .i64 r) ∧ Hp [] w₀ w' []:=by
 unfold y2M at h
 refine Calls.yg (vs:=[(.agg #[(.int .i64 z1S.fN),(.int .i64 z1S.fD)])]) (pre:=[]) (env:=[(0,(.agg #[(.int .i64 z1S.fN),(.int .i64 z1S.fD)]))]) Tryz.func59 rfl Tryz.ntmps59 rfl (Hp.nil w₀ _) rfl ?_
 refine WC.b (WC.a ?_)
 refine WL.new (dd:=1) rfl rfl rfl (yx (cs:=[(.int .i64 z1S.fN),(.int .i64 z1S.fD)]) rfl rfl) ?_
 intro zuE _
 refine WL.pu rfl (WL.nil (WX.a (WC.b (WC.b ?_))))
 obtain ⟨zuD,zF4,h⟩:=z8 h
 refine WC.a ?_
 refine WL.a (d:=4) rfl rfl rfl (y9 y5 rfl (y7 .here) rfl) ?_
 refine WL.b (dd:=5) rfl rfl rfl (za (l:=[.tmp 4]) Tryz.call45 (.cons rfl .nil)) .nil (cc hz .nil fun w pz ho=>y3j _ _ _ zF4 w pz ) ?_
 refine WL.pu rfl (WL.nil (WX.a ?_))
 refine WC.cond rfl (fun zoM=>?_) (fun zoM=>?_)
 ·replace h:=yd h zoM
  refine WC.b (WC.a (WL.pu rfl (WL.nil (WX.a (WC.ret (WX.y6 ?_))))))
  obtain rfl:=Option.some.inj h
  refine WX.y8 Tryz.results59 (.tmp rfl .nil) (fun w hw=>?_)
  exact ⟨yD rfl,hw.sub .nil⟩
 ·replace h:=ye h zoM
  refine WC.skip (WX.a (WC.b ?_))
  obtain ⟨zF5,h⟩:=yj h
  refine WC.a ?_
  refine WL.a (d:=7) rfl rfl rfl (y4 yL rfl rfl) ?_
  refine WL.a (d:=8) rfl rfl rfl (yc yr rfl (yp .here rfl)) ?_
  refine WL.a (d:=9) rfl rfl rfl (y4 yN rfl rfl) ?_
  refine WL.a (d:=10) rfl rfl rfl (yc yr rfl (yp .here rfl)) ?_
  refine WL.a (d:=11) rfl rfl rfl (y81 rfl rfl zF5 rfl) ?_
  refine WL.pu rfl (WL.nil (WX.a ?_))
  obtain ⟨z8B,zF6,h⟩:=y12 h
  refine WC.y3w (fun (za3 : Int)=>(z8B za3 = some r)) (fun (za3 : Int)=>[(3,(.int .i64 za3))]) (fun (za3 : Int)=>[]) ?_ ?_
  ·skip
   refine WC.block ?_
   refine WC.y35 (fun (zdY : Nat) (z4U : Int)=>(y2Q z1S z8B zdY z4U = some r)) (fun (zdY : Nat) (z4U : Int)=>[(1,(.pointer (some ⟨zuE,0,none⟩))),(3,(.int .i64 z4U))]) (fun (zdY : Nat) (z4U : Int)=>[stb zuE 40 [(.int .i64 z1S.fN),(.int .i64 z1S.fD)]]) (fun (zdY : Nat) (z4U : Int)=>zdY) ⟨yu,(i64 (Int.tdiv z1S.fN z1S.fD))⟩ h (.cons rfl (.cons rfl .nil)) (.cons .here .nil) ?_
   rintro zdY z4U h
   obtain ⟨zoL,rfl⟩:=y7N h
   rw [y2Q] at h
   refine WC.b (WC.b (WC.a (WL.pu rfl ?_)))
   refine WL.a (d:=13) rfl rfl rfl (y4 yN rfl rfl) ?_
   refine WL.a (d:=14) rfl rfl rfl (yc yr rfl (yp .here rfl)) ?_
   refine WL.pu rfl ?_
   refine WL.a (d:=16) rfl rfl rfl (y4 yL rfl rfl) ?_
   refine WL.a (d:=17) rfl rfl rfl (yc yr rfl (yp .here rfl)) ?_
   refine WL.pu rfl (WL.nil (WX.a ?_))
   refine WC.cond rfl (fun zoN=>?_) (fun zoN=>?_)
   ·replace h:=yd h zoN
    refine WC.skip (WX.a (WC.block (WC.a (WL.pu rfl (WL.pu rfl (WL.pu rfl (WL.nil (WX.yi ?_))))))))
    exact WX.round (G:=Nat × Int) ⟨zoL,(i64 (z4U - 1))⟩ h (Nat.lt_succ_self _) (.cons rfl (.cons rfl .nil)) (.cons .here .nil)
   ·replace h:=ye h zoN
    refine WC.exit (WX.yf (WX.yf (WX.yv ?_)))
    exact WX.mid (G:=Int) z4U h (.cons rfl .nil) .nil
  ·rintro za3 h
   replace h:=(zF6 za3).symm.trans h
   refine WC.b (WC.a (WL.pu rfl (WL.pu rfl (WL.nil (WX.a (WC.ret ?_))))))
   obtain rfl:=Option.some.inj h
   refine WX.y8 Tryz.results59 (.tmp rfl .nil) (fun w hw=>?_)
   exact ⟨yD rfl,hw.sub .nil⟩
def y3d (z1T : z1) (z8C : Int → Option Int) : Nat → Int → Option Int
 | 0,_=>none
 | zoO + 1,z4V=>if decide ((i64 (z4V * z1T.fD)) < z1T.fN) then y3d z1T z8C zoO (i64 (z4V + 1)) else z8C z4V
theorem y8d {n : Nat} {z1T : z1} {z8C : Int → Option Int} {z4V : Int} {r : Int} (h : y3d z1T z8C n z4V = some r) : ∃ m,n = m + 1:=by
 cases n with
 | zero=>cases h
 | succ m=>exact ⟨m,rfl⟩
def y3e (z1T : z1) : Option Int :=
 (y1R z1T).bind fun zuF=>if !zuF then some 0 else chk ((z1T.fD : Int) ≠ 0) (jp1 (fun (za4 : Int)=>some za4) fun z8C=>y3d z1T z8C yu (i64 (Int.tdiv z1T.fN z1T.fD)))
set_option maxRecDepth 20000 in
theorem yb0 (Z : Zp)  (z1T : z1) (r : Int)
  (h : y3e z1T = some r) (w₀ : World) (hz : PZ [] w₀ Z) :
  Calls Tryz.prog 60 #[(.agg #[(.int .i64 z1T.fN),(.int .i64 z1T.fD)])] w₀ fun e w'=>e = .returned (.int .i64 r) ∧ Hp [] w₀ w' []:=by
 unfold y3e at h
 refine Calls.yg (vs:=[(.agg #[(.int .i64 z1T.fN),(.int .i64 z1T.fD)])]) (pre:=[]) (env:=[(0,(.agg #[(.int .i64 z1T.fN),(.int .i64 z1T.fD)]))]) Tryz.func60 rfl Tryz.ntmps60 rfl (Hp.nil w₀ _) rfl ?_
 refine WC.b (WC.a ?_)
 refine WL.new (dd:=1) rfl rfl rfl (yx (cs:=[(.int .i64 z1T.fN),(.int .i64 z1T.fD)]) rfl rfl) ?_
 intro zuG _
 refine WL.pu rfl (WL.nil (WX.a (WC.b (WC.b ?_))))
 obtain ⟨zuF,zF7,h⟩:=z8 h
 refine WC.a ?_
 refine WL.a (d:=4) rfl rfl rfl (y9 y5 rfl (y7 .here) rfl) ?_
 refine WL.b (dd:=5) rfl rfl rfl (za (l:=[.tmp 4]) Tryz.call45 (.cons rfl .nil)) .nil (cc hz .nil fun w pz ho=>y3j _ _ _ zF7 w pz ) ?_
 refine WL.pu rfl (WL.nil (WX.a ?_))
 refine WC.cond rfl (fun zoP=>?_) (fun zoP=>?_)
 ·replace h:=yd h zoP
  refine WC.b (WC.a (WL.pu rfl (WL.nil (WX.a (WC.ret (WX.y6 ?_))))))
  obtain rfl:=Option.some.inj h
  refine WX.y8 Tryz.results60 (.tmp rfl .nil) (fun w hw=>?_)
  exact ⟨yD rfl,hw.sub .nil⟩
 ·replace h:=ye h zoP
  refine WC.skip (WX.a (WC.b ?_))
  obtain ⟨zF8,h⟩:=yj h
  refine WC.a ?_
  refine WL.a (d:=7) rfl rfl rfl (y4 yL rfl rfl) ?_
  refine WL.a (d:=8) rfl rfl rfl (yc yr rfl (yp .here rfl)) ?_
  refine WL.a (d:=9) rfl rfl rfl (y4 yN rfl rfl) ?_
  refine WL.a (d:=10) rfl rfl rfl (yc yr rfl (yp .here rfl)) ?_
  refine WL.a (d:=11) rfl rfl rfl (y81 rfl rfl zF8 rfl) ?_
  refine WL.pu rfl (WL.nil (WX.a ?_))
  obtain ⟨z8C,zF9,h⟩:=y12 h
  refine WC.y3w (fun (za4 : Int)=>(z8C za4 = some r)) (fun (za4 : Int)=>[(3,(.int .i64 za4))]) (fun (za4 : Int)=>[]) ?_ ?_
  ·skip
   refine WC.block ?_
   refine WC.y35 (fun (zdZ : Nat) (z4V : Int)=>(y3d z1T z8C zdZ z4V = some r)) (fun (zdZ : Nat) (z4V : Int)=>[(1,(.pointer (some ⟨zuG,0,none⟩))),(3,(.int .i64 z4V))]) (fun (zdZ : Nat) (z4V : Int)=>[stb zuG 40 [(.int .i64 z1T.fN),(.int .i64 z1T.fD)]]) (fun (zdZ : Nat) (z4V : Int)=>zdZ) ⟨yu,(i64 (Int.tdiv z1T.fN z1T.fD))⟩ h (.cons rfl (.cons rfl .nil)) (.cons .here .nil) ?_
   rintro zdZ z4V h
   obtain ⟨zoO,rfl⟩:=y8d h
   rw [y3d] at h
   refine WC.b (WC.b (WC.a (WL.pu rfl ?_)))
   refine WL.a (d:=13) rfl rfl rfl (y4 yN rfl rfl) ?_
   refine WL.a (d:=14) rfl rfl rfl (yc yr rfl (yp .here rfl)) ?_
   refine WL.pu rfl ?_
   refine WL.a (d:=16) rfl rfl rfl (y4 yL rfl rfl) ?_
   refine WL.a (d:=17) rfl rfl rfl (yc yr rfl (yp .here rfl)) ?_
   refine WL.pu rfl (WL.nil (WX.a ?_))
   refine WC.cond rfl (fun zoQ=>?_) (fun zoQ=>?_)
   ·replace h:=yd h zoQ
    refine WC.skip (WX.a (WC.block (WC.a (WL.pu rfl (WL.pu rfl (WL.pu rfl (WL.nil (WX.yi ?_))))))))
    exact WX.round (G:=Nat × Int) ⟨zoO,(i64 (z4V + 1))⟩ h (Nat.lt_succ_self _) (.cons rfl (.cons rfl .nil)) (.cons .here .nil)
   ·replace h:=ye h zoQ
    refine WC.exit (WX.yf (WX.yf (WX.yv ?_)))
    exact WX.mid (G:=Int) z4V h (.cons rfl .nil) .nil
  ·rintro za4 h
   replace h:=(zF9 za4).symm.trans h
   refine WC.b (WC.a (WL.pu rfl (WL.pu rfl (WL.nil (WX.a (WC.ret ?_))))))
   obtain rfl:=Option.some.inj h
   refine WX.y8 Tryz.results60 (.tmp rfl .nil) (fun w hw=>?_)
   exact ⟨yD rfl,hw.sub .nil⟩
def y2t (z3t : List z1) (z8D : (List z1) → Option (List z1)) : Nat → (List z1) → Int → Option (List z1)
 | 0,_,_=>none
 | zoR + 1,z3E,z3F=>if decide (z3F < ((z3t.length : Nat) : Int)) then chk ((0 : Int) ≤ z3F ∧ z3F < ((z3t.length : Nat) : Int)) ((y2M (⟨((nth z3t z3F).fN),((nth z3t z3F).fD)⟩ : z1)).bind fun za5=>(y3e (⟨((nth z3t z3F).fN),((nth z3t z3F).fD)⟩ : z1)).bind fun za6=>chk ((((z3E ++ ([(⟨za5,1⟩ : z1),(⟨za6,1⟩ : z1)] : List z1)).length : Nat) : Int) * 16 ≤ 140737488355328 ∧ (((z3E ++ ([(⟨za5,1⟩ : z1),(⟨za6,1⟩ : z1)] : List z1)).length : Nat) : Int) ≤ 4611686018427387904) (y2t z3t z8D zoR (z3E ++ ([(⟨za5,1⟩ : z1),(⟨za6,1⟩ : z1)] : List z1)) (i64 (z3F + 1)))) else z8D z3E
theorem y7z {n : Nat} {z3t : List z1} {z8D : (List z1) → Option (List z1)} {z3E : List z1} {z3F : Int} {r : List z1} (h : y2t z3t z8D n z3E z3F = some r) : ∃ m,n = m + 1:=by
 cases n with
 | zero=>cases h
 | succ m=>exact ⟨m,rfl⟩
def y3V (z3t : List z1) : Option (List z1) :=
 jp1 (fun (z78 : List z1)=>some z78) fun z8D=>y2t z3t z8D yu ([] : List z1) 0
set_option maxRecDepth 20000 in
theorem y7O (Z : Zp) (zgm : Option Addr) (zgn : Nat) (z3t : List z1) (r : List z1)
  (h : y3V z3t = some r) (w₀ : World) (hz : PZ [] w₀ Z)
  (zuH : ZS Z 2 (fun r x=>r = e40 x) zgm zgn z3t) :
  Calls Tryz.prog 40 #[(.slice zgm z3t.length zgn)] w₀ fun e w'=>∃ zuI : Option Addr,∃ zuJ : Nat,e = .returned (.slice zuI r.length zuJ) ∧ True ∧ Hp [] w₀ w' [row (.slice zuI r.length zuJ) 40 2 (r.flatMap e40)]:=by
 unfold y3V at h
 refine Calls.yg (vs:=[(.slice zgm z3t.length zgn)]) (pre:=[]) (env:=[(0,(.slice zgm z3t.length zgn))]) Tryz.func40 rfl Tryz.ntmps40 rfl (Hp.nil w₀ _) rfl ?_
 refine WC.b (WC.a (WL.pu rfl (WL.nil (WX.a (WC.b (WC.a (WL.pu rfl (WL.nil (WX.a ?_)))))))))
 obtain ⟨z8D,zFa,h⟩:=y12 h
 refine WC.y3O (fun (z78 : List z1) (ze0 : Option Addr) (ze1 : Nat)=>(z8D z78 = some r)) (fun (z78 : List z1) (ze0 : Option Addr) (ze1 : Nat)=>[(3,(.slice ze0 z78.length ze1))]) (fun (z78 : List z1) (ze0 : Option Addr) (ze1 : Nat)=>[row (.slice ze0 z78.length ze1) 40 2 (z78.flatMap e40)]) ?_ ?_
 ·skip
  refine WC.b (WC.a (WL.pu rfl (WL.nil (WX.a (WC.block ?_)))))
  refine WC.nilRow 40 2 ?_
  refine WC.y75 (fun (ze2 : Nat) (z3E : List z1) (z3F : Int) (zbI : Option Addr) (zbJ : Nat)=>(y2t z3t z8D ze2 z3E z3F = some r)) (fun (ze2 : Nat) (z3E : List z1) (z3F : Int) (zbI : Option Addr) (zbJ : Nat)=>[(0,(.slice zgm z3t.length zgn)),(3,(.slice zbI z3E.length zbJ)),(4,(.int .i64 z3F))]) (fun (ze2 : Nat) (z3E : List z1) (z3F : Int) (zbI : Option Addr) (zbJ : Nat)=>[row (.slice zbI z3E.length zbJ) 40 2 (z3E.flatMap e40)]) (fun (ze2 : Nat) (z3E : List z1) (z3F : Int) (zbI : Option Addr) (zbJ : Nat)=>ze2) ⟨yu,([] : List z1),0,none,0⟩ h (.cons rfl (.cons rfl (.cons rfl .nil))) (.cons .here .nil) ?_
  rintro ze2 z3E z3F zbI zbJ h
  obtain ⟨zoR,rfl⟩:=y7z h
  rw [y2t] at h
  refine WC.b (WC.b (WC.a (WL.pu rfl (WL.pu rfl ?_))))
  refine WL.a (d:=7) rfl rfl rfl (yP Tryz.underlying65 rfl) ?_
  refine WL.pu rfl (WL.nil (WX.a ?_))
  refine WC.cond rfl (fun zoS=>?_) (fun zoS=>?_)
  ·replace h:=yd h zoS
   refine WC.skip (WX.a (WC.b (WC.block ?_)))
   obtain ⟨zuK,h⟩:=yj h
   obtain ⟨za5,zFb,h⟩:=z8 h
   obtain ⟨za6,zFc,h⟩:=z8 h
   obtain ⟨zFd,h⟩:=yj h
   refine WC.yH (fun i=>[14].contains i) [] rfl ?_
   refine WD.a (i:=0) (d:=11) (by kernel_rfl) rfl z6 z7 rfl rfl rfl (fun _=>q_m rfl) ?_
   refine WD.a (i:=1) (d:=12) (by kernel_rfl) rfl z6 z7 rfl rfl rfl (fun _=>q_m rfl) ?_
   refine WD.a (i:=2) (d:=13) (by kernel_rfl) rfl z6 z7 rfl rfl rfl (fun _=>q_m rfl) ?_
   refine WD.znth (j:=3) (dd:=14) (by kernel_rfl) rfl z6 z7 rfl rfl (Z:=Z) (Pr:=(fun r x=>r = e40 x)) yK rfl rfl zuH zuK ?_
   rintro zLl zLm zFe zLn rfl
   refine WD.e (i:=4) (d:=15) (by kernel_rfl) rfl z6 z7 rfl rfl rfl (y9 y5 rfl (y2k hz.pv zFe) rfl) ?_
   refine WD.c (i:=5) (d:=16) (by kernel_rfl) rfl z6 z7 rfl rfl rfl (za (l:=[.tmp 15]) Tryz.call59 (.cons rfl .nil)) (cc hz .nil fun w pz ho=>yaD _ _ _ zFb w pz ) ?_
   refine WD.a (i:=6) (d:=17) (by kernel_rfl) rfl z6 z7 rfl rfl rfl (fun _=>yz (v:=(.agg #[(.int .i64 za5),(.int .i64 1)])) (Eos.parts (l:=[.tmp 16,.const (.int .i64 1)]) (.cons rfl (.cons rfl .nil)) [0,1]) (fun _=>by kernel_rfl)) ?_
   refine WD.a (i:=7) (d:=18) (by kernel_rfl) rfl z6 z7 rfl rfl rfl (fun _=>q_m rfl) ?_
   refine WD.a (i:=8) (d:=19) (by kernel_rfl) rfl z6 z7 rfl rfl rfl (fun _=>q_m rfl) ?_
   refine WD.znth (j:=9) (dd:=20) (by kernel_rfl) rfl z6 z7 rfl rfl (Z:=Z) (Pr:=(fun r x=>r = e40 x)) yK rfl rfl zuH zuK ?_
   rintro zLo zLp zFf zLq rfl
   refine WD.e (i:=10) (d:=21) (by kernel_rfl) rfl z6 z7 rfl rfl rfl (y9 y5 rfl (y2k hz.pv zFf) rfl) ?_
   refine WD.c (i:=11) (d:=22) (by kernel_rfl) rfl z6 z7 rfl rfl rfl (za (l:=[.tmp 21]) Tryz.call60 (.cons rfl .nil)) (cc hz .nil fun w pz ho=>yb0 _ _ _ zFc w pz ) ?_
   refine WD.a (i:=12) (d:=23) (by kernel_rfl) rfl z6 z7 rfl rfl rfl (fun _=>yz (v:=(.agg #[(.int .i64 za6),(.int .i64 1)])) (Eos.parts (l:=[.tmp 22,.const (.int .i64 1)]) (.cons rfl (.cons rfl .nil)) [0,1]) (fun _=>by kernel_rfl)) ?_
   refine WD.new (i:=13) (dd:=24) rfl (by kernel_rfl) rfl rfl rfl (yA (cs:=([(⟨za5,1⟩ : z1),(⟨za6,1⟩ : z1)] : List z1).flatMap e40) yK (Eos.parts (l:=[.tmp 17,.tmp 23]) (.cons rfl (.cons rfl .nil)) [0,1]) (fun _=>by kernel_rfl) rfl (by unfold maxLen; omega)) (fun h'=>absurd h' (by decide)) ?_
   intro zLr _
   refine WD.old (i:=14) (dd:=25) rfl (by kernel_rfl) rfl rfl rfl rfl (fun _=>(Sin.of .nil)) (y2c (enc:=e40) (l1:=z3E) (l2:=([(⟨za5,1⟩ : z1),(⟨za6,1⟩ : z1)] : List z1)) yK rfl rfl .h1 (fun _=>rfl) rfl rfl (y4z .here) (y3g y50 _) zFd) ?_
   rintro ⟨zFg,zFh⟩ _
   refine WD.a (i:=15) (d:=3) (by kernel_rfl) rfl z6 z7 rfl rfl rfl (fun _=>q_z rfl) ?_
   refine WD.done (by kernel_rfl) ?_
   refine WX.yi (WX.a (WC.a (WL.pu rfl (WL.pu rfl (WL.pu rfl (WL.nil ?_))))))
   exact WX.round (G:=Nat × List z1 × Int × Option Addr × Nat) ⟨zoR,(z3E ++ ([(⟨za5,1⟩ : z1),(⟨za6,1⟩ : z1)] : List z1)),(i64 (z3F + 1)),zFg,zFh⟩ h (Nat.lt_succ_self _) (.cons rfl (.cons rfl (.cons rfl .nil))) (.cons .here .nil)
  ·replace h:=ye h zoS
   refine WC.exit (WX.yf (WX.yf (WX.yv ?_)))
   exact WX.mid (G:=List z1 × Option Addr × Nat) ⟨z3E,zbI,zbJ⟩ h (.cons rfl .nil) (.cons .here .nil)
 ·rintro z78 ze0 ze1 h
  replace h:=(zFa z78).symm.trans h
  refine WC.b (WC.a (WL.pu rfl (WL.pu rfl (WL.nil (WX.a (WC.ret ?_))))))
  obtain rfl:=Option.some.inj h
  refine WX.y8 Tryz.results40 (.tmp rfl .nil) (fun w hw=>?_)
  exact ⟨ze0,ze1,yD rfl,trivial,hw.sub (.cons .here .nil)⟩
def y3f (z1g : List z2) (z8E : Int → Int → Option (z1 × Int)) : Nat → Int → Int → Int → Option (z1 × Int)
 | 0,_,_,_=>none
 | zoT + 1,z1L,z4W,z4X=>if decide (z1L < ((z1g.length : Nat) : Int)) then jp2 (fun (z8F : Int) (z8G : Int)=>y3f z1g z8E zoT (i64 (z1L + 1)) z8F z8G) fun ziv=>chk ((0 : Int) ≤ z1L ∧ z1L < ((z1g.length : Nat) : Int)) ((yE (⟨(((nth z1g z1L).fR).fN),(((nth z1g z1L).fR).fD)⟩ : z1) (⟨z4W,z4X⟩ : z1)).bind fun zuL=>if decide (zuL < 0) then chk ((0 : Int) ≤ z1L ∧ z1L < ((z1g.length : Nat) : Int)) (ziv (((nth z1g z1L).fR).fN) (((nth z1g z1L).fR).fD)) else ziv z4W z4X) else z8E z4W z4X
theorem y8e {n : Nat} {z1g : List z2} {z8E : Int → Int → Option (z1 × Int)} {z1L : Int} {z4W : Int} {z4X : Int} {r : z1 × Int} (h : y3f z1g z8E n z1L z4W z4X = some r) : ∃ m,n = m + 1:=by
 cases n with
 | zero=>cases h
 | succ m=>exact ⟨m,rfl⟩
def y4u (z1g : List z2) : Option (z1 × Int) :=
 (y3k z1g).bind fun zuM=>if !zuM then some ((⟨0,0⟩ : z1),2) else chk ((0 : Int) ≤ 0 ∧ 0 < ((z1g.length : Nat) : Int)) (jp2 (fun (za7 : Int) (za8 : Int)=>some ((⟨za7,za8⟩ : z1),0)) fun z8E=>y3f z1g z8E yu 1 (((nth z1g 0).fR).fN) (((nth z1g 0).fR).fD))
set_option maxRecDepth 20000 in
theorem yb1 (Z : Zp) (ze3 : Option Addr) (ze4 : Nat) (z1g : List z2) (r : z1 × Int)
  (h : y4u z1g = some r) (w₀ : World) (hz : PZ [] w₀ Z)
  (ziw : ZS Z 4 (fun r x=>r = e54 x) ze3 ze4 z1g) :
  Calls Tryz.prog 57 #[(.slice ze3 z1g.length ze4)] w₀ fun e w'=>e = .returned (.tuple #[(.agg #[(.int .i64 r.1.fN),(.int .i64 r.1.fD)]),(.int .i64 r.2)]) ∧ Hp [] w₀ w' []:=by
 unfold y4u at h
 refine Calls.yg (vs:=[(.slice ze3 z1g.length ze4)]) (pre:=[]) (env:=[(0,(.slice ze3 z1g.length ze4))]) Tryz.func57 rfl Tryz.ntmps57 rfl (Hp.nil w₀ _) rfl ?_
 refine WC.b (WC.a ?_)
 refine WL.new (dd:=2) rfl rfl rfl (yk (cs:=[(.int .i64 0),(.int .i64 0)]) yo rfl) ?_
 intro ze5 _
 refine WL.pu rfl (WL.nil (WX.a (WC.b (WC.b ?_))))
 obtain ⟨zuM,zFi,h⟩:=z8 h
 refine WC.a (WL.pu rfl ?_)
 refine WL.b (dd:=7) rfl rfl rfl (za (l:=[.tmp 6]) Tryz.call25 (.cons rfl .nil)) .nil (cc hz .nil fun w pz ho=>y5y _ _ _ _ _ zFi w pz ziw) ?_
 refine WL.pu rfl (WL.nil (WX.a ?_))
 refine WC.cond rfl (fun zoU=>?_) (fun zoU=>?_)
 ·replace h:=yd h zoU
  refine WC.b (WC.a ?_)
  refine WL.a (d:=9) rfl rfl rfl (yz (v:=(.agg #[(.int .i64 0),(.int .i64 0)])) (Eos.parts (l:=[]) .nil []) (fun _=>by kernel_rfl)) ?_
  refine WL.yb rfl rfl (ya yh rfl rfl rfl .here rfl rfl rfl) ?_
  refine WL.pu rfl (WL.nil (WX.a (WC.ret (WX.y6 ?_))))
  obtain rfl:=Option.some.inj h
  refine WX.y8 Tryz.results57 (.agg rfl y5 rfl (y7 .here) (.tmp rfl .nil)) (fun w hw=>?_)
  exact ⟨yF rfl rfl,hw.sub .nil⟩
 ·replace h:=ye h zoU
  refine WC.skip (WX.a (WC.b ?_))
  obtain ⟨zFj,h⟩:=yj h
  refine WC.a (WL.pu rfl ?_)
  refine WL.znth (dd:=11) rfl rfl (Z:=Z) (Pr:=(fun r x=>r = e54 x)) yS rfl rfl ziw zFj ?_
  rintro zLs zLt zFk zLu rfl
  refine WL.a (d:=12) rfl rfl rfl (y4 y2T rfl rfl) ?_
  refine WL.a (d:=13) rfl rfl rfl (ys (cs:=[(.int .i64 (((nth z1g 0).fR).fN)),(.int .i64 (((nth z1g 0).fR).fD))]) y5 rfl rfl (y3q (off:=2) (s:=2) hz.pv zFk rfl)) ?_
  refine WL.new (dd:=4) rfl rfl rfl (yk (cs:=[(.int .i64 0),(.int .i64 0)]) yo rfl) ?_
  intro ze6 _
  refine WL.yb rfl rfl (ya yh rfl rfl rfl .here rfl rfl rfl) ?_
  refine WL.nil (WX.a ?_)
  obtain ⟨z8E,zFl,h⟩:=y2b h
  refine WC.y28 (fun (za7 : Int) (za8 : Int)=>(z8E za7 za8 = some r)) (fun (za7 : Int) (za8 : Int)=>[(2,(.pointer (some ⟨ze5,0,none⟩))),(4,(.pointer (some ⟨ze6,0,none⟩)))]) (fun (za7 : Int) (za8 : Int)=>[stb ze5 40 [(.int .i64 0),(.int .i64 0)],stb ze6 40 [(.int .i64 za7),(.int .i64 za8)]]) ?_ ?_
  ·skip
   refine WC.b (WC.a (WL.pu rfl (WL.nil (WX.a (WC.block ?_)))))
   refine WC.y36 (fun (ze7 : Nat) (z1L : Int) (z4W : Int) (z4X : Int)=>(y3f z1g z8E ze7 z1L z4W z4X = some r)) (fun (ze7 : Nat) (z1L : Int) (z4W : Int) (z4X : Int)=>[(0,(.slice ze3 z1g.length ze4)),(2,(.pointer (some ⟨ze5,0,none⟩))),(4,(.pointer (some ⟨ze6,0,none⟩))),(5,(.int .i64 z1L))]) (fun (ze7 : Nat) (z1L : Int) (z4W : Int) (z4X : Int)=>[stb ze5 40 [(.int .i64 0),(.int .i64 0)],stb ze6 40 [(.int .i64 z4W),(.int .i64 z4X)]]) (fun (ze7 : Nat) (z1L : Int) (z4W : Int) (z4X : Int)=>ze7) ⟨yu,1,(((nth z1g 0).fR).fN),(((nth z1g 0).fR).fD)⟩ h (.cons rfl (.cons rfl (.cons rfl (.cons rfl .nil)))) (.cons .h1 (.cons .here .nil)) ?_
   rintro ze7 z1L z4W z4X h
   obtain ⟨zoT,rfl⟩:=y8e h
   rw [y3f] at h
   refine WC.b (WC.b (WC.a (WL.pu rfl (WL.pu rfl ?_))))
   refine WL.a (d:=16) rfl rfl rfl (yP Tryz.underlying23 rfl) ?_
   refine WL.pu rfl (WL.nil (WX.a ?_))
   refine WC.cond rfl (fun zoV=>?_) (fun zoV=>?_)
   ·replace h:=yd h zoV
    refine WC.skip (WX.a ?_)
    obtain ⟨ziv,zFm,h⟩:=y2b h
    refine WC.y28 (fun (z8F : Int) (z8G : Int)=>(ziv z8F z8G = some r)) (fun (z8F : Int) (z8G : Int)=>[(0,(.slice ze3 z1g.length ze4)),(2,(.pointer (some ⟨ze5,0,none⟩))),(4,(.pointer (some ⟨ze6,0,none⟩))),(5,(.int .i64 z1L))]) (fun (z8F : Int) (z8G : Int)=>[stb ze5 40 [(.int .i64 0),(.int .i64 0)],stb ze6 40 [(.int .i64 z8F),(.int .i64 z8G)]]) ?_ ?_
    ·skip
     refine WC.block (WC.b ?_)
     obtain ⟨zFn,h⟩:=yj h
     obtain ⟨zuL,zFo,h⟩:=z8 h
     refine WC.yH (fun i=>[].contains i) [] rfl ?_
     refine WD.a (i:=0) (d:=20) (by kernel_rfl) rfl z6 z7 rfl rfl rfl (fun _=>q_m rfl) ?_
     refine WD.a (i:=1) (d:=21) (by kernel_rfl) rfl z6 z7 rfl rfl rfl (fun _=>q_m rfl) ?_
     refine WD.znth (j:=2) (dd:=22) (by kernel_rfl) rfl z6 z7 rfl rfl (Z:=Z) (Pr:=(fun r x=>r = e54 x)) yS rfl rfl ziw zFn ?_
     rintro zLv zLw zFp zLx rfl
     refine WD.a (i:=3) (d:=23) (by kernel_rfl) rfl z6 z7 rfl rfl rfl (fun _=>y4 y2T rfl rfl) ?_
     refine WD.e (i:=4) (d:=24) (by kernel_rfl) rfl z6 z7 rfl rfl rfl (ys (cs:=[(.int .i64 (((nth z1g z1L).fR).fN)),(.int .i64 (((nth z1g z1L).fR).fD))]) y5 rfl rfl (y3q (off:=2) (s:=2) hz.pv zFp rfl)) ?_
     refine WD.e (i:=5) (d:=25) (by kernel_rfl) rfl z6 z7 rfl rfl rfl (y9 y5 rfl (y7 .h1) rfl) ?_
     refine WD.c (i:=6) (d:=26) (by kernel_rfl) rfl z6 z7 rfl rfl rfl (za (l:=[.tmp 24,.tmp 25]) Tryz.call28 (.cons rfl (.cons rfl .nil))) (cc hz .nil fun w pz ho=>y2H _ _ _ _ zFo w pz ) ?_
     refine WD.a (i:=7) (d:=27) (by kernel_rfl) rfl z6 z7 rfl rfl rfl (fun _=>y8M rfl rfl) ?_
     refine WD.done (by kernel_rfl) ?_
     refine WX.a ?_
     refine WC.cond rfl (fun zoW=>?_) (fun zoW=>?_)
     ·replace h:=yd h zoW
      obtain ⟨zFq,h⟩:=yj h
      refine WC.a (WL.pu rfl (WL.pu rfl ?_))
      refine WL.znth (dd:=30) rfl rfl (Z:=Z) (Pr:=(fun r x=>r = e54 x)) yS rfl rfl ziw zFq ?_
      rintro zLy zLz zFr zLA rfl
      refine WL.a (d:=31) rfl rfl rfl (y4 y2T rfl rfl) ?_
      refine WL.a (d:=32) rfl rfl rfl (ys (cs:=[(.int .i64 (((nth z1g z1L).fR).fN)),(.int .i64 (((nth z1g z1L).fR).fD))]) y5 rfl rfl (y3q (off:=2) (s:=2) hz.pv zFr rfl)) ?_
      refine WL.yb rfl rfl (ya yh rfl rfl rfl .h1 rfl rfl rfl) ?_
      refine WL.nil (WX.yi ?_)
      exact WX.mid (G:=Int × Int) ⟨(((nth z1g z1L).fR).fN),(((nth z1g z1L).fR).fD)⟩ h (.cons rfl (.cons rfl (.cons rfl (.cons rfl .nil)))) (.cons .h1 (.cons .here .nil))
     ·replace h:=ye h zoW
      refine WC.skip (WX.yi ?_)
      exact WX.mid (G:=Int × Int) ⟨z4W,z4X⟩ h (.cons rfl (.cons rfl (.cons rfl (.cons rfl .nil)))) (.cons .here (.cons .here .nil))
    ·rintro z8F z8G h
     replace h:=(zFm z8F z8G).symm.trans h
     refine WC.a (WL.pu rfl (WL.pu rfl (WL.pu rfl (WL.nil ?_))))
     exact WX.round (G:=Nat × Int × Int × Int) ⟨zoT,(i64 (z1L + 1)),z8F,z8G⟩ h (Nat.lt_succ_self _) (.cons rfl (.cons rfl (.cons rfl (.cons rfl .nil)))) (.cons .here (.cons .here .nil))
   ·replace h:=ye h zoV
    refine WC.exit (WX.yf (WX.yf (WX.yv ?_)))
    exact WX.mid (G:=Int × Int) ⟨z4W,z4X⟩ h (.cons rfl (.cons rfl .nil)) (.cons .here (.cons .here .nil))
  ·rintro za7 za8 h
   replace h:=(zFl za7 za8).symm.trans h
   refine WC.b (WC.a ?_)
   refine WL.a (d:=33) rfl rfl rfl (y9 y5 rfl (y7 .h1) rfl) ?_
   refine WL.yb rfl rfl (ya yh rfl rfl rfl .here rfl rfl rfl) ?_
   refine WL.pu rfl (WL.nil (WX.a (WC.ret ?_)))
   obtain rfl:=Option.some.inj h
   refine WX.y8 Tryz.results57 (.agg rfl y5 rfl (y7 .here) (.tmp rfl .nil)) (fun w hw=>?_)
   exact ⟨yF rfl rfl,hw.sub .nil⟩
def y2R (z1q : List (List z2)) (z8H : Option (List z1 × Int)) : Nat → Int → Option (List z1 × Int)
 | 0,_=>none
 | zoX + 1,z4z=>if decide (z4z < ((z1q.length : Nat) : Int)) then chk ((0 : Int) ≤ z4z ∧ z4z < ((z1q.length : Nat) : Int)) ((y3k (nth z1q z4z)).bind fun zuN=>if !zuN then some (([] : List z1),2) else y2R z1q z8H zoX (i64 (z4z + 1))) else z8H
theorem y7P {n : Nat} {z1q : List (List z2)} {z8H : Option (List z1 × Int)} {z4z : Int} {r : List z1 × Int} (h : y2R z1q z8H n z4z = some r) : ∃ m,n = m + 1:=by
 cases n with
 | zero=>cases h
 | succ m=>exact ⟨m,rfl⟩
def y2i (z1q : List (List z2)) (z8I : (List z1) → Bool → Int → Int → Option (List z1 × Int)) : Nat → (List z1) → Bool → Int → Int → Int → Option (List z1 × Int)
 | 0,_,_,_,_,_=>none
 | zoY + 1,z3b,z4Y,z3u,z4Z,z52=>if decide (z3u < ((z1q.length : Nat) : Int)) then jp4 (fun (z6y : List z1) (z8J : Bool) (z8K : Int) (z8L : Int)=>y2i z1q z8I zoY z6y z8J (i64 (z3u + 1)) z8K z8L) fun zix=>chk ((0 : Int) ≤ z3u ∧ z3u < ((z1q.length : Nat) : Int)) ((y3U (nth z1q z3u)).bind fun ziy=>if decide (ziy.2 ≠ 0) then some (([] : List z1),ziy.2) else (y3V ziy.1).bind fun za9=>chk ((((z3b ++ za9).length : Nat) : Int) * 16 ≤ 140737488355328 ∧ (((z3b ++ za9).length : Nat) : Int) ≤ 4611686018427387904) (chk ((0 : Int) ≤ z3u ∧ z3u < ((z1q.length : Nat) : Int)) ((y4u (nth z1q z3u)).bind fun zuO=>if !z4Y then (yB 0 (⟨z4Z,z52⟩ : z1) zuO.1).bind fun zbK=>zix (z3b ++ za9) (decide (zbK.2 ≠ 0)) zbK.1.fN zbK.1.fD else zix (z3b ++ za9) z4Y z4Z z52))) else z8I z3b z4Y z4Z z52
theorem y7Q {n : Nat} {z1q : List (List z2)} {z8I : (List z1) → Bool → Int → Int → Option (List z1 × Int)} {z3b : List z1} {z4Y : Bool} {z3u : Int} {z4Z : Int} {z52 : Int} {r : List z1 × Int} (h : y2i z1q z8I n z3b z4Y z3u z4Z z52 = some r) : ∃ m,n = m + 1:=by
 cases n with
 | zero=>cases h
 | succ m=>exact ⟨m,rfl⟩
def y4b (z1q : List (List z2)) (zQ : S41) : Option (List z1 × Int) :=
 (if decide (((z1q.length : Nat) : Int) > 32) then some true else (y3m zQ).bind fun zuP=>some (!zuP)).bind fun zoZ=>if zoZ then some (([] : List z1),2) else jp0 (jp4 (fun (z79 : List z1) (zaa : Bool) (zab : Int) (zac : Int)=>if zaa then some (([] : List z1),3) else (yE (⟨zab,zac⟩ : z1) zQ.fR).bind fun zuQ=>if decide (zuQ > 0) then some (([] : List z1),6) else some (z79,0)) fun z8I=>y2i z1q z8I yu ([(⟨0,1⟩ : z1)] : List z1) false 0 0 1) fun z8H=>y2R z1q z8H yu 0
set_option maxRecDepth 20000 in
theorem y8o (Z : Zp) (zad : Option Addr) (zae : Nat) (z1q : List (List z2)) (zQ : S41) (r : List z1 × Int)
  (h : y4b z1q zQ = some r) (w₀ : World) (hz : PZ [] w₀ Z)
  (zp0 : ZS Z 1 (p23 Z) zad zae z1q) :
  Calls Tryz.prog 36 #[(.slice zad z1q.length zae),(.agg #[(.int .i64 zQ.fR.fN),(.int .i64 zQ.fR.fD),(.int .i64 zQ.fL.fN),(.int .i64 zQ.fL.fD)])] w₀ fun e w'=>∃ Zn : Zp,∃ zuR : Option Addr,∃ zuS : Nat,e = .returned (.tuple #[(.slice zuR r.1.length zuS),(.int .i64 r.2)]) ∧ True ∧ Hp [] w₀ w' [fz Zn,row (.slice zuR r.1.length zuS) 40 2 (r.1.flatMap e40)]:=by
 unfold y4b at h
 refine Calls.yg (vs:=[(.slice zad z1q.length zae),(.agg #[(.int .i64 zQ.fR.fN),(.int .i64 zQ.fR.fD),(.int .i64 zQ.fL.fN),(.int .i64 zQ.fL.fD)])]) (pre:=[]) (env:=[(0,(.slice zad z1q.length zae)),(1,(.agg #[(.int .i64 zQ.fR.fN),(.int .i64 zQ.fR.fD),(.int .i64 zQ.fL.fN),(.int .i64 zQ.fL.fD)]))]) Tryz.func36 rfl Tryz.ntmps36 rfl (Hp.nil w₀ _) rfl ?_
 refine WC.pool (WC.b (WC.a ?_))
 refine WL.new (dd:=3) rfl rfl rfl (yx (cs:=[(.int .i64 zQ.fR.fN),(.int .i64 zQ.fR.fD),(.int .i64 zQ.fL.fN),(.int .i64 zQ.fL.fD)]) rfl rfl) ?_
 intro z7a _
 refine WL.pu rfl (WL.pu rfl (WL.nil (WX.a (WC.b (WC.b ?_)))))
 obtain ⟨zoZ,zuT,h⟩:=z8 h
 refine WC.a (WL.pu rfl ?_)
 refine WL.a (d:=16) rfl rfl rfl (yP Tryz.underlying38 rfl) ?_
 refine WL.pu rfl (WL.pu rfl ?_)
 refine WL.seg false 3 18 (B:=zoZ) rfl rfl rfl rfl rfl rfl (fun h=>(Option.some.inj (yd zuT h)).symm) (fun _ zFs=>?_) ?_
 ·skip
  have zgo:=ye zuT zFs
  obtain ⟨zuP,zFt,zgo⟩:=z8 zgo
  replace zgo:=Option.some.inj zgo
  refine WL.a (d:=19) rfl rfl rfl (y9 y15 rfl (y7 .here) rfl) ?_
  refine WL.b (dd:=20) rfl rfl rfl (za (l:=[.tmp 19]) Tryz.call18 (.cons rfl .nil)) .nil (ccz hz .nil .h1 fun w pz ho=>y5z _ _ _ zFt w pz ) ?_
  refine WL.pu rfl (WL.pu rfl ?_)
  exact WL.yw zgo rfl rfl .all
 refine WL.nil (WX.a ?_)
 refine WC.cond rfl (fun zp1=>?_) (fun zp1=>?_)
 ·replace h:=yd h zp1
  refine WC.b (WC.a (WL.pu rfl (WL.pu rfl (WL.nil (WX.a (WC.ret (WX.y6 ?_)))))))
  refine WX.nilRow 40 2 ?_
  obtain rfl:=Option.some.inj h
  refine WX.y8 Tryz.results36 (.tmp rfl (.tmp rfl .nil)) (fun w hw=>?_)
  exact ⟨[],none,0,yF rfl rfl,trivial,hw.sub (.cons .h2 (.cons .here .nil))⟩
 ·replace h:=ye h zp1
  refine WC.skip (WX.a ?_)
  obtain ⟨z8H,zFu,h⟩:=y3H h
  refine WC.y2J ((z8H = some r)) ([(0,(.slice zad z1q.length zae)),(3,(.pointer (some ⟨z7a,0,none⟩)))]) ([fz [],stb z7a 42 [(.int .i64 zQ.fR.fN),(.int .i64 zQ.fR.fD),(.int .i64 zQ.fL.fN),(.int .i64 zQ.fL.fD)]]) ?_ ?_
  ·skip
   refine WC.b (WC.a (WL.pu rfl (WL.nil (WX.a (WC.block ?_)))))
   refine WC.y35 (fun (ze8 : Nat) (z4z : Int)=>(y2R z1q z8H ze8 z4z = some r)) (fun (ze8 : Nat) (z4z : Int)=>[(0,(.slice zad z1q.length zae)),(3,(.pointer (some ⟨z7a,0,none⟩))),(6,(.int .i64 z4z))]) (fun (ze8 : Nat) (z4z : Int)=>[fz [],stb z7a 42 [(.int .i64 zQ.fR.fN),(.int .i64 zQ.fR.fD),(.int .i64 zQ.fL.fN),(.int .i64 zQ.fL.fD)]]) (fun (ze8 : Nat) (z4z : Int)=>ze8) ⟨yu,0⟩ h (.cons rfl (.cons rfl (.cons rfl .nil))) (.cons .h1 (.cons .here .nil)) ?_
   rintro ze8 z4z h
   obtain ⟨zoX,rfl⟩:=y7P h
   rw [y2R] at h
   refine WC.b (WC.b (WC.a (WL.pu rfl (WL.pu rfl ?_))))
   refine WL.a (d:=25) rfl rfl rfl (yP Tryz.underlying38 rfl) ?_
   refine WL.pu rfl (WL.nil (WX.a ?_))
   refine WC.cond rfl (fun zp2=>?_) (fun zp2=>?_)
   ·replace h:=yd h zp2
    refine WC.skip (WX.a (WC.b (WC.block (WC.b ?_))))
    obtain ⟨zFv,h⟩:=yj h
    obtain ⟨zuN,zFw,h⟩:=z8 h
    refine WC.a (WL.pu rfl (WL.pu rfl ?_))
    refine WL.znth (dd:=31) rfl rfl (Z:=(Z ++ [])) (Pr:=(p23 (Z ++ []))) y3X rfl rfl ((zp0.mono (Zle.left _ _)).weak (fun _ _ h=>yG (Zle.left _ _) h)) zFv ?_
    rintro zLB zLC zFx zLD ⟨zLE,zLF,rfl,zFy⟩
    refine WL.a (d:=32) rfl rfl rfl (yc y3S rfl (y4X (hz.pv2 .here) zFx rfl)) ?_
    refine WL.b (dd:=33) rfl rfl rfl (za (l:=[.tmp 32]) Tryz.call25 (.cons rfl .nil)) .nil (ccz hz .nil .here fun w pz ho=>y5y _ _ _ _ _ zFw w pz zFy) ?_
    refine WL.pu rfl (WL.nil (WX.a ?_))
    refine WC.cond rfl (fun zp3=>?_) (fun zp3=>?_)
    ·replace h:=yd h zp3
     refine WC.b (WC.a (WL.pu rfl (WL.pu rfl (WL.nil (WX.a (WC.ret (WX.yl (WX.y6 (WX.y6 (WX.yl (WX.y6 ?_)))))))))))
     refine WX.nilRow 40 2 ?_
     obtain rfl:=Option.some.inj h
     refine WX.y8 Tryz.results36 (.tmp rfl (.tmp rfl .nil)) (fun w hw=>?_)
     exact ⟨[],none,0,yF rfl rfl,trivial,hw.sub (.cons .h1 (.cons .here .nil))⟩
    ·replace h:=ye h zp3
     refine WC.skip (WX.yi (WX.a (WC.a (WL.pu rfl (WL.pu rfl (WL.pu rfl (WL.nil ?_)))))))
     exact WX.round (G:=Nat × Int) ⟨zoX,(i64 (z4z + 1))⟩ h (Nat.lt_succ_self _) (.cons rfl (.cons rfl (.cons rfl .nil))) (.cons .here (.cons .here .nil))
   ·replace h:=ye h zp2
    refine WC.exit (WX.yf (WX.yf (WX.yv ?_)))
    exact WX.mid (G:=Unit) () h (.cons rfl (.cons rfl .nil)) (.cons .here (.cons .here .nil))
  ·rintro  h
   replace h:=zFu.symm.trans h
   refine WC.b (WC.a ?_)
   refine WL.a (d:=35) rfl rfl rfl (yz (v:=(.agg #[(.int .i64 0),(.int .i64 1)])) (Eos.parts (l:=[.const (.int .i64 0),.const (.int .i64 1)]) (.cons rfl (.cons rfl .nil)) [0,1]) (fun _=>by kernel_rfl)) ?_
   refine WL.new (dd:=36) rfl rfl rfl (yA (cs:=([(⟨0,1⟩ : z1)] : List z1).flatMap e40) yK (Eos.parts (l:=[.tmp 35]) (.cons rfl .nil) [0]) (fun _=>by kernel_rfl) rfl (by unfold maxLen; omega)) ?_
   intro zFz _
   refine WL.pu rfl (WL.nil (WX.a (WC.b (WC.a ?_))))
   refine WL.a (d:=37) rfl rfl rfl (yz (v:=(.agg #[(.int .i64 0),(.int .i64 1)])) (Eos.parts (l:=[.const (.int .i64 0),.const (.int .i64 1)]) (.cons rfl (.cons rfl .nil)) [0,1]) (fun _=>by kernel_rfl)) ?_
   refine WL.new (dd:=8) rfl rfl rfl (yk (cs:=[(.int .i64 0),(.int .i64 0)]) yo rfl) ?_
   intro ze9 _
   refine WL.yb rfl rfl (ya yh rfl rfl rfl .here rfl rfl rfl) ?_
   refine WL.nil (WX.a (WC.b (WC.a (WL.pu rfl (WL.nil (WX.a ?_))))))
   obtain ⟨z8I,zFA,h⟩:=y86 h
   refine WC.y9B (fun (z79 : List z1) (zaa : Bool) (zab : Int) (zac : Int) (zaf : Zp) (zea : Option Addr) (zeb : Nat)=>(z8I z79 zaa zab zac = some r) ∧ (Zle (Z ++ []) (Z ++ zaf))) (fun (z79 : List z1) (zaa : Bool) (zab : Int) (zac : Int) (zaf : Zp) (zea : Option Addr) (zeb : Nat)=>[(3,(.pointer (some ⟨z7a,0,none⟩))),(7,(.slice zea z79.length zeb)),(8,(.pointer (some ⟨ze9,0,none⟩))),(9,(.bool zaa))]) (fun (z79 : List z1) (zaa : Bool) (zab : Int) (zac : Int) (zaf : Zp) (zea : Option Addr) (zeb : Nat)=>[fz zaf,row (.slice zea z79.length zeb) 40 2 (z79.flatMap e40),stb z7a 42 [(.int .i64 zQ.fR.fN),(.int .i64 zQ.fR.fD),(.int .i64 zQ.fL.fN),(.int .i64 zQ.fL.fD)],stb ze9 40 [(.int .i64 zab),(.int .i64 zac)]]) ?_ ?_
   ·skip
    refine WC.b (WC.a (WL.pu rfl (WL.nil (WX.a (WC.block ?_)))))
    refine WC.loop9 (fun (zec : Nat) (z3b : List z1) (z4Y : Bool) (z3u : Int) (z4Z : Int) (z52 : Int) (z4A : Zp) (zbL : Option Addr) (zbM : Nat)=>(y2i z1q z8I zec z3b z4Y z3u z4Z z52 = some r) ∧ (Zle (Z ++ []) (Z ++ z4A))) (fun (zec : Nat) (z3b : List z1) (z4Y : Bool) (z3u : Int) (z4Z : Int) (z52 : Int) (z4A : Zp) (zbL : Option Addr) (zbM : Nat)=>[(0,(.slice zad z1q.length zae)),(3,(.pointer (some ⟨z7a,0,none⟩))),(7,(.slice zbL z3b.length zbM)),(8,(.pointer (some ⟨ze9,0,none⟩))),(9,(.bool z4Y)),(10,(.int .i64 z3u))]) (fun (zec : Nat) (z3b : List z1) (z4Y : Bool) (z3u : Int) (z4Z : Int) (z52 : Int) (z4A : Zp) (zbL : Option Addr) (zbM : Nat)=>[fz z4A,row (.slice zbL z3b.length zbM) 40 2 (z3b.flatMap e40),stb z7a 42 [(.int .i64 zQ.fR.fN),(.int .i64 zQ.fR.fD),(.int .i64 zQ.fL.fN),(.int .i64 zQ.fL.fD)],stb ze9 40 [(.int .i64 z4Z),(.int .i64 z52)]]) (fun (zec : Nat) (z3b : List z1) (z4Y : Bool) (z3u : Int) (z4Z : Int) (z52 : Int) (z4A : Zp) (zbL : Option Addr) (zbM : Nat)=>zec) ⟨yu,([(⟨0,1⟩ : z1)] : List z1),false,0,0,1,[],(some ⟨zFz,0,none⟩),1⟩ ⟨h,(Zle.refl _)⟩ (.cons rfl (.cons rfl (.cons rfl (.cons rfl (.cons rfl (.cons rfl .nil)))))) (.cons .h2 (.cons .h1 (.cons .h1 (.cons .here .nil)))) ?_
    rintro zec z3b z4Y z3u z4Z z52 z4A zbL zbM ⟨h,zed⟩
    obtain ⟨zoY,rfl⟩:=y7Q h
    rw [y2i] at h
    refine WC.b (WC.b (WC.a (WL.pu rfl (WL.pu rfl ?_))))
    refine WL.a (d:=40) rfl rfl rfl (yP Tryz.underlying38 rfl) ?_
    refine WL.pu rfl (WL.nil (WX.a ?_))
    refine WC.cond rfl (fun zp4=>?_) (fun zp4=>?_)
    ·replace h:=yd h zp4
     refine WC.skip (WX.a ?_)
     obtain ⟨zix,zFB,h⟩:=y86 h
     refine WC.y9B (fun (z6y : List z1) (z8J : Bool) (z8K : Int) (z8L : Int) (zee : Zp) (zef : Option Addr) (zeg : Nat)=>(zix z6y z8J z8K z8L = some r) ∧ (Zle (Z ++ z4A) (Z ++ zee))) (fun (z6y : List z1) (z8J : Bool) (z8K : Int) (z8L : Int) (zee : Zp) (zef : Option Addr) (zeg : Nat)=>[(0,(.slice zad z1q.length zae)),(3,(.pointer (some ⟨z7a,0,none⟩))),(7,(.slice zef z6y.length zeg)),(8,(.pointer (some ⟨ze9,0,none⟩))),(9,(.bool z8J)),(10,(.int .i64 z3u))]) (fun (z6y : List z1) (z8J : Bool) (z8K : Int) (z8L : Int) (zee : Zp) (zef : Option Addr) (zeg : Nat)=>[fz zee,row (.slice zef z6y.length zeg) 40 2 (z6y.flatMap e40),stb z7a 42 [(.int .i64 zQ.fR.fN),(.int .i64 zQ.fR.fD),(.int .i64 zQ.fL.fN),(.int .i64 zQ.fL.fD)],stb ze9 40 [(.int .i64 z8K),(.int .i64 z8L)]]) ?_ ?_
     ·skip
      refine WC.block (WC.b ?_)
      obtain ⟨zFC,h⟩:=yj h
      obtain ⟨ziy,zFD,h⟩:=z8 h
      refine WC.a (WL.pu rfl (WL.pu rfl ?_))
      refine WL.znth (dd:=47) rfl rfl (Z:=(Z ++ z4A)) (Pr:=(p23 (Z ++ z4A))) y3X rfl rfl ((zp0.mono ((Zle.left _ _).trans zed)).weak (fun _ _ h=>yG ((Zle.left _ _).trans zed) h)) zFC ?_
      rintro zLG zLH zFE zLI ⟨zLJ,zLK,rfl,zFF⟩
      refine WL.a (d:=48) rfl rfl rfl (yc y3S rfl (y4X (hz.pv2 .here) zFE rfl)) ?_
      refine WL.y4e (dd:=49) rfl rfl rfl (za (l:=[.tmp 48]) Tryz.call56 (.cons rfl .nil)) .nil (ccz hz .nil .here fun w pz ho=>ya9 _ _ _ _ _ zFD w pz zFF) ?_
      rintro zgp zLL zLM zFG
      refine WL.merge .here .here ?_
      refine WL.pu rfl (WL.pu rfl (WL.pu rfl (WL.pu rfl (WL.pu rfl (WL.nil (WX.a (WC.b (WC.b (WC.a (WL.pu rfl (WL.pu rfl (WL.nil (WX.a ?_)))))))))))))
      refine WC.cond rfl (fun zp5=>?_) (fun zp5=>?_)
      ·replace h:=yd h zp5
       refine WC.b (WC.a (WL.pu rfl (WL.pu rfl (WL.pu rfl (WL.nil (WX.a (WC.ret (WX.y6 (WX.yl (WX.y6 (WX.y6 (WX.yl (WX.y6 ?_)))))))))))))
       refine WX.nilRow 40 2 ?_
       obtain rfl:=Option.some.inj h
       refine WX.y8 Tryz.results36 (.tmp rfl (.tmp rfl .nil)) (fun w hw=>?_)
       exact ⟨(z4A ++ zgp),none,0,yF rfl rfl,trivial,hw.sub (.cons .h1 (.cons .here .nil))⟩
      ·replace h:=ye h zp5
       refine WC.skip (WX.a (WC.b ?_))
       obtain ⟨za9,zFH,h⟩:=z8 h
       obtain ⟨zFI,h⟩:=yj h
       refine WC.a (WL.pu rfl (WL.pu rfl ?_))
       refine WL.y6s (dd:=57) rfl rfl rfl (za (l:=[.tmp 56]) Tryz.call40 (.cons rfl .nil)) .nil (ccz hz .nil .here fun w pz ho=>y7O _ _ _ _ _ zFH w pz (zFG.mono (Zle.yn _ _ _))) ?_
       rintro zLN zLO _
       refine WL.eff (d:=58) rfl rfl rfl (y2c (enc:=e40) (l1:=z3b) (l2:=za9) yK rfl rfl .h2 (fun _=>rfl) rfl rfl (y4z .here) (y3g y50 _) zFI) ?_
       rintro ⟨zuU,zuV⟩ _
       refine WL.pu rfl (WL.nil (WX.a (WC.b ?_)))
       obtain ⟨zFJ,h⟩:=yj h
       obtain ⟨zuO,zFK,h⟩:=z8 h
       refine WC.a (WL.pu rfl (WL.pu rfl ?_))
       refine WL.znth (dd:=62) rfl rfl (Z:=(Z ++ (z4A ++ zgp))) (Pr:=(p23 (Z ++ (z4A ++ zgp)))) y3X rfl rfl ((zp0.mono ((Zle.left _ _).trans (zed.trans ((Zle.left _ _).trans (Zle.yn _ _ _))))).weak (fun _ _ h=>yG ((Zle.left _ _).trans (zed.trans ((Zle.left _ _).trans (Zle.yn _ _ _)))) h)) zFJ ?_
       rintro zLP zLQ zFL zLR ⟨zLS,zLT,rfl,zFM⟩
       refine WL.a (d:=63) rfl rfl rfl (yc y3S rfl (y4X (hz.pv2 .h2) zFL rfl)) ?_
       refine WL.b (dd:=64) rfl rfl rfl (za (l:=[.tmp 63]) Tryz.call57 (.cons rfl .nil)) .nil (ccz hz .nil .h2 fun w pz ho=>yb1 _ _ _ _ _ zFK w pz zFM) ?_
       refine WL.pu rfl (WL.pu rfl (WL.pu rfl ?_))
       refine WL.new (dd:=13) rfl rfl rfl (yk (cs:=[(.int .i64 0),(.int .i64 0)]) yo rfl) ?_
       intro zLU _
       refine WL.yb rfl rfl (ya yh rfl rfl rfl .here rfl rfl rfl) ?_
       refine WL.pu rfl (WL.nil (WX.a (WC.b (WC.a (WL.pu rfl (WL.pu rfl (WL.nil (WX.a ?_))))))))
       refine WC.cond rfl (fun zp6=>?_) (fun zp6=>?_)
       ·replace h:=yd h zp6
        refine WC.b ?_
        obtain ⟨zbK,zFN,h⟩:=z8 h
        refine WC.a ?_
        refine WL.a (d:=70) rfl rfl rfl (y9 y5 rfl (y7 .h5) rfl) ?_
        refine WL.a (d:=71) rfl rfl rfl (y9 y5 rfl (y7 .here) rfl) ?_
        refine WL.b (dd:=72) rfl rfl rfl (za (l:=[.const (.int .i64 0),.tmp 70,.tmp 71]) Tryz.call43 (.cons rfl (.cons rfl (.cons rfl .nil)))) .nil (ccz hz .nil .h3 fun w pz ho=>y29 _ _ _ _ _ zFN w pz ) ?_
        refine WL.pu rfl (WL.pu rfl (WL.pu rfl ?_))
        refine WL.yb rfl rfl (ya yh rfl rfl rfl .h5 rfl rfl rfl) ?_
        refine WL.pu rfl (WL.nil (WX.a (WC.a (WL.pu rfl (WL.pu rfl (WL.pu rfl (WL.nil (WX.yi ?_))))))))
        exact WX.mid (G:=List z1 × Bool × Int × Int × Zp × Option Addr × Nat) ⟨(z3b ++ za9),(decide (zbK.2 ≠ 0)),zbK.1.fN,zbK.1.fD,(z4A ++ zgp),zuU,zuV⟩ ⟨h,((Zle.left _ _).trans (Zle.yn _ _ _))⟩ (.cons rfl (.cons rfl (.cons rfl (.cons rfl (.cons rfl (.cons rfl .nil)))))) (.cons .h4 (.cons .h2 (.cons .h3 (.cons .here .nil))))
       ·replace h:=ye h zp6
        refine WC.skip (WX.yi ?_)
        exact WX.mid (G:=List z1 × Bool × Int × Int × Zp × Option Addr × Nat) ⟨(z3b ++ za9),z4Y,z4Z,z52,(z4A ++ zgp),zuU,zuV⟩ ⟨h,((Zle.left _ _).trans (Zle.yn _ _ _))⟩ (.cons rfl (.cons rfl (.cons rfl (.cons rfl (.cons rfl (.cons rfl .nil)))))) (.cons .h3 (.cons .h1 (.cons .h2 (.cons .h2 .nil))))
     ·rintro z6y z8J z8K z8L zee zef zeg ⟨h,zFO⟩
      replace h:=(zFB z6y z8J z8K z8L).symm.trans h
      refine WC.a (WL.pu rfl (WL.pu rfl (WL.pu rfl (WL.nil ?_))))
      exact WX.round (G:=Nat × List z1 × Bool × Int × Int × Int × Zp × Option Addr × Nat) ⟨zoY,z6y,z8J,(i64 (z3u + 1)),z8K,z8L,zee,zef,zeg⟩ ⟨h,(zed.trans zFO)⟩ (Nat.lt_succ_self _) (.cons rfl (.cons rfl (.cons rfl (.cons rfl (.cons rfl (.cons rfl .nil)))))) (.cons .here (.cons .here (.cons .here (.cons .here .nil))))
    ·replace h:=ye h zp4
     refine WC.exit (WX.yf (WX.yf (WX.yv ?_)))
     exact WX.mid (G:=List z1 × Bool × Int × Int × Zp × Option Addr × Nat) ⟨z3b,z4Y,z4Z,z52,z4A,zbL,zbM⟩ ⟨h,zed⟩ (.cons rfl (.cons rfl (.cons rfl (.cons rfl .nil)))) (.cons .here (.cons .here (.cons .here (.cons .here .nil))))
   ·rintro z79 zaa zab zac zaf zea zeb ⟨h,zLV⟩
    replace h:=(zFA z79 zaa zab zac).symm.trans h
    refine WC.b (WC.b (WC.a (WL.pu rfl (WL.nil (WX.a ?_)))))
    refine WC.cond rfl (fun zp7=>?_) (fun zp7=>?_)
    ·replace h:=yd h zp7
     refine WC.b (WC.a (WL.pu rfl (WL.pu rfl (WL.nil (WX.a (WC.ret (WX.y6 ?_)))))))
     refine WX.nilRow 40 2 ?_
     obtain rfl:=Option.some.inj h
     refine WX.y8 Tryz.results36 (.tmp rfl (.tmp rfl .nil)) (fun w hw=>?_)
     exact ⟨zaf,none,0,yF rfl rfl,trivial,hw.sub (.cons .h1 (.cons .here .nil))⟩
    ·replace h:=ye h zp7
     refine WC.skip (WX.a (WC.b (WC.b ?_)))
     obtain ⟨zuQ,zFP,h⟩:=z8 h
     refine WC.a ?_
     refine WL.a (d:=78) rfl rfl rfl (y9 y5 rfl (y7 .h3) rfl) ?_
     refine WL.a (d:=79) rfl rfl rfl (y4 y2U rfl rfl) ?_
     refine WL.a (d:=80) rfl rfl rfl (ys (cs:=[(.int .i64 zQ.fR.fN),(.int .i64 zQ.fR.fD)]) y5 rfl rfl (yW (s:=2) .h2 rfl)) ?_
     refine WL.b (dd:=81) rfl rfl rfl (za (l:=[.tmp 78,.tmp 80]) Tryz.call28 (.cons rfl (.cons rfl .nil))) .nil (ccz hz .nil .here fun w pz ho=>y2H _ _ _ _ zFP w pz ) ?_
     refine WL.pu rfl (WL.nil (WX.a ?_))
     refine WC.cond rfl (fun zp8=>?_) (fun zp8=>?_)
     ·replace h:=yd h zp8
      refine WC.b (WC.a (WL.pu rfl (WL.pu rfl (WL.nil (WX.a (WC.ret (WX.y6 ?_)))))))
      refine WX.nilRow 40 2 ?_
      obtain rfl:=Option.some.inj h
      refine WX.y8 Tryz.results36 (.tmp rfl (.tmp rfl .nil)) (fun w hw=>?_)
      exact ⟨zaf,none,0,yF rfl rfl,trivial,hw.sub (.cons .h1 (.cons .here .nil))⟩
     ·replace h:=ye h zp8
      refine WC.skip (WX.a (WC.b (WC.a (WL.pu rfl (WL.pu rfl (WL.pu rfl (WL.nil (WX.a (WC.ret ?_)))))))))
      obtain rfl:=Option.some.inj h
      refine WX.y8 Tryz.results36 (.tmp rfl (.tmp rfl .nil)) (fun w hw=>?_)
      exact ⟨zaf,zea,zeb,yF rfl rfl,trivial,hw.sub (.cons .here (.cons .here .nil))⟩
def y21 (z4b : List (List z2)) (z3v : z1) (z8M : Int → Int → Option (z1 × Int)) : Nat → Int → Int → Int → Option (z1 × Int)
 | 0,_,_,_=>none
 | zp9 + 1,z4B,z5X,z5Y=>if decide (z4B < ((z4b.length : Nat) : Int)) then chk ((0 : Int) ≤ z4B ∧ z4B < ((z4b.length : Nat) : Int)) ((y5h (nth z4b z4B) z3v).bind fun ziz=>if decide (ziz.2 ≠ 0) then some ((⟨0,0⟩ : z1),ziz.2) else (yB 0 (⟨z5X,z5Y⟩ : z1) ziz.1).bind fun zbN=>if decide (zbN.2 ≠ 0) then some ((⟨0,0⟩ : z1),zbN.2) else y21 z4b z3v z8M zp9 (i64 (z4B + 1)) zbN.1.fN zbN.1.fD) else z8M z5X z5Y
theorem y7R {n : Nat} {z4b : List (List z2)} {z3v : z1} {z8M : Int → Int → Option (z1 × Int)} {z4B : Int} {z5X : Int} {z5Y : Int} {r : z1 × Int} (h : y21 z4b z3v z8M n z4B z5X z5Y = some r) : ∃ m,n = m + 1:=by
 cases n with
 | zero=>cases h
 | succ m=>exact ⟨m,rfl⟩
def y4c (z4b : List (List z2)) (z3v : z1) : Option (z1 × Int) :=
 jp2 (fun (zag : Int) (zah : Int)=>some ((⟨zag,zah⟩ : z1),0)) fun z8M=>y21 z4b z3v z8M yu 0 0 1
set_option maxRecDepth 20000 in
theorem y8p (Z : Zp) (zgq : Option Addr) (zgr : Nat) (z4b : List (List z2)) (z3v : z1) (r : z1 × Int)
  (h : y4c z4b z3v = some r) (w₀ : World) (hz : PZ [] w₀ Z)
  (zFQ : ZS Z 1 (p23 Z) zgq zgr z4b) :
  Calls Tryz.prog 58 #[(.slice zgq z4b.length zgr),(.agg #[(.int .i64 z3v.fN),(.int .i64 z3v.fD)])] w₀ fun e w'=>e = .returned (.tuple #[(.agg #[(.int .i64 r.1.fN),(.int .i64 r.1.fD)]),(.int .i64 r.2)]) ∧ Hp [] w₀ w' []:=by
 unfold y4c at h
 refine Calls.yg (vs:=[(.slice zgq z4b.length zgr),(.agg #[(.int .i64 z3v.fN),(.int .i64 z3v.fD)])]) (pre:=[]) (env:=[(0,(.slice zgq z4b.length zgr)),(1,(.agg #[(.int .i64 z3v.fN),(.int .i64 z3v.fD)]))]) Tryz.func58 rfl Tryz.ntmps58 rfl (Hp.nil w₀ _) rfl ?_
 refine WC.b (WC.a ?_)
 refine WL.new (dd:=3) rfl rfl rfl (yx (cs:=[(.int .i64 z3v.fN),(.int .i64 z3v.fD)]) rfl rfl) ?_
 intro zuW _
 refine WL.new (dd:=4) rfl rfl rfl (yk (cs:=[(.int .i64 0),(.int .i64 0)]) yo rfl) ?_
 intro ziA _
 refine WL.pu rfl (WL.nil (WX.a (WC.b (WC.a ?_))))
 refine WL.a (d:=10) rfl rfl rfl (yz (v:=(.agg #[(.int .i64 0),(.int .i64 1)])) (Eos.parts (l:=[.const (.int .i64 0),.const (.int .i64 1)]) (.cons rfl (.cons rfl .nil)) [0,1]) (fun _=>by kernel_rfl)) ?_
 refine WL.new (dd:=6) rfl rfl rfl (yk (cs:=[(.int .i64 0),(.int .i64 0)]) yo rfl) ?_
 intro ziB _
 refine WL.yb rfl rfl (ya yh rfl rfl rfl .here rfl rfl rfl) ?_
 refine WL.nil (WX.a ?_)
 obtain ⟨z8M,zFR,h⟩:=y2b h
 refine WC.y28 (fun (zag : Int) (zah : Int)=>(z8M zag zah = some r)) (fun (zag : Int) (zah : Int)=>[(4,(.pointer (some ⟨ziA,0,none⟩))),(6,(.pointer (some ⟨ziB,0,none⟩)))]) (fun (zag : Int) (zah : Int)=>[stb ziA 40 [(.int .i64 0),(.int .i64 0)],stb ziB 40 [(.int .i64 zag),(.int .i64 zah)]]) ?_ ?_
 ·skip
  refine WC.b (WC.a (WL.pu rfl (WL.nil (WX.a (WC.block ?_)))))
  refine WC.y36 (fun (zeh : Nat) (z4B : Int) (z5X : Int) (z5Y : Int)=>(y21 z4b z3v z8M zeh z4B z5X z5Y = some r)) (fun (zeh : Nat) (z4B : Int) (z5X : Int) (z5Y : Int)=>[(0,(.slice zgq z4b.length zgr)),(3,(.pointer (some ⟨zuW,0,none⟩))),(4,(.pointer (some ⟨ziA,0,none⟩))),(6,(.pointer (some ⟨ziB,0,none⟩))),(7,(.int .i64 z4B))]) (fun (zeh : Nat) (z4B : Int) (z5X : Int) (z5Y : Int)=>[stb zuW 40 [(.int .i64 z3v.fN),(.int .i64 z3v.fD)],stb ziA 40 [(.int .i64 0),(.int .i64 0)],stb ziB 40 [(.int .i64 z5X),(.int .i64 z5Y)]]) (fun (zeh : Nat) (z4B : Int) (z5X : Int) (z5Y : Int)=>zeh) ⟨yu,0,0,1⟩ h (.cons rfl (.cons rfl (.cons rfl (.cons rfl (.cons rfl .nil))))) (.cons .h2 (.cons .h1 (.cons .here .nil))) ?_
  rintro zeh z4B z5X z5Y h
  obtain ⟨zp9,rfl⟩:=y7R h
  rw [y21] at h
  refine WC.b (WC.b (WC.a (WL.pu rfl (WL.pu rfl ?_))))
  refine WL.a (d:=13) rfl rfl rfl (yP Tryz.underlying38 rfl) ?_
  refine WL.pu rfl (WL.nil (WX.a ?_))
  refine WC.cond rfl (fun zpa=>?_) (fun zpa=>?_)
  ·replace h:=yd h zpa
   refine WC.skip (WX.a (WC.b (WC.block (WC.b ?_))))
   obtain ⟨zFS,h⟩:=yj h
   obtain ⟨ziz,zFT,h⟩:=z8 h
   refine WC.yH (fun i=>[10].contains i) [] rfl ?_
   refine WD.a (i:=0) (d:=18) (by kernel_rfl) rfl z6 z7 rfl rfl rfl (fun _=>q_m rfl) ?_
   refine WD.a (i:=1) (d:=19) (by kernel_rfl) rfl z6 z7 rfl rfl rfl (fun _=>q_m rfl) ?_
   refine WD.znth (j:=2) (dd:=20) (by kernel_rfl) rfl z6 z7 rfl rfl (Z:=Z) (Pr:=(p23 Z)) y3X rfl rfl zFQ zFS ?_
   rintro zLW zLX zFU zLY ⟨zLZ,zM0,rfl,zFV⟩
   refine WD.e (i:=3) (d:=21) (by kernel_rfl) rfl z6 z7 rfl rfl rfl (yc y3S rfl (y4X hz.pv zFU rfl)) ?_
   refine WD.e (i:=4) (d:=22) (by kernel_rfl) rfl z6 z7 rfl rfl rfl (y9 y5 rfl (y7 .here) rfl) ?_
   refine WD.c (i:=5) (d:=23) (by kernel_rfl) rfl z6 z7 rfl rfl rfl (za (l:=[.tmp 21,.tmp 22]) Tryz.call27 (.cons rfl (.cons rfl .nil))) (cc hz .nil fun w pz ho=>yc4 _ _ _ _ _ _ zFT w pz zFV) ?_
   refine WD.a (i:=6) (d:=17) (by kernel_rfl) rfl z6 z7 rfl rfl rfl (fun _=>q_m rfl) ?_
   refine WD.a (i:=7) (d:=24) (by kernel_rfl) rfl z6 z7 rfl rfl rfl (fun _=>y1L rfl rfl) ?_
   refine WD.a (i:=8) (d:=25) (by kernel_rfl) rfl z6 z7 rfl rfl rfl (fun _=>y1L rfl rfl) ?_
   refine WD.new (i:=9) (dd:=8) rfl (by kernel_rfl) rfl rfl rfl (yk (cs:=[(.int .i64 0),(.int .i64 0)]) yo rfl) (fun h'=>absurd h' (by decide)) ?_
   intro zM1 _
   refine WD.forced0 (i:=10) rfl (by kernel_rfl) rfl rfl rfl (Sin.of .nil) (ya yh rfl rfl rfl .here rfl rfl rfl) ?_
   refine WD.a (i:=11) (d:=9) (by kernel_rfl) rfl z6 z7 rfl rfl rfl (fun _=>q_z rfl) ?_
   refine WD.done (by kernel_rfl) ?_
   refine WX.a (WC.b (WC.b (WC.a (WL.pu rfl (WL.pu rfl (WL.nil (WX.a ?_)))))))
   refine WC.cond rfl (fun zpb=>?_) (fun zpb=>?_)
   ·replace h:=yd h zpb
    refine WC.b (WC.a ?_)
    refine WL.a (d:=28) rfl rfl rfl (yz (v:=(.agg #[(.int .i64 0),(.int .i64 0)])) (Eos.parts (l:=[]) .nil []) (fun _=>by kernel_rfl)) ?_
    refine WL.pu rfl ?_
    refine WL.yb rfl rfl (ya yh rfl rfl rfl .h2 rfl rfl rfl) ?_
    refine WL.pu rfl (WL.nil (WX.a (WC.ret (WX.y6 (WX.yl (WX.y6 (WX.y6 (WX.yl (WX.y6 ?_)))))))))
    obtain rfl:=Option.some.inj h
    refine WX.y8 Tryz.results58 (.agg rfl y5 rfl (y7 .here) (.tmp rfl .nil)) (fun w hw=>?_)
    exact ⟨yF rfl rfl,hw.sub .nil⟩
   ·replace h:=ye h zpb
    refine WC.skip (WX.a (WC.b ?_))
    obtain ⟨zbN,zFW,h⟩:=z8 h
    refine WC.a ?_
    refine WL.a (d:=31) rfl rfl rfl (y9 y5 rfl (y7 .h3) rfl) ?_
    refine WL.a (d:=32) rfl rfl rfl (y9 y5 rfl (y7 .here) rfl) ?_
    refine WL.b (dd:=33) rfl rfl rfl (za (l:=[.const (.int .i64 0),.tmp 31,.tmp 32]) Tryz.call43 (.cons rfl (.cons rfl (.cons rfl .nil)))) .nil (cc hz .nil fun w pz ho=>y29 _ _ _ _ _ zFW w pz ) ?_
    refine WL.pu rfl (WL.pu rfl (WL.pu rfl ?_))
    refine WL.yb rfl rfl (ya yh rfl rfl rfl .h3 rfl rfl rfl) ?_
    refine WL.pu rfl (WL.nil (WX.a (WC.b (WC.a (WL.pu rfl (WL.pu rfl (WL.nil (WX.a ?_))))))))
    refine WC.cond rfl (fun zpc=>?_) (fun zpc=>?_)
    ·replace h:=yd h zpc
     refine WC.b (WC.a ?_)
     refine WL.a (d:=38) rfl rfl rfl (yz (v:=(.agg #[(.int .i64 0),(.int .i64 0)])) (Eos.parts (l:=[]) .nil []) (fun _=>by kernel_rfl)) ?_
     refine WL.pu rfl ?_
     refine WL.yb rfl rfl (ya yh rfl rfl rfl .h3 rfl rfl rfl) ?_
     refine WL.pu rfl (WL.nil (WX.a (WC.ret (WX.yl (WX.y6 (WX.y6 (WX.yl (WX.y6 ?_))))))))
     obtain rfl:=Option.some.inj h
     refine WX.y8 Tryz.results58 (.agg rfl y5 rfl (y7 .here) (.tmp rfl .nil)) (fun w hw=>?_)
     exact ⟨yF rfl rfl,hw.sub .nil⟩
    ·replace h:=ye h zpc
     refine WC.skip (WX.yi (WX.a (WC.a (WL.pu rfl (WL.pu rfl (WL.pu rfl (WL.nil ?_)))))))
     exact WX.round (G:=Nat × Int × Int × Int) ⟨zp9,(i64 (z4B + 1)),zbN.1.fN,zbN.1.fD⟩ h (Nat.lt_succ_self _) (.cons rfl (.cons rfl (.cons rfl (.cons rfl (.cons rfl .nil))))) (.cons .h2 (.cons .h2 (.cons .here .nil)))
  ·replace h:=ye h zpa
   refine WC.exit (WX.yf (WX.yf (WX.yv ?_)))
   exact WX.mid (G:=Int × Int) ⟨z5X,z5Y⟩ h (.cons rfl (.cons rfl .nil)) (.cons .h1 (.cons .h1 .nil))
 ·rintro zag zah h
  replace h:=(zFR zag zah).symm.trans h
  refine WC.b (WC.a ?_)
  refine WL.a (d:=40) rfl rfl rfl (y9 y5 rfl (y7 .h1) rfl) ?_
  refine WL.yb rfl rfl (ya yh rfl rfl rfl .here rfl rfl rfl) ?_
  refine WL.pu rfl (WL.nil (WX.a (WC.ret ?_)))
  obtain rfl:=Option.some.inj h
  refine WX.y8 Tryz.results58 (.agg rfl y5 rfl (y7 .here) (.tmp rfl .nil)) (fun w hw=>?_)
  exact ⟨yF rfl rfl,hw.sub .nil⟩
def y3E (zbO : List (List z2)) (z2d : S41) (z5Z : z1) : Option (z1 × Int) :=
 (y4c zbO z5Z).bind fun ziC=>if decide (ziC.2 ≠ 0) then some ((⟨0,0⟩ : z1),ziC.2) else (yB 3 ziC.1 z2d.fR).bind fun ziD=>if decide (ziD.2 ≠ 0) then some ((⟨0,0⟩ : z1),ziD.2) else (yB 1 ziD.1 z5Z).bind fun ziE=>if decide (ziE.2 ≠ 0) then some ((⟨0,0⟩ : z1),ziE.2) else (yB 0 ziE.1 z2d.fL).bind fun zpd=>some (zpd.1,zpd.2)
set_option maxRecDepth 20000 in
theorem y9L (Z : Zp) (ziF : Option Addr) (ziG : Nat) (zbO : List (List z2)) (z2d : S41) (z5Z : z1) (r : z1 × Int)
  (h : y3E zbO z2d z5Z = some r) (w₀ : World) (hz : PZ [] w₀ Z)
  (zFX : ZS Z 1 (p23 Z) ziF ziG zbO) :
  Calls Tryz.prog 37 #[(.slice ziF zbO.length ziG),(.agg #[(.int .i64 z2d.fR.fN),(.int .i64 z2d.fR.fD),(.int .i64 z2d.fL.fN),(.int .i64 z2d.fL.fD)]),(.agg #[(.int .i64 z5Z.fN),(.int .i64 z5Z.fD)])] w₀ fun e w'=>e = .returned (.tuple #[(.agg #[(.int .i64 r.1.fN),(.int .i64 r.1.fD)]),(.int .i64 r.2)]) ∧ Hp [] w₀ w' []:=by
 unfold y3E at h
 refine Calls.yg (vs:=[(.slice ziF zbO.length ziG),(.agg #[(.int .i64 z2d.fR.fN),(.int .i64 z2d.fR.fD),(.int .i64 z2d.fL.fN),(.int .i64 z2d.fL.fD)]),(.agg #[(.int .i64 z5Z.fN),(.int .i64 z5Z.fD)])]) (pre:=[]) (env:=[(0,(.slice ziF zbO.length ziG)),(1,(.agg #[(.int .i64 z2d.fR.fN),(.int .i64 z2d.fR.fD),(.int .i64 z2d.fL.fN),(.int .i64 z2d.fL.fD)])),(2,(.agg #[(.int .i64 z5Z.fN),(.int .i64 z5Z.fD)]))]) Tryz.func37 rfl Tryz.ntmps37 rfl (Hp.nil w₀ _) rfl ?_
 refine WC.b (WC.a ?_)
 refine WL.new (dd:=4) rfl rfl rfl (yx (cs:=[(.int .i64 z2d.fR.fN),(.int .i64 z2d.fR.fD),(.int .i64 z2d.fL.fN),(.int .i64 z2d.fL.fD)]) rfl rfl) ?_
 intro zM2 _
 refine WL.new (dd:=5) rfl rfl rfl (yx (cs:=[(.int .i64 z5Z.fN),(.int .i64 z5Z.fD)]) rfl rfl) ?_
 intro zM3 _
 refine WL.new (dd:=6) rfl rfl rfl (yk (cs:=[(.int .i64 0),(.int .i64 0)]) yo rfl) ?_
 intro zM4 _
 refine WL.pu rfl (WL.nil (WX.a (WC.b ?_)))
 obtain ⟨ziC,zFY,h⟩:=z8 h
 refine WC.a (WL.pu rfl ?_)
 refine WL.a (d:=12) rfl rfl rfl (y9 y5 rfl (y7 .h1) rfl) ?_
 refine WL.b (dd:=13) rfl rfl rfl (za (l:=[.tmp 11,.tmp 12]) Tryz.call58 (.cons rfl (.cons rfl .nil))) .nil (cc hz .nil fun w pz ho=>y8p _ _ _ _ _ _ zFY w pz zFX) ?_
 refine WL.pu rfl (WL.pu rfl (WL.pu rfl ?_))
 refine WL.new (dd:=8) rfl rfl rfl (yk (cs:=[(.int .i64 0),(.int .i64 0)]) yo rfl) ?_
 intro zM5 _
 refine WL.yb rfl rfl (ya yh rfl rfl rfl .here rfl rfl rfl) ?_
 refine WL.pu rfl (WL.nil (WX.a (WC.b (WC.b (WC.a (WL.pu rfl (WL.pu rfl (WL.nil (WX.a ?_)))))))))
 refine WC.cond rfl (fun zpe=>?_) (fun zpe=>?_)
 ·replace h:=yd h zpe
  refine WC.b (WC.a ?_)
  refine WL.a (d:=18) rfl rfl rfl (yz (v:=(.agg #[(.int .i64 0),(.int .i64 0)])) (Eos.parts (l:=[]) .nil []) (fun _=>by kernel_rfl)) ?_
  refine WL.pu rfl ?_
  refine WL.yb rfl rfl (ya yh rfl rfl rfl .h1 rfl rfl rfl) ?_
  refine WL.pu rfl (WL.nil (WX.a (WC.ret (WX.y6 ?_))))
  obtain rfl:=Option.some.inj h
  refine WX.y8 Tryz.results37 (.agg rfl y5 rfl (y7 .here) (.tmp rfl .nil)) (fun w hw=>?_)
  exact ⟨yF rfl rfl,hw.sub .nil⟩
 ·replace h:=ye h zpe
  refine WC.skip (WX.a (WC.b ?_))
  obtain ⟨ziD,zFZ,h⟩:=z8 h
  refine WC.a ?_
  refine WL.a (d:=21) rfl rfl rfl (y9 y5 rfl (y7 .here) rfl) ?_
  refine WL.a (d:=22) rfl rfl rfl (y4 y2U rfl rfl) ?_
  refine WL.a (d:=23) rfl rfl rfl (ys (cs:=[(.int .i64 z2d.fR.fN),(.int .i64 z2d.fR.fD)]) y5 rfl rfl (yW (s:=2) .h3 rfl)) ?_
  refine WL.b (dd:=24) rfl rfl rfl (za (l:=[.const (.int .i64 3),.tmp 21,.tmp 23]) Tryz.call43 (.cons rfl (.cons rfl (.cons rfl .nil)))) .nil (cc hz .nil fun w pz ho=>y29 _ _ _ _ _ zFZ w pz ) ?_
  refine WL.pu rfl (WL.pu rfl (WL.pu rfl ?_))
  refine WL.yb rfl rfl (ya yh rfl rfl rfl .here rfl rfl rfl) ?_
  refine WL.pu rfl (WL.nil (WX.a (WC.b (WC.b (WC.a (WL.pu rfl (WL.pu rfl (WL.nil (WX.a ?_)))))))))
  refine WC.cond rfl (fun zpf=>?_) (fun zpf=>?_)
  ·replace h:=yd h zpf
   refine WC.b (WC.a ?_)
   refine WL.a (d:=29) rfl rfl rfl (yz (v:=(.agg #[(.int .i64 0),(.int .i64 0)])) (Eos.parts (l:=[]) .nil []) (fun _=>by kernel_rfl)) ?_
   refine WL.pu rfl ?_
   refine WL.yb rfl rfl (ya yh rfl rfl rfl .h1 rfl rfl rfl) ?_
   refine WL.pu rfl (WL.nil (WX.a (WC.ret (WX.y6 ?_))))
   obtain rfl:=Option.some.inj h
   refine WX.y8 Tryz.results37 (.agg rfl y5 rfl (y7 .here) (.tmp rfl .nil)) (fun w hw=>?_)
   exact ⟨yF rfl rfl,hw.sub .nil⟩
  ·replace h:=ye h zpf
   refine WC.skip (WX.a (WC.b ?_))
   obtain ⟨ziE,zG0,h⟩:=z8 h
   refine WC.a ?_
   refine WL.a (d:=32) rfl rfl rfl (y9 y5 rfl (y7 .here) rfl) ?_
   refine WL.a (d:=33) rfl rfl rfl (y9 y5 rfl (y7 .h2) rfl) ?_
   refine WL.b (dd:=34) rfl rfl rfl (za (l:=[.const (.int .i64 1),.tmp 32,.tmp 33]) Tryz.call43 (.cons rfl (.cons rfl (.cons rfl .nil)))) .nil (cc hz .nil fun w pz ho=>y29 _ _ _ _ _ zG0 w pz ) ?_
   refine WL.pu rfl (WL.pu rfl (WL.pu rfl ?_))
   refine WL.yb rfl rfl (ya yh rfl rfl rfl .here rfl rfl rfl) ?_
   refine WL.pu rfl (WL.nil (WX.a (WC.b (WC.b (WC.a (WL.pu rfl (WL.pu rfl (WL.nil (WX.a ?_)))))))))
   refine WC.cond rfl (fun zpg=>?_) (fun zpg=>?_)
   ·replace h:=yd h zpg
    refine WC.b (WC.a ?_)
    refine WL.a (d:=39) rfl rfl rfl (yz (v:=(.agg #[(.int .i64 0),(.int .i64 0)])) (Eos.parts (l:=[]) .nil []) (fun _=>by kernel_rfl)) ?_
    refine WL.pu rfl ?_
    refine WL.yb rfl rfl (ya yh rfl rfl rfl .h1 rfl rfl rfl) ?_
    refine WL.pu rfl (WL.nil (WX.a (WC.ret (WX.y6 ?_))))
    obtain rfl:=Option.some.inj h
    refine WX.y8 Tryz.results37 (.agg rfl y5 rfl (y7 .here) (.tmp rfl .nil)) (fun w hw=>?_)
    exact ⟨yF rfl rfl,hw.sub .nil⟩
   ·replace h:=ye h zpg
    refine WC.skip (WX.a (WC.b ?_))
    obtain ⟨zpd,zG1,h⟩:=z8 h
    refine WC.a ?_
    refine WL.a (d:=41) rfl rfl rfl (y9 y5 rfl (y7 .here) rfl) ?_
    refine WL.a (d:=42) rfl rfl rfl (y4 y3r rfl rfl) ?_
    refine WL.a (d:=43) rfl rfl rfl (ys (cs:=[(.int .i64 z2d.fL.fN),(.int .i64 z2d.fL.fD)]) y5 rfl rfl (yW (s:=2) .h3 rfl)) ?_
    refine WL.b (dd:=44) rfl rfl rfl (za (l:=[.const (.int .i64 0),.tmp 41,.tmp 43]) Tryz.call43 (.cons rfl (.cons rfl (.cons rfl .nil)))) .nil (cc hz .nil fun w pz ho=>y29 _ _ _ _ _ zG1 w pz ) ?_
    refine WL.pu rfl (WL.pu rfl ?_)
    refine WL.yb rfl rfl (ya yh rfl rfl rfl .h1 rfl rfl rfl) ?_
    refine WL.pu rfl (WL.nil (WX.a (WC.ret ?_)))
    obtain rfl:=Option.some.inj h
    refine WX.y8 Tryz.results37 (.agg rfl y5 rfl (y7 .here) (.tmp rfl .nil)) (fun w hw=>?_)
    exact ⟨yF rfl rfl,hw.sub .nil⟩
def y2S (z30 : List z1 × Int) (z4c : List (List z2)) (z1j : S41) (z8N : Int → Int → Option (z1 × Int)) : Nat → Int → Int → Int → Option (z1 × Int)
 | 0,_,_,_=>none
 | zph + 1,z3c,z54,z56=>if decide (z3c < ((z30.1.length : Nat) : Int)) then jp2 (fun (z8O : Int) (z8P : Int)=>y2S z30 z4c z1j z8N zph (i64 (z3c + 1)) z8O z8P) fun ziH=>chk ((0 : Int) ≤ z3c ∧ z3c < ((z30.1.length : Nat) : Int)) ((y3E z4c z1j (⟨((nth z30.1 z3c).fN),((nth z30.1 z3c).fD)⟩ : z1)).bind fun zai=>if decide (zai.2 ≠ 0) then some ((⟨0,0⟩ : z1),zai.2) else (if decide (z3c = 0) then some true else (yE zai.1 (⟨z54,z56⟩ : z1)).bind fun zuX=>some (decide (zuX > 0))).bind fun zpi=>if zpi then ziH zai.1.fN zai.1.fD else ziH z54 z56) else z8N z54 z56
theorem y7S {n : Nat} {z30 : List z1 × Int} {z4c : List (List z2)} {z1j : S41} {z8N : Int → Int → Option (z1 × Int)} {z3c : Int} {z54 : Int} {z56 : Int} {r : z1 × Int} (h : y2S z30 z4c z1j z8N n z3c z54 z56 = some r) : ∃ m,n = m + 1:=by
 cases n with
 | zero=>cases h
 | succ m=>exact ⟨m,rfl⟩
def y3I (z4c : List (List z2)) (z1j : S41) : Option (z1 × Int) :=
 (y4b z4c z1j).bind fun z30=>if decide (z30.2 ≠ 0) then some ((⟨0,0⟩ : z1),z30.2) else jp2 (fun (zaj : Int) (zak : Int)=>some ((⟨zaj,zak⟩ : z1),0)) fun z8N=>y2S z30 z4c z1j z8N yu 0 0 0
set_option maxRecDepth 20000 in
theorem yaE (Z : Zp) (zei : Option Addr) (zej : Nat) (z4c : List (List z2)) (z1j : S41) (r : z1 × Int)
  (h : y3I z4c z1j = some r) (w₀ : World) (hz : PZ [] w₀ Z)
  (zuY : ZS Z 1 (p23 Z) zei zej z4c) :
  Calls Tryz.prog 12 #[(.slice zei z4c.length zej),(.agg #[(.int .i64 z1j.fR.fN),(.int .i64 z1j.fR.fD),(.int .i64 z1j.fL.fN),(.int .i64 z1j.fL.fD)])] w₀ fun e w'=>∃ Zn : Zp,e = .returned (.tuple #[(.agg #[(.int .i64 r.1.fN),(.int .i64 r.1.fD)]),(.int .i64 r.2)]) ∧ True ∧ Hp [] w₀ w' [fz Zn]:=by
 unfold y3I at h
 refine Calls.yg (vs:=[(.slice zei z4c.length zej),(.agg #[(.int .i64 z1j.fR.fN),(.int .i64 z1j.fR.fD),(.int .i64 z1j.fL.fN),(.int .i64 z1j.fL.fD)])]) (pre:=[]) (env:=[(0,(.slice zei z4c.length zej)),(1,(.agg #[(.int .i64 z1j.fR.fN),(.int .i64 z1j.fR.fD),(.int .i64 z1j.fL.fN),(.int .i64 z1j.fL.fD)]))]) Tryz.func12 rfl Tryz.ntmps12 rfl (Hp.nil w₀ _) rfl ?_
 refine WC.pool (WC.b (WC.a ?_))
 refine WL.new (dd:=3) rfl rfl rfl (yx (cs:=[(.int .i64 z1j.fR.fN),(.int .i64 z1j.fR.fD),(.int .i64 z1j.fL.fN),(.int .i64 z1j.fL.fD)]) rfl rfl) ?_
 intro ziI _
 refine WL.new (dd:=4) rfl rfl rfl (yk (cs:=[(.int .i64 0),(.int .i64 0)]) yo rfl) ?_
 intro zek _
 refine WL.pu rfl (WL.nil (WX.a (WC.b ?_)))
 obtain ⟨z30,zG2,h⟩:=z8 h
 refine WC.a (WL.pu rfl ?_)
 refine WL.a (d:=14) rfl rfl rfl (y9 y15 rfl (y7 .h1) rfl) ?_
 refine WL.y4e (dd:=15) rfl rfl rfl (za (l:=[.tmp 13,.tmp 14]) Tryz.call36 (.cons rfl (.cons rfl .nil))) .nil (ccz hz .nil .h2 fun w pz ho=>y8o _ _ _ _ _ _ zG2 w pz ((zuY.mono (Zle.left _ _)).weak (fun _ _ h=>yG (Zle.left _ _) h))) ?_
 rintro zel ziJ ziK _
 refine WL.merge .here .h3 ?_
 refine WL.pu rfl (WL.pu rfl (WL.pu rfl (WL.pu rfl (WL.pu rfl (WL.nil (WX.a (WC.b (WC.b (WC.a (WL.pu rfl (WL.pu rfl (WL.nil (WX.a ?_)))))))))))))
 refine WC.cond rfl (fun zpj=>?_) (fun zpj=>?_)
 ·replace h:=yd h zpj
  refine WC.b (WC.a ?_)
  refine WL.a (d:=20) rfl rfl rfl (yz (v:=(.agg #[(.int .i64 0),(.int .i64 0)])) (Eos.parts (l:=[]) .nil []) (fun _=>by kernel_rfl)) ?_
  refine WL.pu rfl ?_
  refine WL.yb rfl rfl (ya yh rfl rfl rfl .h2 rfl rfl rfl) ?_
  refine WL.pu rfl (WL.nil (WX.a (WC.ret (WX.y6 ?_))))
  obtain rfl:=Option.some.inj h
  refine WX.y8 Tryz.results12 (.agg rfl y5 rfl (y7 .here) (.tmp rfl .nil)) (fun w hw=>?_)
  exact ⟨([] ++ zel),yF rfl rfl,trivial,hw.sub (.cons .h1 .nil)⟩
 ·replace h:=ye h zpj
  refine WC.skip (WX.a (WC.b (WC.a ?_)))
  refine WL.new (dd:=8) rfl rfl rfl (yk (cs:=[(.int .i64 0),(.int .i64 0)]) yo rfl) ?_
  intro zem _
  refine WL.nil (WX.a ?_)
  obtain ⟨z8N,zG3,h⟩:=y2b h
  refine WC.y28 (fun (zaj : Int) (zak : Int)=>(z8N zaj zak = some r)) (fun (zaj : Int) (zak : Int)=>[(4,(.pointer (some ⟨zek,0,none⟩))),(8,(.pointer (some ⟨zem,0,none⟩)))]) (fun (zaj : Int) (zak : Int)=>[fz ([] ++ zel),stb zek 40 [(.int .i64 0),(.int .i64 0)],stb zem 40 [(.int .i64 zaj),(.int .i64 zak)]]) ?_ ?_
  ·skip
   refine WC.b (WC.a (WL.pu rfl (WL.nil (WX.a (WC.block ?_)))))
   refine WC.y36 (fun (zen : Nat) (z3c : Int) (z54 : Int) (z56 : Int)=>(y2S z30 z4c z1j z8N zen z3c z54 z56 = some r)) (fun (zen : Nat) (z3c : Int) (z54 : Int) (z56 : Int)=>[(0,(.slice zei z4c.length zej)),(3,(.pointer (some ⟨ziI,0,none⟩))),(4,(.pointer (some ⟨zek,0,none⟩))),(6,(.slice ziJ z30.1.length ziK)),(8,(.pointer (some ⟨zem,0,none⟩))),(9,(.int .i64 z3c))]) (fun (zen : Nat) (z3c : Int) (z54 : Int) (z56 : Int)=>[fz ([] ++ zel),row (.slice ziJ z30.1.length ziK) 40 2 (z30.1.flatMap e40),stb ziI 42 [(.int .i64 z1j.fR.fN),(.int .i64 z1j.fR.fD),(.int .i64 z1j.fL.fN),(.int .i64 z1j.fL.fD)],stb zek 40 [(.int .i64 0),(.int .i64 0)],stb zem 40 [(.int .i64 z54),(.int .i64 z56)]]) (fun (zen : Nat) (z3c : Int) (z54 : Int) (z56 : Int)=>zen) ⟨yu,0,0,0⟩ h (.cons rfl (.cons rfl (.cons rfl (.cons rfl (.cons rfl (.cons rfl .nil)))))) (.cons .h1 (.cons .h1 (.cons .h2 (.cons .h1 (.cons .here .nil))))) ?_
   rintro zen z3c z54 z56 h
   obtain ⟨zph,rfl⟩:=y7S h
   rw [y2S] at h
   refine WC.b (WC.b (WC.a (WL.pu rfl (WL.pu rfl ?_))))
   refine WL.a (d:=24) rfl rfl rfl (yP Tryz.underlying65 rfl) ?_
   refine WL.pu rfl (WL.nil (WX.a ?_))
   refine WC.cond rfl (fun zpk=>?_) (fun zpk=>?_)
   ·replace h:=yd h zpk
    refine WC.skip (WX.a ?_)
    obtain ⟨ziH,zG4,h⟩:=y2b h
    refine WC.y28 (fun (z8O : Int) (z8P : Int)=>(ziH z8O z8P = some r)) (fun (z8O : Int) (z8P : Int)=>[(0,(.slice zei z4c.length zej)),(3,(.pointer (some ⟨ziI,0,none⟩))),(4,(.pointer (some ⟨zek,0,none⟩))),(6,(.slice ziJ z30.1.length ziK)),(8,(.pointer (some ⟨zem,0,none⟩))),(9,(.int .i64 z3c))]) (fun (z8O : Int) (z8P : Int)=>[fz ([] ++ zel),row (.slice ziJ z30.1.length ziK) 40 2 (z30.1.flatMap e40),stb ziI 42 [(.int .i64 z1j.fR.fN),(.int .i64 z1j.fR.fD),(.int .i64 z1j.fL.fN),(.int .i64 z1j.fL.fD)],stb zek 40 [(.int .i64 0),(.int .i64 0)],stb zem 40 [(.int .i64 z8O),(.int .i64 z8P)]]) ?_ ?_
    ·skip
     refine WC.block (WC.b ?_)
     obtain ⟨zgs,h⟩:=yj h
     obtain ⟨zai,zG5,h⟩:=z8 h
     refine WC.yH (fun i=>[11].contains i) [] rfl ?_
     refine WD.a (i:=0) (d:=29) (by kernel_rfl) rfl z6 z7 rfl rfl rfl (fun _=>q_m rfl) ?_
     refine WD.e (i:=1) (d:=30) (by kernel_rfl) rfl z6 z7 rfl rfl rfl (y9 y15 rfl (y7 .h2) rfl) ?_
     refine WD.a (i:=2) (d:=31) (by kernel_rfl) rfl z6 z7 rfl rfl rfl (fun _=>q_m rfl) ?_
     refine WD.a (i:=3) (d:=32) (by kernel_rfl) rfl z6 z7 rfl rfl rfl (fun _=>q_m rfl) ?_
     refine WD.know (fun w hw=>Hp.y3y .h1 hw (by intro hz'; have:=zgs; rw [hz'] at this; omega)) ?_
     rintro ⟨zM6,rfl⟩
     refine WD.a (i:=4) (d:=33) (by kernel_rfl) rfl z6 z7 rfl rfl rfl (fun _=>y11 yK rfl rfl zgs.1 zgs.2 y3x) ?_
     refine WD.e (i:=5) (d:=34) (by kernel_rfl) rfl z6 z7 rfl rfl rfl (ys (cs:=(e40 (nth z30.1 z3c))) y5 rfl rfl (y3B .h1 (y2A (enc:=e40) (l:=z30.1) (i:=z3c) (sz:=2) (fun _=>rfl) zgs.1 zgs.2))) ?_
     refine WD.c (i:=6) (d:=35) (by kernel_rfl) rfl z6 z7 rfl rfl rfl (za (l:=[.tmp 29,.tmp 30,.tmp 34]) Tryz.call37 (.cons rfl (.cons rfl (.cons rfl .nil)))) (ccz hz .nil .here fun w pz ho=>y9L _ _ _ _ _ _ _ zG5 w pz ((zuY.mono ((Zle.left _ _).trans ((Zle.left _ _).trans (Zle.yn _ _ _)))).weak (fun _ _ h=>yG ((Zle.left _ _).trans ((Zle.left _ _).trans (Zle.yn _ _ _))) h))) ?_
     refine WD.a (i:=7) (d:=28) (by kernel_rfl) rfl z6 z7 rfl rfl rfl (fun _=>q_m rfl) ?_
     refine WD.a (i:=8) (d:=36) (by kernel_rfl) rfl z6 z7 rfl rfl rfl (fun _=>y1L rfl rfl) ?_
     refine WD.a (i:=9) (d:=37) (by kernel_rfl) rfl z6 z7 rfl rfl rfl (fun _=>y1L rfl rfl) ?_
     refine WD.new (i:=10) (dd:=10) rfl (by kernel_rfl) rfl rfl rfl (yk (cs:=[(.int .i64 0),(.int .i64 0)]) yo rfl) (fun h'=>absurd h' (by decide)) ?_
     intro zM7 _
     refine WD.forced0 (i:=11) rfl (by kernel_rfl) rfl rfl rfl (Sin.of .nil) (ya yh rfl rfl rfl .here rfl rfl rfl) ?_
     refine WD.a (i:=12) (d:=11) (by kernel_rfl) rfl z6 z7 rfl rfl rfl (fun _=>q_z rfl) ?_
     refine WD.done (by kernel_rfl) ?_
     refine WX.a (WC.b (WC.b (WC.a (WL.pu rfl (WL.pu rfl (WL.nil (WX.a ?_)))))))
     refine WC.cond rfl (fun zpl=>?_) (fun zpl=>?_)
     ·replace h:=yd h zpl
      refine WC.b (WC.a ?_)
      refine WL.a (d:=40) rfl rfl rfl (yz (v:=(.agg #[(.int .i64 0),(.int .i64 0)])) (Eos.parts (l:=[]) .nil []) (fun _=>by kernel_rfl)) ?_
      refine WL.pu rfl ?_
      refine WL.yb rfl rfl (ya yh rfl rfl rfl .h4 rfl rfl rfl) ?_
      refine WL.pu rfl (WL.nil (WX.a (WC.ret (WX.y6 (WX.yl (WX.y6 (WX.y6 (WX.yl (WX.y6 ?_)))))))))
      obtain rfl:=Option.some.inj h
      refine WX.y8 Tryz.results12 (.agg rfl y5 rfl (y7 .here) (.tmp rfl .nil)) (fun w hw=>?_)
      exact ⟨([] ++ zel),yF rfl rfl,trivial,hw.sub (.cons .h2 .nil)⟩
     ·replace h:=ye h zpl
      refine WC.skip (WX.a (WC.b ?_))
      obtain ⟨zpi,zuZ,h⟩:=z8 h
      refine WC.a (WL.pu rfl (WL.pu rfl (WL.pu rfl ?_)))
      refine WL.seg false 4 44 (B:=zpi) rfl rfl rfl rfl rfl rfl (fun h=>(Option.some.inj (yd zuZ h)).symm) (fun _ zG6=>?_) ?_
      ·skip
       have zgt:=ye zuZ zG6
       obtain ⟨zuX,zG7,zgt⟩:=z8 zgt
       replace zgt:=Option.some.inj zgt
       refine WL.a (d:=45) rfl rfl rfl (y9 y5 rfl (y7 .here) rfl) ?_
       refine WL.a (d:=46) rfl rfl rfl (y9 y5 rfl (y7 .h5) rfl) ?_
       refine WL.b (dd:=47) rfl rfl rfl (za (l:=[.tmp 45,.tmp 46]) Tryz.call28 (.cons rfl (.cons rfl .nil))) .nil (ccz hz .nil .h1 fun w pz ho=>y2H _ _ _ _ zG7 w pz ) ?_
       refine WL.pu rfl (WL.pu rfl ?_)
       exact WL.yw zgt rfl rfl .all
      refine WL.nil (WX.a ?_)
      refine WC.cond rfl (fun zpm=>?_) (fun zpm=>?_)
      ·replace h:=yd h zpm
       refine WC.a ?_
       refine WL.a (d:=50) rfl rfl rfl (y9 y5 rfl (y7 .here) rfl) ?_
       refine WL.yb rfl rfl (ya yh rfl rfl rfl .h5 rfl rfl rfl) ?_
       refine WL.nil (WX.yi ?_)
       exact WX.mid (G:=Int × Int) ⟨zai.1.fN,zai.1.fD⟩ h (.cons rfl (.cons rfl (.cons rfl (.cons rfl (.cons rfl (.cons rfl .nil)))))) (.cons .h2 (.cons .h2 (.cons .h2 (.cons .h2 (.cons .here .nil)))))
      ·replace h:=ye h zpm
       refine WC.skip (WX.yi ?_)
       exact WX.mid (G:=Int × Int) ⟨z54,z56⟩ h (.cons rfl (.cons rfl (.cons rfl (.cons rfl (.cons rfl (.cons rfl .nil)))))) (.cons .h1 (.cons .h1 (.cons .h1 (.cons .h1 (.cons .h1 .nil)))))
    ·rintro z8O z8P h
     replace h:=(zG4 z8O z8P).symm.trans h
     refine WC.a (WL.pu rfl (WL.pu rfl (WL.pu rfl (WL.nil ?_))))
     exact WX.round (G:=Nat × Int × Int × Int) ⟨zph,(i64 (z3c + 1)),z8O,z8P⟩ h (Nat.lt_succ_self _) (.cons rfl (.cons rfl (.cons rfl (.cons rfl (.cons rfl (.cons rfl .nil)))))) (.cons .here (.cons .here (.cons .here (.cons .here (.cons .here .nil)))))
   ·replace h:=ye h zpk
    refine WC.exit (WX.yf (WX.yf (WX.yv ?_)))
    exact WX.mid (G:=Int × Int) ⟨z54,z56⟩ h (.cons rfl (.cons rfl .nil)) (.cons .here (.cons .h2 (.cons .h2 .nil)))
  ·rintro zaj zak h
   replace h:=(zG3 zaj zak).symm.trans h
   refine WC.b (WC.a ?_)
   refine WL.a (d:=51) rfl rfl rfl (y9 y5 rfl (y7 .h2) rfl) ?_
   refine WL.yb rfl rfl (ya yh rfl rfl rfl .h1 rfl rfl rfl) ?_
   refine WL.pu rfl (WL.nil (WX.a (WC.ret ?_)))
   obtain rfl:=Option.some.inj h
   refine WX.y8 Tryz.results12 (.agg rfl y5 rfl (y7 .here) (.tmp rfl .nil)) (fun w hw=>?_)
   exact ⟨([] ++ zel),yF rfl rfl,trivial,hw.sub (.cons .h1 .nil)⟩
end Go.Proofs.YtakfmdiiehcbdaaGreat
