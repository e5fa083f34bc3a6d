/- A part of this claim's proof: models of functions, walks, plain laws. No conditions. -/
import Derived.Test.YtinchjigeakocaaW31aa
namespace Go.Proofs.Ytinchjigeakocaa
open Go Go.RowKit Sep
set_option linter.all false
set_option maxRecDepth 30000
set_option maxHeartbeats 4000000
def y1J (z9 : List zSt) (zH : Sapi_Config) (z7k : Option Bool) : Nat → Int → Option Bool
 | 0,_=>none
 | zhJ + 1,ze=>if decide (ze < ((z9.length : Nat) : Int)) then chk ((0 : Int) ≤ ze ∧ ze < ((z9.length : Nat) : Int)) (chk (((((((decide (((nth z9 ze).fTime) < 0)) || (decide (((nth z9 ze).fTime) > 536870912))) || (decide (((nth z9 ze).fVL) < 0))) || (decide (((nth z9 ze).fVL) ≥ ((zH.fVLs.length : Nat) : Int)))) || (decide (((nth z9 ze).fSize) < 1))) || (decide (((nth z9 ze).fSize) > 72))) = false → ((decide (ze > 0)) = true → ((0 : Int) ≤ (i64 (ze - 1)) ∧ (i64 (ze - 1)) < ((z9.length : Nat) : Int)))) (if ((((((decide (((nth z9 ze).fTime) < 0)) || (decide (((nth z9 ze).fTime) > 536870912))) || (decide (((nth z9 ze).fVL) < 0))) || (decide (((nth z9 ze).fVL) ≥ ((zH.fVLs.length : Nat) : Int)))) || (decide (((nth z9 ze).fSize) < 1))) || (decide (((nth z9 ze).fSize) > 72))) || ((decide (ze > 0)) && (decide (((nth z9 (i64 (ze - 1))).fTime) > ((nth z9 ze).fTime)))) then some false else y1J z9 zH z7k zhJ (i64 (ze + 1)))) else z7k
theorem y5z {n : Nat} {z9 : List zSt} {zH : Sapi_Config} {z7k : Option Bool} {ze : Int} {r : Bool} (h : y1J z9 zH z7k n ze = some r) : ∃ m,n = m + 1:=by
 cases n with
 | zero=>cases h
 | succ m=>exact ⟨m,rfl⟩
def y3i (zH : Sapi_Config) (z9 : List zSt) : Option Bool :=
 jp0 (some (decide (((z9.length : Nat) : Int) ≤ 4000))) fun z7k=>y1J z9 zH z7k ys 0
set_option maxRecDepth 20000 in
theorem y7z (Z : Zp) (zb3 : Option Addr) (zb4 : Nat) (zb5 : Option Addr) (zb6 : Nat) (zb7 : Option Addr) (zb8 : Nat) (zb9 : Option Addr) (zba : Nat) (zbb : Option Addr) (zbc : Nat) (zbd : Option Addr) (zbe : Nat) (zbf : Option Addr) (zbg : Nat) (zbh : Option Addr) (zbi : Nat) (z2q : Option Addr) (z2r : Nat) (zH : Sapi_Config) (z9 : List zSt) (r : Bool)
  (h : y3i zH z9 = some r) (w₀ : World) (hz : PZ [] w₀ Z)
  (zxR : ZS Z 4 (y2I Z) zb3 zb4 zH.fModules)
  (zxS : ZS Z 4 (y31 Z) zb5 zb6 zH.fChannels)
  (zxT : ZS Z 4 (fun r x=>r = e64 x) zb7 zb8 zH.fSwitches)
  (zxU : ZS Z 4 (fun r x=>r = e62 x) zb9 zba zH.fLinks)
  (zxV : ZS Z 7 (y2S Z) zbb zbc zH.fVLs)
  (zxW : ZS Z 5 (fun r x=>r = y3g x) zbd zbe zH.fHealth)
  (zxX : ZS Z 3 (y32 Z) zbf zbg zH.fCauses)
  (zxY : ZS Z 4 (fun r x=>r = y3h x) zbh zbi zH.fVersions)
  (zmp : ZS Z 3 (fun r x=>r = e53 x) z2q z2r z9) :
  Calls Try.prog 24 #[(.agg #[(.slice zb3 zH.fModules.length zb4),(.slice zb5 zH.fChannels.length zb6),(.slice zb7 zH.fSwitches.length zb8),(.slice zb9 zH.fLinks.length zba),(.slice zbb zH.fVLs.length zbc),(.slice zbd zH.fHealth.length zbe),(.slice zbf zH.fCauses.length zbg),(.slice zbh zH.fVersions.length zbi)]),(.slice z2q z9.length z2r)] w₀ fun e w'=>e = .returned (.bool r) ∧ Hp [] w₀ w' []:=by
 unfold y3i at h
 refine Calls.yo (vs:=[(.agg #[(.slice zb3 zH.fModules.length zb4),(.slice zb5 zH.fChannels.length zb6),(.slice zb7 zH.fSwitches.length zb8),(.slice zb9 zH.fLinks.length zba),(.slice zbb zH.fVLs.length zbc),(.slice zbd zH.fHealth.length zbe),(.slice zbf zH.fCauses.length zbg),(.slice zbh zH.fVersions.length zbi)]),(.slice z2q z9.length z2r)]) (pre:=[]) (env:=[(0,(.agg #[(.slice zb3 zH.fModules.length zb4),(.slice zb5 zH.fChannels.length zb6),(.slice zb7 zH.fSwitches.length zb8),(.slice zb9 zH.fLinks.length zba),(.slice zbb zH.fVLs.length zbc),(.slice zbd zH.fHealth.length zbe),(.slice zbf zH.fCauses.length zbg),(.slice zbh zH.fVersions.length zbi)])),(1,(.slice z2q z9.length z2r))]) Try.func24 rfl Try.ntmps24 rfl (Hp.nil w₀ _) rfl ?_
 refine WC.b (WC.a ?_)
 refine WL.new (dd:=2) rfl rfl rfl (y2p (cs:=[(.slice zb3 zH.fModules.length zb4),(.slice zb5 zH.fChannels.length zb6),(.slice zb7 zH.fSwitches.length zb8),(.slice zb9 zH.fLinks.length zba),(.slice zbb zH.fVLs.length zbc),(.slice zbd zH.fHealth.length zbe),(.slice zbf zH.fCauses.length zbg),(.slice zbh zH.fVersions.length zbi)]) rfl rfl) ?_
 intro z7l _
 refine WL.pu rfl (WL.nil (WX.a ?_))
 obtain ⟨z7k,zrm,h⟩:=y29 h
 refine WC.y2f ((z7k = some r)) ([(1,(.slice z2q z9.length z2r))]) ([]) ?_ ?_
 ·skip
  refine WC.b (WC.a (WL.pu rfl ?_))
  refine WL.a (d:=8) rfl rfl rfl (yZ Try.underlying33 rfl) ?_
  refine WL.pu rfl (WL.nil (WX.a (WC.block ?_)))
  refine WC.y4h (fun (zbj : Nat) (ze : Int)=>(y1J z9 zH z7k zbj ze = some r)) (fun (zbj : Nat) (ze : Int)=>[(1,(.slice z2q z9.length z2r)),(2,(.pointer (some ⟨z7l,0,none⟩))),(7,(.slice z2q z9.length z2r)),(8,(.int .i64 ((z9.length : Nat) : Int))),(9,(.int .i64 ze))]) (fun (zbj : Nat) (ze : Int)=>[stb z7l 31 [(.slice zb3 zH.fModules.length zb4),(.slice zb5 zH.fChannels.length zb6),(.slice zb7 zH.fSwitches.length zb8),(.slice zb9 zH.fLinks.length zba),(.slice zbb zH.fVLs.length zbc),(.slice zbd zH.fHealth.length zbe),(.slice zbf zH.fCauses.length zbg),(.slice zbh zH.fVersions.length zbi)]]) (fun (zbj : Nat) (ze : Int)=>zbj) ⟨ys,0⟩ h (.cons rfl (.cons rfl (.cons rfl (.cons rfl (.cons rfl .nil))))) (.cons .here .nil) ?_
  rintro zbj ze h
  obtain ⟨zhJ,rfl⟩:=y5z h
  rw [y1J] at h
  refine WC.b (WC.a (WL.pu rfl (WL.nil (WX.a (WC.b ?_)))))
  refine WC.cond rfl (fun zhK=>?_) (fun zhK=>?_)
  ·replace h:=yk h zhK
   refine WC.skip (WX.a (WC.b (WC.block (WC.b ?_))))
   obtain ⟨zrn,h⟩:=yi h
   refine WC.a (WL.pu rfl ?_)
   refine WL.znth (dd:=12) rfl rfl (Z:=Z) (Pr:=(fun r x=>r = e53 x)) y43 rfl rfl zmp zrn ?_
   rintro zxZ zy0 zro zy1 rfl
   refine WL.a (d:=13) rfl rfl rfl (yD y6a rfl (y3p hz.pv zro) rfl) ?_
   refine WL.new (dd:=6) rfl rfl rfl (y1Y (cs:=[(.int .i64 0),(.int .i64 0),(.int .i64 0)]) y6w rfl) ?_
   intro ze1 _
   refine WL.pu rfl ?_
   refine WL.y1g rfl rfl (y1A y7i rfl rfl rfl .here rfl rfl rfl) ?_
   refine WL.nil (WX.a (WC.b ?_))
   obtain ⟨zrp,h⟩:=yi h
   refine WC.y12 (fun i=>[].contains i) [] rfl ?_
   refine WD.a (i:=0) (d:=14) (by kernel_rfl) rfl z2 z3 rfl rfl rfl (fun _=>ya y4t rfl rfl) ?_
   refine WD.e (i:=1) (d:=15) (by kernel_rfl) rfl z2 z3 rfl rfl rfl (yb yh rfl (yd .here rfl)) ?_
   refine WD.a (i:=2) (d:=16) (by kernel_rfl) rfl z2 z3 rfl rfl rfl (fun _=>y3B rfl rfl) ?_
   refine WD.a (i:=3) (d:=17) (by kernel_rfl) rfl z2 z3 rfl rfl rfl (fun _=>q_m rfl) ?_
   refine WD.mid (fuel':=38) [(1,(.slice z2q z9.length z2r)),(2,(.pointer (some ⟨z7l,0,none⟩))),(7,(.slice z2q z9.length z2r)),(8,(.int .i64 ((z9.length : Nat) : Int))),(9,(.int .i64 ze)),(6,(.pointer (some ⟨ze1,0,none⟩))),(5,(.int .i64 ze)),(17,(.bool (decide (((nth z9 ze).fTime) < 0)))),(21,(.bool ((decide (((nth z9 ze).fTime) < 0)) || (decide (((nth z9 ze).fTime) > 536870912)))))] (y1M 46 [7,6,5,4,3,2,1,0]) ?_ (fun zmq=>?_)
   rotate_left
   ·rcases Bool.eq_false_or_eq_true (decide (((nth z9 ze).fTime) < 0)) with hb' | hb'
    ·have zhL:=hb'; clear hb'
     refine WD.pin (i:=17) rfl zhL ?_
     refine WD.b (i:=4) (d:=18) (by kernel_rfl) rfl z2 z3 rfl rfl rfl ?_
     refine WD.b (i:=5) (d:=19) (by kernel_rfl) rfl z2 z3 rfl rfl rfl ?_
     refine WD.b (i:=6) (d:=20) (by kernel_rfl) rfl z2 z3 rfl rfl rfl ?_
     refine WD.a (i:=7) (d:=21) (by kernel_rfl) rfl z2 z3 rfl rfl rfl (fun _=>y1D rfl rfl) ?_
     refine WD.yV (.cons .here (.cons .here .nil)) ?_ zmq
     exact (.cons rfl (.cons rfl (.cons rfl (.cons rfl (.cons rfl (.cons rfl (.cons rfl (.cons (zu (Eq.symm zhL)) (.cons (zu (y2m zhL)) .nil)))))))))
    ·have zhM:=hb'; clear hb'
     refine WD.pin (i:=17) rfl zhM ?_
     refine WD.a (i:=4) (d:=18) (by kernel_rfl) rfl z2 z3 rfl rfl rfl (fun _=>ya y4t rfl rfl) ?_
     refine WD.e (i:=5) (d:=19) (by kernel_rfl) rfl z2 z3 rfl rfl rfl (yb yh rfl (yd .here rfl)) ?_
     refine WD.a (i:=6) (d:=20) (by kernel_rfl) rfl z2 z3 rfl rfl rfl (fun _=>y3X rfl rfl) ?_
     refine WD.a (i:=7) (d:=21) (by kernel_rfl) rfl z2 z3 rfl rfl rfl (fun _=>y1E rfl rfl) ?_
     refine WD.yV (.cons .here (.cons .here .nil)) ?_ zmq
     exact (.cons rfl (.cons rfl (.cons rfl (.cons rfl (.cons rfl (.cons rfl (.cons rfl (.cons (zu (Eq.symm zhM)) (.cons (zu (y2n zhM)) .nil)))))))))
   refine WD.d #[true,true,true,true,true,true,true,true,false,false,false,false,false,false,false,false,false,false,false,false,false,false,false,false,false,false,false,false,false,false,false,false,false,false,false,false,false,false,false,false,false,false,false,false,false,false] (by kernel_rfl) ?_
   refine WD.a (i:=8) (d:=22) (by kernel_rfl) rfl z2 z3 rfl rfl rfl (fun _=>q_m rfl) ?_
   refine WD.mid (fuel':=33) [(1,(.slice z2q z9.length z2r)),(2,(.pointer (some ⟨z7l,0,none⟩))),(7,(.slice z2q z9.length z2r)),(8,(.int .i64 ((z9.length : Nat) : Int))),(9,(.int .i64 ze)),(6,(.pointer (some ⟨ze1,0,none⟩))),(5,(.int .i64 ze)),(22,(.bool ((decide (((nth z9 ze).fTime) < 0)) || (decide (((nth z9 ze).fTime) > 536870912))))),(26,(.bool (((decide (((nth z9 ze).fTime) < 0)) || (decide (((nth z9 ze).fTime) > 536870912))) || (decide (((nth z9 ze).fVL) < 0)))))] (y1M 46 [12,11,10,9,8,7,6,5,4,3,2,1,0]) ?_ (fun zmr=>?_)
   rotate_left
   ·rcases Bool.eq_false_or_eq_true ((decide (((nth z9 ze).fTime) < 0)) || (decide (((nth z9 ze).fTime) > 536870912))) with hb' | hb'
    ·have zhN:=hb'; clear hb'
     refine WD.pin (i:=22) rfl zhN ?_
     refine WD.b (i:=9) (d:=23) (by kernel_rfl) rfl z2 z3 rfl rfl rfl ?_
     refine WD.b (i:=10) (d:=24) (by kernel_rfl) rfl z2 z3 rfl rfl rfl ?_
     refine WD.b (i:=11) (d:=25) (by kernel_rfl) rfl z2 z3 rfl rfl rfl ?_
     refine WD.a (i:=12) (d:=26) (by kernel_rfl) rfl z2 z3 rfl rfl rfl (fun _=>y1D rfl rfl) ?_
     refine WD.yV (.cons .here (.cons .here .nil)) ?_ zmr
     exact (.cons rfl (.cons rfl (.cons rfl (.cons rfl (.cons rfl (.cons rfl (.cons rfl (.cons (zu (Eq.symm zhN)) (.cons (zu (y2m zhN)) .nil)))))))))
    ·have zhO:=hb'; clear hb'
     refine WD.pin (i:=22) rfl zhO ?_
     refine WD.a (i:=9) (d:=23) (by kernel_rfl) rfl z2 z3 rfl rfl rfl (fun _=>ya y4E rfl rfl) ?_
     refine WD.e (i:=10) (d:=24) (by kernel_rfl) rfl z2 z3 rfl rfl rfl (yb yh rfl (yd .here rfl)) ?_
     refine WD.a (i:=11) (d:=25) (by kernel_rfl) rfl z2 z3 rfl rfl rfl (fun _=>y3B rfl rfl) ?_
     refine WD.a (i:=12) (d:=26) (by kernel_rfl) rfl z2 z3 rfl rfl rfl (fun _=>y1E rfl rfl) ?_
     refine WD.yV (.cons .here (.cons .here .nil)) ?_ zmr
     exact (.cons rfl (.cons rfl (.cons rfl (.cons rfl (.cons rfl (.cons rfl (.cons rfl (.cons (zu (Eq.symm zhO)) (.cons (zu (y2n zhO)) .nil)))))))))
   refine WD.d #[true,true,true,true,true,true,true,true,true,true,true,true,true,false,false,false,false,false,false,false,false,false,false,false,false,false,false,false,false,false,false,false,false,false,false,false,false,false,false,false,false,false,false,false,false,false] (by kernel_rfl) ?_
   refine WD.a (i:=13) (d:=27) (by kernel_rfl) rfl z2 z3 rfl rfl rfl (fun _=>q_m rfl) ?_
   refine WD.mid (fuel':=25) [(1,(.slice z2q z9.length z2r)),(2,(.pointer (some ⟨z7l,0,none⟩))),(7,(.slice z2q z9.length z2r)),(8,(.int .i64 ((z9.length : Nat) : Int))),(9,(.int .i64 ze)),(6,(.pointer (some ⟨ze1,0,none⟩))),(5,(.int .i64 ze)),(27,(.bool (((decide (((nth z9 ze).fTime) < 0)) || (decide (((nth z9 ze).fTime) > 536870912))) || (decide (((nth z9 ze).fVL) < 0))))),(34,(.bool ((((decide (((nth z9 ze).fTime) < 0)) || (decide (((nth z9 ze).fTime) > 536870912))) || (decide (((nth z9 ze).fVL) < 0))) || (decide (((nth z9 ze).fVL) ≥ ((zH.fVLs.length : Nat) : Int))))))] (y1M 46 [20,19,18,17,16,15,14,13,12,11,10,9,8,7,6,5,4,3,2,1,0]) ?_ (fun zms=>?_)
   rotate_left
   ·rcases Bool.eq_false_or_eq_true (((decide (((nth z9 ze).fTime) < 0)) || (decide (((nth z9 ze).fTime) > 536870912))) || (decide (((nth z9 ze).fVL) < 0))) with hb' | hb'
    ·have zhP:=hb'; clear hb'
     refine WD.pin (i:=27) rfl zhP ?_
     refine WD.b (i:=14) (d:=28) (by kernel_rfl) rfl z2 z3 rfl rfl rfl ?_
     refine WD.b (i:=15) (d:=29) (by kernel_rfl) rfl z2 z3 rfl rfl rfl ?_
     refine WD.b (i:=16) (d:=30) (by kernel_rfl) rfl z2 z3 rfl rfl rfl ?_
     refine WD.b (i:=17) (d:=31) (by kernel_rfl) rfl z2 z3 rfl rfl rfl ?_
     refine WD.b (i:=18) (d:=32) (by kernel_rfl) rfl z2 z3 rfl rfl rfl ?_
     refine WD.b (i:=19) (d:=33) (by kernel_rfl) rfl z2 z3 rfl rfl rfl ?_
     refine WD.a (i:=20) (d:=34) (by kernel_rfl) rfl z2 z3 rfl rfl rfl (fun _=>y1D rfl rfl) ?_
     refine WD.yV (.cons .here (.cons .here .nil)) ?_ zms
     exact (.cons rfl (.cons rfl (.cons rfl (.cons rfl (.cons rfl (.cons rfl (.cons rfl (.cons (zu (Eq.symm zhP)) (.cons (zu (y2m zhP)) .nil)))))))))
    ·have zhQ:=hb'; clear hb'
     refine WD.pin (i:=27) rfl zhQ ?_
     refine WD.a (i:=14) (d:=28) (by kernel_rfl) rfl z2 z3 rfl rfl rfl (fun _=>ya y4E rfl rfl) ?_
     refine WD.e (i:=15) (d:=29) (by kernel_rfl) rfl z2 z3 rfl rfl rfl (yb yh rfl (yd .here rfl)) ?_
     refine WD.a (i:=16) (d:=30) (by kernel_rfl) rfl z2 z3 rfl rfl rfl (fun _=>ya y7g rfl rfl) ?_
     refine WD.e (i:=17) (d:=31) (by kernel_rfl) rfl z2 z3 rfl rfl rfl (yb y7h rfl (yd .h1 rfl)) ?_
     refine WD.a (i:=18) (d:=32) (by kernel_rfl) rfl z2 z3 rfl rfl rfl (fun _=>yZ Try.underlying26 rfl) ?_
     refine WD.a (i:=19) (d:=33) (by kernel_rfl) rfl z2 z3 rfl rfl rfl (fun _=>q_geq rfl rfl) ?_
     refine WD.a (i:=20) (d:=34) (by kernel_rfl) rfl z2 z3 rfl rfl rfl (fun _=>y1E rfl rfl) ?_
     refine WD.yV (.cons .here (.cons .here .nil)) ?_ zms
     exact (.cons rfl (.cons rfl (.cons rfl (.cons rfl (.cons rfl (.cons rfl (.cons rfl (.cons (zu (Eq.symm zhQ)) (.cons (zu (y2n zhQ)) .nil)))))))))
   refine WD.d #[true,true,true,true,true,true,true,true,true,true,true,true,true,true,true,true,true,true,true,true,true,false,false,false,false,false,false,false,false,false,false,false,false,false,false,false,false,false,false,false,false,false,false,false,false,false] (by kernel_rfl) ?_
   refine WD.a (i:=21) (d:=35) (by kernel_rfl) rfl z2 z3 rfl rfl rfl (fun _=>q_m rfl) ?_
   refine WD.mid (fuel':=20) [(1,(.slice z2q z9.length z2r)),(2,(.pointer (some ⟨z7l,0,none⟩))),(7,(.slice z2q z9.length z2r)),(8,(.int .i64 ((z9.length : Nat) : Int))),(9,(.int .i64 ze)),(6,(.pointer (some ⟨ze1,0,none⟩))),(5,(.int .i64 ze)),(35,(.bool ((((decide (((nth z9 ze).fTime) < 0)) || (decide (((nth z9 ze).fTime) > 536870912))) || (decide (((nth z9 ze).fVL) < 0))) || (decide (((nth z9 ze).fVL) ≥ ((zH.fVLs.length : Nat) : Int)))))),(39,(.bool (((((decide (((nth z9 ze).fTime) < 0)) || (decide (((nth z9 ze).fTime) > 536870912))) || (decide (((nth z9 ze).fVL) < 0))) || (decide (((nth z9 ze).fVL) ≥ ((zH.fVLs.length : Nat) : Int)))) || (decide (((nth z9 ze).fSize) < 1)))))] (y1M 46 [25,24,23,22,21,20,19,18,17,16,15,14,13,12,11,10,9,8,7,6,5,4,3,2,1,0]) ?_ (fun zmt=>?_)
   rotate_left
   ·rcases Bool.eq_false_or_eq_true ((((decide (((nth z9 ze).fTime) < 0)) || (decide (((nth z9 ze).fTime) > 536870912))) || (decide (((nth z9 ze).fVL) < 0))) || (decide (((nth z9 ze).fVL) ≥ ((zH.fVLs.length : Nat) : Int)))) with hb' | hb'
    ·have zhR:=hb'; clear hb'
     refine WD.pin (i:=35) rfl zhR ?_
     refine WD.b (i:=22) (d:=36) (by kernel_rfl) rfl z2 z3 rfl rfl rfl ?_
     refine WD.b (i:=23) (d:=37) (by kernel_rfl) rfl z2 z3 rfl rfl rfl ?_
     refine WD.b (i:=24) (d:=38) (by kernel_rfl) rfl z2 z3 rfl rfl rfl ?_
     refine WD.a (i:=25) (d:=39) (by kernel_rfl) rfl z2 z3 rfl rfl rfl (fun _=>y1D rfl rfl) ?_
     refine WD.yV (.cons .here (.cons .here .nil)) ?_ zmt
     exact (.cons rfl (.cons rfl (.cons rfl (.cons rfl (.cons rfl (.cons rfl (.cons rfl (.cons (zu (Eq.symm zhR)) (.cons (zu (y2m zhR)) .nil)))))))))
    ·have zhS:=hb'; clear hb'
     refine WD.pin (i:=35) rfl zhS ?_
     refine WD.a (i:=22) (d:=36) (by kernel_rfl) rfl z2 z3 rfl rfl rfl (fun _=>ya y6b rfl rfl) ?_
     refine WD.e (i:=23) (d:=37) (by kernel_rfl) rfl z2 z3 rfl rfl rfl (yb yh rfl (yd .here rfl)) ?_
     refine WD.a (i:=24) (d:=38) (by kernel_rfl) rfl z2 z3 rfl rfl rfl (fun _=>y3B rfl rfl) ?_
     refine WD.a (i:=25) (d:=39) (by kernel_rfl) rfl z2 z3 rfl rfl rfl (fun _=>y1E rfl rfl) ?_
     refine WD.yV (.cons .here (.cons .here .nil)) ?_ zmt
     exact (.cons rfl (.cons rfl (.cons rfl (.cons rfl (.cons rfl (.cons rfl (.cons rfl (.cons (zu (Eq.symm zhS)) (.cons (zu (y2n zhS)) .nil)))))))))
   refine WD.d #[true,true,true,true,true,true,true,true,true,true,true,true,true,true,true,true,true,true,true,true,true,true,true,true,true,true,false,false,false,false,false,false,false,false,false,false,false,false,false,false,false,false,false,false,false,false] (by kernel_rfl) ?_
   refine WD.a (i:=26) (d:=40) (by kernel_rfl) rfl z2 z3 rfl rfl rfl (fun _=>q_m rfl) ?_
   refine WD.mid (fuel':=15) [(1,(.slice z2q z9.length z2r)),(2,(.pointer (some ⟨z7l,0,none⟩))),(7,(.slice z2q z9.length z2r)),(8,(.int .i64 ((z9.length : Nat) : Int))),(9,(.int .i64 ze)),(6,(.pointer (some ⟨ze1,0,none⟩))),(5,(.int .i64 ze)),(40,(.bool (((((decide (((nth z9 ze).fTime) < 0)) || (decide (((nth z9 ze).fTime) > 536870912))) || (decide (((nth z9 ze).fVL) < 0))) || (decide (((nth z9 ze).fVL) ≥ ((zH.fVLs.length : Nat) : Int)))) || (decide (((nth z9 ze).fSize) < 1))))),(44,(.bool ((((((decide (((nth z9 ze).fTime) < 0)) || (decide (((nth z9 ze).fTime) > 536870912))) || (decide (((nth z9 ze).fVL) < 0))) || (decide (((nth z9 ze).fVL) ≥ ((zH.fVLs.length : Nat) : Int)))) || (decide (((nth z9 ze).fSize) < 1))) || (decide (((nth z9 ze).fSize) > 72)))))] (y1M 46 [30,29,28,27,26,25,24,23,22,21,20,19,18,17,16,15,14,13,12,11,10,9,8,7,6,5,4,3,2,1,0]) ?_ (fun zmu=>?_)
   rotate_left
   ·rcases Bool.eq_false_or_eq_true (((((decide (((nth z9 ze).fTime) < 0)) || (decide (((nth z9 ze).fTime) > 536870912))) || (decide (((nth z9 ze).fVL) < 0))) || (decide (((nth z9 ze).fVL) ≥ ((zH.fVLs.length : Nat) : Int)))) || (decide (((nth z9 ze).fSize) < 1))) with hb' | hb'
    ·have zhT:=hb'; clear hb'
     refine WD.pin (i:=40) rfl zhT ?_
     refine WD.b (i:=27) (d:=41) (by kernel_rfl) rfl z2 z3 rfl rfl rfl ?_
     refine WD.b (i:=28) (d:=42) (by kernel_rfl) rfl z2 z3 rfl rfl rfl ?_
     refine WD.b (i:=29) (d:=43) (by kernel_rfl) rfl z2 z3 rfl rfl rfl ?_
     refine WD.a (i:=30) (d:=44) (by kernel_rfl) rfl z2 z3 rfl rfl rfl (fun _=>y1D rfl rfl) ?_
     refine WD.yV (.cons .here (.cons .here .nil)) ?_ zmu
     exact (.cons rfl (.cons rfl (.cons rfl (.cons rfl (.cons rfl (.cons rfl (.cons rfl (.cons (zu (Eq.symm zhT)) (.cons (zu (y2m zhT)) .nil)))))))))
    ·have zhU:=hb'; clear hb'
     refine WD.pin (i:=40) rfl zhU ?_
     refine WD.a (i:=27) (d:=41) (by kernel_rfl) rfl z2 z3 rfl rfl rfl (fun _=>ya y6b rfl rfl) ?_
     refine WD.e (i:=28) (d:=42) (by kernel_rfl) rfl z2 z3 rfl rfl rfl (yb yh rfl (yd .here rfl)) ?_
     refine WD.a (i:=29) (d:=43) (by kernel_rfl) rfl z2 z3 rfl rfl rfl (fun _=>y3X rfl rfl) ?_
     refine WD.a (i:=30) (d:=44) (by kernel_rfl) rfl z2 z3 rfl rfl rfl (fun _=>y1E rfl rfl) ?_
     refine WD.yV (.cons .here (.cons .here .nil)) ?_ zmu
     exact (.cons rfl (.cons rfl (.cons rfl (.cons rfl (.cons rfl (.cons rfl (.cons rfl (.cons (zu (Eq.symm zhU)) (.cons (zu (y2n zhU)) .nil)))))))))
   refine WD.d #[true,true,true,true,true,true,true,true,true,true,true,true,true,true,true,true,true,true,true,true,true,true,true,true,true,true,true,true,true,true,true,false,false,false,false,false,false,false,false,false,false,false,false,false,false,false] (by kernel_rfl) ?_
   refine WD.a (i:=31) (d:=45) (by kernel_rfl) rfl z2 z3 rfl rfl rfl (fun _=>q_m rfl) ?_
   refine WD.mid (fuel':=0) [(1,(.slice z2q z9.length z2r)),(2,(.pointer (some ⟨z7l,0,none⟩))),(7,(.slice z2q z9.length z2r)),(8,(.int .i64 ((z9.length : Nat) : Int))),(9,(.int .i64 ze)),(45,(.bool ((((((decide (((nth z9 ze).fTime) < 0)) || (decide (((nth z9 ze).fTime) > 536870912))) || (decide (((nth z9 ze).fVL) < 0))) || (decide (((nth z9 ze).fVL) ≥ ((zH.fVLs.length : Nat) : Int)))) || (decide (((nth z9 ze).fSize) < 1))) || (decide (((nth z9 ze).fSize) > 72))))),(59,(.bool (((((((decide (((nth z9 ze).fTime) < 0)) || (decide (((nth z9 ze).fTime) > 536870912))) || (decide (((nth z9 ze).fVL) < 0))) || (decide (((nth z9 ze).fVL) ≥ ((zH.fVLs.length : Nat) : Int)))) || (decide (((nth z9 ze).fSize) < 1))) || (decide (((nth z9 ze).fSize) > 72))) || ((decide (ze > 0)) && (decide (((nth z9 (i64 (ze - 1))).fTime) > ((nth z9 ze).fTime)))))))] (y1M 46 [45,44,43,42,41,40,39,38,37,36,35,34,33,32,31,30,29,28,27,26,25,24,23,22,21,20,19,18,17,16,15,14,13,12,11,10,9,8,7,6,5,4,3,2,1,0]) ?_ (fun zmv=>?_)
   rotate_left
   ·rcases Bool.eq_false_or_eq_true ((((((decide (((nth z9 ze).fTime) < 0)) || (decide (((nth z9 ze).fTime) > 536870912))) || (decide (((nth z9 ze).fVL) < 0))) || (decide (((nth z9 ze).fVL) ≥ ((zH.fVLs.length : Nat) : Int)))) || (decide (((nth z9 ze).fSize) < 1))) || (decide (((nth z9 ze).fSize) > 72))) with hb' | hb'
    ·have zhV:=hb'; clear hb'
     refine WD.pin (i:=45) rfl zhV ?_
     refine WD.b (i:=32) (d:=46) (by kernel_rfl) rfl z2 z3 rfl rfl rfl ?_
     refine WD.b (i:=33) (d:=47) (by kernel_rfl) rfl z2 z3 rfl rfl rfl ?_
     refine WD.b (i:=34) (d:=48) (by kernel_rfl) rfl z2 z3 rfl rfl rfl ?_
     refine WD.b (i:=35) (d:=49) (by kernel_rfl) rfl z2 z3 rfl rfl rfl ?_
     refine WD.b (i:=36) (d:=50) (by kernel_rfl) rfl z2 z3 rfl rfl rfl ?_
     refine WD.b (i:=37) (d:=51) (by kernel_rfl) rfl z2 z3 rfl rfl rfl ?_
     refine WD.b (i:=38) (d:=52) (by kernel_rfl) rfl z2 z3 rfl rfl rfl ?_
     refine WD.b (i:=39) (d:=53) (by kernel_rfl) rfl z2 z3 rfl rfl rfl ?_
     refine WD.b (i:=40) (d:=54) (by kernel_rfl) rfl z2 z3 rfl rfl rfl ?_
     refine WD.b (i:=41) (d:=55) (by kernel_rfl) rfl z2 z3 rfl rfl rfl ?_
     refine WD.b (i:=42) (d:=56) (by kernel_rfl) rfl z2 z3 rfl rfl rfl ?_
     refine WD.b (i:=43) (d:=57) (by kernel_rfl) rfl z2 z3 rfl rfl rfl ?_
     refine WD.b (i:=44) (d:=58) (by kernel_rfl) rfl z2 z3 rfl rfl rfl ?_
     refine WD.a (i:=45) (d:=59) (by kernel_rfl) rfl z2 z3 rfl rfl rfl (fun _=>y1D rfl rfl) ?_
     refine WD.yV (.cons .here (.cons .here .nil)) ?_ zmv
     exact (.cons rfl (.cons rfl (.cons rfl (.cons rfl (.cons rfl (.cons (zu (Eq.symm zhV)) (.cons (zu (y2m zhV)) .nil)))))))
    ·have zfq:=hb'; clear hb'
     have zrq:=zrp zfq
     refine WD.pin (i:=45) rfl zfq ?_
     refine WD.a (i:=32) (d:=46) (by kernel_rfl) rfl z2 z3 rfl rfl rfl (fun _=>q_m rfl) ?_
     refine WD.a (i:=33) (d:=47) (by kernel_rfl) rfl z2 z3 rfl rfl rfl (fun _=>y3X rfl rfl) ?_
     refine WD.a (i:=34) (d:=48) (by kernel_rfl) rfl z2 z3 rfl rfl rfl (fun _=>q_m rfl) ?_
     refine WD.mid (fuel':=1) [(1,(.slice z2q z9.length z2r)),(2,(.pointer (some ⟨z7l,0,none⟩))),(7,(.slice z2q z9.length z2r)),(8,(.int .i64 ((z9.length : Nat) : Int))),(9,(.int .i64 ze)),(45,(.bool false)),(48,(.bool (decide (ze > 0)))),(58,(.bool ((decide (ze > 0)) && (decide (((nth z9 (i64 (ze - 1))).fTime) > ((nth z9 ze).fTime))))))] (y1M 46 [44,43,42,41,40,39,38,37,36,35,34,33,32,31,30,29,28,27,26,25,24,23,22,21,20,19,18,17,16,15,14,13,12,11,10,9,8,7,6,5,4,3,2,1,0]) ?_ (fun zmw=>?_)
     rotate_left
     ·rcases Bool.eq_false_or_eq_true (decide (ze > 0)) with hb' | hb'
      ·have zfr:=hb'; clear hb'
       have zrr:=zrq zfr
       refine WD.pin (i:=48) rfl zfr ?_
       refine WD.a (i:=35) (d:=49) (by kernel_rfl) rfl z2 z3 rfl rfl rfl (fun _=>q_m rfl) ?_
       refine WD.a (i:=36) (d:=50) (by kernel_rfl) rfl z2 z3 rfl rfl rfl (fun _=>q_m rfl) ?_
       refine WD.a (i:=37) (d:=51) (by kernel_rfl) rfl z2 z3 rfl rfl rfl (fun _=>y52 rfl rfl rfl) ?_
       refine WD.znth (j:=38) (dd:=52) (by kernel_rfl) rfl z2 z3 rfl rfl (Z:=Z) (Pr:=(fun r x=>r = e53 x)) y43 rfl rfl zmp zrr ?_
       rintro zy2 zy3 zrs zy4 rfl
       refine WD.a (i:=39) (d:=53) (by kernel_rfl) rfl z2 z3 rfl rfl rfl (fun _=>ya y4t rfl rfl) ?_
       refine WD.e (i:=40) (d:=54) (by kernel_rfl) rfl z2 z3 rfl rfl rfl (yb yh rfl (y2h hz.pv zrs rfl)) ?_
       refine WD.a (i:=41) (d:=55) (by kernel_rfl) rfl z2 z3 rfl rfl rfl (fun _=>ya y4t rfl rfl) ?_
       refine WD.e (i:=42) (d:=56) (by kernel_rfl) rfl z2 z3 rfl rfl rfl (yb yh rfl (yd .here rfl)) ?_
       refine WD.a (i:=43) (d:=57) (by kernel_rfl) rfl z2 z3 rfl rfl rfl (fun _=>y3X rfl rfl) ?_
       refine WD.a (i:=44) (d:=58) (by kernel_rfl) rfl z2 z3 rfl rfl rfl (fun _=>y1D rfl rfl) ?_
       refine WD.yV (.cons .here (.cons .here .nil)) ?_ zmw
       exact (.cons rfl (.cons rfl (.cons rfl (.cons rfl (.cons rfl (.cons rfl (.cons (zu (Eq.symm zfr)) (.cons (zu (y2V zfr)) .nil))))))))
      ·have zhW:=hb'; clear hb'
       refine WD.pin (i:=48) rfl zhW ?_
       refine WD.b (i:=35) (d:=49) (by kernel_rfl) rfl z2 z3 rfl rfl rfl ?_
       refine WD.b (i:=36) (d:=50) (by kernel_rfl) rfl z2 z3 rfl rfl rfl ?_
       refine WD.b (i:=37) (d:=51) (by kernel_rfl) rfl z2 z3 rfl rfl rfl ?_
       refine WD.b (i:=38) (d:=52) (by kernel_rfl) rfl z2 z3 rfl rfl rfl ?_
       refine WD.b (i:=39) (d:=53) (by kernel_rfl) rfl z2 z3 rfl rfl rfl ?_
       refine WD.b (i:=40) (d:=54) (by kernel_rfl) rfl z2 z3 rfl rfl rfl ?_
       refine WD.b (i:=41) (d:=55) (by kernel_rfl) rfl z2 z3 rfl rfl rfl ?_
       refine WD.b (i:=42) (d:=56) (by kernel_rfl) rfl z2 z3 rfl rfl rfl ?_
       refine WD.b (i:=43) (d:=57) (by kernel_rfl) rfl z2 z3 rfl rfl rfl ?_
       refine WD.a (i:=44) (d:=58) (by kernel_rfl) rfl z2 z3 rfl rfl rfl (fun _=>y1E rfl rfl) ?_
       refine WD.yV (.cons .here (.cons .here .nil)) ?_ zmw
       exact (.cons rfl (.cons rfl (.cons rfl (.cons rfl (.cons rfl (.cons rfl (.cons (zu (Eq.symm zhW)) (.cons (zu (y2U zhW)) .nil))))))))
     refine WD.d #[true,true,true,true,true,true,true,true,true,true,true,true,true,true,true,true,true,true,true,true,true,true,true,true,true,true,true,true,true,true,true,true,true,true,true,true,true,true,true,true,true,true,true,true,true,false] (by kernel_rfl) ?_
     refine WD.a (i:=45) (d:=59) (by kernel_rfl) rfl z2 z3 rfl rfl rfl (fun _=>y1E rfl rfl) ?_
     refine WD.yV (.cons .here (.cons .here .nil)) ?_ zmv
     exact (.cons rfl (.cons rfl (.cons rfl (.cons rfl (.cons rfl (.cons (zu (Eq.symm zfq)) (.cons (zu (y2n zfq)) .nil)))))))
   refine WD.d #[true,true,true,true,true,true,true,true,true,true,true,true,true,true,true,true,true,true,true,true,true,true,true,true,true,true,true,true,true,true,true,true,true,true,true,true,true,true,true,true,true,true,true,true,true,true] (by kernel_rfl) ?_
   refine WD.done (by kernel_rfl) ?_
   refine WX.a ?_
   refine WC.cond rfl (fun zhX=>?_) (fun zhX=>?_)
   ·replace h:=yk h zhX
    refine WC.b (WC.a (WL.pu rfl (WL.nil (WX.a (WC.ret (WX.yr (WX.ye (WX.ye (WX.yr (WX.ye ?_))))))))))
    obtain rfl:=Option.some.inj h
    refine WX.yj Try.results24 (.tmp rfl .nil) (fun w hw=>?_)
    exact ⟨y10 rfl,hw.sub .nil⟩
   ·replace h:=yl h zhX
    refine WC.skip (WX.yg (WX.a (WC.a (WL.pu rfl (WL.pu rfl (WL.nil ?_))))))
    exact WX.round (G:=Nat × Int) ⟨zhJ,(i64 (ze + 1))⟩ h (Nat.lt_succ_self _) (.cons rfl (.cons rfl (.cons rfl (.cons rfl (.cons rfl .nil))))) (.cons .h1 .nil)
  ·replace h:=yl h zhK
   refine WC.exit (WX.yc (WX.yc (WX.yt ?_)))
   exact WX.mid (G:=Unit) () h (.cons rfl .nil) .nil
 ·rintro  h
  replace h:=zrm.symm.trans h
  refine WC.b (WC.a (WL.pu rfl ?_))
  refine WL.a (d:=62) rfl rfl rfl (yZ Try.underlying33 rfl) ?_
  refine WL.pu rfl (WL.pu rfl (WL.nil (WX.a (WC.ret ?_))))
  obtain rfl:=Option.some.inj h
  refine WX.yj Try.results24 (.tmp rfl .nil) (fun w hw=>?_)
  exact ⟨y10 rfl,hw.sub .nil⟩
def y2g (z9o : List Snetwork_event) : Option Int :=
 some ((z9o.length : Nat) : Int)
set_option maxRecDepth 20000 in
theorem y4M (Z : Zp) (zfs : Option Addr) (zft : Nat) (z9o : List Snetwork_event) (r : Int)
  (h : y2g z9o = some r) (w₀ : World) (hz : PZ [] w₀ Z)
  (zy5 : ZS Z 7 (fun r x=>r = yA x) zfs zft z9o) :
  Calls Try.prog 86 #[(.slice zfs z9o.length zft)] w₀ fun e w'=>e = .returned (.int .i64 r) ∧ Hp [] w₀ w' []:=by
 unfold y2g at h
 refine Calls.yo (vs:=[(.slice zfs z9o.length zft)]) (pre:=[]) (env:=[(0,(.slice zfs z9o.length zft))]) Try.func86 rfl Try.ntmps86 rfl (Hp.nil w₀ _) rfl ?_
 refine WC.b (WC.a (WL.pu rfl (WL.nil (WX.a (WC.b (WC.a (WL.pu rfl ?_)))))))
 refine WL.a (d:=4) rfl rfl rfl (yZ Try.underlying79 rfl) ?_
 refine WL.pu rfl (WL.nil (WX.a (WC.ret ?_)))
 obtain rfl:=Option.some.inj h
 refine WX.yj Try.results86 (.tmp rfl .nil) (fun w hw=>?_)
 exact ⟨y10 rfl,hw.sub .nil⟩
def y3x (z9p : Int) : Option Bool :=
 some (decide (z9p ≠ z9p))
set_option maxRecDepth 20000 in
theorem y5P (Z : Zp)  (z9p : Int) (r : Bool)
  (h : y3x z9p = some r) (w₀ : World) (hz : PZ [] w₀ Z) :
  Calls Try.prog 58 #[(.int .i64 z9p)] w₀ fun e w'=>e = .returned (.bool r) ∧ Hp [] w₀ w' []:=by
 unfold y3x at h
 refine Calls.yo (vs:=[(.int .i64 z9p)]) (pre:=[]) (env:=[(0,(.int .i64 z9p))]) Try.func58 rfl Try.ntmps58 rfl (Hp.nil w₀ _) rfl ?_
 refine WC.b (WC.a (WL.pu rfl (WL.nil (WX.a (WC.b (WC.a (WL.pu rfl (WL.pu rfl (WL.pu rfl (WL.pu rfl (WL.nil (WX.a (WC.ret ?_)))))))))))))
 obtain rfl:=Option.some.inj h
 refine WX.yj Try.results58 (.tmp rfl .nil) (fun w hw=>?_)
 exact ⟨y10 rfl,hw.sub .nil⟩
def y1k (z8r : Int) (z8s : Int) : Option Int :=
 (y3x z8r).bind fun zmx=>(y3x z8s).bind fun zhY=>if zmx then if zhY then some 0 else some (-1) else if zhY then some 1 else if decide (z8r < z8s) then some (-1) else if decide (z8r > z8s) then some 1 else some 0
set_option maxRecDepth 20000 in
theorem y2j (Z : Zp)  (z8r : Int) (z8s : Int) (r : Int)
  (h : y1k z8r z8s = some r) (w₀ : World) (hz : PZ [] w₀ Z) :
  Calls Try.prog 45 #[(.int .i64 z8r),(.int .i64 z8s)] w₀ fun e w'=>e = .returned (.int .i64 r) ∧ Hp [] w₀ w' []:=by
 unfold y1k at h
 refine Calls.yo (vs:=[(.int .i64 z8r),(.int .i64 z8s)]) (pre:=[]) (env:=[(0,(.int .i64 z8r)),(1,(.int .i64 z8s))]) Try.func45 rfl Try.ntmps45 rfl (Hp.nil w₀ _) rfl ?_
 refine WC.b (WC.a (WL.pu rfl (WL.nil (WX.a (WC.b ?_)))))
 obtain ⟨zmx,zrt,h⟩:=zn h
 refine WC.a (WL.pu rfl ?_)
 refine WL.b (dd:=8) rfl rfl rfl (zE (l:=[.tmp 7]) Try.call58 (.cons rfl .nil)) .nil (cc hz .nil fun w pz ho=>y5P _ _ _ zrt w pz ) ?_
 refine WL.pu rfl (WL.nil (WX.a (WC.b ?_)))
 obtain ⟨zhY,zru,h⟩:=zn h
 refine WC.a (WL.pu rfl ?_)
 refine WL.b (dd:=10) rfl rfl rfl (zE (l:=[.tmp 9]) Try.call58 (.cons rfl .nil)) .nil (cc hz .nil fun w pz ho=>y5P _ _ _ zru w pz ) ?_
 refine WL.pu rfl (WL.nil (WX.a (WC.b (WC.b (WC.a (WL.pu rfl (WL.nil (WX.a ?_))))))))
 refine WC.cond rfl (fun zhZ=>?_) (fun zhZ=>?_)
 ·replace h:=yk h zhZ
  refine WC.b (WC.b (WC.a (WL.pu rfl (WL.nil (WX.a ?_)))))
  refine WC.cond rfl (fun zi0=>?_) (fun zi0=>?_)
  ·replace h:=yk h zi0
   refine WC.b (WC.a (WL.pu rfl (WL.nil (WX.a (WC.ret (WX.ye (WX.ye ?_)))))))
   obtain rfl:=Option.some.inj h
   refine WX.yj Try.results45 (.tmp rfl .nil) (fun w hw=>?_)
   exact ⟨y10 rfl,hw.sub .nil⟩
  ·replace h:=yl h zi0
   refine WC.skip (WX.a (WC.b (WC.a (WL.pu rfl (WL.nil (WX.a (WC.ret (WX.ye ?_))))))))
   obtain rfl:=Option.some.inj h
   refine WX.yj Try.results45 (.tmp rfl .nil) (fun w hw=>?_)
   exact ⟨y10 rfl,hw.sub .nil⟩
 ·replace h:=yl h zhZ
  refine WC.skip (WX.a (WC.b (WC.b (WC.a (WL.pu rfl (WL.nil (WX.a ?_)))))))
  refine WC.cond rfl (fun zi1=>?_) (fun zi1=>?_)
  ·replace h:=yk h zi1
   refine WC.b (WC.a (WL.pu rfl (WL.nil (WX.a (WC.ret (WX.ye ?_))))))
   obtain rfl:=Option.some.inj h
   refine WX.yj Try.results45 (.tmp rfl .nil) (fun w hw=>?_)
   exact ⟨y10 rfl,hw.sub .nil⟩
  ·replace h:=yl h zi1
   refine WC.skip (WX.a (WC.b (WC.b (WC.a (WL.pu rfl (WL.pu rfl (WL.pu rfl (WL.nil (WX.a ?_)))))))))
   refine WC.cond rfl (fun zi2=>?_) (fun zi2=>?_)
   ·replace h:=yk h zi2
    refine WC.b (WC.a (WL.pu rfl (WL.nil (WX.a (WC.ret (WX.ye ?_))))))
    obtain rfl:=Option.some.inj h
    refine WX.yj Try.results45 (.tmp rfl .nil) (fun w hw=>?_)
    exact ⟨y10 rfl,hw.sub .nil⟩
   ·replace h:=yl h zi2
    refine WC.skip (WX.a (WC.b (WC.b (WC.a (WL.pu rfl (WL.pu rfl (WL.pu rfl (WL.nil (WX.a ?_)))))))))
    refine WC.cond rfl (fun zi3=>?_) (fun zi3=>?_)
    ·replace h:=yk h zi3
     refine WC.b (WC.a (WL.pu rfl (WL.nil (WX.a (WC.ret (WX.ye ?_))))))
     obtain rfl:=Option.some.inj h
     refine WX.yj Try.results45 (.tmp rfl .nil) (fun w hw=>?_)
     exact ⟨y10 rfl,hw.sub .nil⟩
    ·replace h:=yl h zi3
     refine WC.skip (WX.a (WC.b (WC.a (WL.pu rfl (WL.nil (WX.a (WC.ret ?_)))))))
     obtain rfl:=Option.some.inj h
     refine WX.yj Try.results45 (.tmp rfl .nil) (fun w hw=>?_)
     exact ⟨y10 rfl,hw.sub .nil⟩
def y2A (z30 : List Int) (z7m : Option Int) : Nat → Int → Option Int
 | 0,_=>none
 | zi4 + 1,z3u=>if decide (z3u < ((z30.length : Nat) : Int)) then chk ((0 : Int) ≤ z3u ∧ z3u < ((z30.length : Nat) : Int)) (if decide ((nth z30 z3u) ≠ 0) then some (nth z30 z3u) else y2A z30 z7m zi4 (i64 (z3u + 1))) else z7m
theorem y6A {n : Nat} {z30 : List Int} {z7m : Option Int} {z3u : Int} {r : Int} (h : y2A z30 z7m n z3u = some r) : ∃ m,n = m + 1:=by
 cases n with
 | zero=>cases h
 | succ m=>exact ⟨m,rfl⟩
def y3J (z30 : List Int) : Option Int :=
 jp0 (some 0) fun z7m=>y2A z30 z7m ys 0
set_option maxRecDepth 20000 in
theorem y77 (Z : Zp) (ze2 : Option Addr) (ze3 : Nat) (z30 : List Int) (r : Int)
  (h : y3J z30 = some r) (w₀ : World) (hz : PZ [] w₀ Z)
  (zrv : ZS Z 1 (fun r x=>r = e3 x) ze2 ze3 z30) :
  Calls Try.prog 44 #[(.slice ze2 z30.length ze3)] w₀ fun e w'=>e = .returned (.int .i64 r) ∧ Hp [] w₀ w' []:=by
 unfold y3J at h
 refine Calls.yo (vs:=[(.slice ze2 z30.length ze3)]) (pre:=[]) (env:=[(0,(.slice ze2 z30.length ze3))]) Try.func44 rfl Try.ntmps44 rfl (Hp.nil w₀ _) rfl ?_
 refine WC.b (WC.a (WL.pu rfl (WL.nil (WX.a (WC.b (WC.a (WL.pu rfl (WL.nil (WX.a ?_)))))))))
 obtain ⟨z7m,zrw,h⟩:=y29 h
 refine WC.y2f ((z7m = some r)) ([(3,(.int .i64 0))]) ([]) ?_ ?_
 ·skip
  refine WC.b (WC.a (WL.pu rfl ?_))
  refine WL.a (d:=7) rfl rfl rfl (yZ Try.underlying56 rfl) ?_
  refine WL.pu rfl (WL.nil (WX.a (WC.block ?_)))
  refine WC.y4h (fun (zbk : Nat) (z3u : Int)=>(y2A z30 z7m zbk z3u = some r)) (fun (zbk : Nat) (z3u : Int)=>[(3,(.int .i64 0)),(6,(.slice ze2 z30.length ze3)),(7,(.int .i64 ((z30.length : Nat) : Int))),(8,(.int .i64 z3u))]) (fun (zbk : Nat) (z3u : Int)=>[]) (fun (zbk : Nat) (z3u : Int)=>zbk) ⟨ys,0⟩ h (.cons rfl (.cons rfl (.cons rfl (.cons rfl .nil)))) .nil ?_
  rintro zbk z3u h
  obtain ⟨zi4,rfl⟩:=y6A h
  rw [y2A] at h
  refine WC.b (WC.a (WL.pu rfl (WL.nil (WX.a (WC.b ?_)))))
  refine WC.cond rfl (fun zi5=>?_) (fun zi5=>?_)
  ·replace h:=yk h zi5
   refine WC.skip (WX.a (WC.b (WC.block (WC.b ?_))))
   obtain ⟨zrx,h⟩:=yi h
   refine WC.a ?_
   refine WL.znth (dd:=10) rfl rfl (Z:=Z) (Pr:=(fun r x=>r = e3 x)) y56 rfl rfl zrv zrx ?_
   rintro zy6 zy7 zry zy8 rfl
   refine WL.a (d:=11) rfl rfl rfl (yb yh rfl (rd_z hz.pv zry rfl)) ?_
   refine WL.pu rfl (WL.nil (WX.a (WC.b (WC.a (WL.pu rfl (WL.pu rfl (WL.pu rfl (WL.nil (WX.a ?_)))))))))
   refine WC.cond rfl (fun zi6=>?_) (fun zi6=>?_)
   ·replace h:=yk h zi6
    refine WC.b (WC.a (WL.pu rfl (WL.pu rfl (WL.nil (WX.a (WC.ret (WX.yr (WX.ye (WX.ye (WX.yr (WX.ye ?_)))))))))))
    obtain rfl:=Option.some.inj h
    refine WX.yj Try.results44 (.tmp rfl .nil) (fun w hw=>?_)
    exact ⟨y10 rfl,hw.sub .nil⟩
   ·replace h:=yl h zi6
    refine WC.skip (WX.yg (WX.a (WC.a (WL.pu rfl (WL.pu rfl (WL.nil ?_))))))
    exact WX.round (G:=Nat × Int) ⟨zi4,(i64 (z3u + 1))⟩ h (Nat.lt_succ_self _) (.cons rfl (.cons rfl (.cons rfl (.cons rfl .nil)))) .nil
  ·replace h:=yl h zi5
   refine WC.exit (WX.yc (WX.yc (WX.yt ?_)))
   exact WX.mid (G:=Unit) () h (.cons rfl .nil) .nil
 ·rintro  h
  replace h:=zrw.symm.trans h
  refine WC.b (WC.a (WL.pu rfl (WL.pu rfl (WL.nil (WX.a (WC.ret ?_))))))
  obtain rfl:=Option.some.inj h
  refine WX.yj Try.results44 (.tmp rfl .nil) (fun w hw=>?_)
  exact ⟨y10 rfl,hw.sub .nil⟩
def y21 (z1j : Snetwork_event) (z1k : Snetwork_event) : Option Int :=
 (y1k z1j.fTime z1k.fTime).bind fun zi7=>(y1k z1j.fIn_ z1k.fIn_).bind fun zi8=>(y1k z1j.fVl z1k.fVl).bind fun zi9=>(y1k z1j.fSent z1k.fSent).bind fun zia=>(y3J ([zi7,zi8,zi9,zia] : List Int)).bind fun zmy=>some zmy
set_option maxRecDepth 20000 in
theorem y5V (Z : Zp)  (z1j : Snetwork_event) (z1k : Snetwork_event) (r : Int)
  (h : y21 z1j z1k = some r) (w₀ : World) (hz : PZ [] w₀ Z) :
  Calls Try.prog 89 #[(.agg #[(.int .i64 z1j.fTime),(.int .i64 z1j.fIn_),(.int .i64 z1j.fVl),(.int .i64 z1j.fSent),(.int .i64 z1j.fHop.fNode),(.int .i64 z1j.fHop.fNext),(.int .i64 z1j.fHop.fLink)]),(.agg #[(.int .i64 z1k.fTime),(.int .i64 z1k.fIn_),(.int .i64 z1k.fVl),(.int .i64 z1k.fSent),(.int .i64 z1k.fHop.fNode),(.int .i64 z1k.fHop.fNext),(.int .i64 z1k.fHop.fLink)])] w₀ fun e w'=>e = .returned (.int .i64 r) ∧ Hp [] w₀ w' []:=by
 unfold y21 at h
 refine Calls.yo (vs:=[(.agg #[(.int .i64 z1j.fTime),(.int .i64 z1j.fIn_),(.int .i64 z1j.fVl),(.int .i64 z1j.fSent),(.int .i64 z1j.fHop.fNode),(.int .i64 z1j.fHop.fNext),(.int .i64 z1j.fHop.fLink)]),(.agg #[(.int .i64 z1k.fTime),(.int .i64 z1k.fIn_),(.int .i64 z1k.fVl),(.int .i64 z1k.fSent),(.int .i64 z1k.fHop.fNode),(.int .i64 z1k.fHop.fNext),(.int .i64 z1k.fHop.fLink)])]) (pre:=[]) (env:=[(0,(.agg #[(.int .i64 z1j.fTime),(.int .i64 z1j.fIn_),(.int .i64 z1j.fVl),(.int .i64 z1j.fSent),(.int .i64 z1j.fHop.fNode),(.int .i64 z1j.fHop.fNext),(.int .i64 z1j.fHop.fLink)])),(1,(.agg #[(.int .i64 z1k.fTime),(.int .i64 z1k.fIn_),(.int .i64 z1k.fVl),(.int .i64 z1k.fSent),(.int .i64 z1k.fHop.fNode),(.int .i64 z1k.fHop.fNext),(.int .i64 z1k.fHop.fLink)]))]) Try.func89 rfl Try.ntmps89 rfl (Hp.nil w₀ _) rfl ?_
 refine WC.b (WC.a ?_)
 refine WL.new (dd:=2) rfl rfl rfl (y2p (cs:=[(.int .i64 z1j.fTime),(.int .i64 z1j.fIn_),(.int .i64 z1j.fVl),(.int .i64 z1j.fSent),(.int .i64 z1j.fHop.fNode),(.int .i64 z1j.fHop.fNext),(.int .i64 z1j.fHop.fLink)]) rfl rfl) ?_
 intro zy9 _
 refine WL.new (dd:=3) rfl rfl rfl (y2p (cs:=[(.int .i64 z1k.fTime),(.int .i64 z1k.fIn_),(.int .i64 z1k.fVl),(.int .i64 z1k.fSent),(.int .i64 z1k.fHop.fNode),(.int .i64 z1k.fHop.fNext),(.int .i64 z1k.fHop.fLink)]) rfl rfl) ?_
 intro zya _
 refine WL.pu rfl (WL.nil (WX.a (WC.b ?_)))
 obtain ⟨zi7,zrz,h⟩:=zn h
 obtain ⟨zi8,zrA,h⟩:=zn h
 obtain ⟨zi9,zrB,h⟩:=zn h
 obtain ⟨zia,zrC,h⟩:=zn h
 obtain ⟨zmy,zrD,h⟩:=zn h
 refine WC.y12 (fun i=>[].contains i) [] rfl ?_
 refine WD.a (i:=0) (d:=5) (by kernel_rfl) rfl z2 z3 rfl rfl rfl (fun _=>ya y6x rfl rfl) ?_
 refine WD.e (i:=1) (d:=6) (by kernel_rfl) rfl z2 z3 rfl rfl rfl (yb yh rfl (yd .h1 rfl)) ?_
 refine WD.a (i:=2) (d:=7) (by kernel_rfl) rfl z2 z3 rfl rfl rfl (fun _=>ya y6x rfl rfl) ?_
 refine WD.e (i:=3) (d:=8) (by kernel_rfl) rfl z2 z3 rfl rfl rfl (yb yh rfl (yd .here rfl)) ?_
 refine WD.c (i:=4) (d:=9) (by kernel_rfl) rfl z2 z3 rfl rfl rfl (zE (l:=[.tmp 6,.tmp 8]) Try.call45 (.cons rfl (.cons rfl .nil))) (cc hz .nil fun w pz ho=>y2j _ _ _ _ zrz w pz ) ?_
 refine WD.a (i:=5) (d:=10) (by kernel_rfl) rfl z2 z3 rfl rfl rfl (fun _=>ya y9a rfl rfl) ?_
 refine WD.e (i:=6) (d:=11) (by kernel_rfl) rfl z2 z3 rfl rfl rfl (yb yh rfl (yd .h1 rfl)) ?_
 refine WD.a (i:=7) (d:=12) (by kernel_rfl) rfl z2 z3 rfl rfl rfl (fun _=>ya y9a rfl rfl) ?_
 refine WD.e (i:=8) (d:=13) (by kernel_rfl) rfl z2 z3 rfl rfl rfl (yb yh rfl (yd .here rfl)) ?_
 refine WD.c (i:=9) (d:=14) (by kernel_rfl) rfl z2 z3 rfl rfl rfl (zE (l:=[.tmp 11,.tmp 13]) Try.call45 (.cons rfl (.cons rfl .nil))) (cc hz .nil fun w pz ho=>y2j _ _ _ _ zrA w pz ) ?_
 refine WD.a (i:=10) (d:=15) (by kernel_rfl) rfl z2 z3 rfl rfl rfl (fun _=>ya y9b rfl rfl) ?_
 refine WD.e (i:=11) (d:=16) (by kernel_rfl) rfl z2 z3 rfl rfl rfl (yb yh rfl (yd .h1 rfl)) ?_
 refine WD.a (i:=12) (d:=17) (by kernel_rfl) rfl z2 z3 rfl rfl rfl (fun _=>ya y9b rfl rfl) ?_
 refine WD.e (i:=13) (d:=18) (by kernel_rfl) rfl z2 z3 rfl rfl rfl (yb yh rfl (yd .here rfl)) ?_
 refine WD.c (i:=14) (d:=19) (by kernel_rfl) rfl z2 z3 rfl rfl rfl (zE (l:=[.tmp 16,.tmp 18]) Try.call45 (.cons rfl (.cons rfl .nil))) (cc hz .nil fun w pz ho=>y2j _ _ _ _ zrB w pz ) ?_
 refine WD.a (i:=15) (d:=20) (by kernel_rfl) rfl z2 z3 rfl rfl rfl (fun _=>ya y4W rfl rfl) ?_
 refine WD.e (i:=16) (d:=21) (by kernel_rfl) rfl z2 z3 rfl rfl rfl (yb yh rfl (yd .h1 rfl)) ?_
 refine WD.a (i:=17) (d:=22) (by kernel_rfl) rfl z2 z3 rfl rfl rfl (fun _=>ya y4W rfl rfl) ?_
 refine WD.e (i:=18) (d:=23) (by kernel_rfl) rfl z2 z3 rfl rfl rfl (yb yh rfl (yd .here rfl)) ?_
 refine WD.c (i:=19) (d:=24) (by kernel_rfl) rfl z2 z3 rfl rfl rfl (zE (l:=[.tmp 21,.tmp 23]) Try.call45 (.cons rfl (.cons rfl .nil))) (cc hz .nil fun w pz ho=>y2j _ _ _ _ zrC w pz ) ?_
 refine WD.new (i:=20) (dd:=25) rfl (by kernel_rfl) rfl rfl rfl (yS (cs:=([zi7,zi8,zi9,zia] : List Int).flatMap e3) y56 (Eos.parts (l:=[.tmp 9,.tmp 14,.tmp 19,.tmp 24]) (.cons rfl (.cons rfl (.cons rfl (.cons rfl .nil)))) [0,1,2,3]) (fun _=>by kernel_rfl) rfl (by unfold maxLen; omega)) (fun h'=>absurd h' (by decide)) ?_
 intro zyb _
 refine WD.c (i:=21) (d:=26) (by kernel_rfl) rfl z2 z3 rfl rfl rfl (zE (l:=[.tmp 25]) Try.call44 (.cons rfl .nil)) (ccl hz .nil (.cons .here .nil) fun w pz ho la=>y77 _ _ _ _ _ zrD w pz (ZA.row (la _ (.head _) _) (RR.y16 (enc:=e3) (fun _=>rfl) _) ⟨w,pz.1⟩)) ?_
 refine WD.a (i:=22) (d:=4) (by kernel_rfl) rfl z2 z3 rfl rfl rfl (fun _=>q_z rfl) ?_
 refine WD.done (by kernel_rfl) ?_
 refine WX.a (WC.ret ?_)
 obtain rfl:=Option.some.inj h
 refine WX.yj Try.results89 (.tmp rfl .nil) (fun w hw=>?_)
 exact ⟨y10 rfl,hw.sub .nil⟩
def y1x (z2f : List Snetwork_event) (z3Z : Int) (z40 : Int) : Option Bool :=
 chk ((0 : Int) ≤ z3Z ∧ z3Z < ((z2f.length : Nat) : Int)) (chk ((0 : Int) ≤ z40 ∧ z40 < ((z2f.length : Nat) : Int)) ((y21 (⟨((nth z2f z3Z).fTime),((nth z2f z3Z).fIn_),((nth z2f z3Z).fVl),((nth z2f z3Z).fSent),(⟨(((nth z2f z3Z).fHop).fNode),(((nth z2f z3Z).fHop).fNext),(((nth z2f z3Z).fHop).fLink)⟩ : Sapi_Hop)⟩ : Snetwork_event) (⟨((nth z2f z40).fTime),((nth z2f z40).fIn_),((nth z2f z40).fVl),((nth z2f z40).fSent),(⟨(((nth z2f z40).fHop).fNode),(((nth z2f z40).fHop).fNext),(((nth z2f z40).fHop).fLink)⟩ : Sapi_Hop)⟩ : Snetwork_event)).bind fun zmz=>some (decide (zmz < 0))))
set_option maxRecDepth 20000 in
theorem y3K (Z : Zp) (zfu : Option Addr) (zfv : Nat) (z2f : List Snetwork_event) (z3Z : Int) (z40 : Int) (r : Bool)
  (h : y1x z2f z3Z z40 = some r) (w₀ : World) (hz : PZ [] w₀ Z)
  (zmA : ZS Z 7 (fun r x=>r = yA x) zfu zfv z2f) :
  Calls Try.prog 87 #[(.slice zfu z2f.length zfv),(.int .i64 z3Z),(.int .i64 z40)] w₀ fun e w'=>e = .returned (.bool r) ∧ Hp [] w₀ w' []:=by
 unfold y1x at h
 refine Calls.yo (vs:=[(.slice zfu z2f.length zfv),(.int .i64 z3Z),(.int .i64 z40)]) (pre:=[]) (env:=[(0,(.slice zfu z2f.length zfv)),(1,(.int .i64 z3Z)),(2,(.int .i64 z40))]) Try.func87 rfl Try.ntmps87 rfl (Hp.nil w₀ _) rfl ?_
 refine WC.b (WC.a (WL.pu rfl (WL.nil (WX.a (WC.b ?_)))))
 obtain ⟨zrE,h⟩:=yi h
 obtain ⟨zrF,h⟩:=yi h
 obtain ⟨zmz,zrG,h⟩:=zn h
 refine WC.y12 (fun i=>[].contains i) [] rfl ?_
 refine WD.a (i:=0) (d:=7) (by kernel_rfl) rfl z2 z3 rfl rfl rfl (fun _=>q_m rfl) ?_
 refine WD.a (i:=1) (d:=8) (by kernel_rfl) rfl z2 z3 rfl rfl rfl (fun _=>q_m rfl) ?_
 refine WD.znth (j:=2) (dd:=9) (by kernel_rfl) rfl z2 z3 rfl rfl (Z:=Z) (Pr:=(fun r x=>r = yA x)) y4x rfl rfl zmA zrE ?_
 rintro zyc zyd zrH zye rfl
 refine WD.e (i:=3) (d:=10) (by kernel_rfl) rfl z2 z3 rfl rfl rfl (yD zao rfl (y3p hz.pv zrH) rfl) ?_
 refine WD.a (i:=4) (d:=11) (by kernel_rfl) rfl z2 z3 rfl rfl rfl (fun _=>q_m rfl) ?_
 refine WD.a (i:=5) (d:=12) (by kernel_rfl) rfl z2 z3 rfl rfl rfl (fun _=>q_m rfl) ?_
 refine WD.znth (j:=6) (dd:=13) (by kernel_rfl) rfl z2 z3 rfl rfl (Z:=Z) (Pr:=(fun r x=>r = yA x)) y4x rfl rfl zmA zrF ?_
 rintro zyf zyg zrI zyh rfl
 refine WD.e (i:=7) (d:=14) (by kernel_rfl) rfl z2 z3 rfl rfl rfl (yD zao rfl (y3p hz.pv zrI) rfl) ?_
 refine WD.c (i:=8) (d:=15) (by kernel_rfl) rfl z2 z3 rfl rfl rfl (zE (l:=[.tmp 10,.tmp 14]) Try.call89 (.cons rfl (.cons rfl .nil))) (cc hz .nil fun w pz ho=>y5V _ _ _ _ zrG w pz ) ?_
 refine WD.a (i:=9) (d:=16) (by kernel_rfl) rfl z2 z3 rfl rfl rfl (fun _=>y3B rfl rfl) ?_
 refine WD.a (i:=10) (d:=6) (by kernel_rfl) rfl z2 z3 rfl rfl rfl (fun _=>q_z rfl) ?_
 refine WD.done (by kernel_rfl) ?_
 refine WX.a (WC.ret ?_)
 obtain rfl:=Option.some.inj h
 refine WX.yj Try.results87 (.tmp rfl .nil) (fun w hw=>?_)
 exact ⟨y10 rfl,hw.sub .nil⟩
def y1y (z6 : List Snetwork_event) (zO : Int) (zw : Int) : Option (List Snetwork_event) :=
 chk ((0 : Int) ≤ zw ∧ zw < ((z6.length : Nat) : Int)) (chk ((0 : Int) ≤ zO ∧ zO < ((z6.length : Nat) : Int)) (chk ((0 : Int) ≤ zw ∧ zw < (((z6.set (zO : Int).toNat (⟨((nth z6 zw).fTime),((nth z6 zw).fIn_),((nth z6 zw).fVl),((nth z6 zw).fSent),(⟨(((nth z6 zw).fHop).fNode),(((nth z6 zw).fHop).fNext),(((nth z6 zw).fHop).fLink)⟩ : Sapi_Hop)⟩ : Snetwork_event)).length : Nat) : Int)) (some ((z6.set (zO : Int).toNat (⟨((nth z6 zw).fTime),((nth z6 zw).fIn_),((nth z6 zw).fVl),((nth z6 zw).fSent),(⟨(((nth z6 zw).fHop).fNode),(((nth z6 zw).fHop).fNext),(((nth z6 zw).fHop).fLink)⟩ : Sapi_Hop)⟩ : Snetwork_event)).set (zw : Int).toNat (⟨((nth z6 zO).fTime),((nth z6 zO).fIn_),((nth z6 zO).fVl),((nth z6 zO).fSent),(⟨(((nth z6 zO).fHop).fNode),(((nth z6 zO).fHop).fNext),(((nth z6 zO).fHop).fLink)⟩ : Sapi_Hop)⟩ : Snetwork_event)))))
set_option maxRecDepth 20000 in
theorem y3L (Z : Zp) (z7n : Option Addr) (z4Q : Nat) (z6 : List Snetwork_event) (zO : Int) (zw : Int) (r : List Snetwork_event)
  (h : y1y z6 zO zw = some r) (w₀ : World) (hz : PZ (fps [row (.slice z7n z6.length z4Q) 113 7 (z6.flatMap yA)]) w₀ Z)
  (hown : Hp (fps [row (.slice z7n z6.length z4Q) 113 7 (z6.flatMap yA)]) w₀ w₀ [row (.slice z7n z6.length z4Q) 113 7 (z6.flatMap yA)]) :
  Calls Try.prog 88 #[(.slice z7n z6.length z4Q),(.int .i64 zO),(.int .i64 zw)] w₀ fun e w'=>e = .returned (.tuple #[]) ∧ (r.length = z6.length) ∧ Hp (fps [row (.slice z7n z6.length z4Q) 113 7 (z6.flatMap yA)]) w₀ w' [row (.slice z7n r.length z4Q) 113 7 (r.flatMap yA)]:=by
 unfold y1y at h
 refine Calls.yo (vs:=[(.slice z7n z6.length z4Q),(.int .i64 zO),(.int .i64 zw)]) (pre:=[row (.slice z7n z6.length z4Q) 113 7 (z6.flatMap yA)]) (env:=[(0,(.slice z7n z6.length z4Q)),(1,(.int .i64 zO)),(2,(.int .i64 zw))]) Try.func88 rfl Try.ntmps88 rfl (hown) rfl ?_
 obtain ⟨ze4,h⟩:=yi h
 obtain ⟨z5V,h⟩:=yi h
 obtain ⟨zbl,h⟩:=yi h
 refine WC.y12 (fun i=>[13,15].contains i) [] rfl ?_
 refine WD.a (i:=0) (d:=6) (by kernel_rfl) rfl z2 z3 rfl rfl rfl (fun _=>q_m rfl) ?_
 refine WD.a (i:=1) (d:=7) (by kernel_rfl) rfl z2 z3 rfl rfl rfl (fun _=>q_m rfl) ?_
 refine WD.a (i:=2) (d:=8) (by kernel_rfl) rfl z2 z3 rfl rfl rfl (fun _=>q_m rfl) ?_
 refine WD.a (i:=3) (d:=9) (by kernel_rfl) rfl z2 z3 rfl rfl rfl (fun _=>q_m rfl) ?_
 refine WD.a (i:=4) (d:=10) (by kernel_rfl) rfl z2 z3 rfl rfl rfl (fun _=>q_m rfl) ?_
 refine WD.a (i:=5) (d:=11) (by kernel_rfl) rfl z2 z3 rfl rfl rfl (fun _=>q_m rfl) ?_
 refine WD.know (fun w hw=>Hp.y2G .here hw (by intro hz'; have:=ze4; rw [hz'] at this; omega)) ?_
 rintro ⟨zib,rfl⟩
 refine WD.a (i:=6) (d:=12) (by kernel_rfl) rfl z2 z3 rfl rfl rfl (fun _=>yu y4x rfl rfl ze4.1 ze4.2 y1f) ?_
 refine WD.e (i:=7) (d:=13) (by kernel_rfl) rfl z2 z3 rfl rfl rfl (y1L (cs:=(yA (nth z6 zw))) zao rfl rfl (y1X .here (y1S (enc:=yA) (l:=z6) (i:=zw) (sz:=7) (fun _=>rfl) ze4.1 ze4.2))) ?_
 refine WD.a (i:=8) (d:=14) (by kernel_rfl) rfl z2 z3 rfl rfl rfl (fun _=>q_m rfl) ?_
 refine WD.a (i:=9) (d:=15) (by kernel_rfl) rfl z2 z3 rfl rfl rfl (fun _=>q_m rfl) ?_
 refine WD.a (i:=10) (d:=16) (by kernel_rfl) rfl z2 z3 rfl rfl rfl (fun _=>yu y4x rfl rfl z5V.1 z5V.2 y1f) ?_
 refine WD.e (i:=11) (d:=17) (by kernel_rfl) rfl z2 z3 rfl rfl rfl (y1L (cs:=(yA (nth z6 zO))) zao rfl rfl (y1X .here (y1S (enc:=yA) (l:=z6) (i:=zO) (sz:=7) (fun _=>rfl) z5V.1 z5V.2))) ?_
 refine WD.a (i:=12) (d:=18) (by kernel_rfl) rfl z2 z3 rfl rfl rfl (fun _=>yu y4x rfl rfl z5V.1 z5V.2 y1f) ?_
 refine WD.forced0 (i:=13) rfl (by kernel_rfl) rfl rfl rfl (Sin.of .nil) (y2y (vs:=[(.int .i64 ((nth z6 zw).fTime)),(.int .i64 ((nth z6 zw).fIn_)),(.int .i64 ((nth z6 zw).fVl)),(.int .i64 ((nth z6 zw).fSent)),(.int .i64 (((nth z6 zw).fHop).fNode)),(.int .i64 (((nth z6 zw).fHop).fNext)),(.int .i64 (((nth z6 zw).fHop).fLink))]) (ds:=(z6.set (zO : Int).toNat (⟨((nth z6 zw).fTime),((nth z6 zw).fIn_),((nth z6 zw).fVl),((nth z6 zw).fSent),(⟨(((nth z6 zw).fHop).fNode),(((nth z6 zw).fHop).fNext),(((nth z6 zw).fHop).fLink)⟩ : Sapi_Hop)⟩ : Snetwork_event)).flatMap yA) zf0 rfl rfl rfl rfl (ocB rfl) .here (y3f (enc:=yA) (sz:=7) (k:=0) (fun _=>rfl) z5V.1 z5V.2 (by decide)) (y3e (enc:=yA) (l:=z6) (sz:=7) (vs:=[(.int .i64 ((nth z6 zw).fTime)),(.int .i64 ((nth z6 zw).fIn_)),(.int .i64 ((nth z6 zw).fVl)),(.int .i64 ((nth z6 zw).fSent)),(.int .i64 (((nth z6 zw).fHop).fNode)),(.int .i64 (((nth z6 zw).fHop).fNext)),(.int .i64 (((nth z6 zw).fHop).fLink))]) (y:=(⟨((nth z6 zw).fTime),((nth z6 zw).fIn_),((nth z6 zw).fVl),((nth z6 zw).fSent),(⟨(((nth z6 zw).fHop).fNode),(((nth z6 zw).fHop).fNext),(((nth z6 zw).fHop).fLink)⟩ : Sapi_Hop)⟩ : Snetwork_event)) (k:=0) (fun _=>rfl) z5V.1 z5V.2 rfl (Nat.le_of_ble_eq_true rfl))) ?_
 refine WD.relen .here (u:=(.slice (some ⟨zib,0,none⟩) ((z6.set (zO : Int).toNat (⟨((nth z6 zw).fTime),((nth z6 zw).fIn_),((nth z6 zw).fVl),((nth z6 zw).fSent),(⟨(((nth z6 zw).fHop).fNode),(((nth z6 zw).fHop).fNext),(((nth z6 zw).fHop).fLink)⟩ : Sapi_Hop)⟩ : Snetwork_event)).length) z4Q)) (y1P (List.length_set).symm) ?_
 refine WD.repin (i:=8) rfl (u:=(.slice (some ⟨zib,0,none⟩) ((z6.set (zO : Int).toNat (⟨((nth z6 zw).fTime),((nth z6 zw).fIn_),((nth z6 zw).fVl),((nth z6 zw).fSent),(⟨(((nth z6 zw).fHop).fNode),(((nth z6 zw).fHop).fNext),(((nth z6 zw).fHop).fLink)⟩ : Sapi_Hop)⟩ : Snetwork_event)).length) z4Q)) (y1P (List.length_set).symm) ?_
 refine WD.a (i:=14) (d:=19) (by kernel_rfl) rfl z2 z3 rfl rfl rfl (fun _=>yu y4x rfl rfl zbl.1 zbl.2 y1f) ?_
 refine WD.y2L (i:=15) rfl (by kernel_rfl) rfl rfl rfl (by kernel_rfl) (y2y (vs:=[(.int .i64 ((nth z6 zO).fTime)),(.int .i64 ((nth z6 zO).fIn_)),(.int .i64 ((nth z6 zO).fVl)),(.int .i64 ((nth z6 zO).fSent)),(.int .i64 (((nth z6 zO).fHop).fNode)),(.int .i64 (((nth z6 zO).fHop).fNext)),(.int .i64 (((nth z6 zO).fHop).fLink))]) (ds:=((z6.set (zO : Int).toNat (⟨((nth z6 zw).fTime),((nth z6 zw).fIn_),((nth z6 zw).fVl),((nth z6 zw).fSent),(⟨(((nth z6 zw).fHop).fNode),(((nth z6 zw).fHop).fNext),(((nth z6 zw).fHop).fLink)⟩ : Sapi_Hop)⟩ : Snetwork_event)).set (zw : Int).toNat (⟨((nth z6 zO).fTime),((nth z6 zO).fIn_),((nth z6 zO).fVl),((nth z6 zO).fSent),(⟨(((nth z6 zO).fHop).fNode),(((nth z6 zO).fHop).fNext),(((nth z6 zO).fHop).fLink)⟩ : Sapi_Hop)⟩ : Snetwork_event)).flatMap yA) zf0 rfl rfl rfl rfl (ocB rfl) .here (y3f (enc:=yA) (sz:=7) (k:=0) (fun _=>rfl) zbl.1 zbl.2 (by decide)) (y3e (enc:=yA) (l:=z6.set (zO : Int).toNat (⟨((nth z6 zw).fTime),((nth z6 zw).fIn_),((nth z6 zw).fVl),((nth z6 zw).fSent),(⟨(((nth z6 zw).fHop).fNode),(((nth z6 zw).fHop).fNext),(((nth z6 zw).fHop).fLink)⟩ : Sapi_Hop)⟩ : Snetwork_event)) (sz:=7) (vs:=[(.int .i64 ((nth z6 zO).fTime)),(.int .i64 ((nth z6 zO).fIn_)),(.int .i64 ((nth z6 zO).fVl)),(.int .i64 ((nth z6 zO).fSent)),(.int .i64 (((nth z6 zO).fHop).fNode)),(.int .i64 (((nth z6 zO).fHop).fNext)),(.int .i64 (((nth z6 zO).fHop).fLink))]) (y:=(⟨((nth z6 zO).fTime),((nth z6 zO).fIn_),((nth z6 zO).fVl),((nth z6 zO).fSent),(⟨(((nth z6 zO).fHop).fNode),(((nth z6 zO).fHop).fNext),(((nth z6 zO).fHop).fLink)⟩ : Sapi_Hop)⟩ : Snetwork_event)) (k:=0) (fun _=>rfl) zbl.1 zbl.2 rfl (Nat.le_of_ble_eq_true rfl))) ?_
 refine WD.relen .here (u:=(.slice (some ⟨zib,0,none⟩) (((z6.set (zO : Int).toNat (⟨((nth z6 zw).fTime),((nth z6 zw).fIn_),((nth z6 zw).fVl),((nth z6 zw).fSent),(⟨(((nth z6 zw).fHop).fNode),(((nth z6 zw).fHop).fNext),(((nth z6 zw).fHop).fLink)⟩ : Sapi_Hop)⟩ : Snetwork_event)).set (zw : Int).toNat (⟨((nth z6 zO).fTime),((nth z6 zO).fIn_),((nth z6 zO).fVl),((nth z6 zO).fSent),(⟨(((nth z6 zO).fHop).fNode),(((nth z6 zO).fHop).fNext),(((nth z6 zO).fHop).fLink)⟩ : Sapi_Hop)⟩ : Snetwork_event)).length) z4Q)) (y1P (List.length_set).symm) ?_
 refine WD.done (by kernel_rfl) ?_
 obtain rfl:=Option.some.inj h
 refine WX.y1Z Try.results88 .nil (fun w hw=>?_)
 exact ⟨y4u,((List.length_set).trans ((List.length_set).trans rfl)),hw.sub (.cons .here .nil)⟩
def y2R (z25 : List Snetwork_event) (z1r : Snetwork_event) : Option Unit :=
 chk ((((z25 ++ ([z1r] : List Snetwork_event)).length : Nat) : Int) * 56 ≤ 140737488355328 ∧ (((z25 ++ ([z1r] : List Snetwork_event)).length : Nat) : Int) ≤ 4611686018427387904) (some ())
set_option maxRecDepth 20000 in
theorem y5W (Z : Zp) (z7o : Nat) (z5W : Option Addr) (z5X : Nat) (z9q : Value) (z9r : Value) (z9s : Value) (z9t : Value) (z9u : Value) (z9v : Value) (z9w : Value) (z9x : Value) (z9y : Value) (z9z : Value) (z9A : Value) (z9B : Value) (z9C : Value) (z25 : List Snetwork_event) (z1r : Snetwork_event) (r : Unit)
  (h : y2R z25 z1r = some r) (w₀ : World) (hz : PZ (fps [stb z7o 81 [z9q,z9r,z9s,z9t,z9u,z9v,z9w,z9x,z9y,z9z,z9A,(.slice z5W z25.length z5X),z9B,z9C],row (.slice z5W z25.length z5X) 113 7 (z25.flatMap yA)]) w₀ Z)
  (hown : Hp (fps [stb z7o 81 [z9q,z9r,z9s,z9t,z9u,z9v,z9w,z9x,z9y,z9z,z9A,(.slice z5W z25.length z5X),z9B,z9C],row (.slice z5W z25.length z5X) 113 7 (z25.flatMap yA)]) w₀ w₀ [stb z7o 81 [z9q,z9r,z9s,z9t,z9u,z9v,z9w,z9x,z9y,z9z,z9A,(.slice z5W z25.length z5X),z9B,z9C],row (.slice z5W z25.length z5X) 113 7 (z25.flatMap yA)]) :
  Calls Try.prog 92 #[(.pointer (some ⟨z7o,11,none⟩)),(.iface 113 (.agg #[(.int .i64 z1r.fTime),(.int .i64 z1r.fIn_),(.int .i64 z1r.fVl),(.int .i64 z1r.fSent),(.int .i64 z1r.fHop.fNode),(.int .i64 z1r.fHop.fNext),(.int .i64 z1r.fHop.fLink)]))] w₀ fun e w'=>∃ zmB : Option Addr,∃ zmC : Nat,e = .returned (.tuple #[]) ∧ True ∧ Hp (fps [stb z7o 81 [z9q,z9r,z9s,z9t,z9u,z9v,z9w,z9x,z9y,z9z,z9A,(.slice z5W z25.length z5X),z9B,z9C],row (.slice z5W z25.length z5X) 113 7 (z25.flatMap yA)]) w₀ w' [stb z7o 81 [z9q,z9r,z9s,z9t,z9u,z9v,z9w,z9x,z9y,z9z,z9A,(.slice zmB ((z25 ++ ([z1r] : List Snetwork_event)).length) zmC),z9B,z9C],row (.slice zmB ((z25 ++ ([z1r] : List Snetwork_event)).length) zmC) 113 7 ((z25 ++ ([z1r] : List Snetwork_event)).flatMap yA)]:=by
 unfold y2R at h
 refine Calls.yo (vs:=[(.pointer (some ⟨z7o,11,none⟩)),(.iface 113 (.agg #[(.int .i64 z1r.fTime),(.int .i64 z1r.fIn_),(.int .i64 z1r.fVl),(.int .i64 z1r.fSent),(.int .i64 z1r.fHop.fNode),(.int .i64 z1r.fHop.fNext),(.int .i64 z1r.fHop.fLink)]))]) (pre:=[stb z7o 81 [z9q,z9r,z9s,z9t,z9u,z9v,z9w,z9x,z9y,z9z,z9A,(.slice z5W z25.length z5X),z9B,z9C],row (.slice z5W z25.length z5X) 113 7 (z25.flatMap yA)]) (env:=[(0,(.pointer (some ⟨z7o,11,none⟩))),(1,(.iface 113 (.agg #[(.int .i64 z1r.fTime),(.int .i64 z1r.fIn_),(.int .i64 z1r.fVl),(.int .i64 z1r.fSent),(.int .i64 z1r.fHop.fNode),(.int .i64 z1r.fHop.fNext),(.int .i64 z1r.fHop.fLink)])))]) Try.func92 rfl Try.ntmps92 rfl (hown) rfl ?_
 obtain ⟨zrJ,h⟩:=yi h
 refine WC.y12 (fun i=>[7,9].contains i) [] rfl ?_
 refine WD.a (i:=0) (d:=4) (by kernel_rfl) rfl z2 z3 rfl rfl rfl (fun _=>q_m rfl) ?_
 refine WD.a (i:=1) (d:=5) (by kernel_rfl) rfl z2 z3 rfl rfl rfl (fun _=>q_m rfl) ?_
 refine WD.a (i:=2) (d:=6) (by kernel_rfl) rfl z2 z3 rfl rfl rfl (fun _=>yw rfl) ?_
 refine WD.e (i:=3) (d:=7) (by kernel_rfl) rfl z2 z3 rfl rfl rfl (yb y5l rfl (yd .here rfl)) ?_
 refine WD.a (i:=4) (d:=8) (by kernel_rfl) rfl z2 z3 rfl rfl rfl (fun _=>q_m rfl) ?_
 refine WD.e (i:=5) (d:=9) (by kernel_rfl) rfl z2 z3 rfl rfl rfl (y95 Try.underlying113 rfl rfl) ?_
 refine WD.new (i:=6) (dd:=10) rfl (by kernel_rfl) rfl rfl rfl (yS (cs:=([z1r] : List Snetwork_event).flatMap yA) y4x (Eos.parts (l:=[.tmp 9]) (.cons rfl .nil) [0]) (fun _=>by kernel_rfl) rfl (by unfold maxLen; omega)) (fun h'=>absurd h' (by decide)) ?_
 intro zyi _
 refine WD.old (i:=7) (dd:=11) rfl (by kernel_rfl) rfl rfl rfl rfl (fun _=>(Sin.of .nil)) (y3W (enc:=yA) (l1:=z25) (l2:=([z1r] : List Snetwork_event)) y4x rfl rfl .h2 (fun _=>rfl) rfl rfl (y4i .here) (y4p e113_oc _) zrJ) ?_
 rintro ⟨zmD,zmE⟩ _
 refine WD.a (i:=8) (d:=12) (by kernel_rfl) rfl z2 z3 rfl rfl rfl (fun _=>yw rfl) ?_
 refine WD.y2L (i:=9) rfl (by kernel_rfl) rfl rfl rfl (by kernel_rfl) (y3Z (ds:=[z9q,z9r,z9s,z9t,z9u,z9v,z9w,z9x,z9y,z9z,z9A,(.slice zmD ((z25 ++ ([z1r] : List Snetwork_event)).length) zmE),z9B,z9C]) y9O rfl rfl rfl rfl rfl .h2 rfl rfl) ?_
 refine WD.done (by kernel_rfl) ?_
 skip
 refine WX.y1Z Try.results92 .nil (fun w hw=>?_)
 exact ⟨zmD,zmE,y4u,trivial,hw.sub (.cons .here (.cons .here .nil))⟩
def y1B (z7p : (List Snetwork_event) → Option (List Snetwork_event)) : Nat → Int → (List Snetwork_event) → Option (List Snetwork_event)
 | 0,_,_=>none
 | zic + 1,z3e,z3v=>(if decide ((i64 (Int.tdiv (i64 (z3e - 1)) 2)) = z3e) then some true else (y1x z3v z3e (i64 (Int.tdiv (i64 (z3e - 1)) 2))).bind fun zmF=>some (!zmF)).bind fun zid=>if zid then z7p z3v else (y1y z3v (i64 (Int.tdiv (i64 (z3e - 1)) 2)) z3e).bind fun zfw=>y1B z7p zic (i64 (Int.tdiv (i64 (z3e - 1)) 2)) zfw
theorem y4Z {n : Nat} {z7p : (List Snetwork_event) → Option (List Snetwork_event)} {z3e : Int} {z3v : List Snetwork_event} {r : List Snetwork_event} (h : y1B z7p n z3e z3v = some r) : ∃ m,n = m + 1:=by
 cases n with
 | zero=>cases h
 | succ m=>exact ⟨m,rfl⟩
def y33 (z2g : List Snetwork_event) (z9D : Int) : Option (List Snetwork_event) :=
 jp1 (fun (z5r : List Snetwork_event)=>some z5r) fun z7p=>y1B z7p ys z9D z2g
set_option maxRecDepth 20000 in
theorem y6B (Z : Zp) (z4R : Nat) (z3f : Option Addr) (z3g : Nat) (z7q : Value) (z7r : Value) (z7s : Value) (z7t : Value) (z7u : Value) (z7v : Value) (z7w : Value) (z7x : Value) (z7y : Value) (z7z : Value) (z7A : Value) (z7B : Value) (z7C : Value) (z2g : List Snetwork_event) (z9D : Int) (r : List Snetwork_event)
  (h : y33 z2g z9D = some r) (w₀ : World) (hz : PZ (fps [stb z4R 81 [z7q,z7r,z7s,z7t,z7u,z7v,z7w,z7x,z7y,z7z,z7A,(.slice z3f z2g.length z3g),z7B,z7C],row (.slice z3f z2g.length z3g) 113 7 (z2g.flatMap yA)]) w₀ Z)
  (hown : Hp (fps [stb z4R 81 [z7q,z7r,z7s,z7t,z7u,z7v,z7w,z7x,z7y,z7z,z7A,(.slice z3f z2g.length z3g),z7B,z7C],row (.slice z3f z2g.length z3g) 113 7 (z2g.flatMap yA)]) w₀ w₀ [stb z4R 81 [z7q,z7r,z7s,z7t,z7u,z7v,z7w,z7x,z7y,z7z,z7A,(.slice z3f z2g.length z3g),z7B,z7C],row (.slice z3f z2g.length z3g) 113 7 (z2g.flatMap yA)]) :
  Calls Try.prog 50 #[(.iface 111 (.pointer (some ⟨z4R,11,none⟩))),(.int .i64 z9D)] w₀ fun e w'=>e = .returned (.tuple #[]) ∧ (r.length = z2g.length) ∧ Hp (fps [stb z4R 81 [z7q,z7r,z7s,z7t,z7u,z7v,z7w,z7x,z7y,z7z,z7A,(.slice z3f z2g.length z3g),z7B,z7C],row (.slice z3f z2g.length z3g) 113 7 (z2g.flatMap yA)]) w₀ w' [stb z4R 81 [z7q,z7r,z7s,z7t,z7u,z7v,z7w,z7x,z7y,z7z,z7A,(.slice z3f r.length z3g),z7B,z7C],row (.slice z3f r.length z3g) 113 7 (r.flatMap yA)]:=by
 unfold y33 at h
 refine Calls.yo (vs:=[(.iface 111 (.pointer (some ⟨z4R,11,none⟩))),(.int .i64 z9D)]) (pre:=[stb z4R 81 [z7q,z7r,z7s,z7t,z7u,z7v,z7w,z7x,z7y,z7z,z7A,(.slice z3f z2g.length z3g),z7B,z7C],row (.slice z3f z2g.length z3g) 113 7 (z2g.flatMap yA)]) (env:=[(0,(.iface 111 (.pointer (some ⟨z4R,11,none⟩)))),(1,(.int .i64 z9D))]) Try.func50 rfl Try.ntmps50 rfl (hown) rfl ?_
 obtain ⟨z7p,zrK,h⟩:=y1b h
 refine WC.y5g (fun (z5r : List Snetwork_event)=>(z7p z5r = some r) ∧ (z5r.length = z2g.length)) (fun (z5r : List Snetwork_event)=>[]) (fun (z5r : List Snetwork_event)=>[row (.slice z3f z5r.length z3g) 113 7 (z5r.flatMap yA),stb z4R 81 [z7q,z7r,z7s,z7t,z7u,z7v,z7w,z7x,z7y,z7z,z7A,(.slice z3f z5r.length z3g),z7B,z7C]]) ?_ ?_
 ·skip
  refine WC.block ?_
  refine WC.y2r (fun (zbm : Nat) (z3e : Int) (z3v : List Snetwork_event)=>(y1B z7p zbm z3e z3v = some r) ∧ (z3v.length = z2g.length)) (fun (zbm : Nat) (z3e : Int) (z3v : List Snetwork_event)=>[(0,(.iface 111 (.pointer (some ⟨z4R,11,none⟩)))),(1,(.int .i64 z3e))]) (fun (zbm : Nat) (z3e : Int) (z3v : List Snetwork_event)=>[row (.slice z3f z3v.length z3g) 113 7 (z3v.flatMap yA),stb z4R 81 [z7q,z7r,z7s,z7t,z7u,z7v,z7w,z7x,z7y,z7z,z7A,(.slice z3f z3v.length z3g),z7B,z7C]]) (fun (zbm : Nat) (z3e : Int) (z3v : List Snetwork_event)=>zbm) ⟨ys,z9D,z2g⟩ ⟨h,rfl⟩ (.cons rfl (.cons rfl .nil)) (.cons .h1 (.cons .here .nil)) ?_
  rintro zbm z3e z3v ⟨h,zmG⟩
  obtain ⟨zic,rfl⟩:=y4Z h
  rw [y1B] at h
  refine WC.block (WC.b (WC.a (WL.pu rfl (WL.pu rfl ?_))))
  refine WL.a (d:=7) rfl rfl rfl (q_quo rfl rfl (by decide) rfl) ?_
  refine WL.pu rfl (WL.nil (WX.a (WC.b (WC.b ?_))))
  obtain ⟨zid,zmH,h⟩:=zn h
  refine WC.a (WL.pu rfl (WL.pu rfl (WL.pu rfl (WL.pu rfl ?_))))
  refine WL.seg false 5 11 (B:=zid) rfl rfl rfl rfl rfl rfl (fun h=>(Option.some.inj (yk zmH h)).symm) (fun _ zrL=>?_) ?_
  ·skip
   have ze5:=yl zmH zrL
   obtain ⟨zmF,zrM,ze5⟩:=zn ze5
   replace ze5:=Option.some.inj ze5
   refine WL.pu rfl (WL.pu rfl (WL.pu rfl ?_))
   refine WL.b (dd:=15) rfl rfl rfl (y36 (l:=[.tmp 13,.tmp 14]) (y5w) Try.call87 rfl (yd .h1 rfl) (.cons rfl (.cons rfl .nil))) .nil (ccl hz .nil (.cons .here .nil) fun w pz ho la=>y3K _ _ _ _ _ _ _ zrM w pz (ZA.row (la _ (.head _) _) (RR.y16 (enc:=yA) (fun _=>rfl) _) ⟨w,pz.1⟩)) ?_
   refine WL.pu rfl (WL.pu rfl ?_)
   exact WL.yz ze5 rfl rfl .all
  refine WL.nil (WX.a ?_)
  refine WC.cond rfl (fun zie=>?_) (fun zie=>?_)
  ·replace h:=yk h zie
   refine WC.exit (WX.yc (WX.y5s rfl (WX.yc (WX.yt ?_))))
   exact WX.mid (G:=List Snetwork_event) z3v ⟨h,zmG⟩ .nil (.cons .here (.cons .here .nil))
  ·replace h:=yl h zie
   refine WC.skip (WX.a (WC.b ?_))
   obtain ⟨zfw,zrN,h⟩:=zn h
   refine WC.a (WL.pu rfl (WL.pu rfl (WL.pu rfl ?_)))
   refine WL.y1Q (dd:=21) rfl rfl rfl (y36 (l:=[.tmp 19,.tmp 20]) (y5x) Try.call88 rfl (yd .h1 rfl) (.cons rfl (.cons rfl .nil))) (.cons .here .nil) (cc hz (.cons .here .nil) fun w pz ho=>y3L _ _ _ _ _ _ _ zrN w pz  ho) ?_
   rintro  zmI
   refine WL.restb (cs':=[z7q,z7r,z7s,z7t,z7u,z7v,z7w,z7x,z7y,z7z,z7A,(.slice z3f zfw.length z3g),z7B,z7C]) .h1 (by rw [zmI]) ?_
   refine WL.nil (WX.a (WC.a (WL.pu rfl (WL.pu rfl (WL.nil (WX.yg ?_))))))
   exact WX.round (G:=Nat × Int × List Snetwork_event) ⟨zic,(i64 (Int.tdiv (i64 (z3e - 1)) 2)),zfw⟩ ⟨h,(zmI.trans zmG)⟩ (Nat.lt_succ_self _) (.cons rfl (.cons rfl .nil)) (.cons .h1 (.cons .here .nil))
 ·rintro z5r ⟨h,zrO⟩
  replace h:=(zrK z5r).symm.trans h
  obtain rfl:=Option.some.inj h
  refine WX.y1Z Try.results50 .nil (fun w hw=>?_)
  exact ⟨y4u,zrO,hw.sub (.cons .h1 (.cons .here .nil))⟩
def y22 (z2y : List Snetwork_event) (z20 : Snetwork_event) : Option (List Snetwork_event) :=
 (y2R z2y z20).bind fun zrP=>(y2g (z2y ++ ([z20] : List Snetwork_event))).bind fun zmJ=>(y33 (z2y ++ ([z20] : List Snetwork_event)) (i64 (zmJ - 1))).bind fun zif=>some zif
set_option maxRecDepth 20000 in
theorem y5X (Z : Zp) (z7D : Nat) (z5Y : Option Addr) (z5Z : Nat) (z9E : Value) (z9F : Value) (z9G : Value) (z9H : Value) (z9I : Value) (z9J : Value) (z9K : Value) (z9L : Value) (z9M : Value) (z9N : Value) (z9O : Value) (z9P : Value) (z9Q : Value) (z2y : List Snetwork_event) (z20 : Snetwork_event) (r : List Snetwork_event)
  (h : y22 z2y z20 = some r) (w₀ : World) (hz : PZ (fps [stb z7D 81 [z9E,z9F,z9G,z9H,z9I,z9J,z9K,z9L,z9M,z9N,z9O,(.slice z5Y z2y.length z5Z),z9P,z9Q],row (.slice z5Y z2y.length z5Z) 113 7 (z2y.flatMap yA)]) w₀ Z)
  (hown : Hp (fps [stb z7D 81 [z9E,z9F,z9G,z9H,z9I,z9J,z9K,z9L,z9M,z9N,z9O,(.slice z5Y z2y.length z5Z),z9P,z9Q],row (.slice z5Y z2y.length z5Z) 113 7 (z2y.flatMap yA)]) w₀ w₀ [stb z7D 81 [z9E,z9F,z9G,z9H,z9I,z9J,z9K,z9L,z9M,z9N,z9O,(.slice z5Y z2y.length z5Z),z9P,z9Q],row (.slice z5Y z2y.length z5Z) 113 7 (z2y.flatMap yA)]) :
  Calls Try.prog 38 #[(.iface 111 (.pointer (some ⟨z7D,11,none⟩))),(.iface 113 (.agg #[(.int .i64 z20.fTime),(.int .i64 z20.fIn_),(.int .i64 z20.fVl),(.int .i64 z20.fSent),(.int .i64 z20.fHop.fNode),(.int .i64 z20.fHop.fNext),(.int .i64 z20.fHop.fLink)]))] w₀ fun e w'=>∃ zmK : Option Addr,∃ zmL : Nat,e = .returned (.tuple #[]) ∧ True ∧ Hp (fps [stb z7D 81 [z9E,z9F,z9G,z9H,z9I,z9J,z9K,z9L,z9M,z9N,z9O,(.slice z5Y z2y.length z5Z),z9P,z9Q],row (.slice z5Y z2y.length z5Z) 113 7 (z2y.flatMap yA)]) w₀ w' [stb z7D 81 [z9E,z9F,z9G,z9H,z9I,z9J,z9K,z9L,z9M,z9N,z9O,(.slice zmK r.length zmL),z9P,z9Q],row (.slice zmK r.length zmL) 113 7 (r.flatMap yA)]:=by
 unfold y22 at h
 refine Calls.yo (vs:=[(.iface 111 (.pointer (some ⟨z7D,11,none⟩))),(.iface 113 (.agg #[(.int .i64 z20.fTime),(.int .i64 z20.fIn_),(.int .i64 z20.fVl),(.int .i64 z20.fSent),(.int .i64 z20.fHop.fNode),(.int .i64 z20.fHop.fNext),(.int .i64 z20.fHop.fLink)]))]) (pre:=[stb z7D 81 [z9E,z9F,z9G,z9H,z9I,z9J,z9K,z9L,z9M,z9N,z9O,(.slice z5Y z2y.length z5Z),z9P,z9Q],row (.slice z5Y z2y.length z5Z) 113 7 (z2y.flatMap yA)]) (env:=[(0,(.iface 111 (.pointer (some ⟨z7D,11,none⟩)))),(1,(.iface 113 (.agg #[(.int .i64 z20.fTime),(.int .i64 z20.fIn_),(.int .i64 z20.fVl),(.int .i64 z20.fSent),(.int .i64 z20.fHop.fNode),(.int .i64 z20.fHop.fNext),(.int .i64 z20.fHop.fLink)])))]) Try.func38 rfl Try.ntmps38 rfl (hown) rfl ?_
 refine WC.b ?_
 obtain ⟨zrP,zrQ,h⟩:=zn h
 refine WC.a (WL.pu rfl (WL.pu rfl ?_))
 refine WL.y54 (dd:=6) rfl rfl rfl (y7O (l:=[.tmp 5]) (y99 _) Try.call92 rfl (.cons rfl .nil)) (.cons .here (.cons .here .nil)) (cc hz (.cons .here (.cons .here .nil)) fun w pz ho=>y5W _ _ _ _ _ _ _ _ _ _ _ _ _ _ _ _ _ _ _ _ zrQ w pz  ho) ?_
 rintro zmM zmN _
 refine WL.nil (WX.a ?_)
 obtain ⟨zmJ,zrR,h⟩:=zn h
 obtain ⟨zif,zrS,h⟩:=zn h
 refine WC.a (WL.pu rfl (WL.pu rfl ?_))
 refine WL.b (dd:=9) rfl rfl rfl (y36 (l:=[]) (y7p) Try.call86 rfl (yd .here rfl) .nil) .nil (ccl hz .nil (.cons .h1 .nil) fun w pz ho la=>y4M _ _ _ _ _ zrR w pz (ZA.row (la _ (.head _) _) (RR.y16 (enc:=yA) (fun _=>rfl) _) ⟨w,pz.1⟩)) ?_
 refine WL.pu rfl ?_
 refine WL.y1Q (dd:=11) rfl rfl rfl (zE (l:=[.tmp 7,.tmp 10]) Try.call50 (.cons rfl (.cons rfl .nil))) (.cons .here (.cons .here .nil)) (cc hz (.cons .here (.cons .here .nil)) fun w pz ho=>y6B _ _ _ _ _ _ _ _ _ _ _ _ _ _ _ _ _ _ _ _ zrS w pz  ho) ?_
 rintro  zrT
 refine WL.restb (cs':=[z9E,z9F,z9G,z9H,z9I,z9J,z9K,z9L,z9M,z9N,z9O,(.slice zmM zif.length zmN),z9P,z9Q]) .here (by rw [zrT]) ?_
 refine WL.nil ?_
 obtain rfl:=Option.some.inj h
 refine WX.y1Z Try.results38 .nil (fun w hw=>?_)
 exact ⟨zmM,zmN,y4u,trivial,hw.sub (.cons .here (.cons .here .nil))⟩
def y1G (z1p : List (List Sapi_Hop)) (z18 : List zSt) (z1f : Int) (z41 : Int) (z3K : Int) (z3L : Int) (z7E : (List Snetwork_event) → Option (List Snetwork_event)) : Nat → Int → (List Snetwork_event) → Option (List Snetwork_event)
 | 0,_,_=>none
 | zig + 1,z2h,z3w=>if decide (z2h < (((nth z1p ((nth z18 z1f).fVL)).length : Nat) : Int)) then jp1 (fun (z5s : List Snetwork_event)=>y1G z1p z18 z1f z41 z3K z3L z7E zig (i64 (z2h + 1)) z5s) fun zfx=>chk ((0 : Int) ≤ z2h ∧ z2h < (((nth z1p ((nth z18 z1f).fVL)).length : Nat) : Int)) (if decide (((nth (nth z1p ((nth z18 z1f).fVL)) z2h).fNode) = z41) then (y22 z3w (⟨z3K,z3L,((nth z18 z1f).fVL),z1f,(⟨((nth (nth z1p ((nth z18 z1f).fVL)) z2h).fNode),((nth (nth z1p ((nth z18 z1f).fVL)) z2h).fNext),((nth (nth z1p ((nth z18 z1f).fVL)) z2h).fLink)⟩ : Sapi_Hop)⟩ : Snetwork_event)).bind fun zih=>zfx zih else zfx z3w) else z7E z3w
theorem y57 {n : Nat} {z1p : List (List Sapi_Hop)} {z18 : List zSt} {z1f : Int} {z41 : Int} {z3K : Int} {z3L : Int} {z7E : (List Snetwork_event) → Option (List Snetwork_event)} {z2h : Int} {z3w : List Snetwork_event} {r : List Snetwork_event} (h : y1G z1p z18 z1f z41 z3K z3L z7E n z2h z3w = some r) : ∃ m,n = m + 1:=by
 cases n with
 | zero=>cases h
 | succ m=>exact ⟨m,rfl⟩
def y2l (zC : Sapi_Config) (z1p : List (List Sapi_Hop)) (z18 : List zSt) (zii : List (Snetwork_exit × Sport_Port)) (z2K : List Snetwork_event) (z4S : List Sapi_Come) (z4T : List Sapi_Come) (z41 : Int) (z3K : Int) (z3L : Int) (z1f : Int) : Option (List Snetwork_event) :=
 chk ((0 : Int) ≤ z1f ∧ z1f < ((z18.length : Nat) : Int)) (chk ((0 : Int) ≤ ((nth z18 z1f).fVL) ∧ ((nth z18 z1f).fVL) < ((z1p.length : Nat) : Int)) (jp1 (fun (z60 : List Snetwork_event)=>some z60) fun z7E=>y1G z1p z18 z1f z41 z3K z3L z7E ys 0 z2K))
set_option maxRecDepth 20000 in
theorem y4V (Z : Zp) (z42 : Nat) (z61 : Option Addr) (z62 : Nat) (z63 : Option Addr) (z64 : Nat) (z65 : Option Addr) (z66 : Nat) (z67 : Option Addr) (z68 : Nat) (z69 : Option Addr) (z6a : Nat) (z6b : Option Addr) (z6c : Nat) (z6d : Option Addr) (z6e : Nat) (z6f : Option Addr) (z6g : Nat) (z6h : Option Addr) (z6i : Nat) (z6j : Option Addr) (z6k : Nat) (z31 : Nat) (z2L : List (Snetwork_exit × ((Nat × (Option Addr × Nat)) × Sport_Port))) (z5t : Option Addr) (z5u : Nat) (z6l : Option Addr) (z6m : Nat) (z6n : Option Addr) (z6o : Nat) (zC : Sapi_Config) (z1p : List (List Sapi_Hop)) (z18 : List zSt) (zii : List (Snetwork_exit × Sport_Port)) (z2K : List Snetwork_event) (z4S : List Sapi_Come) (z4T : List Sapi_Come) (z41 : Int) (z3K : Int) (z3L : Int) (z1f : Int) (r : List Snetwork_event)
  (h : y2l zC z1p z18 zii z2K z4S z4T z41 z3K z3L z1f = some r) (w₀ : World) (hz : PZ (fps [stb z42 81 [(.slice z61 zC.fModules.length z62),(.slice z63 zC.fChannels.length z64),(.slice z65 zC.fSwitches.length z66),(.slice z67 zC.fLinks.length z68),(.slice z69 zC.fVLs.length z6a),(.slice z6b zC.fHealth.length z6c),(.slice z6d zC.fCauses.length z6e),(.slice z6f zC.fVersions.length z6g),(.slice z6h z1p.length z6i),(.slice z6j z18.length z6k),(.map (some z31)),(.slice z5t z2K.length z5u),(.slice z6l z4S.length z6m),(.slice z6n z4T.length z6o)],yI z31 (fun x=>Value.agg (y1V x).toArray) Value.pointer (y1o z2L),y1n z1e z2L,row (.slice z5t z2K.length z5u) 113 7 (z2K.flatMap yA)]) w₀ Z)
  (zyj : ZS Z 4 (y2I Z) z61 z62 zC.fModules)
  (zyk : ZS Z 4 (y31 Z) z63 z64 zC.fChannels)
  (zyl : ZS Z 4 (fun r x=>r = e64 x) z65 z66 zC.fSwitches)
  (zym : ZS Z 4 (fun r x=>r = e62 x) z67 z68 zC.fLinks)
  (zyn : ZS Z 7 (y2S Z) z69 z6a zC.fVLs)
  (zyo : ZS Z 5 (fun r x=>r = y3g x) z6b z6c zC.fHealth)
  (zyp : ZS Z 3 (y32 Z) z6d z6e zC.fCauses)
  (zyq : ZS Z 4 (fun r x=>r = y3h x) z6f z6g zC.fVersions)
  (zrU : ZS Z 1 (p55 Z) z6h z6i z1p)
  (zrV : ZS Z 3 (fun r x=>r = e53 x) z6j z6k z18)
  (zyr : dat z2L = zii)
  (zys : ZS Z 3 (fun r x=>r = e50 x) z6l z6m z4S)
  (zyt : ZS Z 3 (fun r x=>r = e50 x) z6n z6o z4T)
  (hown : Hp (fps [stb z42 81 [(.slice z61 zC.fModules.length z62),(.slice z63 zC.fChannels.length z64),(.slice z65 zC.fSwitches.length z66),(.slice z67 zC.fLinks.length z68),(.slice z69 zC.fVLs.length z6a),(.slice z6b zC.fHealth.length z6c),(.slice z6d zC.fCauses.length z6e),(.slice z6f zC.fVersions.length z6g),(.slice z6h z1p.length z6i),(.slice z6j z18.length z6k),(.map (some z31)),(.slice z5t z2K.length z5u),(.slice z6l z4S.length z6m),(.slice z6n z4T.length z6o)],yI z31 (fun x=>Value.agg (y1V x).toArray) Value.pointer (y1o z2L),y1n z1e z2L,row (.slice z5t z2K.length z5u) 113 7 (z2K.flatMap yA)]) w₀ w₀ [stb z42 81 [(.slice z61 zC.fModules.length z62),(.slice z63 zC.fChannels.length z64),(.slice z65 zC.fSwitches.length z66),(.slice z67 zC.fLinks.length z68),(.slice z69 zC.fVLs.length z6a),(.slice z6b zC.fHealth.length z6c),(.slice z6d zC.fCauses.length z6e),(.slice z6f zC.fVersions.length z6g),(.slice z6h z1p.length z6i),(.slice z6j z18.length z6k),(.map (some z31)),(.slice z5t z2K.length z5u),(.slice z6l z4S.length z6m),(.slice z6n z4T.length z6o)],yI z31 (fun x=>Value.agg (y1V x).toArray) Value.pointer (y1o z2L),y1n z1e z2L,row (.slice z5t z2K.length z5u) 113 7 (z2K.flatMap yA)]) :
  Calls Try.prog 25 #[(.pointer (some ⟨z42,0,none⟩)),(.int .i64 z41),(.int .i64 z3K),(.int .i64 z3L),(.int .i64 z1f)] w₀ fun e w'=>∃ zmO : Option Addr,∃ zmP : Nat,e = .returned (.tuple #[]) ∧ True ∧ Hp (fps [stb z42 81 [(.slice z61 zC.fModules.length z62),(.slice z63 zC.fChannels.length z64),(.slice z65 zC.fSwitches.length z66),(.slice z67 zC.fLinks.length z68),(.slice z69 zC.fVLs.length z6a),(.slice z6b zC.fHealth.length z6c),(.slice z6d zC.fCauses.length z6e),(.slice z6f zC.fVersions.length z6g),(.slice z6h z1p.length z6i),(.slice z6j z18.length z6k),(.map (some z31)),(.slice z5t z2K.length z5u),(.slice z6l z4S.length z6m),(.slice z6n z4T.length z6o)],yI z31 (fun x=>Value.agg (y1V x).toArray) Value.pointer (y1o z2L),y1n z1e z2L,row (.slice z5t z2K.length z5u) 113 7 (z2K.flatMap yA)]) w₀ w' [stb z42 81 [(.slice z61 zC.fModules.length z62),(.slice z63 zC.fChannels.length z64),(.slice z65 zC.fSwitches.length z66),(.slice z67 zC.fLinks.length z68),(.slice z69 zC.fVLs.length z6a),(.slice z6b zC.fHealth.length z6c),(.slice z6d zC.fCauses.length z6e),(.slice z6f zC.fVersions.length z6g),(.slice z6h z1p.length z6i),(.slice z6j z18.length z6k),(.map (some z31)),(.slice zmO r.length zmP),(.slice z6l z4S.length z6m),(.slice z6n z4T.length z6o)],row (.slice zmO r.length zmP) 113 7 (r.flatMap yA),yI z31 (fun x=>Value.agg (y1V x).toArray) Value.pointer (y1o z2L),y1n z1e z2L]:=by
 unfold y2l at h
 refine Calls.yo (vs:=[(.pointer (some ⟨z42,0,none⟩)),(.int .i64 z41),(.int .i64 z3K),(.int .i64 z3L),(.int .i64 z1f)]) (pre:=[stb z42 81 [(.slice z61 zC.fModules.length z62),(.slice z63 zC.fChannels.length z64),(.slice z65 zC.fSwitches.length z66),(.slice z67 zC.fLinks.length z68),(.slice z69 zC.fVLs.length z6a),(.slice z6b zC.fHealth.length z6c),(.slice z6d zC.fCauses.length z6e),(.slice z6f zC.fVersions.length z6g),(.slice z6h z1p.length z6i),(.slice z6j z18.length z6k),(.map (some z31)),(.slice z5t z2K.length z5u),(.slice z6l z4S.length z6m),(.slice z6n z4T.length z6o)],yI z31 (fun x=>Value.agg (y1V x).toArray) Value.pointer (y1o z2L),y1n z1e z2L,row (.slice z5t z2K.length z5u) 113 7 (z2K.flatMap yA)]) (env:=[(0,(.pointer (some ⟨z42,0,none⟩))),(1,(.int .i64 z41)),(2,(.int .i64 z3K)),(3,(.int .i64 z3L)),(4,(.int .i64 z1f))]) Try.func25 rfl Try.ntmps25 rfl (hown) rfl ?_
 refine WC.b ?_
 obtain ⟨zrW,h⟩:=yi h
 refine WC.a (WL.pu rfl ?_)
 refine WL.a (d:=14) rfl rfl rfl (yw rfl) ?_
 refine WL.a (d:=15) rfl rfl rfl (ya y9M rfl rfl) ?_
 refine WL.a (d:=16) rfl rfl rfl (yb y9N rfl (yd .here rfl)) ?_
 refine WL.pu rfl ?_
 refine WL.znth (dd:=18) rfl rfl (Z:=Z) (Pr:=(fun r x=>r = e53 x)) y43 rfl rfl zrV zrW ?_
 rintro zyu zyv zrX zyw rfl
 refine WL.a (d:=19) rfl rfl rfl (ya y4E rfl rfl) ?_
 refine WL.a (d:=20) rfl rfl rfl (yb yh rfl (y2h hz.pv zrX rfl)) ?_
 refine WL.pu rfl (WL.nil (WX.a (WC.b ?_)))
 obtain ⟨zrY,h⟩:=yi h
 refine WC.a (WL.pu rfl ?_)
 refine WL.a (d:=22) rfl rfl rfl (yw rfl) ?_
 refine WL.a (d:=23) rfl rfl rfl (ya fo_81_1 rfl rfl) ?_
 refine WL.a (d:=24) rfl rfl rfl (yb oneT_32 rfl (yd .here rfl)) ?_
 refine WL.pu rfl ?_
 refine WL.znth (dd:=26) rfl rfl (Z:=Z) (Pr:=(p55 Z)) y65 rfl rfl zrU zrY ?_
 rintro zyx zyy zrZ zyz ⟨zmQ,zmR,rfl,zs0⟩
 refine WL.a (d:=27) rfl rfl rfl (yb y66 rfl (rd_z hz.pv zrZ rfl)) ?_
 refine WL.a (d:=28) rfl rfl rfl (yZ Try.underlying55 rfl) ?_
 refine WL.pu rfl (WL.nil (WX.a ?_))
 obtain ⟨z7E,zs1,h⟩:=y1b h
 refine WC.mid3 (fun (z60 : List Snetwork_event) (zbn : Option Addr) (zbo : Nat)=>(z7E z60 = some r)) (fun (z60 : List Snetwork_event) (zbn : Option Addr) (zbo : Nat)=>[]) (fun (z60 : List Snetwork_event) (zbn : Option Addr) (zbo : Nat)=>[row (.slice zbn z60.length zbo) 113 7 (z60.flatMap yA),stb z42 81 [(.slice z61 zC.fModules.length z62),(.slice z63 zC.fChannels.length z64),(.slice z65 zC.fSwitches.length z66),(.slice z67 zC.fLinks.length z68),(.slice z69 zC.fVLs.length z6a),(.slice z6b zC.fHealth.length z6c),(.slice z6d zC.fCauses.length z6e),(.slice z6f zC.fVersions.length z6g),(.slice z6h z1p.length z6i),(.slice z6j z18.length z6k),(.map (some z31)),(.slice zbn z60.length zbo),(.slice z6l z4S.length z6m),(.slice z6n z4T.length z6o)],yI z31 (fun x=>Value.agg (y1V x).toArray) Value.pointer (y1o z2L),y1n z1e z2L]) ?_ ?_
 ·skip
  refine WC.block ?_
  refine WC.y6q (fun (zbp : Nat) (z2h : Int) (z3w : List Snetwork_event) (z8t : Option Addr) (z8u : Nat)=>(y1G z1p z18 z1f z41 z3K z3L z7E zbp z2h z3w = some r)) (fun (zbp : Nat) (z2h : Int) (z3w : List Snetwork_event) (z8t : Option Addr) (z8u : Nat)=>[(0,(.pointer (some ⟨z42,0,none⟩))),(1,(.int .i64 z41)),(2,(.int .i64 z3K)),(3,(.int .i64 z3L)),(4,(.int .i64 z1f)),(10,(.int .i64 ((nth z18 z1f).fVL))),(27,(.slice zmQ ((nth z1p ((nth z18 z1f).fVL)).length) zmR)),(28,(.int .i64 (((nth z1p ((nth z18 z1f).fVL)).length : Nat) : Int))),(29,(.int .i64 z2h))]) (fun (zbp : Nat) (z2h : Int) (z3w : List Snetwork_event) (z8t : Option Addr) (z8u : Nat)=>[row (.slice z8t z3w.length z8u) 113 7 (z3w.flatMap yA),stb z42 81 [(.slice z61 zC.fModules.length z62),(.slice z63 zC.fChannels.length z64),(.slice z65 zC.fSwitches.length z66),(.slice z67 zC.fLinks.length z68),(.slice z69 zC.fVLs.length z6a),(.slice z6b zC.fHealth.length z6c),(.slice z6d zC.fCauses.length z6e),(.slice z6f zC.fVersions.length z6g),(.slice z6h z1p.length z6i),(.slice z6j z18.length z6k),(.map (some z31)),(.slice z8t z3w.length z8u),(.slice z6l z4S.length z6m),(.slice z6n z4T.length z6o)],yI z31 (fun x=>Value.agg (y1V x).toArray) Value.pointer (y1o z2L),y1n z1e z2L]) (fun (zbp : Nat) (z2h : Int) (z3w : List Snetwork_event) (z8t : Option Addr) (z8u : Nat)=>zbp) ⟨ys,0,z2K,z5t,z5u⟩ h (.cons rfl (.cons rfl (.cons rfl (.cons rfl (.cons rfl (.cons rfl (.cons rfl (.cons rfl (.cons rfl .nil))))))))) (.cons .h3 (.cons .here (.cons .here (.cons .here .nil)))) ?_
  rintro zbp z2h z3w z8t z8u h
  obtain ⟨zig,rfl⟩:=y57 h
  rw [y1G] at h
  refine WC.b (WC.a (WL.pu rfl (WL.nil (WX.a (WC.b ?_)))))
  refine WC.cond rfl (fun zij=>?_) (fun zij=>?_)
  ·replace h:=yk h zij
   refine WC.skip (WX.a ?_)
   obtain ⟨zfx,zs2,h⟩:=y1b h
   refine WC.y3Y (fun (z5s : List Snetwork_event) (zbq : Option Addr) (zbr : Nat)=>(zfx z5s = some r)) (fun (z5s : List Snetwork_event) (zbq : Option Addr) (zbr : Nat)=>[(0,(.pointer (some ⟨z42,0,none⟩))),(1,(.int .i64 z41)),(2,(.int .i64 z3K)),(3,(.int .i64 z3L)),(4,(.int .i64 z1f)),(10,(.int .i64 ((nth z18 z1f).fVL))),(27,(.slice zmQ ((nth z1p ((nth z18 z1f).fVL)).length) zmR)),(28,(.int .i64 (((nth z1p ((nth z18 z1f).fVL)).length : Nat) : Int))),(29,(.int .i64 z2h))]) (fun (z5s : List Snetwork_event) (zbq : Option Addr) (zbr : Nat)=>[row (.slice zbq z5s.length zbr) 113 7 (z5s.flatMap yA),stb z42 81 [(.slice z61 zC.fModules.length z62),(.slice z63 zC.fChannels.length z64),(.slice z65 zC.fSwitches.length z66),(.slice z67 zC.fLinks.length z68),(.slice z69 zC.fVLs.length z6a),(.slice z6b zC.fHealth.length z6c),(.slice z6d zC.fCauses.length z6e),(.slice z6f zC.fVersions.length z6g),(.slice z6h z1p.length z6i),(.slice z6j z18.length z6k),(.map (some z31)),(.slice zbq z5s.length zbr),(.slice z6l z4S.length z6m),(.slice z6n z4T.length z6o)],yI z31 (fun x=>Value.agg (y1V x).toArray) Value.pointer (y1o z2L),y1n z1e z2L]) ?_ ?_
   ·skip
    refine WC.block (WC.b ?_)
    obtain ⟨zs3,h⟩:=yi h
    refine WC.a ?_
    refine WL.znth (dd:=31) rfl rfl (Z:=Z) (Pr:=(fun r x=>r = e59 x)) y67 rfl rfl zs0 zs3 ?_
    rintro zyA zyB zs4 zyC rfl
    refine WL.a (d:=32) rfl rfl rfl (yD y68 rfl (y3p hz.pv zs4) rfl) ?_
    refine WL.new (dd:=12) rfl rfl rfl (y1Y (cs:=[(.int .i64 0),(.int .i64 0),(.int .i64 0)]) y7w rfl) ?_
    intro zyD _
    refine WL.y1g rfl rfl (y1A y8e rfl rfl rfl .here rfl rfl rfl) ?_
    refine WL.nil (WX.a (WC.b (WC.a ?_)))
    refine WL.a (d:=33) rfl rfl rfl (ya y39 rfl rfl) ?_
    refine WL.a (d:=34) rfl rfl rfl (yb yh rfl (yd .here rfl)) ?_
    refine WL.pu rfl (WL.pu rfl (WL.nil (WX.a ?_)))
    refine WC.cond rfl (fun zik=>?_) (fun zik=>?_)
    ·replace h:=yk h zik
     obtain ⟨zih,zs5,h⟩:=zn h
     refine WC.y12 (fun i=>[11].contains i) [] rfl ?_
     refine WD.a (i:=0) (d:=37) (by kernel_rfl) rfl z2 z3 rfl rfl rfl (fun _=>q_m rfl) ?_
     refine WD.a (i:=1) (d:=38) (by kernel_rfl) rfl z2 z3 rfl rfl rfl (fun _=>yw rfl) ?_
     refine WD.a (i:=2) (d:=39) (by kernel_rfl) rfl z2 z3 rfl rfl rfl (fun _=>ya y8j rfl rfl) ?_
     refine WD.e (i:=3) (d:=40) (by kernel_rfl) rfl z2 z3 rfl rfl rfl (y5N Try.underlying111 rfl rfl) ?_
     refine WD.a (i:=4) (d:=41) (by kernel_rfl) rfl z2 z3 rfl rfl rfl (fun _=>q_m rfl) ?_
     refine WD.a (i:=5) (d:=42) (by kernel_rfl) rfl z2 z3 rfl rfl rfl (fun _=>q_m rfl) ?_
     refine WD.a (i:=6) (d:=43) (by kernel_rfl) rfl z2 z3 rfl rfl rfl (fun _=>q_m rfl) ?_
     refine WD.a (i:=7) (d:=44) (by kernel_rfl) rfl z2 z3 rfl rfl rfl (fun _=>q_m rfl) ?_
     refine WD.e (i:=8) (d:=45) (by kernel_rfl) rfl z2 z3 rfl rfl rfl (yD y68 rfl (y1h .here) rfl) ?_
     refine WD.a (i:=9) (d:=46) (by kernel_rfl) rfl z2 z3 rfl rfl rfl (fun _=>y1l (v:=(.agg #[(.int .i64 z3K),(.int .i64 z3L),(.int .i64 ((nth z18 z1f).fVL)),(.int .i64 z1f),(.int .i64 ((nth (nth z1p ((nth z18 z1f).fVL)) z2h).fNode)),(.int .i64 ((nth (nth z1p ((nth z18 z1f).fVL)) z2h).fNext)),(.int .i64 ((nth (nth z1p ((nth z18 z1f).fVL)) z2h).fLink))])) (Eos.parts (l:=[.tmp 41,.tmp 42,.tmp 43,.tmp 44,.tmp 45]) (.cons rfl (.cons rfl (.cons rfl (.cons rfl (.cons rfl .nil))))) [0,1,2,3,4]) (fun _=>by kernel_rfl)) ?_
     refine WD.e (i:=10) (d:=47) (by kernel_rfl) rfl z2 z3 rfl rfl rfl (y5N Try.underlying113 rfl rfl) ?_
     refine WD.call2 (i:=11) (dd:=48) rfl (by kernel_rfl) rfl rfl rfl (.inl ⟨rfl,fun _ _=>(Sin.of .nil)⟩) (zE (l:=[.tmp 40,.tmp 47]) Try.call38 (.cons rfl (.cons rfl .nil))) (.cons .h2 (.cons .h1 .nil)) (cc hz (.cons .h2 (.cons .h1 .nil)) fun w pz ho=>y5X _ _ _ _ _ _ _ _ _ _ _ _ _ _ _ _ _ _ _ _ zs5 w pz  ho) ?_
     rintro zs6 zs7 _
     refine WD.done (by kernel_rfl) ?_
     refine WX.yg ?_
     exact WX.mid (G:=List Snetwork_event × Option Addr × Nat) ⟨zih,zs6,zs7⟩ h (.cons rfl (.cons rfl (.cons rfl (.cons rfl (.cons rfl (.cons rfl (.cons rfl (.cons rfl (.cons rfl .nil))))))))) (.cons .h1 (.cons .here (.cons .h1 (.cons .h1 .nil))))
    ·replace h:=yl h zik
     refine WC.skip (WX.yg ?_)
     exact WX.mid (G:=List Snetwork_event × Option Addr × Nat) ⟨z3w,z8t,z8u⟩ h (.cons rfl (.cons rfl (.cons rfl (.cons rfl (.cons rfl (.cons rfl (.cons rfl (.cons rfl (.cons rfl .nil))))))))) (.cons .h1 (.cons .h1 (.cons .h1 (.cons .h1 .nil))))
   ·rintro z5s zbq zbr h
    replace h:=(zs2 z5s).symm.trans h
    refine WC.a (WL.pu rfl (WL.pu rfl (WL.nil ?_)))
    exact WX.round (G:=Nat × Int × List Snetwork_event × Option Addr × Nat) ⟨zig,(i64 (z2h + 1)),z5s,zbq,zbr⟩ h (Nat.lt_succ_self _) (.cons rfl (.cons rfl (.cons rfl (.cons rfl (.cons rfl (.cons rfl (.cons rfl (.cons rfl (.cons rfl .nil))))))))) (.cons .here (.cons .here (.cons .here (.cons .here .nil))))
  ·replace h:=yl h zij
   refine WC.exit (WX.yc (WX.yc (WX.yt ?_)))
   exact WX.mid (G:=List Snetwork_event × Option Addr × Nat) ⟨z3w,z8t,z8u⟩ h .nil (.cons .here (.cons .here (.cons .here (.cons .here .nil))))
 ·rintro z60 zbn zbo h
  replace h:=(zs1 z60).symm.trans h
  obtain rfl:=Option.some.inj h
  refine WX.y1Z Try.results25 .nil (fun w hw=>?_)
  exact ⟨zbn,zbo,y4u,trivial,hw.sub (.cons .h1 (.cons .here (.cons .here (.cons .here .nil))))⟩
def y1c (z3x : Int) (z6p : Int → (List Snetwork_event) → Option (Bool × List Snetwork_event)) : Nat → Int → (List Snetwork_event) → Option (Bool × List Snetwork_event)
 | 0,_,_=>none
 | zil + 1,z1I,z2i=>if (decide ((i64 ((i64 (2 * z1I)) + 1)) ≥ z3x)) || (decide ((i64 ((i64 (2 * z1I)) + 1)) < 0)) then z6p z1I z2i else jp1 (fun (z5v : Int)=>(y1x z2i z5v z1I).bind fun zmS=>if !zmS then z6p z1I z2i else (y1y z2i z1I z5v).bind fun zfy=>y1c z3x z6p zil z5v zfy) fun zfz=>(if decide ((i64 ((i64 ((i64 (2 * z1I)) + 1)) + 1)) < z3x) then (y1x z2i (i64 ((i64 ((i64 (2 * z1I)) + 1)) + 1)) (i64 ((i64 (2 * z1I)) + 1))).bind fun zmT=>some zmT else some false).bind fun zim=>if zim then zfz (i64 ((i64 ((i64 (2 * z1I)) + 1)) + 1)) else zfz (i64 ((i64 (2 * z1I)) + 1))
theorem y4N {n : Nat} {z3x : Int} {z6p : Int → (List Snetwork_event) → Option (Bool × List Snetwork_event)} {z1I : Int} {z2i : List Snetwork_event} {r : Bool × List Snetwork_event} (h : y1c z3x z6p n z1I z2i = some r) : ∃ m,n = m + 1:=by
 cases n with
 | zero=>cases h
 | succ m=>exact ⟨m,rfl⟩
def y2o (z2j : List Snetwork_event) (i0_9330 : Int) (z3x : Int) : Option (Bool × List Snetwork_event) :=
 jp2 (fun (z8v : Int) (z5w : List Snetwork_event)=>some ((decide (z8v > i0_9330)),z5w)) fun z6p=>y1c z3x z6p ys i0_9330 z2j
set_option maxRecDepth 20000 in
theorem y5Y (Z : Zp) (z43 : Nat) (z2M : Option Addr) (z2N : Nat) (z6q : Value) (z6r : Value) (z6s : Value) (z6t : Value) (z6u : Value) (z6v : Value) (z6w : Value) (z6x : Value) (z6y : Value) (z6z : Value) (z6A : Value) (z6B : Value) (z6C : Value) (z2j : List Snetwork_event) (i0_9330 : Int) (z3x : Int) (r : Bool × List Snetwork_event)
  (h : y2o z2j i0_9330 z3x = some r) (w₀ : World) (hz : PZ (fps [stb z43 81 [z6q,z6r,z6s,z6t,z6u,z6v,z6w,z6x,z6y,z6z,z6A,(.slice z2M z2j.length z2N),z6B,z6C],row (.slice z2M z2j.length z2N) 113 7 (z2j.flatMap yA)]) w₀ Z)
  (hown : Hp (fps [stb z43 81 [z6q,z6r,z6s,z6t,z6u,z6v,z6w,z6x,z6y,z6z,z6A,(.slice z2M z2j.length z2N),z6B,z6C],row (.slice z2M z2j.length z2N) 113 7 (z2j.flatMap yA)]) w₀ w₀ [stb z43 81 [z6q,z6r,z6s,z6t,z6u,z6v,z6w,z6x,z6y,z6z,z6A,(.slice z2M z2j.length z2N),z6B,z6C],row (.slice z2M z2j.length z2N) 113 7 (z2j.flatMap yA)]) :
  Calls Try.prog 51 #[(.iface 111 (.pointer (some ⟨z43,11,none⟩))),(.int .i64 i0_9330),(.int .i64 z3x)] w₀ fun e w'=>e = .returned (.bool r.1) ∧ (r.2.length = z2j.length) ∧ Hp (fps [stb z43 81 [z6q,z6r,z6s,z6t,z6u,z6v,z6w,z6x,z6y,z6z,z6A,(.slice z2M z2j.length z2N),z6B,z6C],row (.slice z2M z2j.length z2N) 113 7 (z2j.flatMap yA)]) w₀ w' [stb z43 81 [z6q,z6r,z6s,z6t,z6u,z6v,z6w,z6x,z6y,z6z,z6A,(.slice z2M r.2.length z2N),z6B,z6C],row (.slice z2M r.2.length z2N) 113 7 (r.2.flatMap yA)]:=by
 unfold y2o at h
 refine Calls.yo (vs:=[(.iface 111 (.pointer (some ⟨z43,11,none⟩))),(.int .i64 i0_9330),(.int .i64 z3x)]) (pre:=[stb z43 81 [z6q,z6r,z6s,z6t,z6u,z6v,z6w,z6x,z6y,z6z,z6A,(.slice z2M z2j.length z2N),z6B,z6C],row (.slice z2M z2j.length z2N) 113 7 (z2j.flatMap yA)]) (env:=[(0,(.iface 111 (.pointer (some ⟨z43,11,none⟩)))),(1,(.int .i64 i0_9330)),(2,(.int .i64 z3x))]) Try.func51 rfl Try.ntmps51 rfl (hown) rfl ?_
 refine WC.b (WC.a (WL.pu rfl (WL.nil (WX.a (WC.b (WC.a (WL.pu rfl (WL.pu rfl (WL.nil (WX.a ?_))))))))))
 obtain ⟨z6p,zs8,h⟩:=y2i h
 refine WC.y2q (fun (z8v : Int) (z5w : List Snetwork_event)=>(z6p z8v z5w = some r) ∧ (z5w.length = z2j.length)) (fun (z8v : Int) (z5w : List Snetwork_event)=>[(1,(.int .i64 i0_9330)),(7,(.int .i64 z8v))]) (fun (z8v : Int) (z5w : List Snetwork_event)=>[row (.slice z2M z5w.length z2N) 113 7 (z5w.flatMap yA),stb z43 81 [z6q,z6r,z6s,z6t,z6u,z6v,z6w,z6x,z6y,z6z,z6A,(.slice z2M z5w.length z2N),z6B,z6C]]) ?_ ?_
 ·skip
  refine WC.block ?_
  refine WC.y2r (fun (zbs : Nat) (z1I : Int) (z2i : List Snetwork_event)=>(y1c z3x z6p zbs z1I z2i = some r) ∧ (z2i.length = z2j.length)) (fun (zbs : Nat) (z1I : Int) (z2i : List Snetwork_event)=>[(0,(.iface 111 (.pointer (some ⟨z43,11,none⟩)))),(1,(.int .i64 i0_9330)),(2,(.int .i64 z3x)),(7,(.int .i64 z1I))]) (fun (zbs : Nat) (z1I : Int) (z2i : List Snetwork_event)=>[row (.slice z2M z2i.length z2N) 113 7 (z2i.flatMap yA),stb z43 81 [z6q,z6r,z6s,z6t,z6u,z6v,z6w,z6x,z6y,z6z,z6A,(.slice z2M z2i.length z2N),z6B,z6C]]) (fun (zbs : Nat) (z1I : Int) (z2i : List Snetwork_event)=>zbs) ⟨ys,i0_9330,z2j⟩ ⟨h,rfl⟩ (.cons rfl (.cons rfl (.cons rfl (.cons rfl .nil)))) (.cons .h1 (.cons .here .nil)) ?_
  rintro zbs z1I z2i ⟨h,zin⟩
  obtain ⟨zil,rfl⟩:=y4N h
  rw [y1c] at h
  refine WC.block (WC.b (WC.a (WL.pu rfl (WL.pu rfl (WL.pu rfl (WL.pu rfl (WL.nil (WX.a (WC.b (WC.b (WC.a (WL.pu rfl (WL.pu rfl (WL.pu rfl (WL.pu rfl ?_)))))))))))))))
  refine WL.seg false 2 18 (B:=(decide ((i64 ((i64 (2 * z1I)) + 1)) ≥ z3x)) || (decide ((i64 ((i64 (2 * z1I)) + 1)) < 0))) rfl rfl rfl rfl rfl rfl (fun h=>(y2m h).symm) (fun _ zs9=>?_) ?_
  ·skip
   refine WL.pu rfl (WL.pu rfl (WL.pu rfl ?_))
   exact WL.yz (y2n zs9) rfl rfl .all
  refine WL.nil (WX.a ?_)
  refine WC.cond rfl (fun zio=>?_) (fun zio=>?_)
  ·replace h:=yk h zio
   refine WC.exit (WX.yc (WX.y5s rfl (WX.yc (WX.yt ?_))))
   exact WX.mid (G:=Int × List Snetwork_event) ⟨z1I,z2i⟩ ⟨h,zin⟩ (.cons rfl (.cons rfl .nil)) (.cons .here (.cons .here .nil))
  ·replace h:=yl h zio
   refine WC.skip (WX.a (WC.b (WC.a (WL.pu rfl (WL.pu rfl (WL.nil (WX.a ?_)))))))
   obtain ⟨zfz,zsa,h⟩:=y1b h
   refine WC.y1K (fun (z5v : Int)=>(zfz z5v = some r)) (fun (z5v : Int)=>[(0,(.iface 111 (.pointer (some ⟨z43,11,none⟩)))),(1,(.int .i64 i0_9330)),(2,(.int .i64 z3x)),(7,(.int .i64 z1I)),(9,(.int .i64 z5v))]) (fun (z5v : Int)=>[row (.slice z2M z2i.length z2N) 113 7 (z2i.flatMap yA),stb z43 81 [z6q,z6r,z6s,z6t,z6u,z6v,z6w,z6x,z6y,z6z,z6A,(.slice z2M z2i.length z2N),z6B,z6C]]) ?_ ?_
   ·skip
    refine WC.b (WC.a (WL.pu rfl (WL.pu rfl (WL.pu rfl (WL.nil (WX.a (WC.b ?_)))))))
    obtain ⟨zim,zmU,h⟩:=zn h
    refine WC.a (WL.pu rfl (WL.pu rfl (WL.pu rfl (WL.pu rfl ?_))))
    refine WL.seg true 4 28 (B:=zim) rfl rfl rfl rfl rfl rfl (fun h=>(Option.some.inj (yl zmU h)).symm) (fun _ zsb=>?_) ?_
    ·skip
     have ze6:=yk zmU zsb
     obtain ⟨zmT,zsc,ze6⟩:=zn ze6
     replace ze6:=Option.some.inj ze6
     refine WL.pu rfl (WL.pu rfl (WL.pu rfl ?_))
     refine WL.b (dd:=32) rfl rfl rfl (y36 (l:=[.tmp 30,.tmp 31]) (y5w) Try.call87 rfl (yd .h1 rfl) (.cons rfl (.cons rfl .nil))) .nil (ccl hz .nil (.cons .here .nil) fun w pz ho la=>y3K _ _ _ _ _ _ _ zsc w pz (ZA.row (la _ (.head _) _) (RR.y16 (enc:=yA) (fun _=>rfl) _) ⟨w,pz.1⟩)) ?_
     refine WL.pu rfl ?_
     exact WL.yz ze6 rfl rfl .all
    refine WL.nil (WX.a ?_)
    refine WC.cond rfl (fun ziq=>?_) (fun ziq=>?_)
    ·replace h:=yk h ziq
     refine WC.a (WL.pu rfl (WL.pu rfl (WL.nil ?_)))
     exact WX.mid (G:=Int) (i64 ((i64 ((i64 (2 * z1I)) + 1)) + 1)) h (.cons rfl (.cons rfl (.cons rfl (.cons rfl (.cons rfl .nil))))) (.cons .here (.cons .here .nil))
    ·replace h:=yl h ziq
     refine WC.skip ?_
     exact WX.mid (G:=Int) (i64 ((i64 (2 * z1I)) + 1)) h (.cons rfl (.cons rfl (.cons rfl (.cons rfl (.cons rfl .nil))))) (.cons .here (.cons .here .nil))
   ·rintro z5v h
    replace h:=(zsa z5v).symm.trans h
    refine WC.b (WC.b ?_)
    obtain ⟨zmS,zsd,h⟩:=zn h
    refine WC.a (WL.pu rfl (WL.pu rfl (WL.pu rfl ?_)))
    refine WL.b (dd:=38) rfl rfl rfl (y36 (l:=[.tmp 36,.tmp 37]) (y5w) Try.call87 rfl (yd .h1 rfl) (.cons rfl (.cons rfl .nil))) .nil (ccl hz .nil (.cons .here .nil) fun w pz ho la=>y3K _ _ _ _ _ _ _ zsd w pz (ZA.row (la _ (.head _) _) (RR.y16 (enc:=yA) (fun _=>rfl) _) ⟨w,pz.1⟩)) ?_
    refine WL.pu rfl (WL.nil (WX.a ?_))
    refine WC.cond rfl (fun zir=>?_) (fun zir=>?_)
    ·replace h:=yk h zir
     refine WC.exit (WX.yc (WX.y5s rfl (WX.yc (WX.yt ?_))))
     exact WX.mid (G:=Int × List Snetwork_event) ⟨z1I,z2i⟩ ⟨h,zin⟩ (.cons rfl (.cons rfl .nil)) (.cons .here (.cons .here .nil))
    ·replace h:=yl h zir
     refine WC.skip (WX.a (WC.b ?_))
     obtain ⟨zfy,zse,h⟩:=zn h
     refine WC.a (WL.pu rfl (WL.pu rfl (WL.pu rfl ?_)))
     refine WL.y1Q (dd:=43) rfl rfl rfl (y36 (l:=[.tmp 41,.tmp 42]) (y5x) Try.call88 rfl (yd .h1 rfl) (.cons rfl (.cons rfl .nil))) (.cons .here .nil) (cc hz (.cons .here .nil) fun w pz ho=>y3L _ _ _ _ _ _ _ zse w pz  ho) ?_
     rintro  zmV
     refine WL.restb (cs':=[z6q,z6r,z6s,z6t,z6u,z6v,z6w,z6x,z6y,z6z,z6A,(.slice z2M zfy.length z2N),z6B,z6C]) .h1 (by rw [zmV]) ?_
     refine WL.nil (WX.a (WC.a (WL.pu rfl (WL.pu rfl (WL.nil (WX.yg ?_))))))
     exact WX.round (G:=Nat × Int × List Snetwork_event) ⟨zil,z5v,zfy⟩ ⟨h,(zmV.trans zin)⟩ (Nat.lt_succ_self _) (.cons rfl (.cons rfl (.cons rfl (.cons rfl .nil)))) (.cons .h1 (.cons .here .nil))
 ·rintro z8v z5w ⟨h,zsf⟩
  replace h:=(zs8 z8v z5w).symm.trans h
  refine WC.b (WC.a (WL.pu rfl (WL.pu rfl (WL.pu rfl (WL.pu rfl (WL.nil (WX.a (WC.ret ?_))))))))
  obtain rfl:=Option.some.inj h
  refine WX.yj Try.results51 (.tmp rfl .nil) (fun w hw=>?_)
  exact ⟨y10 rfl,zsf,hw.sub (.cons .h1 (.cons .here .nil))⟩
def y2X (zW : List Snetwork_event) : Option Snetwork_event :=
 chk ((0 : Int) ≤ (i64 (((zW.length : Nat) : Int) - 1)) ∧ (i64 (((zW.length : Nat) : Int) - 1)) < ((zW.length : Nat) : Int)) (chk ((0 : Int) ≤ (i64 (((zW.length : Nat) : Int) - 1)) ∧ (i64 (((zW.length : Nat) : Int) - 1)) ≤ ((zW.length : Nat) : Int)) (some (⟨((nth zW (i64 (((zW.length : Nat) : Int) - 1))).fTime),((nth zW (i64 (((zW.length : Nat) : Int) - 1))).fIn_),((nth zW (i64 (((zW.length : Nat) : Int) - 1))).fVl),((nth zW (i64 (((zW.length : Nat) : Int) - 1))).fSent),(⟨(((nth zW (i64 (((zW.length : Nat) : Int) - 1))).fHop).fNode),(((nth zW (i64 (((zW.length : Nat) : Int) - 1))).fHop).fNext),(((nth zW (i64 (((zW.length : Nat) : Int) - 1))).fHop).fLink)⟩ : Sapi_Hop)⟩ : Snetwork_event)))
set_option maxRecDepth 20000 in
theorem y6h (Z : Zp) (z7F : Nat) (z6D : Option Addr) (z6E : Nat) (z9R : Value) (z9S : Value) (z9T : Value) (z9U : Value) (z9V : Value) (z9W : Value) (z9X : Value) (z9Y : Value) (z9Z : Value) (za0 : Value) (za1 : Value) (za2 : Value) (za3 : Value) (zW : List Snetwork_event) (r : Snetwork_event)
  (h : y2X zW = some r) (w₀ : World) (hz : PZ (fps [stb z7F 81 [z9R,z9S,z9T,z9U,z9V,z9W,z9X,z9Y,z9Z,za0,za1,(.slice z6D zW.length z6E),za2,za3],row (.slice z6D zW.length z6E) 113 7 (zW.flatMap yA)]) w₀ Z)
  (hown : Hp (fps [stb z7F 81 [z9R,z9S,z9T,z9U,z9V,z9W,z9X,z9Y,z9Z,za0,za1,(.slice z6D zW.length z6E),za2,za3],row (.slice z6D zW.length z6E) 113 7 (zW.flatMap yA)]) w₀ w₀ [stb z7F 81 [z9R,z9S,z9T,z9U,z9V,z9W,z9X,z9Y,z9Z,za0,za1,(.slice z6D zW.length z6E),za2,za3],row (.slice z6D zW.length z6E) 113 7 (zW.flatMap yA)]) :
  Calls Try.prog 91 #[(.pointer (some ⟨z7F,11,none⟩))] w₀ fun e w'=>∃ zmW : Option Addr,∃ zmX : Nat,e = .returned (.iface 113 (.agg #[(.int .i64 r.fTime),(.int .i64 r.fIn_),(.int .i64 r.fVl),(.int .i64 r.fSent),(.int .i64 r.fHop.fNode),(.int .i64 r.fHop.fNext),(.int .i64 r.fHop.fLink)])) ∧ True ∧ Hp (fps [stb z7F 81 [z9R,z9S,z9T,z9U,z9V,z9W,z9X,z9Y,z9Z,za0,za1,(.slice z6D zW.length z6E),za2,za3],row (.slice z6D zW.length z6E) 113 7 (zW.flatMap yA)]) w₀ w' [stb z7F 81 [z9R,z9S,z9T,z9U,z9V,z9W,z9X,z9Y,z9Z,za0,za1,(.slice zmW ((zW.take ((i64 (((zW.length : Nat) : Int) - 1)) : Int).toNat).length) zmX),za2,za3],row (.slice zmW ((zW.take ((i64 (((zW.length : Nat) : Int) - 1)) : Int).toNat).length) zmX) 113 7 ((zW.take ((i64 (((zW.length : Nat) : Int) - 1)) : Int).toNat).flatMap yA)]:=by
 unfold y2X at h
 refine Calls.yo (vs:=[(.pointer (some ⟨z7F,11,none⟩))]) (pre:=[stb z7F 81 [z9R,z9S,z9T,z9U,z9V,z9W,z9X,z9Y,z9Z,za0,za1,(.slice z6D zW.length z6E),za2,za3],row (.slice z6D zW.length z6E) 113 7 (zW.flatMap yA)]) (env:=[(0,(.pointer (some ⟨z7F,11,none⟩)))]) Try.func91 rfl Try.ntmps91 rfl (hown) rfl ?_
 refine WC.b (WC.a (WL.pu rfl (WL.nil (WX.a (WC.b (WC.a (WL.pu rfl ?_)))))))
 refine WL.a (d:=6) rfl rfl rfl (yw rfl) ?_
 refine WL.a (d:=7) rfl rfl rfl (yb y5l rfl (yd .here rfl)) ?_
 refine WL.pu rfl (WL.nil (WX.a (WC.b ?_)))
 obtain ⟨ze7,h⟩:=yi h
 refine WC.a (WL.pu rfl (WL.pu rfl ?_))
 refine WL.a (d:=10) rfl rfl rfl (yZ Try.underlying79 rfl) ?_
 refine WL.pu rfl ?_
 refine WL.know (fun w hw=>Hp.y2G .h1 hw (by intro hz'; have:=ze7; rw [hz'] at this; omega)) ?_
 rintro ⟨zyE,rfl⟩
 refine WL.a (d:=12) rfl rfl rfl (yu y4x rfl rfl ze7.1 ze7.2 y1f) ?_
 refine WL.a (d:=13) rfl rfl rfl (y1L (cs:=(yA (nth zW (i64 (((zW.length : Nat) : Int) - 1))))) zao rfl rfl (y1X .h1 (y1S (enc:=yA) (l:=zW) (i:=i64 (((zW.length : Nat) : Int) - 1)) (sz:=7) (fun _=>rfl) ze7.1 ze7.2))) ?_
 refine WL.new (dd:=4) rfl rfl rfl (y1Y (cs:=[(.int .i64 0),(.int .i64 0),(.int .i64 0),(.int .i64 0),(.int .i64 0),(.int .i64 0),(.int .i64 0)]) zkY rfl) ?_
 intro zyF _
 refine WL.y1g rfl rfl (y1A zf0 rfl rfl rfl .here rfl rfl rfl) ?_
 refine WL.nil (WX.a (WC.b ?_))
 obtain ⟨zsg,h⟩:=yi h
 refine WC.a (WL.pu rfl (WL.pu rfl (WL.pu rfl ?_)))
 refine WL.a (d:=17) rfl rfl rfl (yZ Try.underlying79 rfl) ?_
 refine WL.pu rfl ?_
 refine WL.y71 (dd:=19) (enc:=yA) (ls:=zW) rfl rfl y4x rfl rfl .h2 (fun _=>rfl) zsg ?_
 intro zmY zmZ
 refine WL.a (d:=20) rfl rfl rfl (yw rfl) ?_
 refine WL.y1g rfl rfl (y3Z (ds:=[z9R,z9S,z9T,z9U,z9V,z9W,z9X,z9Y,z9Z,za0,za1,(.slice zmY ((zW.take ((i64 (((zW.length : Nat) : Int) - 1)) : Int).toNat).length) zmZ),za2,za3]) y9O rfl rfl rfl rfl rfl .h2 rfl rfl) ?_
 refine WL.nil (WX.a (WC.b (WC.a ?_)))
 refine WL.a (d:=21) rfl rfl rfl (yD zao rfl (y1h .h2) rfl) ?_
 refine WL.a (d:=22) rfl rfl rfl (y5N Try.underlying113 rfl rfl) ?_
 refine WL.pu rfl (WL.nil (WX.a (WC.ret ?_)))
 obtain rfl:=Option.some.inj h
 refine WX.yj Try.results91 (.tmp rfl .nil) (fun w hw=>?_)
 exact ⟨zmY,zmZ,y10 rfl,trivial,hw.sub (.cons .here (.cons .here .nil))⟩
def y2u (z2O : List Snetwork_event) : Option (Snetwork_event × List Snetwork_event) :=
 (y2g z2O).bind fun zis=>(y1y z2O 0 (i64 (zis - 1))).bind fun zit=>(y2o zit 0 (i64 (zis - 1))).bind fun ze8=>(y2X ze8.2).bind fun zn0=>some (zn0,(ze8.2.take ((i64 (((ze8.2.length : Nat) : Int) - 1)) : Int).toNat))
set_option maxRecDepth 20000 in
theorem y6i (Z : Zp) (z7G : Nat) (z4U : Option Addr) (z4V : Nat) (z8w : Value) (z8x : Value) (z8y : Value) (z8z : Value) (z8A : Value) (z8B : Value) (z8C : Value) (z8D : Value) (z8E : Value) (z8F : Value) (z8G : Value) (z8H : Value) (z8I : Value) (z2O : List Snetwork_event) (r : Snetwork_event × List Snetwork_event)
  (h : y2u z2O = some r) (w₀ : World) (hz : PZ (fps [stb z7G 81 [z8w,z8x,z8y,z8z,z8A,z8B,z8C,z8D,z8E,z8F,z8G,(.slice z4U z2O.length z4V),z8H,z8I],row (.slice z4U z2O.length z4V) 113 7 (z2O.flatMap yA)]) w₀ Z)
  (hown : Hp (fps [stb z7G 81 [z8w,z8x,z8y,z8z,z8A,z8B,z8C,z8D,z8E,z8F,z8G,(.slice z4U z2O.length z4V),z8H,z8I],row (.slice z4U z2O.length z4V) 113 7 (z2O.flatMap yA)]) w₀ w₀ [stb z7G 81 [z8w,z8x,z8y,z8z,z8A,z8B,z8C,z8D,z8E,z8F,z8G,(.slice z4U z2O.length z4V),z8H,z8I],row (.slice z4U z2O.length z4V) 113 7 (z2O.flatMap yA)]) :
  Calls Try.prog 39 #[(.iface 111 (.pointer (some ⟨z7G,11,none⟩)))] w₀ fun e w'=>∃ zn1 : Option Addr,∃ zn2 : Nat,e = .returned (.iface 113 (.agg #[(.int .i64 r.1.fTime),(.int .i64 r.1.fIn_),(.int .i64 r.1.fVl),(.int .i64 r.1.fSent),(.int .i64 r.1.fHop.fNode),(.int .i64 r.1.fHop.fNext),(.int .i64 r.1.fHop.fLink)])) ∧ True ∧ Hp (fps [stb z7G 81 [z8w,z8x,z8y,z8z,z8A,z8B,z8C,z8D,z8E,z8F,z8G,(.slice z4U z2O.length z4V),z8H,z8I],row (.slice z4U z2O.length z4V) 113 7 (z2O.flatMap yA)]) w₀ w' [stb z7G 81 [z8w,z8x,z8y,z8z,z8A,z8B,z8C,z8D,z8E,z8F,z8G,(.slice zn1 r.2.length zn2),z8H,z8I],row (.slice zn1 r.2.length zn2) 113 7 (r.2.flatMap yA)]:=by
 unfold y2u at h
 refine Calls.yo (vs:=[(.iface 111 (.pointer (some ⟨z7G,11,none⟩)))]) (pre:=[stb z7G 81 [z8w,z8x,z8y,z8z,z8A,z8B,z8C,z8D,z8E,z8F,z8G,(.slice z4U z2O.length z4V),z8H,z8I],row (.slice z4U z2O.length z4V) 113 7 (z2O.flatMap yA)]) (env:=[(0,(.iface 111 (.pointer (some ⟨z7G,11,none⟩))))]) Try.func39 rfl Try.ntmps39 rfl (hown) rfl ?_
 refine WC.b (WC.a (WL.pu rfl (WL.nil (WX.a (WC.b ?_)))))
 obtain ⟨zis,zsh,h⟩:=zn h
 refine WC.a (WL.pu rfl ?_)
 refine WL.b (dd:=5) rfl rfl rfl (y36 (l:=[]) (y7p) Try.call86 rfl (yd .here rfl) .nil) .nil (ccl hz .nil (.cons .h1 .nil) fun w pz ho la=>y4M _ _ _ _ _ zsh w pz (ZA.row (la _ (.head _) _) (RR.y16 (enc:=yA) (fun _=>rfl) _) ⟨w,pz.1⟩)) ?_
 refine WL.pu rfl (WL.pu rfl (WL.nil (WX.a (WC.b ?_))))
 obtain ⟨zit,zsi,h⟩:=zn h
 refine WC.a (WL.pu rfl (WL.pu rfl ?_))
 refine WL.y1Q (dd:=9) rfl rfl rfl (y36 (l:=[.const (.int .i64 0),.tmp 8]) (y5x) Try.call88 rfl (yd .here rfl) (.cons rfl (.cons rfl .nil))) (.cons .h1 .nil) (cc hz (.cons .h1 .nil) fun w pz ho=>y3L _ _ _ _ _ _ _ zsi w pz  ho) ?_
 rintro  zsj
 refine WL.restb (cs':=[z8w,z8x,z8y,z8z,z8A,z8B,z8C,z8D,z8E,z8F,z8G,(.slice z4U zit.length z4V),z8H,z8I]) .h1 (by rw [zsj]) ?_
 refine WL.nil (WX.a (WC.b ?_))
 obtain ⟨ze8,zsk,h⟩:=zn h
 refine WC.a (WL.pu rfl (WL.pu rfl ?_))
 refine WL.y1Q (dd:=12) rfl rfl rfl (zE (l:=[.tmp 10,.const (.int .i64 0),.tmp 11]) Try.call51 (.cons rfl (.cons rfl (.cons rfl .nil)))) (.cons .here (.cons .here .nil)) (cc hz (.cons .here (.cons .here .nil)) fun w pz ho=>y5Y _ _ _ _ _ _ _ _ _ _ _ _ _ _ _ _ _ _ _ _ _ zsk w pz  ho) ?_
 rintro  zsl
 refine WL.restb (cs':=[z8w,z8x,z8y,z8z,z8A,z8B,z8C,z8D,z8E,z8F,z8G,(.slice z4U ze8.2.length z4V),z8H,z8I]) .here (by rw [zsl]) ?_
 refine WL.nil (WX.a (WC.b ?_))
 obtain ⟨zn0,zsm,h⟩:=zn h
 refine WC.a (WL.pu rfl ?_)
 refine WL.y54 (dd:=14) rfl rfl rfl (y7O (l:=[]) (y9A _) Try.call91 rfl .nil) (.cons .here (.cons .here .nil)) (cc hz (.cons .here (.cons .here .nil)) fun w pz ho=>y6h _ _ _ _ _ _ _ _ _ _ _ _ _ _ _ _ _ _ _ zsm w pz  ho) ?_
 rintro zsn zso _
 refine WL.pu rfl (WL.nil (WX.a (WC.ret ?_)))
 obtain rfl:=Option.some.inj h
 refine WX.yj Try.results39 (.tmp rfl .nil) (fun w hw=>?_)
 exact ⟨zsn,zso,y10 rfl,trivial,hw.sub (.cons .here (.cons .here .nil))⟩
def y5e (z2s : Int) (z32 : Int) (z44 : Int) : Option Sport_Port :=
 if (((((decide (z2s < 1)) || (decide (z2s > 16))) || (decide (z32 < 0))) || (decide (z32 > 1000))) || (decide (z44 < 0))) || (decide (z44 > 1073741824)) then none else some (⟨(⟨z2s,z32,z44⟩ : Sport_numbers),0,0,([] : List Sport_frame)⟩ : Sport_Port)
set_option maxRecDepth 20000 in
theorem yab (Z : Zp)  (z2s : Int) (z32 : Int) (z44 : Int) (r : Sport_Port)
  (h : y5e z2s z32 z44 = some r) (w₀ : World) (hz : PZ [] w₀ Z) :
  Calls Try.prog 52 #[(.int .i64 z2s),(.int .i64 z32),(.int .i64 z44)] w₀ fun e w'=>∃ zn3 : Nat,∃ zn4 : Option Addr,∃ zn5 : Nat,e = .returned (.tuple #[(.pointer (some ⟨zn3,0,none⟩)),(.int .i64 0)]) ∧ True ∧ Hp [] w₀ w' [stb zn3 143 [(.int .i64 r.fNumbers.fSlow),(.int .i64 r.fNumbers.fDelay),(.int .i64 r.fNumbers.fStore),(.int .i64 r.fNow),(.int .i64 r.fLast),(.slice zn4 r.fFrames.length zn5)],row (.slice zn4 r.fFrames.length zn5) 146 2 (r.fFrames.flatMap y27)]:=by
 unfold y5e at h
 refine Calls.yo (vs:=[(.int .i64 z2s),(.int .i64 z32),(.int .i64 z44)]) (pre:=[]) (env:=[(0,(.int .i64 z2s)),(1,(.int .i64 z32)),(2,(.int .i64 z44))]) Try.func52 rfl Try.ntmps52 rfl (Hp.nil w₀ _) rfl ?_
 refine WC.b (WC.a (WL.pu rfl (WL.pu rfl (WL.nil (WX.a (WC.b (WC.b (WC.a (WL.pu rfl (WL.pu rfl (WL.pu rfl ?_)))))))))))
 refine WL.seg false 2 10 (B:=(decide (z2s < 1)) || (decide (z2s > 16))) rfl rfl rfl rfl rfl rfl (fun h=>(y2m h).symm) (fun _ zsp=>?_) ?_
 ·skip
  refine WL.pu rfl (WL.pu rfl (WL.pu rfl ?_))
  exact WL.yz (y2n zsp) rfl rfl .all
 refine WL.pu rfl ?_
 refine WL.seg false 2 14 (B:=((decide (z2s < 1)) || (decide (z2s > 16))) || (decide (z32 < 0))) rfl rfl rfl rfl rfl rfl (fun h=>(y2m h).symm) (fun _ zsq=>?_) ?_
 ·skip
  refine WL.pu rfl (WL.pu rfl (WL.pu rfl ?_))
  exact WL.yz (y2n zsq) rfl rfl .all
 refine WL.pu rfl ?_
 refine WL.seg false 2 18 (B:=(((decide (z2s < 1)) || (decide (z2s > 16))) || (decide (z32 < 0))) || (decide (z32 > 1000))) rfl rfl rfl rfl rfl rfl (fun h=>(y2m h).symm) (fun _ zsr=>?_) ?_
 ·skip
  refine WL.pu rfl (WL.pu rfl (WL.pu rfl ?_))
  exact WL.yz (y2n zsr) rfl rfl .all
 refine WL.pu rfl ?_
 refine WL.seg false 2 22 (B:=((((decide (z2s < 1)) || (decide (z2s > 16))) || (decide (z32 < 0))) || (decide (z32 > 1000))) || (decide (z44 < 0))) rfl rfl rfl rfl rfl rfl (fun h=>(y2m h).symm) (fun _ zss=>?_) ?_
 ·skip
  refine WL.pu rfl (WL.pu rfl (WL.pu rfl ?_))
  exact WL.yz (y2n zss) rfl rfl .all
 refine WL.pu rfl ?_
 refine WL.seg false 2 26 (B:=(((((decide (z2s < 1)) || (decide (z2s > 16))) || (decide (z32 < 0))) || (decide (z32 > 1000))) || (decide (z44 < 0))) || (decide (z44 > 1073741824))) rfl rfl rfl rfl rfl rfl (fun h=>(y2m h).symm) (fun _ zst=>?_) ?_
 ·skip
  refine WL.pu rfl (WL.pu rfl (WL.pu rfl ?_))
  exact WL.yz (y2n zst) rfl rfl .all
 refine WL.nil (WX.a ?_)
 refine WC.cond rfl (fun ziu=>?_) (fun ziu=>?_)
 ·replace h:=yk h ziu
  refine WC.b (WC.a (WL.pu rfl (WL.pu rfl (WL.nil (WX.a (WC.ret (WX.ye ?_)))))))
  cases h
 ·replace h:=yl h ziu
  refine WC.skip (WX.a (WC.b (WC.a (WL.pu rfl (WL.pu rfl (WL.pu rfl ?_))))))
  refine WL.a (d:=33) rfl rfl rfl (y1l (v:=(.agg #[(.int .i64 z2s),(.int .i64 z32),(.int .i64 z44)])) (Eos.parts (l:=[.tmp 30,.tmp 31,.tmp 32]) (.cons rfl (.cons rfl (.cons rfl .nil))) [0,1,2]) (fun _=>by kernel_rfl)) ?_
  refine WL.a (d:=34) rfl rfl rfl (y1l (v:=(.agg #[(.int .i64 z2s),(.int .i64 z32),(.int .i64 z44),(.int .i64 0),(.int .i64 0),(.slice none 0 0)])) (Eos.parts (l:=[.tmp 33]) (.cons rfl .nil) [0]) (fun _=>by kernel_rfl)) ?_
  refine WL.new (dd:=35) rfl rfl rfl (y2p (cs:=[(.int .i64 z2s),(.int .i64 z32),(.int .i64 z44),(.int .i64 0),(.int .i64 0),(.slice none 0 0)]) rfl rfl) ?_
  intro zsu _
  refine WL.pu rfl (WL.pu rfl (WL.nil (WX.a (WC.ret ?_))))
  refine WX.nilRow 146 2 ?_
  obtain rfl:=Option.some.inj h
  refine WX.yj Try.results52 (.tmp rfl (.tmp rfl .nil)) (fun w hw=>?_)
  exact ⟨zsu,none,0,ret2 rfl rfl,trivial,hw.sub (.cons .h1 (.cons .here .nil))⟩
def y3j (z1q : Sapi_Config) (zfA : List (List Sapi_Hop)) (zfB : List zSt) (z8J : List (Snetwork_exit × Sport_Port)) (zfC : List Snetwork_event) (zfD : List Sapi_Come) (zfE : List Sapi_Come) (zN : Sapi_Hop) : Option (List (Snetwork_exit × Sport_Port)) :=
 jp1 (fun (z8K : List (Snetwork_exit × Sport_Port))=>some z8K) fun zfF=>if !y2b z8J (⟨zN.fNode,zN.fLink⟩ : Snetwork_exit) then jp2 (fun (z8L : Int) (z8M : Int)=>chk ((0 : Int) ≤ zN.fLink ∧ zN.fLink < ((z1q.fLinks.length : Nat) : Int)) ((y5e ((nth z1q.fLinks zN.fLink).fSlow) z8L z8M).bind fun za4=>zfF (yE z8J (⟨zN.fNode,zN.fLink⟩ : Snetwork_exit) za4))) fun zfG=>if decide ((i64 (zN.fNode - ((z1q.fModules.length : Nat) : Int))) ≥ 0) then chk ((0 : Int) ≤ (i64 (zN.fNode - ((z1q.fModules.length : Nat) : Int))) ∧ (i64 (zN.fNode - ((z1q.fModules.length : Nat) : Int))) < ((z1q.fSwitches.length : Nat) : Int)) (zfG ((nth z1q.fSwitches (i64 (zN.fNode - ((z1q.fModules.length : Nat) : Int)))).fDelay) ((nth z1q.fSwitches (i64 (zN.fNode - ((z1q.fModules.length : Nat) : Int)))).fStore)) else zfG 0 1073741824 else zfF z8J
set_option maxRecDepth 20000 in
theorem y7A (Z : Zp) (zbt : Addr) (zn6 : Option Addr) (zn7 : Nat) (zn8 : Option Addr) (zn9 : Nat) (zna : Option Addr) (znb : Nat) (znc : Option Addr) (znd : Nat) (zne : Option Addr) (znf : Nat) (zng : Option Addr) (znh : Nat) (zni : Option Addr) (znj : Nat) (znk : Option Addr) (znl : Nat) (znm : Option Addr) (znn : Nat) (zno : Option Addr) (znp : Nat) (z6F : Nat) (z3h : List (Snetwork_exit × ((Nat × (Option Addr × Nat)) × Sport_Port))) (znq : Option Addr) (znr : Nat) (zns : Option Addr) (znt : Nat) (znu : Option Addr) (znv : Nat) (z1q : Sapi_Config) (zfA : List (List Sapi_Hop)) (zfB : List zSt) (z8J : List (Snetwork_exit × Sport_Port)) (zfC : List Snetwork_event) (zfD : List Sapi_Come) (zfE : List Sapi_Come) (zN : Sapi_Hop) (r : (List (Snetwork_exit × Sport_Port)))
  (h : y3j z1q zfA zfB z8J zfC zfD zfE zN = some r) (w₀ : World) (hz : PZ (fps [yI z6F (fun x=>Value.agg (y1V x).toArray) Value.pointer (y1o z3h),y1n z1e z3h]) w₀ Z)
  (zyG : ZS Z 4 (y2I Z) zn6 zn7 z1q.fModules)
  (zyH : ZS Z 4 (y31 Z) zn8 zn9 z1q.fChannels)
  (znw : ZS Z 4 (fun r x=>r = e64 x) zna znb z1q.fSwitches)
  (zsv : ZS Z 4 (fun r x=>r = e62 x) znc znd z1q.fLinks)
  (zyI : ZS Z 7 (y2S Z) zne znf z1q.fVLs)
  (zyJ : ZS Z 5 (fun r x=>r = y3g x) zng znh z1q.fHealth)
  (zyK : ZS Z 3 (y32 Z) zni znj z1q.fCauses)
  (zyL : ZS Z 4 (fun r x=>r = y3h x) znk znl z1q.fVersions)
  (zyM : ZS Z 1 (p55 Z) znm znn zfA)
  (zyN : ZS Z 3 (fun r x=>r = e53 x) zno znp zfB)
  (ziv : dat z3h = z8J)
  (zyO : ZS Z 7 (fun r x=>r = yA x) znq znr zfC)
  (zyP : ZS Z 3 (fun r x=>r = e50 x) zns znt zfD)
  (zyQ : ZS Z 3 (fun r x=>r = e50 x) znu znv zfE)
  (za5 : ZC Z zbt [(.slice zn6 z1q.fModules.length zn7),(.slice zn8 z1q.fChannels.length zn9),(.slice zna z1q.fSwitches.length znb),(.slice znc z1q.fLinks.length znd),(.slice zne z1q.fVLs.length znf),(.slice zng z1q.fHealth.length znh),(.slice zni z1q.fCauses.length znj),(.slice znk z1q.fVersions.length znl),(.slice znm zfA.length znn),(.slice zno zfB.length znp),(.map (some z6F)),(.slice znq zfC.length znr),(.slice zns zfD.length znt),(.slice znu zfE.length znv)])
  (hown : Hp (fps [yI z6F (fun x=>Value.agg (y1V x).toArray) Value.pointer (y1o z3h),y1n z1e z3h]) w₀ w₀ [yI z6F (fun x=>Value.agg (y1V x).toArray) Value.pointer (y1o z3h),y1n z1e z3h]) :
  Calls Try.prog 40 #[(.pointer (some zbt)),(.agg #[(.int .i64 zN.fNode),(.int .i64 zN.fNext),(.int .i64 zN.fLink)])] w₀ fun e w'=>∃ zfH : List (Snetwork_exit × ((Nat × (Option Addr × Nat)) × Sport_Port)),e = .returned (.pointer (yp (y1o zfH) (⟨zN.fNode,zN.fLink⟩ : Snetwork_exit) (none : Option Addr))) ∧ (dat zfH = r) ∧ Hp (fps [yI z6F (fun x=>Value.agg (y1V x).toArray) Value.pointer (y1o z3h),y1n z1e z3h]) w₀ w' [yI z6F (fun x=>Value.agg (y1V x).toArray) Value.pointer (y1o zfH),y1n z1e zfH]:=by
 unfold y3j at h
 refine Calls.yo (vs:=[(.pointer (some zbt)),(.agg #[(.int .i64 zN.fNode),(.int .i64 zN.fNext),(.int .i64 zN.fLink)])]) (pre:=[yI z6F (fun x=>Value.agg (y1V x).toArray) Value.pointer (y1o z3h),y1n z1e z3h]) (env:=[(0,(.pointer (some zbt))),(1,(.agg #[(.int .i64 zN.fNode),(.int .i64 zN.fNext),(.int .i64 zN.fLink)]))]) Try.func40 rfl Try.ntmps40 rfl (hown) rfl ?_
 refine WC.b (WC.a ?_)
 refine WL.new (dd:=3) rfl rfl rfl (y2p (cs:=[(.int .i64 zN.fNode),(.int .i64 zN.fNext),(.int .i64 zN.fLink)]) rfl rfl) ?_
 intro ziw _
 refine WL.pu rfl (WL.nil (WX.a (WC.b (WC.a ?_))))
 refine WL.a (d:=9) rfl rfl rfl (ya y39 rfl rfl) ?_
 refine WL.a (d:=10) rfl rfl rfl (yb yh rfl (yd .here rfl)) ?_
 refine WL.a (d:=11) rfl rfl rfl (ya y5k rfl rfl) ?_
 refine WL.a (d:=12) rfl rfl rfl (yb yh rfl (yd .here rfl)) ?_
 refine WL.a (d:=13) rfl rfl rfl (y1l (v:=(.agg #[(.int .i64 zN.fNode),(.int .i64 zN.fLink)])) (Eos.parts (l:=[.tmp 10,.tmp 12]) (.cons rfl (.cons rfl .nil)) [0,1]) (fun _=>by kernel_rfl)) ?_
 refine WL.new (dd:=5) rfl rfl rfl (y1Y (cs:=[(.int .i64 0),(.int .i64 0)]) zpj rfl) ?_
 intro ze9 _
 refine WL.y1g rfl rfl (y1A zpk rfl rfl rfl .here rfl rfl rfl) ?_
 refine WL.nil (WX.a ?_)
 obtain ⟨zfF,zsw,h⟩:=y1b h
 refine WC.y2q (fun (z8K : List (Snetwork_exit × Sport_Port)) (za6 : List (Snetwork_exit × ((Nat × (Option Addr × Nat)) × Sport_Port)))=>(zfF z8K = some r) ∧ (dat za6 = z8K)) (fun (z8K : List (Snetwork_exit × Sport_Port)) (za6 : List (Snetwork_exit × ((Nat × (Option Addr × Nat)) × Sport_Port)))=>[(0,(.pointer (some zbt))),(5,(.pointer (some ⟨ze9,0,none⟩)))]) (fun (z8K : List (Snetwork_exit × Sport_Port)) (za6 : List (Snetwork_exit × ((Nat × (Option Addr × Nat)) × Sport_Port)))=>[stb ze9 136 [(.int .i64 zN.fNode),(.int .i64 zN.fLink)],yI z6F (fun x=>Value.agg (y1V x).toArray) Value.pointer (y1o za6),y1n z1e za6]) ?_ ?_
 ·skip
  refine WC.b ?_
  refine WC.y12 (fun i=>[].contains i) [] rfl ?_
  refine WD.a (i:=0) (d:=14) (by kernel_rfl) rfl z2 z3 rfl rfl rfl (fun _=>q_m rfl) ?_
  refine WD.a (i:=1) (d:=15) (by kernel_rfl) rfl z2 z3 rfl rfl rfl (fun _=>yw rfl) ?_
  refine WD.a (i:=2) (d:=16) (by kernel_rfl) rfl z2 z3 rfl rfl rfl (fun _=>ya y8k rfl rfl) ?_
  refine WD.e (i:=3) (d:=17) (by kernel_rfl) rfl z2 z3 rfl rfl rfl (yb y8l rfl (y2h hz.pv za5 rfl)) ?_
  refine WD.e (i:=4) (d:=18) (by kernel_rfl) rfl z2 z3 rfl rfl rfl (yD zgQ rfl (y1h .here) rfl) ?_
  refine WD.e (i:=5) (d:=19) (by kernel_rfl) rfl z2 z3 rfl rfl rfl (y4j (k:=(⟨zN.fNode,zN.fLink⟩ : Snetwork_exit)) (dflt:=(none : Option Addr)) zgR Try.underlying77 zkZ rfl rfl rfl .h2) ?_
  refine WD.a (i:=6) (d:=20) (by kernel_rfl) rfl z2 z3 rfl rfl rfl (fun _=>q_eqlPN ziv Try.underlying116 rfl rfl) ?_
  refine WD.done (by kernel_rfl) ?_
  refine WX.a ?_
  refine WC.cond rfl (fun zix=>?_) (fun zix=>?_)
  ·replace h:=yk h zix
   refine WC.b (WC.a (WL.pu rfl (WL.pu rfl (WL.nil (WX.a ?_)))))
   obtain ⟨zfG,zsx,h⟩:=y2i h
   refine WC.y2q (fun (z8L : Int) (z8M : Int)=>(zfG z8L z8M = some r)) (fun (z8L : Int) (z8M : Int)=>[(0,(.pointer (some zbt))),(3,(.pointer (some ⟨ziw,0,none⟩))),(5,(.pointer (some ⟨ze9,0,none⟩))),(6,(.int .i64 z8L)),(7,(.int .i64 z8M))]) (fun (z8L : Int) (z8M : Int)=>[stb ziw 59 [(.int .i64 zN.fNode),(.int .i64 zN.fNext),(.int .i64 zN.fLink)],stb ze9 136 [(.int .i64 zN.fNode),(.int .i64 zN.fLink)],yI z6F (fun x=>Value.agg (y1V x).toArray) Value.pointer (y1o z3h),y1n z1e z3h]) ?_ ?_
   ·skip
    refine WC.b ?_
    refine WC.y12 (fun i=>[].contains i) [] rfl ?_
    refine WD.a (i:=0) (d:=21) (by kernel_rfl) rfl z2 z3 rfl rfl rfl (fun _=>ya y39 rfl rfl) ?_
    refine WD.e (i:=1) (d:=22) (by kernel_rfl) rfl z2 z3 rfl rfl rfl (yb yh rfl (yd .h1 rfl)) ?_
    refine WD.a (i:=2) (d:=23) (by kernel_rfl) rfl z2 z3 rfl rfl rfl (fun _=>q_m rfl) ?_
    refine WD.a (i:=3) (d:=24) (by kernel_rfl) rfl z2 z3 rfl rfl rfl (fun _=>yw rfl) ?_
    refine WD.a (i:=4) (d:=25) (by kernel_rfl) rfl z2 z3 rfl rfl rfl (fun _=>ya y6c rfl rfl) ?_
    refine WD.a (i:=5) (d:=26) (by kernel_rfl) rfl z2 z3 rfl rfl rfl (fun _=>ya y4q rfl rfl) ?_
    refine WD.e (i:=6) (d:=27) (by kernel_rfl) rfl z2 z3 rfl rfl rfl (yb y4r rfl (y2h hz.pv za5 rfl)) ?_
    refine WD.a (i:=7) (d:=28) (by kernel_rfl) rfl z2 z3 rfl rfl rfl (fun _=>yZ Try.underlying22 rfl) ?_
    refine WD.a (i:=8) (d:=29) (by kernel_rfl) rfl z2 z3 rfl rfl rfl (fun _=>y52 rfl rfl rfl) ?_
    refine WD.a (i:=9) (d:=8) (by kernel_rfl) rfl z2 z3 rfl rfl rfl (fun _=>q_z rfl) ?_
    refine WD.done (by kernel_rfl) ?_
    refine WX.a (WC.b (WC.a (WL.pu rfl (WL.pu rfl (WL.nil (WX.a ?_))))))
    refine WC.cond rfl (fun ziy=>?_) (fun ziy=>?_)
    ·replace h:=yk h ziy
     obtain ⟨znx,h⟩:=yi h
     refine WC.y12 (fun i=>[].contains i) [] rfl ?_
     refine WD.a (i:=0) (d:=32) (by kernel_rfl) rfl z2 z3 rfl rfl rfl (fun _=>q_m rfl) ?_
     refine WD.a (i:=1) (d:=33) (by kernel_rfl) rfl z2 z3 rfl rfl rfl (fun _=>yw rfl) ?_
     refine WD.a (i:=2) (d:=34) (by kernel_rfl) rfl z2 z3 rfl rfl rfl (fun _=>ya y6c rfl rfl) ?_
     refine WD.a (i:=3) (d:=35) (by kernel_rfl) rfl z2 z3 rfl rfl rfl (fun _=>ya y5h rfl rfl) ?_
     refine WD.e (i:=4) (d:=36) (by kernel_rfl) rfl z2 z3 rfl rfl rfl (yb y5i rfl (y2h hz.pv za5 rfl)) ?_
     refine WD.a (i:=5) (d:=37) (by kernel_rfl) rfl z2 z3 rfl rfl rfl (fun _=>q_m rfl) ?_
     refine WD.znth (j:=6) (dd:=38) (by kernel_rfl) rfl z2 z3 rfl rfl (Z:=Z) (Pr:=(fun r x=>r = e64 x)) y76 rfl rfl znw znx ?_
     rintro zyR zyS zsy zyT rfl
     refine WD.a (i:=7) (d:=39) (by kernel_rfl) rfl z2 z3 rfl rfl rfl (fun _=>ya y8g rfl rfl) ?_
     refine WD.e (i:=8) (d:=40) (by kernel_rfl) rfl z2 z3 rfl rfl rfl (yb yh rfl (y2h hz.pv zsy rfl)) ?_
     refine WD.a (i:=9) (d:=41) (by kernel_rfl) rfl z2 z3 rfl rfl rfl (fun _=>q_m rfl) ?_
     refine WD.a (i:=10) (d:=42) (by kernel_rfl) rfl z2 z3 rfl rfl rfl (fun _=>yw rfl) ?_
     refine WD.a (i:=11) (d:=43) (by kernel_rfl) rfl z2 z3 rfl rfl rfl (fun _=>ya y6c rfl rfl) ?_
     refine WD.a (i:=12) (d:=44) (by kernel_rfl) rfl z2 z3 rfl rfl rfl (fun _=>ya y5h rfl rfl) ?_
     refine WD.e (i:=13) (d:=45) (by kernel_rfl) rfl z2 z3 rfl rfl rfl (yb y5i rfl (y2h hz.pv za5 rfl)) ?_
     refine WD.a (i:=14) (d:=46) (by kernel_rfl) rfl z2 z3 rfl rfl rfl (fun _=>q_m rfl) ?_
     refine WD.znth (j:=15) (dd:=47) (by kernel_rfl) rfl z2 z3 rfl rfl (Z:=Z) (Pr:=(fun r x=>r = e64 x)) y76 rfl rfl znw znx ?_
     rintro zyU zyV zsz zyW rfl
     refine WD.a (i:=16) (d:=48) (by kernel_rfl) rfl z2 z3 rfl rfl rfl (fun _=>ya y8h rfl rfl) ?_
     refine WD.e (i:=17) (d:=49) (by kernel_rfl) rfl z2 z3 rfl rfl rfl (yb yh rfl (y2h hz.pv zsz rfl)) ?_
     refine WD.a (i:=18) (d:=6) (by kernel_rfl) rfl z2 z3 rfl rfl rfl (fun _=>q_z rfl) ?_
     refine WD.a (i:=19) (d:=7) (by kernel_rfl) rfl z2 z3 rfl rfl rfl (fun _=>q_z rfl) ?_
     refine WD.done (by kernel_rfl) ?_
     exact WX.mid (G:=Int × Int) ⟨((nth z1q.fSwitches (i64 (zN.fNode - ((z1q.fModules.length : Nat) : Int)))).fDelay),((nth z1q.fSwitches (i64 (zN.fNode - ((z1q.fModules.length : Nat) : Int)))).fStore)⟩ h (.cons rfl (.cons rfl (.cons rfl (.cons rfl (.cons rfl .nil))))) (.cons .h1 (.cons .here (.cons .here (.cons .here .nil))))
    ·replace h:=yl h ziy
     refine WC.skip ?_
     exact WX.mid (G:=Int × Int) ⟨0,1073741824⟩ h (.cons rfl (.cons rfl (.cons rfl (.cons rfl (.cons rfl .nil))))) (.cons .h1 (.cons .here (.cons .here (.cons .here .nil))))
   ·rintro z8L z8M h
    replace h:=(zsx z8L z8M).symm.trans h
    obtain ⟨zsA,h⟩:=yi h
    obtain ⟨za4,zsB,h⟩:=zn h
    refine WC.y12 (fun i=>[21].contains i) [] rfl ?_
    refine WD.a (i:=0) (d:=51) (by kernel_rfl) rfl z2 z3 rfl rfl rfl (fun _=>q_m rfl) ?_
    refine WD.a (i:=1) (d:=52) (by kernel_rfl) rfl z2 z3 rfl rfl rfl (fun _=>yw rfl) ?_
    refine WD.a (i:=2) (d:=53) (by kernel_rfl) rfl z2 z3 rfl rfl rfl (fun _=>ya y8k rfl rfl) ?_
    refine WD.e (i:=3) (d:=54) (by kernel_rfl) rfl z2 z3 rfl rfl rfl (yb y8l rfl (y2h hz.pv za5 rfl)) ?_
    refine WD.e (i:=4) (d:=55) (by kernel_rfl) rfl z2 z3 rfl rfl rfl (yD zgQ rfl (y1h .h1) rfl) ?_
    refine WD.a (i:=5) (d:=56) (by kernel_rfl) rfl z2 z3 rfl rfl rfl (fun _=>q_m rfl) ?_
    refine WD.a (i:=6) (d:=57) (by kernel_rfl) rfl z2 z3 rfl rfl rfl (fun _=>yw rfl) ?_
    refine WD.a (i:=7) (d:=58) (by kernel_rfl) rfl z2 z3 rfl rfl rfl (fun _=>ya y6c rfl rfl) ?_
    refine WD.a (i:=8) (d:=59) (by kernel_rfl) rfl z2 z3 rfl rfl rfl (fun _=>ya y7e rfl rfl) ?_
    refine WD.e (i:=9) (d:=60) (by kernel_rfl) rfl z2 z3 rfl rfl rfl (yb y7f rfl (y2h hz.pv za5 rfl)) ?_
    refine WD.a (i:=10) (d:=61) (by kernel_rfl) rfl z2 z3 rfl rfl rfl (fun _=>ya y5k rfl rfl) ?_
    refine WD.e (i:=11) (d:=62) (by kernel_rfl) rfl z2 z3 rfl rfl rfl (yb yh rfl (yd .here rfl)) ?_
    refine WD.znth (j:=12) (dd:=63) (by kernel_rfl) rfl z2 z3 rfl rfl (Z:=Z) (Pr:=(fun r x=>r = e62 x)) y98 rfl rfl zsv zsA ?_
    rintro zyX zyY zsC zyZ rfl
    refine WD.a (i:=13) (d:=64) (by kernel_rfl) rfl z2 z3 rfl rfl rfl (fun _=>ya y8f rfl rfl) ?_
    refine WD.e (i:=14) (d:=65) (by kernel_rfl) rfl z2 z3 rfl rfl rfl (yb yh rfl (y2h hz.pv zsC rfl)) ?_
    refine WD.a (i:=15) (d:=66) (by kernel_rfl) rfl z2 z3 rfl rfl rfl (fun _=>q_m rfl) ?_
    refine WD.a (i:=16) (d:=67) (by kernel_rfl) rfl z2 z3 rfl rfl rfl (fun _=>q_m rfl) ?_
    refine WD.call3 (i:=17) (dd:=68) rfl (by kernel_rfl) rfl rfl rfl (.inr rfl) (zE (l:=[.tmp 65,.tmp 66,.tmp 67]) Try.call52 (.cons rfl (.cons rfl (.cons rfl .nil)))) .nil (cc hz .nil fun w pz ho=>yab _ _ _ _ _ zsB w pz ) ?_
    rintro zea zfI zfJ _
    refine WD.a (i:=18) (d:=50) (by kernel_rfl) rfl z2 z3 rfl rfl rfl (fun _=>q_m rfl) ?_
    refine WD.a (i:=19) (d:=69) (by kernel_rfl) rfl z2 z3 rfl rfl rfl (fun _=>y4e rfl rfl) ?_
    refine WD.a (i:=20) (d:=70) (by kernel_rfl) rfl z2 z3 rfl rfl rfl (fun _=>y4e rfl rfl) ?_
    refine WD.forced0 (i:=21) rfl (by kernel_rfl) rfl rfl rfl (Sin.of .nil) (y5S (k:=(⟨zN.fNode,zN.fLink⟩ : Snetwork_exit)) (v:=(some ⟨zea,0,none⟩ : Option Addr)) zgR Try.underlying77 rfl rfl rfl rfl .h4) ?_
    refine WD.ghL (fun _ h=>Hp.ya9 (els:=z1e) (k:=(⟨zN.fNode,zN.fLink⟩ : Snetwork_exit)) (b:=zea) (g:=(zfI,zfJ)) (x:=za4) .h5 (.cons .h1 (.cons .h1 .nil)) h) ?_
    refine WD.ghL (M:=[yI z6F (fun x=>Value.agg (y1V x).toArray) Value.pointer (y1o (yE z3h (⟨zN.fNode,zN.fLink⟩ : Snetwork_exit) ((zea,(zfI,zfJ)),za4))),y1n z1e (yE z3h (⟨zN.fNode,zN.fLink⟩ : Snetwork_exit) ((zea,(zfI,zfJ)),za4)),stb ziw 59 [(.int .i64 zN.fNode),(.int .i64 zN.fNext),(.int .i64 zN.fLink)],stb ze9 136 [(.int .i64 zN.fNode),(.int .i64 zN.fLink)]]) (fun _ h=>Hp.y94 .h1 (y8B _ _ _ _ _).symm h) ?_
    refine WD.done (by kernel_rfl) ?_
    exact WX.mid (G:=(List (Snetwork_exit × Sport_Port)) × (List (Snetwork_exit × ((Nat × (Option Addr × Nat)) × Sport_Port)))) ⟨(yE z8J (⟨zN.fNode,zN.fLink⟩ : Snetwork_exit) za4),(yE z3h (⟨zN.fNode,zN.fLink⟩ : Snetwork_exit) ((zea,(zfI,zfJ)),za4))⟩ ⟨h,(y6u ziv _ _ _)⟩ (.cons rfl (.cons rfl .nil)) (.cons .h3 (.cons .here (.cons .here .nil)))
  ·replace h:=yl h zix
   refine WC.skip ?_
   exact WX.mid (G:=(List (Snetwork_exit × Sport_Port)) × (List (Snetwork_exit × ((Nat × (Option Addr × Nat)) × Sport_Port)))) ⟨z8J,z3h⟩ ⟨h,ziv⟩ (.cons rfl (.cons rfl .nil)) (.cons .here (.cons .h1 (.cons .h1 .nil)))
 ·rintro z8K za6 ⟨h,zsD⟩
  replace h:=(zsw z8K).symm.trans h
  refine WC.b ?_
  refine WC.y12 (fun i=>[].contains i) [] rfl ?_
  refine WD.a (i:=0) (d:=71) (by kernel_rfl) rfl z2 z3 rfl rfl rfl (fun _=>q_m rfl) ?_
  refine WD.a (i:=1) (d:=72) (by kernel_rfl) rfl z2 z3 rfl rfl rfl (fun _=>yw rfl) ?_
  refine WD.a (i:=2) (d:=73) (by kernel_rfl) rfl z2 z3 rfl rfl rfl (fun _=>ya y8k rfl rfl) ?_
  refine WD.e (i:=3) (d:=74) (by kernel_rfl) rfl z2 z3 rfl rfl rfl (yb y8l rfl (y2h hz.pv za5 rfl)) ?_
  refine WD.e (i:=4) (d:=75) (by kernel_rfl) rfl z2 z3 rfl rfl rfl (yD zgQ rfl (y1h .here) rfl) ?_
  refine WD.e (i:=5) (d:=76) (by kernel_rfl) rfl z2 z3 rfl rfl rfl (y4j (k:=(⟨zN.fNode,zN.fLink⟩ : Snetwork_exit)) (dflt:=(none : Option Addr)) zgR Try.underlying77 zkZ rfl rfl rfl .h1) ?_
  refine WD.a (i:=6) (d:=4) (by kernel_rfl) rfl z2 z3 rfl rfl rfl (fun _=>q_z rfl) ?_
  refine WD.done (by kernel_rfl) ?_
  refine WX.a (WC.ret ?_)
  obtain rfl:=Option.some.inj h
  refine WX.yj Try.results40 (.tmp rfl .nil) (fun w hw=>?_)
  exact ⟨za6,y10 rfl,zsD,hw.sub (.cons .h1 (.cons .h1 .nil))⟩
def y2O (z6G : Sport_Port) : Option Bool :=
 some (decide (z6G.fNumbers.fSlow = 0))
set_option maxRecDepth 20000 in
theorem y5A (Z : Zp) (zfK : Addr) (zny : Option Addr) (znz : Nat) (z6G : Sport_Port) (r : Bool)
  (h : y2O z6G = some r) (w₀ : World) (hz : PZ [] w₀ Z)
  (zz0 : ZS Z 2 (fun r x=>r = y27 x) zny znz z6G.fFrames)
  (zsE : ZC Z zfK [(.int .i64 z6G.fNumbers.fSlow),(.int .i64 z6G.fNumbers.fDelay),(.int .i64 z6G.fNumbers.fStore),(.int .i64 z6G.fNow),(.int .i64 z6G.fLast),(.slice zny z6G.fFrames.length znz)]) :
  Calls Try.prog 53 #[(.pointer (some zfK))] w₀ fun e w'=>e = .returned (.bool r) ∧ Hp [] w₀ w' []:=by
 unfold y2O at h
 refine Calls.yo (vs:=[(.pointer (some zfK))]) (pre:=[]) (env:=[(0,(.pointer (some zfK)))]) Try.func53 rfl Try.ntmps53 rfl (Hp.nil w₀ _) rfl ?_
 refine WC.b (WC.a (WL.pu rfl (WL.nil (WX.a (WC.b (WC.a (WL.pu rfl ?_)))))))
 refine WL.a (d:=4) rfl rfl rfl (y8W Try.underlying116 rfl rfl) ?_
 refine WL.pu rfl (WL.pu rfl ?_)
 refine WL.a (d:=7) rfl rfl rfl (yw rfl) ?_
 refine WL.a (d:=8) rfl rfl rfl (ya y6y rfl rfl) ?_
 refine WL.a (d:=9) rfl rfl rfl (ya y9c rfl rfl) ?_
 refine WL.a (d:=10) rfl rfl rfl (yb yh rfl (y2h hz.pv zsE rfl)) ?_
 refine WL.pu rfl (WL.pu rfl (WL.pu rfl (WL.nil (WX.a (WC.ret ?_)))))
 obtain rfl:=Option.some.inj h
 refine WX.yj Try.results53 (.tmp rfl .nil) (fun w hw=>?_)
 exact ⟨y10 rfl,hw.sub .nil⟩
def y2F (z5x : Sport_frame) (zfL : Int) : Option Bool :=
 some (decide (z5x.fFin ≤ zfL))
set_option maxRecDepth 20000 in
theorem y7l (Z : Zp) (zfM : Addr) (z5x : Sport_frame) (zfL : Int) (r : Bool)
  (h : y2F z5x zfL = some r) (w₀ : World) (hz : PZ [] w₀ Z)
  (zsF : ZC Z zfM [(.int .i64 zfL)]) :
  Calls Try.prog 55 #[(.agg #[(.int .i64 z5x.fSize),(.int .i64 z5x.fFin)]),(.pointer (some zfM))] w₀ fun e w'=>e = .returned (.bool r) ∧ Hp [] w₀ w' []:=by
 unfold y2F at h
 refine Calls.yo (vs:=[(.agg #[(.int .i64 z5x.fSize),(.int .i64 z5x.fFin)]),(.pointer (some zfM))]) (pre:=[]) (env:=[(0,(.agg #[(.int .i64 z5x.fSize),(.int .i64 z5x.fFin)])),(1,(.pointer (some zfM)))]) Try.func55 rfl Try.ntmps55 rfl (Hp.nil w₀ _) rfl ?_
 refine WC.b (WC.a ?_)
 refine WL.new (dd:=2) rfl rfl rfl (y2p (cs:=[(.int .i64 z5x.fSize),(.int .i64 z5x.fFin)]) rfl rfl) ?_
 intro zz1 _
 refine WL.pu rfl (WL.nil (WX.a (WC.b (WC.a ?_))))
 refine WL.a (d:=4) rfl rfl rfl (ya y9d rfl rfl) ?_
 refine WL.a (d:=5) rfl rfl rfl (yb yh rfl (yd .here rfl)) ?_
 refine WL.a (d:=6) rfl rfl rfl (yb yh rfl (rd_z hz.pv zsF rfl)) ?_
 refine WL.pu rfl (WL.pu rfl (WL.nil (WX.a (WC.ret ?_))))
 obtain rfl:=Option.some.inj h
 refine WX.yj Try.results55 (.tmp rfl .nil) (fun w hw=>?_)
 exact ⟨y10 rfl,hw.sub .nil⟩
def yB (z2z : List Sport_frame) (z5y : Sport_frame → Option Bool) (z7H : Option Int) : Nat → Int → Option Int
 | 0,_=>none
 | ziz + 1,z2P=>if decide (z2P < ((z2z.length : Nat) : Int)) then chk ((0 : Int) ≤ z2P ∧ z2P < ((z2z.length : Nat) : Int)) ((z5y (⟨((nth z2z z2P).fSize),((nth z2z z2P).fFin)⟩ : Sport_frame)).bind fun ziA=>if ziA then some z2P else yB z2z z5y z7H ziz (i64 (z2P + 1))) else z7H
theorem y3k {n : Nat} {z2z : List Sport_frame} {z5y : Sport_frame → Option Bool} {z7H : Option Int} {z2P : Int} {r : Int} (h : yB z2z z5y z7H n z2P = some r) : ∃ m,n = m + 1:=by
 cases n with
 | zero=>cases h
 | succ m=>exact ⟨m,rfl⟩
def yW (z2z : List Sport_frame) (z5y : Sport_frame → Option Bool) : Option Int :=
 jp0 (some (-1)) fun z7H=>yB z2z z5y z7H ys 0
set_option maxRecDepth 20000 in
theorem y40 (Z : Zp) (zeb : Option Addr) (zec : Nat) (z7I : FuncId) (za7 : List Value) (z2z : List Sport_frame) (z5y : Sport_frame → Option Bool) (r : Int)
  (h : yW z2z z5y = some r) (w₀ : World) (hz : PZ [] w₀ Z)
  (zsG : ZS Z 2 (fun r x=>r = y27 x) zeb zec z2z)
  (zsH : ∀ args w,(callFunc z7I args).run Try.prog w = .ok (.enter z7I args) w)
  (zsI : ∀ w : World,PZ [] w Z → ∀ (x0 : Sport_frame) (r : Bool),z5y x0 = some r → Calls Try.prog z7I (([(.agg #[(.int .i64 x0.fSize),(.int .i64 x0.fFin)])] : List Value) ++ za7).toArray w fun e w'=>e = .returned (.bool r) ∧ Hp [] w w' []) :
  Calls Try.prog 63 #[(.slice zeb z2z.length zec),(.func (.func z7I) #[] (za7).toArray)] w₀ fun e w'=>e = .returned (.int .i64 r) ∧ Hp [] w₀ w' []:=by
 unfold yW at h
 refine Calls.yo (vs:=[(.slice zeb z2z.length zec),(.func (.func z7I) #[] (za7).toArray)]) (pre:=[]) (env:=[(0,(.slice zeb z2z.length zec)),(1,(.func (.func z7I) #[] (za7).toArray))]) Try.func63 rfl Try.ntmps63 rfl (Hp.nil w₀ _) rfl ?_
 refine WC.b (WC.a (WL.pu rfl (WL.nil (WX.a ?_))))
 obtain ⟨z7H,zsJ,h⟩:=y29 h
 refine WC.y2f ((z7H = some r)) ([]) ([]) ?_ ?_
 ·skip
  refine WC.b (WC.a (WL.pu rfl ?_))
  refine WL.a (d:=7) rfl rfl rfl (yZ Try.underlying141 rfl) ?_
  refine WL.pu rfl (WL.nil (WX.a (WC.block ?_)))
  refine WC.y4h (fun (zbu : Nat) (z2P : Int)=>(yB z2z z5y z7H zbu z2P = some r)) (fun (zbu : Nat) (z2P : Int)=>[(0,(.slice zeb z2z.length zec)),(1,(.func (.func z7I) #[] (za7).toArray)),(7,(.int .i64 ((z2z.length : Nat) : Int))),(8,(.int .i64 z2P))]) (fun (zbu : Nat) (z2P : Int)=>[]) (fun (zbu : Nat) (z2P : Int)=>zbu) ⟨ys,0⟩ h (.cons rfl (.cons rfl (.cons rfl (.cons rfl .nil)))) .nil ?_
  rintro zbu z2P h
  obtain ⟨ziz,rfl⟩:=y3k h
  rw [yB] at h
  refine WC.b (WC.a (WL.pu rfl (WL.nil (WX.a (WC.b ?_)))))
  refine WC.cond rfl (fun ziB=>?_) (fun ziB=>?_)
  ·replace h:=yk h ziB
   refine WC.skip (WX.a (WC.b (WC.block (WC.b (WC.a (WL.pu rfl (WL.pu rfl (WL.nil (WX.a (WC.b ?_))))))))))
   obtain ⟨zsK,h⟩:=yi h
   obtain ⟨ziA,zsL,h⟩:=zn h
   refine WC.a (WL.pu rfl (WL.pu rfl (WL.pu rfl ?_)))
   refine WL.znth (dd:=14) rfl rfl (Z:=Z) (Pr:=(fun r x=>r = y27 x)) z78 rfl rfl zsG zsK ?_
   rintro zz2 zz3 zsM zz4 rfl
   refine WL.a (d:=15) rfl rfl rfl (yD zap rfl (y3p hz.pv zsM) rfl) ?_
   refine WL.b (dd:=16) rfl rfl rfl (y3V (l:=[.tmp 15]) (f:=z7I) (caps:=za7) zsH rfl (.cons rfl .nil)) .nil (fun w hw=>zsI w (hz.now hw) (⟨((nth z2z z2P).fSize),((nth z2z z2P).fFin)⟩ : Sport_frame) ziA  zsL) ?_
   refine WL.nil (WX.a ?_)
   refine WC.cond rfl (fun ziC=>?_) (fun ziC=>?_)
   ·replace h:=yk h ziC
    refine WC.b (WC.a (WL.pu rfl (WL.pu rfl (WL.nil (WX.a (WC.ret (WX.yr (WX.ye (WX.ye (WX.yr (WX.ye ?_)))))))))))
    obtain rfl:=Option.some.inj h
    refine WX.yj Try.results63 (.tmp rfl .nil) (fun w hw=>?_)
    exact ⟨y10 rfl,hw.sub .nil⟩
   ·replace h:=yl h ziC
    refine WC.skip (WX.yg (WX.a (WC.a (WL.pu rfl (WL.pu rfl (WL.nil ?_))))))
    exact WX.round (G:=Nat × Int) ⟨ziz,(i64 (z2P + 1))⟩ h (Nat.lt_succ_self _) (.cons rfl (.cons rfl (.cons rfl (.cons rfl .nil)))) .nil
  ·replace h:=yl h ziB
   refine WC.exit (WX.yc (WX.yc (WX.yt ?_)))
   exact WX.mid (G:=Unit) () h .nil .nil
 ·rintro  h
  replace h:=zsJ.symm.trans h
  refine WC.b (WC.a (WL.pu rfl (WL.nil (WX.a (WC.ret ?_)))))
  obtain rfl:=Option.some.inj h
  refine WX.yj Try.results63 (.tmp rfl .nil) (fun w hw=>?_)
  exact ⟨y10 rfl,hw.sub .nil⟩
end Go.Proofs.Ytinchjigeakocaa
