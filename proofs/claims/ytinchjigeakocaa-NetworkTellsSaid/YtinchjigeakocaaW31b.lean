/- A part of this claim's proof: models of functions, walks, plain laws. No conditions. -/
import Derived.Test.YtinchjigeakocaaW31a
namespace Go.Proofs.Ytinchjigeakocaa
open Go Go.RowKit Sep
set_option linter.all false
set_option maxRecDepth 30000
set_option maxHeartbeats 4000000
def y1X (zh : List zSt) (zQ : Sapi_Config) (z8M : Option Bool) : Nat → Int → Option Bool
 | 0,_=>none
 | zm8 + 1,zk=>if decide (zk < ((zh.length : Nat) : Int)) then chk ((0 : Int) ≤ zk ∧ zk < ((zh.length : Nat) : Int)) (chk (((((((decide (((nth zh zk).fTime) < 0)) || (decide (((nth zh zk).fTime) > 536870912))) || (decide (((nth zh zk).fVL) < 0))) || (decide (((nth zh zk).fVL) ≥ ((zQ.fVLs.length : Nat) : Int)))) || (decide (((nth zh zk).fSize) < 1))) || (decide (((nth zh zk).fSize) > 72))) = false → ((decide (zk > 0)) = true → ((0 : Int) ≤ (i64 (zk - 1)) ∧ (i64 (zk - 1)) < ((zh.length : Nat) : Int)))) (if ((((((decide (((nth zh zk).fTime) < 0)) || (decide (((nth zh zk).fTime) > 536870912))) || (decide (((nth zh zk).fVL) < 0))) || (decide (((nth zh zk).fVL) ≥ ((zQ.fVLs.length : Nat) : Int)))) || (decide (((nth zh zk).fSize) < 1))) || (decide (((nth zh zk).fSize) > 72))) || ((decide (zk > 0)) && (decide (((nth zh (i64 (zk - 1))).fTime) > ((nth zh zk).fTime)))) then some false else y1X zh zQ z8M zm8 (i64 (zk + 1)))) else z8M
theorem y64 {n : Nat} {zh : List zSt} {zQ : Sapi_Config} {z8M : Option Bool} {zk : Int} {r : Bool} (h : y1X zh zQ z8M n zk = some r) : ∃ m,n = m + 1:=by
 cases n with
 | zero=>cases h
 | succ m=>exact ⟨m,rfl⟩
def y3J (zQ : Sapi_Config) (zh : List zSt) : Option Bool :=
 jp0 (some (decide (((zh.length : Nat) : Int) ≤ 4000))) fun z8M=>y1X zh zQ z8M yw 0
set_option maxRecDepth 20000 in
theorem y89 (Z : Zp) (zd5 : Option Addr) (zd6 : Nat) (zd7 : Option Addr) (zd8 : Nat) (zd9 : Option Addr) (zda : Nat) (zdb : Option Addr) (zdc : Nat) (zdd : Option Addr) (zde : Nat) (zdf : Option Addr) (zdg : Nat) (zdh : Option Addr) (zdi : Nat) (zdj : Option Addr) (zdk : Nat) (z2R : Option Addr) (z2S : Nat) (zQ : Sapi_Config) (zh : List zSt) (r : Bool)
  (h : y3J zQ zh = some r) (w₀ : World) (hz : PZ [] w₀ Z)
  (zIg : ZS Z 4 (y2i Z) zd5 zd6 zQ.fModules)
  (zIh : ZS Z 4 (y2R Z) zd7 zd8 zQ.fChannels)
  (zIi : ZS Z 4 (fun r x=>r = e64 x) zd9 zda zQ.fSwitches)
  (zIj : ZS Z 4 (fun r x=>r = e62 x) zdb zdc zQ.fLinks)
  (zIk : ZS Z 7 (y2A Z) zdd zde zQ.fVLs)
  (zIl : ZS Z 5 (fun r x=>r = y2T x) zdf zdg zQ.fHealth)
  (zIm : ZS Z 3 (y2S Z) zdh zdi zQ.fCauses)
  (zIn : ZS Z 4 (fun r x=>r = y2U x) zdj zdk zQ.fVersions)
  (zrQ : ZS Z 3 (fun r x=>r = e53 x) z2R z2S zh) :
  Calls Try.prog 24 #[(.agg #[(.slice zd5 zQ.fModules.length zd6),(.slice zd7 zQ.fChannels.length zd8),(.slice zd9 zQ.fSwitches.length zda),(.slice zdb zQ.fLinks.length zdc),(.slice zdd zQ.fVLs.length zde),(.slice zdf zQ.fHealth.length zdg),(.slice zdh zQ.fCauses.length zdi),(.slice zdj zQ.fVersions.length zdk)]),(.slice z2R zh.length z2S)] w₀ fun e w'=>e = .returned (.bool r) ∧ Hp [] w₀ w' []:=by
 unfold y3J at h
 refine Calls.yp (vs:=[(.agg #[(.slice zd5 zQ.fModules.length zd6),(.slice zd7 zQ.fChannels.length zd8),(.slice zd9 zQ.fSwitches.length zda),(.slice zdb zQ.fLinks.length zdc),(.slice zdd zQ.fVLs.length zde),(.slice zdf zQ.fHealth.length zdg),(.slice zdh zQ.fCauses.length zdi),(.slice zdj zQ.fVersions.length zdk)]),(.slice z2R zh.length z2S)]) (pre:=[]) (env:=[(0,(.agg #[(.slice zd5 zQ.fModules.length zd6),(.slice zd7 zQ.fChannels.length zd8),(.slice zd9 zQ.fSwitches.length zda),(.slice zdb zQ.fLinks.length zdc),(.slice zdd zQ.fVLs.length zde),(.slice zdf zQ.fHealth.length zdg),(.slice zdh zQ.fCauses.length zdi),(.slice zdj zQ.fVersions.length zdk)])),(1,(.slice z2R zh.length z2S))]) Try.func24 rfl Try.ntmps24 rfl (Hp.nil w₀ _) rfl ?_
 refine WC.b (WC.a ?_)
 refine WL.new (dd:=2) rfl rfl rfl (y1N (cs:=[(.slice zd5 zQ.fModules.length zd6),(.slice zd7 zQ.fChannels.length zd8),(.slice zd9 zQ.fSwitches.length zda),(.slice zdb zQ.fLinks.length zdc),(.slice zdd zQ.fVLs.length zde),(.slice zdf zQ.fHealth.length zdg),(.slice zdh zQ.fCauses.length zdi),(.slice zdj zQ.fVersions.length zdk)]) rfl rfl) ?_
 intro z8N _
 refine WL.pu rfl (WL.nil (WX.a ?_))
 obtain ⟨z8M,zyb,h⟩:=y2r h
 refine WC.y24 ((z8M = some r)) ([(1,(.slice z2R zh.length z2S))]) ([]) ?_ ?_
 ·skip
  refine WC.b (WC.a (WL.pu rfl ?_))
  refine WL.a (d:=8) rfl rfl rfl (yz Try.underlying33 rfl) ?_
  refine WL.pu rfl (WL.nil (WX.a (WC.block ?_)))
  refine WC.y33 (fun (zdl : Nat) (zk : Int)=>(y1X zh zQ z8M zdl zk = some r)) (fun (zdl : Nat) (zk : Int)=>[(1,(.slice z2R zh.length z2S)),(2,(.pointer (some ⟨z8N,0,none⟩))),(7,(.slice z2R zh.length z2S)),(8,(.int .i64 ((zh.length : Nat) : Int))),(9,(.int .i64 zk))]) (fun (zdl : Nat) (zk : Int)=>[stb z8N 31 [(.slice zd5 zQ.fModules.length zd6),(.slice zd7 zQ.fChannels.length zd8),(.slice zd9 zQ.fSwitches.length zda),(.slice zdb zQ.fLinks.length zdc),(.slice zdd zQ.fVLs.length zde),(.slice zdf zQ.fHealth.length zdg),(.slice zdh zQ.fCauses.length zdi),(.slice zdj zQ.fVersions.length zdk)]]) (fun (zdl : Nat) (zk : Int)=>zdl) ⟨yw,0⟩ h (.cons rfl (.cons rfl (.cons rfl (.cons rfl (.cons rfl .nil))))) (.cons .here .nil) ?_
  rintro zdl zk h
  obtain ⟨zm8,rfl⟩:=y64 h
  rw [y1X] at h
  refine WC.b (WC.a (WL.pu rfl (WL.nil (WX.a (WC.b ?_)))))
  refine WC.cond rfl (fun zm9=>?_) (fun zm9=>?_)
  ·replace h:=ym h zm9
   refine WC.skip (WX.a (WC.b (WC.block (WC.b ?_))))
   obtain ⟨zyc,h⟩:=ye h
   refine WC.a (WL.pu rfl ?_)
   refine WL.znth (dd:=12) rfl rfl (Z:=Z) (Pr:=(fun r x=>r = e53 x)) y2M rfl rfl zrQ zyc ?_
   rintro zIo zIp zyd zIq rfl
   refine WL.a (d:=13) rfl rfl rfl (yx yat rfl (y4t hz.pv zyd) rfl) ?_
   refine WL.new (dd:=6) rfl rfl rfl (y28 (cs:=[(.int .i64 0),(.int .i64 0),(.int .i64 0)]) y9M rfl) ?_
   intro zhi _
   refine WL.pu rfl ?_
   refine WL.y1e rfl rfl (y1z yau rfl rfl rfl .here rfl rfl rfl) ?_
   refine WL.nil (WX.a (WC.b ?_))
   obtain ⟨zye,h⟩:=ye h
   refine WC.yI (fun i=>[].contains i) [] rfl ?_
   refine WD.a (i:=0) (d:=14) (by kernel_rfl) rfl z2 z3 rfl rfl rfl (fun _=>ya y4F rfl rfl) ?_
   refine WD.e (i:=1) (d:=15) (by kernel_rfl) rfl z2 z3 rfl rfl rfl (yb yd rfl (yc .here rfl)) ?_
   refine WD.a (i:=2) (d:=16) (by kernel_rfl) rfl z2 z3 rfl rfl rfl (fun _=>y3O rfl rfl) ?_
   refine WD.a (i:=3) (d:=17) (by kernel_rfl) rfl z2 z3 rfl rfl rfl (fun _=>q_m rfl) ?_
   refine WD.mid (fuel':=38) [(1,(.slice z2R zh.length z2S)),(2,(.pointer (some ⟨z8N,0,none⟩))),(7,(.slice z2R zh.length z2S)),(8,(.int .i64 ((zh.length : Nat) : Int))),(9,(.int .i64 zk)),(6,(.pointer (some ⟨zhi,0,none⟩))),(5,(.int .i64 zk)),(17,(.bool (decide (((nth zh zk).fTime) < 0)))),(21,(.bool ((decide (((nth zh zk).fTime) < 0)) || (decide (((nth zh zk).fTime) > 536870912)))))] (yJ 46 [7,6,5,4,3,2,1,0]) ?_ (fun zrR=>?_)
   rotate_left
   ·rcases Bool.eq_false_or_eq_true (decide (((nth zh zk).fTime) < 0)) with hb' | hb'
    ·have zma:=hb'; clear hb'
     refine WD.pin (i:=17) rfl zma ?_
     refine WD.b (i:=4) (d:=18) (by kernel_rfl) rfl z2 z3 rfl rfl rfl ?_
     refine WD.b (i:=5) (d:=19) (by kernel_rfl) rfl z2 z3 rfl rfl rfl ?_
     refine WD.b (i:=6) (d:=20) (by kernel_rfl) rfl z2 z3 rfl rfl rfl ?_
     refine WD.a (i:=7) (d:=21) (by kernel_rfl) rfl z2 z3 rfl rfl rfl (fun _=>yW rfl rfl) ?_
     refine WD.ys (.cons .here (.cons .here .nil)) ?_ zrR
     exact (.cons rfl (.cons rfl (.cons rfl (.cons rfl (.cons rfl (.cons rfl (.cons rfl (.cons (z7 (Eq.symm zma)) (.cons (z7 (y1p zma)) .nil)))))))))
    ·have zmb:=hb'; clear hb'
     refine WD.pin (i:=17) rfl zmb ?_
     refine WD.a (i:=4) (d:=18) (by kernel_rfl) rfl z2 z3 rfl rfl rfl (fun _=>ya y4F rfl rfl) ?_
     refine WD.e (i:=5) (d:=19) (by kernel_rfl) rfl z2 z3 rfl rfl rfl (yb yd rfl (yc .here rfl)) ?_
     refine WD.a (i:=6) (d:=20) (by kernel_rfl) rfl z2 z3 rfl rfl rfl (fun _=>y3f rfl rfl) ?_
     refine WD.a (i:=7) (d:=21) (by kernel_rfl) rfl z2 z3 rfl rfl rfl (fun _=>yX rfl rfl) ?_
     refine WD.ys (.cons .here (.cons .here .nil)) ?_ zrR
     exact (.cons rfl (.cons rfl (.cons rfl (.cons rfl (.cons rfl (.cons rfl (.cons rfl (.cons (z7 (Eq.symm zmb)) (.cons (z7 (y1q zmb)) .nil)))))))))
   refine WD.d #[true,true,true,true,true,true,true,true,false,false,false,false,false,false,false,false,false,false,false,false,false,false,false,false,false,false,false,false,false,false,false,false,false,false,false,false,false,false,false,false,false,false,false,false,false,false] (by kernel_rfl) ?_
   refine WD.a (i:=8) (d:=22) (by kernel_rfl) rfl z2 z3 rfl rfl rfl (fun _=>q_m rfl) ?_
   refine WD.mid (fuel':=33) [(1,(.slice z2R zh.length z2S)),(2,(.pointer (some ⟨z8N,0,none⟩))),(7,(.slice z2R zh.length z2S)),(8,(.int .i64 ((zh.length : Nat) : Int))),(9,(.int .i64 zk)),(6,(.pointer (some ⟨zhi,0,none⟩))),(5,(.int .i64 zk)),(22,(.bool ((decide (((nth zh zk).fTime) < 0)) || (decide (((nth zh zk).fTime) > 536870912))))),(26,(.bool (((decide (((nth zh zk).fTime) < 0)) || (decide (((nth zh zk).fTime) > 536870912))) || (decide (((nth zh zk).fVL) < 0)))))] (yJ 46 [12,11,10,9,8,7,6,5,4,3,2,1,0]) ?_ (fun zrS=>?_)
   rotate_left
   ·rcases Bool.eq_false_or_eq_true ((decide (((nth zh zk).fTime) < 0)) || (decide (((nth zh zk).fTime) > 536870912))) with hb' | hb'
    ·have zmc:=hb'; clear hb'
     refine WD.pin (i:=22) rfl zmc ?_
     refine WD.b (i:=9) (d:=23) (by kernel_rfl) rfl z2 z3 rfl rfl rfl ?_
     refine WD.b (i:=10) (d:=24) (by kernel_rfl) rfl z2 z3 rfl rfl rfl ?_
     refine WD.b (i:=11) (d:=25) (by kernel_rfl) rfl z2 z3 rfl rfl rfl ?_
     refine WD.a (i:=12) (d:=26) (by kernel_rfl) rfl z2 z3 rfl rfl rfl (fun _=>yW rfl rfl) ?_
     refine WD.ys (.cons .here (.cons .here .nil)) ?_ zrS
     exact (.cons rfl (.cons rfl (.cons rfl (.cons rfl (.cons rfl (.cons rfl (.cons rfl (.cons (z7 (Eq.symm zmc)) (.cons (z7 (y1p zmc)) .nil)))))))))
    ·have zmd:=hb'; clear hb'
     refine WD.pin (i:=22) rfl zmd ?_
     refine WD.a (i:=9) (d:=23) (by kernel_rfl) rfl z2 z3 rfl rfl rfl (fun _=>ya y4G rfl rfl) ?_
     refine WD.e (i:=10) (d:=24) (by kernel_rfl) rfl z2 z3 rfl rfl rfl (yb yd rfl (yc .here rfl)) ?_
     refine WD.a (i:=11) (d:=25) (by kernel_rfl) rfl z2 z3 rfl rfl rfl (fun _=>y3O rfl rfl) ?_
     refine WD.a (i:=12) (d:=26) (by kernel_rfl) rfl z2 z3 rfl rfl rfl (fun _=>yX rfl rfl) ?_
     refine WD.ys (.cons .here (.cons .here .nil)) ?_ zrS
     exact (.cons rfl (.cons rfl (.cons rfl (.cons rfl (.cons rfl (.cons rfl (.cons rfl (.cons (z7 (Eq.symm zmd)) (.cons (z7 (y1q zmd)) .nil)))))))))
   refine WD.d #[true,true,true,true,true,true,true,true,true,true,true,true,true,false,false,false,false,false,false,false,false,false,false,false,false,false,false,false,false,false,false,false,false,false,false,false,false,false,false,false,false,false,false,false,false,false] (by kernel_rfl) ?_
   refine WD.a (i:=13) (d:=27) (by kernel_rfl) rfl z2 z3 rfl rfl rfl (fun _=>q_m rfl) ?_
   refine WD.mid (fuel':=25) [(1,(.slice z2R zh.length z2S)),(2,(.pointer (some ⟨z8N,0,none⟩))),(7,(.slice z2R zh.length z2S)),(8,(.int .i64 ((zh.length : Nat) : Int))),(9,(.int .i64 zk)),(6,(.pointer (some ⟨zhi,0,none⟩))),(5,(.int .i64 zk)),(27,(.bool (((decide (((nth zh zk).fTime) < 0)) || (decide (((nth zh zk).fTime) > 536870912))) || (decide (((nth zh zk).fVL) < 0))))),(34,(.bool ((((decide (((nth zh zk).fTime) < 0)) || (decide (((nth zh zk).fTime) > 536870912))) || (decide (((nth zh zk).fVL) < 0))) || (decide (((nth zh zk).fVL) ≥ ((zQ.fVLs.length : Nat) : Int))))))] (yJ 46 [20,19,18,17,16,15,14,13,12,11,10,9,8,7,6,5,4,3,2,1,0]) ?_ (fun zrT=>?_)
   rotate_left
   ·rcases Bool.eq_false_or_eq_true (((decide (((nth zh zk).fTime) < 0)) || (decide (((nth zh zk).fTime) > 536870912))) || (decide (((nth zh zk).fVL) < 0))) with hb' | hb'
    ·have zme:=hb'; clear hb'
     refine WD.pin (i:=27) rfl zme ?_
     refine WD.b (i:=14) (d:=28) (by kernel_rfl) rfl z2 z3 rfl rfl rfl ?_
     refine WD.b (i:=15) (d:=29) (by kernel_rfl) rfl z2 z3 rfl rfl rfl ?_
     refine WD.b (i:=16) (d:=30) (by kernel_rfl) rfl z2 z3 rfl rfl rfl ?_
     refine WD.b (i:=17) (d:=31) (by kernel_rfl) rfl z2 z3 rfl rfl rfl ?_
     refine WD.b (i:=18) (d:=32) (by kernel_rfl) rfl z2 z3 rfl rfl rfl ?_
     refine WD.b (i:=19) (d:=33) (by kernel_rfl) rfl z2 z3 rfl rfl rfl ?_
     refine WD.a (i:=20) (d:=34) (by kernel_rfl) rfl z2 z3 rfl rfl rfl (fun _=>yW rfl rfl) ?_
     refine WD.ys (.cons .here (.cons .here .nil)) ?_ zrT
     exact (.cons rfl (.cons rfl (.cons rfl (.cons rfl (.cons rfl (.cons rfl (.cons rfl (.cons (z7 (Eq.symm zme)) (.cons (z7 (y1p zme)) .nil)))))))))
    ·have zmf:=hb'; clear hb'
     refine WD.pin (i:=27) rfl zmf ?_
     refine WD.a (i:=14) (d:=28) (by kernel_rfl) rfl z2 z3 rfl rfl rfl (fun _=>ya y4G rfl rfl) ?_
     refine WD.e (i:=15) (d:=29) (by kernel_rfl) rfl z2 z3 rfl rfl rfl (yb yd rfl (yc .here rfl)) ?_
     refine WD.a (i:=16) (d:=30) (by kernel_rfl) rfl z2 z3 rfl rfl rfl (fun _=>ya y6z rfl rfl) ?_
     refine WD.e (i:=17) (d:=31) (by kernel_rfl) rfl z2 z3 rfl rfl rfl (yb y6A rfl (yc .h1 rfl)) ?_
     refine WD.a (i:=18) (d:=32) (by kernel_rfl) rfl z2 z3 rfl rfl rfl (fun _=>yz Try.underlying26 rfl) ?_
     refine WD.a (i:=19) (d:=33) (by kernel_rfl) rfl z2 z3 rfl rfl rfl (fun _=>q_geq rfl rfl) ?_
     refine WD.a (i:=20) (d:=34) (by kernel_rfl) rfl z2 z3 rfl rfl rfl (fun _=>yX rfl rfl) ?_
     refine WD.ys (.cons .here (.cons .here .nil)) ?_ zrT
     exact (.cons rfl (.cons rfl (.cons rfl (.cons rfl (.cons rfl (.cons rfl (.cons rfl (.cons (z7 (Eq.symm zmf)) (.cons (z7 (y1q zmf)) .nil)))))))))
   refine WD.d #[true,true,true,true,true,true,true,true,true,true,true,true,true,true,true,true,true,true,true,true,true,false,false,false,false,false,false,false,false,false,false,false,false,false,false,false,false,false,false,false,false,false,false,false,false,false] (by kernel_rfl) ?_
   refine WD.a (i:=21) (d:=35) (by kernel_rfl) rfl z2 z3 rfl rfl rfl (fun _=>q_m rfl) ?_
   refine WD.mid (fuel':=20) [(1,(.slice z2R zh.length z2S)),(2,(.pointer (some ⟨z8N,0,none⟩))),(7,(.slice z2R zh.length z2S)),(8,(.int .i64 ((zh.length : Nat) : Int))),(9,(.int .i64 zk)),(6,(.pointer (some ⟨zhi,0,none⟩))),(5,(.int .i64 zk)),(35,(.bool ((((decide (((nth zh zk).fTime) < 0)) || (decide (((nth zh zk).fTime) > 536870912))) || (decide (((nth zh zk).fVL) < 0))) || (decide (((nth zh zk).fVL) ≥ ((zQ.fVLs.length : Nat) : Int)))))),(39,(.bool (((((decide (((nth zh zk).fTime) < 0)) || (decide (((nth zh zk).fTime) > 536870912))) || (decide (((nth zh zk).fVL) < 0))) || (decide (((nth zh zk).fVL) ≥ ((zQ.fVLs.length : Nat) : Int)))) || (decide (((nth zh zk).fSize) < 1)))))] (yJ 46 [25,24,23,22,21,20,19,18,17,16,15,14,13,12,11,10,9,8,7,6,5,4,3,2,1,0]) ?_ (fun zrU=>?_)
   rotate_left
   ·rcases Bool.eq_false_or_eq_true ((((decide (((nth zh zk).fTime) < 0)) || (decide (((nth zh zk).fTime) > 536870912))) || (decide (((nth zh zk).fVL) < 0))) || (decide (((nth zh zk).fVL) ≥ ((zQ.fVLs.length : Nat) : Int)))) with hb' | hb'
    ·have zmg:=hb'; clear hb'
     refine WD.pin (i:=35) rfl zmg ?_
     refine WD.b (i:=22) (d:=36) (by kernel_rfl) rfl z2 z3 rfl rfl rfl ?_
     refine WD.b (i:=23) (d:=37) (by kernel_rfl) rfl z2 z3 rfl rfl rfl ?_
     refine WD.b (i:=24) (d:=38) (by kernel_rfl) rfl z2 z3 rfl rfl rfl ?_
     refine WD.a (i:=25) (d:=39) (by kernel_rfl) rfl z2 z3 rfl rfl rfl (fun _=>yW rfl rfl) ?_
     refine WD.ys (.cons .here (.cons .here .nil)) ?_ zrU
     exact (.cons rfl (.cons rfl (.cons rfl (.cons rfl (.cons rfl (.cons rfl (.cons rfl (.cons (z7 (Eq.symm zmg)) (.cons (z7 (y1p zmg)) .nil)))))))))
    ·have zmh:=hb'; clear hb'
     refine WD.pin (i:=35) rfl zmh ?_
     refine WD.a (i:=22) (d:=36) (by kernel_rfl) rfl z2 z3 rfl rfl rfl (fun _=>ya y5N rfl rfl) ?_
     refine WD.e (i:=23) (d:=37) (by kernel_rfl) rfl z2 z3 rfl rfl rfl (yb yd rfl (yc .here rfl)) ?_
     refine WD.a (i:=24) (d:=38) (by kernel_rfl) rfl z2 z3 rfl rfl rfl (fun _=>y3O rfl rfl) ?_
     refine WD.a (i:=25) (d:=39) (by kernel_rfl) rfl z2 z3 rfl rfl rfl (fun _=>yX rfl rfl) ?_
     refine WD.ys (.cons .here (.cons .here .nil)) ?_ zrU
     exact (.cons rfl (.cons rfl (.cons rfl (.cons rfl (.cons rfl (.cons rfl (.cons rfl (.cons (z7 (Eq.symm zmh)) (.cons (z7 (y1q zmh)) .nil)))))))))
   refine WD.d #[true,true,true,true,true,true,true,true,true,true,true,true,true,true,true,true,true,true,true,true,true,true,true,true,true,true,false,false,false,false,false,false,false,false,false,false,false,false,false,false,false,false,false,false,false,false] (by kernel_rfl) ?_
   refine WD.a (i:=26) (d:=40) (by kernel_rfl) rfl z2 z3 rfl rfl rfl (fun _=>q_m rfl) ?_
   refine WD.mid (fuel':=15) [(1,(.slice z2R zh.length z2S)),(2,(.pointer (some ⟨z8N,0,none⟩))),(7,(.slice z2R zh.length z2S)),(8,(.int .i64 ((zh.length : Nat) : Int))),(9,(.int .i64 zk)),(6,(.pointer (some ⟨zhi,0,none⟩))),(5,(.int .i64 zk)),(40,(.bool (((((decide (((nth zh zk).fTime) < 0)) || (decide (((nth zh zk).fTime) > 536870912))) || (decide (((nth zh zk).fVL) < 0))) || (decide (((nth zh zk).fVL) ≥ ((zQ.fVLs.length : Nat) : Int)))) || (decide (((nth zh zk).fSize) < 1))))),(44,(.bool ((((((decide (((nth zh zk).fTime) < 0)) || (decide (((nth zh zk).fTime) > 536870912))) || (decide (((nth zh zk).fVL) < 0))) || (decide (((nth zh zk).fVL) ≥ ((zQ.fVLs.length : Nat) : Int)))) || (decide (((nth zh zk).fSize) < 1))) || (decide (((nth zh zk).fSize) > 72)))))] (yJ 46 [30,29,28,27,26,25,24,23,22,21,20,19,18,17,16,15,14,13,12,11,10,9,8,7,6,5,4,3,2,1,0]) ?_ (fun zrV=>?_)
   rotate_left
   ·rcases Bool.eq_false_or_eq_true (((((decide (((nth zh zk).fTime) < 0)) || (decide (((nth zh zk).fTime) > 536870912))) || (decide (((nth zh zk).fVL) < 0))) || (decide (((nth zh zk).fVL) ≥ ((zQ.fVLs.length : Nat) : Int)))) || (decide (((nth zh zk).fSize) < 1))) with hb' | hb'
    ·have zmi:=hb'; clear hb'
     refine WD.pin (i:=40) rfl zmi ?_
     refine WD.b (i:=27) (d:=41) (by kernel_rfl) rfl z2 z3 rfl rfl rfl ?_
     refine WD.b (i:=28) (d:=42) (by kernel_rfl) rfl z2 z3 rfl rfl rfl ?_
     refine WD.b (i:=29) (d:=43) (by kernel_rfl) rfl z2 z3 rfl rfl rfl ?_
     refine WD.a (i:=30) (d:=44) (by kernel_rfl) rfl z2 z3 rfl rfl rfl (fun _=>yW rfl rfl) ?_
     refine WD.ys (.cons .here (.cons .here .nil)) ?_ zrV
     exact (.cons rfl (.cons rfl (.cons rfl (.cons rfl (.cons rfl (.cons rfl (.cons rfl (.cons (z7 (Eq.symm zmi)) (.cons (z7 (y1p zmi)) .nil)))))))))
    ·have zmj:=hb'; clear hb'
     refine WD.pin (i:=40) rfl zmj ?_
     refine WD.a (i:=27) (d:=41) (by kernel_rfl) rfl z2 z3 rfl rfl rfl (fun _=>ya y5N rfl rfl) ?_
     refine WD.e (i:=28) (d:=42) (by kernel_rfl) rfl z2 z3 rfl rfl rfl (yb yd rfl (yc .here rfl)) ?_
     refine WD.a (i:=29) (d:=43) (by kernel_rfl) rfl z2 z3 rfl rfl rfl (fun _=>y3f rfl rfl) ?_
     refine WD.a (i:=30) (d:=44) (by kernel_rfl) rfl z2 z3 rfl rfl rfl (fun _=>yX rfl rfl) ?_
     refine WD.ys (.cons .here (.cons .here .nil)) ?_ zrV
     exact (.cons rfl (.cons rfl (.cons rfl (.cons rfl (.cons rfl (.cons rfl (.cons rfl (.cons (z7 (Eq.symm zmj)) (.cons (z7 (y1q zmj)) .nil)))))))))
   refine WD.d #[true,true,true,true,true,true,true,true,true,true,true,true,true,true,true,true,true,true,true,true,true,true,true,true,true,true,true,true,true,true,true,false,false,false,false,false,false,false,false,false,false,false,false,false,false,false] (by kernel_rfl) ?_
   refine WD.a (i:=31) (d:=45) (by kernel_rfl) rfl z2 z3 rfl rfl rfl (fun _=>q_m rfl) ?_
   refine WD.mid (fuel':=0) [(1,(.slice z2R zh.length z2S)),(2,(.pointer (some ⟨z8N,0,none⟩))),(7,(.slice z2R zh.length z2S)),(8,(.int .i64 ((zh.length : Nat) : Int))),(9,(.int .i64 zk)),(45,(.bool ((((((decide (((nth zh zk).fTime) < 0)) || (decide (((nth zh zk).fTime) > 536870912))) || (decide (((nth zh zk).fVL) < 0))) || (decide (((nth zh zk).fVL) ≥ ((zQ.fVLs.length : Nat) : Int)))) || (decide (((nth zh zk).fSize) < 1))) || (decide (((nth zh zk).fSize) > 72))))),(59,(.bool (((((((decide (((nth zh zk).fTime) < 0)) || (decide (((nth zh zk).fTime) > 536870912))) || (decide (((nth zh zk).fVL) < 0))) || (decide (((nth zh zk).fVL) ≥ ((zQ.fVLs.length : Nat) : Int)))) || (decide (((nth zh zk).fSize) < 1))) || (decide (((nth zh zk).fSize) > 72))) || ((decide (zk > 0)) && (decide (((nth zh (i64 (zk - 1))).fTime) > ((nth zh zk).fTime)))))))] (yJ 46 [45,44,43,42,41,40,39,38,37,36,35,34,33,32,31,30,29,28,27,26,25,24,23,22,21,20,19,18,17,16,15,14,13,12,11,10,9,8,7,6,5,4,3,2,1,0]) ?_ (fun zrW=>?_)
   rotate_left
   ·rcases Bool.eq_false_or_eq_true ((((((decide (((nth zh zk).fTime) < 0)) || (decide (((nth zh zk).fTime) > 536870912))) || (decide (((nth zh zk).fVL) < 0))) || (decide (((nth zh zk).fVL) ≥ ((zQ.fVLs.length : Nat) : Int)))) || (decide (((nth zh zk).fSize) < 1))) || (decide (((nth zh zk).fSize) > 72))) with hb' | hb'
    ·have zmk:=hb'; clear hb'
     refine WD.pin (i:=45) rfl zmk ?_
     refine WD.b (i:=32) (d:=46) (by kernel_rfl) rfl z2 z3 rfl rfl rfl ?_
     refine WD.b (i:=33) (d:=47) (by kernel_rfl) rfl z2 z3 rfl rfl rfl ?_
     refine WD.b (i:=34) (d:=48) (by kernel_rfl) rfl z2 z3 rfl rfl rfl ?_
     refine WD.b (i:=35) (d:=49) (by kernel_rfl) rfl z2 z3 rfl rfl rfl ?_
     refine WD.b (i:=36) (d:=50) (by kernel_rfl) rfl z2 z3 rfl rfl rfl ?_
     refine WD.b (i:=37) (d:=51) (by kernel_rfl) rfl z2 z3 rfl rfl rfl ?_
     refine WD.b (i:=38) (d:=52) (by kernel_rfl) rfl z2 z3 rfl rfl rfl ?_
     refine WD.b (i:=39) (d:=53) (by kernel_rfl) rfl z2 z3 rfl rfl rfl ?_
     refine WD.b (i:=40) (d:=54) (by kernel_rfl) rfl z2 z3 rfl rfl rfl ?_
     refine WD.b (i:=41) (d:=55) (by kernel_rfl) rfl z2 z3 rfl rfl rfl ?_
     refine WD.b (i:=42) (d:=56) (by kernel_rfl) rfl z2 z3 rfl rfl rfl ?_
     refine WD.b (i:=43) (d:=57) (by kernel_rfl) rfl z2 z3 rfl rfl rfl ?_
     refine WD.b (i:=44) (d:=58) (by kernel_rfl) rfl z2 z3 rfl rfl rfl ?_
     refine WD.a (i:=45) (d:=59) (by kernel_rfl) rfl z2 z3 rfl rfl rfl (fun _=>yW rfl rfl) ?_
     refine WD.ys (.cons .here (.cons .here .nil)) ?_ zrW
     exact (.cons rfl (.cons rfl (.cons rfl (.cons rfl (.cons rfl (.cons (z7 (Eq.symm zmk)) (.cons (z7 (y1p zmk)) .nil)))))))
    ·have zjE:=hb'; clear hb'
     have zyf:=zye zjE
     refine WD.pin (i:=45) rfl zjE ?_
     refine WD.a (i:=32) (d:=46) (by kernel_rfl) rfl z2 z3 rfl rfl rfl (fun _=>q_m rfl) ?_
     refine WD.a (i:=33) (d:=47) (by kernel_rfl) rfl z2 z3 rfl rfl rfl (fun _=>y3f rfl rfl) ?_
     refine WD.a (i:=34) (d:=48) (by kernel_rfl) rfl z2 z3 rfl rfl rfl (fun _=>q_m rfl) ?_
     refine WD.mid (fuel':=1) [(1,(.slice z2R zh.length z2S)),(2,(.pointer (some ⟨z8N,0,none⟩))),(7,(.slice z2R zh.length z2S)),(8,(.int .i64 ((zh.length : Nat) : Int))),(9,(.int .i64 zk)),(45,(.bool false)),(48,(.bool (decide (zk > 0)))),(58,(.bool ((decide (zk > 0)) && (decide (((nth zh (i64 (zk - 1))).fTime) > ((nth zh zk).fTime))))))] (yJ 46 [44,43,42,41,40,39,38,37,36,35,34,33,32,31,30,29,28,27,26,25,24,23,22,21,20,19,18,17,16,15,14,13,12,11,10,9,8,7,6,5,4,3,2,1,0]) ?_ (fun zrX=>?_)
     rotate_left
     ·rcases Bool.eq_false_or_eq_true (decide (zk > 0)) with hb' | hb'
      ·have zjF:=hb'; clear hb'
       have zyg:=zyf zjF
       refine WD.pin (i:=48) rfl zjF ?_
       refine WD.a (i:=35) (d:=49) (by kernel_rfl) rfl z2 z3 rfl rfl rfl (fun _=>q_m rfl) ?_
       refine WD.a (i:=36) (d:=50) (by kernel_rfl) rfl z2 z3 rfl rfl rfl (fun _=>q_m rfl) ?_
       refine WD.a (i:=37) (d:=51) (by kernel_rfl) rfl z2 z3 rfl rfl rfl (fun _=>y3Z rfl rfl rfl) ?_
       refine WD.znth (j:=38) (dd:=52) (by kernel_rfl) rfl z2 z3 rfl rfl (Z:=Z) (Pr:=(fun r x=>r = e53 x)) y2M rfl rfl zrQ zyg ?_
       rintro zIr zIs zyh zIt rfl
       refine WD.a (i:=39) (d:=53) (by kernel_rfl) rfl z2 z3 rfl rfl rfl (fun _=>ya y4F rfl rfl) ?_
       refine WD.e (i:=40) (d:=54) (by kernel_rfl) rfl z2 z3 rfl rfl rfl (yb yd rfl (yD hz.pv zyh rfl)) ?_
       refine WD.a (i:=41) (d:=55) (by kernel_rfl) rfl z2 z3 rfl rfl rfl (fun _=>ya y4F rfl rfl) ?_
       refine WD.e (i:=42) (d:=56) (by kernel_rfl) rfl z2 z3 rfl rfl rfl (yb yd rfl (yc .here rfl)) ?_
       refine WD.a (i:=43) (d:=57) (by kernel_rfl) rfl z2 z3 rfl rfl rfl (fun _=>y3f rfl rfl) ?_
       refine WD.a (i:=44) (d:=58) (by kernel_rfl) rfl z2 z3 rfl rfl rfl (fun _=>yW rfl rfl) ?_
       refine WD.ys (.cons .here (.cons .here .nil)) ?_ zrX
       exact (.cons rfl (.cons rfl (.cons rfl (.cons rfl (.cons rfl (.cons rfl (.cons (z7 (Eq.symm zjF)) (.cons (z7 (y1H zjF)) .nil))))))))
      ·have zml:=hb'; clear hb'
       refine WD.pin (i:=48) rfl zml ?_
       refine WD.b (i:=35) (d:=49) (by kernel_rfl) rfl z2 z3 rfl rfl rfl ?_
       refine WD.b (i:=36) (d:=50) (by kernel_rfl) rfl z2 z3 rfl rfl rfl ?_
       refine WD.b (i:=37) (d:=51) (by kernel_rfl) rfl z2 z3 rfl rfl rfl ?_
       refine WD.b (i:=38) (d:=52) (by kernel_rfl) rfl z2 z3 rfl rfl rfl ?_
       refine WD.b (i:=39) (d:=53) (by kernel_rfl) rfl z2 z3 rfl rfl rfl ?_
       refine WD.b (i:=40) (d:=54) (by kernel_rfl) rfl z2 z3 rfl rfl rfl ?_
       refine WD.b (i:=41) (d:=55) (by kernel_rfl) rfl z2 z3 rfl rfl rfl ?_
       refine WD.b (i:=42) (d:=56) (by kernel_rfl) rfl z2 z3 rfl rfl rfl ?_
       refine WD.b (i:=43) (d:=57) (by kernel_rfl) rfl z2 z3 rfl rfl rfl ?_
       refine WD.a (i:=44) (d:=58) (by kernel_rfl) rfl z2 z3 rfl rfl rfl (fun _=>yX rfl rfl) ?_
       refine WD.ys (.cons .here (.cons .here .nil)) ?_ zrX
       exact (.cons rfl (.cons rfl (.cons rfl (.cons rfl (.cons rfl (.cons rfl (.cons (z7 (Eq.symm zml)) (.cons (z7 (y1G zml)) .nil))))))))
     refine WD.d #[true,true,true,true,true,true,true,true,true,true,true,true,true,true,true,true,true,true,true,true,true,true,true,true,true,true,true,true,true,true,true,true,true,true,true,true,true,true,true,true,true,true,true,true,true,false] (by kernel_rfl) ?_
     refine WD.a (i:=45) (d:=59) (by kernel_rfl) rfl z2 z3 rfl rfl rfl (fun _=>yX rfl rfl) ?_
     refine WD.ys (.cons .here (.cons .here .nil)) ?_ zrW
     exact (.cons rfl (.cons rfl (.cons rfl (.cons rfl (.cons rfl (.cons (z7 (Eq.symm zjE)) (.cons (z7 (y1q zjE)) .nil)))))))
   refine WD.d #[true,true,true,true,true,true,true,true,true,true,true,true,true,true,true,true,true,true,true,true,true,true,true,true,true,true,true,true,true,true,true,true,true,true,true,true,true,true,true,true,true,true,true,true,true,true] (by kernel_rfl) ?_
   refine WD.done (by kernel_rfl) ?_
   refine WX.a ?_
   refine WC.cond rfl (fun zmm=>?_) (fun zmm=>?_)
   ·replace h:=ym h zmm
    refine WC.b (WC.a (WL.pu rfl (WL.nil (WX.a (WC.ret (WX.yH (WX.yj (WX.yj (WX.yH (WX.yj ?_))))))))))
    obtain rfl:=Option.some.inj h
    refine WX.yi Try.results24 (.tmp rfl .nil) (fun w hw=>?_)
    exact ⟨yM rfl,hw.sub .nil⟩
   ·replace h:=yn h zmm
    refine WC.skip (WX.yk (WX.a (WC.a (WL.pu rfl (WL.pu rfl (WL.nil ?_))))))
    exact WX.round (G:=Nat × Int) ⟨zm8,(i64 (zk + 1))⟩ h (Nat.lt_succ_self _) (.cons rfl (.cons rfl (.cons rfl (.cons rfl (.cons rfl .nil))))) (.cons .h1 .nil)
  ·replace h:=yn h zm9
   refine WC.exit (WX.yg (WX.yg (WX.yv ?_)))
   exact WX.mid (G:=Unit) () h (.cons rfl .nil) .nil
 ·rintro  h
  replace h:=zyb.symm.trans h
  refine WC.b (WC.a (WL.pu rfl ?_))
  refine WL.a (d:=62) rfl rfl rfl (yz Try.underlying33 rfl) ?_
  refine WL.pu rfl (WL.pu rfl (WL.nil (WX.a (WC.ret ?_))))
  obtain rfl:=Option.some.inj h
  refine WX.yi Try.results24 (.tmp rfl .nil) (fun w hw=>?_)
  exact ⟨yM rfl,hw.sub .nil⟩
def y2o (zbd : List Snetwork_event) : Option Int :=
 some ((zbd.length : Nat) : Int)
set_option maxRecDepth 20000 in
theorem y5j (Z : Zp) (zjG : Option Addr) (zjH : Nat) (zbd : List Snetwork_event) (r : Int)
  (h : y2o zbd = some r) (w₀ : World) (hz : PZ [] w₀ Z)
  (zIu : ZS Z 7 (fun r x=>r = yF x) zjG zjH zbd) :
  Calls Try.prog 86 #[(.slice zjG zbd.length zjH)] w₀ fun e w'=>e = .returned (.int .i64 r) ∧ Hp [] w₀ w' []:=by
 unfold y2o at h
 refine Calls.yp (vs:=[(.slice zjG zbd.length zjH)]) (pre:=[]) (env:=[(0,(.slice zjG zbd.length zjH))]) Try.func86 rfl Try.ntmps86 rfl (Hp.nil w₀ _) rfl ?_
 refine WC.b (WC.a (WL.pu rfl (WL.nil (WX.a (WC.b (WC.a (WL.pu rfl ?_)))))))
 refine WL.a (d:=4) rfl rfl rfl (yz Try.underlying79 rfl) ?_
 refine WL.pu rfl (WL.nil (WX.a (WC.ret ?_)))
 obtain rfl:=Option.some.inj h
 refine WX.yi Try.results86 (.tmp rfl .nil) (fun w hw=>?_)
 exact ⟨yM rfl,hw.sub .nil⟩
def y42 (zbe : Int) : Option Bool :=
 some (decide (zbe ≠ zbe))
set_option maxRecDepth 20000 in
theorem y6h (Z : Zp)  (zbe : Int) (r : Bool)
  (h : y42 zbe = some r) (w₀ : World) (hz : PZ [] w₀ Z) :
  Calls Try.prog 58 #[(.int .i64 zbe)] w₀ fun e w'=>e = .returned (.bool r) ∧ Hp [] w₀ w' []:=by
 unfold y42 at h
 refine Calls.yp (vs:=[(.int .i64 zbe)]) (pre:=[]) (env:=[(0,(.int .i64 zbe))]) Try.func58 rfl Try.ntmps58 rfl (Hp.nil w₀ _) rfl ?_
 refine WC.b (WC.a (WL.pu rfl (WL.nil (WX.a (WC.b (WC.a (WL.pu rfl (WL.pu rfl (WL.pu rfl (WL.pu rfl (WL.nil (WX.a (WC.ret ?_)))))))))))))
 obtain rfl:=Option.some.inj h
 refine WX.yi Try.results58 (.tmp rfl .nil) (fun w hw=>?_)
 exact ⟨yM rfl,hw.sub .nil⟩
def y1y (z9Z : Int) (za0 : Int) : Option Int :=
 (y42 z9Z).bind fun zrY=>(y42 za0).bind fun zmn=>if zrY then if zmn then some 0 else some (-1) else if zmn then some 1 else if decide (z9Z < za0) then some (-1) else if decide (z9Z > za0) then some 1 else some 0
set_option maxRecDepth 20000 in
theorem y2u (Z : Zp)  (z9Z : Int) (za0 : Int) (r : Int)
  (h : y1y z9Z za0 = some r) (w₀ : World) (hz : PZ [] w₀ Z) :
  Calls Try.prog 45 #[(.int .i64 z9Z),(.int .i64 za0)] w₀ fun e w'=>e = .returned (.int .i64 r) ∧ Hp [] w₀ w' []:=by
 unfold y1y at h
 refine Calls.yp (vs:=[(.int .i64 z9Z),(.int .i64 za0)]) (pre:=[]) (env:=[(0,(.int .i64 z9Z)),(1,(.int .i64 za0))]) Try.func45 rfl Try.ntmps45 rfl (Hp.nil w₀ _) rfl ?_
 refine WC.b (WC.a (WL.pu rfl (WL.nil (WX.a (WC.b ?_)))))
 obtain ⟨zrY,zyi,h⟩:=zg h
 refine WC.a (WL.pu rfl ?_)
 refine WL.b (dd:=8) rfl rfl rfl (zC (l:=[.tmp 7]) Try.call58 (.cons rfl .nil)) .nil (cc hz .nil fun w pz ho=>y6h _ _ _ zyi w pz ) ?_
 refine WL.pu rfl (WL.nil (WX.a (WC.b ?_)))
 obtain ⟨zmn,zyj,h⟩:=zg h
 refine WC.a (WL.pu rfl ?_)
 refine WL.b (dd:=10) rfl rfl rfl (zC (l:=[.tmp 9]) Try.call58 (.cons rfl .nil)) .nil (cc hz .nil fun w pz ho=>y6h _ _ _ zyj w pz ) ?_
 refine WL.pu rfl (WL.nil (WX.a (WC.b (WC.b (WC.a (WL.pu rfl (WL.nil (WX.a ?_))))))))
 refine WC.cond rfl (fun zmo=>?_) (fun zmo=>?_)
 ·replace h:=ym h zmo
  refine WC.b (WC.b (WC.a (WL.pu rfl (WL.nil (WX.a ?_)))))
  refine WC.cond rfl (fun zmp=>?_) (fun zmp=>?_)
  ·replace h:=ym h zmp
   refine WC.b (WC.a (WL.pu rfl (WL.nil (WX.a (WC.ret (WX.yj (WX.yj ?_)))))))
   obtain rfl:=Option.some.inj h
   refine WX.yi Try.results45 (.tmp rfl .nil) (fun w hw=>?_)
   exact ⟨yM rfl,hw.sub .nil⟩
  ·replace h:=yn h zmp
   refine WC.skip (WX.a (WC.b (WC.a (WL.pu rfl (WL.nil (WX.a (WC.ret (WX.yj ?_))))))))
   obtain rfl:=Option.some.inj h
   refine WX.yi Try.results45 (.tmp rfl .nil) (fun w hw=>?_)
   exact ⟨yM rfl,hw.sub .nil⟩
 ·replace h:=yn h zmo
  refine WC.skip (WX.a (WC.b (WC.b (WC.a (WL.pu rfl (WL.nil (WX.a ?_)))))))
  refine WC.cond rfl (fun zmq=>?_) (fun zmq=>?_)
  ·replace h:=ym h zmq
   refine WC.b (WC.a (WL.pu rfl (WL.nil (WX.a (WC.ret (WX.yj ?_))))))
   obtain rfl:=Option.some.inj h
   refine WX.yi Try.results45 (.tmp rfl .nil) (fun w hw=>?_)
   exact ⟨yM rfl,hw.sub .nil⟩
  ·replace h:=yn h zmq
   refine WC.skip (WX.a (WC.b (WC.b (WC.a (WL.pu rfl (WL.pu rfl (WL.pu rfl (WL.nil (WX.a ?_)))))))))
   refine WC.cond rfl (fun zmr=>?_) (fun zmr=>?_)
   ·replace h:=ym h zmr
    refine WC.b (WC.a (WL.pu rfl (WL.nil (WX.a (WC.ret (WX.yj ?_))))))
    obtain rfl:=Option.some.inj h
    refine WX.yi Try.results45 (.tmp rfl .nil) (fun w hw=>?_)
    exact ⟨yM rfl,hw.sub .nil⟩
   ·replace h:=yn h zmr
    refine WC.skip (WX.a (WC.b (WC.b (WC.a (WL.pu rfl (WL.pu rfl (WL.pu rfl (WL.nil (WX.a ?_)))))))))
    refine WC.cond rfl (fun zms=>?_) (fun zms=>?_)
    ·replace h:=ym h zms
     refine WC.b (WC.a (WL.pu rfl (WL.nil (WX.a (WC.ret (WX.yj ?_))))))
     obtain rfl:=Option.some.inj h
     refine WX.yi Try.results45 (.tmp rfl .nil) (fun w hw=>?_)
     exact ⟨yM rfl,hw.sub .nil⟩
    ·replace h:=yn h zms
     refine WC.skip (WX.a (WC.b (WC.a (WL.pu rfl (WL.nil (WX.a (WC.ret ?_)))))))
     obtain rfl:=Option.some.inj h
     refine WX.yi Try.results45 (.tmp rfl .nil) (fun w hw=>?_)
     exact ⟨yM rfl,hw.sub .nil⟩
def y2V (z3A : List Int) (z8O : Option Int) : Nat → Int → Option Int
 | 0,_=>none
 | zmt + 1,z45=>if decide (z45 < ((z3A.length : Nat) : Int)) then chk ((0 : Int) ≤ z45 ∧ z45 < ((z3A.length : Nat) : Int)) (if decide ((nth z3A z45) ≠ 0) then some (nth z3A z45) else y2V z3A z8O zmt (i64 (z45 + 1))) else z8O
theorem y78 {n : Nat} {z3A : List Int} {z8O : Option Int} {z45 : Int} {r : Int} (h : y2V z3A z8O n z45 = some r) : ∃ m,n = m + 1:=by
 cases n with
 | zero=>cases h
 | succ m=>exact ⟨m,rfl⟩
def y4b (z3A : List Int) : Option Int :=
 jp0 (some 0) fun z8O=>y2V z3A z8O yw 0
set_option maxRecDepth 20000 in
theorem y7D (Z : Zp) (zhj : Option Addr) (zhk : Nat) (z3A : List Int) (r : Int)
  (h : y4b z3A = some r) (w₀ : World) (hz : PZ [] w₀ Z)
  (zyk : ZS Z 1 (fun r x=>r = e3 x) zhj zhk z3A) :
  Calls Try.prog 44 #[(.slice zhj z3A.length zhk)] w₀ fun e w'=>e = .returned (.int .i64 r) ∧ Hp [] w₀ w' []:=by
 unfold y4b at h
 refine Calls.yp (vs:=[(.slice zhj z3A.length zhk)]) (pre:=[]) (env:=[(0,(.slice zhj z3A.length zhk))]) Try.func44 rfl Try.ntmps44 rfl (Hp.nil w₀ _) rfl ?_
 refine WC.b (WC.a (WL.pu rfl (WL.nil (WX.a (WC.b (WC.a (WL.pu rfl (WL.nil (WX.a ?_)))))))))
 obtain ⟨z8O,zyl,h⟩:=y2r h
 refine WC.y24 ((z8O = some r)) ([(3,(.int .i64 0))]) ([]) ?_ ?_
 ·skip
  refine WC.b (WC.a (WL.pu rfl ?_))
  refine WL.a (d:=7) rfl rfl rfl (yz Try.underlying56 rfl) ?_
  refine WL.pu rfl (WL.nil (WX.a (WC.block ?_)))
  refine WC.y33 (fun (zdm : Nat) (z45 : Int)=>(y2V z3A z8O zdm z45 = some r)) (fun (zdm : Nat) (z45 : Int)=>[(3,(.int .i64 0)),(6,(.slice zhj z3A.length zhk)),(7,(.int .i64 ((z3A.length : Nat) : Int))),(8,(.int .i64 z45))]) (fun (zdm : Nat) (z45 : Int)=>[]) (fun (zdm : Nat) (z45 : Int)=>zdm) ⟨yw,0⟩ h (.cons rfl (.cons rfl (.cons rfl (.cons rfl .nil)))) .nil ?_
  rintro zdm z45 h
  obtain ⟨zmt,rfl⟩:=y78 h
  rw [y2V] at h
  refine WC.b (WC.a (WL.pu rfl (WL.nil (WX.a (WC.b ?_)))))
  refine WC.cond rfl (fun zmu=>?_) (fun zmu=>?_)
  ·replace h:=ym h zmu
   refine WC.skip (WX.a (WC.b (WC.block (WC.b ?_))))
   obtain ⟨zym,h⟩:=ye h
   refine WC.a ?_
   refine WL.znth (dd:=10) rfl rfl (Z:=Z) (Pr:=(fun r x=>r = e3 x)) y2q rfl rfl zyk zym ?_
   rintro zIv zIw zyn zIx rfl
   refine WL.a (d:=11) rfl rfl rfl (yb yd rfl (y4R hz.pv zyn rfl)) ?_
   refine WL.pu rfl (WL.nil (WX.a (WC.b (WC.a (WL.pu rfl (WL.pu rfl (WL.pu rfl (WL.nil (WX.a ?_)))))))))
   refine WC.cond rfl (fun zmv=>?_) (fun zmv=>?_)
   ·replace h:=ym h zmv
    refine WC.b (WC.a (WL.pu rfl (WL.pu rfl (WL.nil (WX.a (WC.ret (WX.yH (WX.yj (WX.yj (WX.yH (WX.yj ?_)))))))))))
    obtain rfl:=Option.some.inj h
    refine WX.yi Try.results44 (.tmp rfl .nil) (fun w hw=>?_)
    exact ⟨yM rfl,hw.sub .nil⟩
   ·replace h:=yn h zmv
    refine WC.skip (WX.yk (WX.a (WC.a (WL.pu rfl (WL.pu rfl (WL.nil ?_))))))
    exact WX.round (G:=Nat × Int) ⟨zmt,(i64 (z45 + 1))⟩ h (Nat.lt_succ_self _) (.cons rfl (.cons rfl (.cons rfl (.cons rfl .nil)))) .nil
  ·replace h:=yn h zmu
   refine WC.exit (WX.yg (WX.yg (WX.yv ?_)))
   exact WX.mid (G:=Unit) () h (.cons rfl .nil) .nil
 ·rintro  h
  replace h:=zyl.symm.trans h
  refine WC.b (WC.a (WL.pu rfl (WL.pu rfl (WL.nil (WX.a (WC.ret ?_))))))
  obtain rfl:=Option.some.inj h
  refine WX.yi Try.results44 (.tmp rfl .nil) (fun w hw=>?_)
  exact ⟨yM rfl,hw.sub .nil⟩
def y2a (z1B : Snetwork_event) (z1C : Snetwork_event) : Option Int :=
 (y1y z1B.fTime z1C.fTime).bind fun zmw=>(y1y z1B.fIn_ z1C.fIn_).bind fun zmx=>(y1y z1B.fVl z1C.fVl).bind fun zmy=>(y1y z1B.fSent z1C.fSent).bind fun zmz=>(y4b ([zmw,zmx,zmy,zmz] : List Int)).bind fun zrZ=>some zrZ
set_option maxRecDepth 20000 in
theorem y6n (Z : Zp)  (z1B : Snetwork_event) (z1C : Snetwork_event) (r : Int)
  (h : y2a z1B z1C = some r) (w₀ : World) (hz : PZ [] w₀ Z) :
  Calls Try.prog 89 #[(.agg #[(.int .i64 z1B.fTime),(.int .i64 z1B.fIn_),(.int .i64 z1B.fVl),(.int .i64 z1B.fSent),(.int .i64 z1B.fHop.fNode),(.int .i64 z1B.fHop.fNext),(.int .i64 z1B.fHop.fLink)]),(.agg #[(.int .i64 z1C.fTime),(.int .i64 z1C.fIn_),(.int .i64 z1C.fVl),(.int .i64 z1C.fSent),(.int .i64 z1C.fHop.fNode),(.int .i64 z1C.fHop.fNext),(.int .i64 z1C.fHop.fLink)])] w₀ fun e w'=>e = .returned (.int .i64 r) ∧ Hp [] w₀ w' []:=by
 unfold y2a at h
 refine Calls.yp (vs:=[(.agg #[(.int .i64 z1B.fTime),(.int .i64 z1B.fIn_),(.int .i64 z1B.fVl),(.int .i64 z1B.fSent),(.int .i64 z1B.fHop.fNode),(.int .i64 z1B.fHop.fNext),(.int .i64 z1B.fHop.fLink)]),(.agg #[(.int .i64 z1C.fTime),(.int .i64 z1C.fIn_),(.int .i64 z1C.fVl),(.int .i64 z1C.fSent),(.int .i64 z1C.fHop.fNode),(.int .i64 z1C.fHop.fNext),(.int .i64 z1C.fHop.fLink)])]) (pre:=[]) (env:=[(0,(.agg #[(.int .i64 z1B.fTime),(.int .i64 z1B.fIn_),(.int .i64 z1B.fVl),(.int .i64 z1B.fSent),(.int .i64 z1B.fHop.fNode),(.int .i64 z1B.fHop.fNext),(.int .i64 z1B.fHop.fLink)])),(1,(.agg #[(.int .i64 z1C.fTime),(.int .i64 z1C.fIn_),(.int .i64 z1C.fVl),(.int .i64 z1C.fSent),(.int .i64 z1C.fHop.fNode),(.int .i64 z1C.fHop.fNext),(.int .i64 z1C.fHop.fLink)]))]) Try.func89 rfl Try.ntmps89 rfl (Hp.nil w₀ _) rfl ?_
 refine WC.b (WC.a ?_)
 refine WL.new (dd:=2) rfl rfl rfl (y1N (cs:=[(.int .i64 z1B.fTime),(.int .i64 z1B.fIn_),(.int .i64 z1B.fVl),(.int .i64 z1B.fSent),(.int .i64 z1B.fHop.fNode),(.int .i64 z1B.fHop.fNext),(.int .i64 z1B.fHop.fLink)]) rfl rfl) ?_
 intro zIy _
 refine WL.new (dd:=3) rfl rfl rfl (y1N (cs:=[(.int .i64 z1C.fTime),(.int .i64 z1C.fIn_),(.int .i64 z1C.fVl),(.int .i64 z1C.fSent),(.int .i64 z1C.fHop.fNode),(.int .i64 z1C.fHop.fNext),(.int .i64 z1C.fHop.fLink)]) rfl rfl) ?_
 intro zIz _
 refine WL.pu rfl (WL.nil (WX.a (WC.b ?_)))
 obtain ⟨zmw,zyo,h⟩:=zg h
 obtain ⟨zmx,zyp,h⟩:=zg h
 obtain ⟨zmy,zyq,h⟩:=zg h
 obtain ⟨zmz,zyr,h⟩:=zg h
 obtain ⟨zrZ,zys,h⟩:=zg h
 refine WC.yI (fun i=>[].contains i) [] rfl ?_
 refine WD.a (i:=0) (d:=5) (by kernel_rfl) rfl z2 z3 rfl rfl rfl (fun _=>ya y75 rfl rfl) ?_
 refine WD.e (i:=1) (d:=6) (by kernel_rfl) rfl z2 z3 rfl rfl rfl (yb yd rfl (yc .h1 rfl)) ?_
 refine WD.a (i:=2) (d:=7) (by kernel_rfl) rfl z2 z3 rfl rfl rfl (fun _=>ya y75 rfl rfl) ?_
 refine WD.e (i:=3) (d:=8) (by kernel_rfl) rfl z2 z3 rfl rfl rfl (yb yd rfl (yc .here rfl)) ?_
 refine WD.c (i:=4) (d:=9) (by kernel_rfl) rfl z2 z3 rfl rfl rfl (zC (l:=[.tmp 6,.tmp 8]) Try.call45 (.cons rfl (.cons rfl .nil))) (cc hz .nil fun w pz ho=>y2u _ _ _ _ zyo w pz ) ?_
 refine WD.a (i:=5) (d:=10) (by kernel_rfl) rfl z2 z3 rfl rfl rfl (fun _=>ya y9O rfl rfl) ?_
 refine WD.e (i:=6) (d:=11) (by kernel_rfl) rfl z2 z3 rfl rfl rfl (yb yd rfl (yc .h1 rfl)) ?_
 refine WD.a (i:=7) (d:=12) (by kernel_rfl) rfl z2 z3 rfl rfl rfl (fun _=>ya y9O rfl rfl) ?_
 refine WD.e (i:=8) (d:=13) (by kernel_rfl) rfl z2 z3 rfl rfl rfl (yb yd rfl (yc .here rfl)) ?_
 refine WD.c (i:=9) (d:=14) (by kernel_rfl) rfl z2 z3 rfl rfl rfl (zC (l:=[.tmp 11,.tmp 13]) Try.call45 (.cons rfl (.cons rfl .nil))) (cc hz .nil fun w pz ho=>y2u _ _ _ _ zyp w pz ) ?_
 refine WD.a (i:=10) (d:=15) (by kernel_rfl) rfl z2 z3 rfl rfl rfl (fun _=>ya y9P rfl rfl) ?_
 refine WD.e (i:=11) (d:=16) (by kernel_rfl) rfl z2 z3 rfl rfl rfl (yb yd rfl (yc .h1 rfl)) ?_
 refine WD.a (i:=12) (d:=17) (by kernel_rfl) rfl z2 z3 rfl rfl rfl (fun _=>ya y9P rfl rfl) ?_
 refine WD.e (i:=13) (d:=18) (by kernel_rfl) rfl z2 z3 rfl rfl rfl (yb yd rfl (yc .here rfl)) ?_
 refine WD.c (i:=14) (d:=19) (by kernel_rfl) rfl z2 z3 rfl rfl rfl (zC (l:=[.tmp 16,.tmp 18]) Try.call45 (.cons rfl (.cons rfl .nil))) (cc hz .nil fun w pz ho=>y2u _ _ _ _ zyq w pz ) ?_
 refine WD.a (i:=15) (d:=20) (by kernel_rfl) rfl z2 z3 rfl rfl rfl (fun _=>ya y5q rfl rfl) ?_
 refine WD.e (i:=16) (d:=21) (by kernel_rfl) rfl z2 z3 rfl rfl rfl (yb yd rfl (yc .h1 rfl)) ?_
 refine WD.a (i:=17) (d:=22) (by kernel_rfl) rfl z2 z3 rfl rfl rfl (fun _=>ya y5q rfl rfl) ?_
 refine WD.e (i:=18) (d:=23) (by kernel_rfl) rfl z2 z3 rfl rfl rfl (yb yd rfl (yc .here rfl)) ?_
 refine WD.c (i:=19) (d:=24) (by kernel_rfl) rfl z2 z3 rfl rfl rfl (zC (l:=[.tmp 21,.tmp 23]) Try.call45 (.cons rfl (.cons rfl .nil))) (cc hz .nil fun w pz ho=>y2u _ _ _ _ zyr w pz ) ?_
 refine WD.new (i:=20) (dd:=25) rfl (by kernel_rfl) rfl rfl rfl (yC (cs:=([zmw,zmx,zmy,zmz] : List Int).flatMap e3) y2q (Eos.parts (l:=[.tmp 9,.tmp 14,.tmp 19,.tmp 24]) (.cons rfl (.cons rfl (.cons rfl (.cons rfl .nil)))) [0,1,2,3]) (fun _=>by kernel_rfl) rfl (by unfold maxLen; omega)) (fun h'=>absurd h' (by decide)) ?_
 intro zIA _
 refine WD.c (i:=21) (d:=26) (by kernel_rfl) rfl z2 z3 rfl rfl rfl (zC (l:=[.tmp 25]) Try.call44 (.cons rfl .nil)) (ccl hz .nil (.cons .here .nil) fun w pz ho la=>y7D _ _ _ _ _ zys w pz (ZA.row (la _ (.head _) _) (RR.y19 (enc:=e3) (fun _=>rfl) _) ⟨w,pz.1⟩)) ?_
 refine WD.a (i:=22) (d:=4) (by kernel_rfl) rfl z2 z3 rfl rfl rfl (fun _=>q_z rfl) ?_
 refine WD.done (by kernel_rfl) ?_
 refine WX.a (WC.ret ?_)
 obtain rfl:=Option.some.inj h
 refine WX.yi Try.results89 (.tmp rfl .nil) (fun w hw=>?_)
 exact ⟨yM rfl,hw.sub .nil⟩
def y1K (z2q : List Snetwork_event) (z4C : Int) (z4D : Int) : Option Bool :=
 chk ((0 : Int) ≤ z4C ∧ z4C < ((z2q.length : Nat) : Int)) (chk ((0 : Int) ≤ z4D ∧ z4D < ((z2q.length : Nat) : Int)) ((y2a (⟨((nth z2q z4C).fTime),((nth z2q z4C).fIn_),((nth z2q z4C).fVl),((nth z2q z4C).fSent),(⟨(((nth z2q z4C).fHop).fNode),(((nth z2q z4C).fHop).fNext),(((nth z2q z4C).fHop).fLink)⟩ : Sapi_Hop)⟩ : Snetwork_event) (⟨((nth z2q z4D).fTime),((nth z2q z4D).fIn_),((nth z2q z4D).fVl),((nth z2q z4D).fSent),(⟨(((nth z2q z4D).fHop).fNode),(((nth z2q z4D).fHop).fNext),(((nth z2q z4D).fHop).fLink)⟩ : Sapi_Hop)⟩ : Snetwork_event)).bind fun zs0=>some (decide (zs0 < 0))))
set_option maxRecDepth 20000 in
theorem y4c (Z : Zp) (zjI : Option Addr) (zjJ : Nat) (z2q : List Snetwork_event) (z4C : Int) (z4D : Int) (r : Bool)
  (h : y1K z2q z4C z4D = some r) (w₀ : World) (hz : PZ [] w₀ Z)
  (zs1 : ZS Z 7 (fun r x=>r = yF x) zjI zjJ z2q) :
  Calls Try.prog 87 #[(.slice zjI z2q.length zjJ),(.int .i64 z4C),(.int .i64 z4D)] w₀ fun e w'=>e = .returned (.bool r) ∧ Hp [] w₀ w' []:=by
 unfold y1K at h
 refine Calls.yp (vs:=[(.slice zjI z2q.length zjJ),(.int .i64 z4C),(.int .i64 z4D)]) (pre:=[]) (env:=[(0,(.slice zjI z2q.length zjJ)),(1,(.int .i64 z4C)),(2,(.int .i64 z4D))]) Try.func87 rfl Try.ntmps87 rfl (Hp.nil w₀ _) rfl ?_
 refine WC.b (WC.a (WL.pu rfl (WL.nil (WX.a (WC.b ?_)))))
 obtain ⟨zyt,h⟩:=ye h
 obtain ⟨zyu,h⟩:=ye h
 obtain ⟨zs0,zyv,h⟩:=zg h
 refine WC.yI (fun i=>[].contains i) [] rfl ?_
 refine WD.a (i:=0) (d:=7) (by kernel_rfl) rfl z2 z3 rfl rfl rfl (fun _=>q_m rfl) ?_
 refine WD.a (i:=1) (d:=8) (by kernel_rfl) rfl z2 z3 rfl rfl rfl (fun _=>q_m rfl) ?_
 refine WD.znth (j:=2) (dd:=9) (by kernel_rfl) rfl z2 z3 rfl rfl (Z:=Z) (Pr:=(fun r x=>r = yF x)) y4Z rfl rfl zs1 zyt ?_
 rintro zIB zIC zyw zID rfl
 refine WD.e (i:=3) (d:=10) (by kernel_rfl) rfl z2 z3 rfl rfl rfl (yx zcH rfl (y4t hz.pv zyw) rfl) ?_
 refine WD.a (i:=4) (d:=11) (by kernel_rfl) rfl z2 z3 rfl rfl rfl (fun _=>q_m rfl) ?_
 refine WD.a (i:=5) (d:=12) (by kernel_rfl) rfl z2 z3 rfl rfl rfl (fun _=>q_m rfl) ?_
 refine WD.znth (j:=6) (dd:=13) (by kernel_rfl) rfl z2 z3 rfl rfl (Z:=Z) (Pr:=(fun r x=>r = yF x)) y4Z rfl rfl zs1 zyu ?_
 rintro zIE zIF zyx zIG rfl
 refine WD.e (i:=7) (d:=14) (by kernel_rfl) rfl z2 z3 rfl rfl rfl (yx zcH rfl (y4t hz.pv zyx) rfl) ?_
 refine WD.c (i:=8) (d:=15) (by kernel_rfl) rfl z2 z3 rfl rfl rfl (zC (l:=[.tmp 10,.tmp 14]) Try.call89 (.cons rfl (.cons rfl .nil))) (cc hz .nil fun w pz ho=>y6n _ _ _ _ zyv w pz ) ?_
 refine WD.a (i:=9) (d:=16) (by kernel_rfl) rfl z2 z3 rfl rfl rfl (fun _=>y3O rfl rfl) ?_
 refine WD.a (i:=10) (d:=6) (by kernel_rfl) rfl z2 z3 rfl rfl rfl (fun _=>q_z rfl) ?_
 refine WD.done (by kernel_rfl) ?_
 refine WX.a (WC.ret ?_)
 obtain rfl:=Option.some.inj h
 refine WX.yi Try.results87 (.tmp rfl .nil) (fun w hw=>?_)
 exact ⟨yM rfl,hw.sub .nil⟩
def y1L (z9 : List Snetwork_event) (z10 : Int) (zA : Int) : Option (List Snetwork_event) :=
 chk ((0 : Int) ≤ zA ∧ zA < ((z9.length : Nat) : Int)) (chk ((0 : Int) ≤ z10 ∧ z10 < ((z9.length : Nat) : Int)) (chk ((0 : Int) ≤ zA ∧ zA < (((z9.set (z10 : Int).toNat (⟨((nth z9 zA).fTime),((nth z9 zA).fIn_),((nth z9 zA).fVl),((nth z9 zA).fSent),(⟨(((nth z9 zA).fHop).fNode),(((nth z9 zA).fHop).fNext),(((nth z9 zA).fHop).fLink)⟩ : Sapi_Hop)⟩ : Snetwork_event)).length : Nat) : Int)) (some ((z9.set (z10 : Int).toNat (⟨((nth z9 zA).fTime),((nth z9 zA).fIn_),((nth z9 zA).fVl),((nth z9 zA).fSent),(⟨(((nth z9 zA).fHop).fNode),(((nth z9 zA).fHop).fNext),(((nth z9 zA).fHop).fLink)⟩ : Sapi_Hop)⟩ : Snetwork_event)).set (zA : Int).toNat (⟨((nth z9 z10).fTime),((nth z9 z10).fIn_),((nth z9 z10).fVl),((nth z9 z10).fSent),(⟨(((nth z9 z10).fHop).fNode),(((nth z9 z10).fHop).fNext),(((nth z9 z10).fHop).fLink)⟩ : Sapi_Hop)⟩ : Snetwork_event)))))
set_option maxRecDepth 20000 in
theorem y4d (Z : Zp) (z8P : Option Addr) (z5C : Nat) (z9 : List Snetwork_event) (z10 : Int) (zA : Int) (r : List Snetwork_event)
  (h : y1L z9 z10 zA = some r) (w₀ : World) (hz : PZ (fps [row (.slice z8P z9.length z5C) 113 7 (z9.flatMap yF)]) w₀ Z)
  (hown : Hp (fps [row (.slice z8P z9.length z5C) 113 7 (z9.flatMap yF)]) w₀ w₀ [row (.slice z8P z9.length z5C) 113 7 (z9.flatMap yF)]) :
  Calls Try.prog 88 #[(.slice z8P z9.length z5C),(.int .i64 z10),(.int .i64 zA)] w₀ fun e w'=>e = .returned (.tuple #[]) ∧ (r.length = z9.length) ∧ Hp (fps [row (.slice z8P z9.length z5C) 113 7 (z9.flatMap yF)]) w₀ w' [row (.slice z8P r.length z5C) 113 7 (r.flatMap yF)]:=by
 unfold y1L at h
 refine Calls.yp (vs:=[(.slice z8P z9.length z5C),(.int .i64 z10),(.int .i64 zA)]) (pre:=[row (.slice z8P z9.length z5C) 113 7 (z9.flatMap yF)]) (env:=[(0,(.slice z8P z9.length z5C)),(1,(.int .i64 z10)),(2,(.int .i64 zA))]) Try.func88 rfl Try.ntmps88 rfl (hown) rfl ?_
 obtain ⟨zhl,h⟩:=ye h
 obtain ⟨z7m,h⟩:=ye h
 obtain ⟨zdn,h⟩:=ye h
 refine WC.yI (fun i=>[13,15].contains i) [] rfl ?_
 refine WD.a (i:=0) (d:=6) (by kernel_rfl) rfl z2 z3 rfl rfl rfl (fun _=>q_m rfl) ?_
 refine WD.a (i:=1) (d:=7) (by kernel_rfl) rfl z2 z3 rfl rfl rfl (fun _=>q_m rfl) ?_
 refine WD.a (i:=2) (d:=8) (by kernel_rfl) rfl z2 z3 rfl rfl rfl (fun _=>q_m rfl) ?_
 refine WD.a (i:=3) (d:=9) (by kernel_rfl) rfl z2 z3 rfl rfl rfl (fun _=>q_m rfl) ?_
 refine WD.a (i:=4) (d:=10) (by kernel_rfl) rfl z2 z3 rfl rfl rfl (fun _=>q_m rfl) ?_
 refine WD.a (i:=5) (d:=11) (by kernel_rfl) rfl z2 z3 rfl rfl rfl (fun _=>q_m rfl) ?_
 refine WD.know (fun w hw=>Hp.y2g .here hw (by intro hz'; have:=zhl; rw [hz'] at this; omega)) ?_
 rintro ⟨zmA,rfl⟩
 refine WD.a (i:=6) (d:=12) (by kernel_rfl) rfl z2 z3 rfl rfl rfl (fun _=>yu y4Z rfl rfl zhl.1 zhl.2 y1c) ?_
 refine WD.e (i:=7) (d:=13) (by kernel_rfl) rfl z2 z3 rfl rfl rfl (y1J (cs:=(yF (nth z9 zA))) zcH rfl rfl (y1U .here (y1V (enc:=yF) (l:=z9) (i:=zA) (sz:=7) (fun _=>rfl) zhl.1 zhl.2))) ?_
 refine WD.a (i:=8) (d:=14) (by kernel_rfl) rfl z2 z3 rfl rfl rfl (fun _=>q_m rfl) ?_
 refine WD.a (i:=9) (d:=15) (by kernel_rfl) rfl z2 z3 rfl rfl rfl (fun _=>q_m rfl) ?_
 refine WD.a (i:=10) (d:=16) (by kernel_rfl) rfl z2 z3 rfl rfl rfl (fun _=>yu y4Z rfl rfl z7m.1 z7m.2 y1c) ?_
 refine WD.e (i:=11) (d:=17) (by kernel_rfl) rfl z2 z3 rfl rfl rfl (y1J (cs:=(yF (nth z9 z10))) zcH rfl rfl (y1U .here (y1V (enc:=yF) (l:=z9) (i:=z10) (sz:=7) (fun _=>rfl) z7m.1 z7m.2))) ?_
 refine WD.a (i:=12) (d:=18) (by kernel_rfl) rfl z2 z3 rfl rfl rfl (fun _=>yu y4Z rfl rfl z7m.1 z7m.2 y1c) ?_
 refine WD.forced0 (i:=13) rfl (by kernel_rfl) rfl rfl rfl (Sin.of .nil) (y2C (vs:=[(.int .i64 ((nth z9 zA).fTime)),(.int .i64 ((nth z9 zA).fIn_)),(.int .i64 ((nth z9 zA).fVl)),(.int .i64 ((nth z9 zA).fSent)),(.int .i64 (((nth z9 zA).fHop).fNode)),(.int .i64 (((nth z9 zA).fHop).fNext)),(.int .i64 (((nth z9 zA).fHop).fLink))]) (ds:=(z9.set (z10 : Int).toNat (⟨((nth z9 zA).fTime),((nth z9 zA).fIn_),((nth z9 zA).fVl),((nth z9 zA).fSent),(⟨(((nth z9 zA).fHop).fNode),(((nth z9 zA).fHop).fNext),(((nth z9 zA).fHop).fLink)⟩ : Sapi_Hop)⟩ : Snetwork_event)).flatMap yF) zjg rfl rfl rfl rfl (ocB rfl) .here (y3I (enc:=yF) (sz:=7) (k:=0) (fun _=>rfl) z7m.1 z7m.2 (by decide)) (y3H (enc:=yF) (l:=z9) (sz:=7) (vs:=[(.int .i64 ((nth z9 zA).fTime)),(.int .i64 ((nth z9 zA).fIn_)),(.int .i64 ((nth z9 zA).fVl)),(.int .i64 ((nth z9 zA).fSent)),(.int .i64 (((nth z9 zA).fHop).fNode)),(.int .i64 (((nth z9 zA).fHop).fNext)),(.int .i64 (((nth z9 zA).fHop).fLink))]) (y:=(⟨((nth z9 zA).fTime),((nth z9 zA).fIn_),((nth z9 zA).fVl),((nth z9 zA).fSent),(⟨(((nth z9 zA).fHop).fNode),(((nth z9 zA).fHop).fNext),(((nth z9 zA).fHop).fLink)⟩ : Sapi_Hop)⟩ : Snetwork_event)) (k:=0) (fun _=>rfl) z7m.1 z7m.2 rfl (Nat.le_of_ble_eq_true rfl))) ?_
 refine WD.relen .here (u:=(.slice (some ⟨zmA,0,none⟩) ((z9.set (z10 : Int).toNat (⟨((nth z9 zA).fTime),((nth z9 zA).fIn_),((nth z9 zA).fVl),((nth z9 zA).fSent),(⟨(((nth z9 zA).fHop).fNode),(((nth z9 zA).fHop).fNext),(((nth z9 zA).fHop).fLink)⟩ : Sapi_Hop)⟩ : Snetwork_event)).length) z5C)) (y1W (List.length_set).symm) ?_
 refine WD.repin (i:=8) rfl (u:=(.slice (some ⟨zmA,0,none⟩) ((z9.set (z10 : Int).toNat (⟨((nth z9 zA).fTime),((nth z9 zA).fIn_),((nth z9 zA).fVl),((nth z9 zA).fSent),(⟨(((nth z9 zA).fHop).fNode),(((nth z9 zA).fHop).fNext),(((nth z9 zA).fHop).fLink)⟩ : Sapi_Hop)⟩ : Snetwork_event)).length) z5C)) (y1W (List.length_set).symm) ?_
 refine WD.a (i:=14) (d:=19) (by kernel_rfl) rfl z2 z3 rfl rfl rfl (fun _=>yu y4Z rfl rfl zdn.1 zdn.2 y1c) ?_
 refine WD.y3G (i:=15) rfl (by kernel_rfl) rfl rfl rfl (by kernel_rfl) (y2C (vs:=[(.int .i64 ((nth z9 z10).fTime)),(.int .i64 ((nth z9 z10).fIn_)),(.int .i64 ((nth z9 z10).fVl)),(.int .i64 ((nth z9 z10).fSent)),(.int .i64 (((nth z9 z10).fHop).fNode)),(.int .i64 (((nth z9 z10).fHop).fNext)),(.int .i64 (((nth z9 z10).fHop).fLink))]) (ds:=((z9.set (z10 : Int).toNat (⟨((nth z9 zA).fTime),((nth z9 zA).fIn_),((nth z9 zA).fVl),((nth z9 zA).fSent),(⟨(((nth z9 zA).fHop).fNode),(((nth z9 zA).fHop).fNext),(((nth z9 zA).fHop).fLink)⟩ : Sapi_Hop)⟩ : Snetwork_event)).set (zA : Int).toNat (⟨((nth z9 z10).fTime),((nth z9 z10).fIn_),((nth z9 z10).fVl),((nth z9 z10).fSent),(⟨(((nth z9 z10).fHop).fNode),(((nth z9 z10).fHop).fNext),(((nth z9 z10).fHop).fLink)⟩ : Sapi_Hop)⟩ : Snetwork_event)).flatMap yF) zjg rfl rfl rfl rfl (ocB rfl) .here (y3I (enc:=yF) (sz:=7) (k:=0) (fun _=>rfl) zdn.1 zdn.2 (by decide)) (y3H (enc:=yF) (l:=z9.set (z10 : Int).toNat (⟨((nth z9 zA).fTime),((nth z9 zA).fIn_),((nth z9 zA).fVl),((nth z9 zA).fSent),(⟨(((nth z9 zA).fHop).fNode),(((nth z9 zA).fHop).fNext),(((nth z9 zA).fHop).fLink)⟩ : Sapi_Hop)⟩ : Snetwork_event)) (sz:=7) (vs:=[(.int .i64 ((nth z9 z10).fTime)),(.int .i64 ((nth z9 z10).fIn_)),(.int .i64 ((nth z9 z10).fVl)),(.int .i64 ((nth z9 z10).fSent)),(.int .i64 (((nth z9 z10).fHop).fNode)),(.int .i64 (((nth z9 z10).fHop).fNext)),(.int .i64 (((nth z9 z10).fHop).fLink))]) (y:=(⟨((nth z9 z10).fTime),((nth z9 z10).fIn_),((nth z9 z10).fVl),((nth z9 z10).fSent),(⟨(((nth z9 z10).fHop).fNode),(((nth z9 z10).fHop).fNext),(((nth z9 z10).fHop).fLink)⟩ : Sapi_Hop)⟩ : Snetwork_event)) (k:=0) (fun _=>rfl) zdn.1 zdn.2 rfl (Nat.le_of_ble_eq_true rfl))) ?_
 refine WD.relen .here (u:=(.slice (some ⟨zmA,0,none⟩) (((z9.set (z10 : Int).toNat (⟨((nth z9 zA).fTime),((nth z9 zA).fIn_),((nth z9 zA).fVl),((nth z9 zA).fSent),(⟨(((nth z9 zA).fHop).fNode),(((nth z9 zA).fHop).fNext),(((nth z9 zA).fHop).fLink)⟩ : Sapi_Hop)⟩ : Snetwork_event)).set (zA : Int).toNat (⟨((nth z9 z10).fTime),((nth z9 z10).fIn_),((nth z9 z10).fVl),((nth z9 z10).fSent),(⟨(((nth z9 z10).fHop).fNode),(((nth z9 z10).fHop).fNext),(((nth z9 z10).fHop).fLink)⟩ : Sapi_Hop)⟩ : Snetwork_event)).length) z5C)) (y1W (List.length_set).symm) ?_
 refine WD.done (by kernel_rfl) ?_
 obtain rfl:=Option.some.inj h
 refine WX.y29 Try.results88 .nil (fun w hw=>?_)
 exact ⟨y4X,((List.length_set).trans ((List.length_set).trans rfl)),hw.sub (.cons .here .nil)⟩
def y3b (z2e : List Snetwork_event) (z1P : Snetwork_event) : Option Unit :=
 chk ((((z2e ++ ([z1P] : List Snetwork_event)).length : Nat) : Int) * 56 ≤ 140737488355328 ∧ (((z2e ++ ([z1P] : List Snetwork_event)).length : Nat) : Int) ≤ 4611686018427387904) (some ())
set_option maxRecDepth 20000 in
theorem y6o (Z : Zp) (z8Q : Nat) (z7n : Option Addr) (z7o : Nat) (zbf : Value) (zbg : Value) (zbh : Value) (zbi : Value) (zbj : Value) (zbk : Value) (zbl : Value) (zbm : Value) (zbn : Value) (zbo : Value) (zbp : Value) (zbq : Value) (zbr : Value) (z2e : List Snetwork_event) (z1P : Snetwork_event) (r : Unit)
  (h : y3b z2e z1P = some r) (w₀ : World) (hz : PZ (fps [stb z8Q 81 [zbf,zbg,zbh,zbi,zbj,zbk,zbl,zbm,zbn,zbo,zbp,(.slice z7n z2e.length z7o),zbq,zbr],row (.slice z7n z2e.length z7o) 113 7 (z2e.flatMap yF)]) w₀ Z)
  (hown : Hp (fps [stb z8Q 81 [zbf,zbg,zbh,zbi,zbj,zbk,zbl,zbm,zbn,zbo,zbp,(.slice z7n z2e.length z7o),zbq,zbr],row (.slice z7n z2e.length z7o) 113 7 (z2e.flatMap yF)]) w₀ w₀ [stb z8Q 81 [zbf,zbg,zbh,zbi,zbj,zbk,zbl,zbm,zbn,zbo,zbp,(.slice z7n z2e.length z7o),zbq,zbr],row (.slice z7n z2e.length z7o) 113 7 (z2e.flatMap yF)]) :
  Calls Try.prog 92 #[(.pointer (some ⟨z8Q,11,none⟩)),(.iface 113 (.agg #[(.int .i64 z1P.fTime),(.int .i64 z1P.fIn_),(.int .i64 z1P.fVl),(.int .i64 z1P.fSent),(.int .i64 z1P.fHop.fNode),(.int .i64 z1P.fHop.fNext),(.int .i64 z1P.fHop.fLink)]))] w₀ fun e w'=>∃ zs2 : Option Addr,∃ zs3 : Nat,e = .returned (.tuple #[]) ∧ True ∧ Hp (fps [stb z8Q 81 [zbf,zbg,zbh,zbi,zbj,zbk,zbl,zbm,zbn,zbo,zbp,(.slice z7n z2e.length z7o),zbq,zbr],row (.slice z7n z2e.length z7o) 113 7 (z2e.flatMap yF)]) w₀ w' [stb z8Q 81 [zbf,zbg,zbh,zbi,zbj,zbk,zbl,zbm,zbn,zbo,zbp,(.slice zs2 ((z2e ++ ([z1P] : List Snetwork_event)).length) zs3),zbq,zbr],row (.slice zs2 ((z2e ++ ([z1P] : List Snetwork_event)).length) zs3) 113 7 ((z2e ++ ([z1P] : List Snetwork_event)).flatMap yF)]:=by
 unfold y3b at h
 refine Calls.yp (vs:=[(.pointer (some ⟨z8Q,11,none⟩)),(.iface 113 (.agg #[(.int .i64 z1P.fTime),(.int .i64 z1P.fIn_),(.int .i64 z1P.fVl),(.int .i64 z1P.fSent),(.int .i64 z1P.fHop.fNode),(.int .i64 z1P.fHop.fNext),(.int .i64 z1P.fHop.fLink)]))]) (pre:=[stb z8Q 81 [zbf,zbg,zbh,zbi,zbj,zbk,zbl,zbm,zbn,zbo,zbp,(.slice z7n z2e.length z7o),zbq,zbr],row (.slice z7n z2e.length z7o) 113 7 (z2e.flatMap yF)]) (env:=[(0,(.pointer (some ⟨z8Q,11,none⟩))),(1,(.iface 113 (.agg #[(.int .i64 z1P.fTime),(.int .i64 z1P.fIn_),(.int .i64 z1P.fVl),(.int .i64 z1P.fSent),(.int .i64 z1P.fHop.fNode),(.int .i64 z1P.fHop.fNext),(.int .i64 z1P.fHop.fLink)])))]) Try.func92 rfl Try.ntmps92 rfl (hown) rfl ?_
 obtain ⟨zyy,h⟩:=ye h
 refine WC.yI (fun i=>[7,9].contains i) [] rfl ?_
 refine WD.a (i:=0) (d:=4) (by kernel_rfl) rfl z2 z3 rfl rfl rfl (fun _=>q_m rfl) ?_
 refine WD.a (i:=1) (d:=5) (by kernel_rfl) rfl z2 z3 rfl rfl rfl (fun _=>q_m rfl) ?_
 refine WD.a (i:=2) (d:=6) (by kernel_rfl) rfl z2 z3 rfl rfl rfl (fun _=>yy rfl) ?_
 refine WD.e (i:=3) (d:=7) (by kernel_rfl) rfl z2 z3 rfl rfl rfl (yb y5O rfl (yc .here rfl)) ?_
 refine WD.a (i:=4) (d:=8) (by kernel_rfl) rfl z2 z3 rfl rfl rfl (fun _=>q_m rfl) ?_
 refine WD.e (i:=5) (d:=9) (by kernel_rfl) rfl z2 z3 rfl rfl rfl (y9H Try.underlying113 rfl rfl) ?_
 refine WD.new (i:=6) (dd:=10) rfl (by kernel_rfl) rfl rfl rfl (yC (cs:=([z1P] : List Snetwork_event).flatMap yF) y4Z (Eos.parts (l:=[.tmp 9]) (.cons rfl .nil) [0]) (fun _=>by kernel_rfl) rfl (by unfold maxLen; omega)) (fun h'=>absurd h' (by decide)) ?_
 intro zIH _
 refine WD.old (i:=7) (dd:=11) rfl (by kernel_rfl) rfl rfl rfl rfl (fun _=>(Sin.of .nil)) (y1R (enc:=yF) (l1:=z2e) (l2:=([z1P] : List Snetwork_event)) y4Z rfl rfl .h2 (fun _=>rfl) rfl rfl (y3m .here) (y2f e113_oc _) zyy) ?_
 rintro ⟨zs4,zs5⟩ _
 refine WD.a (i:=8) (d:=12) (by kernel_rfl) rfl z2 z3 rfl rfl rfl (fun _=>yy rfl) ?_
 refine WD.y3G (i:=9) rfl (by kernel_rfl) rfl rfl rfl (by kernel_rfl) (y3n (ds:=[zbf,zbg,zbh,zbi,zbj,zbk,zbl,zbm,zbn,zbo,zbp,(.slice zs4 ((z2e ++ ([z1P] : List Snetwork_event)).length) zs5),zbq,zbr]) yax rfl rfl rfl rfl rfl .h2 rfl rfl) ?_
 refine WD.done (by kernel_rfl) ?_
 skip
 refine WX.y29 Try.results92 .nil (fun w hw=>?_)
 exact ⟨zs4,zs5,y4X,trivial,hw.sub (.cons .here (.cons .here .nil))⟩
def y1O (z8R : (List Snetwork_event) → Option (List Snetwork_event)) : Nat → Int → (List Snetwork_event) → Option (List Snetwork_event)
 | 0,_,_=>none
 | zmB + 1,z3M,z46=>(if decide ((i64 (Int.tdiv (i64 (z3M - 1)) 2)) = z3M) then some true else (y1K z46 z3M (i64 (Int.tdiv (i64 (z3M - 1)) 2))).bind fun zs6=>some (!zs6)).bind fun zmC=>if zmC then z8R z46 else (y1L z46 (i64 (Int.tdiv (i64 (z3M - 1)) 2)) z3M).bind fun zjK=>y1O z8R zmB (i64 (Int.tdiv (i64 (z3M - 1)) 2)) zjK
theorem y5t {n : Nat} {z8R : (List Snetwork_event) → Option (List Snetwork_event)} {z3M : Int} {z46 : List Snetwork_event} {r : List Snetwork_event} (h : y1O z8R n z3M z46 = some r) : ∃ m,n = m + 1:=by
 cases n with
 | zero=>cases h
 | succ m=>exact ⟨m,rfl⟩
def y3s (z2r : List Snetwork_event) (zbs : Int) : Option (List Snetwork_event) :=
 jp1 (fun (z6n : List Snetwork_event)=>some z6n) fun z8R=>y1O z8R yw zbs z2r
set_option maxRecDepth 20000 in
theorem y79 (Z : Zp) (z5D : Nat) (z3N : Option Addr) (z3O : Nat) (z8S : Value) (z8T : Value) (z8U : Value) (z8V : Value) (z8W : Value) (z8X : Value) (z8Y : Value) (z8Z : Value) (z90 : Value) (z91 : Value) (z92 : Value) (z93 : Value) (z94 : Value) (z2r : List Snetwork_event) (zbs : Int) (r : List Snetwork_event)
  (h : y3s z2r zbs = some r) (w₀ : World) (hz : PZ (fps [stb z5D 81 [z8S,z8T,z8U,z8V,z8W,z8X,z8Y,z8Z,z90,z91,z92,(.slice z3N z2r.length z3O),z93,z94],row (.slice z3N z2r.length z3O) 113 7 (z2r.flatMap yF)]) w₀ Z)
  (hown : Hp (fps [stb z5D 81 [z8S,z8T,z8U,z8V,z8W,z8X,z8Y,z8Z,z90,z91,z92,(.slice z3N z2r.length z3O),z93,z94],row (.slice z3N z2r.length z3O) 113 7 (z2r.flatMap yF)]) w₀ w₀ [stb z5D 81 [z8S,z8T,z8U,z8V,z8W,z8X,z8Y,z8Z,z90,z91,z92,(.slice z3N z2r.length z3O),z93,z94],row (.slice z3N z2r.length z3O) 113 7 (z2r.flatMap yF)]) :
  Calls Try.prog 50 #[(.iface 111 (.pointer (some ⟨z5D,11,none⟩))),(.int .i64 zbs)] w₀ fun e w'=>e = .returned (.tuple #[]) ∧ (r.length = z2r.length) ∧ Hp (fps [stb z5D 81 [z8S,z8T,z8U,z8V,z8W,z8X,z8Y,z8Z,z90,z91,z92,(.slice z3N z2r.length z3O),z93,z94],row (.slice z3N z2r.length z3O) 113 7 (z2r.flatMap yF)]) w₀ w' [stb z5D 81 [z8S,z8T,z8U,z8V,z8W,z8X,z8Y,z8Z,z90,z91,z92,(.slice z3N r.length z3O),z93,z94],row (.slice z3N r.length z3O) 113 7 (r.flatMap yF)]:=by
 unfold y3s at h
 refine Calls.yp (vs:=[(.iface 111 (.pointer (some ⟨z5D,11,none⟩))),(.int .i64 zbs)]) (pre:=[stb z5D 81 [z8S,z8T,z8U,z8V,z8W,z8X,z8Y,z8Z,z90,z91,z92,(.slice z3N z2r.length z3O),z93,z94],row (.slice z3N z2r.length z3O) 113 7 (z2r.flatMap yF)]) (env:=[(0,(.iface 111 (.pointer (some ⟨z5D,11,none⟩)))),(1,(.int .i64 zbs))]) Try.func50 rfl Try.ntmps50 rfl (hown) rfl ?_
 obtain ⟨z8R,zyz,h⟩:=yU h
 refine WC.y5J (fun (z6n : List Snetwork_event)=>(z8R z6n = some r) ∧ (z6n.length = z2r.length)) (fun (z6n : List Snetwork_event)=>[]) (fun (z6n : List Snetwork_event)=>[row (.slice z3N z6n.length z3O) 113 7 (z6n.flatMap yF),stb z5D 81 [z8S,z8T,z8U,z8V,z8W,z8X,z8Y,z8Z,z90,z91,z92,(.slice z3N z6n.length z3O),z93,z94]]) ?_ ?_
 ·skip
  refine WC.block ?_
  refine WC.y2F (fun (zdo : Nat) (z3M : Int) (z46 : List Snetwork_event)=>(y1O z8R zdo z3M z46 = some r) ∧ (z46.length = z2r.length)) (fun (zdo : Nat) (z3M : Int) (z46 : List Snetwork_event)=>[(0,(.iface 111 (.pointer (some ⟨z5D,11,none⟩)))),(1,(.int .i64 z3M))]) (fun (zdo : Nat) (z3M : Int) (z46 : List Snetwork_event)=>[row (.slice z3N z46.length z3O) 113 7 (z46.flatMap yF),stb z5D 81 [z8S,z8T,z8U,z8V,z8W,z8X,z8Y,z8Z,z90,z91,z92,(.slice z3N z46.length z3O),z93,z94]]) (fun (zdo : Nat) (z3M : Int) (z46 : List Snetwork_event)=>zdo) ⟨yw,zbs,z2r⟩ ⟨h,rfl⟩ (.cons rfl (.cons rfl .nil)) (.cons .h1 (.cons .here .nil)) ?_
  rintro zdo z3M z46 ⟨h,zs7⟩
  obtain ⟨zmB,rfl⟩:=y5t h
  rw [y1O] at h
  refine WC.block (WC.b (WC.a (WL.pu rfl (WL.pu rfl ?_))))
  refine WL.a (d:=7) rfl rfl rfl (q_quo rfl rfl (by decide) rfl) ?_
  refine WL.pu rfl (WL.nil (WX.a (WC.b (WC.b ?_))))
  obtain ⟨zmC,zs8,h⟩:=zg h
  refine WC.a (WL.pu rfl (WL.pu rfl (WL.pu rfl (WL.pu rfl ?_))))
  refine WL.seg false 5 11 (B:=zmC) rfl rfl rfl rfl rfl rfl (fun h=>(Option.some.inj (ym zs8 h)).symm) (fun _ zyA=>?_) ?_
  ·skip
   have zhm:=yn zs8 zyA
   obtain ⟨zs6,zyB,zhm⟩:=zg zhm
   replace zhm:=Option.some.inj zhm
   refine WL.pu rfl (WL.pu rfl (WL.pu rfl ?_))
   refine WL.b (dd:=15) rfl rfl rfl (y3v (l:=[.tmp 13,.tmp 14]) (y60) Try.call87 rfl (yc .h1 rfl) (.cons rfl (.cons rfl .nil))) .nil (ccl hz .nil (.cons .here .nil) fun w pz ho la=>y4c _ _ _ _ _ _ _ zyB w pz (ZA.row (la _ (.head _) _) (RR.y19 (enc:=yF) (fun _=>rfl) _) ⟨w,pz.1⟩)) ?_
   refine WL.pu rfl (WL.pu rfl ?_)
   exact WL.yr zhm rfl rfl .all
  refine WL.nil (WX.a ?_)
  refine WC.cond rfl (fun zmD=>?_) (fun zmD=>?_)
  ·replace h:=ym h zmD
   refine WC.exit (WX.yg (WX.y5U rfl (WX.yg (WX.yv ?_))))
   exact WX.mid (G:=List Snetwork_event) z46 ⟨h,zs7⟩ .nil (.cons .here (.cons .here .nil))
  ·replace h:=yn h zmD
   refine WC.skip (WX.a (WC.b ?_))
   obtain ⟨zjK,zyC,h⟩:=zg h
   refine WC.a (WL.pu rfl (WL.pu rfl (WL.pu rfl ?_)))
   refine WL.y21 (dd:=21) rfl rfl rfl (y3v (l:=[.tmp 19,.tmp 20]) (y61) Try.call88 rfl (yc .h1 rfl) (.cons rfl (.cons rfl .nil))) (.cons .here .nil) (cc hz (.cons .here .nil) fun w pz ho=>y4d _ _ _ _ _ _ _ zyC w pz  ho) ?_
   rintro  zs9
   refine WL.restb (cs':=[z8S,z8T,z8U,z8V,z8W,z8X,z8Y,z8Z,z90,z91,z92,(.slice z3N zjK.length z3O),z93,z94]) .h1 (by rw [zs9]) ?_
   refine WL.nil (WX.a (WC.a (WL.pu rfl (WL.pu rfl (WL.nil (WX.yk ?_))))))
   exact WX.round (G:=Nat × Int × List Snetwork_event) ⟨zmB,(i64 (Int.tdiv (i64 (z3M - 1)) 2)),zjK⟩ ⟨h,(zs9.trans zs7)⟩ (Nat.lt_succ_self _) (.cons rfl (.cons rfl .nil)) (.cons .h1 (.cons .here .nil))
 ·rintro z6n ⟨h,zyD⟩
  replace h:=(zyz z6n).symm.trans h
  obtain rfl:=Option.some.inj h
  refine WX.y29 Try.results50 .nil (fun w hw=>?_)
  exact ⟨y4X,zyD,hw.sub (.cons .h1 (.cons .here .nil))⟩
def y2b (z33 : List Snetwork_event) (z26 : Snetwork_event) : Option (List Snetwork_event) :=
 (y3b z33 z26).bind fun zyE=>(y2o (z33 ++ ([z26] : List Snetwork_event))).bind fun zsa=>(y3s (z33 ++ ([z26] : List Snetwork_event)) (i64 (zsa - 1))).bind fun zmE=>some zmE
set_option maxRecDepth 20000 in
theorem y6p (Z : Zp) (z95 : Nat) (z7p : Option Addr) (z7q : Nat) (zbt : Value) (zbu : Value) (zbv : Value) (zbw : Value) (zbx : Value) (zby : Value) (zbz : Value) (zbA : Value) (zbB : Value) (zbC : Value) (zbD : Value) (zbE : Value) (zbF : Value) (z33 : List Snetwork_event) (z26 : Snetwork_event) (r : List Snetwork_event)
  (h : y2b z33 z26 = some r) (w₀ : World) (hz : PZ (fps [stb z95 81 [zbt,zbu,zbv,zbw,zbx,zby,zbz,zbA,zbB,zbC,zbD,(.slice z7p z33.length z7q),zbE,zbF],row (.slice z7p z33.length z7q) 113 7 (z33.flatMap yF)]) w₀ Z)
  (hown : Hp (fps [stb z95 81 [zbt,zbu,zbv,zbw,zbx,zby,zbz,zbA,zbB,zbC,zbD,(.slice z7p z33.length z7q),zbE,zbF],row (.slice z7p z33.length z7q) 113 7 (z33.flatMap yF)]) w₀ w₀ [stb z95 81 [zbt,zbu,zbv,zbw,zbx,zby,zbz,zbA,zbB,zbC,zbD,(.slice z7p z33.length z7q),zbE,zbF],row (.slice z7p z33.length z7q) 113 7 (z33.flatMap yF)]) :
  Calls Try.prog 38 #[(.iface 111 (.pointer (some ⟨z95,11,none⟩))),(.iface 113 (.agg #[(.int .i64 z26.fTime),(.int .i64 z26.fIn_),(.int .i64 z26.fVl),(.int .i64 z26.fSent),(.int .i64 z26.fHop.fNode),(.int .i64 z26.fHop.fNext),(.int .i64 z26.fHop.fLink)]))] w₀ fun e w'=>∃ zsb : Option Addr,∃ zsc : Nat,e = .returned (.tuple #[]) ∧ True ∧ Hp (fps [stb z95 81 [zbt,zbu,zbv,zbw,zbx,zby,zbz,zbA,zbB,zbC,zbD,(.slice z7p z33.length z7q),zbE,zbF],row (.slice z7p z33.length z7q) 113 7 (z33.flatMap yF)]) w₀ w' [stb z95 81 [zbt,zbu,zbv,zbw,zbx,zby,zbz,zbA,zbB,zbC,zbD,(.slice zsb r.length zsc),zbE,zbF],row (.slice zsb r.length zsc) 113 7 (r.flatMap yF)]:=by
 unfold y2b at h
 refine Calls.yp (vs:=[(.iface 111 (.pointer (some ⟨z95,11,none⟩))),(.iface 113 (.agg #[(.int .i64 z26.fTime),(.int .i64 z26.fIn_),(.int .i64 z26.fVl),(.int .i64 z26.fSent),(.int .i64 z26.fHop.fNode),(.int .i64 z26.fHop.fNext),(.int .i64 z26.fHop.fLink)]))]) (pre:=[stb z95 81 [zbt,zbu,zbv,zbw,zbx,zby,zbz,zbA,zbB,zbC,zbD,(.slice z7p z33.length z7q),zbE,zbF],row (.slice z7p z33.length z7q) 113 7 (z33.flatMap yF)]) (env:=[(0,(.iface 111 (.pointer (some ⟨z95,11,none⟩)))),(1,(.iface 113 (.agg #[(.int .i64 z26.fTime),(.int .i64 z26.fIn_),(.int .i64 z26.fVl),(.int .i64 z26.fSent),(.int .i64 z26.fHop.fNode),(.int .i64 z26.fHop.fNext),(.int .i64 z26.fHop.fLink)])))]) Try.func38 rfl Try.ntmps38 rfl (hown) rfl ?_
 refine WC.b ?_
 obtain ⟨zyE,zyF,h⟩:=zg h
 refine WC.a (WL.pu rfl (WL.pu rfl ?_))
 refine WL.y4r (dd:=6) rfl rfl rfl (y8s (l:=[.tmp 5]) (y9N _) Try.call92 rfl (.cons rfl .nil)) (.cons .here (.cons .here .nil)) (cc hz (.cons .here (.cons .here .nil)) fun w pz ho=>y6o _ _ _ _ _ _ _ _ _ _ _ _ _ _ _ _ _ _ _ _ zyF w pz  ho) ?_
 rintro zsd zse _
 refine WL.nil (WX.a ?_)
 obtain ⟨zsa,zyG,h⟩:=zg h
 obtain ⟨zmE,zyH,h⟩:=zg h
 refine WC.a (WL.pu rfl (WL.pu rfl ?_))
 refine WL.b (dd:=9) rfl rfl rfl (y3v (l:=[]) (y7Y) Try.call86 rfl (yc .here rfl) .nil) .nil (ccl hz .nil (.cons .h1 .nil) fun w pz ho la=>y5j _ _ _ _ _ zyG w pz (ZA.row (la _ (.head _) _) (RR.y19 (enc:=yF) (fun _=>rfl) _) ⟨w,pz.1⟩)) ?_
 refine WL.pu rfl ?_
 refine WL.y21 (dd:=11) rfl rfl rfl (zC (l:=[.tmp 7,.tmp 10]) Try.call50 (.cons rfl (.cons rfl .nil))) (.cons .here (.cons .here .nil)) (cc hz (.cons .here (.cons .here .nil)) fun w pz ho=>y79 _ _ _ _ _ _ _ _ _ _ _ _ _ _ _ _ _ _ _ _ zyH w pz  ho) ?_
 rintro  zyI
 refine WL.restb (cs':=[zbt,zbu,zbv,zbw,zbx,zby,zbz,zbA,zbB,zbC,zbD,(.slice zsd zmE.length zse),zbE,zbF]) .here (by rw [zyI]) ?_
 refine WL.nil ?_
 obtain rfl:=Option.some.inj h
 refine WX.y29 Try.results38 .nil (fun w hw=>?_)
 exact ⟨zsd,zse,y4X,trivial,hw.sub (.cons .here (.cons .here .nil))⟩
def y1T (z1N : List (List Sapi_Hop)) (z1o : List zSt) (z1w : Int) (z4E : Int) (z4l : Int) (z4m : Int) (z96 : (List Snetwork_event) → Option (List Snetwork_event)) : Nat → Int → (List Snetwork_event) → Option (List Snetwork_event)
 | 0,_,_=>none
 | zmF + 1,z2s,z47=>if decide (z2s < (((nth z1N ((nth z1o z1w).fVL)).length : Nat) : Int)) then jp1 (fun (z6o : List Snetwork_event)=>y1T z1N z1o z1w z4E z4l z4m z96 zmF (i64 (z2s + 1)) z6o) fun zjL=>chk ((0 : Int) ≤ z2s ∧ z2s < (((nth z1N ((nth z1o z1w).fVL)).length : Nat) : Int)) (if decide (((nth (nth z1N ((nth z1o z1w).fVL)) z2s).fNode) = z4E) then (y2b z47 (⟨z4l,z4m,((nth z1o z1w).fVL),z1w,(⟨((nth (nth z1N ((nth z1o z1w).fVL)) z2s).fNode),((nth (nth z1N ((nth z1o z1w).fVL)) z2s).fNext),((nth (nth z1N ((nth z1o z1w).fVL)) z2s).fLink)⟩ : Sapi_Hop)⟩ : Snetwork_event)).bind fun zmG=>zjL zmG else zjL z47) else z96 z47
theorem y5D {n : Nat} {z1N : List (List Sapi_Hop)} {z1o : List zSt} {z1w : Int} {z4E : Int} {z4l : Int} {z4m : Int} {z96 : (List Snetwork_event) → Option (List Snetwork_event)} {z2s : Int} {z47 : List Snetwork_event} {r : List Snetwork_event} (h : y1T z1N z1o z1w z4E z4l z4m z96 n z2s z47 = some r) : ∃ m,n = m + 1:=by
 cases n with
 | zero=>cases h
 | succ m=>exact ⟨m,rfl⟩
def y2z (zI : Sapi_Config) (z1N : List (List Sapi_Hop)) (z1o : List zSt) (zmH : List (Snetwork_exit × Sport_Port)) (z3k : List Snetwork_event) (z5E : List Sapi_Come) (z5F : List Sapi_Come) (z4E : Int) (z4l : Int) (z4m : Int) (z1w : Int) : Option (List Snetwork_event) :=
 chk ((0 : Int) ≤ z1w ∧ z1w < ((z1o.length : Nat) : Int)) (chk ((0 : Int) ≤ ((nth z1o z1w).fVL) ∧ ((nth z1o z1w).fVL) < ((z1N.length : Nat) : Int)) (jp1 (fun (z7r : List Snetwork_event)=>some z7r) fun z96=>y1T z1N z1o z1w z4E z4l z4m z96 yw 0 z3k))
set_option maxRecDepth 20000 in
theorem y5n (Z : Zp) (z4F : Nat) (z7s : Option Addr) (z7t : Nat) (z7u : Option Addr) (z7v : Nat) (z7w : Option Addr) (z7x : Nat) (z7y : Option Addr) (z7z : Nat) (z7A : Option Addr) (z7B : Nat) (z7C : Option Addr) (z7D : Nat) (z7E : Option Addr) (z7F : Nat) (z7G : Option Addr) (z7H : Nat) (z7I : Option Addr) (z7J : Nat) (z7K : Option Addr) (z7L : Nat) (z3B : Nat) (z3l : List (Snetwork_exit × ((Nat × (Option Addr × Nat)) × Sport_Port))) (z6p : Option Addr) (z6q : Nat) (z7M : Option Addr) (z7N : Nat) (z7O : Option Addr) (z7P : Nat) (zI : Sapi_Config) (z1N : List (List Sapi_Hop)) (z1o : List zSt) (zmH : List (Snetwork_exit × Sport_Port)) (z3k : List Snetwork_event) (z5E : List Sapi_Come) (z5F : List Sapi_Come) (z4E : Int) (z4l : Int) (z4m : Int) (z1w : Int) (r : List Snetwork_event)
  (h : y2z zI z1N z1o zmH z3k z5E z5F z4E z4l z4m z1w = some r) (w₀ : World) (hz : PZ (fps [stb z4F 81 [(.slice z7s zI.fModules.length z7t),(.slice z7u zI.fChannels.length z7v),(.slice z7w zI.fSwitches.length z7x),(.slice z7y zI.fLinks.length z7z),(.slice z7A zI.fVLs.length z7B),(.slice z7C zI.fHealth.length z7D),(.slice z7E zI.fCauses.length z7F),(.slice z7G zI.fVersions.length z7H),(.slice z7I z1N.length z7J),(.slice z7K z1o.length z7L),(.map (some z3B)),(.slice z6p z3k.length z6q),(.slice z7M z5E.length z7N),(.slice z7O z5F.length z7P)],y1s z3B (fun x=>Value.agg (y26 x).toArray) Value.pointer (y1F z3l),y1D z1v z3l,row (.slice z6p z3k.length z6q) 113 7 (z3k.flatMap yF)]) w₀ Z)
  (zII : ZS Z 4 (y2i Z) z7s z7t zI.fModules)
  (zIJ : ZS Z 4 (y2R Z) z7u z7v zI.fChannels)
  (zIK : ZS Z 4 (fun r x=>r = e64 x) z7w z7x zI.fSwitches)
  (zIL : ZS Z 4 (fun r x=>r = e62 x) z7y z7z zI.fLinks)
  (zIM : ZS Z 7 (y2A Z) z7A z7B zI.fVLs)
  (zIN : ZS Z 5 (fun r x=>r = y2T x) z7C z7D zI.fHealth)
  (zIO : ZS Z 3 (y2S Z) z7E z7F zI.fCauses)
  (zIP : ZS Z 4 (fun r x=>r = y2U x) z7G z7H zI.fVersions)
  (zyJ : ZS Z 1 (p55 Z) z7I z7J z1N)
  (zyK : ZS Z 3 (fun r x=>r = e53 x) z7K z7L z1o)
  (zIQ : dat z3l = zmH)
  (zIR : ZS Z 3 (fun r x=>r = e50 x) z7M z7N z5E)
  (zIS : ZS Z 3 (fun r x=>r = e50 x) z7O z7P z5F)
  (hown : Hp (fps [stb z4F 81 [(.slice z7s zI.fModules.length z7t),(.slice z7u zI.fChannels.length z7v),(.slice z7w zI.fSwitches.length z7x),(.slice z7y zI.fLinks.length z7z),(.slice z7A zI.fVLs.length z7B),(.slice z7C zI.fHealth.length z7D),(.slice z7E zI.fCauses.length z7F),(.slice z7G zI.fVersions.length z7H),(.slice z7I z1N.length z7J),(.slice z7K z1o.length z7L),(.map (some z3B)),(.slice z6p z3k.length z6q),(.slice z7M z5E.length z7N),(.slice z7O z5F.length z7P)],y1s z3B (fun x=>Value.agg (y26 x).toArray) Value.pointer (y1F z3l),y1D z1v z3l,row (.slice z6p z3k.length z6q) 113 7 (z3k.flatMap yF)]) w₀ w₀ [stb z4F 81 [(.slice z7s zI.fModules.length z7t),(.slice z7u zI.fChannels.length z7v),(.slice z7w zI.fSwitches.length z7x),(.slice z7y zI.fLinks.length z7z),(.slice z7A zI.fVLs.length z7B),(.slice z7C zI.fHealth.length z7D),(.slice z7E zI.fCauses.length z7F),(.slice z7G zI.fVersions.length z7H),(.slice z7I z1N.length z7J),(.slice z7K z1o.length z7L),(.map (some z3B)),(.slice z6p z3k.length z6q),(.slice z7M z5E.length z7N),(.slice z7O z5F.length z7P)],y1s z3B (fun x=>Value.agg (y26 x).toArray) Value.pointer (y1F z3l),y1D z1v z3l,row (.slice z6p z3k.length z6q) 113 7 (z3k.flatMap yF)]) :
  Calls Try.prog 25 #[(.pointer (some ⟨z4F,0,none⟩)),(.int .i64 z4E),(.int .i64 z4l),(.int .i64 z4m),(.int .i64 z1w)] w₀ fun e w'=>∃ zsf : Option Addr,∃ zsg : Nat,e = .returned (.tuple #[]) ∧ True ∧ Hp (fps [stb z4F 81 [(.slice z7s zI.fModules.length z7t),(.slice z7u zI.fChannels.length z7v),(.slice z7w zI.fSwitches.length z7x),(.slice z7y zI.fLinks.length z7z),(.slice z7A zI.fVLs.length z7B),(.slice z7C zI.fHealth.length z7D),(.slice z7E zI.fCauses.length z7F),(.slice z7G zI.fVersions.length z7H),(.slice z7I z1N.length z7J),(.slice z7K z1o.length z7L),(.map (some z3B)),(.slice z6p z3k.length z6q),(.slice z7M z5E.length z7N),(.slice z7O z5F.length z7P)],y1s z3B (fun x=>Value.agg (y26 x).toArray) Value.pointer (y1F z3l),y1D z1v z3l,row (.slice z6p z3k.length z6q) 113 7 (z3k.flatMap yF)]) w₀ w' [stb z4F 81 [(.slice z7s zI.fModules.length z7t),(.slice z7u zI.fChannels.length z7v),(.slice z7w zI.fSwitches.length z7x),(.slice z7y zI.fLinks.length z7z),(.slice z7A zI.fVLs.length z7B),(.slice z7C zI.fHealth.length z7D),(.slice z7E zI.fCauses.length z7F),(.slice z7G zI.fVersions.length z7H),(.slice z7I z1N.length z7J),(.slice z7K z1o.length z7L),(.map (some z3B)),(.slice zsf r.length zsg),(.slice z7M z5E.length z7N),(.slice z7O z5F.length z7P)],row (.slice zsf r.length zsg) 113 7 (r.flatMap yF),y1s z3B (fun x=>Value.agg (y26 x).toArray) Value.pointer (y1F z3l),y1D z1v z3l]:=by
 unfold y2z at h
 refine Calls.yp (vs:=[(.pointer (some ⟨z4F,0,none⟩)),(.int .i64 z4E),(.int .i64 z4l),(.int .i64 z4m),(.int .i64 z1w)]) (pre:=[stb z4F 81 [(.slice z7s zI.fModules.length z7t),(.slice z7u zI.fChannels.length z7v),(.slice z7w zI.fSwitches.length z7x),(.slice z7y zI.fLinks.length z7z),(.slice z7A zI.fVLs.length z7B),(.slice z7C zI.fHealth.length z7D),(.slice z7E zI.fCauses.length z7F),(.slice z7G zI.fVersions.length z7H),(.slice z7I z1N.length z7J),(.slice z7K z1o.length z7L),(.map (some z3B)),(.slice z6p z3k.length z6q),(.slice z7M z5E.length z7N),(.slice z7O z5F.length z7P)],y1s z3B (fun x=>Value.agg (y26 x).toArray) Value.pointer (y1F z3l),y1D z1v z3l,row (.slice z6p z3k.length z6q) 113 7 (z3k.flatMap yF)]) (env:=[(0,(.pointer (some ⟨z4F,0,none⟩))),(1,(.int .i64 z4E)),(2,(.int .i64 z4l)),(3,(.int .i64 z4m)),(4,(.int .i64 z1w))]) Try.func25 rfl Try.ntmps25 rfl (hown) rfl ?_
 refine WC.b ?_
 obtain ⟨zyL,h⟩:=ye h
 refine WC.a (WL.pu rfl ?_)
 refine WL.a (d:=14) rfl rfl rfl (yy rfl) ?_
 refine WL.a (d:=15) rfl rfl rfl (ya yav rfl rfl) ?_
 refine WL.a (d:=16) rfl rfl rfl (yb yaw rfl (yc .here rfl)) ?_
 refine WL.pu rfl ?_
 refine WL.znth (dd:=18) rfl rfl (Z:=Z) (Pr:=(fun r x=>r = e53 x)) y2M rfl rfl zyK zyL ?_
 rintro zIT zIU zyM zIV rfl
 refine WL.a (d:=19) rfl rfl rfl (ya y4G rfl rfl) ?_
 refine WL.a (d:=20) rfl rfl rfl (yb yd rfl (yD hz.pv zyM rfl)) ?_
 refine WL.pu rfl (WL.nil (WX.a (WC.b ?_)))
 obtain ⟨zyN,h⟩:=ye h
 refine WC.a (WL.pu rfl ?_)
 refine WL.a (d:=22) rfl rfl rfl (yy rfl) ?_
 refine WL.a (d:=23) rfl rfl rfl (ya fo_81_1 rfl rfl) ?_
 refine WL.a (d:=24) rfl rfl rfl (yb oneT_32 rfl (yc .here rfl)) ?_
 refine WL.pu rfl ?_
 refine WL.znth (dd:=26) rfl rfl (Z:=Z) (Pr:=(p55 Z)) y5f rfl rfl zyJ zyN ?_
 rintro zIW zIX zyO zIY ⟨zsh,zsi,rfl,zyP⟩
 refine WL.a (d:=27) rfl rfl rfl (yb y53 rfl (y4R hz.pv zyO rfl)) ?_
 refine WL.a (d:=28) rfl rfl rfl (yz Try.underlying55 rfl) ?_
 refine WL.pu rfl (WL.nil (WX.a ?_))
 obtain ⟨z96,zyQ,h⟩:=yU h
 refine WC.mid3 (fun (z7r : List Snetwork_event) (zdp : Option Addr) (zdq : Nat)=>(z96 z7r = some r)) (fun (z7r : List Snetwork_event) (zdp : Option Addr) (zdq : Nat)=>[]) (fun (z7r : List Snetwork_event) (zdp : Option Addr) (zdq : Nat)=>[row (.slice zdp z7r.length zdq) 113 7 (z7r.flatMap yF),stb z4F 81 [(.slice z7s zI.fModules.length z7t),(.slice z7u zI.fChannels.length z7v),(.slice z7w zI.fSwitches.length z7x),(.slice z7y zI.fLinks.length z7z),(.slice z7A zI.fVLs.length z7B),(.slice z7C zI.fHealth.length z7D),(.slice z7E zI.fCauses.length z7F),(.slice z7G zI.fVersions.length z7H),(.slice z7I z1N.length z7J),(.slice z7K z1o.length z7L),(.map (some z3B)),(.slice zdp z7r.length zdq),(.slice z7M z5E.length z7N),(.slice z7O z5F.length z7P)],y1s z3B (fun x=>Value.agg (y26 x).toArray) Value.pointer (y1F z3l),y1D z1v z3l]) ?_ ?_
 ·skip
  refine WC.block ?_
  refine WC.y5Y (fun (zdr : Nat) (z2s : Int) (z47 : List Snetwork_event) (za1 : Option Addr) (za2 : Nat)=>(y1T z1N z1o z1w z4E z4l z4m z96 zdr z2s z47 = some r)) (fun (zdr : Nat) (z2s : Int) (z47 : List Snetwork_event) (za1 : Option Addr) (za2 : Nat)=>[(0,(.pointer (some ⟨z4F,0,none⟩))),(1,(.int .i64 z4E)),(2,(.int .i64 z4l)),(3,(.int .i64 z4m)),(4,(.int .i64 z1w)),(10,(.int .i64 ((nth z1o z1w).fVL))),(27,(.slice zsh ((nth z1N ((nth z1o z1w).fVL)).length) zsi)),(28,(.int .i64 (((nth z1N ((nth z1o z1w).fVL)).length : Nat) : Int))),(29,(.int .i64 z2s))]) (fun (zdr : Nat) (z2s : Int) (z47 : List Snetwork_event) (za1 : Option Addr) (za2 : Nat)=>[row (.slice za1 z47.length za2) 113 7 (z47.flatMap yF),stb z4F 81 [(.slice z7s zI.fModules.length z7t),(.slice z7u zI.fChannels.length z7v),(.slice z7w zI.fSwitches.length z7x),(.slice z7y zI.fLinks.length z7z),(.slice z7A zI.fVLs.length z7B),(.slice z7C zI.fHealth.length z7D),(.slice z7E zI.fCauses.length z7F),(.slice z7G zI.fVersions.length z7H),(.slice z7I z1N.length z7J),(.slice z7K z1o.length z7L),(.map (some z3B)),(.slice za1 z47.length za2),(.slice z7M z5E.length z7N),(.slice z7O z5F.length z7P)],y1s z3B (fun x=>Value.agg (y26 x).toArray) Value.pointer (y1F z3l),y1D z1v z3l]) (fun (zdr : Nat) (z2s : Int) (z47 : List Snetwork_event) (za1 : Option Addr) (za2 : Nat)=>zdr) ⟨yw,0,z3k,z6p,z6q⟩ h (.cons rfl (.cons rfl (.cons rfl (.cons rfl (.cons rfl (.cons rfl (.cons rfl (.cons rfl (.cons rfl .nil))))))))) (.cons .h3 (.cons .here (.cons .here (.cons .here .nil)))) ?_
  rintro zdr z2s z47 za1 za2 h
  obtain ⟨zmF,rfl⟩:=y5D h
  rw [y1T] at h
  refine WC.b (WC.a (WL.pu rfl (WL.nil (WX.a (WC.b ?_)))))
  refine WC.cond rfl (fun zmI=>?_) (fun zmI=>?_)
  ·replace h:=ym h zmI
   refine WC.skip (WX.a ?_)
   obtain ⟨zjL,zyR,h⟩:=yU h
   refine WC.y3r (fun (z6o : List Snetwork_event) (zds : Option Addr) (zdt : Nat)=>(zjL z6o = some r)) (fun (z6o : List Snetwork_event) (zds : Option Addr) (zdt : Nat)=>[(0,(.pointer (some ⟨z4F,0,none⟩))),(1,(.int .i64 z4E)),(2,(.int .i64 z4l)),(3,(.int .i64 z4m)),(4,(.int .i64 z1w)),(10,(.int .i64 ((nth z1o z1w).fVL))),(27,(.slice zsh ((nth z1N ((nth z1o z1w).fVL)).length) zsi)),(28,(.int .i64 (((nth z1N ((nth z1o z1w).fVL)).length : Nat) : Int))),(29,(.int .i64 z2s))]) (fun (z6o : List Snetwork_event) (zds : Option Addr) (zdt : Nat)=>[row (.slice zds z6o.length zdt) 113 7 (z6o.flatMap yF),stb z4F 81 [(.slice z7s zI.fModules.length z7t),(.slice z7u zI.fChannels.length z7v),(.slice z7w zI.fSwitches.length z7x),(.slice z7y zI.fLinks.length z7z),(.slice z7A zI.fVLs.length z7B),(.slice z7C zI.fHealth.length z7D),(.slice z7E zI.fCauses.length z7F),(.slice z7G zI.fVersions.length z7H),(.slice z7I z1N.length z7J),(.slice z7K z1o.length z7L),(.map (some z3B)),(.slice zds z6o.length zdt),(.slice z7M z5E.length z7N),(.slice z7O z5F.length z7P)],y1s z3B (fun x=>Value.agg (y26 x).toArray) Value.pointer (y1F z3l),y1D z1v z3l]) ?_ ?_
   ·skip
    refine WC.block (WC.b ?_)
    obtain ⟨zyS,h⟩:=ye h
    refine WC.a ?_
    refine WL.znth (dd:=31) rfl rfl (Z:=Z) (Pr:=(fun r x=>r = e59 x)) y2p rfl rfl zyP zyS ?_
    rintro zIZ zJ0 zyT zJ1 rfl
    refine WL.a (d:=32) rfl rfl rfl (yx y6B rfl (y4t hz.pv zyT) rfl) ?_
    refine WL.new (dd:=12) rfl rfl rfl (y28 (cs:=[(.int .i64 0),(.int .i64 0),(.int .i64 0)]) y9I rfl) ?_
    intro zJ2 _
    refine WL.y1e rfl rfl (y1z yal rfl rfl rfl .here rfl rfl rfl) ?_
    refine WL.nil (WX.a (WC.b (WC.a ?_)))
    refine WL.a (d:=33) rfl rfl rfl (ya y1E rfl rfl) ?_
    refine WL.a (d:=34) rfl rfl rfl (yb yd rfl (yc .here rfl)) ?_
    refine WL.pu rfl (WL.pu rfl (WL.nil (WX.a ?_)))
    refine WC.cond rfl (fun zmJ=>?_) (fun zmJ=>?_)
    ·replace h:=ym h zmJ
     obtain ⟨zmG,zyU,h⟩:=zg h
     refine WC.yI (fun i=>[11].contains i) [] rfl ?_
     refine WD.a (i:=0) (d:=37) (by kernel_rfl) rfl z2 z3 rfl rfl rfl (fun _=>q_m rfl) ?_
     refine WD.a (i:=1) (d:=38) (by kernel_rfl) rfl z2 z3 rfl rfl rfl (fun _=>yy rfl) ?_
     refine WD.a (i:=2) (d:=39) (by kernel_rfl) rfl z2 z3 rfl rfl rfl (fun _=>ya y8N rfl rfl) ?_
     refine WD.e (i:=3) (d:=40) (by kernel_rfl) rfl z2 z3 rfl rfl rfl (y6f Try.underlying111 rfl rfl) ?_
     refine WD.a (i:=4) (d:=41) (by kernel_rfl) rfl z2 z3 rfl rfl rfl (fun _=>q_m rfl) ?_
     refine WD.a (i:=5) (d:=42) (by kernel_rfl) rfl z2 z3 rfl rfl rfl (fun _=>q_m rfl) ?_
     refine WD.a (i:=6) (d:=43) (by kernel_rfl) rfl z2 z3 rfl rfl rfl (fun _=>q_m rfl) ?_
     refine WD.a (i:=7) (d:=44) (by kernel_rfl) rfl z2 z3 rfl rfl rfl (fun _=>q_m rfl) ?_
     refine WD.e (i:=8) (d:=45) (by kernel_rfl) rfl z2 z3 rfl rfl rfl (yx y6B rfl (yQ .here) rfl) ?_
     refine WD.a (i:=9) (d:=46) (by kernel_rfl) rfl z2 z3 rfl rfl rfl (fun _=>y1n (v:=(.agg #[(.int .i64 z4l),(.int .i64 z4m),(.int .i64 ((nth z1o z1w).fVL)),(.int .i64 z1w),(.int .i64 ((nth (nth z1N ((nth z1o z1w).fVL)) z2s).fNode)),(.int .i64 ((nth (nth z1N ((nth z1o z1w).fVL)) z2s).fNext)),(.int .i64 ((nth (nth z1N ((nth z1o z1w).fVL)) z2s).fLink))])) (Eos.parts (l:=[.tmp 41,.tmp 42,.tmp 43,.tmp 44,.tmp 45]) (.cons rfl (.cons rfl (.cons rfl (.cons rfl (.cons rfl .nil))))) [0,1,2,3,4]) (fun _=>by kernel_rfl)) ?_
     refine WD.e (i:=10) (d:=47) (by kernel_rfl) rfl z2 z3 rfl rfl rfl (y6f Try.underlying113 rfl rfl) ?_
     refine WD.call2 (i:=11) (dd:=48) rfl (by kernel_rfl) rfl rfl rfl (.inl ⟨rfl,fun _ _=>(Sin.of .nil)⟩) (zC (l:=[.tmp 40,.tmp 47]) Try.call38 (.cons rfl (.cons rfl .nil))) (.cons .h2 (.cons .h1 .nil)) (cc hz (.cons .h2 (.cons .h1 .nil)) fun w pz ho=>y6p _ _ _ _ _ _ _ _ _ _ _ _ _ _ _ _ _ _ _ _ zyU w pz  ho) ?_
     rintro zyV zyW _
     refine WD.done (by kernel_rfl) ?_
     refine WX.yk ?_
     exact WX.mid (G:=List Snetwork_event × Option Addr × Nat) ⟨zmG,zyV,zyW⟩ h (.cons rfl (.cons rfl (.cons rfl (.cons rfl (.cons rfl (.cons rfl (.cons rfl (.cons rfl (.cons rfl .nil))))))))) (.cons .h1 (.cons .here (.cons .h1 (.cons .h1 .nil))))
    ·replace h:=yn h zmJ
     refine WC.skip (WX.yk ?_)
     exact WX.mid (G:=List Snetwork_event × Option Addr × Nat) ⟨z47,za1,za2⟩ h (.cons rfl (.cons rfl (.cons rfl (.cons rfl (.cons rfl (.cons rfl (.cons rfl (.cons rfl (.cons rfl .nil))))))))) (.cons .h1 (.cons .h1 (.cons .h1 (.cons .h1 .nil))))
   ·rintro z6o zds zdt h
    replace h:=(zyR z6o).symm.trans h
    refine WC.a (WL.pu rfl (WL.pu rfl (WL.nil ?_)))
    exact WX.round (G:=Nat × Int × List Snetwork_event × Option Addr × Nat) ⟨zmF,(i64 (z2s + 1)),z6o,zds,zdt⟩ h (Nat.lt_succ_self _) (.cons rfl (.cons rfl (.cons rfl (.cons rfl (.cons rfl (.cons rfl (.cons rfl (.cons rfl (.cons rfl .nil))))))))) (.cons .here (.cons .here (.cons .here (.cons .here .nil))))
  ·replace h:=yn h zmI
   refine WC.exit (WX.yg (WX.yg (WX.yv ?_)))
   exact WX.mid (G:=List Snetwork_event × Option Addr × Nat) ⟨z47,za1,za2⟩ h .nil (.cons .here (.cons .here (.cons .here (.cons .here .nil))))
 ·rintro z7r zdp zdq h
  replace h:=(zyQ z7r).symm.trans h
  obtain rfl:=Option.some.inj h
  refine WX.y29 Try.results25 .nil (fun w hw=>?_)
  exact ⟨zdp,zdq,y4X,trivial,hw.sub (.cons .h1 (.cons .here (.cons .here (.cons .here .nil))))⟩
def y1j (z48 : Int) (z7Q : Int → (List Snetwork_event) → Option (Bool × List Snetwork_event)) : Nat → Int → (List Snetwork_event) → Option (Bool × List Snetwork_event)
 | 0,_,_=>none
 | zmK + 1,z24,z2t=>if (decide ((i64 ((i64 (2 * z24)) + 1)) ≥ z48)) || (decide ((i64 ((i64 (2 * z24)) + 1)) < 0)) then z7Q z24 z2t else jp1 (fun (z6r : Int)=>(y1K z2t z6r z24).bind fun zsj=>if !zsj then z7Q z24 z2t else (y1L z2t z24 z6r).bind fun zjM=>y1j z48 z7Q zmK z6r zjM) fun zjN=>(if decide ((i64 ((i64 ((i64 (2 * z24)) + 1)) + 1)) < z48) then (y1K z2t (i64 ((i64 ((i64 (2 * z24)) + 1)) + 1)) (i64 ((i64 (2 * z24)) + 1))).bind fun zsk=>some zsk else some false).bind fun zmL=>if zmL then zjN (i64 ((i64 ((i64 (2 * z24)) + 1)) + 1)) else zjN (i64 ((i64 (2 * z24)) + 1))
theorem y5k {n : Nat} {z48 : Int} {z7Q : Int → (List Snetwork_event) → Option (Bool × List Snetwork_event)} {z24 : Int} {z2t : List Snetwork_event} {r : Bool × List Snetwork_event} (h : y1j z48 z7Q n z24 z2t = some r) : ∃ m,n = m + 1:=by
 cases n with
 | zero=>cases h
 | succ m=>exact ⟨m,rfl⟩
def y2B (z2u : List Snetwork_event) (i0_9332 : Int) (z48 : Int) : Option (Bool × List Snetwork_event) :=
 jp2 (fun (za3 : Int) (z6s : List Snetwork_event)=>some ((decide (za3 > i0_9332)),z6s)) fun z7Q=>y1j z48 z7Q yw i0_9332 z2u
set_option maxRecDepth 20000 in
theorem y6q (Z : Zp) (z4G : Nat) (z3m : Option Addr) (z3n : Nat) (z7R : Value) (z7S : Value) (z7T : Value) (z7U : Value) (z7V : Value) (z7W : Value) (z7X : Value) (z7Y : Value) (z7Z : Value) (z80 : Value) (z81 : Value) (z82 : Value) (z83 : Value) (z2u : List Snetwork_event) (i0_9332 : Int) (z48 : Int) (r : Bool × List Snetwork_event)
  (h : y2B z2u i0_9332 z48 = some r) (w₀ : World) (hz : PZ (fps [stb z4G 81 [z7R,z7S,z7T,z7U,z7V,z7W,z7X,z7Y,z7Z,z80,z81,(.slice z3m z2u.length z3n),z82,z83],row (.slice z3m z2u.length z3n) 113 7 (z2u.flatMap yF)]) w₀ Z)
  (hown : Hp (fps [stb z4G 81 [z7R,z7S,z7T,z7U,z7V,z7W,z7X,z7Y,z7Z,z80,z81,(.slice z3m z2u.length z3n),z82,z83],row (.slice z3m z2u.length z3n) 113 7 (z2u.flatMap yF)]) w₀ w₀ [stb z4G 81 [z7R,z7S,z7T,z7U,z7V,z7W,z7X,z7Y,z7Z,z80,z81,(.slice z3m z2u.length z3n),z82,z83],row (.slice z3m z2u.length z3n) 113 7 (z2u.flatMap yF)]) :
  Calls Try.prog 51 #[(.iface 111 (.pointer (some ⟨z4G,11,none⟩))),(.int .i64 i0_9332),(.int .i64 z48)] w₀ fun e w'=>e = .returned (.bool r.1) ∧ (r.2.length = z2u.length) ∧ Hp (fps [stb z4G 81 [z7R,z7S,z7T,z7U,z7V,z7W,z7X,z7Y,z7Z,z80,z81,(.slice z3m z2u.length z3n),z82,z83],row (.slice z3m z2u.length z3n) 113 7 (z2u.flatMap yF)]) w₀ w' [stb z4G 81 [z7R,z7S,z7T,z7U,z7V,z7W,z7X,z7Y,z7Z,z80,z81,(.slice z3m r.2.length z3n),z82,z83],row (.slice z3m r.2.length z3n) 113 7 (r.2.flatMap yF)]:=by
 unfold y2B at h
 refine Calls.yp (vs:=[(.iface 111 (.pointer (some ⟨z4G,11,none⟩))),(.int .i64 i0_9332),(.int .i64 z48)]) (pre:=[stb z4G 81 [z7R,z7S,z7T,z7U,z7V,z7W,z7X,z7Y,z7Z,z80,z81,(.slice z3m z2u.length z3n),z82,z83],row (.slice z3m z2u.length z3n) 113 7 (z2u.flatMap yF)]) (env:=[(0,(.iface 111 (.pointer (some ⟨z4G,11,none⟩)))),(1,(.int .i64 i0_9332)),(2,(.int .i64 z48))]) Try.func51 rfl Try.ntmps51 rfl (hown) rfl ?_
 refine WC.b (WC.a (WL.pu rfl (WL.nil (WX.a (WC.b (WC.a (WL.pu rfl (WL.pu rfl (WL.nil (WX.a ?_))))))))))
 obtain ⟨z7Q,zyX,h⟩:=y2s h
 refine WC.y2D (fun (za3 : Int) (z6s : List Snetwork_event)=>(z7Q za3 z6s = some r) ∧ (z6s.length = z2u.length)) (fun (za3 : Int) (z6s : List Snetwork_event)=>[(1,(.int .i64 i0_9332)),(7,(.int .i64 za3))]) (fun (za3 : Int) (z6s : List Snetwork_event)=>[row (.slice z3m z6s.length z3n) 113 7 (z6s.flatMap yF),stb z4G 81 [z7R,z7S,z7T,z7U,z7V,z7W,z7X,z7Y,z7Z,z80,z81,(.slice z3m z6s.length z3n),z82,z83]]) ?_ ?_
 ·skip
  refine WC.block ?_
  refine WC.y2F (fun (zdu : Nat) (z24 : Int) (z2t : List Snetwork_event)=>(y1j z48 z7Q zdu z24 z2t = some r) ∧ (z2t.length = z2u.length)) (fun (zdu : Nat) (z24 : Int) (z2t : List Snetwork_event)=>[(0,(.iface 111 (.pointer (some ⟨z4G,11,none⟩)))),(1,(.int .i64 i0_9332)),(2,(.int .i64 z48)),(7,(.int .i64 z24))]) (fun (zdu : Nat) (z24 : Int) (z2t : List Snetwork_event)=>[row (.slice z3m z2t.length z3n) 113 7 (z2t.flatMap yF),stb z4G 81 [z7R,z7S,z7T,z7U,z7V,z7W,z7X,z7Y,z7Z,z80,z81,(.slice z3m z2t.length z3n),z82,z83]]) (fun (zdu : Nat) (z24 : Int) (z2t : List Snetwork_event)=>zdu) ⟨yw,i0_9332,z2u⟩ ⟨h,rfl⟩ (.cons rfl (.cons rfl (.cons rfl (.cons rfl .nil)))) (.cons .h1 (.cons .here .nil)) ?_
  rintro zdu z24 z2t ⟨h,zmM⟩
  obtain ⟨zmK,rfl⟩:=y5k h
  rw [y1j] at h
  refine WC.block (WC.b (WC.a (WL.pu rfl (WL.pu rfl (WL.pu rfl (WL.pu rfl (WL.nil (WX.a (WC.b (WC.b (WC.a (WL.pu rfl (WL.pu rfl (WL.pu rfl (WL.pu rfl ?_)))))))))))))))
  refine WL.seg false 2 18 (B:=(decide ((i64 ((i64 (2 * z24)) + 1)) ≥ z48)) || (decide ((i64 ((i64 (2 * z24)) + 1)) < 0))) rfl rfl rfl rfl rfl rfl (fun h=>(y1p h).symm) (fun _ zyY=>?_) ?_
  ·skip
   refine WL.pu rfl (WL.pu rfl (WL.pu rfl ?_))
   exact WL.yr (y1q zyY) rfl rfl .all
  refine WL.nil (WX.a ?_)
  refine WC.cond rfl (fun zmN=>?_) (fun zmN=>?_)
  ·replace h:=ym h zmN
   refine WC.exit (WX.yg (WX.y5U rfl (WX.yg (WX.yv ?_))))
   exact WX.mid (G:=Int × List Snetwork_event) ⟨z24,z2t⟩ ⟨h,zmM⟩ (.cons rfl (.cons rfl .nil)) (.cons .here (.cons .here .nil))
  ·replace h:=yn h zmN
   refine WC.skip (WX.a (WC.b (WC.a (WL.pu rfl (WL.pu rfl (WL.nil (WX.a ?_)))))))
   obtain ⟨zjN,zyZ,h⟩:=yU h
   refine WC.y1i (fun (z6r : Int)=>(zjN z6r = some r)) (fun (z6r : Int)=>[(0,(.iface 111 (.pointer (some ⟨z4G,11,none⟩)))),(1,(.int .i64 i0_9332)),(2,(.int .i64 z48)),(7,(.int .i64 z24)),(9,(.int .i64 z6r))]) (fun (z6r : Int)=>[row (.slice z3m z2t.length z3n) 113 7 (z2t.flatMap yF),stb z4G 81 [z7R,z7S,z7T,z7U,z7V,z7W,z7X,z7Y,z7Z,z80,z81,(.slice z3m z2t.length z3n),z82,z83]]) ?_ ?_
   ·skip
    refine WC.b (WC.a (WL.pu rfl (WL.pu rfl (WL.pu rfl (WL.nil (WX.a (WC.b ?_)))))))
    obtain ⟨zmL,zsl,h⟩:=zg h
    refine WC.a (WL.pu rfl (WL.pu rfl (WL.pu rfl (WL.pu rfl ?_))))
    refine WL.seg true 4 28 (B:=zmL) rfl rfl rfl rfl rfl rfl (fun h=>(Option.some.inj (yn zsl h)).symm) (fun _ zz0=>?_) ?_
    ·skip
     have zhn:=ym zsl zz0
     obtain ⟨zsk,zz1,zhn⟩:=zg zhn
     replace zhn:=Option.some.inj zhn
     refine WL.pu rfl (WL.pu rfl (WL.pu rfl ?_))
     refine WL.b (dd:=32) rfl rfl rfl (y3v (l:=[.tmp 30,.tmp 31]) (y60) Try.call87 rfl (yc .h1 rfl) (.cons rfl (.cons rfl .nil))) .nil (ccl hz .nil (.cons .here .nil) fun w pz ho la=>y4c _ _ _ _ _ _ _ zz1 w pz (ZA.row (la _ (.head _) _) (RR.y19 (enc:=yF) (fun _=>rfl) _) ⟨w,pz.1⟩)) ?_
     refine WL.pu rfl ?_
     exact WL.yr zhn rfl rfl .all
    refine WL.nil (WX.a ?_)
    refine WC.cond rfl (fun zmO=>?_) (fun zmO=>?_)
    ·replace h:=ym h zmO
     refine WC.a (WL.pu rfl (WL.pu rfl (WL.nil ?_)))
     exact WX.mid (G:=Int) (i64 ((i64 ((i64 (2 * z24)) + 1)) + 1)) h (.cons rfl (.cons rfl (.cons rfl (.cons rfl (.cons rfl .nil))))) (.cons .here (.cons .here .nil))
    ·replace h:=yn h zmO
     refine WC.skip ?_
     exact WX.mid (G:=Int) (i64 ((i64 (2 * z24)) + 1)) h (.cons rfl (.cons rfl (.cons rfl (.cons rfl (.cons rfl .nil))))) (.cons .here (.cons .here .nil))
   ·rintro z6r h
    replace h:=(zyZ z6r).symm.trans h
    refine WC.b (WC.b ?_)
    obtain ⟨zsj,zz2,h⟩:=zg h
    refine WC.a (WL.pu rfl (WL.pu rfl (WL.pu rfl ?_)))
    refine WL.b (dd:=38) rfl rfl rfl (y3v (l:=[.tmp 36,.tmp 37]) (y60) Try.call87 rfl (yc .h1 rfl) (.cons rfl (.cons rfl .nil))) .nil (ccl hz .nil (.cons .here .nil) fun w pz ho la=>y4c _ _ _ _ _ _ _ zz2 w pz (ZA.row (la _ (.head _) _) (RR.y19 (enc:=yF) (fun _=>rfl) _) ⟨w,pz.1⟩)) ?_
    refine WL.pu rfl (WL.nil (WX.a ?_))
    refine WC.cond rfl (fun zmP=>?_) (fun zmP=>?_)
    ·replace h:=ym h zmP
     refine WC.exit (WX.yg (WX.y5U rfl (WX.yg (WX.yv ?_))))
     exact WX.mid (G:=Int × List Snetwork_event) ⟨z24,z2t⟩ ⟨h,zmM⟩ (.cons rfl (.cons rfl .nil)) (.cons .here (.cons .here .nil))
    ·replace h:=yn h zmP
     refine WC.skip (WX.a (WC.b ?_))
     obtain ⟨zjM,zz3,h⟩:=zg h
     refine WC.a (WL.pu rfl (WL.pu rfl (WL.pu rfl ?_)))
     refine WL.y21 (dd:=43) rfl rfl rfl (y3v (l:=[.tmp 41,.tmp 42]) (y61) Try.call88 rfl (yc .h1 rfl) (.cons rfl (.cons rfl .nil))) (.cons .here .nil) (cc hz (.cons .here .nil) fun w pz ho=>y4d _ _ _ _ _ _ _ zz3 w pz  ho) ?_
     rintro  zsm
     refine WL.restb (cs':=[z7R,z7S,z7T,z7U,z7V,z7W,z7X,z7Y,z7Z,z80,z81,(.slice z3m zjM.length z3n),z82,z83]) .h1 (by rw [zsm]) ?_
     refine WL.nil (WX.a (WC.a (WL.pu rfl (WL.pu rfl (WL.nil (WX.yk ?_))))))
     exact WX.round (G:=Nat × Int × List Snetwork_event) ⟨zmK,z6r,zjM⟩ ⟨h,(zsm.trans zmM)⟩ (Nat.lt_succ_self _) (.cons rfl (.cons rfl (.cons rfl (.cons rfl .nil)))) (.cons .h1 (.cons .here .nil))
 ·rintro za3 z6s ⟨h,zz4⟩
  replace h:=(zyX za3 z6s).symm.trans h
  refine WC.b (WC.a (WL.pu rfl (WL.pu rfl (WL.pu rfl (WL.pu rfl (WL.nil (WX.a (WC.ret ?_))))))))
  obtain rfl:=Option.some.inj h
  refine WX.yi Try.results51 (.tmp rfl .nil) (fun w hw=>?_)
  exact ⟨yM rfl,zz4,hw.sub (.cons .h1 (.cons .here .nil))⟩
def y3j (z1c : List Snetwork_event) : Option Snetwork_event :=
 chk ((0 : Int) ≤ (i64 (((z1c.length : Nat) : Int) - 1)) ∧ (i64 (((z1c.length : Nat) : Int) - 1)) < ((z1c.length : Nat) : Int)) (chk ((0 : Int) ≤ (i64 (((z1c.length : Nat) : Int) - 1)) ∧ (i64 (((z1c.length : Nat) : Int) - 1)) ≤ ((z1c.length : Nat) : Int)) (some (⟨((nth z1c (i64 (((z1c.length : Nat) : Int) - 1))).fTime),((nth z1c (i64 (((z1c.length : Nat) : Int) - 1))).fIn_),((nth z1c (i64 (((z1c.length : Nat) : Int) - 1))).fVl),((nth z1c (i64 (((z1c.length : Nat) : Int) - 1))).fSent),(⟨(((nth z1c (i64 (((z1c.length : Nat) : Int) - 1))).fHop).fNode),(((nth z1c (i64 (((z1c.length : Nat) : Int) - 1))).fHop).fNext),(((nth z1c (i64 (((z1c.length : Nat) : Int) - 1))).fHop).fLink)⟩ : Sapi_Hop)⟩ : Snetwork_event)))
set_option maxRecDepth 20000 in
theorem y6H (Z : Zp) (z97 : Nat) (z84 : Option Addr) (z85 : Nat) (zbG : Value) (zbH : Value) (zbI : Value) (zbJ : Value) (zbK : Value) (zbL : Value) (zbM : Value) (zbN : Value) (zbO : Value) (zbP : Value) (zbQ : Value) (zbR : Value) (zbS : Value) (z1c : List Snetwork_event) (r : Snetwork_event)
  (h : y3j z1c = some r) (w₀ : World) (hz : PZ (fps [stb z97 81 [zbG,zbH,zbI,zbJ,zbK,zbL,zbM,zbN,zbO,zbP,zbQ,(.slice z84 z1c.length z85),zbR,zbS],row (.slice z84 z1c.length z85) 113 7 (z1c.flatMap yF)]) w₀ Z)
  (hown : Hp (fps [stb z97 81 [zbG,zbH,zbI,zbJ,zbK,zbL,zbM,zbN,zbO,zbP,zbQ,(.slice z84 z1c.length z85),zbR,zbS],row (.slice z84 z1c.length z85) 113 7 (z1c.flatMap yF)]) w₀ w₀ [stb z97 81 [zbG,zbH,zbI,zbJ,zbK,zbL,zbM,zbN,zbO,zbP,zbQ,(.slice z84 z1c.length z85),zbR,zbS],row (.slice z84 z1c.length z85) 113 7 (z1c.flatMap yF)]) :
  Calls Try.prog 91 #[(.pointer (some ⟨z97,11,none⟩))] w₀ fun e w'=>∃ zsn : Option Addr,∃ zso : Nat,e = .returned (.iface 113 (.agg #[(.int .i64 r.fTime),(.int .i64 r.fIn_),(.int .i64 r.fVl),(.int .i64 r.fSent),(.int .i64 r.fHop.fNode),(.int .i64 r.fHop.fNext),(.int .i64 r.fHop.fLink)])) ∧ True ∧ Hp (fps [stb z97 81 [zbG,zbH,zbI,zbJ,zbK,zbL,zbM,zbN,zbO,zbP,zbQ,(.slice z84 z1c.length z85),zbR,zbS],row (.slice z84 z1c.length z85) 113 7 (z1c.flatMap yF)]) w₀ w' [stb z97 81 [zbG,zbH,zbI,zbJ,zbK,zbL,zbM,zbN,zbO,zbP,zbQ,(.slice zsn ((z1c.take ((i64 (((z1c.length : Nat) : Int) - 1)) : Int).toNat).length) zso),zbR,zbS],row (.slice zsn ((z1c.take ((i64 (((z1c.length : Nat) : Int) - 1)) : Int).toNat).length) zso) 113 7 ((z1c.take ((i64 (((z1c.length : Nat) : Int) - 1)) : Int).toNat).flatMap yF)]:=by
 unfold y3j at h
 refine Calls.yp (vs:=[(.pointer (some ⟨z97,11,none⟩))]) (pre:=[stb z97 81 [zbG,zbH,zbI,zbJ,zbK,zbL,zbM,zbN,zbO,zbP,zbQ,(.slice z84 z1c.length z85),zbR,zbS],row (.slice z84 z1c.length z85) 113 7 (z1c.flatMap yF)]) (env:=[(0,(.pointer (some ⟨z97,11,none⟩)))]) Try.func91 rfl Try.ntmps91 rfl (hown) rfl ?_
 refine WC.b (WC.a (WL.pu rfl (WL.nil (WX.a (WC.b (WC.a (WL.pu rfl ?_)))))))
 refine WL.a (d:=6) rfl rfl rfl (yy rfl) ?_
 refine WL.a (d:=7) rfl rfl rfl (yb y5O rfl (yc .here rfl)) ?_
 refine WL.pu rfl (WL.nil (WX.a (WC.b ?_)))
 obtain ⟨zho,h⟩:=ye h
 refine WC.a (WL.pu rfl (WL.pu rfl ?_))
 refine WL.a (d:=10) rfl rfl rfl (yz Try.underlying79 rfl) ?_
 refine WL.pu rfl ?_
 refine WL.know (fun w hw=>Hp.y2g .h1 hw (by intro hz'; have:=zho; rw [hz'] at this; omega)) ?_
 rintro ⟨zJ3,rfl⟩
 refine WL.a (d:=12) rfl rfl rfl (yu y4Z rfl rfl zho.1 zho.2 y1c) ?_
 refine WL.a (d:=13) rfl rfl rfl (y1J (cs:=(yF (nth z1c (i64 (((z1c.length : Nat) : Int) - 1))))) zcH rfl rfl (y1U .h1 (y1V (enc:=yF) (l:=z1c) (i:=i64 (((z1c.length : Nat) : Int) - 1)) (sz:=7) (fun _=>rfl) zho.1 zho.2))) ?_
 refine WL.new (dd:=4) rfl rfl rfl (y28 (cs:=[(.int .i64 0),(.int .i64 0),(.int .i64 0),(.int .i64 0),(.int .i64 0),(.int .i64 0),(.int .i64 0)]) zqC rfl) ?_
 intro zJ4 _
 refine WL.y1e rfl rfl (y1z zjg rfl rfl rfl .here rfl rfl rfl) ?_
 refine WL.nil (WX.a (WC.b ?_))
 obtain ⟨zz5,h⟩:=ye h
 refine WC.a (WL.pu rfl (WL.pu rfl (WL.pu rfl ?_)))
 refine WL.a (d:=17) rfl rfl rfl (yz Try.underlying79 rfl) ?_
 refine WL.pu rfl ?_
 refine WL.y7z (dd:=19) (enc:=yF) (ls:=z1c) rfl rfl y4Z rfl rfl .h2 (fun _=>rfl) zz5 ?_
 intro zsp zsq
 refine WL.a (d:=20) rfl rfl rfl (yy rfl) ?_
 refine WL.y1e rfl rfl (y3n (ds:=[zbG,zbH,zbI,zbJ,zbK,zbL,zbM,zbN,zbO,zbP,zbQ,(.slice zsp ((z1c.take ((i64 (((z1c.length : Nat) : Int) - 1)) : Int).toNat).length) zsq),zbR,zbS]) yax rfl rfl rfl rfl rfl .h2 rfl rfl) ?_
 refine WL.nil (WX.a (WC.b (WC.a ?_)))
 refine WL.a (d:=21) rfl rfl rfl (yx zcH rfl (yQ .h2) rfl) ?_
 refine WL.a (d:=22) rfl rfl rfl (y6f Try.underlying113 rfl rfl) ?_
 refine WL.pu rfl (WL.nil (WX.a (WC.ret ?_)))
 obtain rfl:=Option.some.inj h
 refine WX.yi Try.results91 (.tmp rfl .nil) (fun w hw=>?_)
 exact ⟨zsp,zsq,yM rfl,trivial,hw.sub (.cons .here (.cons .here .nil))⟩
def y2N (z3o : List Snetwork_event) : Option (Snetwork_event × List Snetwork_event) :=
 (y2o z3o).bind fun zmQ=>(y1L z3o 0 (i64 (zmQ - 1))).bind fun zmR=>(y2B zmR 0 (i64 (zmQ - 1))).bind fun zhp=>(y3j zhp.2).bind fun zsr=>some (zsr,(zhp.2.take ((i64 (((zhp.2.length : Nat) : Int) - 1)) : Int).toNat))
set_option maxRecDepth 20000 in
theorem y6I (Z : Zp) (z98 : Nat) (z5G : Option Addr) (z5H : Nat) (za4 : Value) (za5 : Value) (za6 : Value) (za7 : Value) (za8 : Value) (za9 : Value) (zaa : Value) (zab : Value) (zac : Value) (zad : Value) (zae : Value) (zaf : Value) (zag : Value) (z3o : List Snetwork_event) (r : Snetwork_event × List Snetwork_event)
  (h : y2N z3o = some r) (w₀ : World) (hz : PZ (fps [stb z98 81 [za4,za5,za6,za7,za8,za9,zaa,zab,zac,zad,zae,(.slice z5G z3o.length z5H),zaf,zag],row (.slice z5G z3o.length z5H) 113 7 (z3o.flatMap yF)]) w₀ Z)
  (hown : Hp (fps [stb z98 81 [za4,za5,za6,za7,za8,za9,zaa,zab,zac,zad,zae,(.slice z5G z3o.length z5H),zaf,zag],row (.slice z5G z3o.length z5H) 113 7 (z3o.flatMap yF)]) w₀ w₀ [stb z98 81 [za4,za5,za6,za7,za8,za9,zaa,zab,zac,zad,zae,(.slice z5G z3o.length z5H),zaf,zag],row (.slice z5G z3o.length z5H) 113 7 (z3o.flatMap yF)]) :
  Calls Try.prog 39 #[(.iface 111 (.pointer (some ⟨z98,11,none⟩)))] w₀ fun e w'=>∃ zss : Option Addr,∃ zst : Nat,e = .returned (.iface 113 (.agg #[(.int .i64 r.1.fTime),(.int .i64 r.1.fIn_),(.int .i64 r.1.fVl),(.int .i64 r.1.fSent),(.int .i64 r.1.fHop.fNode),(.int .i64 r.1.fHop.fNext),(.int .i64 r.1.fHop.fLink)])) ∧ True ∧ Hp (fps [stb z98 81 [za4,za5,za6,za7,za8,za9,zaa,zab,zac,zad,zae,(.slice z5G z3o.length z5H),zaf,zag],row (.slice z5G z3o.length z5H) 113 7 (z3o.flatMap yF)]) w₀ w' [stb z98 81 [za4,za5,za6,za7,za8,za9,zaa,zab,zac,zad,zae,(.slice zss r.2.length zst),zaf,zag],row (.slice zss r.2.length zst) 113 7 (r.2.flatMap yF)]:=by
 unfold y2N at h
 refine Calls.yp (vs:=[(.iface 111 (.pointer (some ⟨z98,11,none⟩)))]) (pre:=[stb z98 81 [za4,za5,za6,za7,za8,za9,zaa,zab,zac,zad,zae,(.slice z5G z3o.length z5H),zaf,zag],row (.slice z5G z3o.length z5H) 113 7 (z3o.flatMap yF)]) (env:=[(0,(.iface 111 (.pointer (some ⟨z98,11,none⟩))))]) Try.func39 rfl Try.ntmps39 rfl (hown) rfl ?_
 refine WC.b (WC.a (WL.pu rfl (WL.nil (WX.a (WC.b ?_)))))
 obtain ⟨zmQ,zz6,h⟩:=zg h
 refine WC.a (WL.pu rfl ?_)
 refine WL.b (dd:=5) rfl rfl rfl (y3v (l:=[]) (y7Y) Try.call86 rfl (yc .here rfl) .nil) .nil (ccl hz .nil (.cons .h1 .nil) fun w pz ho la=>y5j _ _ _ _ _ zz6 w pz (ZA.row (la _ (.head _) _) (RR.y19 (enc:=yF) (fun _=>rfl) _) ⟨w,pz.1⟩)) ?_
 refine WL.pu rfl (WL.pu rfl (WL.nil (WX.a (WC.b ?_))))
 obtain ⟨zmR,zz7,h⟩:=zg h
 refine WC.a (WL.pu rfl (WL.pu rfl ?_))
 refine WL.y21 (dd:=9) rfl rfl rfl (y3v (l:=[.const (.int .i64 0),.tmp 8]) (y61) Try.call88 rfl (yc .here rfl) (.cons rfl (.cons rfl .nil))) (.cons .h1 .nil) (cc hz (.cons .h1 .nil) fun w pz ho=>y4d _ _ _ _ _ _ _ zz7 w pz  ho) ?_
 rintro  zz8
 refine WL.restb (cs':=[za4,za5,za6,za7,za8,za9,zaa,zab,zac,zad,zae,(.slice z5G zmR.length z5H),zaf,zag]) .h1 (by rw [zz8]) ?_
 refine WL.nil (WX.a (WC.b ?_))
 obtain ⟨zhp,zz9,h⟩:=zg h
 refine WC.a (WL.pu rfl (WL.pu rfl ?_))
 refine WL.y21 (dd:=12) rfl rfl rfl (zC (l:=[.tmp 10,.const (.int .i64 0),.tmp 11]) Try.call51 (.cons rfl (.cons rfl (.cons rfl .nil)))) (.cons .here (.cons .here .nil)) (cc hz (.cons .here (.cons .here .nil)) fun w pz ho=>y6q _ _ _ _ _ _ _ _ _ _ _ _ _ _ _ _ _ _ _ _ _ zz9 w pz  ho) ?_
 rintro  zza
 refine WL.restb (cs':=[za4,za5,za6,za7,za8,za9,zaa,zab,zac,zad,zae,(.slice z5G zhp.2.length z5H),zaf,zag]) .here (by rw [zza]) ?_
 refine WL.nil (WX.a (WC.b ?_))
 obtain ⟨zsr,zzb,h⟩:=zg h
 refine WC.a (WL.pu rfl ?_)
 refine WL.y4r (dd:=14) rfl rfl rfl (y8s (l:=[]) (ya9 _) Try.call91 rfl .nil) (.cons .here (.cons .here .nil)) (cc hz (.cons .here (.cons .here .nil)) fun w pz ho=>y6H _ _ _ _ _ _ _ _ _ _ _ _ _ _ _ _ _ _ _ zzb w pz  ho) ?_
 rintro zzc zzd _
 refine WL.pu rfl (WL.nil (WX.a (WC.ret ?_)))
 obtain rfl:=Option.some.inj h
 refine WX.yi Try.results39 (.tmp rfl .nil) (fun w hw=>?_)
 exact ⟨zzc,zzd,yM rfl,trivial,hw.sub (.cons .here (.cons .here .nil))⟩
def y5H (z2T : Int) (z3C : Int) (z4H : Int) : Option Sport_Port :=
 if (((((decide (z2T < 1)) || (decide (z2T > 16))) || (decide (z3C < 0))) || (decide (z3C > 1000))) || (decide (z4H < 0))) || (decide (z4H > 1073741824)) then none else some (⟨(⟨z2T,z3C,z4H⟩ : Sport_numbers),0,0,([] : List Sport_frame)⟩ : Sport_Port)
set_option maxRecDepth 20000 in
theorem yaV (Z : Zp)  (z2T : Int) (z3C : Int) (z4H : Int) (r : Sport_Port)
  (h : y5H z2T z3C z4H = some r) (w₀ : World) (hz : PZ [] w₀ Z) :
  Calls Try.prog 52 #[(.int .i64 z2T),(.int .i64 z3C),(.int .i64 z4H)] w₀ fun e w'=>∃ zsu : Nat,∃ zsv : Option Addr,∃ zsw : Nat,e = .returned (.tuple #[(.pointer (some ⟨zsu,0,none⟩)),(.int .i64 0)]) ∧ True ∧ Hp [] w₀ w' [stb zsu 143 [(.int .i64 r.fNumbers.fSlow),(.int .i64 r.fNumbers.fDelay),(.int .i64 r.fNumbers.fStore),(.int .i64 r.fNow),(.int .i64 r.fLast),(.slice zsv r.fFrames.length zsw)],row (.slice zsv r.fFrames.length zsw) 146 2 (r.fFrames.flatMap y2d)]:=by
 unfold y5H at h
 refine Calls.yp (vs:=[(.int .i64 z2T),(.int .i64 z3C),(.int .i64 z4H)]) (pre:=[]) (env:=[(0,(.int .i64 z2T)),(1,(.int .i64 z3C)),(2,(.int .i64 z4H))]) Try.func52 rfl Try.ntmps52 rfl (Hp.nil w₀ _) rfl ?_
 refine WC.b (WC.a (WL.pu rfl (WL.pu rfl (WL.nil (WX.a (WC.b (WC.b (WC.a (WL.pu rfl (WL.pu rfl (WL.pu rfl ?_)))))))))))
 refine WL.seg false 2 10 (B:=(decide (z2T < 1)) || (decide (z2T > 16))) rfl rfl rfl rfl rfl rfl (fun h=>(y1p h).symm) (fun _ zze=>?_) ?_
 ·skip
  refine WL.pu rfl (WL.pu rfl (WL.pu rfl ?_))
  exact WL.yr (y1q zze) rfl rfl .all
 refine WL.pu rfl ?_
 refine WL.seg false 2 14 (B:=((decide (z2T < 1)) || (decide (z2T > 16))) || (decide (z3C < 0))) rfl rfl rfl rfl rfl rfl (fun h=>(y1p h).symm) (fun _ zzf=>?_) ?_
 ·skip
  refine WL.pu rfl (WL.pu rfl (WL.pu rfl ?_))
  exact WL.yr (y1q zzf) rfl rfl .all
 refine WL.pu rfl ?_
 refine WL.seg false 2 18 (B:=(((decide (z2T < 1)) || (decide (z2T > 16))) || (decide (z3C < 0))) || (decide (z3C > 1000))) rfl rfl rfl rfl rfl rfl (fun h=>(y1p h).symm) (fun _ zzg=>?_) ?_
 ·skip
  refine WL.pu rfl (WL.pu rfl (WL.pu rfl ?_))
  exact WL.yr (y1q zzg) rfl rfl .all
 refine WL.pu rfl ?_
 refine WL.seg false 2 22 (B:=((((decide (z2T < 1)) || (decide (z2T > 16))) || (decide (z3C < 0))) || (decide (z3C > 1000))) || (decide (z4H < 0))) rfl rfl rfl rfl rfl rfl (fun h=>(y1p h).symm) (fun _ zzh=>?_) ?_
 ·skip
  refine WL.pu rfl (WL.pu rfl (WL.pu rfl ?_))
  exact WL.yr (y1q zzh) rfl rfl .all
 refine WL.pu rfl ?_
 refine WL.seg false 2 26 (B:=(((((decide (z2T < 1)) || (decide (z2T > 16))) || (decide (z3C < 0))) || (decide (z3C > 1000))) || (decide (z4H < 0))) || (decide (z4H > 1073741824))) rfl rfl rfl rfl rfl rfl (fun h=>(y1p h).symm) (fun _ zzi=>?_) ?_
 ·skip
  refine WL.pu rfl (WL.pu rfl (WL.pu rfl ?_))
  exact WL.yr (y1q zzi) rfl rfl .all
 refine WL.nil (WX.a ?_)
 refine WC.cond rfl (fun zmS=>?_) (fun zmS=>?_)
 ·replace h:=ym h zmS
  refine WC.b (WC.a (WL.pu rfl (WL.pu rfl (WL.nil (WX.a (WC.ret (WX.yj ?_)))))))
  cases h
 ·replace h:=yn h zmS
  refine WC.skip (WX.a (WC.b (WC.a (WL.pu rfl (WL.pu rfl (WL.pu rfl ?_))))))
  refine WL.a (d:=33) rfl rfl rfl (y1n (v:=(.agg #[(.int .i64 z2T),(.int .i64 z3C),(.int .i64 z4H)])) (Eos.parts (l:=[.tmp 30,.tmp 31,.tmp 32]) (.cons rfl (.cons rfl (.cons rfl .nil))) [0,1,2]) (fun _=>by kernel_rfl)) ?_
  refine WL.a (d:=34) rfl rfl rfl (y1n (v:=(.agg #[(.int .i64 z2T),(.int .i64 z3C),(.int .i64 z4H),(.int .i64 0),(.int .i64 0),(.slice none 0 0)])) (Eos.parts (l:=[.tmp 33]) (.cons rfl .nil) [0]) (fun _=>by kernel_rfl)) ?_
  refine WL.new (dd:=35) rfl rfl rfl (y1N (cs:=[(.int .i64 z2T),(.int .i64 z3C),(.int .i64 z4H),(.int .i64 0),(.int .i64 0),(.slice none 0 0)]) rfl rfl) ?_
  intro zzj _
  refine WL.pu rfl (WL.pu rfl (WL.nil (WX.a (WC.ret ?_))))
  refine WX.nilRow 146 2 ?_
  obtain rfl:=Option.some.inj h
  refine WX.yi Try.results52 (.tmp rfl (.tmp rfl .nil)) (fun w hw=>?_)
  exact ⟨zzj,none,0,ret2 rfl rfl,trivial,hw.sub (.cons .h1 (.cons .here .nil))⟩
def y3K (z1O : Sapi_Config) (zjO : List (List Sapi_Hop)) (zjP : List zSt) (zah : List (Snetwork_exit × Sport_Port)) (zjQ : List Snetwork_event) (zjR : List Sapi_Come) (zjS : List Sapi_Come) (zX : Sapi_Hop) : Option (List (Snetwork_exit × Sport_Port)) :=
 jp1 (fun (zai : List (Snetwork_exit × Sport_Port))=>some zai) fun zjT=>if !y2t zah (⟨zX.fNode,zX.fLink⟩ : Snetwork_exit) then jp2 (fun (zaj : Int) (zak : Int)=>chk ((0 : Int) ≤ zX.fLink ∧ zX.fLink < ((z1O.fLinks.length : Nat) : Int)) ((y5H ((nth z1O.fLinks zX.fLink).fSlow) zaj zak).bind fun zbT=>zjT (y1b zah (⟨zX.fNode,zX.fLink⟩ : Snetwork_exit) zbT))) fun zjU=>if decide ((i64 (zX.fNode - ((z1O.fModules.length : Nat) : Int))) ≥ 0) then chk ((0 : Int) ≤ (i64 (zX.fNode - ((z1O.fModules.length : Nat) : Int))) ∧ (i64 (zX.fNode - ((z1O.fModules.length : Nat) : Int))) < ((z1O.fSwitches.length : Nat) : Int)) (zjU ((nth z1O.fSwitches (i64 (zX.fNode - ((z1O.fModules.length : Nat) : Int)))).fDelay) ((nth z1O.fSwitches (i64 (zX.fNode - ((z1O.fModules.length : Nat) : Int)))).fStore)) else zjU 0 1073741824 else zjT zah
set_option maxRecDepth 20000 in
theorem y8a (Z : Zp) (zdv : Addr) (zsx : Option Addr) (zsy : Nat) (zsz : Option Addr) (zsA : Nat) (zsB : Option Addr) (zsC : Nat) (zsD : Option Addr) (zsE : Nat) (zsF : Option Addr) (zsG : Nat) (zsH : Option Addr) (zsI : Nat) (zsJ : Option Addr) (zsK : Nat) (zsL : Option Addr) (zsM : Nat) (zsN : Option Addr) (zsO : Nat) (zsP : Option Addr) (zsQ : Nat) (z86 : Nat) (z3P : List (Snetwork_exit × ((Nat × (Option Addr × Nat)) × Sport_Port))) (zsR : Option Addr) (zsS : Nat) (zsT : Option Addr) (zsU : Nat) (zsV : Option Addr) (zsW : Nat) (z1O : Sapi_Config) (zjO : List (List Sapi_Hop)) (zjP : List zSt) (zah : List (Snetwork_exit × Sport_Port)) (zjQ : List Snetwork_event) (zjR : List Sapi_Come) (zjS : List Sapi_Come) (zX : Sapi_Hop) (r : (List (Snetwork_exit × Sport_Port)))
  (h : y3K z1O zjO zjP zah zjQ zjR zjS zX = some r) (w₀ : World) (hz : PZ (fps [y1s z86 (fun x=>Value.agg (y26 x).toArray) Value.pointer (y1F z3P),y1D z1v z3P]) w₀ Z)
  (zJ5 : ZS Z 4 (y2i Z) zsx zsy z1O.fModules)
  (zJ6 : ZS Z 4 (y2R Z) zsz zsA z1O.fChannels)
  (zsX : ZS Z 4 (fun r x=>r = e64 x) zsB zsC z1O.fSwitches)
  (zzk : ZS Z 4 (fun r x=>r = e62 x) zsD zsE z1O.fLinks)
  (zJ7 : ZS Z 7 (y2A Z) zsF zsG z1O.fVLs)
  (zJ8 : ZS Z 5 (fun r x=>r = y2T x) zsH zsI z1O.fHealth)
  (zJ9 : ZS Z 3 (y2S Z) zsJ zsK z1O.fCauses)
  (zJa : ZS Z 4 (fun r x=>r = y2U x) zsL zsM z1O.fVersions)
  (zJb : ZS Z 1 (p55 Z) zsN zsO zjO)
  (zJc : ZS Z 3 (fun r x=>r = e53 x) zsP zsQ zjP)
  (zmT : dat z3P = zah)
  (zJd : ZS Z 7 (fun r x=>r = yF x) zsR zsS zjQ)
  (zJe : ZS Z 3 (fun r x=>r = e50 x) zsT zsU zjR)
  (zJf : ZS Z 3 (fun r x=>r = e50 x) zsV zsW zjS)
  (zbU : ZC Z zdv [(.slice zsx z1O.fModules.length zsy),(.slice zsz z1O.fChannels.length zsA),(.slice zsB z1O.fSwitches.length zsC),(.slice zsD z1O.fLinks.length zsE),(.slice zsF z1O.fVLs.length zsG),(.slice zsH z1O.fHealth.length zsI),(.slice zsJ z1O.fCauses.length zsK),(.slice zsL z1O.fVersions.length zsM),(.slice zsN zjO.length zsO),(.slice zsP zjP.length zsQ),(.map (some z86)),(.slice zsR zjQ.length zsS),(.slice zsT zjR.length zsU),(.slice zsV zjS.length zsW)])
  (hown : Hp (fps [y1s z86 (fun x=>Value.agg (y26 x).toArray) Value.pointer (y1F z3P),y1D z1v z3P]) w₀ w₀ [y1s z86 (fun x=>Value.agg (y26 x).toArray) Value.pointer (y1F z3P),y1D z1v z3P]) :
  Calls Try.prog 40 #[(.pointer (some zdv)),(.agg #[(.int .i64 zX.fNode),(.int .i64 zX.fNext),(.int .i64 zX.fLink)])] w₀ fun e w'=>∃ zjV : List (Snetwork_exit × ((Nat × (Option Addr × Nat)) × Sport_Port)),e = .returned (.pointer (yE (y1F zjV) (⟨zX.fNode,zX.fLink⟩ : Snetwork_exit) (none : Option Addr))) ∧ (dat zjV = r) ∧ Hp (fps [y1s z86 (fun x=>Value.agg (y26 x).toArray) Value.pointer (y1F z3P),y1D z1v z3P]) w₀ w' [y1s z86 (fun x=>Value.agg (y26 x).toArray) Value.pointer (y1F zjV),y1D z1v zjV]:=by
 unfold y3K at h
 refine Calls.yp (vs:=[(.pointer (some zdv)),(.agg #[(.int .i64 zX.fNode),(.int .i64 zX.fNext),(.int .i64 zX.fLink)])]) (pre:=[y1s z86 (fun x=>Value.agg (y26 x).toArray) Value.pointer (y1F z3P),y1D z1v z3P]) (env:=[(0,(.pointer (some zdv))),(1,(.agg #[(.int .i64 zX.fNode),(.int .i64 zX.fNext),(.int .i64 zX.fLink)]))]) Try.func40 rfl Try.ntmps40 rfl (hown) rfl ?_
 refine WC.b (WC.a ?_)
 refine WL.new (dd:=3) rfl rfl rfl (y1N (cs:=[(.int .i64 zX.fNode),(.int .i64 zX.fNext),(.int .i64 zX.fLink)]) rfl rfl) ?_
 intro zmU _
 refine WL.pu rfl (WL.nil (WX.a (WC.b (WC.a ?_))))
 refine WL.a (d:=9) rfl rfl rfl (ya y1E rfl rfl) ?_
 refine WL.a (d:=10) rfl rfl rfl (yb yd rfl (yc .here rfl)) ?_
 refine WL.a (d:=11) rfl rfl rfl (ya y4W rfl rfl) ?_
 refine WL.a (d:=12) rfl rfl rfl (yb yd rfl (yc .here rfl)) ?_
 refine WL.a (d:=13) rfl rfl rfl (y1n (v:=(.agg #[(.int .i64 zX.fNode),(.int .i64 zX.fLink)])) (Eos.parts (l:=[.tmp 10,.tmp 12]) (.cons rfl (.cons rfl .nil)) [0,1]) (fun _=>by kernel_rfl)) ?_
 refine WL.new (dd:=5) rfl rfl rfl (y28 (cs:=[(.int .i64 0),(.int .i64 0)]) zwk rfl) ?_
 intro zhq _
 refine WL.y1e rfl rfl (y1z zwl rfl rfl rfl .here rfl rfl rfl) ?_
 refine WL.nil (WX.a ?_)
 obtain ⟨zjT,zzl,h⟩:=yU h
 refine WC.y2D (fun (zai : List (Snetwork_exit × Sport_Port)) (zbV : List (Snetwork_exit × ((Nat × (Option Addr × Nat)) × Sport_Port)))=>(zjT zai = some r) ∧ (dat zbV = zai)) (fun (zai : List (Snetwork_exit × Sport_Port)) (zbV : List (Snetwork_exit × ((Nat × (Option Addr × Nat)) × Sport_Port)))=>[(0,(.pointer (some zdv))),(5,(.pointer (some ⟨zhq,0,none⟩)))]) (fun (zai : List (Snetwork_exit × Sport_Port)) (zbV : List (Snetwork_exit × ((Nat × (Option Addr × Nat)) × Sport_Port)))=>[stb zhq 136 [(.int .i64 zX.fNode),(.int .i64 zX.fLink)],y1s z86 (fun x=>Value.agg (y26 x).toArray) Value.pointer (y1F zbV),y1D z1v zbV]) ?_ ?_
 ·skip
  refine WC.b ?_
  refine WC.yI (fun i=>[].contains i) [] rfl ?_
  refine WD.a (i:=0) (d:=14) (by kernel_rfl) rfl z2 z3 rfl rfl rfl (fun _=>q_m rfl) ?_
  refine WD.a (i:=1) (d:=15) (by kernel_rfl) rfl z2 z3 rfl rfl rfl (fun _=>yy rfl) ?_
  refine WD.a (i:=2) (d:=16) (by kernel_rfl) rfl z2 z3 rfl rfl rfl (fun _=>ya y8O rfl rfl) ?_
  refine WD.e (i:=3) (d:=17) (by kernel_rfl) rfl z2 z3 rfl rfl rfl (yb y8P rfl (yD hz.pv zbU rfl)) ?_
  refine WD.e (i:=4) (d:=18) (by kernel_rfl) rfl z2 z3 rfl rfl rfl (yx zlx rfl (yQ .here) rfl) ?_
  refine WD.e (i:=5) (d:=19) (by kernel_rfl) rfl z2 z3 rfl rfl rfl (y5o (k:=(⟨zX.fNode,zX.fLink⟩ : Snetwork_exit)) (dflt:=(none : Option Addr)) zly Try.underlying77 zqD rfl rfl rfl .h2) ?_
  refine WD.a (i:=6) (d:=20) (by kernel_rfl) rfl z2 z3 rfl rfl rfl (fun _=>q_eqlPN zmT Try.underlying116 rfl rfl) ?_
  refine WD.done (by kernel_rfl) ?_
  refine WX.a ?_
  refine WC.cond rfl (fun zmV=>?_) (fun zmV=>?_)
  ·replace h:=ym h zmV
   refine WC.b (WC.a (WL.pu rfl (WL.pu rfl (WL.nil (WX.a ?_)))))
   obtain ⟨zjU,zzm,h⟩:=y2s h
   refine WC.y2D (fun (zaj : Int) (zak : Int)=>(zjU zaj zak = some r)) (fun (zaj : Int) (zak : Int)=>[(0,(.pointer (some zdv))),(3,(.pointer (some ⟨zmU,0,none⟩))),(5,(.pointer (some ⟨zhq,0,none⟩))),(6,(.int .i64 zaj)),(7,(.int .i64 zak))]) (fun (zaj : Int) (zak : Int)=>[stb zmU 59 [(.int .i64 zX.fNode),(.int .i64 zX.fNext),(.int .i64 zX.fLink)],stb zhq 136 [(.int .i64 zX.fNode),(.int .i64 zX.fLink)],y1s z86 (fun x=>Value.agg (y26 x).toArray) Value.pointer (y1F z3P),y1D z1v z3P]) ?_ ?_
   ·skip
    refine WC.b ?_
    refine WC.yI (fun i=>[].contains i) [] rfl ?_
    refine WD.a (i:=0) (d:=21) (by kernel_rfl) rfl z2 z3 rfl rfl rfl (fun _=>ya y1E rfl rfl) ?_
    refine WD.e (i:=1) (d:=22) (by kernel_rfl) rfl z2 z3 rfl rfl rfl (yb yd rfl (yc .h1 rfl)) ?_
    refine WD.a (i:=2) (d:=23) (by kernel_rfl) rfl z2 z3 rfl rfl rfl (fun _=>q_m rfl) ?_
    refine WD.a (i:=3) (d:=24) (by kernel_rfl) rfl z2 z3 rfl rfl rfl (fun _=>yy rfl) ?_
    refine WD.a (i:=4) (d:=25) (by kernel_rfl) rfl z2 z3 rfl rfl rfl (fun _=>ya y6D rfl rfl) ?_
    refine WD.a (i:=5) (d:=26) (by kernel_rfl) rfl z2 z3 rfl rfl rfl (fun _=>ya y1Y rfl rfl) ?_
    refine WD.e (i:=6) (d:=27) (by kernel_rfl) rfl z2 z3 rfl rfl rfl (yb y1Z rfl (yD hz.pv zbU rfl)) ?_
    refine WD.a (i:=7) (d:=28) (by kernel_rfl) rfl z2 z3 rfl rfl rfl (fun _=>yz Try.underlying22 rfl) ?_
    refine WD.a (i:=8) (d:=29) (by kernel_rfl) rfl z2 z3 rfl rfl rfl (fun _=>y3Z rfl rfl rfl) ?_
    refine WD.a (i:=9) (d:=8) (by kernel_rfl) rfl z2 z3 rfl rfl rfl (fun _=>q_z rfl) ?_
    refine WD.done (by kernel_rfl) ?_
    refine WX.a (WC.b (WC.a (WL.pu rfl (WL.pu rfl (WL.nil (WX.a ?_))))))
    refine WC.cond rfl (fun zmW=>?_) (fun zmW=>?_)
    ·replace h:=ym h zmW
     obtain ⟨zsY,h⟩:=ye h
     refine WC.yI (fun i=>[].contains i) [] rfl ?_
     refine WD.a (i:=0) (d:=32) (by kernel_rfl) rfl z2 z3 rfl rfl rfl (fun _=>q_m rfl) ?_
     refine WD.a (i:=1) (d:=33) (by kernel_rfl) rfl z2 z3 rfl rfl rfl (fun _=>yy rfl) ?_
     refine WD.a (i:=2) (d:=34) (by kernel_rfl) rfl z2 z3 rfl rfl rfl (fun _=>ya y6D rfl rfl) ?_
     refine WD.a (i:=3) (d:=35) (by kernel_rfl) rfl z2 z3 rfl rfl rfl (fun _=>ya y3y rfl rfl) ?_
     refine WD.e (i:=4) (d:=36) (by kernel_rfl) rfl z2 z3 rfl rfl rfl (yb y3z rfl (yD hz.pv zbU rfl)) ?_
     refine WD.a (i:=5) (d:=37) (by kernel_rfl) rfl z2 z3 rfl rfl rfl (fun _=>q_m rfl) ?_
     refine WD.znth (j:=6) (dd:=38) (by kernel_rfl) rfl z2 z3 rfl rfl (Z:=Z) (Pr:=(fun r x=>r = e64 x)) y5h rfl rfl zsX zsY ?_
     rintro zJg zJh zzn zJi rfl
     refine WD.a (i:=7) (d:=39) (by kernel_rfl) rfl z2 z3 rfl rfl rfl (fun _=>ya y5L rfl rfl) ?_
     refine WD.e (i:=8) (d:=40) (by kernel_rfl) rfl z2 z3 rfl rfl rfl (yb yd rfl (yD hz.pv zzn rfl)) ?_
     refine WD.a (i:=9) (d:=41) (by kernel_rfl) rfl z2 z3 rfl rfl rfl (fun _=>q_m rfl) ?_
     refine WD.a (i:=10) (d:=42) (by kernel_rfl) rfl z2 z3 rfl rfl rfl (fun _=>yy rfl) ?_
     refine WD.a (i:=11) (d:=43) (by kernel_rfl) rfl z2 z3 rfl rfl rfl (fun _=>ya y6D rfl rfl) ?_
     refine WD.a (i:=12) (d:=44) (by kernel_rfl) rfl z2 z3 rfl rfl rfl (fun _=>ya y3y rfl rfl) ?_
     refine WD.e (i:=13) (d:=45) (by kernel_rfl) rfl z2 z3 rfl rfl rfl (yb y3z rfl (yD hz.pv zbU rfl)) ?_
     refine WD.a (i:=14) (d:=46) (by kernel_rfl) rfl z2 z3 rfl rfl rfl (fun _=>q_m rfl) ?_
     refine WD.znth (j:=15) (dd:=47) (by kernel_rfl) rfl z2 z3 rfl rfl (Z:=Z) (Pr:=(fun r x=>r = e64 x)) y5h rfl rfl zsX zsY ?_
     rintro zJj zJk zzo zJl rfl
     refine WD.a (i:=16) (d:=48) (by kernel_rfl) rfl z2 z3 rfl rfl rfl (fun _=>ya y5M rfl rfl) ?_
     refine WD.e (i:=17) (d:=49) (by kernel_rfl) rfl z2 z3 rfl rfl rfl (yb yd rfl (yD hz.pv zzo rfl)) ?_
     refine WD.a (i:=18) (d:=6) (by kernel_rfl) rfl z2 z3 rfl rfl rfl (fun _=>q_z rfl) ?_
     refine WD.a (i:=19) (d:=7) (by kernel_rfl) rfl z2 z3 rfl rfl rfl (fun _=>q_z rfl) ?_
     refine WD.done (by kernel_rfl) ?_
     exact WX.mid (G:=Int × Int) ⟨((nth z1O.fSwitches (i64 (zX.fNode - ((z1O.fModules.length : Nat) : Int)))).fDelay),((nth z1O.fSwitches (i64 (zX.fNode - ((z1O.fModules.length : Nat) : Int)))).fStore)⟩ h (.cons rfl (.cons rfl (.cons rfl (.cons rfl (.cons rfl .nil))))) (.cons .h1 (.cons .here (.cons .here (.cons .here .nil))))
    ·replace h:=yn h zmW
     refine WC.skip ?_
     exact WX.mid (G:=Int × Int) ⟨0,1073741824⟩ h (.cons rfl (.cons rfl (.cons rfl (.cons rfl (.cons rfl .nil))))) (.cons .h1 (.cons .here (.cons .here (.cons .here .nil))))
   ·rintro zaj zak h
    replace h:=(zzm zaj zak).symm.trans h
    obtain ⟨zzp,h⟩:=ye h
    obtain ⟨zbT,zzq,h⟩:=zg h
    refine WC.yI (fun i=>[21].contains i) [] rfl ?_
    refine WD.a (i:=0) (d:=51) (by kernel_rfl) rfl z2 z3 rfl rfl rfl (fun _=>q_m rfl) ?_
    refine WD.a (i:=1) (d:=52) (by kernel_rfl) rfl z2 z3 rfl rfl rfl (fun _=>yy rfl) ?_
    refine WD.a (i:=2) (d:=53) (by kernel_rfl) rfl z2 z3 rfl rfl rfl (fun _=>ya y8O rfl rfl) ?_
    refine WD.e (i:=3) (d:=54) (by kernel_rfl) rfl z2 z3 rfl rfl rfl (yb y8P rfl (yD hz.pv zbU rfl)) ?_
    refine WD.e (i:=4) (d:=55) (by kernel_rfl) rfl z2 z3 rfl rfl rfl (yx zlx rfl (yQ .h1) rfl) ?_
    refine WD.a (i:=5) (d:=56) (by kernel_rfl) rfl z2 z3 rfl rfl rfl (fun _=>q_m rfl) ?_
    refine WD.a (i:=6) (d:=57) (by kernel_rfl) rfl z2 z3 rfl rfl rfl (fun _=>yy rfl) ?_
    refine WD.a (i:=7) (d:=58) (by kernel_rfl) rfl z2 z3 rfl rfl rfl (fun _=>ya y6D rfl rfl) ?_
    refine WD.a (i:=8) (d:=59) (by kernel_rfl) rfl z2 z3 rfl rfl rfl (fun _=>ya y49 rfl rfl) ?_
    refine WD.e (i:=9) (d:=60) (by kernel_rfl) rfl z2 z3 rfl rfl rfl (yb y4a rfl (yD hz.pv zbU rfl)) ?_
    refine WD.a (i:=10) (d:=61) (by kernel_rfl) rfl z2 z3 rfl rfl rfl (fun _=>ya y4W rfl rfl) ?_
    refine WD.e (i:=11) (d:=62) (by kernel_rfl) rfl z2 z3 rfl rfl rfl (yb yd rfl (yc .here rfl)) ?_
    refine WD.znth (j:=12) (dd:=63) (by kernel_rfl) rfl z2 z3 rfl rfl (Z:=Z) (Pr:=(fun r x=>r = e62 x)) y5g rfl rfl zzk zzp ?_
    rintro zJm zJn zzr zJo rfl
    refine WD.a (i:=13) (d:=64) (by kernel_rfl) rfl z2 z3 rfl rfl rfl (fun _=>ya y5K rfl rfl) ?_
    refine WD.e (i:=14) (d:=65) (by kernel_rfl) rfl z2 z3 rfl rfl rfl (yb yd rfl (yD hz.pv zzr rfl)) ?_
    refine WD.a (i:=15) (d:=66) (by kernel_rfl) rfl z2 z3 rfl rfl rfl (fun _=>q_m rfl) ?_
    refine WD.a (i:=16) (d:=67) (by kernel_rfl) rfl z2 z3 rfl rfl rfl (fun _=>q_m rfl) ?_
    refine WD.call3 (i:=17) (dd:=68) rfl (by kernel_rfl) rfl rfl rfl (.inr rfl) (zC (l:=[.tmp 65,.tmp 66,.tmp 67]) Try.call52 (.cons rfl (.cons rfl (.cons rfl .nil)))) .nil (cc hz .nil fun w pz ho=>yaV _ _ _ _ _ zzq w pz ) ?_
    rintro zhr zjW zjX _
    refine WD.a (i:=18) (d:=50) (by kernel_rfl) rfl z2 z3 rfl rfl rfl (fun _=>q_m rfl) ?_
    refine WD.a (i:=19) (d:=69) (by kernel_rfl) rfl z2 z3 rfl rfl rfl (fun _=>y3c rfl rfl) ?_
    refine WD.a (i:=20) (d:=70) (by kernel_rfl) rfl z2 z3 rfl rfl rfl (fun _=>y3c rfl rfl) ?_
    refine WD.forced0 (i:=21) rfl (by kernel_rfl) rfl rfl rfl (Sin.of .nil) (y6l (k:=(⟨zX.fNode,zX.fLink⟩ : Snetwork_exit)) (v:=(some ⟨zhr,0,none⟩ : Option Addr)) zly Try.underlying77 rfl rfl rfl rfl .h4) ?_
    refine WD.ghL (fun _ h=>Hp.yaT (els:=z1v) (k:=(⟨zX.fNode,zX.fLink⟩ : Snetwork_exit)) (b:=zhr) (g:=(zjW,zjX)) (x:=zbT) .h5 (.cons .h1 (.cons .h1 .nil)) h) ?_
    refine WD.ghL (M:=[y1s z86 (fun x=>Value.agg (y26 x).toArray) Value.pointer (y1F (y1b z3P (⟨zX.fNode,zX.fLink⟩ : Snetwork_exit) ((zhr,(zjW,zjX)),zbT))),y1D z1v (y1b z3P (⟨zX.fNode,zX.fLink⟩ : Snetwork_exit) ((zhr,(zjW,zjX)),zbT)),stb zmU 59 [(.int .i64 zX.fNode),(.int .i64 zX.fNext),(.int .i64 zX.fLink)],stb zhq 136 [(.int .i64 zX.fNode),(.int .i64 zX.fLink)]]) (fun _ h=>Hp.y9G .h1 (y9b _ _ _ _ _).symm h) ?_
    refine WD.done (by kernel_rfl) ?_
    exact WX.mid (G:=(List (Snetwork_exit × Sport_Port)) × (List (Snetwork_exit × ((Nat × (Option Addr × Nat)) × Sport_Port)))) ⟨(y1b zah (⟨zX.fNode,zX.fLink⟩ : Snetwork_exit) zbT),(y1b z3P (⟨zX.fNode,zX.fLink⟩ : Snetwork_exit) ((zhr,(zjW,zjX)),zbT))⟩ ⟨h,(y73 zmT _ _ _)⟩ (.cons rfl (.cons rfl .nil)) (.cons .h3 (.cons .here (.cons .here .nil)))
  ·replace h:=yn h zmV
   refine WC.skip ?_
   exact WX.mid (G:=(List (Snetwork_exit × Sport_Port)) × (List (Snetwork_exit × ((Nat × (Option Addr × Nat)) × Sport_Port)))) ⟨zah,z3P⟩ ⟨h,zmT⟩ (.cons rfl (.cons rfl .nil)) (.cons .here (.cons .h1 (.cons .h1 .nil)))
 ·rintro zai zbV ⟨h,zzs⟩
  replace h:=(zzl zai).symm.trans h
  refine WC.b ?_
  refine WC.yI (fun i=>[].contains i) [] rfl ?_
  refine WD.a (i:=0) (d:=71) (by kernel_rfl) rfl z2 z3 rfl rfl rfl (fun _=>q_m rfl) ?_
  refine WD.a (i:=1) (d:=72) (by kernel_rfl) rfl z2 z3 rfl rfl rfl (fun _=>yy rfl) ?_
  refine WD.a (i:=2) (d:=73) (by kernel_rfl) rfl z2 z3 rfl rfl rfl (fun _=>ya y8O rfl rfl) ?_
  refine WD.e (i:=3) (d:=74) (by kernel_rfl) rfl z2 z3 rfl rfl rfl (yb y8P rfl (yD hz.pv zbU rfl)) ?_
  refine WD.e (i:=4) (d:=75) (by kernel_rfl) rfl z2 z3 rfl rfl rfl (yx zlx rfl (yQ .here) rfl) ?_
  refine WD.e (i:=5) (d:=76) (by kernel_rfl) rfl z2 z3 rfl rfl rfl (y5o (k:=(⟨zX.fNode,zX.fLink⟩ : Snetwork_exit)) (dflt:=(none : Option Addr)) zly Try.underlying77 zqD rfl rfl rfl .h1) ?_
  refine WD.a (i:=6) (d:=4) (by kernel_rfl) rfl z2 z3 rfl rfl rfl (fun _=>q_z rfl) ?_
  refine WD.done (by kernel_rfl) ?_
  refine WX.a (WC.ret ?_)
  obtain rfl:=Option.some.inj h
  refine WX.yi Try.results40 (.tmp rfl .nil) (fun w hw=>?_)
  exact ⟨zbV,yM rfl,zzs,hw.sub (.cons .h1 (.cons .h1 .nil))⟩
def y35 (z87 : Sport_Port) : Option Bool :=
 some (decide (z87.fNumbers.fSlow = 0))
set_option maxRecDepth 20000 in
theorem y65 (Z : Zp) (zjY : Addr) (zsZ : Option Addr) (zt0 : Nat) (z87 : Sport_Port) (r : Bool)
  (h : y35 z87 = some r) (w₀ : World) (hz : PZ [] w₀ Z)
  (zJp : ZS Z 2 (fun r x=>r = y2d x) zsZ zt0 z87.fFrames)
  (zzt : ZC Z zjY [(.int .i64 z87.fNumbers.fSlow),(.int .i64 z87.fNumbers.fDelay),(.int .i64 z87.fNumbers.fStore),(.int .i64 z87.fNow),(.int .i64 z87.fLast),(.slice zsZ z87.fFrames.length zt0)]) :
  Calls Try.prog 53 #[(.pointer (some zjY))] w₀ fun e w'=>e = .returned (.bool r) ∧ Hp [] w₀ w' []:=by
 unfold y35 at h
 refine Calls.yp (vs:=[(.pointer (some zjY))]) (pre:=[]) (env:=[(0,(.pointer (some zjY)))]) Try.func53 rfl Try.ntmps53 rfl (Hp.nil w₀ _) rfl ?_
 refine WC.b (WC.a (WL.pu rfl (WL.nil (WX.a (WC.b (WC.a (WL.pu rfl ?_)))))))
 refine WL.a (d:=4) rfl rfl rfl (y9x Try.underlying116 rfl rfl) ?_
 refine WL.pu rfl (WL.pu rfl ?_)
 refine WL.a (d:=7) rfl rfl rfl (yy rfl) ?_
 refine WL.a (d:=8) rfl rfl rfl (ya y76 rfl rfl) ?_
 refine WL.a (d:=9) rfl rfl rfl (ya y9Q rfl rfl) ?_
 refine WL.a (d:=10) rfl rfl rfl (yb yd rfl (yD hz.pv zzt rfl)) ?_
 refine WL.pu rfl (WL.pu rfl (WL.pu rfl (WL.nil (WX.a (WC.ret ?_)))))
 obtain rfl:=Option.some.inj h
 refine WX.yi Try.results53 (.tmp rfl .nil) (fun w hw=>?_)
 exact ⟨yM rfl,hw.sub .nil⟩
def y2Z (z6t : Sport_frame) (zjZ : Int) : Option Bool :=
 some (decide (z6t.fFin ≤ zjZ))
set_option maxRecDepth 20000 in
theorem y7U (Z : Zp) (zk0 : Addr) (z6t : Sport_frame) (zjZ : Int) (r : Bool)
  (h : y2Z z6t zjZ = some r) (w₀ : World) (hz : PZ [] w₀ Z)
  (zzu : ZC Z zk0 [(.int .i64 zjZ)]) :
  Calls Try.prog 55 #[(.agg #[(.int .i64 z6t.fSize),(.int .i64 z6t.fFin)]),(.pointer (some zk0))] w₀ fun e w'=>e = .returned (.bool r) ∧ Hp [] w₀ w' []:=by
 unfold y2Z at h
 refine Calls.yp (vs:=[(.agg #[(.int .i64 z6t.fSize),(.int .i64 z6t.fFin)]),(.pointer (some zk0))]) (pre:=[]) (env:=[(0,(.agg #[(.int .i64 z6t.fSize),(.int .i64 z6t.fFin)])),(1,(.pointer (some zk0)))]) Try.func55 rfl Try.ntmps55 rfl (Hp.nil w₀ _) rfl ?_
 refine WC.b (WC.a ?_)
 refine WL.new (dd:=2) rfl rfl rfl (y1N (cs:=[(.int .i64 z6t.fSize),(.int .i64 z6t.fFin)]) rfl rfl) ?_
 intro zJq _
 refine WL.pu rfl (WL.nil (WX.a (WC.b (WC.a ?_))))
 refine WL.a (d:=4) rfl rfl rfl (ya y9R rfl rfl) ?_
 refine WL.a (d:=5) rfl rfl rfl (yb yd rfl (yc .here rfl)) ?_
 refine WL.a (d:=6) rfl rfl rfl (yb yd rfl (y4R hz.pv zzu rfl)) ?_
 refine WL.pu rfl (WL.pu rfl (WL.nil (WX.a (WC.ret ?_))))
 obtain rfl:=Option.some.inj h
 refine WX.yi Try.results55 (.tmp rfl .nil) (fun w hw=>?_)
 exact ⟨yM rfl,hw.sub .nil⟩
def yG (z34 : List Sport_frame) (z6u : Sport_frame → Option Bool) (z99 : Option Int) : Nat → Int → Option Int
 | 0,_=>none
 | zmX + 1,z3p=>if decide (z3p < ((z34.length : Nat) : Int)) then chk ((0 : Int) ≤ z3p ∧ z3p < ((z34.length : Nat) : Int)) ((z6u (⟨((nth z34 z3p).fSize),((nth z34 z3p).fFin)⟩ : Sport_frame)).bind fun zmY=>if zmY then some z3p else yG z34 z6u z99 zmX (i64 (z3p + 1))) else z99
theorem y3L {n : Nat} {z34 : List Sport_frame} {z6u : Sport_frame → Option Bool} {z99 : Option Int} {z3p : Int} {r : Int} (h : yG z34 z6u z99 n z3p = some r) : ∃ m,n = m + 1:=by
 cases n with
 | zero=>cases h
 | succ m=>exact ⟨m,rfl⟩
def y15 (z34 : List Sport_frame) (z6u : Sport_frame → Option Bool) : Option Int :=
 jp0 (some (-1)) fun z99=>yG z34 z6u z99 yw 0
set_option maxRecDepth 20000 in
theorem y4u (Z : Zp) (zhs : Option Addr) (zht : Nat) (z9a : FuncId) (zbW : List Value) (z34 : List Sport_frame) (z6u : Sport_frame → Option Bool) (r : Int)
  (h : y15 z34 z6u = some r) (w₀ : World) (hz : PZ [] w₀ Z)
  (zzv : ZS Z 2 (fun r x=>r = y2d x) zhs zht z34)
  (zzw : ∀ args w,(callFunc z9a args).run Try.prog w = .ok (.enter z9a args) w)
  (zzx : ∀ w : World,PZ [] w Z → ∀ (x0 : Sport_frame) (r : Bool),z6u x0 = some r → Calls Try.prog z9a (([(.agg #[(.int .i64 x0.fSize),(.int .i64 x0.fFin)])] : List Value) ++ zbW).toArray w fun e w'=>e = .returned (.bool r) ∧ Hp [] w w' []) :
  Calls Try.prog 63 #[(.slice zhs z34.length zht),(.func (.func z9a) #[] (zbW).toArray)] w₀ fun e w'=>e = .returned (.int .i64 r) ∧ Hp [] w₀ w' []:=by
 unfold y15 at h
 refine Calls.yp (vs:=[(.slice zhs z34.length zht),(.func (.func z9a) #[] (zbW).toArray)]) (pre:=[]) (env:=[(0,(.slice zhs z34.length zht)),(1,(.func (.func z9a) #[] (zbW).toArray))]) Try.func63 rfl Try.ntmps63 rfl (Hp.nil w₀ _) rfl ?_
 refine WC.b (WC.a (WL.pu rfl (WL.nil (WX.a ?_))))
 obtain ⟨z99,zzy,h⟩:=y2r h
 refine WC.y24 ((z99 = some r)) ([]) ([]) ?_ ?_
 ·skip
  refine WC.b (WC.a (WL.pu rfl ?_))
  refine WL.a (d:=7) rfl rfl rfl (yz Try.underlying141 rfl) ?_
  refine WL.pu rfl (WL.nil (WX.a (WC.block ?_)))
  refine WC.y33 (fun (zdw : Nat) (z3p : Int)=>(yG z34 z6u z99 zdw z3p = some r)) (fun (zdw : Nat) (z3p : Int)=>[(0,(.slice zhs z34.length zht)),(1,(.func (.func z9a) #[] (zbW).toArray)),(7,(.int .i64 ((z34.length : Nat) : Int))),(8,(.int .i64 z3p))]) (fun (zdw : Nat) (z3p : Int)=>[]) (fun (zdw : Nat) (z3p : Int)=>zdw) ⟨yw,0⟩ h (.cons rfl (.cons rfl (.cons rfl (.cons rfl .nil)))) .nil ?_
  rintro zdw z3p h
  obtain ⟨zmX,rfl⟩:=y3L h
  rw [yG] at h
  refine WC.b (WC.a (WL.pu rfl (WL.nil (WX.a (WC.b ?_)))))
  refine WC.cond rfl (fun zmZ=>?_) (fun zmZ=>?_)
  ·replace h:=ym h zmZ
   refine WC.skip (WX.a (WC.b (WC.block (WC.b (WC.a (WL.pu rfl (WL.pu rfl (WL.nil (WX.a (WC.b ?_))))))))))
   obtain ⟨zzz,h⟩:=ye h
   obtain ⟨zmY,zzA,h⟩:=zg h
   refine WC.a (WL.pu rfl (WL.pu rfl (WL.pu rfl ?_)))
   refine WL.znth (dd:=14) rfl rfl (Z:=Z) (Pr:=(fun r x=>r = y2d x)) z8C rfl rfl zzv zzz ?_
   rintro zJr zJs zzB zJt rfl
   refine WL.a (d:=15) rfl rfl rfl (yx zcI rfl (y4t hz.pv zzB) rfl) ?_
   refine WL.b (dd:=16) rfl rfl rfl (y4q (l:=[.tmp 15]) (f:=z9a) (caps:=zbW) zzw rfl (.cons rfl .nil)) .nil (fun w hw=>zzx w (hz.now hw) (⟨((nth z34 z3p).fSize),((nth z34 z3p).fFin)⟩ : Sport_frame) zmY  zzA) ?_
   refine WL.nil (WX.a ?_)
   refine WC.cond rfl (fun zn0=>?_) (fun zn0=>?_)
   ·replace h:=ym h zn0
    refine WC.b (WC.a (WL.pu rfl (WL.pu rfl (WL.nil (WX.a (WC.ret (WX.yH (WX.yj (WX.yj (WX.yH (WX.yj ?_)))))))))))
    obtain rfl:=Option.some.inj h
    refine WX.yi Try.results63 (.tmp rfl .nil) (fun w hw=>?_)
    exact ⟨yM rfl,hw.sub .nil⟩
   ·replace h:=yn h zn0
    refine WC.skip (WX.yk (WX.a (WC.a (WL.pu rfl (WL.pu rfl (WL.nil ?_))))))
    exact WX.round (G:=Nat × Int) ⟨zmX,(i64 (z3p + 1))⟩ h (Nat.lt_succ_self _) (.cons rfl (.cons rfl (.cons rfl (.cons rfl .nil)))) .nil
  ·replace h:=yn h zmZ
   refine WC.exit (WX.yg (WX.yg (WX.yv ?_)))
   exact WX.mid (G:=Unit) () h .nil .nil
 ·rintro  h
  replace h:=zzy.symm.trans h
  refine WC.b (WC.a (WL.pu rfl (WL.nil (WX.a (WC.ret ?_)))))
  obtain rfl:=Option.some.inj h
  refine WX.yi Try.results63 (.tmp rfl .nil) (fun w hw=>?_)
  exact ⟨yM rfl,hw.sub .nil⟩
end Go.Proofs.Ytinchjigeakocaa
